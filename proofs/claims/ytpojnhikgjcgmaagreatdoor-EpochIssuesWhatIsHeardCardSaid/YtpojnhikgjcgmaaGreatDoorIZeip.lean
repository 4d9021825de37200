/- weirgatelaw31.EpochIssuesWhatIsHeard, the lifted law: it returns true for every secret, list of sets and byte, and leaves its arguments as they were; the listed tables hold what the program's text lays (the card ties them). No other condition. -/
import Derived.WalkKit
import Derived.WalkSpells
import Derived.WalkLawsBesides
import Derived.Deep.QuietTactic
import Derived.BigQuiet
import Derived.Test.YtpojnhikgjcgmaaGreatDoorIYi
import Derived.Test.YtpojnhikgjcgmaaGreatDoorIYw
import Derived.Test.YtpojnhikgjcgmaaGreatDoorIDf
import Derived.Test.YtpojnhikgjcgmaaGreatDoorTie
import Derived.Test.YtpojnhikgjcgmaaGreatDoorCards
import Derived.ProofKit
import Derived.Lay
import Derived.ChangeMaps5
import Derived.SevenTiedAt
import Derived.Stop.Joined
set_option maxRecDepth 100000
set_option maxHeartbeats 64000000
set_option linter.unusedVariables false
set_option linter.unusedSimpArgs false
namespace Go.Proofs.YtpojnhikgjcgmaaGreatDoor
open Go.RowKit Go.Shelf Go.Maps
open Go.Proofs
theorem heard_e {s : ByteArray} {l : List Ep} {x : Ep} {A : Option Addr} {c : Nat} {A2 : Option Addr} {c2 : Nat} (h : issueE (oneKey s) l x = 0) : (appendE [oneKey s] l (issueX (oneKey s) l (memE x A c A2 c2)) = if (issueX (oneKey s) l (memE x A c A2 c2)).hi < 1099511627776 then 0 else 9) ∧ (issueX (oneKey s) l (memE x A c A2 c2)).num = (l.length : Int) + 1 := by
 have h2 : issueE (oneKey s) l (memE x A c A2 c2) = 0 := h
 exact ⟨issue_append h2, rfl⟩
theorem app_L {ring : List Ky} {l : List Ep} {x : Ep} (h : appendE ring l x = 0) : appL ring l x = l ++ [x] := by unfold appL; rw [if_pos h]
theorem issues_ok (s : ByteArray) (A : Option Addr) (c : Nat) (l : List Ep) (n : Int) (w : World) (hs63 : s.size < 9223372036854775808) (hl : l.length ≤ 9223372036854775807) (hc : EpsIn w A l) (hn0 : 0 ≤ n) (hn1 : n < 256) (hk : KonstP w) :
  Calls Tryz.prog 8 #[.string s, .slice A l.length c, .int .u8 n] w fun r w' => r = .returned (.bool true) ∧ Ext w w' := by
 have HS := lh (fun (W : World) (hx : Ext w W) => esanity_any W (RowAt.ext hk hx))
 have HF := lh (fun (W : World) (hx : Ext w W) => rfew31_any A c l 8 W hl (hc.on hx))
 have hfk := ky_fits (oneKey s)
 by_cases hs : s.size < 1
 ·have d1 : decide ((s.size : Int) < 1) = true := decide_eq_true (by omega)
  clear hc hk HF
  go_enter Tryz.func8, Tryz.ntmps8
  go_wp2_with (go_at_call 12; refine (HS.out _ (by (with_reducible repeat first|exact eR _|apply eD|apply eN|apply eA|apply eO|apply eS|apply eC);all_goals first|omega|simp <;> omega)).mono ?_; rintro e w' ⟨rfl, hxl⟩; obtain ⟨xl, rfl⟩ := hxl.asLater; clear hxl)
  go_ret
  exact ⟨rfl, (by (with_reducible repeat first|exact eR _|apply eD|apply eN|apply eA|apply eO|apply eS|apply eC);all_goals first|omega|simp <;> omega)⟩
 by_cases hs2 : 64 < s.size
 ·have d1 : decide ((s.size : Int) < 1) = false := decide_eq_false (by omega)
  have d2 : decide ((64 : Int) < (s.size : Int)) = true := decide_eq_true (by omega)
  clear hc hk HF
  go_enter Tryz.func8, Tryz.ntmps8
  go_wp2_with (go_at_call 12; refine (HS.out _ (by (with_reducible repeat first|exact eR _|apply eD|apply eN|apply eA|apply eO|apply eS|apply eC);all_goals first|omega|simp <;> omega)).mono ?_; rintro e w' ⟨rfl, hxl⟩; obtain ⟨xl, rfl⟩ := hxl.asLater; clear hxl)
  go_ret
  exact ⟨rfl, (by (with_reducible repeat first|exact eR _|apply eD|apply eN|apply eA|apply eO|apply eS|apply eC);all_goals first|omega|simp <;> omega)⟩
 have d1 : decide ((s.size : Int) < 1) = false := decide_eq_false (by omega)
 have d2 : decide ((64 : Int) < (s.size : Int)) = false := decide_eq_false (by omega)
 cases hF : fewEp l 8 with
 | false =>
  rw [hF] at HF
  clear hc hk hF hs hs2
  go_enter Tryz.func8, Tryz.ntmps8
  go_wp2_with (first | (go_at_call 23; refine (HF.out _ (by (with_reducible repeat first|exact eR _|apply eD|apply eN|apply eA|apply eO|apply eS|apply eC);all_goals first|omega|simp <;> omega)).mono ?_; rintro e w' ⟨rfl, hxl⟩; obtain ⟨xl, rfl⟩ := hxl.asLater; clear hxl) | (go_at_call 12; refine (HS.out _ (by (with_reducible repeat first|exact eR _|apply eD|apply eN|apply eA|apply eO|apply eS|apply eC);all_goals first|omega|simp <;> omega)).mono ?_; rintro e w' ⟨rfl, hxl⟩; obtain ⟨xl, rfl⟩ := hxl.asLater; clear hxl))
  go_ret
  exact ⟨rfl, (by (with_reducible repeat first|exact eR _|apply eD|apply eN|apply eA|apply eO|apply eS|apply eC);all_goals first|omega|simp <;> omega)⟩
 | true =>
 rw [hF] at HF
 obtain ⟨hl8, hsh⟩ := fewEp_is hF
 have HC := lh (hc.ch hsh)
 have HRg := lh (ring_one (s := s) (by omega) (by omega))
 have HIs := lh (fun (Ao : Option Addr) (co : Nat) (L : List Ep) (z : Ep) (W : World) (h100 : L.length ≤ 100) (ho : ChAt W Ao L) (h1 : EpOk z ∧ EpShort z ∧ EpAt w z) (hx : Ext w W) => issue_any (oneKey s) Ao co L z W (show s.size ≤ 64 by omega) (show i64 (1 : Int) by unfold i64; decide) h100 ho h1.1 h1.2.1 (h1.2.2.on hx) (RowAt.ext hk hx))
 have HK : Hid (KonstP w) := lh hk
 clear hc hk hF hs hs2 hsh
 go_enter Tryz.func8, Tryz.ntmps8
 go_upto_region 4 with (go_at_call 23; refine (HF.out _ (by (with_reducible repeat first|exact eR _|apply eD|apply eN|apply eA|apply eO|apply eS|apply eC);all_goals first|omega|simp <;> omega)).mono ?_; rintro e w' ⟨rfl, hxl⟩; obtain ⟨xl, rfl⟩ := hxl.asLater; clear hxl)
 obtain ⟨B, hB⟩ : ∃ B, w.heap.size + xl.n = B := ⟨_, rfl⟩
 refine wp_world (fun W => Ext w W ∧ RowAt W B (kyC (oneKey s))) ⟨(by (with_reducible repeat first|exact eR _|apply eD|apply eN|apply eA|apply eO|apply eS|apply eC);all_goals first|omega|simp <;> omega), ?_⟩ ?_
 ·have z : RowAt ((later w xl).alloc (.cells (kyC noKy) 44)) B (kyC noKy) := RowAt.newAt (by rw [later_size, hB])
  rw [hB]
  exact RowAt.store z (show (kyC (oneKey s)).size = (kyC noKy).size from rfl)
 rw [hB]
 rintro W1 ⟨x1, u0⟩
 have HX1 := lh x1
 have HU0 := lh u0
 have hl1 := u0.lt
 clear x1 u0 HF hB
 go_wp2
 go_loopw [6, 8, 10, 11, 12, 13, 14, 37] (fun _ o _ _ _ _ _ i wr => ∃ (k : Nat) (Ao : Option Addr) (co : Nat) (out : List Ep), k ≤ l.length ∧ o = .slice Ao out.length co ∧ i = .int .i64 k ∧ Hid (ChainOk [oneKey s] out) ∧ Hid (out.length ≤ k) ∧ Hid (OwnsEp W1.heap.size wr Ao co out) ∧ Hid (ChAt wr Ao out) ∧ Hid (Ext W1 wr)) (fun _ _ _ _ _ _ _ i _ => l.length - (intOf i).toNat)
 case atStart => exact ⟨0, none, 0, [], Nat.zero_le _, rfl, rfl, lh (chain_nil _), lh (Nat.zero_le _), lh (Owns.nil _ _ _ _ _), lh ⟨Reads.nil _ _ _ _ _, fun e he => (by cases he)⟩, lh (eR _)⟩
 case round =>
  obtain ⟨k, Ao, co, out, hk8, rfl, rfl, HCk, HLn, HO, HCh, HX⟩ := hrel
  generalize hwA : wr = wA at *
  clear hwA
  have hsz := HX.out.size
  have HXa := lh (HX1.out.trans HX.out)
  have hol := HLn.out
  by_cases hlt : k < l.length
  ·obtain ⟨b, off, rfl, hb, kr⟩ := epr_at (HC.out.rd.on HXa.out) k hlt
   have HOk := lh (HC.out.ok _ (List.getElem_mem hlt))
   generalize l[k] = z at *
   have hfz := ep_fits z
   go_upto_region 8 with (fail)
   refine wp_world (fun W => Ext wA W ∧ RowAt W wA.heap.size (epC z)) ⟨(by (with_reducible repeat first|exact eR _|apply eD|apply eN|apply eA|apply eO|apply eS|apply eC);all_goals first|omega|simp <;> omega), RowAt.store (RowAt.newAt rfl) rfl⟩ ?_
   obtain ⟨g, hg⟩ : ∃ g, wA.heap.size = g := ⟨_, rfl⟩
   rw [hg]
   rintro W2 ⟨x2, uz⟩
   have HX2 := lh (HX.out.trans x2)
   have HXw2 := lh (HXa.out.trans x2)
   have HO2 := lh (HO.out.ext x2)
   have HCh2 := lh (HCh.out.on x2)
   have hlz := uz.lt
   have hs2 := x2.size
   have k0 : rowOf W2 B 0 5 = some (kyC (oneKey s)) := ((HU0.out.ext HX.out).ext x2).all rfl (by omega)
   have kpd : rowOf W2 g 17 2 = some (pdC z.lo z.hi) := by rw [uz.row, if_neg (by omega), ep_pd]
   have q19 : W2.cell? ⟨g, 19, none⟩ = some (.slice z.PA z.pu.length z.pc) := (uz.cell 19).trans (ep_g19 z)
   have q20 : W2.cell? ⟨g, 20, none⟩ = some (.slice z.RA z.rv.length z.rc) := (uz.cell 20).trans (ep_g20 z)
   have HI := lh (HIs.out Ao co out z W2 (by omega) HCh2.out HOk.out HXw2.out)
   unfold IssOut at HI
   clear x2 uz kr hg HX HXa HO HCh
   go_wp2_with (go_at_call 36; refine (show Hid _ from ?_).out)
   refine lh ?_
   refine HI.out.mono ?_
   rintro r w3 ⟨hI, hx3⟩
   have HX3 := lh (HX2.out.trans hx3)
   have HXw3 := lh (HXw2.out.trans hx3)
   have HO3 := lh (HO2.out.ext hx3)
   have HCh3 := lh (HCh2.out.on hx3)
   have hs3 := hx3.size
   rcases hI with ⟨hi0, A', c', A2, c2, rfl, hown, hzo⟩ | ⟨hbad, rfl⟩
   ·have hsx : EpShort (issueX (oneKey s) out (memE z A' c' A2 c2)) := issueX_short (mem_short HOk.out.2.1 _ _ _ _)
    obtain ⟨hap, hnum⟩ := heard_e (A := A') (c := c') (A2 := A2) (c2 := c2) hi0
    generalize issueX (oneKey s) out (memE z A' c' A2 c2) = x at *
    have HZs := lh hsx
    have HZo := lh hzo
    have HZa := lh hown.at
    have HAp := lh hap
    have HNm := lh hnum
    have hfx := ep_fits x
    clear hi0 hsx hzo hown hap hnum hx3 HX2 HXw2 HO2 HCh2 k0 kpd q19 q20 HI HIs
    go_upto_region 9 with (fail)
    refine wp_world (fun W => Ext w3 W ∧ RowAt W w3.heap.size (epC x)) ⟨(by (with_reducible repeat first|exact eR _|apply eD|apply eN|apply eA|apply eO|apply eS|apply eC);all_goals first|omega|simp <;> omega), RowAt.store (RowAt.newAt rfl) rfl⟩ ?_
    obtain ⟨zb, hzb⟩ : ∃ zb, w3.heap.size = zb := ⟨_, rfl⟩
    rw [hzb]
    rintro W4 ⟨x4, ux⟩
    have HX4 := lh (HX3.out.trans x4)
    have HXw4 := lh (HXw3.out.trans x4)
    have HO4 := lh (HO3.out.ext x4)
    have HCh4 := lh (HCh3.out.on x4)
    have HZa4 := lh (HZa.out.on x4)
    have HUx := lh ux
    have hlx := ux.lt
    have hs4 := x4.size
    have kz : rowOf W4 zb 0 38 = some (epC x) := ux.all rfl (by omega)
    have k0 : rowOf W4 B 0 5 = some (kyC (oneKey s)) := (HU0.out.ext HX4.out).all rfl (by omega)
    clear x4 ux HX3 HXw3 HO3 HCh3 HZa hzb
    go_wp2_with (go_at_call 34; refine (show Hid _ from ?_).out)
    refine lh ?_
    refine calls_world (fun W => Ext W4 W ∧ ReadsKy W W.heap.size (some ⟨W4.heap.size, 0, none⟩) [oneKey s]) ⟨(eR _).alloc _, reads_freshB kyE [oneKey s] W4 _ _ (by kernel_rfl) _ rfl⟩ ?_
    obtain ⟨rk, hrk⟩ : ∃ rk, W4.heap.size = rk := ⟨_, rfl⟩
    rw [hrk]
    rintro W5 ⟨x5, hrd⟩
    refine (append_any (some ⟨rk, 0, none⟩) 1 [oneKey s] Ao co out x W5 HRg.out hrd (by omega) (HCh4.out.on x5) (HO4.out.none0) HZo.out HZs.out (HZa4.out.on x5) (RowAt.ext HK.out (HXw4.out.trans x5))).mono ?_
    rintro r w6 ⟨⟨A6, c6, l6, rfl, hl6, ho6⟩, hx6⟩
    have hx46 := x5.trans hx6
    have HX6 := lh (HX4.out.trans hx46)
    have HXw6 := lh (HXw4.out.trans hx46)
    have HCh6 := lh (HCh4.out.on hx46)
    have HO6 := lh (HO4.out.ext hx46)
    have q18 : w6.cell? ⟨zb, 18, none⟩ = some (.int .i64 x.hi) := ((HUx.out.ext hx46).cell 18).trans (ep_g18 x)
    have HL6 := lh hl6
    have HO6' := lh (ho6.lower (show W1.heap.size ≤ W5.heap.size from (HX4.out.trans x5).size))
    have HZa6 := lh (HZa4.out.on hx46)
    have hs46 := hx46.size
    have hzb6 : zb < w6.heap.size := by omega
    clear hrd hx6 hx46 x5 hl6 ho6 HX4 HXw4 HCh4 HO4 HUx HZa4 kz k0
    show Hid _
    refine lh ?_
    by_cases hh : x.hi < 1099511627776
    ·have hap0 : appendE [oneKey s] out x = 0 := by rw [HAp.out, if_pos hh]
     have hL6 : l6 = out ++ [x] := by rw [HL6.out, app_L hap0]
     subst hL6
     rw [hap0]
     have HC6 : Hid (ChAt w6 A6 (out ++ [x])) := lh ⟨HO6'.out.reads epE, fun e he => by
      rw [List.mem_append, List.mem_singleton] at he
      rcases he with he | he
      ·exact HCh6.out.ok e he
      ·rw [he]; exact ⟨HZo.out, HZs.out, HZa6.out⟩⟩
     have HK6 := lh (chain_snoc HCk.out hap0)
     have hlen : (out ++ [x]).length = out.length + 1 := by simp
     obtain ⟨b6, off6, rfl, hb6, kr6⟩ := epr_at HC6.out.rd out.length (by rw [hlen]; omega)
     rw [List.getElem_append_right (Nat.le_refl _)] at kr6
     have q0 : w6.cell? ⟨b6, off6 + out.length * 38, none⟩ = some (.int .i64 ((out.length : Int) + 1)) := by
      have h := (rowOf_cell kr6 (i := 0) (by omega)).trans (ep_g0 _)
      rw [← HNm.out]
      simpa using h
     have hLN' : Hid (out.length + 1 ≤ k + 1) := lh (by omega)
     rw [hlen]
     clear hap0 kr6 HL6 HAp hh q18
     go_wp2
     go_roundw
     case rel => exact ⟨k + 1, some ⟨b6, off6, none⟩, c6, out ++ [x], by omega, by rw [hlen], by go_num, HK6, by rw [hlen]; exact hLN', HO6', HC6, lh (by (with_reducible repeat first|exact HX6.out|exact eR _|apply eD|apply eN|apply eA|apply eO|apply eS|apply eC);all_goals first|omega|simp <;> omega)⟩
     case measure => simp [intOf]; omega
    ·have hap0 : appendE [oneKey s] out x = 9 := by rw [HAp.out, if_neg hh]
     have dh : decide (x.hi < 1099511627776) = false := decide_eq_false hh
     rw [hap0]
     clear hap0 HL6 HAp HO6' HZa6
     go_wp2
     go_roundw
     case rel => exact ⟨k + 1, Ao, co, out, by omega, rfl, by go_num, HCk, lh (by omega), HO6, HCh6, lh (by (with_reducible repeat first|exact HX6.out|exact eR _|apply eD|apply eN|apply eA|apply eO|apply eS|apply eC);all_goals first|omega|simp <;> omega)⟩
     case measure => simp [intOf]; omega
   ·have HNe := lh hbad
    generalize issueE (oneKey s) out z = E at *
    have hfx := ep_fits noEp
    have de : (E != 0) = true := by simpa using HNe.out
    clear hbad HX2 HXw2 HO2 HCh2 k0 kpd q19 q20 HI HIs hx3
    go_wp2
    go_roundw
    case rel => exact ⟨k + 1, Ao, co, out, by omega, rfl, by go_num, HCk, lh (by omega), lh (HO3.out.ext (by (with_reducible repeat first|exact eR _|apply eD|apply eN|apply eA|apply eO|apply eS|apply eC);all_goals first|omega|simp <;> omega)), lh (HCh3.out.on (by (with_reducible repeat first|exact eR _|apply eD|apply eN|apply eA|apply eO|apply eS|apply eC);all_goals first|omega|simp <;> omega)), lh (by (with_reducible repeat first|exact HX3.out|exact eR _|apply eD|apply eN|apply eA|apply eO|apply eS|apply eC);all_goals first|omega|simp <;> omega)⟩
    case measure => simp [intOf]; omega
  ·have k0 : rowOf wA B 0 5 = some (kyC (oneKey s)) := (HU0.out.ext HX.out).all rfl (by omega)
   have hcap : out.length ≤ co := ownsEp_cap HO.out
   have hB2 : B < wA.heap.size := by omega
   clear HC HIs
   go_wp2_with (go_at_call 32; refine (show Hid _ from ?_).out)
   refine lh ?_
   refine calls_world (fun W => Ext wA W ∧ ReadsKy W W.heap.size (some ⟨wA.heap.size, 0, none⟩) [oneKey s]) ⟨(eR _).alloc _, reads_freshB kyE [oneKey s] wA _ _ (by kernel_rfl) _ rfl⟩ ?_
   obtain ⟨rk, hrk⟩ : ∃ rk, wA.heap.size = rk := ⟨_, rfl⟩
   rw [hrk]
   rintro W5 ⟨x5, hrd⟩
   have hck := echeck_any (some ⟨rk, 0, none⟩) 1 [oneKey s] Ao co out W5 HRg.out hrd (by omega) hcap (HCh.out.on x5) (RowAt.ext HK.out (HXa.out.trans x5))
   rw [chain_check HCk.out] at hck
   refine hck.mono ?_
   rintro r w6 ⟨rfl, hx6⟩
   have HX6 := lh (HXa.out.trans (x5.trans hx6))
   have HCh6 := lh (HCh.out.on (x5.trans hx6))
   have HZ6 : Hid (Ao = none → co = 0) := lh HO.out.none0
   obtain ⟨i, hni⟩ : ∃ i : Nat, n % ((out.length : Int) + 1) = i := ⟨(n % ((out.length : Int) + 1)).toNat, by have := Int.emod_nonneg n (show (out.length : Int) + 1 ≠ 0 by omega); omega⟩
   have hil : i ≤ out.length := by have := Int.emod_lt_of_pos n (show (0 : Int) < (out.length : Int) + 1 by omega); omega
   have hne : (out.length : Int) + 1 ≠ 0 := by omega
   have hdr : Hid (sinceN out (i : Int) = out.drop i) := lh (chain_since HCk.out i hil)
   have hti : (out.take i).length = i := by rw [List.length_take]; omega
   have hm0 : Ao.map (fun x => x.add 0) = Ao := by cases Ao <;> rfl
   have hic : i ≤ co := by omega
   clear hck hx6 x5 hrd hrk k0 HCh HO HCk
   go_wp2_with (go_at_call 42; refine (show Hid _ from ?_).out)
   refine lh ?_
   rw [hni]
   refine (esince_any i Ao co out w6 (by omega) hcap HCh6.out.rd).mono ?_
   rintro r w7 ⟨⟨A7, c7, l7, rfl, hl7, ho7⟩, hx7⟩
   rw [hdr.out] at hl7
   subst hl7
   have HX7 := lh (HX6.out.trans hx7)
   have HCh7 := lh (HCh6.out.on hx7)
   have HR7 : Hid (Reads 38 epL w7 w7.heap.size A7 (out.drop i)) := lh (ho7.reads epE)
   have HZ7 : Hid (A7 = none → c7 = 0) := lh ho7.none0
   clear ho7 hx7 HX6 HCh6 hdr
   go_wp2_with (first | (go_at_call 12; refine (HS.out _ (by (with_reducible repeat first|exact HX7.out|exact eR _|apply eD|apply eN|apply eA|apply eO|apply eS|apply eC);all_goals first|omega|simp <;> omega)).mono ?_; rintro e w' ⟨rfl, hxl⟩; obtain ⟨xl, rfl⟩ := hxl.asLater; clear hxl) | (at_builtin; refine wpList_want rfl ?_; refine (show Hid _ from ?_).out))
   refine lh ?_
   refine app_empty epT epE rfl _ _ rfl w7.heap.size (some ⟨w7.heap.size + xl.n, 0, none⟩) rfl (show OwnsEp w7.heap.size ((later w7 xl).alloc (.cells #[] 30)) (some ⟨w7.heap.size + xl.n, 0, none⟩) 0 [] from owns_fresh epE [] (later w7 xl) #[] (w7.heap.size + xl.n) w7.heap.size (later_size _ _).symm (by rw [later_size]; omega) rfl (by decide)) _ Ao co (out.take i) (by rw [hti]; rfl) ((HCh7.out.rd.take i).on ((ext_later _ _).alloc _)) HZ6.out (by omega) (by omega) (by simp [World.size_alloc, later_size]; omega) ?_
   intro A8 c8 l8 w8 hl8 hO8 hX8
   have hl8' := hl8.out
   subst hl8'
   have HO8 := lh hO8
   have HX78 : Hid (Ext w7 w8) := lh (((ext_later w7 xl).alloc _).trans hX8)
   clear hl8 hO8 hX8
   go_wp2_with (at_builtin; refine wpList_want rfl ?_; refine (show Hid _ from ?_).out)
   refine lh ?_
   refine app_reads epT epE rfl _ _ rfl w7.heap.size _ _ (out.take i) (by rw [hti]; rfl) HO8.out w8.heap.size _ _ (out.drop i) (by rw [List.length_drop]; rfl) (HR7.out.on HX78.out) HZ7.out (by rw [hti, List.length_drop]; omega) (by rw [hti, List.length_drop]; omega) HX78.out.size ?_
   intro A9 c9 l9 w9 hl9 hO9 hB9 _ _ _
   have hl9' : l9 = out := by rw [hl9.out, List.take_append_drop]
   have HX79 : Hid (Ext w7 w9) := lh (Ext.grown HX78.out hB9 (Nat.le_refl _))
   have HC9 : Hid (ChAt w9 A9 out) := lh ⟨hl9' ▸ hO9.reads epE, (HCh7.out.on HX79.out).ok⟩
   have HC9' := lh (HCh7.out.on HX79.out)
   have HX9 := lh (HX7.out.trans HX79.out)
   rw [hl9']
   clear hl9 hO9 hB9 hl9' HX78 HO8 HR7 HZ7 HX79
   go_wp2_with (go_at_call 40; refine (rsame31_any A9 c9 Ao co out w9 (by omega) HC9.out HC9'.out).mono ?_; rintro e w' ⟨rfl, hxl⟩; obtain ⟨xl, rfl⟩ := hxl.asLater; clear hxl)
   go_ret
   exact ⟨rfl, (by (with_reducible repeat first|exact HX9.out|exact eR _|apply eD|apply eN|apply eA|apply eO|apply eS|apply eC);all_goals first|omega|simp <;> omega)⟩
end Go.Proofs.YtpojnhikgjcgmaaGreatDoor

namespace Go.Proofs.YtpojnhikgjcgmaaGreatDoor
open Go.ChangeShapes Go.WideShapes Go.ChangeAt Go.ChangeMaps Go.RowKit
open Go.Proofs
theorem laidEi {W : World} (h : laidMetH Tryz.prog Rows.epochIssuesWhatIsHeardRow.laid W) : Konst 0 W := by
 rw [MakeChecks.laidMetH_plain _ _ _ (by kernel_rfl)] at h
 obtain ⟨ps, ⟨ga, ta, csa, fa, pa, qa, hga, hta, hva, hda, ⟨g1, t1, cs1, f1, p1, q1, hg1, ht1, hv1, hd1, _, rfl⟩, rfl⟩, _, hf⟩ := h
 obtain rfl := Option.some.inj ((show Tryz.prog.globalNamed "weirgate/hash.constants" = some 0 by kernel_rfl).symm.trans hg1)
 obtain rfl := Option.some.inj ((show (Tryz.prog.globals[(0 : Nat)]?).map (·.type) = some 258 by kernel_rfl).symm.trans ht1)
 rw [laidK] at hd1
 exact table_at hg1 hv1 hd1 (fun x hx => by simp [hx]) hf
theorem epochIssuesWhatIsHeard_lifted (os : Os) (started : os.Started) (H : Type) (enc : TypeId × Value → H) :
  ReturnsInHanded {} Tryz.checked os 8 .any (fun w args => (Rows.epochIssuesWhatIsHeardSpec.pre enc Tryz.prog Tryz.f8 Rows.epochIssuesWhatIsHeardRow.domain false w args ∧ laidMetH Tryz.prog Rows.epochIssuesWhatIsHeardRow.laid w) ∧ sizedMet enc Tryz.prog Tryz.f8 (OpenSpec.ofChange Rows.epochIssuesWhatIsHeardSpec) false w args)
   (Rows.epochIssuesWhatIsHeardSpec.post enc Tryz.prog Tryz.f8 false true false false) := by
 refine returnsInHanded_of_change_and (C := Tryz.checked) (X := fun w _ => laidMetH Tryz.prog Rows.epochIssuesWhatIsHeardRow.laid w) (fun _ _ _ hh h => h.of_heap hh) Tryz.own started (by kernel_rfl) Tryz.func8
  (ChangeSpec.witness_shaped (enc := enc) (C := Tryz.checked) (os := os) (X := fun w _ => laidMetH Tryz.prog Rows.epochIssuesWhatIsHeardRow.laid w) false (World.laidAll Tryz.prog os Rows.epochIssuesWhatIsHeardRow.laid) #[.string ByteArray.empty, .slice none 0 0, .int .u8 0] 8 (World.laidAll_os _ _ _)
   (World.shaped_of_ZipB (by kernel_rfl) (by kernel_rfl)) (by kernel_rfl) (by kernel_rfl) (by kernel_rfl)
   (by rw [MakeChecks.laidMetH_plain _ _ _ (by kernel_rfl)]; exact laidMet_laidAll _ (by kernel_rfl) (by kernel_rfl))) ?_
 intro W base args ds gs before hval0 hW hcnd hSz hL _
 have hval : ∀ (j : Nat) t v, Tryz.f8.params[j]? = some t → args[j]? = some v → Value.okWide Tryz.prog W .any base t v := hval0
 have hW' := hW
 obtain ⟨p, q, hA0, hV, rfl, hfz, hnd⟩ := hW
 have hA : DataW.TrodAll enc Tryz.prog W 0 (fun _ => true) true Tryz.f8.params.toList args.toList ds p := hA0
 rw [Tryz.params8] at hA hval
 obtain ⟨rfl, rfl⟩ := trodVars_none hV
 clear hA0 hval0 hcnd
 obtain ⟨v0, vs0, d0, ds0, p0, q0, ea0, rfl, rfl, h0, hA⟩ := trodAll_cons hA
 obtain ⟨v1, vs1, d1, ds1, p1, q1, rfl, rfl, rfl, h1, hA⟩ := trodAll_cons hA
 obtain ⟨v2, vs2, d2, ds2, p2, q2, rfl, rfl, rfl, h2, hA⟩ := trodAll_cons hA
 obtain ⟨rfl, rfl, rfl⟩ := trodAll_nil hA
 obtain rfl : args = #[v0, v1, v2] := by cases args; simp_all
 obtain hk := laidEi hL
 obtain ⟨s, rfl, _, _, hs⟩ := open_string Tryz.underlying9 (hval 0 9 v0 rfl rfl) h0
 obtain ⟨A, c, l, rfl, hl, hc⟩ := open_eps (hval 1 45 v1 rfl rfl) h1
 obtain ⟨n, rfl, _, _, hn⟩ := open_int Tryz.underlying5 (hval 2 5 v2 rfl rfl) h2
 have hn2 : 0 ≤ n ∧ n < 256 := by simp [Lit.wf, IntKind.min, IntKind.max, IntKind.signed, IntKind.bits] at hn; omega
 have main := issues_ok s A c l n W (by unfold maxLen at hs; omega) hl hc hn2.1 hn2.2 hk
 refine main.mono fun e' W' ⟨he, hx⟩ => ?_
 subst he
 exact ⟨_, rfl, law_post Tryz.laidOut (by kernel_rfl) rfl hW' hx 4 (by kernel_rfl) Tryz.underlying4 rfl rfl rfl⟩
end Go.Proofs.YtpojnhikgjcgmaaGreatDoor