
import Derived.WalkKit
import Derived.WalkSpells
import Derived.WalkLawsBesides
import Derived.Deep.QuietTactic
import Derived.BigQuiet
import Derived.Test.YtpfhmcdcmepfdaaGreatDoorUKb
set_option maxRecDepth 100000
set_option maxHeartbeats 64000000
set_option linter.unusedVariables false
set_option linter.unusedSimpArgs false
namespace Go.Proofs.YtpfhmcdcmepfdaaGreatDoor
open Go.RowKit Go.Shelf
open Go.Proofs
def MkOut (k : Ky) (g : Gs) (e : Ep) (cs : List Cf) (ls : List Le) (now : Clk) (base : Nat) (r : Ending) (w' : World) : Prop :=
 ∃ LA lc, r = .returned (.tuple #[.agg (rpC (mkR k g e cs ls now LA lc)), .int .i64 (mkE k g e now)]) ∧ OwnsLn base w' LA lc (mkR k g e cs ls now LA lc).lines
theorem amake_any (k : Ky) (g : Gs) (e : Ep) (CA LsA : Option Addr) (cc lsc : Nat) (cs : List Cf) (ls : List Le) (p : Clk) (w : World) (hks : k.secret.size < 9223372036854775808) (hgl : g.l.length ≤ 100000) (hga : Reads 3 grL w w.heap.size g.GA g.l)
  (hok : EpOk e) (hs : EpShort e) (ha : EpAt w e) (hcl : cs.length ≤ 100000) (hll : ls.length ≤ 100000) (hco : ∀ c ∈ cs, CfOk c) (hlo : ∀ l ∈ ls, LeOk l) (hrc : Reads 37 cfL w w.heap.size CA cs) (hrl : Reads 20 leL w w.heap.size LsA ls) (hk : KonstP w) :
  Calls Tryz.prog 22 #[.agg (kyC k), .agg (gsC g), .agg (epC e), .slice CA cs.length cc, .slice LsA ls.length lsc, .agg (clkC p)] w fun r w' => MkOut k g e cs ls p w.heap.size r w' ∧ Ext w w' := by
 have HKv := lh (fun W => kvalid_any k W hks)
 have HGv := lh (fun (W : World) (hx : Ext w W) => lvalid_any g W hgl (hga.on hx))
 have HEv := lh (fun (W : World) (hx : Ext w W) => evalid_any e W (ha.on hx) (by have := hs.pu; omega) hok.rvl (fun p hp => by have := hs.what p hp; omega))
 have HCv := lh (fun W : World => cvalid_any p W)
 have HNm := lh (fun (W : World) (hx : Ext w W) => ename_any e W hok hs (ha.on hx) (RowAt.ext hk hx))
 have HPt := lh (fun (h : makeB k g e p = true) (LA : Option Addr) (lc : Nat) (W : World) (hr : Reads 59 lnL W W.heap.size LA (mkLines g e cs ls p)) => whole_any (rpOf k g e cs ls p LA lc) W (rpOf_ok h hco hlo) (by show (mkLines g e cs ls p).length ≤ _; simp [mkLines]; omega) hr)
 have HMk := lh (fun (h : makeB k g e p = true) (LA : Option Addr) (lc : Nat) (A : Option Addr) (c : Nat) (W : World) (h1 : ReadsStr W W.heap.size A (rpParts (rpOf k g e cs ls p LA lc))) (h2 : A = none → c = 0) (hx : Ext w W) => smake_any k 321 A c (rpParts (rpOf k g e cs ls p LA lc)) W h1 h2 (lens_key (by
   simp only [makeB, Bool.and_eq_true] at h
   exact (okKy_lims h.1.1.1.1.1).2.2.2.2.2.1) (by
   have := rpParts_lens (rpOf_ok (LA := LA) (lc := lc) h hco hlo) (by show (mkLines g e cs ls p).length ≤ _; simp [mkLines]; omega)
   omega)) (RowAt.ext hk hx))
 have HLn := lh (fun (x : Gr) (W : World) (hx : Ext w W) (b1 b2 b3 b4 : Nat) (h1 : W.cell? ⟨b1, 0, none⟩ = some (.int .i64 e.num)) (h2 : W.cell? ⟨b2, 0, none⟩ = some (.slice CA cs.length cc)) (h3 : W.cell? ⟨b3, 0, none⟩ = some (.slice LsA ls.length lsc)) (h4 : W.cell? ⟨b4, 0, none⟩ = some (.int .i64 p.lo)) (l1 : b1 < W.heap.size) (l2 : b2 < W.heap.size) (l3 : b3 < W.heap.size) (l4 : b4 < W.heap.size) => mkline_any x e.num p.lo CA LsA cc lsc cs ls b1 b2 b3 b4 W h1 h2 h3 h4 l1 l2 l3 l4 hcl hll (hrc.on hx) (hrl.on hx))
 have HB : Hid (makeB k g e p = (okKy k && decide (k.party = 1) && okGs g && okEp e && decide (e.num ≤ g.latest) && okClk p)) := lh rfl
 have hfk := ky_fits k
 have hfg := gs_fits g
 have hfe := ep_fits e
 have hf0 := rp_fits noRp
 have HNo : Hid (makeB k g e p = false → mkR k g e cs ls p none 0 = noRp ∧ mkE k g e p = 1) := lh (fun h => by unfold mkR mkE; rw [h]; exact ⟨rfl, rfl⟩)
 have HGA := lh hga
 clear hks hga hok hs ha hco hlo hrc hrl hk
 cases bk : okKy k with
 | false =>
  have HR := lh (HNo.out (by rw [HB.out, bk]; simp))
  rw [bk] at HKv
  clear HNo
  clear HPt HMk HB HNm HLn
  obtain ⟨p0, p1⟩ := p
  go_enter Tryz.func22, Tryz.ntmps22
  go_upto_region 2 with (first
   | (go_at_call 48; refine (HKv.out _).mono ?_; rintro e w' ⟨rfl, hxl⟩; obtain ⟨xn, rfl⟩ := hxl.asLater; clear hxl)
   | (go_at_call 68; refine (HGv.out _ (by (with_reducible repeat first|exact eR _|apply eD|apply eN|apply eA|apply eO|apply eS|apply eC);all_goals first|omega|simp <;> omega)).mono ?_; rintro e w' ⟨rfl, hxl⟩; obtain ⟨xm, rfl⟩ := hxl.asLater; clear hxl)
   | (go_at_call 57; refine (HEv.out _ (by (with_reducible repeat first|exact eR _|apply eD|apply eN|apply eA|apply eO|apply eS|apply eC);all_goals first|omega|simp <;> omega)).mono ?_; rintro e w' ⟨rfl, hxl⟩; obtain ⟨xo, rfl⟩ := hxl.asLater; clear hxl)
   | (go_at_call 49; refine (HCv.out _).mono ?_; rintro e w' ⟨rfl, hxl⟩; obtain ⟨xp, rfl⟩ := hxl.asLater; clear hxl))
  refine wp_world (fun W => Ext w W ∧ RowAt W (w.heap.size + 1 + 1 + 1 + 1 + 1 + 1) (rpC noRp)) ⟨(by (with_reducible repeat first|exact eR _|apply eD|apply eN|apply eA|apply eO|apply eS|apply eC);all_goals first|omega|simp <;> omega), (RowAt.newAt (by simp)).later _⟩ ?_
  rintro W1 ⟨x1, uR⟩
  have HX1 := lh x1
  have HUR := lh uR
  have hlr := uR.lt
  have hrm : roomOf W1 (w.heap.size + 1 + 1 + 1 + 1 + 1 + 1) 0 37 = true := by rw [uR.room]; rfl
  clear x1 uR
  go_wp2
  have HR9 := HR.out
  refine post_two (v1 := .agg (rpC noRp)) (v2 := .int .i64 1) Tryz.results22 rfl ⟨_, rfl, rp_loaded ((HUR.out.store (ds := rpC noRp) rfl).all rfl (by omega))⟩ rfl ⟨⟨none, 0, by rw [HR9.1, HR9.2], by rw [HR9.1]; exact Owns.nil _ _ _ _ _⟩, Ext.setCells HX1.out (by omega) _ _⟩
 | true =>
  rw [bk] at HKv
  by_cases bp : k.party = 1
  ·have e0 : (k.party != 1) = false := by simpa using bp
   cases bg : okGs g with
   | false =>
    have HR := lh (HNo.out (by rw [HB.out, bg]; simp))
    rw [bg] at HGv
    clear HNo bp
    clear HPt HMk HB HNm HLn
    obtain ⟨p0, p1⟩ := p
    go_enter Tryz.func22, Tryz.ntmps22
    go_upto_region 2 with (first
     | (go_at_call 48; refine (HKv.out _).mono ?_; rintro e w' ⟨rfl, hxl⟩; obtain ⟨xn, rfl⟩ := hxl.asLater; clear hxl)
     | (go_at_call 68; refine (HGv.out _ (by (with_reducible repeat first|exact eR _|apply eD|apply eN|apply eA|apply eO|apply eS|apply eC);all_goals first|omega|simp <;> omega)).mono ?_; rintro e w' ⟨rfl, hxl⟩; obtain ⟨xm, rfl⟩ := hxl.asLater; clear hxl)
     | (go_at_call 57; refine (HEv.out _ (by (with_reducible repeat first|exact eR _|apply eD|apply eN|apply eA|apply eO|apply eS|apply eC);all_goals first|omega|simp <;> omega)).mono ?_; rintro e w' ⟨rfl, hxl⟩; obtain ⟨xo, rfl⟩ := hxl.asLater; clear hxl)
     | (go_at_call 49; refine (HCv.out _).mono ?_; rintro e w' ⟨rfl, hxl⟩; obtain ⟨xp, rfl⟩ := hxl.asLater; clear hxl))
    refine wp_world (fun W => Ext w W ∧ RowAt W (w.heap.size + 1 + 1 + 1 + 1 + 1 + 1) (rpC noRp)) ⟨(by (with_reducible repeat first|exact eR _|apply eD|apply eN|apply eA|apply eO|apply eS|apply eC);all_goals first|omega|simp <;> omega), (RowAt.newAt (by simp)).later _⟩ ?_
    rintro W1 ⟨x1, uR⟩
    have HX1 := lh x1
    have HUR := lh uR
    have hlr := uR.lt
    have hrm : roomOf W1 (w.heap.size + 1 + 1 + 1 + 1 + 1 + 1) 0 37 = true := by rw [uR.room]; rfl
    clear x1 uR
    go_wp2
    have HR9 := HR.out
    refine post_two (v1 := .agg (rpC noRp)) (v2 := .int .i64 1) Tryz.results22 rfl ⟨_, rfl, rp_loaded ((HUR.out.store (ds := rpC noRp) rfl).all rfl (by omega))⟩ rfl ⟨⟨none, 0, by rw [HR9.1, HR9.2], by rw [HR9.1]; exact Owns.nil _ _ _ _ _⟩, Ext.setCells HX1.out (by omega) _ _⟩
   | true =>
    rw [bg] at HGv
    cases be : okEp e with
    | false =>
     have HR := lh (HNo.out (by rw [HB.out, be]; simp))
     rw [be] at HEv
     clear HNo bp
     clear HPt HMk HB HNm HLn
     obtain ⟨p0, p1⟩ := p
     go_enter Tryz.func22, Tryz.ntmps22
     go_upto_region 2 with (first
      | (go_at_call 48; refine (HKv.out _).mono ?_; rintro e w' ⟨rfl, hxl⟩; obtain ⟨xn, rfl⟩ := hxl.asLater; clear hxl)
      | (go_at_call 68; refine (HGv.out _ (by (with_reducible repeat first|exact eR _|apply eD|apply eN|apply eA|apply eO|apply eS|apply eC);all_goals first|omega|simp <;> omega)).mono ?_; rintro e w' ⟨rfl, hxl⟩; obtain ⟨xm, rfl⟩ := hxl.asLater; clear hxl)
      | (go_at_call 57; refine (HEv.out _ (by (with_reducible repeat first|exact eR _|apply eD|apply eN|apply eA|apply eO|apply eS|apply eC);all_goals first|omega|simp <;> omega)).mono ?_; rintro e w' ⟨rfl, hxl⟩; obtain ⟨xo, rfl⟩ := hxl.asLater; clear hxl)
      | (go_at_call 49; refine (HCv.out _).mono ?_; rintro e w' ⟨rfl, hxl⟩; obtain ⟨xp, rfl⟩ := hxl.asLater; clear hxl))
     refine wp_world (fun W => Ext w W ∧ RowAt W (w.heap.size + 1 + 1 + 1 + 1 + 1 + 1) (rpC noRp)) ⟨(by (with_reducible repeat first|exact eR _|apply eD|apply eN|apply eA|apply eO|apply eS|apply eC);all_goals first|omega|simp <;> omega), (RowAt.newAt (by simp)).later _⟩ ?_
     rintro W1 ⟨x1, uR⟩
     have HX1 := lh x1
     have HUR := lh uR
     have hlr := uR.lt
     have hrm : roomOf W1 (w.heap.size + 1 + 1 + 1 + 1 + 1 + 1) 0 37 = true := by rw [uR.room]; rfl
     clear x1 uR
     go_wp2
     have HR9 := HR.out
     refine post_two (v1 := .agg (rpC noRp)) (v2 := .int .i64 1) Tryz.results22 rfl ⟨_, rfl, rp_loaded ((HUR.out.store (ds := rpC noRp) rfl).all rfl (by omega))⟩ rfl ⟨⟨none, 0, by rw [HR9.1, HR9.2], by rw [HR9.1]; exact Owns.nil _ _ _ _ _⟩, Ext.setCells HX1.out (by omega) _ _⟩
    | true =>
     rw [be] at HEv
     by_cases bn : g.latest < e.num
     ·have HR := lh (HNo.out (by rw [HB.out, decide_eq_false (show ¬ e.num ≤ g.latest by omega)]; simp))
      have e1 : decide (g.latest < e.num) = true := by simpa using bn
      clear HNo bp
      clear HPt HMk HB HNm HLn
      obtain ⟨p0, p1⟩ := p
      go_enter Tryz.func22, Tryz.ntmps22
      go_upto_region 2 with (first
       | (go_at_call 48; refine (HKv.out _).mono ?_; rintro e w' ⟨rfl, hxl⟩; obtain ⟨xn, rfl⟩ := hxl.asLater; clear hxl)
       | (go_at_call 68; refine (HGv.out _ (by (with_reducible repeat first|exact eR _|apply eD|apply eN|apply eA|apply eO|apply eS|apply eC);all_goals first|omega|simp <;> omega)).mono ?_; rintro e w' ⟨rfl, hxl⟩; obtain ⟨xm, rfl⟩ := hxl.asLater; clear hxl)
       | (go_at_call 57; refine (HEv.out _ (by (with_reducible repeat first|exact eR _|apply eD|apply eN|apply eA|apply eO|apply eS|apply eC);all_goals first|omega|simp <;> omega)).mono ?_; rintro e w' ⟨rfl, hxl⟩; obtain ⟨xo, rfl⟩ := hxl.asLater; clear hxl)
       | (go_at_call 49; refine (HCv.out _).mono ?_; rintro e w' ⟨rfl, hxl⟩; obtain ⟨xp, rfl⟩ := hxl.asLater; clear hxl))
      refine wp_world (fun W => Ext w W ∧ RowAt W (w.heap.size + 1 + 1 + 1 + 1 + 1 + 1) (rpC noRp)) ⟨(by (with_reducible repeat first|exact eR _|apply eD|apply eN|apply eA|apply eO|apply eS|apply eC);all_goals first|omega|simp <;> omega), (RowAt.newAt (by simp)).later _⟩ ?_
      rintro W1 ⟨x1, uR⟩
      have HX1 := lh x1
      have HUR := lh uR
      have hlr := uR.lt
      have hrm : roomOf W1 (w.heap.size + 1 + 1 + 1 + 1 + 1 + 1) 0 37 = true := by rw [uR.room]; rfl
      clear x1 uR
      go_wp2
      have HR9 := HR.out
      refine post_two (v1 := .agg (rpC noRp)) (v2 := .int .i64 1) Tryz.results22 rfl ⟨_, rfl, rp_loaded ((HUR.out.store (ds := rpC noRp) rfl).all rfl (by omega))⟩ rfl ⟨⟨none, 0, by rw [HR9.1, HR9.2], by rw [HR9.1]; exact Owns.nil _ _ _ _ _⟩, Ext.setCells HX1.out (by omega) _ _⟩
     ·have e1 : decide (g.latest < e.num) = false := by simpa using bn
      cases bc : okClk p with
      | false =>
       have HR := lh (HNo.out (by rw [HB.out, bc]; simp))
       rw [bc] at HCv
       clear HNo bp bn
       clear HPt HMk HB HNm HLn
       obtain ⟨p0, p1⟩ := p
       go_enter Tryz.func22, Tryz.ntmps22
       go_upto_region 2 with (first
        | (go_at_call 48; refine (HKv.out _).mono ?_; rintro e w' ⟨rfl, hxl⟩; obtain ⟨xn, rfl⟩ := hxl.asLater; clear hxl)
        | (go_at_call 68; refine (HGv.out _ (by (with_reducible repeat first|exact eR _|apply eD|apply eN|apply eA|apply eO|apply eS|apply eC);all_goals first|omega|simp <;> omega)).mono ?_; rintro e w' ⟨rfl, hxl⟩; obtain ⟨xm, rfl⟩ := hxl.asLater; clear hxl)
        | (go_at_call 57; refine (HEv.out _ (by (with_reducible repeat first|exact eR _|apply eD|apply eN|apply eA|apply eO|apply eS|apply eC);all_goals first|omega|simp <;> omega)).mono ?_; rintro e w' ⟨rfl, hxl⟩; obtain ⟨xo, rfl⟩ := hxl.asLater; clear hxl)
        | (go_at_call 49; refine (HCv.out _).mono ?_; rintro e w' ⟨rfl, hxl⟩; obtain ⟨xp, rfl⟩ := hxl.asLater; clear hxl))
       refine wp_world (fun W => Ext w W ∧ RowAt W (w.heap.size + 1 + 1 + 1 + 1 + 1 + 1) (rpC noRp)) ⟨(by (with_reducible repeat first|exact eR _|apply eD|apply eN|apply eA|apply eO|apply eS|apply eC);all_goals first|omega|simp <;> omega), (RowAt.newAt (by simp)).later _⟩ ?_
       rintro W1 ⟨x1, uR⟩
       have HX1 := lh x1
       have HUR := lh uR
       have hlr := uR.lt
       have hrm : roomOf W1 (w.heap.size + 1 + 1 + 1 + 1 + 1 + 1) 0 37 = true := by rw [uR.room]; rfl
       clear x1 uR
       go_wp2
       have HR9 := HR.out
       refine post_two (v1 := .agg (rpC noRp)) (v2 := .int .i64 1) Tryz.results22 rfl ⟨_, rfl, rp_loaded ((HUR.out.store (ds := rpC noRp) rfl).all rfl (by omega))⟩ rfl ⟨⟨none, 0, by rw [HR9.1, HR9.2], by rw [HR9.1]; exact Owns.nil _ _ _ _ _⟩, Ext.setCells HX1.out (by omega) _ _⟩
      | true =>
       rw [bc] at HCv
       have hB1 : makeB k g e p = true := by rw [HB.out, bk, bg, be, bc, decide_eq_true bp, decide_eq_true (show e.num ≤ g.latest by omega)]; rfl
       clear HNo bp bn bk bg be bc HB
       have HRes : Hid (∀ LA lc, mkR k g e cs ls p LA lc = { rpOf k g e cs ls p LA lc with sl := makeN k 321 (rpParts (rpOf k g e cs ls p LA lc)) } ∧ mkE k g e p = 0) := lh (fun LA lc => by unfold mkR mkE; rw [if_pos hB1, if_pos hB1]; exact ⟨rfl, rfl⟩)
       have HC0 : Hid (∀ LA lc, rpOf k g e cs ls p LA lc = ⟨e.num, epName e, p.lo, p.hi, LA, lc, mkLines g e cs ls p, k.serial, zeros32 16⟩) := lh (fun _ _ => rfl)
       have HML : Hid (mkLines g e cs ls p = g.l.map fun x => lineN x e.num cs ls p.lo) := lh rfl
       have HPt' := lh (HPt.out hB1)
       have HMk' := lh (HMk.out hB1)
       have hfd : fitsRow 16 (dgC (epName e)) = true := by simp [fitsRow, dgC, Value.oneCell']
       generalize epName e = N at *
       clear HPt HMk hB1
       obtain ⟨p0, p1⟩ := p
       generalize mkLines g e cs ls ⟨p0, p1⟩ = ML at *
       go_enter Tryz.func22, Tryz.ntmps22
       go_upto_region 4 with (first
        | (go_at_call 48; refine (HKv.out _).mono ?_; rintro e w' ⟨rfl, hxl⟩; obtain ⟨xn, rfl⟩ := hxl.asLater; clear hxl)
        | (go_at_call 68; refine (HGv.out _ (by (with_reducible repeat first|exact eR _|apply eD|apply eN|apply eA|apply eO|apply eS|apply eC);all_goals first|omega|simp <;> omega)).mono ?_; rintro e w' ⟨rfl, hxl⟩; obtain ⟨xm, rfl⟩ := hxl.asLater; clear hxl)
        | (go_at_call 57; refine (HEv.out _ (by (with_reducible repeat first|exact eR _|apply eD|apply eN|apply eA|apply eO|apply eS|apply eC);all_goals first|omega|simp <;> omega)).mono ?_; rintro e w' ⟨rfl, hxl⟩; obtain ⟨xo, rfl⟩ := hxl.asLater; clear hxl)
        | (go_at_call 49; refine (HCv.out _).mono ?_; rintro e w' ⟨rfl, hxl⟩; obtain ⟨xp, rfl⟩ := hxl.asLater; clear hxl))
       refine wp_world (fun W => Ext w W ∧ RowAt W w.heap.size (kyC k) ∧ RowAt W (w.heap.size + 1) (gsC g) ∧ RowAt W (w.heap.size + 1 + 1) (epC e) ∧ RowAt W (w.heap.size + 1 + 1 + 1) #[.slice CA cs.length cc] ∧ RowAt W (w.heap.size + 1 + 1 + 1 + 1) #[.slice LsA ls.length lsc] ∧ RowAt W (w.heap.size + 1 + 1 + 1 + 1 + 1) #[.int .i64 p0, .int .i64 p1] ∧ RowAt W (w.heap.size + 1 + 1 + 1 + 1 + 1 + 1) (rpC noRp)) ⟨(by (with_reducible repeat first|exact eR _|apply eD|apply eN|apply eA|apply eO|apply eS|apply eC);all_goals first|omega|simp <;> omega), ?_, ?_, ?_, ?_, ?_, ?_, ?_⟩ ?_
       ·exact (((((((RowAt.new _ _ _).alloc _).alloc _).alloc _).alloc _).alloc _).alloc _).later _
       ·exact ((((((RowAt.newAt (by simp)).alloc _).alloc _).alloc _).alloc _).alloc _).later _
       ·exact (((((RowAt.newAt (by simp)).alloc _).alloc _).alloc _).alloc _).later _
       ·exact ((((RowAt.newAt (by simp)).alloc _).alloc _).alloc _).later _
       ·exact (((RowAt.newAt (by simp)).alloc _).alloc _).later _
       ·exact ((RowAt.newAt (by simp)).alloc _).later _
       ·exact (RowAt.newAt (by simp)).later _
       obtain ⟨B, hB⟩ : ∃ B, w.heap.size = B := ⟨_, rfl⟩
       rw [hB]
       rintro W1 ⟨x1, uB, uG, uE, uC, uL, uP, uR⟩
       have HX1 := lh x1
       have HUB := lh uB
       have HUR := lh uR
       have HUC := lh uC
       have HUL := lh uL
       have HUP := lh uP
       have HUE := lh uE
       have hlu := uR.lt
       have HQG : Hid (W1.cell? ⟨B+1, 2, none⟩ = some (.slice g.GA g.l.length g.gc)) := lh ((uG.cell 2).trans (gs_g2 g))
       have qE_0 : W1.cell? ⟨B+1+1, 0, none⟩ = some (.int .i64 e.num) := (uE.cell 0).trans (ep_g0 e)
       have kE_0_38 : rowOf W1 (B+1+1) 0 38 = some (epC e) := uE.all rfl (by omega)
       have qP_0 : W1.cell? ⟨B+1+1+1+1+1, 0, none⟩ = some (.int .i64 p0) := uP.cell 0
       have qP_1 : W1.cell? ⟨B+1+1+1+1+1, 1, none⟩ = some (.int .i64 p1) := uP.cell 1
       have qB_1 : W1.cell? ⟨B, 1, none⟩ = some (.int .i64 k.serial) := (uB.cell 1).trans (ky_g1 k)
       have HLn1 : Hid (∀ (x : Gr) (W : World), Ext W1 W → Calls Tryz.prog 69 #[.agg (grC x), .pointer (some ⟨B+1+1, 0, none⟩), .pointer (some ⟨B+1+1+1, 0, none⟩), .pointer (some ⟨B+1+1+1+1, 0, none⟩), .pointer (some ⟨B+1+1+1+1+1, 0, none⟩)] W fun e' w' => e' = .returned (.agg (lnC (lineN x e.num cs ls p0))) ∧ Ext W w') := lh (fun x W hx => by
        have hz := hx.size
        exact HLn.out x W (HX1.out.trans hx) _ _ _ _ (((HUE.out.ext hx).cell 0).trans (ep_g0 e)) ((HUC.out.ext hx).cell 0) ((HUL.out.ext hx).cell 0) ((HUP.out.ext hx).cell 0) (by omega) (by omega) (by omega) (by omega))
       clear x1 uB uG uE uC uL uP uR HLn HKv HGv HEv HCv HUC HUL HUP HUE
       generalize g.GA = GA at *
       have hfc := rp_fits ⟨e.num, N, p0, p1, none, 0, [], k.serial, zeros32 16⟩
       refine wp_region_rowN 10 (by kernel_rfl) 8 9 (fun i => ([.pointer (some ⟨B+1+1, 0, none⟩), .int .i64 e.num, .agg (epC e), .agg (dgC N), .agg #[.int .i64 p0, .int .i64 p1], .pointer (some ⟨B, 1, none⟩), .int .i64 k.serial, .agg (rpC ⟨e.num, N, p0, p1, none, 0, [], k.serial, zeros32 16⟩), undef, undef] : List Value).getD i undef) (rpC ⟨e.num, N, p0, p1, none, 0, [], k.serial, zeros32 16⟩) (by kernel_rfl) (by kernel_rfl) (by decide) (dk (by kernel_rfl)) (dk (by kernel_rfl)) (dk (by kernel_rfl)) (lt_cons ?_ (lt_cons ?_ (lt_cons ?_ (lt_cons ?_ (lt_cons ?_ (lt_cons ?_ (lt_cons ?_ (lt_cons ?_ (lt_cons ?_ (lt_cons ?_ (lt_none))))))))))) ?_ ?_ ?_
       ·
        intro _ _
        refine sop rfl fun xs W HW hsW HD Q' HQ => ?_; simp only [fillAt, dstOf, lc0, lcs, obs, Act.put, lsa, lsz, lss, nz, Nat.reduceAdd] at HQ ⊢
        go_wp2
        exact HQ.out _ _ (eR _) rfl
       ·
        intro _ _
        refine sop rfl fun xs W HW hsW HD Q' HQ => ?_; simp only [fillAt, dstOf, lc0, lcs, obs, Act.put, lsa, lsz, lss, nz, Nat.reduceAdd] at HQ ⊢
        have hd0 : xs 0 = .pointer (some ⟨B+1+1, 0, none⟩) := (HD.out 0 (dk (by kernel_rfl)))
        generalize xs 0 = x0 at hd0 HQ ⊢; subst hd0
        have hc : W.cell? ⟨B+1+1, 0, none⟩ = some (.int .i64 e.num) := (HW.out.cell (p := ⟨B+1+1, 0, none⟩) (by show B+1+1 < _; omega)).trans qE_0
        go_wp2
        exact HQ.out _ _ (eR _) rfl
       ·
        intro _ _
        refine sop rfl fun xs W HW hsW HD Q' HQ => ?_; simp only [fillAt, dstOf, lc0, lcs, obs, Act.put, lsa, lsz, lss, nz, Nat.reduceAdd] at HQ ⊢
        have hc := (row_extW HW.out (b := B+1+1) (by omega) 0 38).trans kE_0_38
        go_wp2
        exact HQ.out _ _ (eR _) rfl
       ·
        intro _ _
        refine sop rfl fun xs W HW hsW HD Q' HQ => ?_; simp only [fillAt, dstOf, lc0, lcs, obs, Act.put, lsa, lsz, lss, nz, Nat.reduceAdd] at HQ ⊢
        have hd2 : xs 2 = .agg (epC e) := (HD.out 2 (dk (by kernel_rfl)))
        generalize xs 2 = x2 at hd2 HQ ⊢; subst hd2
        go_wp2_with (go_at_call 58; refine (HNm.out _ (HX1.out.trans HW.out)).mono ?_; rintro e w1 ⟨rfl, hx⟩)
        exact HQ.out _ _ hx rfl
       ·
        intro _ _
        refine sop rfl fun xs W HW hsW HD Q' HQ => ?_; simp only [fillAt, dstOf, lc0, lcs, obs, Act.put, lsa, lsz, lss, nz, Nat.reduceAdd] at HQ ⊢
        have hc := (HW.out.cell (p := ⟨B+1+1+1+1+1, 0, none⟩) (by show B+1+1+1+1+1 < _; omega)).trans qP_0
        have hc2 := (HW.out.cell (p := ⟨B+1+1+1+1+1, 1, none⟩) (by show B+1+1+1+1+1 < _; omega)).trans qP_1
        go_wp2
        exact HQ.out _ _ (eR _) rfl
       ·
        intro _ _
        refine sop rfl fun xs W HW hsW HD Q' HQ => ?_; simp only [fillAt, dstOf, lc0, lcs, obs, Act.put, lsa, lsz, lss, nz, Nat.reduceAdd] at HQ ⊢
        go_wp2
        exact HQ.out _ _ (eR _) rfl
       ·
        intro _ _
        refine sop rfl fun xs W HW hsW HD Q' HQ => ?_; simp only [fillAt, dstOf, lc0, lcs, obs, Act.put, lsa, lsz, lss, nz, Nat.reduceAdd] at HQ ⊢
        have hd5 : xs 5 = .pointer (some ⟨B, 1, none⟩) := (HD.out 5 (dk (by kernel_rfl)))
        generalize xs 5 = x5 at hd5 HQ ⊢; subst hd5
        have hc : W.cell? ⟨B, 1, none⟩ = some (.int .i64 k.serial) := (HW.out.cell (p := ⟨B, 1, none⟩) (by show B < _; omega)).trans qB_1
        go_wp2
        exact HQ.out _ _ (eR _) rfl
       ·
        intro _ _
        refine sop rfl fun xs W HW hsW HD Q' HQ => ?_; simp only [fillAt, dstOf, lc0, lcs, obs, Act.put, lsa, lsz, lss, nz, Nat.reduceAdd] at HQ ⊢
        have hd1 : xs 1 = .int .i64 e.num := (HD.out 1 (dk (by kernel_rfl)))
        generalize xs 1 = x1 at hd1 HQ ⊢; subst hd1
        have hd3 : xs 3 = .agg (dgC N) := (HD.out 3 (dk (by kernel_rfl)))
        generalize xs 3 = x3 at hd3 HQ ⊢; subst hd3
        have hd4 : xs 4 = .agg #[.int .i64 p0, .int .i64 p1] := (HD.out 4 (dk (by kernel_rfl)))
        generalize xs 4 = x4 at hd4 HQ ⊢; subst hd4
        have hd6 : xs 6 = .int .i64 k.serial := (HD.out 6 (dk (by kernel_rfl)))
        generalize xs 6 = x6 at hd6 HQ ⊢; subst hd6
        go_wp2
        exact HQ.out _ _ (eR _) rfl
       ·exact fun h => absurd rfl h
       ·exact fun _ h => absurd rfl h
       ·
        refine sop rfl fun xs W HW hsW HD Q' HQ => ?_; simp only [fillAt, dstOf, lc0, lcs, obs, Act.put, lsa, lsz, lss, nz, Nat.reduceAdd] at HQ ⊢
        go_wp2
        exact HQ.out _ _ ((eR _).alloc _) ⟨W.heap.size, rfl, by omega, _, RowAt.new _ _ _, rfl⟩
       ·
        refine sop rfl fun xs W HW hsW HD Q' HQ => ?_; simp only [fillAt, dstOf, lc0, lcs, obs, Act.put, lsa, lsz, lss, nz, Nat.reduceAdd] at HQ ⊢
        have hdv : xs 7 = .agg (rpC ⟨e.num, N, p0, p1, none, 0, [], k.serial, zeros32 16⟩) := (HD.out 7 (dk (by kernel_rfl)))
        obtain ⟨bb, hxa, hbb, ds, hrb, hzb⟩ : ∃ b, xs 8 = .pointer (some ⟨b, 0, none⟩) ∧ W1.heap.size ≤ b ∧ ∃ ds, RowAt W b ds ∧ ds.size = (rpC ⟨e.num, N, p0, p1, none, 0, [], k.serial, zeros32 16⟩).size := (HD.out 8 (dk (by kernel_rfl)))
        have hrm : roomOf W bb 0 37 = true := by rw [hrb.room, hzb]; rfl
        generalize xs 7 = x7 at hdv HQ ⊢; subst hdv
        generalize xs 8 = x8 at hxa HQ ⊢; subst hxa
        clear hrb hzb
        go_wp2
        exact HQ.out undef bb rfl
       intro xs W3 R hW hxb hbaseR hrowR hvs
       simp only [fillAt, dstOf, lc0, lcs, obs, Act.put, lsa, lsz, lss, nz, Nat.reduceAdd]
       generalize xs 8 = xa at *; subst hxb
       have HW3 := lh (HX1.out.trans hW)
       have HWW3 := lh hW
       have HRR := lh hrowR
       have hlR := hrowR.lt
       clear hW hvs hrowR qE_0 kE_0_38 qP_0 qP_1 qB_1
       have hs13 := HWW3.out.size
       have hsW1 := HX1.out.size
       obtain ⟨r0, hr0⟩ : ∃ r : Rp, r = ⟨e.num, N, p0, p1, none, 0, [], k.serial, zeros32 16⟩ := ⟨_, rfl⟩
       have HR0 : Hid (∀ A c l, rpW r0 A c l = ⟨e.num, N, p0, p1, A, c, l, k.serial, zeros32 16⟩) := lh (fun A c l => by rw [hr0]; rfl)
       have HRR : Hid (RowAt W3 R (rpC (rpW r0 none 0 []))) := lh (by rw [HR0.out]; exact HRR.out)
       clear hr0 hfc HNm
       have qG_2 : W3.cell? ⟨B+1, 2, none⟩ = some (.slice GA g.l.length g.gc) := (HWW3.out.cell (p := ⟨B+1, 2, none⟩) (by show B+1 < _; omega)).trans HQG.out
       have hlG : B + 1 < W3.heap.size := by omega
       go_wp2
       clear qG_2 hlG
       go_loopw [61] (fun i wr => ∃ (A2 : Option Addr) (c2 : Nat) (out : List Ln) (n : Nat), i = .int .i64 n ∧ n ≤ g.l.length ∧ out.length ≤ n ∧ Hid (out = (g.l.take n).map fun x => lineN x e.num cs ls p0) ∧ Hid (RowAt wr R (rpC (rpW r0 A2 c2 out))) ∧ Hid (OwnsLn (R + 1) wr A2 c2 out) ∧ Hid (Ext W1 wr)) (fun i _ => g.l.length - (intOf i).toNat)
       case atStart => exact ⟨none, 0, [], 0, rfl, Nat.zero_le _, Nat.le_refl _, lh rfl, HRR, lh (Owns.nil _ _ _ _ _), HWW3⟩
       case round =>
        obtain ⟨A2, c2, out, n, rfl, hn, hol, HOu, HRw, HOw, HX⟩ := hrel
        have hsz := HX.out.size
        have hRl := HRw.out.lt
        by_cases hlt : n < g.l.length
        ·obtain ⟨b, off, rfl, hb, hrow⟩ := reads_row grE (HGA.out.ext (HX1.out.trans HX.out) (Nat.le_refl _)) n hlt
         have hb2 : b < wr.heap.size := by omega
         have HL1 := lh (HLn1.out g.l[n])
         have HN : Hid ((g.l.take (n + 1)).map (fun x => lineN x e.num cs ls p0) = (g.l.take n).map (fun x => lineN x e.num cs ls p0) ++ [lineN g.l[n] e.num cs ls p0]) := lh (map_snoc _ g.l n hlt)
         change rowOf wr b (off + n * 3) 3 = some (grC g.l[n]) at hrow
         have hfx := gr_fits g.l[n]
         generalize hLL : lineN g.l[n] e.num cs ls p0 = L at *
         generalize g.l[n] = x at *
         have hfL := ln_fits L
         go_upto_region 8 with (fail)
         refine wp_world (fun W => Ext W1 W ∧ RowAt W R (rpC (rpW r0 A2 c2 out)) ∧ OwnsLn (R + 1) W A2 c2 out ∧ RowAt W wr.heap.size (grC x)) ⟨(by (with_reducible repeat first|exact HX.out|exact eR _|apply eD|apply eN|apply eA|apply eO|apply eS|apply eC);all_goals first|omega|simp <;> omega), (HRw.out.alloc _).others (by omega) _ _, HOw.out.ext (Ext.setCells ((eR _).alloc _) (Nat.le_refl _) _ _), (RowAt.newAt (by simp)).store rfl⟩ ?_
         have HA2 := lh (fun a h => (HOw.out.lt a h).2)
         generalize hq : wr.heap.size = q at *
         have hRq : R < q := by omega
         have hWR : W1.heap.size ≤ R + 1 := by omega
         have hol4 : out.length ≤ 100000 := by omega
         clear HRw HOw HX hrow
         rintro W6 ⟨x6, u6, o6, uq⟩
         have HX6 := lh x6
         have HR6 := lh u6
         have HO6 := lh o6
         have HQ6 := lh uq
         have hR6 := u6.lt
         clear x6 u6 o6 uq
         refine wp_region_steps 9 (by kernel_rfl) [6, 8] (RepG W1 R q r0 x A2 c2 out L) (fun i => (softRs [.eq (.pointer (some ⟨R, 19, none⟩)), .eq (.slice A2 out.length c2), .eq (.func (.func 69) #[] #[.pointer (some ⟨B+1+1, 0, none⟩), .pointer (some ⟨B+1+1+1, 0, none⟩), .pointer (some ⟨B+1+1+1+1, 0, none⟩), .pointer (some ⟨B+1+1+1+1+1, 0, none⟩)]), .eq (.agg (grC x)), .eq (.agg (lnC L)), .ln L, .any, .eq (.pointer (some ⟨R, 19, none⟩)), .any] i).S) (by kernel_rfl) (by kernel_rfl) (by kernel_rfl) (by kernel_rfl) ?_ repG_x repG_e (fun i => (softRs _ i).on) (lt_cons ?_ (lt_cons ?_ (lt_cons ?_ (lt_cons ?_ (lt_cons ?_ (lt_cons ?_ (lt_cons ?_ (lt_cons ?_ (lt_cons ?_ lt_none))))))))) (lt_cons ?_ (lt_cons ?_ lt_none)) ?_ (by decide)
         ·exact ⟨HX6.out.drew, HQ6.out.drew, hR6, fun _ => HR6.out.drew, fun _ => HO6.out.drew, fun h => absurd h (by decide), fun h => absurd h (by decide)⟩
         ·
          intro hni o ho r xs W hr hG hd hk hbf Q' hQ; obtain rfl := Option.some.inj ho; clear ho hk hni; simp only [fillAt, dstOf, lc0, lcs, obs, Act.put, lsa, lsz, lss, nz, Nat.reduceAdd] at hQ ⊢; have HQ := lh hQ; have HD := lh hd; have HG := lh hG; clear hQ hd hG
          go_wp2
          exact HQ.out _ _ (eR _) rfl
         ·
          intro hni o ho r xs W hr hG hd hk hbf Q' hQ; obtain rfl := Option.some.inj ho; clear ho hk hni; simp only [fillAt, dstOf, lc0, lcs, obs, Act.put, lsa, lsz, lss, nz, Nat.reduceAdd] at hQ ⊢; have HQ := lh hQ; have HD := lh hd; have HG := lh hG; clear hQ hd hG
          have hr0 : r ≤ 1 := by
           rcases Nat.eq_zero_or_pos r with h | h
           ·omega
           ·exact (hbf 0 h (dk (by kernel_rfl))).elim
          have hd0 : xs 0 = .pointer (some ⟨R, 19, none⟩) := (HD.out 0 (dk (by kernel_rfl)) (by decide))
          generalize xs 0 = x0 at hd0 HQ ⊢; subst hd0
          have uR := HG.out.2.2.2.1 hr0
          have hc : W.cell? ⟨R, 19, none⟩ = some (.slice A2 out.length c2) := (uR.cell 19).trans (rpw_g19 _ _ _ _)
          have hlRR := uR.lt
          clear uR
          go_wp2
          exact HQ.out _ _ (eR _) rfl
         ·
          intro hni o ho r xs W hr hG hd hk hbf Q' hQ; obtain rfl := Option.some.inj ho; clear ho hk hni; simp only [fillAt, dstOf, lc0, lcs, obs, Act.put, lsa, lsz, lss, nz, Nat.reduceAdd] at hQ ⊢; have HQ := lh hQ; have HD := lh hd; have HG := lh hG; clear hQ hd hG
          go_wp2
          exact HQ.out _ _ (eR _) rfl
         ·
          intro hni o ho r xs W hr hG hd hk hbf Q' hQ; obtain rfl := Option.some.inj ho; clear ho hk hni; simp only [fillAt, dstOf, lc0, lcs, obs, Act.put, lsa, lsz, lss, nz, Nat.reduceAdd] at hQ ⊢; have HQ := lh hQ; have HD := lh hd; have HG := lh hG; clear hQ hd hG
          have uq := HG.out.2.1
          have hc : rowOf W q 0 3 = some (grC x) := uq.all rfl (by omega)
          have hlq := uq.lt
          clear uq
          go_wp2
          exact HQ.out _ _ (eR _) rfl
         ·
          intro hni o ho r xs W hr hG hd hk hbf Q' hQ; obtain rfl := Option.some.inj ho; clear ho hk hni; simp only [fillAt, dstOf, lc0, lcs, obs, Act.put, lsa, lsz, lss, nz, Nat.reduceAdd] at hQ ⊢; have HQ := lh hQ; have HD := lh hd; have HG := lh hG; clear hQ hd hG
          have hd2 : xs 2 = .func (.func 69) #[] #[.pointer (some ⟨B+1+1, 0, none⟩), .pointer (some ⟨B+1+1+1, 0, none⟩), .pointer (some ⟨B+1+1+1+1, 0, none⟩), .pointer (some ⟨B+1+1+1+1+1, 0, none⟩)] := (HD.out 2 (dk (by kernel_rfl)) (by decide))
          generalize xs 2 = x2 at hd2 HQ ⊢; subst hd2
          have hd3 : xs 3 = .agg (grC x) := (HD.out 3 (dk (by kernel_rfl)) (by decide))
          generalize xs 3 = x3 at hd3 HQ ⊢; subst hd3
          go_wp2_with (go_at_call 69; refine (HL1.out _ HG.out.1).mono ?_; rintro e w1 ⟨rfl, hx⟩)
          exact HQ.out _ _ hx rfl
         ·
          intro hni o ho r xs W hr hG hd hk hbf Q' hQ; obtain rfl := Option.some.inj ho; clear ho hk hni; simp only [fillAt, dstOf, lc0, lcs, obs, Act.put, lsa, lsz, lss, nz, Nat.reduceAdd] at hQ ⊢; have HQ := lh hQ; have HD := lh hd; have HG := lh hG; clear hQ hd hG
          have hd4 : xs 4 = .agg (lnC L) := (HD.out 4 (dk (by kernel_rfl)) (by decide))
          generalize xs 4 = x4 at hd4 HQ ⊢; subst hd4
          go_wp2
          exact HQ.out _ _ ((eR _).alloc _) (fun _ => ⟨_, rfl, reads_fresh lnE [L] W _ _ (by kernel_rfl)⟩)
         ·exact fun h => absurd (by decide) h
         ·
          intro hni o ho r xs W hr hG hd hk hbf Q' hQ; obtain rfl := Option.some.inj ho; clear ho hk hni; simp only [fillAt, dstOf, lc0, lcs, obs, Act.put, lsa, lsz, lss, nz, Nat.reduceAdd] at hQ ⊢; have HQ := lh hQ; have HD := lh hd; have HG := lh hG; clear hQ hd hG
          go_wp2
          exact HQ.out _ _ (eR _) rfl
         ·exact fun h => absurd (by decide) h
         ·
          intro hkn o ho xs W hG hd Q' hQ; obtain rfl := Option.some.inj ho; clear ho hkn; simp only [fillAt, dstOf, lc0, lcs, obs, Act.put, lsa, lsz, lss, nz, Nat.reduceAdd] at hQ ⊢; have HQ := lh hQ; have HD := lh hd; have HG := lh hG; clear hQ hd hG
          have hd1 : xs 1 = .slice A2 out.length c2 := (HD.out 1 (dk (by kernel_rfl)) (by decide))
          obtain ⟨b5, h5, hr5⟩ : ∃ b, xs 5 = .slice (some ⟨b, 0, none⟩) 1 1 ∧ Reads 59 lnL W W.heap.size (some ⟨b, 0, none⟩) [L] := (HD.out 5 (dk (by kernel_rfl)) (by decide)) rfl
          generalize xs 1 = x1 at hd1 HQ ⊢; subst hd1
          generalize xs 5 = x5 at h5 HQ ⊢; subst h5
          obtain ⟨xW, uq, hRW, uR, o0, _, _⟩ := HG.out
          have HO0 := lh (o0 rfl)
          have HXW := lh xW
          have HUq := lh uq
          have HUR := lh (uR (by decide))
          have HR5 := lh hr5
          clear xW uq uR o0 HG hr5
          go_wp2_with (at_builtin; refine app_reads lnT lnE rfl _ _ rfl (R + 1) _ _ out rfl HO0.out W.heap.size _ _ [L] rfl HR5.out (fun h => by cases h) (by simp; omega) (by simp; omega) (by omega) ?_; intro A7 c7 l7 w7 HL HO5 hB hl1 hl2 hg)
          exact HQ.out _ _ (softRs_step _ (by
           intro s hs u h
           simp only [List.mem_cons, List.not_mem_nil, or_false] at hs
           rcases hs with rfl | rfl | rfl | rfl | rfl | rfl | rfl | rfl | rfl
           all_goals first
            | exact h
            | exact trivial
            | exact fun h0 => absurd h0 (by decide))) ⟨HXW.out.grown hB hWR, HUq.out.grown hg (fun h => Nat.lt_irrefl _ (own_lt HA2.out _ h)), Nat.lt_of_lt_of_le hRW hg.size, fun _ => HUR.out.below hB (Nat.lt_succ_self _), fun h => absurd h (by decide), fun _ => ⟨A7, c7, l7, rfl, HL, HO5⟩, fun h => absurd h (by decide)⟩
         ·
          intro hkn o ho xs W hG hd Q' hQ; obtain rfl := Option.some.inj ho; clear ho hkn; simp only [fillAt, dstOf, lc0, lcs, obs, Act.put, lsa, lsz, lss, nz, Nat.reduceAdd] at hQ ⊢; have HQ := lh hQ; have HD := lh hd; have HG := lh hG; clear hQ hd hG
          have hd7 : xs 7 = .pointer (some ⟨R, 19, none⟩) := (HD.out 7 (dk (by kernel_rfl)) (by decide))
          obtain ⟨xW, uq, hRW, uR, _, o1, _⟩ := HG.out
          obtain ⟨A6, c6, l6, h6, HL6, ho6⟩ := o1 rfl
          generalize xs 7 = x7 at hd7 HQ ⊢; subst hd7
          generalize xs 6 = x6 at h6 HQ ⊢; subst h6
          have HO6 := lh ho6
          have HXW := lh xW
          have HUq := lh uq
          have HUR := lh (uR (by decide))
          have hc := (HUR.out.cell 19).trans (rpw_g19 _ _ _ _)
          have hfz := HUR.out.free 19
          clear xW uq uR o1 HG ho6
          go_wp2
          exact HQ.out undef _ (softRs_step _ (by
           intro s hs u h
           simp only [List.mem_cons, List.not_mem_nil, or_false] at hs
           rcases hs with rfl | rfl | rfl | rfl | rfl | rfl | rfl | rfl | rfl
           all_goals first
            | exact h
            | exact trivial
            | exact fun h0 => absurd h0 (by decide))) ⟨HXW.out.setCell (by show _ ≤ R; omega) _, HUq.out.other (by show q ≠ R; omega) _, by simpa using hRW, fun h => absurd h (by decide), fun h => absurd h (by decide), fun h => absurd h (by decide), fun _ => ⟨A6, c6, l6, HL6, HO6.out.other (by show R < R + 1; omega) _, by
           have h := HUR.out.set 19 (.slice A6 l6.length c6)
           rw [rpw_set] at h
           exact h⟩⟩
         intro _ xs W7 hG _
         obtain ⟨xW, _, _, _, _, _, o2⟩ := hG
         obtain ⟨A7, c7, l7, HL7, ho7, uR7⟩ := o2 rfl
         simp only [fillAt, dstOf, lc0, lcs, obs, Act.put, lsa, lsz, lss, nz, Nat.reduceAdd]
         have HX7 := lh xW
         have HO7 := lh ho7
         have HR7 := lh uR7
         clear xW o2 ho7 uR7
         go_wp2
         go_roundw
         case rel => exact ⟨A7, c7, l7, n + 1, by go_num, by omega, by have h := HL7.out; rw [h, List.length_append]; simp; omega, lh (by rw [HL7.out, HN.out, HOu.out]), HR7, HO7, HX7⟩
         case measure => simp [intOf]; omega
        ·have e1 : n = g.l.length := by omega
         subst e1
         have HF : Hid (out = ML) := lh (by rw [HOu.out, List.take_of_length_le (Nat.le_refl _), HML.out])
         have HRf : Hid (RowAt wr R (rpC (rpOf k g e cs ls ⟨p0, p1⟩ A2 c2))) := lh (by rw [HC0.out, ← HR0.out, ← HF.out]; exact HRw.out)
         have HPr := lh (fun (W : World) (hx : Ext wr W) => HPt'.out A2 c2 W (by rw [← HF.out]; exact ((HOw.out.ext hx).reads lnE)))
         have HMr := lh (HMk'.out A2 c2)
         have HRs := lh (HRes.out A2 c2)
         have HLi : Hid ((rpOf k g e cs ls ⟨p0, p1⟩ A2 c2).lines = ML) := lh (by rw [HC0.out])
         clear HRw HC0 HPt' HMk' HRes HR0 HRR HLn1 HML HOu
         generalize rpOf k g e cs ls ⟨p0, p1⟩ A2 c2 = r at *
         generalize makeN k 321 (rpParts r) = D at *
         have hfr := rp_fits r
         have hfD : fitsRow 16 (dgC D) = true := by simp [fitsRow, dgC, Value.oneCell']
         have kB_0_5 : rowOf wr B 0 5 = some (kyC k) := (HUB.out.ext HX.out).all rfl (by omega)
         have kR_0_37 : rowOf wr R 0 37 = some (rpC r) := HRf.out.all rfl (by omega)
         have HUR3 := lh (HUR.out.ext HX.out)
         go_upto_region 10 with (fail)
         refine wp_region_soft 5 (softsL [.eq (.agg (kyC k)), .eq (.agg (rpC r)), readS (rpParts r), .eq (.agg (dgC D)), .eq (.pointer (some ⟨R, 21, none⟩))]) (by kernel_rfl) (by kernel_rfl) (lt_cons ?_ (lt_cons ?_ (lt_cons ?_ (lt_cons ?_ (lt_cons ?_ (lt_none)))))) ?_
         any_goals (refine sop rfl fun xs W HW hsW HD Q' HQ => ?_; simp only [fillAt, dstOf, lc0, lcs, obs, Act.put, lsa, lsz, lss, nz, Nat.reduceAdd] at HQ ⊢)
         ·
          have hc := (row_extW HW.out (b := B) (by omega) 0 5).trans kB_0_5
          go_wp2
          exact HQ.out _ _ (eR _) rfl
         ·
          have hc := (row_extW HW.out (b := R) (by omega) 0 37).trans kR_0_37
          go_wp2
          exact HQ.out _ _ (eR _) rfl
         ·
          have hd1 : xs 1 = .agg (rpC r) := (HD.out 1 (dk (by kernel_rfl)))
          generalize xs 1 = x1 at hd1 HQ ⊢; subst hd1
          go_wp2_with (go_at_call 76; refine (HPr.out _ HW.out).mono ?_; rintro e w1 ⟨A, c, rfl, h1, h2, hx⟩)
          exact HQ.out _ _ hx ⟨A, c, rfl, h1, h2⟩
         ·
          have hd0 : xs 0 = .agg (kyC k) := (HD.out 0 (dk (by kernel_rfl)))
          generalize xs 0 = x0 at hd0 HQ ⊢; subst hd0
          obtain ⟨A2, c2, h2, hr2, hz2⟩ : (readS (rpParts r)).S (xs 2) W := (HD.out 2 (dk (by kernel_rfl)))
          generalize xs 2 = x2 at h2 HQ ⊢; subst h2
          go_wp2_with (go_at_call 59; refine (HMr.out A2 c2 _ hr2 hz2 ((HX1.out.trans HX.out).trans HW.out)).mono ?_; rintro e w1 ⟨rfl, hx⟩)
          exact HQ.out _ _ hx rfl
         ·
          go_wp2
          exact HQ.out _ _ (eR _) rfl
         intro xs W4 hW hS
         have h3 : xs 3 = .agg (dgC D) := hS 3 (by omega)
         have h4 : xs 4 = .pointer (some ⟨R, 21, none⟩) := hS 4 (by omega)
         simp only [fillAt, dstOf, lc0, lcs, obs, Act.put, lsa, lsz, lss, nz, Nat.reduceAdd, List.drop_succ_cons, List.drop_zero, List.drop_nil]
         generalize xs 3 = x3 at *; subst h3
         generalize xs 4 = x4 at *; subst h4
         have HW4 := lh (HX.out.trans hW)
         have HWW4 := lh hW
         clear hS hW kB_0_5 kR_0_37
         have HU13 := lh (HRf.out.ext HWW4.out)
         have HUR4 := lh (HUR3.out.ext HWW4.out)
         have HO4 := lh (HOw.out.ext HWW4.out)
         have m1 : roomOf W4 R 21 16 = true := by rw [HU13.out.room]; rfl
         have hl4 := HWW4.out.size
         go_upto_region 11 with (fail)
         refine wp_world (fun W => Ext W1 W ∧ RowAt W R (rpC { r with sl := D }) ∧ RowAt W (B+1+1+1+1+1+1) (rpC noRp) ∧ OwnsLn (R + 1) W A2 c2 out) ⟨?_, ?_, ?_, ?_⟩ ?_
         ·exact HW4.out.setCells (by omega) _ _
         ·have h := HU13.out.sets 21 (dgC D).toList
          rw [rp_seal_set] at h
          exact h
         ·exact HUR4.out.others (by omega) _ _
         ·exact HO4.out.others (by omega) _ _
         rintro W5 ⟨x5, u5, ur5, o5⟩
         have HW5 := lh x5
         have HUR5 := lh ur5
         have HO5 := lh o5
         have k1 : rowOf W5 R 0 37 = some (rpC { r with sl := D }) := u5.all rfl (by omega)
         have m2 : roomOf W5 (B+1+1+1+1+1+1) 0 37 = true := by rw [ur5.room]; rfl
         have hl5 := u5.lt
         have hl5r := ur5.lt
         have hlw1 : B + 1 + 1 + 1 + 1 + 1 + 1 < R + 1 := by omega
         clear x5 u5 ur5 m1 HU13 HUR4 o5
         have hft := rp_fits { r with sl := D }
         go_wp2
         refine post_two (v1 := .agg (rpC { r with sl := D })) (v2 := .int .i64 0) Tryz.results22 rfl ⟨_, rfl, rp_loaded ((HUR5.out.store (ds := rpC { r with sl := D }) rfl).all rfl (by omega))⟩ rfl ⟨⟨A2, c2, by rw [HRs.out.1, HRs.out.2], ?_⟩, Ext.setCells (HX1.out.trans HW5.out) (by omega) _ _⟩
         rw [HRs.out.1]
         show OwnsLn _ _ A2 c2 r.lines
         rw [HLi.out, ← HF.out]
         exact (HO5.out.others hlw1 _ _).lower (by omega)
  ·have e0 : (k.party != 1) = true := by simpa using bp
   have HR := lh (HNo.out (by rw [HB.out, decide_eq_false bp]; simp))
   clear HNo bp
   clear HPt HMk HB HNm HLn
   obtain ⟨p0, p1⟩ := p
   go_enter Tryz.func22, Tryz.ntmps22
   go_upto_region 2 with (first
    | (go_at_call 48; refine (HKv.out _).mono ?_; rintro e w' ⟨rfl, hxl⟩; obtain ⟨xn, rfl⟩ := hxl.asLater; clear hxl)
    | (go_at_call 68; refine (HGv.out _ (by (with_reducible repeat first|exact eR _|apply eD|apply eN|apply eA|apply eO|apply eS|apply eC);all_goals first|omega|simp <;> omega)).mono ?_; rintro e w' ⟨rfl, hxl⟩; obtain ⟨xm, rfl⟩ := hxl.asLater; clear hxl)
    | (go_at_call 57; refine (HEv.out _ (by (with_reducible repeat first|exact eR _|apply eD|apply eN|apply eA|apply eO|apply eS|apply eC);all_goals first|omega|simp <;> omega)).mono ?_; rintro e w' ⟨rfl, hxl⟩; obtain ⟨xo, rfl⟩ := hxl.asLater; clear hxl)
    | (go_at_call 49; refine (HCv.out _).mono ?_; rintro e w' ⟨rfl, hxl⟩; obtain ⟨xp, rfl⟩ := hxl.asLater; clear hxl))
   refine wp_world (fun W => Ext w W ∧ RowAt W (w.heap.size + 1 + 1 + 1 + 1 + 1 + 1) (rpC noRp)) ⟨(by (with_reducible repeat first|exact eR _|apply eD|apply eN|apply eA|apply eO|apply eS|apply eC);all_goals first|omega|simp <;> omega), (RowAt.newAt (by simp)).later _⟩ ?_
   rintro W1 ⟨x1, uR⟩
   have HX1 := lh x1
   have HUR := lh uR
   have hlr := uR.lt
   have hrm : roomOf W1 (w.heap.size + 1 + 1 + 1 + 1 + 1 + 1) 0 37 = true := by rw [uR.room]; rfl
   clear x1 uR
   go_wp2
   have HR9 := HR.out
   refine post_two (v1 := .agg (rpC noRp)) (v2 := .int .i64 1) Tryz.results22 rfl ⟨_, rfl, rp_loaded ((HUR.out.store (ds := rpC noRp) rfl).all rfl (by omega))⟩ rfl ⟨⟨none, 0, by rw [HR9.1, HR9.2], by rw [HR9.1]; exact Owns.nil _ _ _ _ _⟩, Ext.setCells HX1.out (by omega) _ _⟩
end Go.Proofs.YtpfhmcdcmepfdaaGreatDoor