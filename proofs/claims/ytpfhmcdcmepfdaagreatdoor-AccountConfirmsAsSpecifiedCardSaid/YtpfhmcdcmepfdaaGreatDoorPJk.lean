
import Derived.Test.YtpfhmcdcmepfdaaGreatDoorProg
import Derived.Test.YtpfhmcdcmepfdaaGreatDoorPOwn
import Derived.WalkKit
import Derived.WalkSpells
import Derived.WalkLawsBesides
import Derived.Deep.QuietTactic
import Derived.BigQuiet
import Derived.Test.YtpfhmcdcmepfdaaGreatDoorPJp
set_option linter.unusedVariables false
set_option linter.unusedSimpArgs false
namespace Go.Proofs.YtpfhmcdcmepfdaaGreatDoor
open Go.RowKit Go.Shelf
open Go.Proofs
def cfdC (s : Cf) (e : Int) : Array Value := (cfL s ++ [Value.int .i64 e]).toArray
theorem cfd_ty : RowTy Tryz.prog 56 38 := ⟨by kernel_rfl, by kernel_rfl⟩
theorem cfd_ld (w : World) (b o : Nat) : (rowLoad 56 38 (.pointer (some ⟨b, o, none⟩))).run Tryz.prog w = rowLoadR Tryz.prog w 56 38 b o (rowOf w b o 38) := run_rowLoad cfd_ty w b o
theorem cfd_st (w : World) (b o : Nat) (cells : Array Value) : (rowStore 56 38 (.pointer (some ⟨b, o, none⟩)) (.agg cells)).run Tryz.prog w = rowStoreR Tryz.prog w 56 38 b o cells (roomOf w b o 38 && fitsRow 38 cells) := run_rowStore cfd_ty w b o cells
theorem cfd_al (w : World) : (rowAlloc 56).run Tryz.prog w = .ok (.value (.pointer (some ⟨w.heap.size, 0, none⟩))) (w.alloc (.cells (cfdC noCf 0) 56)) := run_rowAlloc (by kernel_rfl) w
theorem cfd_xl (ρ : Operand → Value) (dst : Option Tmp) (x : Operand) (t : TypeId) (pos : String) (after : Array Edge) (guard : Option (Nat × Bool)) : execOp ρ { dst, op := .load 56 x, type := t, pos, after, guard } = rowLoad 56 38 (ρ x) := rfl
theorem cfd_xs (ρ : Operand → Value) (dst : Option Tmp) (x y : Operand) (t : TypeId) (pos : String) (after : Array Edge) (guard : Option (Nat × Bool)) : execOp ρ { dst, op := .store 56 x y, type := t, pos, after, guard } = rowStore 56 38 (ρ x) (ρ y) := rfl
theorem cfd_xa (ρ : Operand → Value) (dst : Option Tmp) (t : TypeId) (pos : String) (after : Array Edge) (guard : Option (Nat × Bool)) : execOp ρ { dst, op := .alloc 56, type := t, pos, after, guard } = rowAlloc 56 := rfl
attribute [go_sem ↓] cfd_xl cfd_xs cfd_xa
attribute [go_sem] cfd_ld cfd_st cfd_al
theorem cfd_size (s : Cf) (e : Int) : (cfdC s e).size = 38 := rfl
theorem cfd_all (s : Cf) (e : Int) : rowSub (cfdC s e) 0 38 = some (cfdC s e) := rowSub_all _ _ rfl
theorem cfd_fits (s : Cf) (e : Int) : fitsRow 38 (cfdC s e) = true := by kernel_rfl
theorem cfd_cf (s : Cf) (e : Int) : rowSub (cfdC s e) 0 37 = some (cfC s) := by kernel_rfl
theorem cfd_g37 (s : Cf) (e : Int) : (cfdC s e)[37]? = some (.int .i64 e) := by kernel_rfl
attribute [go_sem] cfd_size cfd_all cfd_fits cfd_cf cfd_g37
def cfdB1 (a : Value) : Sem Next := do pure (.value (← Instr.build 56 #[(1, a)]))
theorem cfdB1_x (ρ : Operand → Value) (dst : Option Tmp) (a : Operand) (t : TypeId) (pos : String) (after : Array Edge) (guard : Option (Nat × Bool)) : execOp ρ { dst, op := .build 56 #[(1, a)], type := t, pos, after, guard } = cfdB1 (ρ a) := by kernel_rfl
attribute [go_sem ↓] cfdB1_x
theorem cfdB1_run (e : Int) (W : World) : (cfdB1 (.int .i64 e)).run Tryz.prog W = .ok (.value (.agg (cfdC noCf e))) W := by kernel_rfl
def cfdB0 (a : Value) : Sem Next := do pure (.value (← Instr.build 56 #[(0, a)]))
theorem cfdB0_x (ρ : Operand → Value) (dst : Option Tmp) (a : Operand) (t : TypeId) (pos : String) (after : Array Edge) (guard : Option (Nat × Bool)) : execOp ρ { dst, op := .build 56 #[(0, a)], type := t, pos, after, guard } = cfdB0 (ρ a) := by kernel_rfl
attribute [go_sem ↓] cfdB0_x
theorem cfdB0_run (s : Cf) (W : World) : (cfdB0 (.agg (cfC s))).run Tryz.prog W = .ok (.value (.agg (cfdC s 0))) W := by kernel_rfl
attribute [go_sem] cfdB1_run cfdB0_run
set_option maxRecDepth 100000 in
set_option maxHeartbeats 8000000 in
theorem rconfirm_any (k : Ky) (n : Int) (e : Ep) (p : Clk) (w : World) (hks : k.secret.size < 9223372036854775808) (hok : EpOk e) (hs : EpShort e) (ha : EpAt w e) (hk : RKonst w) :
  Calls Tryz.prog 18 #[.agg (kyC k), .int .i64 n, .agg (epC e), .agg (clkC p)] w fun r w' => r = .returned (.agg (cfdC (confirmN k n e p).1 (confirmN k n e p).2)) ∧ Ext w w' := by
 have HS := lh (fun W => r4site_any n W)
 have HKv := lh (fun W => rkvalid_any k W hks)
 have HEv := lh (fun (W : World) (hx : Ext w W) => revalid_any e W (ha.on hx) (by have := hs.pu; omega) hok.rvl (fun p hp => by have := hs.what p hp; omega))
 have HCv : Hid (∀ W : World, Calls Tryz.prog 34 #[.agg #[.int .i64 p.lo, .int .i64 p.hi]] W fun e' w' => e' = .returned (.bool (okClk p)) ∧ Ext W w') := lh (fun W => by
  have h := rper_any p.lo p.hi W
  rw [perclk32] at h
  exact h)
 have HNm := lh (fun (W : World) (hx : Ext w W) => rename_any e W hok hs (ha.on hx) (RowAt.ext hk hx))
 have HPt := lh (fun (h : confirmB k n e p = true) W => rcparts_any (cfOf k n e p) W (cfOf_ok h))
 have HMk := lh (fun (h : confirmB k n e p = true) (A : Option Addr) (c : Nat) (W : World) (h1 : ReadsStr W W.heap.size A (cfParts (cfOf k n e p))) (h2 : A = none → c = 0) (hx : Ext w W) => rmake_any k 320 A c (cfParts (cfOf k n e p)) W h1 h2 (confirm_lens h) (RowAt.ext hk hx))
 have HO : Hid (confirmN k n e p = if confirmB k n e p = true then (cfSeal k (cfOf k n e p), 0) else (noCf, 1)) := lh rfl
 have HB : Hid (confirmB k n e p = (siteB n && okKy k && decide (k.party = 1000 + n) && okEp e && okClk p)) := lh rfl
 have hfk := ky_fits k
 have hfe := ep_fits e
 have HNo : Hid (confirmB k n e p = false → confirmN k n e p = (noCf, 1)) := lh (fun h => by rw [HO.out, h]; simp)
 clear hks hok hs ha hk
 cases bs : siteB n with
 | false =>
  have HR := lh (HNo.out (by rw [HB.out, bs]; simp))
  rw [bs] at HS
  generalize confirmN k n e p = R at *
  clear HPt HMk HO HB HNo HNm
  obtain ⟨p0, p1⟩ := p
  go_enter Tryz.func18, Tryz.ntmps18
  go_upto_region 6 with (first
   | (go_at_call 61; refine (HS.out _).mono ?_; rintro e w' ⟨rfl, hxl⟩; obtain ⟨xm, rfl⟩ := hxl.asLater; clear hxl)
   | (go_at_call 62; refine (HKv.out _).mono ?_; rintro e w' ⟨rfl, hxl⟩; obtain ⟨xn, rfl⟩ := hxl.asLater; clear hxl)
   | (go_at_call 35; refine (HEv.out _ (by (with_reducible repeat first|exact eR _|exact eR _|apply eD|apply eN|apply eA|apply eO|apply eS|apply eC);all_goals first|omega|simp <;> omega)).mono ?_; rintro e w' ⟨rfl, hxl⟩; obtain ⟨xo, rfl⟩ := hxl.asLater; clear hxl)
   | (go_at_call 34; refine (HCv.out _).mono ?_; rintro e w' ⟨rfl, hxl⟩; obtain ⟨xp, rfl⟩ := hxl.asLater; clear hxl))
  refine wp_world (fun W => Ext w W ∧ RowAt W (w.heap.size + 1 + 1 + 1) (cfdC noCf 0)) ⟨(by (with_reducible repeat first|exact eR _|exact eR _|apply eD|apply eN|apply eA|apply eO|apply eS|apply eC);all_goals first|omega|simp <;> omega), (RowAt.newAt (by simp)).later _⟩ ?_
  rintro W1 ⟨x1, uR⟩
  have HX1 := lh x1
  have HUR := lh uR
  have hlr := uR.lt
  have hrm : roomOf W1 (w.heap.size + 1 + 1 + 1) 0 38 = true := by rw [uR.room]; rfl
  have hft := cfd_fits noCf 1
  clear x1 uR
  go_wp2
  rw [HR.out]
  exact post_row cfd_ty Tryz.results18 rfl rfl (RowAt.stored (n := 38) (ds := cfdC noCf 1) HUR.out rfl rfl (by omega)) ⟨rfl, (by (with_reducible repeat first|exact HX1.out|exact eR _|apply eD|apply eN|apply eA|apply eO|apply eS|apply eC);all_goals first|omega|simp <;> omega)⟩
 | true =>
  obtain ⟨n0, n1⟩ := siteB_is.1 bs
  cases bk : okKy k with
  | false =>
   have HR := lh (HNo.out (by rw [HB.out, bk]; simp))
   rw [bs] at HS
   rw [bk] at HKv
   generalize confirmN k n e p = R at *
   clear HPt HMk HO HB HNo HNm
   obtain ⟨p0, p1⟩ := p
   go_enter Tryz.func18, Tryz.ntmps18
   go_upto_region 6 with (first
    | (go_at_call 61; refine (HS.out _).mono ?_; rintro e w' ⟨rfl, hxl⟩; obtain ⟨xm, rfl⟩ := hxl.asLater; clear hxl)
    | (go_at_call 62; refine (HKv.out _).mono ?_; rintro e w' ⟨rfl, hxl⟩; obtain ⟨xn, rfl⟩ := hxl.asLater; clear hxl)
    | (go_at_call 35; refine (HEv.out _ (by (with_reducible repeat first|exact eR _|exact eR _|apply eD|apply eN|apply eA|apply eO|apply eS|apply eC);all_goals first|omega|simp <;> omega)).mono ?_; rintro e w' ⟨rfl, hxl⟩; obtain ⟨xo, rfl⟩ := hxl.asLater; clear hxl)
    | (go_at_call 34; refine (HCv.out _).mono ?_; rintro e w' ⟨rfl, hxl⟩; obtain ⟨xp, rfl⟩ := hxl.asLater; clear hxl))
   refine wp_world (fun W => Ext w W ∧ RowAt W (w.heap.size + 1 + 1 + 1) (cfdC noCf 0)) ⟨(by (with_reducible repeat first|exact eR _|exact eR _|apply eD|apply eN|apply eA|apply eO|apply eS|apply eC);all_goals first|omega|simp <;> omega), (RowAt.newAt (by simp)).later _⟩ ?_
   rintro W1 ⟨x1, uR⟩
   have HX1 := lh x1
   have HUR := lh uR
   have hlr := uR.lt
   have hrm : roomOf W1 (w.heap.size + 1 + 1 + 1) 0 38 = true := by rw [uR.room]; rfl
   have hft := cfd_fits noCf 1
   clear x1 uR
   go_wp2
   rw [HR.out]
   exact post_row cfd_ty Tryz.results18 rfl rfl (RowAt.stored (n := 38) (ds := cfdC noCf 1) HUR.out rfl rfl (by omega)) ⟨rfl, (by (with_reducible repeat first|exact HX1.out|exact eR _|apply eD|apply eN|apply eA|apply eO|apply eS|apply eC);all_goals first|omega|simp <;> omega)⟩
  | true =>
   by_cases bp : k.party = 1000 + n
   ·have e0 : (k.party != 1000 + n) = false := by simpa using bp
    cases be : okEp e with
    | false =>
     have HR := lh (HNo.out (by rw [HB.out, be]; simp))
     rw [bs] at HS
     rw [bk] at HKv
     rw [be] at HEv
     clear bp
     generalize confirmN k n e p = R at *
     clear HPt HMk HO HB HNo HNm
     obtain ⟨p0, p1⟩ := p
     go_enter Tryz.func18, Tryz.ntmps18
     go_upto_region 6 with (first
      | (go_at_call 61; refine (HS.out _).mono ?_; rintro e w' ⟨rfl, hxl⟩; obtain ⟨xm, rfl⟩ := hxl.asLater; clear hxl)
      | (go_at_call 62; refine (HKv.out _).mono ?_; rintro e w' ⟨rfl, hxl⟩; obtain ⟨xn, rfl⟩ := hxl.asLater; clear hxl)
      | (go_at_call 35; refine (HEv.out _ (by (with_reducible repeat first|exact eR _|exact eR _|apply eD|apply eN|apply eA|apply eO|apply eS|apply eC);all_goals first|omega|simp <;> omega)).mono ?_; rintro e w' ⟨rfl, hxl⟩; obtain ⟨xo, rfl⟩ := hxl.asLater; clear hxl)
      | (go_at_call 34; refine (HCv.out _).mono ?_; rintro e w' ⟨rfl, hxl⟩; obtain ⟨xp, rfl⟩ := hxl.asLater; clear hxl))
     refine wp_world (fun W => Ext w W ∧ RowAt W (w.heap.size + 1 + 1 + 1) (cfdC noCf 0)) ⟨(by (with_reducible repeat first|exact eR _|exact eR _|apply eD|apply eN|apply eA|apply eO|apply eS|apply eC);all_goals first|omega|simp <;> omega), (RowAt.newAt (by simp)).later _⟩ ?_
     rintro W1 ⟨x1, uR⟩
     have HX1 := lh x1
     have HUR := lh uR
     have hlr := uR.lt
     have hrm : roomOf W1 (w.heap.size + 1 + 1 + 1) 0 38 = true := by rw [uR.room]; rfl
     have hft := cfd_fits noCf 1
     clear x1 uR
     go_wp2
     rw [HR.out]
     exact post_row cfd_ty Tryz.results18 rfl rfl (RowAt.stored (n := 38) (ds := cfdC noCf 1) HUR.out rfl rfl (by omega)) ⟨rfl, (by (with_reducible repeat first|exact HX1.out|exact eR _|apply eD|apply eN|apply eA|apply eO|apply eS|apply eC);all_goals first|omega|simp <;> omega)⟩
    | true =>
     cases bc : okClk p with
     | false =>
      have HR := lh (HNo.out (by rw [HB.out, bc]; simp))
      rw [bs] at HS
      rw [bk] at HKv
      rw [be] at HEv
      rw [bc] at HCv
      clear bp
      generalize confirmN k n e p = R at *
      clear HPt HMk HO HB HNo HNm
      obtain ⟨p0, p1⟩ := p
      go_enter Tryz.func18, Tryz.ntmps18
      go_upto_region 6 with (first
       | (go_at_call 61; refine (HS.out _).mono ?_; rintro e w' ⟨rfl, hxl⟩; obtain ⟨xm, rfl⟩ := hxl.asLater; clear hxl)
       | (go_at_call 62; refine (HKv.out _).mono ?_; rintro e w' ⟨rfl, hxl⟩; obtain ⟨xn, rfl⟩ := hxl.asLater; clear hxl)
       | (go_at_call 35; refine (HEv.out _ (by (with_reducible repeat first|exact eR _|exact eR _|apply eD|apply eN|apply eA|apply eO|apply eS|apply eC);all_goals first|omega|simp <;> omega)).mono ?_; rintro e w' ⟨rfl, hxl⟩; obtain ⟨xo, rfl⟩ := hxl.asLater; clear hxl)
       | (go_at_call 34; refine (HCv.out _).mono ?_; rintro e w' ⟨rfl, hxl⟩; obtain ⟨xp, rfl⟩ := hxl.asLater; clear hxl))
      refine wp_world (fun W => Ext w W ∧ RowAt W (w.heap.size + 1 + 1 + 1) (cfdC noCf 0)) ⟨(by (with_reducible repeat first|exact eR _|exact eR _|apply eD|apply eN|apply eA|apply eO|apply eS|apply eC);all_goals first|omega|simp <;> omega), (RowAt.newAt (by simp)).later _⟩ ?_
      rintro W1 ⟨x1, uR⟩
      have HX1 := lh x1
      have HUR := lh uR
      have hlr := uR.lt
      have hrm : roomOf W1 (w.heap.size + 1 + 1 + 1) 0 38 = true := by rw [uR.room]; rfl
      have hft := cfd_fits noCf 1
      clear x1 uR
      go_wp2
      rw [HR.out]
      exact post_row cfd_ty Tryz.results18 rfl rfl (RowAt.stored (n := 38) (ds := cfdC noCf 1) HUR.out rfl rfl (by omega)) ⟨rfl, (by (with_reducible repeat first|exact HX1.out|exact eR _|apply eD|apply eN|apply eA|apply eO|apply eS|apply eC);all_goals first|omega|simp <;> omega)⟩
     | true =>
      have hB1 : confirmB k n e p = true := by rw [HB.out, bs, bk, be, bc, decide_eq_true bp]; rfl
      have HR := lh (show confirmN k n e p = (cfSeal k (cfOf k n e p), 0) by rw [HO.out, if_pos hB1])
      have HPt' := lh (HPt.out hB1)
      have HMk' := lh (HMk.out hB1)
      have HSl : Hid (cfSeal k (cfOf k n e p) = { cfOf k n e p with sl := makeN k 320 (cfParts (cfOf k n e p)) }) := lh rfl
      have HC0 : Hid (cfOf k n e p = ⟨n, e.num, epName e, p.lo, p.hi, k.serial, zeros32 16⟩) := lh rfl
      rw [bs] at HS
      rw [bk] at HKv
      rw [be] at HEv
      rw [bc] at HCv
      generalize cfOf k n e p = c at *
      generalize makeN k 320 (cfParts c) = D at *
      generalize cfSeal k c = cs at *
      generalize confirmN k n e p = R at *
      have hfd : fitsRow 16 (dgC (epName e)) = true := by simp [fitsRow, dgC, Value.oneCell']
      have hfD : fitsRow 16 (dgC D) = true := by simp [fitsRow, dgC, Value.oneCell']
      generalize epName e = N at *
      clear HPt HMk HO HB HNo bs bk bp be bc hB1
      obtain ⟨p0, p1⟩ := p
      go_enter Tryz.func18, Tryz.ntmps18
      go_upto_region 7 with (first
       | (go_at_call 61; refine (HS.out _).mono ?_; rintro e w' ⟨rfl, hxl⟩; obtain ⟨xm, rfl⟩ := hxl.asLater; clear hxl)
       | (go_at_call 62; refine (HKv.out _).mono ?_; rintro e w' ⟨rfl, hxl⟩; obtain ⟨xn, rfl⟩ := hxl.asLater; clear hxl)
       | (go_at_call 35; refine (HEv.out _ (by (with_reducible repeat first|exact eR _|exact eR _|apply eD|apply eN|apply eA|apply eO|apply eS|apply eC);all_goals first|omega|simp <;> omega)).mono ?_; rintro e w' ⟨rfl, hxl⟩; obtain ⟨xo, rfl⟩ := hxl.asLater; clear hxl)
       | (go_at_call 34; refine (HCv.out _).mono ?_; rintro e w' ⟨rfl, hxl⟩; obtain ⟨xp, rfl⟩ := hxl.asLater; clear hxl))
      refine wp_world (fun W => Ext w W ∧ RowAt W w.heap.size (kyC k) ∧ RowAt W (w.heap.size + 1) (epC e) ∧ RowAt W (w.heap.size + 1 + 1) #[.int .i64 p0, .int .i64 p1] ∧ RowAt W (w.heap.size + 1 + 1 + 1) (cfdC noCf 0)) ⟨(by (with_reducible repeat first|exact eR _|exact eR _|apply eD|apply eN|apply eA|apply eO|apply eS|apply eC);all_goals first|omega|simp <;> omega), ?_, ?_, ?_, ?_⟩ ?_
      ·exact ((((RowAt.new _ _ _).alloc _).alloc _).alloc _).later _
      ·exact (((RowAt.newAt (by simp)).alloc _).alloc _).later _
      ·exact ((RowAt.newAt (by simp)).alloc _).later _
      ·exact (RowAt.newAt (by simp)).later _
      obtain ⟨B, hB⟩ : ∃ B, w.heap.size = B := ⟨_, rfl⟩
      rw [hB]
      rintro W1 ⟨x1, uB, uE, uP, uR⟩
      have HX1 := lh x1
      have HUB := lh uB
      have HUR := lh uR
      have hlu := uR.lt
      have qE_0 : W1.cell? ⟨B+1, 0, none⟩ = some (.int .i64 e.num) := (uE.cell 0).trans (ep_g0 e)
      have kE_0_38 : rowOf W1 (B+1) 0 38 = some (epC e) := uE.all rfl (by omega)
      have qP_0 : W1.cell? ⟨B+1+1, 0, none⟩ = some (.int .i64 p0) := uP.cell 0
      have qP_1 : W1.cell? ⟨B+1+1, 1, none⟩ = some (.int .i64 p1) := uP.cell 1
      have qB_1 : W1.cell? ⟨B, 1, none⟩ = some (.int .i64 k.serial) := (uB.cell 1).trans (ky_g1 k)
      clear x1 uB uE uP uR
      have hfc := cf_fits ⟨n, e.num, N, p0, p1, k.serial, zeros32 16⟩
      refine wp_region_rowN 11 (by kernel_rfl) 9 10 (fun i => ([.int .i64 n, .pointer (some ⟨B+1, 0, none⟩), .int .i64 e.num, .agg (epC e), .agg (dgC N), .agg #[.int .i64 p0, .int .i64 p1], .pointer (some ⟨B, 1, none⟩), .int .i64 k.serial, .agg (cfC ⟨n, e.num, N, p0, p1, k.serial, zeros32 16⟩), undef, undef] : List Value).getD i undef) (cfC ⟨n, e.num, N, p0, p1, k.serial, zeros32 16⟩) (by kernel_rfl) (by kernel_rfl) (by decide) (dk (by kernel_rfl)) (dk (by kernel_rfl)) (dk (by kernel_rfl)) (lt_cons ?_ (lt_cons ?_ (lt_cons ?_ (lt_cons ?_ (lt_cons ?_ (lt_cons ?_ (lt_cons ?_ (lt_cons ?_ (lt_cons ?_ (lt_cons ?_ (lt_cons ?_ (lt_none)))))))))))) ?_ ?_ ?_
      ·
       intro _ _
       refine sop rfl fun xs W HW hsW HD Q' HQ => ?_; simp only [fillAt, dstOf, lc0, lcs, obs, Act.put, lsa, lsz, lss, nz, Nat.reduceAdd] at HQ ⊢
       go_wp2
       exact HQ.out _ _ (eR _) rfl
      ·
       intro _ _
       refine sop rfl fun xs W HW hsW HD Q' HQ => ?_; simp only [fillAt, dstOf, lc0, lcs, obs, Act.put, lsa, lsz, lss, nz, Nat.reduceAdd] at HQ ⊢
       go_wp2
       exact HQ.out _ _ (eR _) rfl
      ·
       intro _ _
       refine sop rfl fun xs W HW hsW HD Q' HQ => ?_; simp only [fillAt, dstOf, lc0, lcs, obs, Act.put, lsa, lsz, lss, nz, Nat.reduceAdd] at HQ ⊢
       have hd1 : xs 1 = .pointer (some ⟨B+1, 0, none⟩) := (HD.out 1 (dk (by kernel_rfl)))
       generalize xs 1 = x1 at hd1 HQ ⊢; subst hd1
       have hc : W.cell? ⟨B+1, 0, none⟩ = some (.int .i64 e.num) := (HW.out.cell (p := ⟨B+1, 0, none⟩) (by show B+1 < _; omega)).trans qE_0
       go_wp2
       exact HQ.out _ _ (eR _) rfl
      ·
       intro _ _
       refine sop rfl fun xs W HW hsW HD Q' HQ => ?_; simp only [fillAt, dstOf, lc0, lcs, obs, Act.put, lsa, lsz, lss, nz, Nat.reduceAdd] at HQ ⊢
       have hc := (row_extW HW.out (b := B+1) (by omega) 0 38).trans kE_0_38
       go_wp2
       exact HQ.out _ _ (eR _) rfl
      ·
       intro _ _
       refine sop rfl fun xs W HW hsW HD Q' HQ => ?_; simp only [fillAt, dstOf, lc0, lcs, obs, Act.put, lsa, lsz, lss, nz, Nat.reduceAdd] at HQ ⊢
       have hd3 : xs 3 = .agg (epC e) := (HD.out 3 (dk (by kernel_rfl)))
       generalize xs 3 = x3 at hd3 HQ ⊢; subst hd3
       go_wp2_with (go_at_call 63; refine (HNm.out _ (HX1.out.trans HW.out)).mono ?_; rintro e w1 ⟨rfl, hx⟩)
       exact HQ.out _ _ hx rfl
      ·
       intro _ _
       refine sop rfl fun xs W HW hsW HD Q' HQ => ?_; simp only [fillAt, dstOf, lc0, lcs, obs, Act.put, lsa, lsz, lss, nz, Nat.reduceAdd] at HQ ⊢
       have hc := (HW.out.cell (p := ⟨B+1+1, 0, none⟩) (by show B+1+1 < _; omega)).trans qP_0
       have hc2 := (HW.out.cell (p := ⟨B+1+1, 1, none⟩) (by show B+1+1 < _; omega)).trans qP_1
       go_wp2
       exact HQ.out _ _ (eR _) rfl
      ·
       intro _ _
       refine sop rfl fun xs W HW hsW HD Q' HQ => ?_; simp only [fillAt, dstOf, lc0, lcs, obs, Act.put, lsa, lsz, lss, nz, Nat.reduceAdd] at HQ ⊢
       go_wp2
       exact HQ.out _ _ (eR _) rfl
      ·
       intro _ _
       refine sop rfl fun xs W HW hsW HD Q' HQ => ?_; simp only [fillAt, dstOf, lc0, lcs, obs, Act.put, lsa, lsz, lss, nz, Nat.reduceAdd] at HQ ⊢
       have hd6 : xs 6 = .pointer (some ⟨B, 1, none⟩) := (HD.out 6 (dk (by kernel_rfl)))
       generalize xs 6 = x6 at hd6 HQ ⊢; subst hd6
       have hc : W.cell? ⟨B, 1, none⟩ = some (.int .i64 k.serial) := (HW.out.cell (p := ⟨B, 1, none⟩) (by show B < _; omega)).trans qB_1
       go_wp2
       exact HQ.out _ _ (eR _) rfl
      ·
       intro _ _
       refine sop rfl fun xs W HW hsW HD Q' HQ => ?_; simp only [fillAt, dstOf, lc0, lcs, obs, Act.put, lsa, lsz, lss, nz, Nat.reduceAdd] at HQ ⊢
       have hd0 : xs 0 = .int .i64 n := (HD.out 0 (dk (by kernel_rfl)))
       generalize xs 0 = x0 at hd0 HQ ⊢; subst hd0
       have hd2 : xs 2 = .int .i64 e.num := (HD.out 2 (dk (by kernel_rfl)))
       generalize xs 2 = x2 at hd2 HQ ⊢; subst hd2
       have hd4 : xs 4 = .agg (dgC N) := (HD.out 4 (dk (by kernel_rfl)))
       generalize xs 4 = x4 at hd4 HQ ⊢; subst hd4
       have hd5 : xs 5 = .agg #[.int .i64 p0, .int .i64 p1] := (HD.out 5 (dk (by kernel_rfl)))
       generalize xs 5 = x5 at hd5 HQ ⊢; subst hd5
       have hd7 : xs 7 = .int .i64 k.serial := (HD.out 7 (dk (by kernel_rfl)))
       generalize xs 7 = x7 at hd7 HQ ⊢; subst hd7
       go_wp2
       exact HQ.out _ _ (eR _) rfl
      ·exact fun h => absurd rfl h
      ·exact fun _ h => absurd rfl h
      ·
       refine sop rfl fun xs W HW hsW HD Q' HQ => ?_; simp only [fillAt, dstOf, lc0, lcs, obs, Act.put, lsa, lsz, lss, nz, Nat.reduceAdd] at HQ ⊢
       go_wp2
       exact HQ.out _ _ ((eR _).alloc _) ⟨W.heap.size, rfl, by omega, _, RowAt.new _ _ _, rfl⟩
      ·
       refine sop rfl fun xs W HW hsW HD Q' HQ => ?_; simp only [fillAt, dstOf, lc0, lcs, obs, Act.put, lsa, lsz, lss, nz, Nat.reduceAdd] at HQ ⊢
       have hdv : xs 8 = .agg (cfC ⟨n, e.num, N, p0, p1, k.serial, zeros32 16⟩) := (HD.out 8 (dk (by kernel_rfl)))
       obtain ⟨bb, hxa, hbb, ds, hrb, hzb⟩ : ∃ b, xs 9 = .pointer (some ⟨b, 0, none⟩) ∧ W1.heap.size ≤ b ∧ ∃ ds, RowAt W b ds ∧ ds.size = (cfC ⟨n, e.num, N, p0, p1, k.serial, zeros32 16⟩).size := (HD.out 9 (dk (by kernel_rfl)))
       have hrm : roomOf W bb 0 37 = true := by rw [hrb.room, hzb]; rfl
       generalize xs 8 = x8 at hdv HQ ⊢; subst hdv
       generalize xs 9 = x9 at hxa HQ ⊢; subst hxa
       clear hrb hzb
       go_wp2
       exact HQ.out undef bb rfl
      intro xs W3 g hW hxb hbaseg hrowg hvs
      simp only [fillAt, dstOf, lc0, lcs, obs, Act.put, lsa, lsz, lss, nz, Nat.reduceAdd]
      generalize xs 9 = xa at *; subst hxb
      have HW3 := lh (HX1.out.trans hW)
      have HWW3 := lh hW
      have HRg := lh hrowg
      have hlg := hrowg.lt
      clear hW hvs hrowg qE_0 kE_0_38 qP_0 qP_1 qB_1
      rw [← HC0.out] at HRg
      have hs13 := HWW3.out.size
      have kB_0_5 : rowOf W3 B 0 5 = some (kyC k) := (HUB.out.ext HWW3.out).all rfl (by omega)
      have kg_0_37 : rowOf W3 g 0 37 = some (cfC c) := HRg.out.all rfl (by omega)
      have HUR3 := lh (HUR.out.ext HWW3.out)
      clear HUB HUR HC0 hfc
      go_upto_region 8 with (fail)
      refine wp_region_soft 5 (softsL [.eq (.agg (kyC k)), .eq (.agg (cfC c)), readS (cfParts c), .eq (.agg (dgC D)), .eq (.pointer (some ⟨g, 21, none⟩))]) (by kernel_rfl) (by kernel_rfl) (lt_cons ?_ (lt_cons ?_ (lt_cons ?_ (lt_cons ?_ (lt_cons ?_ (lt_none)))))) ?_
      ·
       refine sop rfl fun xs W HW hsW HD Q' HQ => ?_; simp only [fillAt, dstOf, lc0, lcs, obs, Act.put, lsa, lsz, lss, nz, Nat.reduceAdd] at HQ ⊢
       have hc := (row_extW HW.out (b := B) (by omega) 0 5).trans kB_0_5
       go_wp2
       exact HQ.out _ _ (eR _) rfl
      ·
       refine sop rfl fun xs W HW hsW HD Q' HQ => ?_; simp only [fillAt, dstOf, lc0, lcs, obs, Act.put, lsa, lsz, lss, nz, Nat.reduceAdd] at HQ ⊢
       have hc := (row_extW HW.out (b := g) (by omega) 0 37).trans kg_0_37
       go_wp2
       exact HQ.out _ _ (eR _) rfl
      ·
       refine sop rfl fun xs W HW hsW HD Q' HQ => ?_; simp only [fillAt, dstOf, lc0, lcs, obs, Act.put, lsa, lsz, lss, nz, Nat.reduceAdd] at HQ ⊢
       have hd1 : xs 1 = .agg (cfC c) := (HD.out 1 (dk (by kernel_rfl)))
       generalize xs 1 = x1 at hd1 HQ ⊢; subst hd1
       go_wp2_with (go_at_call 64; refine (HPt'.out _).mono ?_; rintro e w1 ⟨A, c, rfl, h1, h2, hx⟩)
       exact HQ.out _ _ hx ⟨A, c, rfl, h1, h2⟩
      ·
       refine sop rfl fun xs W HW hsW HD Q' HQ => ?_; simp only [fillAt, dstOf, lc0, lcs, obs, Act.put, lsa, lsz, lss, nz, Nat.reduceAdd] at HQ ⊢
       have hd0 : xs 0 = .agg (kyC k) := (HD.out 0 (dk (by kernel_rfl)))
       generalize xs 0 = x0 at hd0 HQ ⊢; subst hd0
       obtain ⟨A2, c2, h2, hr2, hz2⟩ : (readS (cfParts c)).S (xs 2) W := (HD.out 2 (dk (by kernel_rfl)))
       generalize xs 2 = x2 at h2 HQ ⊢; subst h2
       go_wp2_with (go_at_call 31; refine (HMk'.out A2 c2 _ hr2 hz2 (HW3.out.trans HW.out)).mono ?_; rintro e w1 ⟨rfl, hx⟩)
       exact HQ.out _ _ hx rfl
      ·
       refine sop rfl fun xs W HW hsW HD Q' HQ => ?_; simp only [fillAt, dstOf, lc0, lcs, obs, Act.put, lsa, lsz, lss, nz, Nat.reduceAdd] at HQ ⊢
       go_wp2
       exact HQ.out _ _ (eR _) rfl
      intro xs W4 hW hS
      have h3 : xs 3 = .agg (dgC D) := hS 3 (by omega)
      have h4 : xs 4 = .pointer (some ⟨g, 21, none⟩) := hS 4 (by omega)
      simp only [fillAt, dstOf, lc0, lcs, obs, Act.put, lsa, lsz, lss, nz, Nat.reduceAdd, List.drop_succ_cons, List.drop_zero, List.drop_nil]
      generalize xs 3 = x3 at *; subst h3
      generalize xs 4 = x4 at *; subst h4
      have HW4 := lh (HW3.out.trans hW)
      have HWW4 := lh hW
      clear hS hW kB_0_5 kg_0_37
      have HU13 := lh (HRg.out.ext HWW4.out)
      have HUR4 := lh (HUR3.out.ext HWW4.out)
      have m1 : roomOf W4 g 21 16 = true := by rw [HU13.out.room]; rfl
      have hl4 := HWW4.out.size
      go_upto_region 9 with (fail)
      refine wp_world (fun W => Ext w W ∧ RowAt W g (cfC { c with sl := D }) ∧ RowAt W (B+1+1+1) (cfdC noCf 0)) ⟨?_, ?_, ?_⟩ ?_
      ·exact HW4.out.setCells (by have := HX1.out.size; omega) _ _
      ·have h := HU13.out.sets 21 (dgC D).toList
       rw [cf_seal_set] at h
       exact h
      ·exact HUR4.out.others (by omega) _ _
      rintro W5 ⟨x5, u5, ur5⟩
      have HW5 := lh x5
      have HUR5 := lh ur5
      have k1 : rowOf W5 g 0 37 = some (cfC { c with sl := D }) := u5.all rfl (by omega)
      have m2 : roomOf W5 (B+1+1+1) 0 38 = true := by rw [ur5.room]; rfl
      have hl5 := u5.lt
      have hl5r := ur5.lt
      clear x5 u5 ur5 m1 HU13 HUR4
      have hft := cfd_fits { c with sl := D } 0
      go_wp2
      rw [HR.out, HSl.out]
      exact post_row cfd_ty Tryz.results18 rfl rfl (RowAt.stored (n := 38) (ds := cfdC { c with sl := D } 0) HUR5.out rfl rfl (by omega)) ⟨rfl, (by (with_reducible repeat first|exact HW5.out|exact eR _|apply eD|apply eN|apply eA|apply eO|apply eS|apply eC);all_goals first|omega|simp <;> omega)⟩
   ·have e0 : (k.party != 1000 + n) = true := by simpa using bp
    have HR := lh (HNo.out (by rw [HB.out, decide_eq_false bp]; simp))
    rw [bs] at HS
    rw [bk] at HKv
    clear bp
    generalize confirmN k n e p = R at *
    clear HPt HMk HO HB HNo HNm
    obtain ⟨p0, p1⟩ := p
    go_enter Tryz.func18, Tryz.ntmps18
    go_upto_region 6 with (first
     | (go_at_call 61; refine (HS.out _).mono ?_; rintro e w' ⟨rfl, hxl⟩; obtain ⟨xm, rfl⟩ := hxl.asLater; clear hxl)
     | (go_at_call 62; refine (HKv.out _).mono ?_; rintro e w' ⟨rfl, hxl⟩; obtain ⟨xn, rfl⟩ := hxl.asLater; clear hxl)
     | (go_at_call 35; refine (HEv.out _ (by (with_reducible repeat first|exact eR _|exact eR _|apply eD|apply eN|apply eA|apply eO|apply eS|apply eC);all_goals first|omega|simp <;> omega)).mono ?_; rintro e w' ⟨rfl, hxl⟩; obtain ⟨xo, rfl⟩ := hxl.asLater; clear hxl)
     | (go_at_call 34; refine (HCv.out _).mono ?_; rintro e w' ⟨rfl, hxl⟩; obtain ⟨xp, rfl⟩ := hxl.asLater; clear hxl))
    refine wp_world (fun W => Ext w W ∧ RowAt W (w.heap.size + 1 + 1 + 1) (cfdC noCf 0)) ⟨(by (with_reducible repeat first|exact eR _|exact eR _|apply eD|apply eN|apply eA|apply eO|apply eS|apply eC);all_goals first|omega|simp <;> omega), (RowAt.newAt (by simp)).later _⟩ ?_
    rintro W1 ⟨x1, uR⟩
    have HX1 := lh x1
    have HUR := lh uR
    have hlr := uR.lt
    have hrm : roomOf W1 (w.heap.size + 1 + 1 + 1) 0 38 = true := by rw [uR.room]; rfl
    have hft := cfd_fits noCf 1
    clear x1 uR
    go_wp2
    rw [HR.out]
    exact post_row cfd_ty Tryz.results18 rfl rfl (RowAt.stored (n := 38) (ds := cfdC noCf 1) HUR.out rfl rfl (by omega)) ⟨rfl, (by (with_reducible repeat first|exact HX1.out|exact eR _|apply eD|apply eN|apply eA|apply eO|apply eS|apply eC);all_goals first|omega|simp <;> omega)⟩
end Go.Proofs.YtpfhmcdcmepfdaaGreatDoor