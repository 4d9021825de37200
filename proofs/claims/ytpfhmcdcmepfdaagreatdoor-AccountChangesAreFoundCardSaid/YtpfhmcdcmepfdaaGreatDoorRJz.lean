
import Derived.WalkKit
import Derived.WalkSpells
import Derived.WalkLawsBesides
import Derived.Deep.QuietTactic
import Derived.BigQuiet
import Derived.Test.YtpfhmcdcmepfdaaGreatDoorROd
import Derived.Test.YtpfhmcdcmepfdaaGreatDoorRJr
set_option maxRecDepth 100000
set_option maxHeartbeats 64000000
set_option linter.unusedVariables false
set_option linter.unusedSimpArgs false
namespace Go.Proofs.YtpfhmcdcmepfdaaGreatDoor
open Go.RowKit Go.Shelf
open Go.Proofs
theorem cfd_ty : RowTy Tryz.prog 56 38 := ⟨by kernel_rfl, by kernel_rfl⟩
theorem cfd_ld (w : World) (b o : Nat) : (rowLoad 56 38 (.pointer (some ⟨b, o, none⟩))).run Tryz.prog w = rowLoadR Tryz.prog w 56 38 b o (rowOf w b o 38) := run_rowLoad cfd_ty w b o
theorem cfd_st (w : World) (b o : Nat) (cells : Array Value) : (rowStore 56 38 (.pointer (some ⟨b, o, none⟩)) (.agg cells)).run Tryz.prog w = rowStoreR Tryz.prog w 56 38 b o cells (roomOf w b o 38 && fitsRow 38 cells) := run_rowStore cfd_ty w b o cells
theorem cfd_xl (ρ : Operand → Value) (dst : Option Tmp) (x : Operand) (t : TypeId) (pos : String) (after : Array Edge) (guard : Option (Nat × Bool)) : execOp ρ { dst, op := .load 56 x, type := t, pos, after, guard } = rowLoad 56 38 (ρ x) := rfl
theorem cfd_xs (ρ : Operand → Value) (dst : Option Tmp) (x y : Operand) (t : TypeId) (pos : String) (after : Array Edge) (guard : Option (Nat × Bool)) : execOp ρ { dst, op := .store 56 x y, type := t, pos, after, guard } = rowStore 56 38 (ρ x) (ρ y) := rfl
theorem cfd_xa (ρ : Operand → Value) (dst : Option Tmp) (t : TypeId) (pos : String) (after : Array Edge) (guard : Option (Nat × Bool)) : execOp ρ { dst, op := .alloc 56, type := t, pos, after, guard } = rowAlloc 56 := rfl
attribute [go_sem ↓] cfd_xl cfd_xs cfd_xa
attribute [go_sem] cfd_ld cfd_st
def cfdB1 (a : Value) : Sem Next := do pure (.value (← Instr.build 56 #[(1, a)]))
theorem cfdB1_x (ρ : Operand → Value) (dst : Option Tmp) (a : Operand) (t : TypeId) (pos : String) (after : Array Edge) (guard : Option (Nat × Bool)) : execOp ρ { dst, op := .build 56 #[(1, a)], type := t, pos, after, guard } = cfdB1 (ρ a) := by kernel_rfl
attribute [go_sem ↓] cfdB1_x
def cfdB0 (a : Value) : Sem Next := do pure (.value (← Instr.build 56 #[(0, a)]))
theorem cfdB0_x (ρ : Operand → Value) (dst : Option Tmp) (a : Operand) (t : TypeId) (pos : String) (after : Array Edge) (guard : Option (Nat × Bool)) : execOp ρ { dst, op := .build 56 #[(0, a)], type := t, pos, after, guard } = cfdB0 (ρ a) := by kernel_rfl
attribute [go_sem ↓] cfdB0_x
def epB2 (a b : Value) : Sem Next := do pure (.value (← Instr.build 49 #[(0, a), (2, b)]))
theorem epB2_x (ρ : Operand → Value) (dst : Option Tmp) (a b : Operand) (t : TypeId) (pos : String) (after : Array Edge) (guard : Option (Nat × Bool)) : execOp ρ { dst, op := .build 49 #[(0, a), (2, b)], type := t, pos, after, guard } = epB2 (ρ a) (ρ b) := by kernel_rfl
attribute [go_sem ↓] epB2_x
theorem epB2_run (n lo hi : Int) (W : World) : (epB2 (.int .i64 n) (.agg #[.int .i64 lo, .int .i64 hi])).run Tryz.prog W = .ok (.value (.agg (epC ⟨n, zeros32 16, lo, hi, none, 0, [], none, 0, [], 0, zeros32 16⟩))) W := by kernel_rfl
def grB1 (a b : Value) : Sem Next := do pure (.value (← Instr.build 128 #[(0, a), (1, b)]))
theorem grB1_x (ρ : Operand → Value) (dst : Option Tmp) (a b : Operand) (t : TypeId) (pos : String) (after : Array Edge) (guard : Option (Nat × Bool)) : execOp ρ { dst, op := .build 128 #[(0, a), (1, b)], type := t, pos, after, guard } = grB1 (ρ a) (ρ b) := by kernel_rfl
attribute [go_sem ↓] grB1_x
theorem grB1_run (a b : Int) (W : World) : (grB1 (.int .i64 a) (.int .i64 b)).run Tryz.prog W = .ok (.value (.agg (grC ⟨a, b, 0⟩))) W := by kernel_rfl
def grB2 (a b : Value) : Sem Next := do pure (.value (← Instr.build 128 #[(0, a), (2, b)]))
theorem grB2_x (ρ : Operand → Value) (dst : Option Tmp) (a b : Operand) (t : TypeId) (pos : String) (after : Array Edge) (guard : Option (Nat × Bool)) : execOp ρ { dst, op := .build 128 #[(0, a), (2, b)], type := t, pos, after, guard } = grB2 (ρ a) (ρ b) := by kernel_rfl
attribute [go_sem ↓] grB2_x
theorem grB2_run (a b : Int) (W : World) : (grB2 (.int .i64 a) (.int .i64 b)).run Tryz.prog W = .ok (.value (.agg (grC ⟨a, 0, b⟩))) W := by kernel_rfl
def gsB3 (a b c : Value) : Sem Next := do pure (.value (← Instr.build 62 #[(0, a), (1, b), (2, c)]))
theorem gsB3_x (ρ : Operand → Value) (dst : Option Tmp) (a b c : Operand) (t : TypeId) (pos : String) (after : Array Edge) (guard : Option (Nat × Bool)) : execOp ρ { dst, op := .build 62 #[(0, a), (1, b), (2, c)], type := t, pos, after, guard } = gsB3 (ρ a) (ρ b) (ρ c) := by kernel_rfl
attribute [go_sem ↓] gsB3_x
theorem gsB3_run (a b : Int) (A : Option Addr) (n c : Nat) (W : World) : (gsB3 (.int .i64 a) (.int .i64 b) (.slice A n c)).run Tryz.prog W = .ok (.value (.agg #[.int .i64 a, .int .i64 b, .slice A n c])) W := by kernel_rfl
def leB2 (a b : Value) : Sem Next := do pure (.value (← Instr.build 87 #[(0, a), (2, b)]))
theorem leB2_x (ρ : Operand → Value) (dst : Option Tmp) (a b : Operand) (t : TypeId) (pos : String) (after : Array Edge) (guard : Option (Nat × Bool)) : execOp ρ { dst, op := .build 87 #[(0, a), (2, b)], type := t, pos, after, guard } = leB2 (ρ a) (ρ b) := by kernel_rfl
attribute [go_sem ↓] leB2_x
theorem leB2_run (a b : Int) (W : World) : (leB2 (.int .i64 a) (.int .i64 b)).run Tryz.prog W = .ok (.value (.agg (leC ⟨a, 0, b, 0, zeros32 16⟩))) W := by kernel_rfl
attribute [go_sem] epB2_run grB1_run grB2_run gsB3_run leB2_run
def readKs (l : List Ky) : Soft := ⟨fun v w => ∃ A c, v = .slice A l.length c ∧ ReadsKy w w.heap.size A l, fun _ _ _ ⟨A, c, h1, h2⟩ hx => ⟨A, c, h1, h2.on hx⟩⟩
theorem lkeys_is (W : World) : Calls Tryz.prog 29 #[] W fun e w' => (∃ A c, e = .returned (.slice A theKeys.length c) ∧ ReadsKy w' w'.heap.size A theKeys) ∧ Ext W w' := by
 refine (lkeys_any W).mono ?_
 rintro e w' ⟨⟨A, c, l, h1, h2, h3⟩, hx⟩
 have h2 := h2.out
 subst h2
 exact ⟨⟨A, c, h1, h3.reads kyE⟩, hx⟩
theorem lsanity_any (w : World) (hk : KonstP w) (hr : RKonst w) :
  Calls Tryz.prog 16 #[] w fun e w' => e = .returned (.bool true) ∧ Ext w w' := by
 have HK := lh (fun p (W : World) => lkey_any p W)
 have HKs := lh (fun (W : World) => lkeys_any W)
 have HCf : Hid (∀ W : World, Ext w W → Calls Tryz.prog 17 #[.agg (kyC (theKey 1003)), .int .i64 3, .agg (epC exE), .agg #[.int .i64 120, .int .i64 130]] W fun r w' => r = .returned (.tuple #[.agg (cfC exC), .int .i64 0]) ∧ Ext W w') := lh (fun W hx => by
  have h := aconfirm_any (theKey 1003) 3 exE ⟨120, 130⟩ W (by decide) exE_ok exE_short (exE_at W) (RowAt.ext hk hx)
  rw [ex_conf] at h
  exact h)
 have HL5 : Hid (∀ W : World, Ext w W → Calls Tryz.prog 55 #[.agg (kyC (theKey 1)), .agg (leC ⟨5, 0, 900, 0, zeros32 16⟩)] W fun e w' => e = .returned (.agg (leC exL)) ∧ Ext W w') := lh (fun W hx => by
  have h := rsealLease_any (theKey 1) ⟨5, 0, 900, 0, zeros32 16⟩ W (by decide) (i64_of (by decide)) (RowAt.ext hr hx)
  rw [ex_lease] at h
  exact h)
 have HLm : Hid (∀ W : World, Ext w W → Calls Tryz.prog 55 #[.agg (kyC (theKey 1)), .agg (leC ⟨5, 0, 1000, 0, zeros32 16⟩)] W fun e w' => e = .returned (.agg (leC exM)) ∧ Ext W w') := lh (fun W hx => by
  have h := rsealLease_any (theKey 1) ⟨5, 0, 1000, 0, zeros32 16⟩ W (by decide) (i64_of (by decide)) (RowAt.ext hr hx)
  rw [ex_late] at h
  exact h)
 have HMk8 : Hid (∀ (GA : Option Addr) (gc : Nat) (CA : Option Addr) (cc : Nat) (LsA : Option Addr) (lsc : Nat) (W : World), Ext w W → Reads 3 grL W W.heap.size GA [⟨3, 1, 0⟩, ⟨5, 0, 900⟩] → Reads 37 cfL W W.heap.size CA [exC] → Reads 20 leL W W.heap.size LsA [exL] →
   Calls Tryz.prog 22 #[.agg (kyC (theKey 1)), .agg (gsC (exG GA gc)), .agg (epC exE), .slice CA 1 cc, .slice LsA 1 lsc, .agg #[.int .i64 800, .int .i64 810]] W fun r w' => (∃ LA lc, r = .returned (.tuple #[.agg (rpC (exO LA lc)), .int .i64 0]) ∧ OwnsLn W.heap.size w' LA lc [exLn0, exLn2]) ∧ Ext W w') := lh (fun GA gc CA cc LsA lsc W hx h1 h2 h3 => by
  refine (amake_any (theKey 1) (exG GA gc) exE CA LsA cc lsc [exC] [exL] ⟨800, 810⟩ W (by decide) (by show 2 ≤ 100000; decide) h1 exE_ok exE_short (exE_at W) (by decide) (by decide) (by intro c hc; rw [List.mem_singleton] at hc; rw [hc]; exact exC_ok) (by intro c hc; rw [List.mem_singleton] at hc; rw [hc]; exact exL_ok) h2 h3 (RowAt.ext hk hx)).mono ?_
  rintro r w' ⟨⟨LA, lc, h4, h5⟩, h6⟩
  rw [ex_make8] at h4 h5
  rw [ex_err8] at h4
  exact ⟨⟨LA, lc, h4, h5⟩, h6⟩)
 have HMk9 : Hid (∀ (GA : Option Addr) (gc : Nat) (CA : Option Addr) (cc : Nat) (LsA : Option Addr) (lsc : Nat) (W : World), Ext w W → Reads 3 grL W W.heap.size GA [⟨3, 1, 0⟩, ⟨5, 0, 900⟩] → Reads 37 cfL W W.heap.size CA [exC] → Reads 20 leL W W.heap.size LsA [exL] →
   Calls Tryz.prog 22 #[.agg (kyC (theKey 1)), .agg (gsC (exG GA gc)), .agg (epC exE), .slice CA 1 cc, .slice LsA 1 lsc, .agg #[.int .i64 900, .int .i64 910]] W fun r w' => (∃ LA lc, r = .returned (.tuple #[.agg (rpC (exR LA lc)), .int .i64 0]) ∧ OwnsLn W.heap.size w' LA lc [exLn0, exLn1]) ∧ Ext W w') := lh (fun GA gc CA cc LsA lsc W hx h1 h2 h3 => by
  refine (amake_any (theKey 1) (exG GA gc) exE CA LsA cc lsc [exC] [exL] ⟨900, 910⟩ W (by decide) (by show 2 ≤ 100000; decide) h1 exE_ok exE_short (exE_at W) (by decide) (by decide) (by intro c hc; rw [List.mem_singleton] at hc; rw [hc]; exact exC_ok) (by intro c hc; rw [List.mem_singleton] at hc; rw [hc]; exact exL_ok) h2 h3 (RowAt.ext hk hx)).mono ?_
  rintro r w' ⟨⟨LA, lc, h4, h5⟩, h6⟩
  rw [ex_make9] at h4 h5
  rw [ex_err9] at h4
  exact ⟨⟨LA, lc, h4, h5⟩, h6⟩)
 have hfe := ep_fits exE
 have hfg : ∀ A : Option Addr, fitsRow 3 #[Value.int .i64 1, .int .i64 1000, .slice A 2 2] = true := fun A => by kernel_rfl
 have hE0 : (⟨1, zeros32 16, 100, 110, none, 0, [], none, 0, [], 0, zeros32 16⟩ : Ep) = exE := rfl
 have HE0 := lh hE0
 have hz6 : (Array.foldl (fun (cs : Array Value) (x : Value × Nat) => cs.setIfInBounds x.snd x.fst) #[.int .i64 0, .int .i64 0, .int .i64 0, .int .i64 0, .int .i64 0, .int .i64 0] ((grC ⟨3, 1, 0⟩).zipIdx) 0 3).size = 6 := by kernel_rfl
 clear hE0
 go_enter Tryz.func16, Tryz.ntmps16
 go_upto_region 3 with (fail)
 clear hz6 hfg
 refine wp_world (fun W => Ext w W ∧ RowAt W w.heap.size (epC exE) ∧ RowAt W (w.heap.size + 1 + 1) (gsC (exG (some ⟨w.heap.size + 1, 0, none⟩) 2)) ∧ Reads 3 grL W W.heap.size (some ⟨w.heap.size + 1, 0, none⟩) [⟨3, 1, 0⟩, ⟨5, 0, 900⟩]) ⟨(by (with_reducible repeat first|exact eR _|apply eD|apply eN|apply eA|apply eO|apply eS|apply eC);all_goals first|omega|simp <;> omega), ?_, ?_, ?_⟩ ?_
 ·refine RowAt.others (RowAt.alloc (RowAt.alloc ?_ _) _) (by omega) _ _
  exact RowAt.store (RowAt.new _ _ _) rfl
 ·refine RowAt.store (ds := gsC (exG (some ⟨w.heap.size + 1, 0, none⟩) 2)) (cs := gsC noGs) (RowAt.newAt ?_) rfl
  rw [World.size_alloc, setCells_size, World.size_alloc]
 ·refine Reads.on ?_ (Ext.setCells (Ext.alloc (eR _) _) (by rw [World.size_alloc, setCells_size, World.size_alloc]; omega) _ _)
  exact reads_freshAt grE [⟨3, 1, 0⟩, ⟨5, 0, 900⟩] _ _ 128 _ (by rw [setCells_size]; simp) (by kernel_rfl)
 obtain ⟨B, hB⟩ : ∃ B, w.heap.size = B := ⟨_, rfl⟩
 rw [hB]
 rintro W2 ⟨x2, uE, uG, hrg⟩
 have HX2 := lh x2
 have HUG := lh uG
 have HUE := lh uE
 have HRG := lh hrg
 have hlu := uG.lt
 have kE : rowOf W2 B 0 38 = some (epC exE) := uE.all rfl (by omega)
 clear x2 uE uG hrg
 refine wp_region_rowN 10 (by kernel_rfl) 7 8 (fun i => ([.agg (kyC (theKey 1003)), .agg (epC exE), .agg #[.int .i64 120, .int .i64 130], .tuple #[.agg (cfC exC), .int .i64 0], .tuple #[.agg (cfC exC), .int .i64 0], .agg (cfC exC), .int .i64 0, undef, undef, .int .i64 0] : List Value).getD i undef) (cfC exC) (by kernel_rfl) (by kernel_rfl) (by decide) (dk (by kernel_rfl)) (dk (by kernel_rfl)) (dk (by kernel_rfl)) (lt_cons ?_ (lt_cons ?_ (lt_cons ?_ (lt_cons ?_ (lt_cons ?_ (lt_cons ?_ (lt_cons ?_ (lt_cons ?_ (lt_cons ?_ (lt_cons ?_ (lt_none))))))))))) ?_ ?_ ?_
 ·
  intro _ _
  refine sop rfl fun xs W HW hsW HD Q' HQ => ?_; simp only [fillAt, dstOf, lc0, lcs, obs, Act.put, lsa, lsz, lss, nz, Nat.reduceAdd] at HQ ⊢
  go_wp2_with (go_at_call 32; refine (HK.out 1003 _).mono ?_; rintro e w1 ⟨rfl, hx⟩)
  exact HQ.out _ _ hx rfl
 ·
  intro _ _
  refine sop rfl fun xs W HW hsW HD Q' HQ => ?_; simp only [fillAt, dstOf, lc0, lcs, obs, Act.put, lsa, lsz, lss, nz, Nat.reduceAdd] at HQ ⊢
  have hc := (row_extW HW.out (b := B) (by omega) 0 38).trans kE
  go_wp2
  exact HQ.out _ _ (eR _) rfl
 ·
  intro _ _
  refine sop rfl fun xs W HW hsW HD Q' HQ => ?_; simp only [fillAt, dstOf, lc0, lcs, obs, Act.put, lsa, lsz, lss, nz, Nat.reduceAdd] at HQ ⊢
  go_wp2
  exact HQ.out _ _ (eR _) rfl
 ·
  intro _ _
  refine sop rfl fun xs W HW hsW HD Q' HQ => ?_; simp only [fillAt, dstOf, lc0, lcs, obs, Act.put, lsa, lsz, lss, nz, Nat.reduceAdd] at HQ ⊢
  have hd0 : xs 0 = .agg (kyC (theKey 1003)) := (HD.out 0 (dk (by kernel_rfl)))
  generalize xs 0 = x0 at hd0 HQ ⊢; subst hd0
  have hd1 : xs 1 = .agg (epC exE) := (HD.out 1 (dk (by kernel_rfl)))
  generalize xs 1 = x1 at hd1 HQ ⊢; subst hd1
  have hd2 : xs 2 = .agg #[.int .i64 120, .int .i64 130] := (HD.out 2 (dk (by kernel_rfl)))
  generalize xs 2 = x2 at hd2 HQ ⊢; subst hd2
  go_wp2_with (go_at_call 17; refine (HCf.out _ (HX2.out.trans HW.out)).mono ?_; rintro e w1 ⟨rfl, hx⟩)
  exact HQ.out _ _ hx rfl
 ·
  intro _ _
  refine sop rfl fun xs W HW hsW HD Q' HQ => ?_; simp only [fillAt, dstOf, lc0, lcs, obs, Act.put, lsa, lsz, lss, nz, Nat.reduceAdd] at HQ ⊢
  have hd3 : xs 3 = .tuple #[.agg (cfC exC), .int .i64 0] := (HD.out 3 (dk (by kernel_rfl)))
  generalize xs 3 = x3 at hd3 HQ ⊢; subst hd3
  go_wp2
  exact HQ.out _ _ (eR _) rfl
 ·
  intro _ _
  refine sop rfl fun xs W HW hsW HD Q' HQ => ?_; simp only [fillAt, dstOf, lc0, lcs, obs, Act.put, lsa, lsz, lss, nz, Nat.reduceAdd] at HQ ⊢
  have hd4 : xs 4 = .tuple #[.agg (cfC exC), .int .i64 0] := (HD.out 4 (dk (by kernel_rfl)))
  generalize xs 4 = x4 at hd4 HQ ⊢; subst hd4
  go_wp2
  exact HQ.out _ _ (eR _) rfl
 ·
  intro _ _
  refine sop rfl fun xs W HW hsW HD Q' HQ => ?_; simp only [fillAt, dstOf, lc0, lcs, obs, Act.put, lsa, lsz, lss, nz, Nat.reduceAdd] at HQ ⊢
  have hd4 : xs 4 = .tuple #[.agg (cfC exC), .int .i64 0] := (HD.out 4 (dk (by kernel_rfl)))
  generalize xs 4 = x4 at hd4 HQ ⊢; subst hd4
  go_wp2
  exact HQ.out _ _ (eR _) rfl
 ·exact fun h => absurd rfl h
 ·exact fun _ h => absurd rfl h
 ·
  intro _ _
  refine sop rfl fun xs W HW hsW HD Q' HQ => ?_; simp only [fillAt, dstOf, lc0, lcs, obs, Act.put, lsa, lsz, lss, nz, Nat.reduceAdd] at HQ ⊢
  have hd6 : xs 6 = .int .i64 0 := (HD.out 6 (dk (by kernel_rfl)))
  generalize xs 6 = x6 at hd6 HQ ⊢; subst hd6
  go_wp2
  exact HQ.out _ _ (eR _) rfl
 ·
  refine sop rfl fun xs W HW hsW HD Q' HQ => ?_; simp only [fillAt, dstOf, lc0, lcs, obs, Act.put, lsa, lsz, lss, nz, Nat.reduceAdd] at HQ ⊢
  go_wp2
  exact HQ.out _ _ ((eR _).alloc _) ⟨W.heap.size, rfl, by omega, _, RowAt.new _ _ _, rfl⟩
 ·
  refine sop rfl fun xs W HW hsW HD Q' HQ => ?_; simp only [fillAt, dstOf, lc0, lcs, obs, Act.put, lsa, lsz, lss, nz, Nat.reduceAdd] at HQ ⊢
  have hdv : xs 5 = .agg (cfC exC) := (HD.out 5 (dk (by kernel_rfl)))
  obtain ⟨bb, hxa, hbb, ds, hrb, hzb⟩ : ∃ b, xs 7 = .pointer (some ⟨b, 0, none⟩) ∧ W2.heap.size ≤ b ∧ ∃ ds, RowAt W b ds ∧ ds.size = (cfC exC).size := (HD.out 7 (dk (by kernel_rfl)))
  have hrm : roomOf W bb 0 37 = true := by rw [hrb.room, hzb]; rfl
  generalize xs 5 = x5 at hdv HQ ⊢; subst hdv
  generalize xs 7 = x7 at hxa HQ ⊢; subst hxa
  clear hrb hzb
  go_wp2
  exact HQ.out undef bb rfl
 intro xs W3 g hW hxb hbaseg hrowg hvs
 have h9 : xs 9 = .int .i64 0 := hvs 9 (dk (by kernel_rfl)) (by decide) (by decide)
 simp only [fillAt, dstOf, lc0, lcs, obs, Act.put, lsa, lsz, lss, nz, Nat.reduceAdd]
 generalize xs 9 = x9 at *; subst h9
 generalize xs 7 = xa at *; subst hxb
 have HW3 := lh (HX2.out.trans hW)
 have HWW3 := lh hW
 have HRg := lh hrowg
 have hlg := hrowg.lt
 clear hW hvs hrowg kE
 have hs23 := HWW3.out.size
 go_upto_region 5 with (first | (go_at_call 32; refine (HK.out _ _).mono ?_; rintro e w' ⟨rfl, hxl⟩; obtain ⟨xk, rfl⟩ := hxl.asLater; clear hxl) | (go_at_call 55; refine (HL5.out _ (HW3.out.onto _)).mono ?_; rintro e w' ⟨rfl, hxl⟩; obtain ⟨xl, rfl⟩ := hxl.asLater; clear hxl))
 refine wp_world (fun W => Ext W3 W ∧ RowAt W (W3.heap.size + (xk.comp xl).n) (leC exL)) ⟨(by (with_reducible repeat first|exact eR _|apply eD|apply eN|apply eA|apply eO|apply eS|apply eC);all_goals first|omega|simp <;> omega), RowAt.store (RowAt.newAt (later_size _ _).symm) rfl⟩ ?_
 obtain ⟨g5, hg5⟩ : ∃ g, W3.heap.size + (xk.comp xl).n = g := ⟨_, rfl⟩
 have hg35 : W3.heap.size ≤ g5 := by omega
 rw [hg5]
 rintro W5 ⟨x5, u5⟩
 have HW5 := lh (HW3.out.trans x5)
 have HWW5 := lh x5
 have HU5 := lh u5
 have hl5 := u5.lt
 have hs35 := x5.size
 have kL : rowOf W5 g5 0 20 = some (leC exL) := u5.all rfl (by omega)
 have kE : rowOf W5 B 0 38 = some (epC exE) := (HUE.out.ext (HWW3.out.trans x5)).all rfl (by omega)
 have kG : rowOf W5 (B+1+1) 0 3 = some (gsC (exG (some ⟨B+1, 0, none⟩) 2)) := (HUG.out.ext (HWW3.out.trans x5)).all rfl (by omega)
 have kC : rowOf W5 g 0 37 = some (cfC exC) := (HRg.out.ext x5).all rfl (by omega)
 have HRGW5 := lh (HRG.out.on (HWW3.out.trans x5))
 have hfO := fun A c => rp_fits (exO A c)
 have hfR := fun A c => rp_fits (exR A c)
 clear x5 u5 hg5 HL5 HCf
 refine wp_region_rowT (T := 68) 15 (by kernel_rfl) 12 13 (fun i => softTs [SoftT.eq (.agg (kyC (theKey 1))), SoftT.eq (.agg (gsC (exG (some ⟨B+1, 0, none⟩) 2))), SoftT.eq (.agg (epC exE)), SoftT.eq (.agg (cfC exC)), (SoftT.mem 51 37 cfL (by decide) (0) ([exC]) (fun A c => .slice A 1 c) : SoftT 68), SoftT.eq (.agg (leC exL)), (SoftT.mem 87 20 leL (by decide) (0) ([exL]) (fun A c => .slice A 1 c) : SoftT 68), SoftT.eq (.agg #[.int .i64 800, .int .i64 810]), (SoftT.mem 89 59 lnL (by decide) (0) ([exLn0, exLn2]) (fun A c => .tuple #[.agg (rpC (exO A c)), .int .i64 0]) : SoftT 68), (SoftT.mem 89 59 lnL (by decide) (0) ([exLn0, exLn2]) (fun A c => .tuple #[.agg (rpC (exO A c)), .int .i64 0]) : SoftT 68), (SoftT.mem 89 59 lnL (by decide) (0) ([exLn0, exLn2]) (fun A c => .agg (rpC (exO A c))) : SoftT 68), SoftT.eq (.int .i64 0), SoftT.any, SoftT.any, SoftT.eq (.int .i64 0)] i) 37 (RelT.mem 89 59 lnL (by decide) (0) ([exLn0, exLn2]) (fun A c => rpC (exO A c))) (by kernel_rfl) (by kernel_rfl) (by decide) (dk (by kernel_rfl)) (dk (by kernel_rfl)) (dk (by kernel_rfl)) (lt_cons ?_ (lt_cons ?_ (lt_cons ?_ (lt_cons ?_ (lt_cons ?_ (lt_cons ?_ (lt_cons ?_ (lt_cons ?_ (lt_cons ?_ (lt_cons ?_ (lt_cons ?_ (lt_cons ?_ (lt_cons ?_ (lt_cons ?_ (lt_cons ?_ (lt_none)))))))))))))))) ?_ ?_ ?_
 ·
  intro _ _
  refine sop rfl fun xs W HW hsW HD Q' HQ => ?_; simp only [fillAt, dstOf, lc0, lcs, obs, Act.put, lsa, lsz, lss, nz, Nat.reduceAdd] at HQ ⊢
  go_wp2_with (go_at_call 32; refine (HK.out 1 _).mono ?_; rintro e w1 ⟨rfl, hx⟩)
  exact HQ.out _ _ hx rfl
 ·
  intro _ _
  refine sop rfl fun xs W HW hsW HD Q' HQ => ?_; simp only [fillAt, dstOf, lc0, lcs, obs, Act.put, lsa, lsz, lss, nz, Nat.reduceAdd] at HQ ⊢
  have hc := (row_extW HW.out (b := B+1+1) (by omega) 0 3).trans kG
  go_wp2
  exact HQ.out _ _ (eR _) rfl
 ·
  intro _ _
  refine sop rfl fun xs W HW hsW HD Q' HQ => ?_; simp only [fillAt, dstOf, lc0, lcs, obs, Act.put, lsa, lsz, lss, nz, Nat.reduceAdd] at HQ ⊢
  have hc := (row_extW HW.out (b := B) (by omega) 0 38).trans kE
  go_wp2
  exact HQ.out _ _ (eR _) rfl
 ·
  intro _ _
  refine sop rfl fun xs W HW hsW HD Q' HQ => ?_; simp only [fillAt, dstOf, lc0, lcs, obs, Act.put, lsa, lsz, lss, nz, Nat.reduceAdd] at HQ ⊢
  have hc := (row_extW HW.out (b := g) (by omega) 0 37).trans kC
  go_wp2
  exact HQ.out _ _ (eR _) rfl
 ·
  intro _ _
  refine sop rfl fun xs W HW hsW HD Q' HQ => ?_; simp only [fillAt, dstOf, lc0, lcs, obs, Act.put, lsa, lsz, lss, nz, Nat.reduceAdd] at HQ ⊢
  have hd3 : xs 3 = .agg (cfC exC) := (HD.out 3 (dk (by kernel_rfl)))
  generalize xs 3 = x3 at hd3 HQ ⊢; subst hd3
  go_wp2
  exact HQ.out _ _ ((eR _).alloc _) ⟨_, _, rfl, owns_fresh cfE [exC] W _ _ _ rfl (Nat.zero_le _) (by kernel_rfl) (by simp)⟩
 ·
  intro _ _
  refine sop rfl fun xs W HW hsW HD Q' HQ => ?_; simp only [fillAt, dstOf, lc0, lcs, obs, Act.put, lsa, lsz, lss, nz, Nat.reduceAdd] at HQ ⊢
  have hc := (row_extW HW.out (b := g5) (by omega) 0 20).trans kL
  go_wp2
  exact HQ.out _ _ (eR _) rfl
 ·
  intro _ _
  refine sop rfl fun xs W HW hsW HD Q' HQ => ?_; simp only [fillAt, dstOf, lc0, lcs, obs, Act.put, lsa, lsz, lss, nz, Nat.reduceAdd] at HQ ⊢
  have hd5 : xs 5 = .agg (leC exL) := (HD.out 5 (dk (by kernel_rfl)))
  generalize xs 5 = x5 at hd5 HQ ⊢; subst hd5
  go_wp2
  exact HQ.out _ _ ((eR _).alloc _) ⟨_, _, rfl, owns_fresh leE [exL] W _ _ _ rfl (Nat.zero_le _) (by kernel_rfl) (by simp)⟩
 ·
  intro _ _
  refine sop rfl fun xs W HW hsW HD Q' HQ => ?_; simp only [fillAt, dstOf, lc0, lcs, obs, Act.put, lsa, lsz, lss, nz, Nat.reduceAdd] at HQ ⊢
  go_wp2
  exact HQ.out _ _ (eR _) rfl
 ·
  intro _ _
  refine sop rfl fun xs W HW hsW HD Q' HQ => ?_; simp only [fillAt, dstOf, lc0, lcs, obs, Act.put, lsa, lsz, lss, nz, Nat.reduceAdd] at HQ ⊢
  have hd0 : xs 0 = .agg (kyC (theKey 1)) := (HD.out 0 (dk (by kernel_rfl)))
  generalize xs 0 = x0 at hd0 HQ ⊢; subst hd0
  have hd1 : xs 1 = .agg (gsC (exG (some ⟨B+1, 0, none⟩) 2)) := (HD.out 1 (dk (by kernel_rfl)))
  generalize xs 1 = x1 at hd1 HQ ⊢; subst hd1
  have hd2 : xs 2 = .agg (epC exE) := (HD.out 2 (dk (by kernel_rfl)))
  generalize xs 2 = x2 at hd2 HQ ⊢; subst hd2
  obtain ⟨A4, c4, h4, ho4⟩ : ((SoftT.mem 51 37 cfL (by decide) (0) ([exC]) (fun A c => .slice A 1 c) : SoftT 68)).S (xs 4) W := (HD.out 4 (dk (by kernel_rfl)))
  generalize xs 4 = x4 at h4 HQ ⊢; subst h4
  obtain ⟨A6, c6, h6, ho6⟩ : ((SoftT.mem 87 20 leL (by decide) (0) ([exL]) (fun A c => .slice A 1 c) : SoftT 68)).S (xs 6) W := (HD.out 6 (dk (by kernel_rfl)))
  generalize xs 6 = x6 at h6 HQ ⊢; subst h6
  have hd7 : xs 7 = .agg #[.int .i64 800, .int .i64 810] := (HD.out 7 (dk (by kernel_rfl)))
  generalize xs 7 = x7 at hd7 HQ ⊢; subst hd7
  go_wp2_with (go_at_call 22; refine (HMk8.out _ _ _ _ _ _ _ (HW5.out.trans HW.out) (HRGW5.out.on HW.out) (ho4.reads cfE) (ho6.reads leE)).mono ?_; rintro e w1 ⟨⟨LA, lc, rfl, ho⟩, hx⟩)
  exact HQ.out _ _ hx ⟨LA, lc, rfl, ho.lower (Nat.zero_le _)⟩
 ·
  intro _ _
  refine sop rfl fun xs W HW hsW HD Q' HQ => ?_; simp only [fillAt, dstOf, lc0, lcs, obs, Act.put, lsa, lsz, lss, nz, Nat.reduceAdd] at HQ ⊢
  obtain ⟨A8, c8, h8, ho8⟩ : ((SoftT.mem 89 59 lnL (by decide) (0) ([exLn0, exLn2]) (fun A c => .tuple #[.agg (rpC (exO A c)), .int .i64 0]) : SoftT 68)).S (xs 8) W := (HD.out 8 (dk (by kernel_rfl)))
  generalize xs 8 = x8 at h8 HQ ⊢; subst h8
  go_wp2
  exact HQ.out _ _ (eR _) ⟨A8, c8, rfl, ho8⟩
 ·
  intro _ _
  refine sop rfl fun xs W HW hsW HD Q' HQ => ?_; simp only [fillAt, dstOf, lc0, lcs, obs, Act.put, lsa, lsz, lss, nz, Nat.reduceAdd] at HQ ⊢
  obtain ⟨A9, c9, h9, ho9⟩ : ((SoftT.mem 89 59 lnL (by decide) (0) ([exLn0, exLn2]) (fun A c => .tuple #[.agg (rpC (exO A c)), .int .i64 0]) : SoftT 68)).S (xs 9) W := (HD.out 9 (dk (by kernel_rfl)))
  generalize xs 9 = x9 at h9 HQ ⊢; subst h9
  go_wp2
  exact HQ.out _ _ (eR _) ⟨A9, c9, rfl, ho9⟩
 ·
  intro _ _
  refine sop rfl fun xs W HW hsW HD Q' HQ => ?_; simp only [fillAt, dstOf, lc0, lcs, obs, Act.put, lsa, lsz, lss, nz, Nat.reduceAdd] at HQ ⊢
  obtain ⟨A9, c9, h9, ho9⟩ : ((SoftT.mem 89 59 lnL (by decide) (0) ([exLn0, exLn2]) (fun A c => .tuple #[.agg (rpC (exO A c)), .int .i64 0]) : SoftT 68)).S (xs 9) W := (HD.out 9 (dk (by kernel_rfl)))
  generalize xs 9 = x9 at h9 HQ ⊢; subst h9
  go_wp2
  exact HQ.out _ _ (eR _) rfl
 ·exact fun h => absurd rfl h
 ·exact fun _ h => absurd rfl h
 ·
  intro _ _
  refine sop rfl fun xs W HW hsW HD Q' HQ => ?_; simp only [fillAt, dstOf, lc0, lcs, obs, Act.put, lsa, lsz, lss, nz, Nat.reduceAdd] at HQ ⊢
  have hd11 : xs 11 = .int .i64 0 := (HD.out 11 (dk (by kernel_rfl)))
  generalize xs 11 = x11 at hd11 HQ ⊢; subst hd11
  go_wp2
  exact HQ.out _ _ (eR _) rfl
 ·
  refine sop rfl fun xs W HW hsW HD Q' HQ => ?_; simp only [fillAt, dstOf, lc0, lcs, obs, Act.put, lsa, lsz, lss, nz, Nat.reduceAdd] at HQ ⊢
  go_wp2
  exact HQ.out _ _ ((eR _).alloc _) ⟨W.heap.size, rfl, by omega, _, TRow.new _ _ _, rfl⟩
 ·
  refine sop rfl fun xs W HW hsW HD Q' HQ => ?_; simp only [fillAt, dstOf, lc0, lcs, obs, Act.put, lsa, lsz, lss, nz, Nat.reduceAdd] at HQ ⊢
  obtain ⟨A10, c10, h10, ho10⟩ : ((SoftT.mem 89 59 lnL (by decide) (0) ([exLn0, exLn2]) (fun A c => .agg (rpC (exO A c))) : SoftT 68)).S (xs 10) W := (HD.out 10 (dk (by kernel_rfl)))
  generalize xs 10 = x10 at h10 HQ ⊢; subst h10
  obtain ⟨bb, hxa, hbb, ds, hrb, hzb⟩ : ∃ b, xs 12 = .pointer (some ⟨b, 0, none⟩) ∧ W5.heap.size ≤ b ∧ ∃ ds, TRow W b ds 68 ∧ ds.size = 37 := (HD.out 12 (dk (by kernel_rfl)))
  have hrm : roomOf W bb 0 37 = true := by rw [hrb.row.room, hzb]; rfl
  generalize xs 12 = x12 at hxa HQ ⊢; subst hxa
  clear hrb hzb
  go_wp2
  exact HQ.out undef bb _ rfl rfl ⟨A10, c10, rfl, ho10⟩
 intro xs W6 g6 csg6 hW hxb hbaseg6 hrowg6 hRg6 hvs
 obtain ⟨Ag6, cg6, hg6, hog6⟩ := hRg6
 subst hg6
 dsimp only at hrowg6
 have HOg6 := lh hog6
 clear hog6
 have h14 : xs 14 = .int .i64 0 := hvs 14 (dk (by kernel_rfl)) (by decide) (by decide)
 simp only [fillAt, dstOf, lc0, lcs, obs, Act.put, lsa, lsz, lss, nz, Nat.reduceAdd]
 generalize xs 14 = x14 at *; subst h14
 generalize xs 12 = xa at *; subst hxb
 have HW6 := lh (HW5.out.trans hW)
 have HWW6 := lh hW
 have HTg6 := lh hrowg6
 have HRg6 := lh hrowg6.row
 have hlg6 := hrowg6.row.lt
 clear hW hvs hrowg6 
 go_upto_region 6 with (fail)
 have hs56 := HWW6.out.size
 have kE : rowOf W6 B 0 38 = some (epC exE) := (HUE.out.ext (HWW3.out.trans (HWW5.out.trans HWW6.out))).all rfl (by omega)
 have kG : rowOf W6 (B+1+1) 0 3 = some (gsC (exG (some ⟨B+1, 0, none⟩) 2)) := (HUG.out.ext (HWW3.out.trans (HWW5.out.trans HWW6.out))).all rfl (by omega)
 have kC : rowOf W6 g 0 37 = some (cfC exC) := (HRg.out.ext (HWW5.out.trans HWW6.out)).all rfl (by omega)
 have kL : rowOf W6 g5 0 20 = some (leC exL) := (HU5.out.ext HWW6.out).all rfl (by omega)
 have HRGW6 := lh (HRGW5.out.on HWW6.out)
 clear HRGW5
 refine wp_region_rowT (T := 68) 15 (by kernel_rfl) 12 13 (fun i => softTs [SoftT.eq (.agg (kyC (theKey 1))), SoftT.eq (.agg (gsC (exG (some ⟨B+1, 0, none⟩) 2))), SoftT.eq (.agg (epC exE)), SoftT.eq (.agg (cfC exC)), (SoftT.mem 51 37 cfL (by decide) (0) ([exC]) (fun A c => .slice A 1 c) : SoftT 68), SoftT.eq (.agg (leC exL)), (SoftT.mem 87 20 leL (by decide) (0) ([exL]) (fun A c => .slice A 1 c) : SoftT 68), SoftT.eq (.agg #[.int .i64 900, .int .i64 910]), (SoftT.mem 89 59 lnL (by decide) (0) ([exLn0, exLn1]) (fun A c => .tuple #[.agg (rpC (exR A c)), .int .i64 0]) : SoftT 68), (SoftT.mem 89 59 lnL (by decide) (0) ([exLn0, exLn1]) (fun A c => .tuple #[.agg (rpC (exR A c)), .int .i64 0]) : SoftT 68), (SoftT.mem 89 59 lnL (by decide) (0) ([exLn0, exLn1]) (fun A c => .agg (rpC (exR A c))) : SoftT 68), SoftT.eq (.int .i64 0), SoftT.any, SoftT.any, SoftT.eq (.int .i64 0)] i) 37 (RelT.mem 89 59 lnL (by decide) (0) ([exLn0, exLn1]) (fun A c => rpC (exR A c))) (by kernel_rfl) (by kernel_rfl) (by decide) (dk (by kernel_rfl)) (dk (by kernel_rfl)) (dk (by kernel_rfl)) (lt_cons ?_ (lt_cons ?_ (lt_cons ?_ (lt_cons ?_ (lt_cons ?_ (lt_cons ?_ (lt_cons ?_ (lt_cons ?_ (lt_cons ?_ (lt_cons ?_ (lt_cons ?_ (lt_cons ?_ (lt_cons ?_ (lt_cons ?_ (lt_cons ?_ (lt_none)))))))))))))))) ?_ ?_ ?_
 ·
  intro _ _
  refine sop rfl fun xs W HW hsW HD Q' HQ => ?_; simp only [fillAt, dstOf, lc0, lcs, obs, Act.put, lsa, lsz, lss, nz, Nat.reduceAdd] at HQ ⊢
  go_wp2_with (go_at_call 32; refine (HK.out 1 _).mono ?_; rintro e w1 ⟨rfl, hx⟩)
  exact HQ.out _ _ hx rfl
 ·
  intro _ _
  refine sop rfl fun xs W HW hsW HD Q' HQ => ?_; simp only [fillAt, dstOf, lc0, lcs, obs, Act.put, lsa, lsz, lss, nz, Nat.reduceAdd] at HQ ⊢
  have hc := (row_extW HW.out (b := B+1+1) (by omega) 0 3).trans kG
  go_wp2
  exact HQ.out _ _ (eR _) rfl
 ·
  intro _ _
  refine sop rfl fun xs W HW hsW HD Q' HQ => ?_; simp only [fillAt, dstOf, lc0, lcs, obs, Act.put, lsa, lsz, lss, nz, Nat.reduceAdd] at HQ ⊢
  have hc := (row_extW HW.out (b := B) (by omega) 0 38).trans kE
  go_wp2
  exact HQ.out _ _ (eR _) rfl
 ·
  intro _ _
  refine sop rfl fun xs W HW hsW HD Q' HQ => ?_; simp only [fillAt, dstOf, lc0, lcs, obs, Act.put, lsa, lsz, lss, nz, Nat.reduceAdd] at HQ ⊢
  have hc := (row_extW HW.out (b := g) (by omega) 0 37).trans kC
  go_wp2
  exact HQ.out _ _ (eR _) rfl
 ·
  intro _ _
  refine sop rfl fun xs W HW hsW HD Q' HQ => ?_; simp only [fillAt, dstOf, lc0, lcs, obs, Act.put, lsa, lsz, lss, nz, Nat.reduceAdd] at HQ ⊢
  have hd3 : xs 3 = .agg (cfC exC) := (HD.out 3 (dk (by kernel_rfl)))
  generalize xs 3 = x3 at hd3 HQ ⊢; subst hd3
  go_wp2
  exact HQ.out _ _ ((eR _).alloc _) ⟨_, _, rfl, owns_fresh cfE [exC] W _ _ _ rfl (Nat.zero_le _) (by kernel_rfl) (by simp)⟩
 ·
  intro _ _
  refine sop rfl fun xs W HW hsW HD Q' HQ => ?_; simp only [fillAt, dstOf, lc0, lcs, obs, Act.put, lsa, lsz, lss, nz, Nat.reduceAdd] at HQ ⊢
  have hc := (row_extW HW.out (b := g5) (by omega) 0 20).trans kL
  go_wp2
  exact HQ.out _ _ (eR _) rfl
 ·
  intro _ _
  refine sop rfl fun xs W HW hsW HD Q' HQ => ?_; simp only [fillAt, dstOf, lc0, lcs, obs, Act.put, lsa, lsz, lss, nz, Nat.reduceAdd] at HQ ⊢
  have hd5 : xs 5 = .agg (leC exL) := (HD.out 5 (dk (by kernel_rfl)))
  generalize xs 5 = x5 at hd5 HQ ⊢; subst hd5
  go_wp2
  exact HQ.out _ _ ((eR _).alloc _) ⟨_, _, rfl, owns_fresh leE [exL] W _ _ _ rfl (Nat.zero_le _) (by kernel_rfl) (by simp)⟩
 ·
  intro _ _
  refine sop rfl fun xs W HW hsW HD Q' HQ => ?_; simp only [fillAt, dstOf, lc0, lcs, obs, Act.put, lsa, lsz, lss, nz, Nat.reduceAdd] at HQ ⊢
  go_wp2
  exact HQ.out _ _ (eR _) rfl
 ·
  intro _ _
  refine sop rfl fun xs W HW hsW HD Q' HQ => ?_; simp only [fillAt, dstOf, lc0, lcs, obs, Act.put, lsa, lsz, lss, nz, Nat.reduceAdd] at HQ ⊢
  have hd0 : xs 0 = .agg (kyC (theKey 1)) := (HD.out 0 (dk (by kernel_rfl)))
  generalize xs 0 = x0 at hd0 HQ ⊢; subst hd0
  have hd1 : xs 1 = .agg (gsC (exG (some ⟨B+1, 0, none⟩) 2)) := (HD.out 1 (dk (by kernel_rfl)))
  generalize xs 1 = x1 at hd1 HQ ⊢; subst hd1
  have hd2 : xs 2 = .agg (epC exE) := (HD.out 2 (dk (by kernel_rfl)))
  generalize xs 2 = x2 at hd2 HQ ⊢; subst hd2
  obtain ⟨A4, c4, h4, ho4⟩ : ((SoftT.mem 51 37 cfL (by decide) (0) ([exC]) (fun A c => .slice A 1 c) : SoftT 68)).S (xs 4) W := (HD.out 4 (dk (by kernel_rfl)))
  generalize xs 4 = x4 at h4 HQ ⊢; subst h4
  obtain ⟨A6, c6, h6, ho6⟩ : ((SoftT.mem 87 20 leL (by decide) (0) ([exL]) (fun A c => .slice A 1 c) : SoftT 68)).S (xs 6) W := (HD.out 6 (dk (by kernel_rfl)))
  generalize xs 6 = x6 at h6 HQ ⊢; subst h6
  have hd7 : xs 7 = .agg #[.int .i64 900, .int .i64 910] := (HD.out 7 (dk (by kernel_rfl)))
  generalize xs 7 = x7 at hd7 HQ ⊢; subst hd7
  go_wp2_with (go_at_call 22; refine (HMk9.out _ _ _ _ _ _ _ (HW6.out.trans HW.out) (HRGW6.out.on HW.out) (ho4.reads cfE) (ho6.reads leE)).mono ?_; rintro e w1 ⟨⟨LA, lc, rfl, ho⟩, hx⟩)
  exact HQ.out _ _ hx ⟨LA, lc, rfl, ho.lower (Nat.zero_le _)⟩
 ·
  intro _ _
  refine sop rfl fun xs W HW hsW HD Q' HQ => ?_; simp only [fillAt, dstOf, lc0, lcs, obs, Act.put, lsa, lsz, lss, nz, Nat.reduceAdd] at HQ ⊢
  obtain ⟨A8, c8, h8, ho8⟩ : ((SoftT.mem 89 59 lnL (by decide) (0) ([exLn0, exLn1]) (fun A c => .tuple #[.agg (rpC (exR A c)), .int .i64 0]) : SoftT 68)).S (xs 8) W := (HD.out 8 (dk (by kernel_rfl)))
  generalize xs 8 = x8 at h8 HQ ⊢; subst h8
  go_wp2
  exact HQ.out _ _ (eR _) ⟨A8, c8, rfl, ho8⟩
 ·
  intro _ _
  refine sop rfl fun xs W HW hsW HD Q' HQ => ?_; simp only [fillAt, dstOf, lc0, lcs, obs, Act.put, lsa, lsz, lss, nz, Nat.reduceAdd] at HQ ⊢
  obtain ⟨A9, c9, h9, ho9⟩ : ((SoftT.mem 89 59 lnL (by decide) (0) ([exLn0, exLn1]) (fun A c => .tuple #[.agg (rpC (exR A c)), .int .i64 0]) : SoftT 68)).S (xs 9) W := (HD.out 9 (dk (by kernel_rfl)))
  generalize xs 9 = x9 at h9 HQ ⊢; subst h9
  go_wp2
  exact HQ.out _ _ (eR _) ⟨A9, c9, rfl, ho9⟩
 ·
  intro _ _
  refine sop rfl fun xs W HW hsW HD Q' HQ => ?_; simp only [fillAt, dstOf, lc0, lcs, obs, Act.put, lsa, lsz, lss, nz, Nat.reduceAdd] at HQ ⊢
  obtain ⟨A9, c9, h9, ho9⟩ : ((SoftT.mem 89 59 lnL (by decide) (0) ([exLn0, exLn1]) (fun A c => .tuple #[.agg (rpC (exR A c)), .int .i64 0]) : SoftT 68)).S (xs 9) W := (HD.out 9 (dk (by kernel_rfl)))
  generalize xs 9 = x9 at h9 HQ ⊢; subst h9
  go_wp2
  exact HQ.out _ _ (eR _) rfl
 ·exact fun h => absurd rfl h
 ·exact fun _ h => absurd rfl h
 ·
  intro _ _
  refine sop rfl fun xs W HW hsW HD Q' HQ => ?_; simp only [fillAt, dstOf, lc0, lcs, obs, Act.put, lsa, lsz, lss, nz, Nat.reduceAdd] at HQ ⊢
  have hd11 : xs 11 = .int .i64 0 := (HD.out 11 (dk (by kernel_rfl)))
  generalize xs 11 = x11 at hd11 HQ ⊢; subst hd11
  go_wp2
  exact HQ.out _ _ (eR _) rfl
 ·
  refine sop rfl fun xs W HW hsW HD Q' HQ => ?_; simp only [fillAt, dstOf, lc0, lcs, obs, Act.put, lsa, lsz, lss, nz, Nat.reduceAdd] at HQ ⊢
  go_wp2
  exact HQ.out _ _ ((eR _).alloc _) ⟨W.heap.size, rfl, by omega, _, TRow.new _ _ _, rfl⟩
 ·
  refine sop rfl fun xs W HW hsW HD Q' HQ => ?_; simp only [fillAt, dstOf, lc0, lcs, obs, Act.put, lsa, lsz, lss, nz, Nat.reduceAdd] at HQ ⊢
  obtain ⟨A10, c10, h10, ho10⟩ : ((SoftT.mem 89 59 lnL (by decide) (0) ([exLn0, exLn1]) (fun A c => .agg (rpC (exR A c))) : SoftT 68)).S (xs 10) W := (HD.out 10 (dk (by kernel_rfl)))
  generalize xs 10 = x10 at h10 HQ ⊢; subst h10
  obtain ⟨bb, hxa, hbb, ds, hrb, hzb⟩ : ∃ b, xs 12 = .pointer (some ⟨b, 0, none⟩) ∧ W6.heap.size ≤ b ∧ ∃ ds, TRow W b ds 68 ∧ ds.size = 37 := (HD.out 12 (dk (by kernel_rfl)))
  have hrm : roomOf W bb 0 37 = true := by rw [hrb.row.room, hzb]; rfl
  generalize xs 12 = x12 at hxa HQ ⊢; subst hxa
  clear hrb hzb
  go_wp2
  exact HQ.out undef bb _ rfl rfl ⟨A10, c10, rfl, ho10⟩
 intro xs W7 g8 csg8 hW hxb hbaseg8 hrowg8 hRg8 hvs
 obtain ⟨Ag8, cg8, hg8, hog8⟩ := hRg8
 subst hg8
 dsimp only at hrowg8
 have HOg8 := lh hog8
 clear hog8
 have h14 : xs 14 = .int .i64 0 := hvs 14 (dk (by kernel_rfl)) (by decide) (by decide)
 simp only [fillAt, dstOf, lc0, lcs, obs, Act.put, lsa, lsz, lss, nz, Nat.reduceAdd]
 generalize xs 14 = x14 at *; subst h14
 generalize xs 12 = xa at *; subst hxb
 have HW7 := lh (HW6.out.trans hW)
 have HWW7 := lh hW
 have HTg8 := lh hrowg8
 have HRg8 := lh hrowg8.row
 have hlg8 := hrowg8.row.lt
 clear hW hvs hrowg8 
 go_upto_region 7 with (fail)
 have HRd8 := lh (HOg8.out.reads lnE)
 have HRd6 := lh ((HOg6.out.ext HWW7.out).reads lnE)
 have HRow6 := lh (HRg6.out.ext HWW7.out)
 have HRow8 := HRg8
 have HTow8 := HTg8
 have HC8 := lh (ex_check Ag8 cg8)
 have HM8 := lh (ex_refM Ag8 cg8)
 have HN8 := lh (ex_refL Ag8 cg8)
 have HLi := lh (ex_lie)
 have HRO8 := lh (exR_ok Ag8 cg8)
 have HLns : Hid ((exR Ag8 cg8).LA = Ag8 ∧ (exR Ag8 cg8).lines = [exLn0, exLn1]) := lh ⟨rfl, rfl⟩
 have HLno : Hid ((exO Ag6 cg6).LA = Ag6 ∧ (exO Ag6 cg6).lines = [exLn0, exLn2]) := lh ⟨rfl, rfl⟩
 have HSet : Hid (∀ (A : Option Addr) (c : Nat), (rpC (exR Ag8 cg8)).setIfInBounds 19 (.slice A 2 c) = rpC (exY A c)) := lh (fun A c => by kernel_rfl)
 have hq6 : (rpC (exO Ag6 cg6))[19]? = some (.slice Ag6 2 cg6) := by kernel_rfl
 have hq8 : (rpC (exR Ag8 cg8))[19]? = some (.slice Ag8 2 cg8) := by kernel_rfl
 have HQ8 := lh hq8
 have HQ6 := lh hq6
 clear HRg6 HRg8 HTg6 HTg8 HOg6
 generalize exO Ag6 cg6 = O at *
 generalize exR Ag8 cg8 = R at *
 have HCl6 : Hid (∀ W : World, Ext W7 W → Calls Tryz.prog 25 #[.agg (rpC O)] W fun e w' => e = .returned (.bool false) ∧ Ext W w') := lh (fun W hx => by
  have h := aclosed_any O W (by rw [HLno.out.2]; decide) (by rw [HLno.out.1, HLno.out.2]; exact HRd6.out.on hx)
  rw [show closedB O = false by unfold closedB; rw [HLno.out.2]; rfl] at h
  exact h)
 have HCl8 : Hid (∀ W : World, Ext W7 W → Calls Tryz.prog 25 #[.agg (rpC R)] W fun e w' => e = .returned (.bool true) ∧ Ext W w') := lh (fun W hx => by
  have h := aclosed_any R W (by rw [HLns.out.2]; decide) (by rw [HLns.out.1, HLns.out.2]; exact HRd8.out.on hx)
  rw [show closedB R = true by unfold closedB; rw [HLns.out.2]; rfl] at h
  exact h)
 have hl7 := HRow8.out.lt
 have hl76 := HRow6.out.lt
 have q6 : W7.cell? ⟨g6, 19, none⟩ = some (.slice Ag6 2 cg6) := (HRow6.out.cell 19).trans hq6
 have q8 : W7.cell? ⟨g8, 19, none⟩ = some (.slice Ag8 2 cg8) := (HRow8.out.cell 19).trans hq8
 have k6 : rowOf W7 g6 0 37 = some (rpC O) := HRow6.out.all rfl (by omega)
 have k8 : rowOf W7 g8 0 37 = some (rpC R) := HRow8.out.all rfl (by omega)
 clear hq6 hq8
 go_upto_region 9 with (first | (go_at_call 25; refine (HCl6.out _ (by (with_reducible repeat first|exact eR _|apply eD|apply eN|apply eA|apply eO|apply eS|apply eC);all_goals first|omega|simp <;> omega)).mono ?_; rintro e w' ⟨rfl, hxl⟩; obtain ⟨xl, rfl⟩ := hxl.asLater; clear hxl) | (go_at_call 25; refine (HCl8.out _ (by (with_reducible repeat first|exact eR _|apply eD|apply eN|apply eA|apply eO|apply eS|apply eC);all_goals first|omega|simp <;> omega)).mono ?_; rintro e w' ⟨rfl, hxl⟩; obtain ⟨xl, rfl⟩ := hxl.asLater; clear hxl))
 refine wp_world (fun W => Ext W7 W) (by (with_reducible repeat first|exact eR _|apply eD|apply eN|apply eA|apply eO|apply eS|apply eC);all_goals first|omega|simp <;> omega) ?_
 rintro W8 x8
 have HW8 := lh (HW7.out.trans x8)
 have HWW8 := lh x8
 have hs78 := x8.size
 have kE : rowOf W8 B 0 38 = some (epC exE) := (HUE.out.ext (HWW3.out.trans (HWW5.out.trans (HWW6.out.trans (HWW7.out.trans x8))))).all rfl (by omega)
 have k8 : rowOf W8 g8 0 37 = some (rpC R) := (HRow8.out.ext x8).all rfl (by omega)
 have HCk : Hid (∀ (A : Option Addr) (c : Nat) (W : World), Ext W7 W → ReadsKy W W.heap.size A theKeys → Calls Tryz.prog 28 #[.slice A theKeys.length c, .agg (epC exE), .agg (rpC R)] W fun e w' => e = .returned (.tuple #[.int .i64 (-1), .int .i64 0]) ∧ Ext W w') := lh (fun A c W hx h => by
  have h := acheck_any A c theKeys exE R W ring_ok h exE_ok exE_short (exE_at W) HRO8.out (by rw [HLns.out.2]; decide) (by rw [HLns.out.1, HLns.out.2]; exact HRd8.out.on hx) (RowAt.ext hk (HW7.out.trans hx))
  rw [HC8.out] at h
  exact h)
 clear x8 q6 q8 k6
 refine wp_region_soft 8 (softsL [readKs theKeys, .eq (.agg (epC exE)), .eq (.agg (rpC R)), .eq (.tuple #[.int .i64 (-1), .int .i64 0]), .eq (.tuple #[.int .i64 (-1), .int .i64 0]), .eq (.int .i64 (-1)), .eq (.int .i64 0), .eq (.int .i64 (-1))]) (by kernel_rfl) (by kernel_rfl) (lt_cons ?_ (lt_cons ?_ (lt_cons ?_ (lt_cons ?_ (lt_cons ?_ (lt_cons ?_ (lt_cons ?_ (lt_cons ?_ (lt_none))))))))) ?_
 any_goals (refine sop rfl fun xs W HW hsW HD Q' HQ => ?_; simp only [fillAt, dstOf, lc0, lcs, obs, Act.put, lsa, lsz, lss, nz, Nat.reduceAdd] at HQ ⊢)
 ·
  go_wp2_with (go_at_call 29; refine (lkeys_is _).mono ?_; rintro e w1 ⟨⟨A, c, rfl, h1⟩, hx⟩)
  exact HQ.out _ _ hx ⟨A, c, rfl, h1⟩
 ·
  have hc := (row_extW HW.out (b := B) (by omega) 0 38).trans kE
  go_wp2
  exact HQ.out _ _ (eR _) rfl
 ·
  have hc := (row_extW HW.out (b := g8) (by omega) 0 37).trans k8
  go_wp2
  exact HQ.out _ _ (eR _) rfl
 ·
  have hs0 : (readKs theKeys).S (xs 0) W := (HD.out 0 (dk (by kernel_rfl)))
  have hd1 : xs 1 = .agg (epC exE) := (HD.out 1 (dk (by kernel_rfl)))
  generalize xs 1 = x1 at hd1 HQ ⊢; subst hd1
  have hd2 : xs 2 = .agg (rpC R) := (HD.out 2 (dk (by kernel_rfl)))
  generalize xs 2 = x2 at hd2 HQ ⊢; subst hd2
  obtain ⟨A0, c0, h0, hr0⟩ := hs0
  generalize xs 0 = x0 at h0 HQ ⊢; subst h0
  go_wp2_with (go_at_call 28; refine (HCk.out A0 c0 _ (HWW8.out.trans HW.out) hr0).mono ?_; rintro e w1 ⟨rfl, hx⟩)
  exact HQ.out _ _ hx rfl
 ·
  have hd3 : xs 3 = .tuple #[.int .i64 (-1), .int .i64 0] := (HD.out 3 (dk (by kernel_rfl)))
  generalize xs 3 = x3 at hd3 HQ ⊢; subst hd3
  go_wp2
  exact HQ.out _ _ (eR _) rfl
 ·
  have hd4 : xs 4 = .tuple #[.int .i64 (-1), .int .i64 0] := (HD.out 4 (dk (by kernel_rfl)))
  generalize xs 4 = x4 at hd4 HQ ⊢; subst hd4
  go_wp2
  exact HQ.out _ _ (eR _) rfl
 ·
  have hd4 : xs 4 = .tuple #[.int .i64 (-1), .int .i64 0] := (HD.out 4 (dk (by kernel_rfl)))
  generalize xs 4 = x4 at hd4 HQ ⊢; subst hd4
  go_wp2
  exact HQ.out _ _ (eR _) rfl
 ·
  have hd5 : xs 5 = .int .i64 (-1) := (HD.out 5 (dk (by kernel_rfl)))
  generalize xs 5 = x5 at hd5 HQ ⊢; subst hd5
  go_wp2
  exact HQ.out _ _ (eR _) rfl
 intro xs W9 hW hS
 have h6 : xs 6 = .int .i64 0 := hS 6 (by omega)
 have h7 : xs 7 = .int .i64 (-1) := hS 7 (by omega)
 simp only [fillAt, dstOf, lc0, lcs, obs, Act.put, lsa, lsz, lss, nz, Nat.reduceAdd, List.drop_succ_cons, List.drop_zero, List.drop_nil]
 generalize xs 6 = x6 at *; subst h6
 generalize xs 7 = x7 at *; subst h7
 have HW9 := lh (HW8.out.trans hW)
 have HWW9 := lh hW
 clear hS hW kE k8
 go_upto_region 11 with (first | (go_at_call 32; refine (HK.out _ _).mono ?_; rintro e w' ⟨rfl, hxl⟩; obtain ⟨xk, rfl⟩ := hxl.asLater; clear hxl) | (go_at_call 55; refine (HLm.out _ (HW9.out.onto _)).mono ?_; rintro e w' ⟨rfl, hxl⟩; obtain ⟨xl, rfl⟩ := hxl.asLater; clear hxl))
 refine wp_world (fun W => Ext W9 W ∧ RowAt W (W9.heap.size + (xk.comp xl).n) (leC exM)) ⟨(by (with_reducible repeat first|exact eR _|apply eD|apply eN|apply eA|apply eO|apply eS|apply eC);all_goals first|omega|simp <;> omega), RowAt.store (RowAt.newAt (later_size _ _).symm) rfl⟩ ?_
 obtain ⟨g12, hg12⟩ : ∃ g, W9.heap.size + (xk.comp xl).n = g := ⟨_, rfl⟩
 have hg912 : W9.heap.size ≤ g12 := by omega
 rw [hg12]
 rintro W10 ⟨x10, u12⟩
 have HW10 := lh (HW9.out.trans x10)
 have HWW10 := lh (HWW8.out.trans (HWW9.out.trans x10))
 have HU12 := lh u12
 have hl12 := u12.lt
 have hs910 := x10.size
 have hs89 := HWW9.out.size
 have HR8a := lh (HRow8.out.ext HWW10.out)
 have HR6a := lh (HRow6.out.ext HWW10.out)
 have HO8a := lh (HOg8.out.ext HWW10.out)
 have k8 : rowOf W10 g8 0 37 = some (rpC R) := HR8a.out.all rfl (by omega)
 clear x10 u12 hg12 HLm
 go_upto_region 12 with (fail)
 refine wp_world (fun W => Ext W10 W ∧ RowAt W W10.heap.size (rpC R)) ⟨(by (with_reducible repeat first|exact eR _|apply eD|apply eN|apply eA|apply eO|apply eS|apply eC);all_goals first|omega|simp <;> omega), RowAt.store (RowAt.newAt rfl) rfl⟩ ?_
 obtain ⟨g13, hg13⟩ : ∃ g, W10.heap.size = g := ⟨_, rfl⟩
 rw [hg13]
 rintro W11 ⟨x11, u13⟩
 have HX11 := lh x11
 have HU13 := lh u13
 have hfz13 := u13.free 19
 have hl13 := u13.lt
 have q8 : W11.cell? ⟨g8, 19, none⟩ = some (.slice Ag8 2 cg8) := ((HR8a.out.ext x11).cell 19).trans HQ8.out
 have q13 : W11.cell? ⟨g13, 19, none⟩ = some (.slice Ag8 2 cg8) := (u13.cell 19).trans HQ8.out
 have hl8 : g8 < W11.heap.size := (HR8a.out.ext x11).lt
 clear x11 u13 k8
 go_upto_region 13 with (at_builtin; refine app_reads lnT lnE rfl _ _ rfl W11.heap.size _ 0 [] rfl (owns_fresh lnE [] W11 #[] _ W11.heap.size rfl (Nat.le_refl _) rfl (by simp)) W11.heap.size Ag8 cg8 [exLn0, exLn1] rfl (((HO8a.out.ext HX11.out).reads lnE).ext ((eR _).alloc _) (Nat.le_refl _)) HO8a.out.none0 (by simp) (by simp) (by simp) ?_; intro A7 c7 l7 w7 HL HO5 hB hl1 hl2 hg; have HO7 := lh HO5; have HB7 := lh hB; have hu7 : RowAt w7 g13 (rpC R) := RowAt.below (HU13.out.alloc _) hB hl13; have q713 := (hu7.cell 19).trans HQ8.out; have fz713 := hu7.free 19; have HU7 := lh hu7; have hl713 := hu7.lt; clear HO5 hB hu7)
 have hsz7 := HB7.out.size
 refine wp_world (fun W => ∃ A c, (Value.slice A7 l7.length c7 = .slice A 2 c) ∧ Ext W10 W ∧ RowAt W g13 (rpC (exY A c)) ∧ OwnsLn W11.heap.size W A c [exLn0, exLn1]) ⟨A7, c7, ?_, ?_, ?_, ?_⟩ ?_
 ·have h : l7.length = 2 := by have := hl1; have := hl2; simp only [List.length_cons, List.length_nil] at *; omega
  rw [h]
 ·refine Ext.setCell ?_ (by show _ ≤ g13; omega) _
  exact HX11.out.trans (Ext.grown ((eR _).alloc _) HB7.out (Nat.le_refl _))
 ·have h := HU7.out.set 19 (.slice A7 l7.length c7)
  have h2 : l7.length = 2 := by have := hl1; have := hl2; simp only [List.length_cons, List.length_nil] at *; omega
  rw [h2, HSet.out] at h
  rw [h2]
  exact h
 ·have h := HL.out
  rw [List.nil_append] at h
  rw [← h]
  exact (HO7.out.lower (Nat.le_refl _)).other (by show g13 < _; omega) _
 rintro W12 ⟨Aq, cq, hv, x12, u13, o12⟩
 obtain ⟨g7, rfl, hg7, hl7g, c7, f7, hlie⟩ := reads_lie o12
 have HY0 := lh (show (rpC (exY (some ⟨g7, 0, none⟩) cq))[19]? = some (.slice (some ⟨g7, 0, none⟩) 2 cq) by kernel_rfl)
 have HX12 := lh x12
 have HU13b := lh u13
 have HLie := lh hlie
 have q13 : W12.cell? ⟨g13, 19, none⟩ = some (.slice (some ⟨g7, 0, none⟩) 2 cq) := (u13.cell 19).trans HY0.out
 have hl13b := u13.lt
 clear x12 u13 o12 hlie hv q8
 go_upto_region 14 with (fail)
 refine wp_world (fun W => Ext W10 W ∧ RowAt W g13 (rpC (exY (some ⟨g7, 0, none⟩) cq)) ∧ Reads 59 lnL W W.heap.size (some ⟨g7, 0, none⟩) [exLn0, exLn3]) ⟨HX12.out.setCell (by show _ ≤ g7; omega) _, HU13b.out.other (by show g13 ≠ g7; omega) _, by simpa using HLie.out⟩ ?_
 rintro W13 ⟨x13, u13, rl13⟩
 have HW13 := lh (HW10.out.trans x13)
 have HWW13 := lh (HWW10.out.trans x13)
 have HX13 := lh x13
 have HRL := lh rl13
 have hl13c := u13.lt
 have hs1013 := x13.size
 have kY : rowOf W13 g13 0 37 = some (rpC (exY (some ⟨g7, 0, none⟩) cq)) := u13.all rfl (by omega)
 have kE : rowOf W13 B 0 38 = some (epC exE) := (HUE.out.ext (HWW3.out.trans (HWW5.out.trans (HWW6.out.trans (HWW7.out.trans HWW13.out))))).all rfl (by omega)
 have HRO := lh (exY_ok (some ⟨g7, 0, none⟩) cq)
 have HLi2 := lh (HLi.out (some ⟨g7, 0, none⟩) cq)
 have HYl : Hid ((exY (some ⟨g7, 0, none⟩) cq).LA = some ⟨g7, 0, none⟩ ∧ (exY (some ⟨g7, 0, none⟩) cq).lines = [exLn0, exLn3]) := lh ⟨rfl, rfl⟩
 clear x13 u13 rl13 HX12 HU13b HLie q13 c7 f7 HY0 HLi HCk
 generalize exY (some ⟨g7, 0, none⟩) cq = Y at *
 have HCy : Hid (∀ (A : Option Addr) (c : Nat) (W : World), Ext W13 W → ReadsKy W W.heap.size A theKeys → Calls Tryz.prog 28 #[.slice A theKeys.length c, .agg (epC exE), .agg (rpC Y)] W fun e w' => e = .returned (.tuple #[.int .i64 (-1), .int .i64 8]) ∧ Ext W w') := lh (fun A c W hx h => by
  have h := acheck_any A c theKeys exE Y W ring_ok h exE_ok exE_short (exE_at W) HRO.out (by rw [HYl.out.2]; decide) (by rw [HYl.out.1, HYl.out.2]; exact HRL.out.on hx) (RowAt.ext hk (HW13.out.trans hx))
  rw [HLi2.out] at h
  exact h)
 refine wp_region_soft 8 (softsL [readKs theKeys, .eq (.agg (epC exE)), .eq (.agg (rpC Y)), .eq (.tuple #[.int .i64 (-1), .int .i64 8]), .eq (.tuple #[.int .i64 (-1), .int .i64 8]), .eq (.int .i64 (-1)), .eq (.int .i64 8), .eq (.int .i64 (-1))]) (by kernel_rfl) (by kernel_rfl) (lt_cons ?_ (lt_cons ?_ (lt_cons ?_ (lt_cons ?_ (lt_cons ?_ (lt_cons ?_ (lt_cons ?_ (lt_cons ?_ (lt_none))))))))) ?_
 any_goals (refine sop rfl fun xs W HW hsW HD Q' HQ => ?_; simp only [fillAt, dstOf, lc0, lcs, obs, Act.put, lsa, lsz, lss, nz, Nat.reduceAdd] at HQ ⊢)
 ·
  go_wp2_with (go_at_call 29; refine (lkeys_is _).mono ?_; rintro e w1 ⟨⟨A, c, rfl, h1⟩, hx⟩)
  exact HQ.out _ _ hx ⟨A, c, rfl, h1⟩
 ·
  have hc := (row_extW HW.out (b := B) (by omega) 0 38).trans kE
  go_wp2
  exact HQ.out _ _ (eR _) rfl
 ·
  have hc := (row_extW HW.out (b := g13) (by omega) 0 37).trans kY
  go_wp2
  exact HQ.out _ _ (eR _) rfl
 ·
  have hs0 : (readKs theKeys).S (xs 0) W := (HD.out 0 (dk (by kernel_rfl)))
  have hd1 : xs 1 = .agg (epC exE) := (HD.out 1 (dk (by kernel_rfl)))
  generalize xs 1 = x1 at hd1 HQ ⊢; subst hd1
  have hd2 : xs 2 = .agg (rpC Y) := (HD.out 2 (dk (by kernel_rfl)))
  generalize xs 2 = x2 at hd2 HQ ⊢; subst hd2
  obtain ⟨A0, c0, h0, hr0⟩ := hs0
  generalize xs 0 = x0 at h0 HQ ⊢; subst h0
  go_wp2_with (go_at_call 28; refine (HCy.out A0 c0 _ HW.out hr0).mono ?_; rintro e w1 ⟨rfl, hx⟩)
  exact HQ.out _ _ hx rfl
 ·
  have hd3 : xs 3 = .tuple #[.int .i64 (-1), .int .i64 8] := (HD.out 3 (dk (by kernel_rfl)))
  generalize xs 3 = x3 at hd3 HQ ⊢; subst hd3
  go_wp2
  exact HQ.out _ _ (eR _) rfl
 ·
  have hd4 : xs 4 = .tuple #[.int .i64 (-1), .int .i64 8] := (HD.out 4 (dk (by kernel_rfl)))
  generalize xs 4 = x4 at hd4 HQ ⊢; subst hd4
  go_wp2
  exact HQ.out _ _ (eR _) rfl
 ·
  have hd4 : xs 4 = .tuple #[.int .i64 (-1), .int .i64 8] := (HD.out 4 (dk (by kernel_rfl)))
  generalize xs 4 = x4 at hd4 HQ ⊢; subst hd4
  go_wp2
  exact HQ.out _ _ (eR _) rfl
 ·
  have hd5 : xs 5 = .int .i64 (-1) := (HD.out 5 (dk (by kernel_rfl)))
  generalize xs 5 = x5 at hd5 HQ ⊢; subst hd5
  go_wp2
  exact HQ.out _ _ (eR _) rfl
 intro xs W14 hW hS
 have h6 : xs 6 = .int .i64 8 := hS 6 (by omega)
 have h7 : xs 7 = .int .i64 (-1) := hS 7 (by omega)
 simp only [fillAt, dstOf, lc0, lcs, obs, Act.put, lsa, lsz, lss, nz, Nat.reduceAdd, List.drop_succ_cons, List.drop_zero, List.drop_nil]
 generalize xs 6 = x6 at *; subst h6
 generalize xs 7 = x7 at *; subst h7
 have HW14 := lh (HW13.out.trans hW)
 have HWW14 := lh hW
 clear hS hW kE kY
 go_upto_region 15 with (fail)
 have hs1314 := HWW14.out.size
 have HZ := lh (HWW13.out.trans HWW14.out)
 have u6 := HRow6.out.ext HZ.out
 have u8 := HRow8.out.ext HZ.out
 have k8 : rowOf W14 g8 0 37 = some (rpC R) := u8.all rfl (by omega)
 have hl8z := u8.lt
 have hl6z := u6.lt
 have q6 : W14.cell? ⟨g6, 19, none⟩ = some (.slice Ag6 2 cg6) := (u6.cell 19).trans HQ6.out
 have q8 : W14.cell? ⟨g8, 19, none⟩ = some (.slice Ag8 2 cg8) := (u8.cell 19).trans HQ8.out
 have kE : rowOf W14 B 0 38 = some (epC exE) := (HUE.out.ext (HWW3.out.trans (HWW5.out.trans (HWW6.out.trans (HWW7.out.trans HZ.out))))).all rfl (by omega)
 have kL : rowOf W14 g5 0 20 = some (leC exL) := (HU5.out.ext (HWW6.out.trans (HWW7.out.trans HZ.out))).all rfl (by omega)
 have kM : rowOf W14 g12 0 20 = some (leC exM) := (HU12.out.ext (HX13.out.trans HWW14.out)).all rfl (by omega)
 obtain ⟨b6, o6, e6, hb6, r6⟩ := (HRd6.out.on HZ.out) (by decide)
 obtain ⟨b8, o8, e8, hb8, r8⟩ := (HRd8.out.on HZ.out) (by decide)
 subst e6 e8
 have c61 : W14.cell? ⟨b6, o6 + 59 + 1, none⟩ = some (.int .i64 3) := r6 1 (by decide) 1 (.int .i64 3) (by kernel_rfl)
 have c80 : W14.cell? ⟨b8, o8 + 1, none⟩ = some (.int .i64 1) := (r8 0 (by decide) 1 (.int .i64 1) (by kernel_rfl))
 have c81 : W14.cell? ⟨b8, o8 + 59 + 1, none⟩ = some (.int .i64 2) := (r8 1 (by decide) 1 (.int .i64 2) (by kernel_rfl))
 have HRf : Hid (∀ (A : Option Addr) (c : Nat) (W : World) (s : Le) (v : Bool), LeOk s → refutesB theKeys exE R s = v → Ext W14 W → ReadsKy W W.heap.size A theKeys → Calls Tryz.prog 30 #[.slice A theKeys.length c, .agg (epC exE), .agg (rpC R), .agg (leC s)] W fun e w' => e = .returned (.bool v) ∧ Ext W w') := lh (fun A c W s v h1 h2 hx h => by
  have h := arefutes_any A c theKeys exE R s W ring_ok h (by rw [HLns.out.2]; decide) (by rw [HLns.out.1, HLns.out.2]; exact (HRd8.out.on (HZ.out.trans hx))) h1 (RowAt.ext hk (HW14.out.trans hx))
  rw [h2] at h
  exact h)
 have HRfM := lh (fun A c W => HRf.out A c W exM true exM_ok HM8.out)
 have HRfL := lh (fun A c W => HRf.out A c W exL false exL_ok HN8.out)
 have hfM := le_fits exM
 have hfL := le_fits exL
 clear u6 u8 r6 r8 HRf
 clear HM8 HN8
 generalize exM = M at *
 generalize exL = L at *
 refine wp_region_soft 53 (softsL [.eq (.pointer (some ⟨g6, 19, none⟩)), .eq (.slice (some ⟨b6, o6, none⟩) 2 cg6), .eq (.pointer (some ⟨b6, o6 + 59, none⟩)), .eq (.pointer (some ⟨b6, o6 + 59 + 1, none⟩)), .eq (.int .i64 3), .eq (.bool true), .eq (.bool true), .eq (.pointer (some ⟨g8, 19, none⟩)), .eq (.slice (some ⟨b8, o8, none⟩) 2 cg8), .eq (.pointer (some ⟨b8, o8, none⟩)), .eq (.pointer (some ⟨b8, o8 + 1, none⟩)), .eq (.int .i64 1), .eq (.bool true), .eq (.bool true), .eq (.bool true), .eq (.pointer (some ⟨g8, 19, none⟩)), .eq (.slice (some ⟨b8, o8, none⟩) 2 cg8), .eq (.pointer (some ⟨b8, o8 + 59, none⟩)), .eq (.pointer (some ⟨b8, o8 + 59 + 1, none⟩)), .eq (.int .i64 2), .eq (.bool true), .eq (.bool true), .eq (.bool true), .eq (.int .i64 (-1)), .eq (.bool true), .eq (.bool true), .eq (.bool true), .eq (.int .i64 (0)), .eq (.bool true), .eq (.bool true), .eq (.bool true), .eq (.int .i64 (-1)), .eq (.bool true), .eq (.bool true), .eq (.bool true), .eq (.int .i64 (8)), .eq (.bool true), .eq (.bool true), .eq (.bool true), readKs theKeys, .eq (.agg (epC exE)), .eq (.agg (rpC R)), .eq (.agg (leC M)), .eq (.bool true), .eq (.bool true), .eq (.bool true), readKs theKeys, .eq (.agg (epC exE)), .eq (.agg (rpC R)), .eq (.agg (leC L)), .eq (.bool false), .eq (.bool true), .eq (.bool true)]) (by kernel_rfl) (by kernel_rfl) (lt_cons ?_ (lt_cons ?_ (lt_cons ?_ (lt_cons ?_ (lt_cons ?_ (lt_cons ?_ (lt_cons ?_ (lt_cons ?_ (lt_cons ?_ (lt_cons ?_ (lt_cons ?_ (lt_cons ?_ (lt_cons ?_ (lt_cons ?_ (lt_cons ?_ (lt_cons ?_ (lt_cons ?_ (lt_cons ?_ (lt_cons ?_ (lt_cons ?_ (lt_cons ?_ (lt_cons ?_ (lt_cons ?_ (lt_cons ?_ (lt_cons ?_ (lt_cons ?_ (lt_cons ?_ (lt_cons ?_ (lt_cons ?_ (lt_cons ?_ (lt_cons ?_ (lt_cons ?_ (lt_cons ?_ (lt_cons ?_ (lt_cons ?_ (lt_cons ?_ (lt_cons ?_ (lt_cons ?_ (lt_cons ?_ (lt_cons ?_ (lt_cons ?_ (lt_cons ?_ (lt_cons ?_ (lt_cons ?_ (lt_cons ?_ (lt_cons ?_ (lt_cons ?_ (lt_cons ?_ (lt_cons ?_ (lt_cons ?_ (lt_cons ?_ (lt_cons ?_ (lt_cons ?_ (lt_none)))))))))))))))))))))))))))))))))))))))))))))))))))))) ?_
 any_goals (refine sop rfl fun xs W HW hsW HD Q' HQ => ?_; simp only [fillAt, dstOf, lc0, lcs, obs, Act.put, lsa, lsz, lss, nz, Nat.reduceAdd] at HQ ⊢)
 ·
  go_wp2
  exact HQ.out _ _ (eR _) rfl
 ·
  have hd0 : xs 0 = .pointer (some ⟨g6, 19, none⟩) := (HD.out 0 (dk (by kernel_rfl)))
  generalize xs 0 = x0 at hd0 HQ ⊢; subst hd0
  have hc : W.cell? ⟨g6, 19, none⟩ = some (.slice (some ⟨b6, o6, none⟩) 2 cg6) := (HW.out.cell (p := ⟨g6, 19, none⟩) (by show g6 < _; omega)).trans q6
  go_wp2
  exact HQ.out _ _ (eR _) rfl
 ·
  have hd1 : xs 1 = .slice (some ⟨b6, o6, none⟩) 2 cg6 := (HD.out 1 (dk (by kernel_rfl)))
  generalize xs 1 = x1 at hd1 HQ ⊢; subst hd1
  go_wp2
  exact HQ.out _ _ (eR _) rfl
 ·
  have hd2 : xs 2 = .pointer (some ⟨b6, o6 + 59, none⟩) := (HD.out 2 (dk (by kernel_rfl)))
  generalize xs 2 = x2 at hd2 HQ ⊢; subst hd2
  go_wp2
  exact HQ.out _ _ (eR _) rfl
 ·
  have hd3 : xs 3 = .pointer (some ⟨b6, o6 + 59 + 1, none⟩) := (HD.out 3 (dk (by kernel_rfl)))
  generalize xs 3 = x3 at hd3 HQ ⊢; subst hd3
  have hc : W.cell? ⟨b6, (o6+59+1), none⟩ = some (.int .i64 3) := (HW.out.cell (p := ⟨b6, (o6+59+1), none⟩) (by show b6 < _; omega)).trans c61
  go_wp2
  exact HQ.out _ _ (eR _) rfl
 ·
  have hd4 : xs 4 = .int .i64 3 := (HD.out 4 (dk (by kernel_rfl)))
  generalize xs 4 = x4 at hd4 HQ ⊢; subst hd4
  go_wp2
  exact HQ.out _ _ (eR _) rfl
 ·
  have hd5 : xs 5 = .bool true := (HD.out 5 (dk (by kernel_rfl)))
  generalize xs 5 = x5 at hd5 HQ ⊢; subst hd5
  go_wp2
  exact HQ.out _ _ (eR _) rfl
 ·
  have hd6 : xs 6 = .bool true := (HD.out 6 (dk (by kernel_rfl)))
  generalize xs 6 = x6 at hd6 HQ ⊢; subst hd6
  go_wp2
  exact HQ.out _ _ (eR _) rfl
 ·
  have hd6 : xs 6 = .bool true := (HD.out 6 (dk (by kernel_rfl)))
  generalize xs 6 = x6 at hd6 HQ ⊢; subst hd6
  have hd7 : xs 7 = .pointer (some ⟨g8, 19, none⟩) := (HD.out 7 (dk (by kernel_rfl)))
  generalize xs 7 = x7 at hd7 HQ ⊢; subst hd7
  have hc : W.cell? ⟨g8, 19, none⟩ = some (.slice (some ⟨b8, o8, none⟩) 2 cg8) := (HW.out.cell (p := ⟨g8, 19, none⟩) (by show g8 < _; omega)).trans q8
  go_wp2
  exact HQ.out _ _ (eR _) rfl
 ·
  have hd6 : xs 6 = .bool true := (HD.out 6 (dk (by kernel_rfl)))
  generalize xs 6 = x6 at hd6 HQ ⊢; subst hd6
  have hd8 : xs 8 = .slice (some ⟨b8, o8, none⟩) 2 cg8 := (HD.out 8 (dk (by kernel_rfl)))
  generalize xs 8 = x8 at hd8 HQ ⊢; subst hd8
  go_wp2
  exact HQ.out _ _ (eR _) rfl
 ·
  have hd6 : xs 6 = .bool true := (HD.out 6 (dk (by kernel_rfl)))
  generalize xs 6 = x6 at hd6 HQ ⊢; subst hd6
  have hd9 : xs 9 = .pointer (some ⟨b8, o8, none⟩) := (HD.out 9 (dk (by kernel_rfl)))
  generalize xs 9 = x9 at hd9 HQ ⊢; subst hd9
  go_wp2
  exact HQ.out _ _ (eR _) rfl
 ·
  have hd6 : xs 6 = .bool true := (HD.out 6 (dk (by kernel_rfl)))
  generalize xs 6 = x6 at hd6 HQ ⊢; subst hd6
  have hd10 : xs 10 = .pointer (some ⟨b8, o8 + 1, none⟩) := (HD.out 10 (dk (by kernel_rfl)))
  generalize xs 10 = x10 at hd10 HQ ⊢; subst hd10
  have hc : W.cell? ⟨b8, (o8+1), none⟩ = some (.int .i64 1) := (HW.out.cell (p := ⟨b8, (o8+1), none⟩) (by show b8 < _; omega)).trans c80
  go_wp2
  exact HQ.out _ _ (eR _) rfl
 ·
  have hd6 : xs 6 = .bool true := (HD.out 6 (dk (by kernel_rfl)))
  generalize xs 6 = x6 at hd6 HQ ⊢; subst hd6
  have hd11 : xs 11 = .int .i64 1 := (HD.out 11 (dk (by kernel_rfl)))
  generalize xs 11 = x11 at hd11 HQ ⊢; subst hd11
  go_wp2
  exact HQ.out _ _ (eR _) rfl
 ·
  have hd6 : xs 6 = .bool true := (HD.out 6 (dk (by kernel_rfl)))
  generalize xs 6 = x6 at hd6 HQ ⊢; subst hd6
  have hd12 : xs 12 = .bool true := (HD.out 12 (dk (by kernel_rfl)))
  generalize xs 12 = x12 at hd12 HQ ⊢; subst hd12
  go_wp2
  exact HQ.out _ _ (eR _) rfl
 ·
  have hd13 : xs 13 = .bool true := (HD.out 13 (dk (by kernel_rfl)))
  generalize xs 13 = x13 at hd13 HQ ⊢; subst hd13
  go_wp2
  exact HQ.out _ _ (eR _) rfl
 ·
  have hd14 : xs 14 = .bool true := (HD.out 14 (dk (by kernel_rfl)))
  generalize xs 14 = x14 at hd14 HQ ⊢; subst hd14
  go_wp2
  exact HQ.out _ _ (eR _) rfl
 ·
  have hd14 : xs 14 = .bool true := (HD.out 14 (dk (by kernel_rfl)))
  generalize xs 14 = x14 at hd14 HQ ⊢; subst hd14
  have hd15 : xs 15 = .pointer (some ⟨g8, 19, none⟩) := (HD.out 15 (dk (by kernel_rfl)))
  generalize xs 15 = x15 at hd15 HQ ⊢; subst hd15
  have hc : W.cell? ⟨g8, 19, none⟩ = some (.slice (some ⟨b8, o8, none⟩) 2 cg8) := (HW.out.cell (p := ⟨g8, 19, none⟩) (by show g8 < _; omega)).trans q8
  go_wp2
  exact HQ.out _ _ (eR _) rfl
 ·
  have hd14 : xs 14 = .bool true := (HD.out 14 (dk (by kernel_rfl)))
  generalize xs 14 = x14 at hd14 HQ ⊢; subst hd14
  have hd16 : xs 16 = .slice (some ⟨b8, o8, none⟩) 2 cg8 := (HD.out 16 (dk (by kernel_rfl)))
  generalize xs 16 = x16 at hd16 HQ ⊢; subst hd16
  go_wp2
  exact HQ.out _ _ (eR _) rfl
 ·
  have hd14 : xs 14 = .bool true := (HD.out 14 (dk (by kernel_rfl)))
  generalize xs 14 = x14 at hd14 HQ ⊢; subst hd14
  have hd17 : xs 17 = .pointer (some ⟨b8, o8 + 59, none⟩) := (HD.out 17 (dk (by kernel_rfl)))
  generalize xs 17 = x17 at hd17 HQ ⊢; subst hd17
  go_wp2
  exact HQ.out _ _ (eR _) rfl
 ·
  have hd14 : xs 14 = .bool true := (HD.out 14 (dk (by kernel_rfl)))
  generalize xs 14 = x14 at hd14 HQ ⊢; subst hd14
  have hd18 : xs 18 = .pointer (some ⟨b8, o8 + 59 + 1, none⟩) := (HD.out 18 (dk (by kernel_rfl)))
  generalize xs 18 = x18 at hd18 HQ ⊢; subst hd18
  have hc : W.cell? ⟨b8, (o8+59+1), none⟩ = some (.int .i64 2) := (HW.out.cell (p := ⟨b8, (o8+59+1), none⟩) (by show b8 < _; omega)).trans c81
  go_wp2
  exact HQ.out _ _ (eR _) rfl
 ·
  have hd14 : xs 14 = .bool true := (HD.out 14 (dk (by kernel_rfl)))
  generalize xs 14 = x14 at hd14 HQ ⊢; subst hd14
  have hd19 : xs 19 = .int .i64 2 := (HD.out 19 (dk (by kernel_rfl)))
  generalize xs 19 = x19 at hd19 HQ ⊢; subst hd19
  go_wp2
  exact HQ.out _ _ (eR _) rfl
 ·
  have hd14 : xs 14 = .bool true := (HD.out 14 (dk (by kernel_rfl)))
  generalize xs 14 = x14 at hd14 HQ ⊢; subst hd14
  have hd20 : xs 20 = .bool true := (HD.out 20 (dk (by kernel_rfl)))
  generalize xs 20 = x20 at hd20 HQ ⊢; subst hd20
  go_wp2
  exact HQ.out _ _ (eR _) rfl
 ·
  have hd21 : xs 21 = .bool true := (HD.out 21 (dk (by kernel_rfl)))
  generalize xs 21 = x21 at hd21 HQ ⊢; subst hd21
  go_wp2
  exact HQ.out _ _ (eR _) rfl
 ·
  have hd22 : xs 22 = .bool true := (HD.out 22 (dk (by kernel_rfl)))
  generalize xs 22 = x22 at hd22 HQ ⊢; subst hd22
  go_wp2
  exact HQ.out _ _ (eR _) rfl
 ·
  have hd22 : xs 22 = .bool true := (HD.out 22 (dk (by kernel_rfl)))
  generalize xs 22 = x22 at hd22 HQ ⊢; subst hd22
  have hd23 : xs 23 = .int .i64 (-1) := (HD.out 23 (dk (by kernel_rfl)))
  generalize xs 23 = x23 at hd23 HQ ⊢; subst hd23
  go_wp2
  exact HQ.out _ _ (eR _) rfl
 ·
  have hd22 : xs 22 = .bool true := (HD.out 22 (dk (by kernel_rfl)))
  generalize xs 22 = x22 at hd22 HQ ⊢; subst hd22
  have hd24 : xs 24 = .bool true := (HD.out 24 (dk (by kernel_rfl)))
  generalize xs 24 = x24 at hd24 HQ ⊢; subst hd24
  go_wp2
  exact HQ.out _ _ (eR _) rfl
 ·
  have hd25 : xs 25 = .bool true := (HD.out 25 (dk (by kernel_rfl)))
  generalize xs 25 = x25 at hd25 HQ ⊢; subst hd25
  go_wp2
  exact HQ.out _ _ (eR _) rfl
 ·
  have hd26 : xs 26 = .bool true := (HD.out 26 (dk (by kernel_rfl)))
  generalize xs 26 = x26 at hd26 HQ ⊢; subst hd26
  go_wp2
  exact HQ.out _ _ (eR _) rfl
 ·
  have hd26 : xs 26 = .bool true := (HD.out 26 (dk (by kernel_rfl)))
  generalize xs 26 = x26 at hd26 HQ ⊢; subst hd26
  have hd27 : xs 27 = .int .i64 (0) := (HD.out 27 (dk (by kernel_rfl)))
  generalize xs 27 = x27 at hd27 HQ ⊢; subst hd27
  go_wp2
  exact HQ.out _ _ (eR _) rfl
 ·
  have hd26 : xs 26 = .bool true := (HD.out 26 (dk (by kernel_rfl)))
  generalize xs 26 = x26 at hd26 HQ ⊢; subst hd26
  have hd28 : xs 28 = .bool true := (HD.out 28 (dk (by kernel_rfl)))
  generalize xs 28 = x28 at hd28 HQ ⊢; subst hd28
  go_wp2
  exact HQ.out _ _ (eR _) rfl
 ·
  have hd29 : xs 29 = .bool true := (HD.out 29 (dk (by kernel_rfl)))
  generalize xs 29 = x29 at hd29 HQ ⊢; subst hd29
  go_wp2
  exact HQ.out _ _ (eR _) rfl
 ·
  have hd30 : xs 30 = .bool true := (HD.out 30 (dk (by kernel_rfl)))
  generalize xs 30 = x30 at hd30 HQ ⊢; subst hd30
  go_wp2
  exact HQ.out _ _ (eR _) rfl
 ·
  have hd30 : xs 30 = .bool true := (HD.out 30 (dk (by kernel_rfl)))
  generalize xs 30 = x30 at hd30 HQ ⊢; subst hd30
  have hd31 : xs 31 = .int .i64 (-1) := (HD.out 31 (dk (by kernel_rfl)))
  generalize xs 31 = x31 at hd31 HQ ⊢; subst hd31
  go_wp2
  exact HQ.out _ _ (eR _) rfl
 ·
  have hd30 : xs 30 = .bool true := (HD.out 30 (dk (by kernel_rfl)))
  generalize xs 30 = x30 at hd30 HQ ⊢; subst hd30
  have hd32 : xs 32 = .bool true := (HD.out 32 (dk (by kernel_rfl)))
  generalize xs 32 = x32 at hd32 HQ ⊢; subst hd32
  go_wp2
  exact HQ.out _ _ (eR _) rfl
 ·
  have hd33 : xs 33 = .bool true := (HD.out 33 (dk (by kernel_rfl)))
  generalize xs 33 = x33 at hd33 HQ ⊢; subst hd33
  go_wp2
  exact HQ.out _ _ (eR _) rfl
 ·
  have hd34 : xs 34 = .bool true := (HD.out 34 (dk (by kernel_rfl)))
  generalize xs 34 = x34 at hd34 HQ ⊢; subst hd34
  go_wp2
  exact HQ.out _ _ (eR _) rfl
 ·
  have hd34 : xs 34 = .bool true := (HD.out 34 (dk (by kernel_rfl)))
  generalize xs 34 = x34 at hd34 HQ ⊢; subst hd34
  have hd35 : xs 35 = .int .i64 (8) := (HD.out 35 (dk (by kernel_rfl)))
  generalize xs 35 = x35 at hd35 HQ ⊢; subst hd35
  go_wp2
  exact HQ.out _ _ (eR _) rfl
 ·
  have hd34 : xs 34 = .bool true := (HD.out 34 (dk (by kernel_rfl)))
  generalize xs 34 = x34 at hd34 HQ ⊢; subst hd34
  have hd36 : xs 36 = .bool true := (HD.out 36 (dk (by kernel_rfl)))
  generalize xs 36 = x36 at hd36 HQ ⊢; subst hd36
  go_wp2
  exact HQ.out _ _ (eR _) rfl
 ·
  have hd37 : xs 37 = .bool true := (HD.out 37 (dk (by kernel_rfl)))
  generalize xs 37 = x37 at hd37 HQ ⊢; subst hd37
  go_wp2
  exact HQ.out _ _ (eR _) rfl
 ·
  have hd38 : xs 38 = .bool true := (HD.out 38 (dk (by kernel_rfl)))
  generalize xs 38 = x38 at hd38 HQ ⊢; subst hd38
  go_wp2_with (go_at_call 29; refine (lkeys_is _).mono ?_; rintro e w1 ⟨⟨A, c, rfl, h1⟩, hx⟩)
  exact HQ.out _ _ hx ⟨A, c, rfl, h1⟩
 ·
  have hd38 : xs 38 = .bool true := (HD.out 38 (dk (by kernel_rfl)))
  generalize xs 38 = x38 at hd38 HQ ⊢; subst hd38
  have hc := (row_extW HW.out (b := B) (by omega) 0 38).trans kE
  go_wp2
  exact HQ.out _ _ (eR _) rfl
 ·
  have hd38 : xs 38 = .bool true := (HD.out 38 (dk (by kernel_rfl)))
  generalize xs 38 = x38 at hd38 HQ ⊢; subst hd38
  have hc := (row_extW HW.out (b := g8) (by omega) 0 37).trans k8
  go_wp2
  exact HQ.out _ _ (eR _) rfl
 ·
  have hd38 : xs 38 = .bool true := (HD.out 38 (dk (by kernel_rfl)))
  generalize xs 38 = x38 at hd38 HQ ⊢; subst hd38
  have hc := (row_extW HW.out (b := g12) (by omega) 0 20).trans kM
  go_wp2
  exact HQ.out _ _ (eR _) rfl
 ·
  have hd38 : xs 38 = .bool true := (HD.out 38 (dk (by kernel_rfl)))
  generalize xs 38 = x38 at hd38 HQ ⊢; subst hd38
  have hs39 : (readKs theKeys).S (xs 39) W := (HD.out 39 (dk (by kernel_rfl)))
  have hd40 : xs 40 = .agg (epC exE) := (HD.out 40 (dk (by kernel_rfl)))
  generalize xs 40 = x40 at hd40 HQ ⊢; subst hd40
  have hd41 : xs 41 = .agg (rpC R) := (HD.out 41 (dk (by kernel_rfl)))
  generalize xs 41 = x41 at hd41 HQ ⊢; subst hd41
  have hd42 : xs 42 = .agg (leC M) := (HD.out 42 (dk (by kernel_rfl)))
  generalize xs 42 = x42 at hd42 HQ ⊢; subst hd42
  obtain ⟨A39, c39, h39, hr39⟩ := hs39
  generalize xs 39 = x39 at h39 HQ ⊢; subst h39
  go_wp2_with (go_at_call 30; refine (HRfM.out A39 c39 _ HW.out hr39).mono ?_; rintro e w1 ⟨rfl, hx⟩)
  exact HQ.out _ _ hx rfl
 ·
  have hd38 : xs 38 = .bool true := (HD.out 38 (dk (by kernel_rfl)))
  generalize xs 38 = x38 at hd38 HQ ⊢; subst hd38
  have hd43 : xs 43 = .bool true := (HD.out 43 (dk (by kernel_rfl)))
  generalize xs 43 = x43 at hd43 HQ ⊢; subst hd43
  go_wp2
  exact HQ.out _ _ (eR _) rfl
 ·
  have hd44 : xs 44 = .bool true := (HD.out 44 (dk (by kernel_rfl)))
  generalize xs 44 = x44 at hd44 HQ ⊢; subst hd44
  go_wp2
  exact HQ.out _ _ (eR _) rfl
 ·
  have hd45 : xs 45 = .bool true := (HD.out 45 (dk (by kernel_rfl)))
  generalize xs 45 = x45 at hd45 HQ ⊢; subst hd45
  go_wp2_with (go_at_call 29; refine (lkeys_is _).mono ?_; rintro e w1 ⟨⟨A, c, rfl, h1⟩, hx⟩)
  exact HQ.out _ _ hx ⟨A, c, rfl, h1⟩
 ·
  have hd45 : xs 45 = .bool true := (HD.out 45 (dk (by kernel_rfl)))
  generalize xs 45 = x45 at hd45 HQ ⊢; subst hd45
  have hc := (row_extW HW.out (b := B) (by omega) 0 38).trans kE
  go_wp2
  exact HQ.out _ _ (eR _) rfl
 ·
  have hd45 : xs 45 = .bool true := (HD.out 45 (dk (by kernel_rfl)))
  generalize xs 45 = x45 at hd45 HQ ⊢; subst hd45
  have hc := (row_extW HW.out (b := g8) (by omega) 0 37).trans k8
  go_wp2
  exact HQ.out _ _ (eR _) rfl
 ·
  have hd45 : xs 45 = .bool true := (HD.out 45 (dk (by kernel_rfl)))
  generalize xs 45 = x45 at hd45 HQ ⊢; subst hd45
  have hc := (row_extW HW.out (b := g5) (by omega) 0 20).trans kL
  go_wp2
  exact HQ.out _ _ (eR _) rfl
 ·
  have hd45 : xs 45 = .bool true := (HD.out 45 (dk (by kernel_rfl)))
  generalize xs 45 = x45 at hd45 HQ ⊢; subst hd45
  have hs46 : (readKs theKeys).S (xs 46) W := (HD.out 46 (dk (by kernel_rfl)))
  have hd47 : xs 47 = .agg (epC exE) := (HD.out 47 (dk (by kernel_rfl)))
  generalize xs 47 = x47 at hd47 HQ ⊢; subst hd47
  have hd48 : xs 48 = .agg (rpC R) := (HD.out 48 (dk (by kernel_rfl)))
  generalize xs 48 = x48 at hd48 HQ ⊢; subst hd48
  have hd49 : xs 49 = .agg (leC L) := (HD.out 49 (dk (by kernel_rfl)))
  generalize xs 49 = x49 at hd49 HQ ⊢; subst hd49
  obtain ⟨A46, c46, h46, hr46⟩ := hs46
  generalize xs 46 = x46 at h46 HQ ⊢; subst h46
  go_wp2_with (go_at_call 30; refine (HRfL.out A46 c46 _ HW.out hr46).mono ?_; rintro e w1 ⟨rfl, hx⟩)
  exact HQ.out _ _ hx rfl
 ·
  have hd45 : xs 45 = .bool true := (HD.out 45 (dk (by kernel_rfl)))
  generalize xs 45 = x45 at hd45 HQ ⊢; subst hd45
  have hd50 : xs 50 = .bool false := (HD.out 50 (dk (by kernel_rfl)))
  generalize xs 50 = x50 at hd50 HQ ⊢; subst hd50
  go_wp2
  exact HQ.out _ _ (eR _) rfl
 ·
  have hd45 : xs 45 = .bool true := (HD.out 45 (dk (by kernel_rfl)))
  generalize xs 45 = x45 at hd45 HQ ⊢; subst hd45
  have hd51 : xs 51 = .bool true := (HD.out 51 (dk (by kernel_rfl)))
  generalize xs 51 = x51 at hd51 HQ ⊢; subst hd51
  go_wp2
  exact HQ.out _ _ (eR _) rfl
 intro xs W15 hW hS
 have h52 : xs 52 = .bool true := hS 52 (by omega)
 simp only [fillAt, dstOf, lc0, lcs, obs, Act.put, lsa, lsz, lss, nz, Nat.reduceAdd, List.drop_succ_cons, List.drop_zero, List.drop_nil]
 generalize xs 52 = x52 at *; subst h52
 have HW15 := lh (HW14.out.trans hW)
 have HWW15 := lh hW
 clear hS hW kE k8 kM kL q6 q8 c61 c80 c81
 go_wp2
 go_ret
 exact ⟨rfl, (by (with_reducible repeat first|exact HW15.out|exact eR _|apply eD|apply eN|apply eA|apply eO|apply eS|apply eC);all_goals first|omega|simp <;> omega)⟩
end Go.Proofs.YtpfhmcdcmepfdaaGreatDoor