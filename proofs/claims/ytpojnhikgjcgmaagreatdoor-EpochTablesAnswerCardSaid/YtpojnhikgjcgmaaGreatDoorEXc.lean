/- seal.Check (given what Find answers). -/
import Derived.WalkKit
import Derived.WalkSpells
import Derived.WalkLawsBesides
import Derived.Deep.QuietTactic
import Derived.BigQuiet
import Derived.Test.YtpojnhikgjcgmaaGreatDoorEXa
set_option maxRecDepth 100000
set_option maxHeartbeats 64000000
set_option linter.unusedVariables false
set_option linter.unusedSimpArgs false
namespace Go.Proofs.YtpojnhikgjcgmaaGreatDoor
open Go.RowKit Go.Shelf
open Go.Proofs
def stmB7 (x0 x1 x2 x3 x4 x5 x6 : Value) : Sem Next := do pure (.value (← Instr.build 32 #[(0, x0), (1, x1), (2, x2), (3, x3), (4, x4), (5, x5), (6, x6)]))
theorem stmB7_x (ρ : Operand → Value) (dst : Option Tmp) (x0 x1 x2 x3 x4 x5 x6 : Operand) (t : TypeId) (pos : String) (after : Array Edge) (guard : Option (Nat × Bool)) : execOp ρ { dst, op := .build 32 #[(0, x0), (1, x1), (2, x2), (3, x3), (4, x4), (5, x5), (6, x6)], type := t, pos, after, guard } = stmB7 (ρ x0) (ρ x1) (ρ x2) (ρ x3) (ρ x4) (ρ x5) (ρ x6) := by kernel_rfl
def stmB0 : Sem Next := do pure (.value (← Instr.build 32 #[]))
theorem stmB0_x (ρ : Operand → Value) (dst : Option Tmp) (t : TypeId) (pos : String) (after : Array Edge) (guard : Option (Nat × Bool)) : execOp ρ { dst, op := .build 32 #[], type := t, pos, after, guard } = stmB0 := by kernel_rfl
theorem stmB0_run (W : World) : stmB0.run Tryz.prog W = .ok (.value (.agg (stmC noSt))) W := by kernel_rfl
attribute [go_sem ↓] stmB7_x stmB0_x
attribute [go_sem] stmB0_run
theorem rkvalid_any (k : Ky) (w : World) (hs : k.secret.size < 9223372036854775808) : Calls Tryz.prog 22 #[.agg (kyC k)] w fun e w' => e = .returned (.bool (okKy k)) ∧ Ext w w' := by
 have HF : Hid (okKy k = (decide (min k.party k.serial ≥ 1) && decide (max k.party k.serial ≤ 1073741824) && decide ((k.secret.size : Int) ≥ 1) && decide ((k.secret.size : Int) ≤ 64) && decide (k.fr ≥ 0) && decide (k.fr < k.upto) && decide (k.upto ≤ 1099511627776))) := lh rfl
 generalize okKy k = R at HF ⊢
 go_enter Tryz.func22, Tryz.ntmps22
 go_wp2
 all_goals
  go_ret
  exact ⟨ret_bool (by rw [HF.out]; clear HF; simp [*] <;> omega), (by (with_reducible repeat first|exact eR _|apply eD|apply eN|apply eA|apply eO|apply eS|apply eC);all_goals first|omega|simp <;> omega)⟩
theorem neq_sel {a b : List Int} (ha : a.length = 16) (hb : b.length = 16) (ba : Byt a) (bb : Byt b) (W : World) : (binOp .neq 28 (.agg (dgC a)) (.agg (dgC b))).run Tryz.prog W = .ok (.bool (!(decide (a = b)))) W := by
 have h := run_equalIn_bytes (P := Tryz.prog) W 9998 28 5 16 (by kernel_rfl) (by kernel_rfl) u8_size (u8s a) (u8s b) (by simp [u8s, ha]) (by simp [u8s, hb])
 rw [u8s_cells ba, u8s_cells bb, u8s_beq ba bb] at h
 rw [dgC_cells ha, dgC_cells hb, run_neq_struct, h]
 rfl
noncomputable def checkOut (kf : Ky) (ef tag : Int) (parts : List ByteArray) (sel : List Int) (lo hi : Int) : Int := if ef = 0 then if countB kf lo hi = true then if makeN kf tag parts = sel then 0 else 8 else 9 else ef
theorem scheck_any (Ar : Option Addr) (nr cr : Nat) (p s tag : Int) (A : Option Addr) (c : Nat) (parts : List ByteArray) (sel : List Int) (lo hi : Int) (kf : Ky) (ef : Int) (w : World) (hs : sel.length = 16) (hb : Byt sel) (hr : ReadsStr w w.heap.size A parts) (hz : A = none → c = 0) (hl : ef = 0 → lens ([kf.secret] ++ parts ++ [kf.secret]) < 8796093022208) (hk : Konst 0 w)
  (hf : ∀ W, Ext w W → Calls Tryz.prog 177 #[.slice Ar nr cr, .int .i64 p, .int .i64 s] W fun e w' => e = .returned (.tuple #[.agg (kyC kf), .int .i64 ef]) ∧ Ext W w') :
  Calls Tryz.prog 131 #[.slice Ar nr cr, .int .i64 p, .int .i64 s, .int .i64 tag, .slice A parts.length c, .agg (dgC sel), .agg #[.int .i64 lo, .int .i64 hi]] w fun e w' => e = .returned (.int .i64 (checkOut kf ef tag parts sel lo hi)) ∧ Ext w w' := by
 have HF := lh hf
 have HR := lh hr
 have HK := lh hk
 have HC := lh (fun W => counts_any kf lo hi W)
 have HM := lh (fun (W : World) (hx : Ext w W) (h0 : ef = 0) => smake_any kf tag A c parts W (hr.on hx) hz (hl h0) (RowAt.ext hk hx))
 obtain ⟨D, hD⟩ : ∃ D, makeN kf tag parts = D := ⟨_, rfl⟩
 have h16 : D.length = 16 := by rw [← hD]; exact makeN_len _ _ _
 have hneq := neq_sel (a := D) (b := sel) h16 hs (by rw [← hD]; exact makeN_byt _ _ _) hb
 have HO : Hid (checkOut kf ef tag parts sel lo hi = if ef = 0 then if countB kf lo hi = true then if D = sel then 0 else 8 else 9 else ef) := lh (by rw [← hD]; rfl)
 rw [hD] at HM
 have hft := ky_fits kf
 have hfs : fitsRow 16 (dgC sel) = true := by simp [fitsRow, dgC, Value.oneCell']
 generalize checkOut kf ef tag parts sel lo hi = O at *
 clear hD h16 hs hb hr hz hl hk hf
 go_enter Tryz.func131, Tryz.ntmps131
 go_upto_region 2 with (go_at_call 177; refine (HF.out _ (by (with_reducible repeat first|exact eR _|apply eD|apply eN|apply eA|apply eO|apply eS|apply eC);all_goals first|omega|simp <;> omega)).mono ?_; rintro e w' ⟨rfl, hxl⟩; obtain ⟨xl, rfl⟩ := hxl.asLater; clear hxl)
 refine wp_world (fun W => Ext w W ∧ RowAt W w.heap.size (dgC sel) ∧ RowAt W (w.heap.size + 1) #[.int .i64 lo, .int .i64 hi] ∧ RowAt W (w.heap.size + 1 + 1 + xl.n) (kyC kf)) ⟨Ext.setCells ((by (with_reducible repeat first|exact eR _|apply eD|apply eN|apply eA|apply eO|apply eS|apply eC);all_goals first|omega|simp <;> omega)) (by omega) _ _, ?_, ?_, ?_⟩ ?_
 ·exact RowAt.others ((((RowAt.new _ _ _).alloc _).later _).alloc _) (by omega) _ _
 ·exact RowAt.others (((RowAt.newAt (by simp)).later _).alloc _) (by omega) _ _
 ·exact RowAt.store (RowAt.newAt (by simp [later_size])) rfl
 obtain ⟨B, hB⟩ : ∃ B, w.heap.size = B := ⟨_, rfl⟩
 obtain ⟨g, hg⟩ : ∃ g, w.heap.size + 1 + 1 + xl.n = g := ⟨_, rfl⟩
 rw [hg, hB]
 rintro W1 ⟨x1, u0, u1, u2⟩
 have HX1 := lh x1
 have s0 : rowOf W1 B 0 16 = some (dgC sel) := u0.all rfl (by omega)
 have p0 : W1.cell? ⟨B + 1, 0, none⟩ = some (.int .i64 lo) := u1.cell 0
 have p1 : W1.cell? ⟨B + 1, 1, none⟩ = some (.int .i64 hi) := u1.cell 1
 have k0 : rowOf W1 g 0 5 = some (kyC kf) := u2.all rfl (by omega)
 have hlu := u2.lt
 have hls := x1.size
 have hl0 := u1.lt
 clear x1 u0 u1 u2 hg
 by_cases b0 : ef = 0
 ·subst b0
  cases b1 : countB kf lo hi with
  | true =>
   rw [b1] at HC HO
   have HM' := lh (fun W hx => HM.out W hx rfl)
   by_cases b2 : D = sel
   ·have HO' : Hid (O = 0) := lh (by rw [HO.out, if_pos rfl, if_pos rfl, if_pos b2])
    have d2 : decide (D = sel) = true := by simpa using b2
    clear HO b1 b2 HM
    go_wp2_with (first | (go_at_call 178; refine (HC.out _).mono ?_; rintro e w' ⟨rfl, hxl⟩; obtain ⟨xl, rfl⟩ := hxl.asLater; clear hxl))
    refine wp_region_later (by kernel_rfl) (by kernel_rfl) ?_
    repeat (first | go_big_quiet_step ((go_at_call 179; exact quietE (HM'.out _ (by first | exact ((HX1.out.onto _).onto _) | exact HX1.out.onto _ | exact (by (with_reducible repeat first|exact HX1.out|exact eR _|apply eD|apply eN|apply eA|apply eO|apply eS|apply eC);all_goals first|omega|simp <;> omega))))) | quiet_step ((go_at_call 179; exact quietE (HM'.out _ (by first | exact ((HX1.out.onto _).onto _) | exact HX1.out.onto _ | exact (by (with_reducible repeat first|exact HX1.out|exact eR _|apply eD|apply eN|apply eA|apply eO|apply eS|apply eC);all_goals first|omega|simp <;> omega))))))
    refine wpQuiet_nil ?_
    rintro _ ⟨xq, rfl⟩
    go_wp2
    go_ret
    exact ⟨ret_int HO'.out.symm, (by (with_reducible repeat first|exact HX1.out|exact eR _|apply eD|apply eN|apply eA|apply eO|apply eS|apply eC);all_goals first|omega|simp <;> omega)⟩
   ·have HO' : Hid (O = 8) := lh (by rw [HO.out, if_pos rfl, if_pos rfl, if_neg b2])
    have d2 : decide (D = sel) = false := by simpa using b2
    clear HO b1 b2 HM
    go_wp2_with (first | (go_at_call 178; refine (HC.out _).mono ?_; rintro e w' ⟨rfl, hxl⟩; obtain ⟨xl, rfl⟩ := hxl.asLater; clear hxl))
    refine wp_region_later (by kernel_rfl) (by kernel_rfl) ?_
    repeat (first | go_big_quiet_step ((go_at_call 179; exact quietE (HM'.out _ (by first | exact ((HX1.out.onto _).onto _) | exact HX1.out.onto _ | exact (by (with_reducible repeat first|exact HX1.out|exact eR _|apply eD|apply eN|apply eA|apply eO|apply eS|apply eC);all_goals first|omega|simp <;> omega))))) | quiet_step ((go_at_call 179; exact quietE (HM'.out _ (by first | exact ((HX1.out.onto _).onto _) | exact HX1.out.onto _ | exact (by (with_reducible repeat first|exact HX1.out|exact eR _|apply eD|apply eN|apply eA|apply eO|apply eS|apply eC);all_goals first|omega|simp <;> omega))))))
    refine wpQuiet_nil ?_
    rintro _ ⟨xq, rfl⟩
    go_wp2
    go_ret
    exact ⟨ret_int HO'.out.symm, (by (with_reducible repeat first|exact HX1.out|exact eR _|apply eD|apply eN|apply eA|apply eO|apply eS|apply eC);all_goals first|omega|simp <;> omega)⟩
  | false =>
   rw [b1] at HC HO
   have HO' : Hid (O = 9) := lh (by rw [HO.out, if_pos rfl, if_neg (by simp)])
   clear HO b1 HM
   go_wp2_with (first | (go_at_call 178; refine (HC.out _).mono ?_; rintro e w' ⟨rfl, hxl⟩; obtain ⟨xl, rfl⟩ := hxl.asLater; clear hxl))
   go_ret
   exact ⟨ret_int HO'.out.symm, (by (with_reducible repeat first|exact HX1.out|exact eR _|apply eD|apply eN|apply eA|apply eO|apply eS|apply eC);all_goals first|omega|simp <;> omega)⟩
 ·have HO' : Hid (O = ef) := lh (by rw [HO.out, if_neg b0])
  have e0 : (ef != 0) = true := by simpa using b0
  clear HO HM HC b0
  go_wp2
  go_ret
  exact ⟨ret_int HO'.out.symm, (by (with_reducible repeat first|exact HX1.out|exact eR _|apply eD|apply eN|apply eA|apply eO|apply eS|apply eC);all_goals first|omega|simp <;> omega)⟩
end Go.Proofs.YtpojnhikgjcgmaaGreatDoor