/- CheckConfirm of both sides. -/
import Derived.WalkKit
import Derived.WalkSpells
import Derived.WalkLawsBesides
import Derived.Deep.QuietTactic
import Derived.BigQuiet
import Derived.Test.YtpojnhikgjcgmaaGreatDoorIOz
set_option maxRecDepth 100000
set_option maxHeartbeats 64000000
set_option linter.unusedVariables false
set_option linter.unusedSimpArgs false
namespace Go.Proofs.YtpojnhikgjcgmaaGreatDoor
open Go.RowKit Go.Shelf
open Go.Proofs
theorem arr_reads {w : World} {b o : Nat} {l : List Int} (h : rowOf w b o 16 = some (dgC l)) (h16 : l.length = 16) (hb : b < w.heap.size) : ReadsB w w.heap.size (some ⟨b, o, none⟩) l := by
 intro _
 refine ⟨b, o, rfl, hb, fun i hi j v hv => ?_⟩
 have hj : j = 0 := by
  have := (List.getElem?_eq_some_iff.1 hv).1
  simp [encB] at this
  omega
 subst hj
 simp only [encB, List.getElem?_cons_zero, Option.some.injEq] at hv
 subst hv
 rw [dgC_cells h16] at h
 have hc := rowOf_cell h (i := i) (by omega)
 rw [cells8_get, h16, if_pos (by omega)] at hc
 rw [Nat.mul_one, Nat.add_zero, hc]
 simp [hi]
theorem reads_freshB {α : Type} {size : Nat} {enc : α → List Value} (E : EncTy enc size) (l : List α) (W : World) (cs : Array Value) (t : TypeId) (h : cs.toList = l.flatMap enc) (b : Nat) (hb : b = W.heap.size) : Reads size enc (W.alloc (.cells cs t)) (W.alloc (.cells cs t)).heap.size (some ⟨b, 0, none⟩) l := by
 subst hb
 exact reads_fresh E l W cs t h
def ringAt (l : List Ky) (i : Nat) : Bool := okKy (l.getD i noKy) && (decide (i = 0) || befK (l.getD (i - 1) noKy) (l.getD i noKy))
def ringB (l : List Ky) : Bool := (List.range l.length).all (ringAt l) && decide ((l.length : Int) ≤ 1000)
theorem ringB_is {l : List Ky} (h : ringB l = true) : RingOk l := by
 simp only [ringB, Bool.and_eq_true, List.all_eq_true, List.mem_range, decide_eq_true_eq] at h
 obtain ⟨h1, h2⟩ := h
 refine ⟨fun k hk => ?_, fun i hi => ?_, by omega⟩
 ·obtain ⟨i, hi, rfl⟩ := List.getElem_of_mem hk
  have := h1 i hi
  simp only [ringAt, Bool.and_eq_true, List.getD_eq_getElem?_getD, List.getElem?_eq_getElem hi, Option.getD_some] at this
  exact this.1
 ·have := h1 (i + 1) hi
  simp only [ringAt, Bool.and_eq_true, Bool.or_eq_true, decide_eq_true_eq, List.getD_eq_getElem?_getD, List.getElem?_eq_getElem hi, Option.getD_some, Nat.add_sub_cancel, List.getElem?_eq_getElem (show i < l.length by omega)] at this
  rcases this.2 with h | h
  ·omega
  ·exact h
theorem rbefore_any (a b : Ky) (w : World) : Calls Tryz.prog 77 #[.agg (kyC a), .agg (kyC b)] w fun e w' => e = .returned (.bool (befK a b)) ∧ Ext w w' := by
 have HF : Hid (befK a b = (decide (a.party < b.party) || (decide (a.party = b.party) && decide (a.serial < b.serial)))) := lh rfl
 have hfa := ky_fits a
 have hfb := ky_fits b
 generalize befK a b = R at HF ⊢
 go_enter Tryz.func77, Tryz.ntmps77
 go_wp2
 all_goals
  go_ret
  exact ⟨ret_bool (by have h := HF.out; clear HF; subst h; first | rfl | (simp [*]; done) | (simp [*]; omega) | omega), (by (with_reducible repeat first|exact eR _|apply eD|apply eN|apply eA|apply eO|apply eS|apply eC);all_goals first|omega|simp <;> omega)⟩
theorem range_snoc (p : Nat → Bool) (k : Nat) (h : (List.range k).all p = true) (hk : p k = true) : (List.range (k + 1)).all p = true := by
 rw [List.range_succ, List.all_append, h]
 simpa using hk
theorem range_no (p : Nat → Bool) (k n : Nat) (hkn : k < n) (hk : p k = false) : (List.range n).all p = false := by
 rw [List.all_eq_false]
 exact ⟨k, by simpa using hkn, by simpa using hk⟩
theorem rring_any (A : Option Addr) (c : Nat) (l : List Ky) (w : World) (hl : l.length ≤ 9223372036854775807) (hr : ReadsKy w w.heap.size A l) (hs : ∀ k ∈ l, k.secret.size < 9223372036854775808) :
  Calls Tryz.prog 33 #[.slice A l.length c] w fun e w' => e = .returned (.bool (ringB l)) ∧ Ext w w' := by
 have HR := lh hr
 have HV := lh (fun (k : Nat) (h : k < l.length) (W : World) => rkvalid_any l[k] W (hs _ (List.getElem_mem h)))
 have HB := lh rbefore_any
 clear hr hs
 go_enter Tryz.func33, Tryz.ntmps33
 go_wp2
 go_loopw [3] (fun i wr => ∃ k : Nat, k ≤ l.length ∧ i = .int .i64 k ∧ Hid ((List.range k).all (ringAt l) = true) ∧ Hid (Ext w wr)) (fun i _ => l.length - (intOf i).toNat)
 case atStart => exact ⟨0, Nat.zero_le _, rfl, lh rfl, lh (eR _)⟩
 case round =>
  obtain ⟨k, hk, rfl, HK, HX⟩ := hrel
  have hsz := HX.out.size
  by_cases hlt : k < l.length
  ·obtain ⟨b, off, rfl, hb, hrow⟩ := ReadsKy.row (HR.out.ext HX.out (Nat.le_refl _)) k hlt
   have hb2 : b < wr.heap.size := by omega
   have HV1 := lh (HV.out k hlt)
   have hg : l.getD k noKy = l[k] := by rw [List.getD_eq_getElem?_getD, List.getElem?_eq_getElem hlt]; rfl
   have hft := ky_fits l[k]
   by_cases k0 : 0 < k
   ·obtain ⟨b', off', e1, _, hrp⟩ := ReadsKy.row (HR.out.ext HX.out (Nat.le_refl _)) (k - 1) (by omega)
    injection e1 with e1
    injection e1 with e1 e2
    subst e1 e2
    have hgp : l.getD (k - 1) noKy = l[k - 1]'(by omega) := by rw [List.getD_eq_getElem?_getD, List.getElem?_eq_getElem (show k - 1 < l.length by omega)]; rfl
    have HP : Hid (ringAt l k = (okKy l[k] && befK (l[k - 1]'(by omega)) l[k])) := lh (by rw [ringAt, hg, hgp, decide_eq_false (by omega), Bool.false_or])
    have HB1 := lh (fun W => HB.out (l[k - 1]'(by omega)) l[k] W)
    have hftp := ky_fits (l[k - 1]'(by omega))
    have d0 : decide (0 < k) = true := by simp; omega
    have d1 : decide (0 < (k : Int)) = true := by simp; omega
    clear hg hgp
    generalize l[k - 1]'(by omega) = kp at *
    generalize l[k] = kk at *
    generalize okKy kk = v at *
    generalize befK kp kk = f at *
    cases v with
    | true =>
     cases f with
     | true =>
      have HN := lh (range_snoc _ k HK.out (by rw [HP.out]; rfl))
      clear HP
      go_wp2_with (go_at_call 22; refine (HV1.out _).mono ?_; rintro e w' ⟨rfl, hxl⟩; obtain ⟨xl, rfl⟩ := hxl.asLater; clear hxl)
      refine wp_region_later (by kernel_rfl) (by kernel_rfl) ?_
      repeat (first | go_big_quiet_step ((go_at_call 77; exact quietE (HB1.out _))) | quiet_step ((go_at_call 77; exact quietE (HB1.out _))))
      refine wpQuiet_nil ?_
      rintro _ ⟨xq, rfl⟩
      go_wp2
      go_roundw
      case rel => exact ⟨k + 1, by omega, by go_num, HN, lh (by (with_reducible repeat first|exact HX.out|exact eR _|apply eD|apply eN|apply eA|apply eO|apply eS|apply eC);all_goals first|omega|simp <;> omega)⟩
      case measure => simp [intOf]; omega
     | false =>
      have HN := lh (range_no (ringAt l) k l.length hlt (by rw [HP.out]; rfl))
      clear HP
      go_wp2_with (go_at_call 22; refine (HV1.out _).mono ?_; rintro e w' ⟨rfl, hxl⟩; obtain ⟨xl, rfl⟩ := hxl.asLater; clear hxl)
      refine wp_region_later (by kernel_rfl) (by kernel_rfl) ?_
      repeat (first | go_big_quiet_step ((go_at_call 77; exact quietE (HB1.out _))) | quiet_step ((go_at_call 77; exact quietE (HB1.out _))))
      refine wpQuiet_nil ?_
      rintro _ ⟨xq, rfl⟩
      go_wp2
      go_ret
      exact ⟨ret_bool (by rw [ringB, HN.out]; rfl), (by (with_reducible repeat first|exact HX.out|exact eR _|apply eD|apply eN|apply eA|apply eO|apply eS|apply eC);all_goals first|omega|simp <;> omega)⟩
    | false =>
     have HN := lh (range_no (ringAt l) k l.length hlt (by rw [HP.out]; rfl))
     clear HP
     go_wp2_with (go_at_call 22; refine (HV1.out _).mono ?_; rintro e w' ⟨rfl, hxl⟩; obtain ⟨xl, rfl⟩ := hxl.asLater; clear hxl)
     refine wp_region_later (by kernel_rfl) (by kernel_rfl) ?_
     repeat (first | go_big_quiet_step (fail) | quiet_step (fail))
     refine wpQuiet_nil ?_
     rintro _ ⟨xq, rfl⟩
     go_wp2
     go_ret
     exact ⟨ret_bool (by rw [ringB, HN.out]; rfl), (by (with_reducible repeat first|exact HX.out|exact eR _|apply eD|apply eN|apply eA|apply eO|apply eS|apply eC);all_goals first|omega|simp <;> omega)⟩
   ·have hk0 : k = 0 := by omega
    subst hk0
    rw [Nat.zero_mul, Nat.add_zero] at hrow
    have HP : Hid (ringAt l 0 = okKy l[0]) := lh (by rw [ringAt, hg, decide_eq_true rfl, Bool.true_or, Bool.and_true])
    clear hg
    generalize l[0] = kk at *
    generalize okKy kk = v at *
    cases v with
    | true =>
     have HN := lh (range_snoc _ 0 HK.out HP.out)
     clear HP
     go_wp2_with (go_at_call 22; refine (HV1.out _).mono ?_; rintro e w' ⟨rfl, hxl⟩; obtain ⟨xl, rfl⟩ := hxl.asLater; clear hxl)
     refine wp_region_later (by kernel_rfl) (by kernel_rfl) ?_
     repeat (first | go_big_quiet_step (fail) | quiet_step (fail))
     refine wpQuiet_nil ?_
     rintro _ ⟨xq, rfl⟩
     go_wp2
     go_roundw
     case rel => exact ⟨0 + 1, by omega, by go_num, HN, lh (by (with_reducible repeat first|exact HX.out|exact eR _|apply eD|apply eN|apply eA|apply eO|apply eS|apply eC);all_goals first|omega|simp <;> omega)⟩
     case measure => simp [intOf]; omega
    | false =>
     have HN := lh (range_no (ringAt l) 0 l.length hlt HP.out)
     clear HP
     go_wp2_with (go_at_call 22; refine (HV1.out _).mono ?_; rintro e w' ⟨rfl, hxl⟩; obtain ⟨xl, rfl⟩ := hxl.asLater; clear hxl)
     refine wp_region_later (by kernel_rfl) (by kernel_rfl) ?_
     repeat (first | go_big_quiet_step (fail) | quiet_step (fail))
     refine wpQuiet_nil ?_
     rintro _ ⟨xq, rfl⟩
     go_wp2
     go_ret
     exact ⟨ret_bool (by rw [ringB, HN.out]; rfl), (by (with_reducible repeat first|exact HX.out|exact eR _|apply eD|apply eN|apply eA|apply eO|apply eS|apply eC);all_goals first|omega|simp <;> omega)⟩
  ·have e : k = l.length := by omega
   subst e
   have HN : Hid (ringB l = decide ((l.length : Int) ≤ 1000)) := lh (by rw [ringB, HK.out, Bool.true_and])
   clear HK
   go_wp2
   go_ret
   exact ⟨ret_bool (by rw [HN.out]), HX.out⟩
def fndL (k : Ky) (e : Int) : List Value := kyL k ++ [.int .i64 e]
def fndC (k : Ky) (e : Int) : Array Value := (fndL k e).toArray
theorem fnd_ty : RowTy Tryz.prog 236 6 := ⟨by kernel_rfl, by kernel_rfl⟩
theorem fnd_ld (w : World) (b o : Nat) : (rowLoad 236 6 (.pointer (some ⟨b, o, none⟩))).run Tryz.prog w = rowLoadR Tryz.prog w 236 6 b o (rowOf w b o 6) := run_rowLoad fnd_ty w b o
theorem fnd_st (w : World) (b o : Nat) (cells : Array Value) : (rowStore 236 6 (.pointer (some ⟨b, o, none⟩)) (.agg cells)).run Tryz.prog w = rowStoreR Tryz.prog w 236 6 b o cells (roomOf w b o 6 && fitsRow 6 cells) := run_rowStore fnd_ty w b o cells
theorem fnd_al (w : World) : (rowAlloc 236).run Tryz.prog w = .ok (.value (.pointer (some ⟨w.heap.size, 0, none⟩))) (w.alloc (.cells (fndC noKy 0) 236)) := run_rowAlloc (by kernel_rfl) w
theorem fnd_xl (ρ : Operand → Value) (dst : Option Tmp) (x : Operand) (t : TypeId) (pos : String) (after : Array Edge) (guard : Option (Nat × Bool)) : execOp ρ { dst, op := .load 236 x, type := t, pos, after, guard } = rowLoad 236 6 (ρ x) := rfl
theorem fnd_xs (ρ : Operand → Value) (dst : Option Tmp) (x y : Operand) (t : TypeId) (pos : String) (after : Array Edge) (guard : Option (Nat × Bool)) : execOp ρ { dst, op := .store 236 x y, type := t, pos, after, guard } = rowStore 236 6 (ρ x) (ρ y) := rfl
theorem fnd_xa (ρ : Operand → Value) (dst : Option Tmp) (t : TypeId) (pos : String) (after : Array Edge) (guard : Option (Nat × Bool)) : execOp ρ { dst, op := .alloc 236, type := t, pos, after, guard } = rowAlloc 236 := rfl
attribute [go_sem ↓] fnd_xl fnd_xs fnd_xa
attribute [go_sem] fnd_ld fnd_st fnd_al
theorem fnd_size (k : Ky) (e : Int) : (fndC k e).size = 6 := rfl
theorem fnd_all (k : Ky) (e : Int) : rowSub (fndC k e) 0 6 = some (fndC k e) := rowSub_all _ _ rfl
theorem fnd_fits (k : Ky) (e : Int) : fitsRow 6 (fndC k e) = true := by kernel_rfl
theorem fnd_ky (k : Ky) (e : Int) : rowSub (fndC k e) 0 5 = some (kyC k) := by kernel_rfl
theorem fnd_g5 (k : Ky) (e : Int) : (fndC k e)[5]? = some (.int .i64 e) := by kernel_rfl
attribute [go_sem] fnd_size fnd_all fnd_fits fnd_ky fnd_g5
def fndB1 (x : Value) : Sem Next := do pure (.value (← Instr.build 236 #[(1, x)]))
theorem fndB1_x (ρ : Operand → Value) (dst : Option Tmp) (x : Operand) (t : TypeId) (pos : String) (after : Array Edge) (guard : Option (Nat × Bool)) : execOp ρ { dst, op := .build 236 #[(1, x)], type := t, pos, after, guard } = fndB1 (ρ x) := by kernel_rfl
theorem fndB1_run (e : Int) (W : World) : (fndB1 (.int .i64 e)).run Tryz.prog W = .ok (.value (.agg (fndC noKy e))) W := by kernel_rfl
def fndB0 (x : Value) : Sem Next := do pure (.value (← Instr.build 236 #[(0, x)]))
theorem fndB0_x (ρ : Operand → Value) (dst : Option Tmp) (x : Operand) (t : TypeId) (pos : String) (after : Array Edge) (guard : Option (Nat × Bool)) : execOp ρ { dst, op := .build 236 #[(0, x)], type := t, pos, after, guard } = fndB0 (ρ x) := by kernel_rfl
theorem fndB0_run (k : Ky) (W : World) : (fndB0 (.agg (kyC k))).run Tryz.prog W = .ok (.value (.agg (fndC k 0))) W := by kernel_rfl
attribute [go_sem ↓] fndB1_x fndB0_x
attribute [go_sem] fndB1_run fndB0_run
theorem find_snoc {l : List Ky} {p s : Int} {k : Nat} (h : k < l.length) (h0 : (l.take k).find? (fun x => cmpK p s x == 0) = none) (h1 : cmpK p s l[k] ≠ 0) : (l.take (k + 1)).find? (fun x => cmpK p s x == 0) = none := by
 rw [List.take_succ_eq_append_getElem h, List.find?_append, h0]
 simp [h1]
theorem find_hit {l : List Ky} {p s : Int} {k : Nat} (h : k < l.length) (h0 : (l.take k).find? (fun x => cmpK p s x == 0) = none) (h1 : cmpK p s l[k] = 0) : keyN l p s = some l[k] := by
 unfold keyN
 have e : l = l.take k ++ l[k] :: l.drop (k + 1) := by rw [← List.drop_eq_getElem_cons h, List.take_append_drop]
 have h2 : ∀ (x : Ky) (a b : List Ky), a.find? (fun x => cmpK p s x == 0) = none → cmpK p s x = 0 → (a ++ x :: b).find? (fun x => cmpK p s x == 0) = some x := fun x a b ha hx => by
  rw [List.find?_append, ha, List.find?_cons]
  simp [hx]
 have h3 := h2 l[k] (l.take k) (l.drop (k + 1)) h0 h1
 rw [← e] at h3
 exact h3
theorem rfind_any (A : Option Addr) (c : Nat) (l : List Ky) (p s : Int) (w : World) (hl : l.length ≤ 9223372036854775807) (hr : ReadsKy w w.heap.size A l) :
  Calls Tryz.prog 180 #[.slice A l.length c, .int .i64 p, .int .i64 s] w fun e w' => e = .returned (.agg (fndC (keyF l p s) (keyE l p s))) ∧ Ext w w' := by
 have HR := lh hr
 clear hr
 go_enter Tryz.func180, Tryz.ntmps180
 go_wp2
 refine wp_world (fun W => Ext w W ∧ RowAt W w.heap.size (fndC noKy 0) ∧ W.heap.size = w.heap.size + 1) ⟨(by (with_reducible repeat first|exact eR _|apply eD|apply eN|apply eA|apply eO|apply eS|apply eC);all_goals first|omega|simp <;> omega), RowAt.new _ _ _, by simp⟩ ?_
 obtain ⟨B, hB⟩ : ∃ B, w.heap.size = B := ⟨_, rfl⟩
 rw [hB]
 rintro W1 ⟨x1, u0, hs1⟩
 have HX1 := lh x1
 have HU0 := lh u0
 clear x1 u0
 go_loopw [7] (fun i wr => ∃ k : Nat, k ≤ l.length ∧ i = .int .i64 k ∧ Hid ((l.take k).find? (fun x => cmpK p s x == 0) = none) ∧ Hid (Ext W1 wr)) (fun i _ => l.length - (intOf i).toNat)
 case atStart => exact ⟨0, Nat.zero_le _, rfl, lh rfl, lh (eR _)⟩
 case round =>
  obtain ⟨k, hk, rfl, HK, HX⟩ := hrel
  have hsz := HX.out.size
  have HU := lh (HU0.out.ext HX.out)
  have hm : roomOf wr B 0 6 = true := by rw [HU.out.room]; rfl
  by_cases hlt : k < l.length
  ·obtain ⟨b, off, rfl, hb, hrow⟩ := ReadsKy.row (HR.out.ext (HX1.out.trans HX.out) (Nat.le_refl _)) k hlt
   have hb2 : b < wr.heap.size := by omega
   have hp : wr.cell? ⟨b, off + k * 5, none⟩ = some (.int .i64 l[k].party) := (rowOf_cell hrow (i := 0) (by omega)).trans (ky_g0 _)
   have hs : wr.cell? ⟨b, off + k * 5 + 1, none⟩ = some (.int .i64 l[k].serial) := (rowOf_cell hrow (i := 1) (by omega)).trans (ky_g1 _)
   have HS := lh (find_snoc (p := p) (s := s) hlt HK.out)
   have HF := lh (find_hit (p := p) (s := s) hlt HK.out)
   have hft := ky_fits l[k]
   generalize l[k] = kk at *
   by_cases b0 : kk.party = p
   ·have e0 : (kk.party == p) = true := by simpa using b0
    by_cases b1 : kk.serial = s
    ·have e1 : (kk.serial == s) = true := by simpa using b1
     have HF1 := lh (HF.out (by unfold cmpK; rw [if_pos b0]; omega))
     have hft2 := fnd_fits kk 0
     clear HS HF b0 b1
     go_wp2
     exact post_row fnd_ty Tryz.results180 rfl rfl (RowAt.stored (n := 6) (ds := fndC kk 0) HU.out rfl rfl (by omega)) ⟨by rw [keyF, keyE, HF1.out]; rfl, (by (with_reducible repeat first|exact HX1.out.trans HX.out|exact eR _|apply eD|apply eN|apply eA|apply eO|apply eS|apply eC);all_goals first|omega|simp <;> omega)⟩
    ·have e1 : (kk.serial == s) = false := by simpa using b1
     have HS1 := lh (HS.out (by unfold cmpK; rw [if_pos b0]; omega))
     clear HS HF b0 b1
     go_wp2
     go_roundw
     case rel => exact ⟨k + 1, by omega, by go_num, HS1, lh (by (with_reducible repeat first|exact HX.out|exact eR _|apply eD|apply eN|apply eA|apply eO|apply eS|apply eC);all_goals first|omega|simp <;> omega)⟩
     case measure => simp [intOf]; omega
   ·have e0 : (kk.party == p) = false := by simpa using b0
    have HS1 := lh (HS.out (by unfold cmpK; rw [if_neg b0]; omega))
    clear HS HF b0
    go_wp2
    go_roundw
    case rel => exact ⟨k + 1, by omega, by go_num, HS1, lh (by (with_reducible repeat first|exact HX.out|exact eR _|apply eD|apply eN|apply eA|apply eO|apply eS|apply eC);all_goals first|omega|simp <;> omega)⟩
    case measure => simp [intOf]; omega
  ·have e : k = l.length := by omega
   subst e
   have HN : Hid (keyN l p s = none) := lh (by have h := HK.out; rwa [List.take_of_length_le (Nat.le_refl _)] at h)
   have hft2 := fnd_fits noKy 5
   clear HK
   go_wp2
   exact post_row fnd_ty Tryz.results180 rfl rfl (RowAt.stored (n := 6) (ds := fndC noKy 5) HU.out rfl rfl (by omega)) ⟨by rw [keyF, keyE, HN.out]; rfl, (by (with_reducible repeat first|exact HX1.out.trans HX.out|exact eR _|apply eD|apply eN|apply eA|apply eO|apply eS|apply eC);all_goals first|omega|simp <;> omega)⟩
noncomputable def checkR (l : List Ky) (p s tag : Int) (parts : List ByteArray) (sel : List Int) (lo hi : Int) : Int := checkOut (keyF l p s) (keyE l p s) tag parts sel lo hi
theorem keyF_secret {l : List Ky} (h : RingOk l) {p s : Int} (h0 : keyE l p s = 0) : (keyF l p s).secret.size ≤ 64 := by
 unfold keyE at h0
 unfold keyF
 cases hk : keyN l p s with
 | none => rw [hk] at h0; simp at h0
 | some k => exact (okKy_lims (h.ok k (keyN_zero hk).1)).2.2.2.2.2.1
theorem lens_key {k : Ky} {parts : List ByteArray} (hs : k.secret.size ≤ 64) (hl : lens parts ≤ 1000000000000) : lens ([k.secret] ++ parts ++ [k.secret]) < 8796093022208 := by
 rw [lens_append, lens_append, lens_one]
 omega
theorem scheck_ring (Ar : Option Addr) (cr : Nat) (l : List Ky) (p s tag : Int) (A : Option Addr) (c : Nat) (parts : List ByteArray) (sel : List Int) (lo hi : Int) (w : World) (hg : RingOk l) (hrk : ReadsKy w w.heap.size Ar l) (hp : small40 p) (hs : i64 s) (hd : DgOk sel) (hr : ReadsStr w w.heap.size A parts) (hz : A = none → c = 0) (hl : lens parts ≤ 1000000000000) (hk : Konst 0 w) :
  Calls Tryz.prog 131 #[.slice Ar l.length cr, .int .i64 p, .int .i64 s, .int .i64 tag, .slice A parts.length c, .agg (dgC sel), .agg #[.int .i64 lo, .int .i64 hi]] w fun e w' => e = .returned (.int .i64 (checkR l p s tag parts sel lo hi)) ∧ Ext w w' :=
 scheck_any Ar l.length cr p s tag A c parts sel lo hi (keyF l p s) (keyE l p s) w hd.len hd.byt hr hz (fun h0 => lens_key (keyF_secret hg h0) hl) hk (fun W hx => kfind_ring Ar cr l p s W hg (hrk.on hx) hp hs)
theorem rcheck_ring (Ar : Option Addr) (cr : Nat) (l : List Ky) (p s tag : Int) (A : Option Addr) (c : Nat) (parts : List ByteArray) (sel : List Int) (lo hi : Int) (w : World) (hg : RingOk l) (hrk : ReadsKy w w.heap.size Ar l) (hd : DgOk sel) (hr : ReadsStr w w.heap.size A parts) (hz : A = none → c = 0) (hl : lens parts ≤ 1000000000000) (hk : RKonst w) :
  Calls Tryz.prog 132 #[.slice Ar l.length cr, .int .i64 p, .int .i64 s, .int .i64 tag, .slice A parts.length c, .agg (dgC sel), .agg #[.int .i64 lo, .int .i64 hi]] w fun e w' => e = .returned (.int .i64 (checkR l p s tag parts sel lo hi)) ∧ Ext w w' := by
 have HF := lh (fun (W : World) (hx : Ext w W) => rfind_any Ar cr l p s W (by have := hg.len; omega) (hrk.on hx))
 have hkl : keyE l p s = 0 → lens ([(keyF l p s).secret] ++ parts ++ [(keyF l p s).secret]) < 8796093022208 := fun h0 => lens_key (keyF_secret hg h0) hl
 have hO : checkR l p s tag parts sel lo hi = checkOut (keyF l p s) (keyE l p s) tag parts sel lo hi := rfl
 generalize checkR l p s tag parts sel lo hi = O at *
 generalize keyF l p s = kf at *
 generalize keyE l p s = ef at *
 have HC := lh (fun W => rcounts_any kf lo hi W)
 have HM := lh (fun (W : World) (hx : Ext w W) (h0 : ef = 0) => rmake_any kf tag A c parts W (hr.on hx) hz (hkl h0) (RowAt.ext hk hx))
 obtain ⟨D, hD⟩ : ∃ D, makeN kf tag parts = D := ⟨_, rfl⟩
 have h16 : D.length = 16 := by rw [← hD]; exact makeN_len _ _ _
 have hneq := neq_sel (a := D) (b := sel) h16 hd.len (by rw [← hD]; exact makeN_byt _ _ _) hd.byt
 have HO : Hid (O = if ef = 0 then if countB kf lo hi = true then if D = sel then 0 else 8 else 9 else ef) := lh (by rw [hO, ← hD]; rfl)
 rw [hD] at HM
 have hft := fnd_fits kf ef
 have hfk := ky_fits kf
 have hfs : fitsRow 16 (dgC sel) = true := by simp [fitsRow, dgC, Value.oneCell']
 clear hD h16 hd hr hz hl hk hrk hg hkl hO
 go_enter Tryz.func132, Tryz.ntmps132
 go_upto_region 2 with (go_at_call 180; refine (HF.out _ (by (with_reducible repeat first|exact eR _|apply eD|apply eN|apply eA|apply eO|apply eS|apply eC);all_goals first|omega|simp <;> omega)).mono ?_; rintro e w' ⟨rfl, hxl⟩; obtain ⟨xl, rfl⟩ := hxl.asLater; clear hxl)
 refine wp_world (fun W => Ext w W ∧ RowAt W w.heap.size (dgC sel) ∧ RowAt W (w.heap.size + 1) #[.int .i64 lo, .int .i64 hi] ∧ RowAt W (w.heap.size + 1 + 1 + xl.n) (fndC kf ef)) ⟨Ext.setCells ((by (with_reducible repeat first|exact eR _|apply eD|apply eN|apply eA|apply eO|apply eS|apply eC);all_goals first|omega|simp <;> omega)) (by omega) _ _, ?_, ?_, ?_⟩ ?_
 ·exact RowAt.others ((((RowAt.new _ _ _).alloc _).later _).alloc _) (by omega) _ _
 ·exact RowAt.others (((RowAt.newAt (by simp)).later _).alloc _) (by omega) _ _
 ·exact RowAt.store (RowAt.newAt (by simp [later_size])) rfl
 obtain ⟨B, hB⟩ : ∃ B, w.heap.size = B := ⟨_, rfl⟩
 obtain ⟨g, hg⟩ : ∃ g, w.heap.size + 1 + 1 + xl.n = g := ⟨_, rfl⟩
 rw [hg, hB]
 rintro W1 ⟨x1, u0, u1, u2⟩
 have HX1 := lh x1
 have s0 : rowOf W1 B 0 16 = some (dgC sel) := u0.all rfl (by omega)
 have p0 : W1.cell? ⟨B + 1, 0, none⟩ = some (.int .i64 lo) := u1.cell 0
 have p1 : W1.cell? ⟨B + 1, 1, none⟩ = some (.int .i64 hi) := u1.cell 1
 have k0 : rowOf W1 g 0 5 = some (kyC kf) := by rw [u2.row, if_neg (by omega), fnd_ky]
 have k5 : W1.cell? ⟨g, 5, none⟩ = some (.int .i64 ef) := (u2.cell 5).trans (fnd_g5 _ _)
 have hlu := u2.lt
 have hls := x1.size
 have hl0 := u1.lt
 clear x1 u0 u1 u2 hg HF
 by_cases b0 : ef = 0
 ·subst b0
  cases b1 : countB kf lo hi with
  | true =>
   rw [b1] at HC HO
   have HM' := lh (fun W hx => HM.out W hx rfl)
   by_cases b2 : D = sel
   ·have HO' : Hid (O = 0) := lh (by rw [HO.out, if_pos rfl, if_pos rfl, if_pos b2])
    have d2 : decide (D = sel) = true := by simpa using b2
    clear HO b1 b2 HM
    go_wp2_with (first | (go_at_call 181; refine (HC.out _).mono ?_; rintro e w' ⟨rfl, hxl⟩; obtain ⟨xl, rfl⟩ := hxl.asLater; clear hxl))
    refine wp_region_later (by kernel_rfl) (by kernel_rfl) ?_
    repeat (first | go_big_quiet_step ((go_at_call 136; exact quietE (HM'.out _ (by first | exact ((HX1.out.onto _).onto _) | exact HX1.out.onto _ | exact (by (with_reducible repeat first|exact HX1.out|exact eR _|apply eD|apply eN|apply eA|apply eO|apply eS|apply eC);all_goals first|omega|simp <;> omega))))) | quiet_step ((go_at_call 136; exact quietE (HM'.out _ (by first | exact ((HX1.out.onto _).onto _) | exact HX1.out.onto _ | exact (by (with_reducible repeat first|exact HX1.out|exact eR _|apply eD|apply eN|apply eA|apply eO|apply eS|apply eC);all_goals first|omega|simp <;> omega))))))
    refine wpQuiet_nil ?_
    rintro _ ⟨xq, rfl⟩
    go_wp2
    go_ret
    exact ⟨ret_int HO'.out.symm, (by (with_reducible repeat first|exact HX1.out|exact eR _|apply eD|apply eN|apply eA|apply eO|apply eS|apply eC);all_goals first|omega|simp <;> omega)⟩
   ·have HO' : Hid (O = 8) := lh (by rw [HO.out, if_pos rfl, if_pos rfl, if_neg b2])
    have d2 : decide (D = sel) = false := by simpa using b2
    clear HO b1 b2 HM
    go_wp2_with (first | (go_at_call 181; refine (HC.out _).mono ?_; rintro e w' ⟨rfl, hxl⟩; obtain ⟨xl, rfl⟩ := hxl.asLater; clear hxl))
    refine wp_region_later (by kernel_rfl) (by kernel_rfl) ?_
    repeat (first | go_big_quiet_step ((go_at_call 136; exact quietE (HM'.out _ (by first | exact ((HX1.out.onto _).onto _) | exact HX1.out.onto _ | exact (by (with_reducible repeat first|exact HX1.out|exact eR _|apply eD|apply eN|apply eA|apply eO|apply eS|apply eC);all_goals first|omega|simp <;> omega))))) | quiet_step ((go_at_call 136; exact quietE (HM'.out _ (by first | exact ((HX1.out.onto _).onto _) | exact HX1.out.onto _ | exact (by (with_reducible repeat first|exact HX1.out|exact eR _|apply eD|apply eN|apply eA|apply eO|apply eS|apply eC);all_goals first|omega|simp <;> omega))))))
    refine wpQuiet_nil ?_
    rintro _ ⟨xq, rfl⟩
    go_wp2
    go_ret
    exact ⟨ret_int HO'.out.symm, (by (with_reducible repeat first|exact HX1.out|exact eR _|apply eD|apply eN|apply eA|apply eO|apply eS|apply eC);all_goals first|omega|simp <;> omega)⟩
  | false =>
   rw [b1] at HC HO
   have HO' : Hid (O = 9) := lh (by rw [HO.out, if_pos rfl, if_neg (by simp)])
   clear HO b1 HM
   go_wp2_with (first | (go_at_call 181; refine (HC.out _).mono ?_; rintro e w' ⟨rfl, hxl⟩; obtain ⟨xl, rfl⟩ := hxl.asLater; clear hxl))
   go_ret
   exact ⟨ret_int HO'.out.symm, (by (with_reducible repeat first|exact HX1.out|exact eR _|apply eD|apply eN|apply eA|apply eO|apply eS|apply eC);all_goals first|omega|simp <;> omega)⟩
 ·have HO' : Hid (O = ef) := lh (by rw [HO.out, if_neg b0])
  have e0 : (ef != 0) = true := by simpa using b0
  clear HO HM HC b0
  go_wp2
  go_ret
  exact ⟨ret_int HO'.out.symm, (by (with_reducible repeat first|exact HX1.out|exact eR _|apply eD|apply eN|apply eA|apply eO|apply eS|apply eC);all_goals first|omega|simp <;> omega)⟩
abbrev KonstP (w : World) : Prop := Konst 0 w
end Go.Proofs.YtpojnhikgjcgmaaGreatDoor