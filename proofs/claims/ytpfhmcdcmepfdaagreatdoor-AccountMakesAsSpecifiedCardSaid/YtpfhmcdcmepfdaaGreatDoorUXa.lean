
import Derived.WalkKit
import Derived.WalkSpells
import Derived.WalkLawsBesides
import Derived.Deep.QuietTactic
import Derived.BigQuiet
import Derived.Test.YtpfhmcdcmepfdaaGreatDoorUSld
set_option maxRecDepth 100000
set_option maxHeartbeats 64000000
set_option linter.unusedVariables false
set_option linter.unusedSimpArgs false
namespace Go.Proofs.YtpfhmcdcmepfdaaGreatDoor
open Go.RowKit Go.Shelf
open Go.Proofs
def verFld (v : Value) : Sem Next := do pure (.value (← Instr.field 107 v 2))
theorem verFld_x (ρ : Operand → Value) (dst : Option Tmp) (x : Operand) (t : TypeId) (pos : String) (after : Array Edge) (guard : Option (Nat × Bool)) : execOp ρ { dst, op := .field 107 x 2, type := t, pos, after, guard } = verFld (ρ x) := by kernel_rfl
attribute [go_sem ↓] verFld_x
theorem row_extW {w w' : World} (hx : Ext w w') {b : Nat} (hb : b < w.heap.size) (o n : Nat) : rowOf w' b o n = rowOf w b o n := rowOf_congr (fun i _ => hx.cell (p := ⟨b, o + i, none⟩) hb)
def readS (ls : List ByteArray) : Soft := ⟨fun v w => ∃ A c, v = .slice A ls.length c ∧ ReadsStr w w.heap.size A ls ∧ (A = none → c = 0), fun v w w' ⟨A, c, h1, h2, h3⟩ hx => ⟨A, c, h1, h2.on hx, h3⟩⟩
structure Clk where
 (lo hi : Int)
def clkC (k : Clk) : Array Value := #[.int .i64 k.lo, .int .i64 k.hi]
theorem clk_g0 (v : Clk) : (clkC v)[0]? = some (.int .i64 v.lo) := rfl
theorem clk_g1 (v : Clk) : (clkC v)[1]? = some (.int .i64 v.hi) := rfl
attribute [go_sem] clk_g0 clk_g1
def okKy (k : Ky) : Bool := decide (min k.party k.serial ≥ 1) && decide (max k.party k.serial ≤ 1073741824) && decide ((k.secret.size : Int) ≥ 1) && decide ((k.secret.size : Int) ≤ 64) && decide (k.fr ≥ 0) && decide (k.fr < k.upto) && decide (k.upto ≤ 1099511627776)
def okClk (k : Clk) : Bool := decide (k.lo ≥ 0) && decide (k.lo ≤ k.hi) && decide (k.hi ≤ 1099511627776)
theorem cvalid_any (k : Clk) (w : World) : Calls Tryz.prog 49 #[.agg (clkC k)] w fun e w' => e = .returned (.bool (okClk k)) ∧ Ext w w' := by
 have HF : Hid (okClk k = (decide (k.lo ≥ 0) && decide (k.lo ≤ k.hi) && decide (k.hi ≤ 1099511627776))) := lh rfl
 generalize okClk k = R at HF ⊢
 go_enter Tryz.func49, Tryz.ntmps49
 go_wp2
 all_goals
  go_ret
  exact ⟨ret_bool (by rw [HF.out]; clear HF; simp [*] <;> omega), (by (with_reducible repeat first|exact eR _|apply eD|apply eN|apply eA|apply eO|apply eS|apply eC);all_goals first|omega|simp <;> omega)⟩
theorem kvalid_any (k : Ky) (w : World) (hs : k.secret.size < 9223372036854775808) : Calls Tryz.prog 48 #[.agg (kyC k)] w fun e w' => e = .returned (.bool (okKy k)) ∧ Ext w w' := by
 have HF : Hid (okKy k = (decide (min k.party k.serial ≥ 1) && decide (max k.party k.serial ≤ 1073741824) && decide ((k.secret.size : Int) ≥ 1) && decide ((k.secret.size : Int) ≤ 64) && decide (k.fr ≥ 0) && decide (k.fr < k.upto) && decide (k.upto ≤ 1099511627776))) := lh rfl
 generalize okKy k = R at HF ⊢
 go_enter Tryz.func48, Tryz.ntmps48
 go_wp2
 all_goals
  go_ret
  exact ⟨ret_bool (by rw [HF.out]; clear HF; simp [*] <;> omega), (by (with_reducible repeat first|exact eR _|apply eD|apply eN|apply eA|apply eO|apply eS|apply eC);all_goals first|omega|simp <;> omega)⟩
theorem kyE : EncTy kyL 5 := ⟨fun _ => rfl, fun x v hv => by simp [kyL] at hv; rcases hv with rfl | rfl | rfl | rfl | rfl <;> rfl⟩
abbrev ReadsKy (w : World) (B : Nat) (A : Option Addr) (l : List Ky) : Prop := Reads 5 kyL w B A l
theorem ReadsKy.row {w : World} {B : Nat} {A : Option Addr} {l : List Ky} (h : ReadsKy w B A l) (i : Nat) (hi : i < l.length) : ∃ b off, A = some ⟨b, off, none⟩ ∧ b < B ∧ rowOf w b (off + i * 5) 5 = some (kyC l[i]) := by
 obtain ⟨b, off, h1, h2, h3⟩ := h (by omega)
 refine ⟨b, off, h1, h2, rowOf_some rfl fun j hj => ?_⟩
 match j, hj with
 | 0, _ => exact h3 i hi 0 _ rfl
 | 1, _ => exact h3 i hi 1 _ rfl
 | 2, _ => exact h3 i hi 2 _ rfl
 | 3, _ => exact h3 i hi 3 _ rfl
 | 4, _ => exact h3 i hi 4 _ rfl
def cmpK (p s : Int) (k : Ky) : Int := if k.party = p then k.serial - s else k.party - p
def small40 (n : Int) : Prop := -1099511627776 ≤ n ∧ n ≤ 1099511627776
theorem place1k_any (k : Ky) (p s : Int) (b : Nat) (w : World) (hb : w.cell? ⟨b, 0, none⟩ = some (.int .i64 s)) (hlt : b < w.heap.size) (h1 : small40 k.party) (h2 : small40 k.serial) (h3 : small40 p) (h4 : small40 s) :
  Calls Tryz.prog 188 #[.agg (kyC k), .int .i64 p, .pointer (some ⟨b, 0, none⟩)] w fun e w' => e = .returned (.int .i64 (cmpK p s k)) ∧ Ext w w' := by
 obtain ⟨a1, a2⟩ := h1
 obtain ⟨b1, b2⟩ := h2
 obtain ⟨c1, c2⟩ := h3
 obtain ⟨d1, d2⟩ := h4
 have HF : Hid (cmpK p s k = if k.party = p then k.serial - s else k.party - p) := lh rfl
 generalize cmpK p s k = R at *
 by_cases h : k.party = p
 ·have e0 : (k.party != p) = false := by simpa using h
  have HF' : Hid (R = k.serial - s) := lh (by rw [HF.out, if_pos h])
  clear HF h
  go_enter Tryz.func188, Tryz.ntmps188
  go_wp2
  go_ret
  exact ⟨ret_int HF'.out.symm, (by (with_reducible repeat first|exact eR _|apply eD|apply eN|apply eA|apply eO|apply eS|apply eC);all_goals first|omega|simp <;> omega)⟩
 ·have e0 : (k.party != p) = true := by simpa using h
  have HF' : Hid (R = k.party - p) := lh (by rw [HF.out, if_neg h])
  clear HF h
  go_enter Tryz.func188, Tryz.ntmps188
  go_wp2
  go_ret
  exact ⟨ret_int HF'.out.symm, (by (with_reducible repeat first|exact eR _|apply eD|apply eN|apply eA|apply eO|apply eS|apply eC);all_goals first|omega|simp <;> omega)⟩
def AtK (l : List Ky) (p s : Int) (i : Nat) : Prop := i ≤ l.length ∧ (∀ t (h : t < l.length), t < i → cmpK p s l[t] < 0) ∧ ∀ t (h : t < l.length), i ≤ t → 0 ≤ cmpK p s l[t]
def MonoK (l : List Ky) (p s : Int) : Prop := ∀ a b (ha : a < l.length) (hb : b < l.length), a < b → cmpK p s l[b] < 0 → cmpK p s l[a] < 0
theorem bsearch_any (A : Option Addr) (c : Nat) (l : List Ky) (p s : Int) (bt : Nat) (w : World) (hl : l.length ≤ 100000) (hr : ReadsKy w w.heap.size A l) (hb : w.cell? ⟨bt, 0, none⟩ = some (.int .i64 s)) (hlb : bt < w.heap.size) (hm : MonoK l p s) (hk : ∀ k ∈ l, small40 k.party ∧ small40 k.serial) (h3 : small40 p) (h4 : small40 s) :
  Calls Tryz.prog 187 #[.slice A l.length c, .int .i64 p, .func (.func 188) #[] #[.pointer (some ⟨bt, 0, none⟩)]] w fun e w' =>
   ∃ (i : Nat) (f : Bool), e = .returned (.tuple #[.int .i64 i, .bool f]) ∧ AtK l p s i ∧ (f = true ↔ ∃ h : i < l.length, cmpK p s l[i] = 0) ∧ Ext w w' := by
 have HR := lh hr
 have HP := lh (fun (j : Nat) (h : j < l.length) (W : World) (hx : Ext w W) => place1k_any l[j] p s bt W ((hx.cell (p := ⟨bt, 0, none⟩) hlb).trans hb) (by have := hx.size; omega) (hk _ (List.getElem_mem h)).1 (hk _ (List.getElem_mem h)).2 h3 h4)
 have HM := lh hm
 clear hr hb hm hk h3 h4
 go_enter Tryz.func187, Tryz.ntmps187
 go_wp2
 go_loopw [9, 10] (fun iv jv wr => ∃ i j : Nat, iv = .int .i64 i ∧ jv = .int .i64 j ∧ i ≤ j ∧ j ≤ l.length ∧ Hid (Ext w wr) ∧ Hid (∀ t (h : t < l.length), t < i → cmpK p s l[t] < 0) ∧ Hid (∀ t (h : t < l.length), j ≤ t → 0 ≤ cmpK p s l[t])) (fun i j _ => (intOf j).toNat - (intOf i).toNat)
 case atStart => exact ⟨0, l.length, rfl, rfl, Nat.zero_le _, Nat.le_refl _, lh (eR _), lh (fun t _ h => absurd h (by omega)), lh (fun t h h' => absurd h (by omega))⟩
 case round =>
  obtain ⟨i, j, rfl, rfl, hij, hj, HX, H1, H2⟩ := hrel
  by_cases hlt : i < j
  ·obtain ⟨h, hh⟩ : ∃ h : Nat, h = (i + j) / 2 := ⟨_, rfl⟩
   have hh1 : i ≤ h := by omega
   have hh2 : h < j := by omega
   obtain ⟨b, off, rfl, hb, hrow⟩ := ReadsKy.row (HR.out.ext HX.out (Nat.le_refl _)) h (by omega)
   have hsz := HX.out.size
   have hb' : b < wr.heap.size := by omega
   have HP1 := lh (HP.out h (by omega))
   have HL : Hid (cmpK p s (l[h]'(by omega)) < 0 → ∀ t (ht : t < l.length), t < h + 1 → cmpK p s l[t] < 0) := lh (fun hc t ht hth => by
    by_cases e : t = h
    ·subst e; exact hc
    ·exact HM.out t h ht (by omega) (by omega) hc)
   have HG : Hid (0 ≤ cmpK p s (l[h]'(by omega)) → ∀ t (ht : t < l.length), h ≤ t → 0 ≤ cmpK p s l[t]) := lh (fun hc t ht hth => by
    by_cases e : t = h
    ·subst e; exact hc
    ·exact Int.not_lt.1 (fun hn => by have := HM.out h t (by omega) ht (by omega) hn; omega))
   generalize hck : cmpK p s (l[h]'(by omega)) = ck at *
   generalize l[h]'(by omega) = kh at *
   subst hh
   by_cases hneg : ck < 0
   ·have d0 : decide (ck < 0) = true := by simpa using hneg
    have HL' := lh (HL.out hneg)
    clear HL HG hck hneg
    go_wp2_with (go_at_call 188; refine (HP1.out _ HX.out).mono ?_; rintro e w' ⟨rfl, hxl⟩; obtain ⟨xl, rfl⟩ := hxl.asLater; clear hxl)
    go_roundw
    case rel => exact ⟨(i + j) / 2 + 1, j, by go_num, rfl, by omega, hj, lh (HX.out.onto _), HL', H2⟩
    case measure => simp [intOf]; omega
   ·have d0 : decide (ck < 0) = false := by simpa using hneg
    have HG' := lh (HG.out (by omega))
    clear HL HG hck hneg
    go_wp2_with (go_at_call 188; refine (HP1.out _ HX.out).mono ?_; rintro e w' ⟨rfl, hxl⟩; obtain ⟨xl, rfl⟩ := hxl.asLater; clear hxl)
    go_roundw
    case rel => exact ⟨i, (i + j) / 2, rfl, by go_num, by omega, by omega, lh (HX.out.onto _), H1, HG'⟩
    case measure => simp [intOf]; omega
  ·have e : i = j := by omega
   subst e
   have hsz := HX.out.size
   by_cases hi : i < l.length
   ·obtain ⟨b, off, rfl, hb, hrow⟩ := ReadsKy.row (HR.out.ext HX.out (Nat.le_refl _)) i hi
    have hb' : b < wr.heap.size := by omega
    have HP1 := lh (HP.out i hi)
    have HQ : Hid (AtK l p s i) := lh ⟨hj, H1.out, H2.out⟩
    have HE : Hid ((cmpK p s l[i] == 0) = true ↔ ∃ h : i < l.length, cmpK p s l[i] = 0) := lh (Iff.intro (fun h => ⟨hi, by simpa using h⟩) (fun h => by obtain ⟨_, h⟩ := h; simpa using h))
    generalize cmpK p s l[i] = ck at *
    generalize l[i] = kh at *
    go_wp2_with (go_at_call 188; refine (HP1.out _ HX.out).mono ?_; rintro e w' ⟨rfl, hxl⟩; obtain ⟨xl, rfl⟩ := hxl.asLater; clear hxl)
    refine bodyPost_ret (v := .tuple #[.int .i64 i, .bool (ck == 0)]) ?_ rfl ⟨i, _, rfl, HQ.out, HE.out, (by (with_reducible repeat first|exact HX.out|exact eR _|apply eD|apply eN|apply eA|apply eO|apply eS|apply eC);all_goals first|omega|simp <;> omega)⟩
    simp [results, Tryz.results187, go_sem, ↓IntWalk.iteOmega]
   ·have HQ : Hid (AtK l p s i) := lh ⟨hj, H1.out, H2.out⟩
    have HE : Hid (false = true ↔ ∃ h : i < l.length, cmpK p s l[i] = 0) := lh (Iff.intro (fun h => by cases h) (fun h => by obtain ⟨h, _⟩ := h; exact absurd h hi))
    clear H1 H2 HP
    go_wp2
    refine bodyPost_ret (v := .tuple #[.int .i64 i, .bool false]) ?_ rfl ⟨i, false, rfl, HQ.out, HE.out, HX.out⟩
    simp [results, Tryz.results187, go_sem, ↓IntWalk.iteOmega]
theorem kplace_any (A : Option Addr) (c : Nat) (l : List Ky) (p s : Int) (w : World) (hl : l.length ≤ 100000) (hr : ReadsKy w w.heap.size A l) (hm : MonoK l p s) (hk : ∀ k ∈ l, small40 k.party ∧ small40 k.serial) (h3 : small40 p) (h4 : small40 s) :
  Calls Tryz.prog 162 #[.slice A l.length c, .int .i64 p, .int .i64 s] w fun e w' =>
   ∃ (i : Nat) (f : Bool), e = .returned (.tuple #[.int .i64 i, .bool f]) ∧ AtK l p s i ∧ (f = true ↔ ∃ h : i < l.length, cmpK p s l[i] = 0) ∧ Ext w w' := by
 have H := lh (bsearch_any A c l p s w.heap.size (w.alloc (.cells #[.int .i64 s] 3)) hl (hr.on ((Ext.refl w).alloc _)) (by rw [alloc_cell_if, if_pos rfl]; rfl) (by simp) hm hk h3 h4)
 clear hr hm hk h3 h4
 go_enter Tryz.func162, Tryz.ntmps162
 go_wp2_with (go_at_call 187; refine H.out.mono ?_; rintro e w' ⟨i, f, rfl, h1, h2, hxl⟩; have H1 := lh h1; have H2 := lh h2; clear h1 h2; obtain ⟨xl, rfl⟩ := hxl.asLater; clear hxl)
 refine bodyPost_ret (v := .tuple #[.int .i64 i, .bool f]) ?_ rfl ⟨i, f, rfl, H1.out, H2.out, (by (with_reducible repeat first|exact eR _|apply eD|apply eN|apply eA|apply eO|apply eS|apply eC);all_goals first|omega|simp <;> omega)⟩
 simp [results, Tryz.results162, go_sem, ↓IntWalk.iteOmega]
theorem ky_loaded {w : World} {b : Nat} {x : Ky} (h : rowOf w b 0 5 = some (kyC x)) : (loadVar 23 ⟨b, 0, none⟩).run Tryz.prog w = .ok (.agg (kyC x)) w := run_loadVar_row ky_ty h
def kyB0 : Sem Next := do pure (.value (← Instr.build 23 #[]))
theorem kyB0_x (ρ : Operand → Value) (dst : Option Tmp) (t : TypeId) (pos : String) (after : Array Edge) (guard : Option (Nat × Bool)) : execOp ρ { dst, op := .build 23 #[], type := t, pos, after, guard } = kyB0 := by kernel_rfl
theorem kyB0_run (W : World) : kyB0.run Tryz.prog W = .ok (.value (.agg (kyC noKy))) W := by kernel_rfl
attribute [go_sem ↓] kyB0_x
attribute [go_sem] kyB0_run
def keyN (l : List Ky) (p s : Int) : Option Ky := l.find? fun k => cmpK p s k == 0
theorem key_at {l : List Ky} {p s : Int} {i : Nat} (ha : AtK l p s i) (hm : ∀ a (h : a < l.length), cmpK p s l[a] = 0 → ∀ b (h' : b < l.length), a < b → 0 < cmpK p s l[b]) (h : i < l.length) (h0 : cmpK p s l[i] = 0) : keyN l p s = some l[i] := by
 unfold keyN
 rw [List.find?_eq_some_iff_getElem]
 refine ⟨by simpa using h0, i, h, rfl, fun j hj => ?_⟩
 have := ha.2.1 j (by omega) hj
 simp
 omega
theorem key_none {l : List Ky} {p s : Int} {i : Nat} (ha : AtK l p s i) (hm : ∀ a (h : a < l.length), cmpK p s l[a] < 0 ∨ cmpK p s l[a] = 0 ∨ 0 < cmpK p s l[a]) (hp : ∀ a b (h : a < l.length) (h' : b < l.length), a < b → 0 < cmpK p s l[a] → 0 < cmpK p s l[b]) (h : ¬ ∃ h : i < l.length, cmpK p s l[i] = 0) : keyN l p s = none := by
 unfold keyN
 rw [List.find?_eq_none]
 intro k hk
 obtain ⟨j, hj, rfl⟩ := List.getElem_of_mem hk
 simp only [beq_iff_eq]
 intro h0
 by_cases hji : j < i
 ·have := ha.2.1 j hj hji; omega
 ·by_cases e : j = i
  ·subst e; exact h ⟨hj, h0⟩
  ·have hlt : i < j := by omega
   have h1 := ha.2.2 i (by omega) (Nat.le_refl _)
   have h2 : cmpK p s (l[i]'(by omega)) ≠ 0 := fun e => h ⟨by omega, e⟩
   have := hp i j (by omega) hj hlt (by omega)
   omega
theorem kfind_hit (A : Option Addr) (c : Nat) (l : List Ky) (p s : Int) (w : World) (hl : l.length ≤ 100000) (hr : ReadsKy w w.heap.size A l) (hm : MonoK l p s) (hk : ∀ k ∈ l, small40 k.party ∧ small40 k.serial) (h3 : small40 p) (h4 : small40 s) :
  Calls Tryz.prog 122 #[.slice A l.length c, .int .i64 p, .int .i64 s] w fun e w' => ∃ i : Nat, AtK l p s i ∧ ((∃ h : i < l.length, cmpK p s l[i] = 0 ∧ e = .returned (.tuple #[.agg (kyC l[i]), .int .i64 0])) ∨ ((¬ ∃ h : i < l.length, cmpK p s l[i] = 0) ∧ e = .returned (.tuple #[.agg (kyC noKy), .int .i64 5]))) ∧ Ext w w' := by
 have H := lh (kplace_any A c l p s (w.alloc (.cells (kyC noKy) 23)) hl (hr.on ((Ext.refl w).alloc _)) hm hk h3 h4)
 have HR := lh hr
 have hft0 := ky_fits noKy
 clear hr hm hk h3 h4
 go_enter Tryz.func122, Tryz.ntmps122
 go_wp2_with (go_at_call 162; refine (show Hid _ from ?_).out)
 refine lh ?_
 refine H.out.mono ?_
 rintro e w1 ⟨i, f, rfl, h1, h2, hx1⟩
 have H1 := lh h1
 have HX1 : Hid (Ext w w1) := lh (((Ext.refl w).alloc _).trans hx1)
 have HRow : Hid (RowAt w1 w.heap.size (kyC noKy)) := lh ((RowAt.new w (kyC noKy) 23).ext hx1)
 have hlr := HRow.out.lt
 have hrm : roomOf w1 w.heap.size 0 5 = true := by rw [HRow.out.room]; rfl
 clear h1 hx1 H
 cases f with
 | true =>
  obtain ⟨hi, h0⟩ := h2.1 rfl
  obtain ⟨b, off, rfl, hb, hrow⟩ := ReadsKy.row (HR.out.ext HX1.out (Nat.le_refl _)) i hi
  have hb' : b < w1.heap.size := by omega
  have HQ : Hid (∃ h : i < l.length, cmpK p s l[i] = 0) := lh ⟨hi, h0⟩
  have hft := ky_fits l[i]
  clear h2 h0
  go_wp2
  refine post_two (v1 := .agg (kyC l[i])) (v2 := .int .i64 0) Tryz.results122 rfl ⟨_, rfl, ky_loaded ((HRow.out.store (ds := kyC l[i]) rfl).all rfl (by omega))⟩ rfl ⟨i, H1.out, .inl (by obtain ⟨h, h0⟩ := HQ.out; exact ⟨h, h0, rfl⟩), Ext.setCells HX1.out (Nat.le_refl _) _ _⟩
 | false =>
  have HN : Hid (¬ ∃ h : i < l.length, cmpK p s l[i] = 0) := lh (fun h => by have := h2.2 h; cases this)
  clear h2
  go_wp2
  refine post_two (v1 := .agg (kyC noKy)) (v2 := .int .i64 5) Tryz.results122 rfl ⟨_, rfl, ky_loaded ((HRow.out.store (ds := kyC noKy) rfl).all rfl (by omega))⟩ rfl ⟨i, H1.out, .inr ⟨HN.out, rfl⟩, Ext.setCells HX1.out (Nat.le_refl _) _ _⟩
def countB (k : Ky) (lo hi : Int) : Bool := decide (0 ≤ lo) && decide (lo ≤ hi) && decide (hi ≤ 1099511627776) && decide (k.fr ≤ lo) && decide (hi < k.upto)
theorem counts_any (k : Ky) (lo hi : Int) (w : World) : Calls Tryz.prog 123 #[.agg (kyC k), .agg #[.int .i64 lo, .int .i64 hi]] w fun e w' => e = .returned (.bool (countB k lo hi)) ∧ Ext w w' := by
 have HF : Hid (countB k lo hi = (decide (0 ≤ lo) && decide (lo ≤ hi) && decide (hi ≤ 1099511627776) && decide (k.fr ≤ lo) && decide (hi < k.upto))) := lh rfl
 generalize countB k lo hi = R at HF ⊢
 go_enter Tryz.func123, Tryz.ntmps123
 go_wp2
 all_goals
  go_ret
  exact ⟨ret_bool (by rw [HF.out]; clear HF; simp [*] <;> omega), (by (with_reducible repeat first|exact eR _|apply eD|apply eN|apply eA|apply eO|apply eS|apply eC);all_goals first|omega|simp <;> omega)⟩
end Go.Proofs.YtpfhmcdcmepfdaaGreatDoor