/- Keys of a ring: seal.place, Find, counts. -/
import Derived.WalkKit
import Derived.WalkSpells
import Derived.WalkLawsBesides
import Derived.Deep.QuietTactic
import Derived.BigQuiet
import Derived.Test.YtpojnhikgjcgmaaGreatDoorEOk
set_option maxRecDepth 100000
set_option maxHeartbeats 64000000
set_option linter.unusedVariables false
set_option linter.unusedSimpArgs false
namespace Go.Proofs.YtpojnhikgjcgmaaGreatDoor
open Go.RowKit Go.Shelf
open Go.Proofs
def makeN (k : Ky) (tag : Int) (parts : List ByteArray) : List Int := Wire.digest tag (([k.secret] ++ parts ++ [k.secret]).map bts)
theorem makeN_len (k : Ky) (tag : Int) (parts : List ByteArray) : (makeN k tag parts).length = 16 := digest_length _ _
theorem makeN_byt (k : Ky) (tag : Int) (parts : List ByteArray) : Byt (makeN k tag parts) := digest_byt _ _
theorem sel_fits {l : List Int} (h : l.length = 16) : fitsRow 16 (cells8 l) = true := by
 rw [← dgC_cells h]
 simp [fitsRow, dgC, Value.oneCell']
theorem one_reads {W : World} {b : Nat} {s : ByteArray} (hb : b < W.heap.size) (h : W.cell? ⟨b, 0, none⟩ = some (.string s)) : ReadsStr W W.heap.size (some ⟨b, 0, none⟩) [s] := by
 intro _
 refine ⟨b, 0, rfl, hb, fun i hi j v hv => ?_⟩
 have hj : j = 0 := by
  have := (List.getElem?_eq_some_iff.1 hv).1
  simp [encStr] at this
  omega
 have hi0 : i = 0 := by simp at hi; omega
 subst hj hi0
 simp [encStr] at hv
 rw [h, hv]
theorem smake_any (k : Ky) (tag : Int) (A : Option Addr) (c : Nat) (parts : List ByteArray) (w : World) (hr : ReadsStr w w.heap.size A parts) (hz : A = none → c = 0) (hl : lens ([k.secret] ++ parts ++ [k.secret]) < 8796093022208) (hk : Konst 0 w) :
  Calls Tryz.prog 179 #[.agg (kyC k), .int .i64 tag, .slice A parts.length c] w fun e w' => e = .returned (.agg (dgC (makeN k tag parts))) ∧ Ext w w' := by
 have HR := lh hr
 have HZ := lh hz
 have HK := lh hk
 have hll := lens_length ([k.secret] ++ parts ++ [k.secret])
 have hpl : parts.length + 2 ≤ 8796093022208 := by
  have : ([k.secret] ++ parts ++ [k.secret]).length = parts.length + 2 := by simp [List.length_append]
  omega
 have HL := lh hl
 obtain ⟨D, hD⟩ : ∃ D, makeN k tag parts = D := ⟨_, rfl⟩
 have h16 : D.length = 16 := by rw [← hD]; exact makeN_len _ _ _
 have HD0 : Hid (Wire.digest tag (([k.secret] ++ parts ++ [k.secret]).map bts) = D) := lh hD
 have hfit := sel_fits h16
 have hsz : (cells8 D).size = 16 := by rw [cells8_size]; exact h16
 have HDC := lh (dgC_cells h16)
 rw [hD]
 clear hr hz hk hl hll hD
 go_enter Tryz.func179, Tryz.ntmps179
 go_wp2_with (go_at_call 233; refine (show Hid _ from ?_).out)
 refine lh ?_
 refine calls_world (fun W => ∃ b, b = w.heap.size + 1 + 1 + 1 + 1 ∧ Ext w W ∧ RowAt W (w.heap.size + 1) (cells8 (zeros32 16)) ∧ W.heap.size = w.heap.size + 5 ∧ W.cell? ⟨b, 0, none⟩ = some (.slice (some ⟨w.heap.size + 1 + 1, 0, none⟩) 1 1) ∧ W.cell? ⟨b, 1, none⟩ = some (.slice A parts.length c) ∧ W.cell? ⟨b, 2, none⟩ = some (.slice (some ⟨w.heap.size + 1 + 1 + 1, 0, none⟩) 1 1) ∧ ReadsStr W W.heap.size (some ⟨w.heap.size + 1 + 1, 0, none⟩) [k.secret] ∧ ReadsStr W W.heap.size (some ⟨w.heap.size + 1 + 1 + 1, 0, none⟩) [k.secret]) ⟨_, rfl, ?_, ?_, ?_, ?_, ?_, ?_, ?_, ?_⟩ ?_
 ·exact (by (with_reducible repeat first|exact eR _|apply eD|apply eN|apply eA|apply eO|apply eS|apply eC);all_goals first|omega|simp <;> omega)
 ·have h := ((((RowAt.new (w.alloc (.cells (kyC k) 44)) (cells8 (zeros32 16)) 28).alloc (.cells #[.string k.secret] 9)).alloc (.cells #[.string k.secret] 9)).alloc (.cells #[.slice (some ⟨w.heap.size + 1 + 1, 0, none⟩) 1 1, .slice A parts.length c, .slice (some ⟨w.heap.size + 1 + 1 + 1, 0, none⟩) 1 1] 97))
  have e : (w.alloc (.cells (kyC k) 44)).heap.size = w.heap.size + 1 := by simp
  rw [e] at h
  exact h
 ·simp
 ·rw [World.cell?_alloc_at _ _ _ _ (by simp)]; rfl
 ·rw [World.cell?_alloc_at _ _ _ _ (by simp)]; rfl
 ·rw [World.cell?_alloc_at _ _ _ _ (by simp)]; rfl
 ·exact one_reads (by simp) (by rw [World.cell?_alloc_past _ _ _ (by simp; try omega), World.cell?_alloc_past _ _ _ (by simp; try omega), World.cell?_alloc_at _ _ _ _ (by simp)]; rfl)
 ·exact one_reads (by simp) (by rw [World.cell?_alloc_past _ _ _ (by simp; try omega), World.cell?_alloc_at _ _ _ _ (by simp)]; rfl)
 rintro W ⟨b, rfl, hx, hu, hs, k1, k2, k3, r1, r3⟩
 have HX1 := lh hx
 have HU1 := lh hu
 refine (concat3_any _ _ A _ 1 c 1 [k.secret] parts [k.secret] W (by rw [hs]; omega) k1 k2 k3 r1 (HR.out.on hx) r3 (fun h => by cases h) HZ.out (fun h => by cases h) (by simp; omega)).mono ?_
 rintro e w1 ⟨A', c', l', rfl, hl', ho, hx1⟩
 have HO := lh ho
 have HX2 := lh hx1
 have HL' := hl'
 have HDT : Hid (Wire.digest tag (l'.map bts) = D) := lh (by rw [hl'.out]; exact HD0.out)
 have HLL : Hid (lens l' < 140737488351232) := lh (by rw [hl'.out]; exact Nat.lt_trans HL.out (by decide))
 have HK1 := lh ((HK.out.ext HX1.out).ext HX2.out)
 have HRL := lh (ho.reads sE)
 have hcov := hx1.size
 have HU2 := lh (hu.ext hx1)
 have HX3 := lh (hx.trans hx1)
 clear k1 k2 k3 r1 r3 ho hx1 hl' hx hu HX1 HX2 HO HU1 HR HZ HK HD0
 have hrm : roomOf w1 (w.heap.size + 1) 0 16 = true := by rw [HU2.out.room]; rfl
 have hlu := HU2.out.lt
 go_wp2_with (go_at_call 59; refine (of_ok tag A' c' l' _ HK1.out HRL.out HLL.out).mono ?_; rw [HDT.out]; rintro e w' ⟨rfl, hxl⟩; obtain ⟨xl, rfl⟩ := hxl.asLater; clear hxl)
 go_wp2
 refine post_row sel_ty Tryz.results179 rfl rfl (RowAt.stored (n := 16) (HU2.out.later xl) (by rw [hsz, cells8_size, zeros32_length]) (by rw [hsz]) (by omega)) ⟨by rw [HDC.out], ?_⟩
 trace_state
 exact (by (with_reducible repeat first|exact HX3.out|exact eR _|apply eD|apply eN|apply eA|apply eO|apply eS|apply eC);all_goals first|omega|simp <;> omega)
def readS (ls : List ByteArray) : Soft := ⟨fun v w => ∃ A c, v = .slice A ls.length c ∧ ReadsStr w w.heap.size A ls ∧ (A = none → c = 0), fun v w w' ⟨A, c, h1, h2, h3⟩ hx => ⟨A, c, h1, h2.on hx, h3⟩⟩
structure Clk where
 (lo hi : Int)
def clkC (k : Clk) : Array Value := #[.int .i64 k.lo, .int .i64 k.hi]
theorem clk_g0 (v : Clk) : (clkC v)[0]? = some (.int .i64 v.lo) := rfl
theorem clk_g1 (v : Clk) : (clkC v)[1]? = some (.int .i64 v.hi) := rfl
attribute [go_sem] clk_g0 clk_g1
def okKy (k : Ky) : Bool := decide (min k.party k.serial ≥ 1) && decide (max k.party k.serial ≤ 1073741824) && decide ((k.secret.size : Int) ≥ 1) && decide ((k.secret.size : Int) ≤ 64) && decide (k.fr ≥ 0) && decide (k.fr < k.upto) && decide (k.upto ≤ 1099511627776)
def okClk (k : Clk) : Bool := decide (k.lo ≥ 0) && decide (k.lo ≤ k.hi) && decide (k.hi ≤ 1099511627776)
theorem cvalid_any (k : Clk) (w : World) : Calls Tryz.prog 53 #[.agg (clkC k)] w fun e w' => e = .returned (.bool (okClk k)) ∧ Ext w w' := by
 have HF : Hid (okClk k = (decide (k.lo ≥ 0) && decide (k.lo ≤ k.hi) && decide (k.hi ≤ 1099511627776))) := lh rfl
 generalize okClk k = R at HF ⊢
 go_enter Tryz.func53, Tryz.ntmps53
 go_wp2
 all_goals
  go_ret
  exact ⟨ret_bool (by rw [HF.out]; clear HF; simp [*] <;> omega), (by (with_reducible repeat first|exact eR _|apply eD|apply eN|apply eA|apply eO|apply eS|apply eC);all_goals first|omega|simp <;> omega)⟩
theorem kyE : EncTy kyL 5 := ⟨fun _ => rfl, fun x v hv => by simp [kyL] at hv; rcases hv with rfl | rfl | rfl | rfl | rfl <;> rfl⟩
abbrev ReadsKy (w : World) (B : Nat) (A : Option Addr) (l : List Ky) : Prop := Reads 5 kyL w B A l
theorem ReadsKy.row {w : World} {B : Nat} {A : Option Addr} {l : List Ky} (h : ReadsKy w B A l) (i : Nat) (hi : i < l.length) : ∃ b off, A = some ⟨b, off, none⟩ ∧ b < B ∧ rowOf w b (off + i * 5) 5 = some (kyC l[i]) := by
 obtain ⟨b, off, h1, h2, h3⟩ := h (by omega)
 refine ⟨b, off, h1, h2, rowOf_some rfl fun j hj => ?_⟩
 match j, hj with
 | 0, _ => exact h3 i hi 0 _ rfl
 | 1, _ => exact h3 i hi 1 _ rfl
 | 2, _ => exact h3 i hi 2 _ rfl
 | 3, _ => exact h3 i hi 3 _ rfl
 | 4, _ => exact h3 i hi 4 _ rfl
def cmpK (p s : Int) (k : Ky) : Int := if k.party = p then k.serial - s else k.party - p
def small40 (n : Int) : Prop := -1099511627776 ≤ n ∧ n ≤ 1099511627776
theorem place1k_any (k : Ky) (p s : Int) (b : Nat) (w : World) (hb : w.cell? ⟨b, 0, none⟩ = some (.int .i64 s)) (hlt : b < w.heap.size) (h1 : small40 k.party) (h2 : small40 k.serial) (h3 : small40 p) (h4 : small40 s) :
  Calls Tryz.prog 267 #[.agg (kyC k), .int .i64 p, .pointer (some ⟨b, 0, none⟩)] w fun e w' => e = .returned (.int .i64 (cmpK p s k)) ∧ Ext w w' := by
 obtain ⟨a1, a2⟩ := h1
 obtain ⟨b1, b2⟩ := h2
 obtain ⟨c1, c2⟩ := h3
 obtain ⟨d1, d2⟩ := h4
 have HF : Hid (cmpK p s k = if k.party = p then k.serial - s else k.party - p) := lh rfl
 generalize cmpK p s k = R at *
 by_cases h : k.party = p
 ·have e0 : (k.party != p) = false := by simpa using h
  have HF' : Hid (R = k.serial - s) := lh (by rw [HF.out, if_pos h])
  clear HF h
  go_enter Tryz.func267, Tryz.ntmps267
  go_wp2
  go_ret
  exact ⟨ret_int HF'.out.symm, (by (with_reducible repeat first|exact eR _|apply eD|apply eN|apply eA|apply eO|apply eS|apply eC);all_goals first|omega|simp <;> omega)⟩
 ·have e0 : (k.party != p) = true := by simpa using h
  have HF' : Hid (R = k.party - p) := lh (by rw [HF.out, if_neg h])
  clear HF h
  go_enter Tryz.func267, Tryz.ntmps267
  go_wp2
  go_ret
  exact ⟨ret_int HF'.out.symm, (by (with_reducible repeat first|exact eR _|apply eD|apply eN|apply eA|apply eO|apply eS|apply eC);all_goals first|omega|simp <;> omega)⟩
def AtK (l : List Ky) (p s : Int) (i : Nat) : Prop := i ≤ l.length ∧ (∀ t (h : t < l.length), t < i → cmpK p s l[t] < 0) ∧ ∀ t (h : t < l.length), i ≤ t → 0 ≤ cmpK p s l[t]
def MonoK (l : List Ky) (p s : Int) : Prop := ∀ a b (ha : a < l.length) (hb : b < l.length), a < b → cmpK p s l[b] < 0 → cmpK p s l[a] < 0
theorem bsearch_any (A : Option Addr) (c : Nat) (l : List Ky) (p s : Int) (bt : Nat) (w : World) (hl : l.length ≤ 100000) (hr : ReadsKy w w.heap.size A l) (hb : w.cell? ⟨bt, 0, none⟩ = some (.int .i64 s)) (hlb : bt < w.heap.size) (hm : MonoK l p s) (hk : ∀ k ∈ l, small40 k.party ∧ small40 k.serial) (h3 : small40 p) (h4 : small40 s) :
  Calls Tryz.prog 266 #[.slice A l.length c, .int .i64 p, .func (.func 267) #[] #[.pointer (some ⟨bt, 0, none⟩)]] w fun e w' =>
   ∃ (i : Nat) (f : Bool), e = .returned (.tuple #[.int .i64 i, .bool f]) ∧ AtK l p s i ∧ (f = true ↔ ∃ h : i < l.length, cmpK p s l[i] = 0) ∧ Ext w w' := by
 have HR := lh hr
 have HP := lh (fun (j : Nat) (h : j < l.length) (W : World) (hx : Ext w W) => place1k_any l[j] p s bt W ((hx.cell (p := ⟨bt, 0, none⟩) hlb).trans hb) (by have := hx.size; omega) (hk _ (List.getElem_mem h)).1 (hk _ (List.getElem_mem h)).2 h3 h4)
 have HM := lh hm
 clear hr hb hm hk h3 h4
 go_enter Tryz.func266, Tryz.ntmps266
 go_wp2
 go_loopw [9, 10] (fun iv jv wr => ∃ i j : Nat, iv = .int .i64 i ∧ jv = .int .i64 j ∧ i ≤ j ∧ j ≤ l.length ∧ Hid (Ext w wr) ∧ Hid (∀ t (h : t < l.length), t < i → cmpK p s l[t] < 0) ∧ Hid (∀ t (h : t < l.length), j ≤ t → 0 ≤ cmpK p s l[t])) (fun i j _ => (intOf j).toNat - (intOf i).toNat)
 case atStart => exact ⟨0, l.length, rfl, rfl, Nat.zero_le _, Nat.le_refl _, lh (eR _), lh (fun t _ h => absurd h (by omega)), lh (fun t h h' => absurd h (by omega))⟩
 case round =>
  obtain ⟨i, j, rfl, rfl, hij, hj, HX, H1, H2⟩ := hrel
  by_cases hlt : i < j
  ·obtain ⟨h, hh⟩ : ∃ h : Nat, h = (i + j) / 2 := ⟨_, rfl⟩
   have hh1 : i ≤ h := by omega
   have hh2 : h < j := by omega
   obtain ⟨b, off, rfl, hb, hrow⟩ := ReadsKy.row (HR.out.ext HX.out (Nat.le_refl _)) h (by omega)
   have hsz := HX.out.size
   have hb' : b < wr.heap.size := by omega
   have HP1 := lh (HP.out h (by omega))
   have HL : Hid (cmpK p s (l[h]'(by omega)) < 0 → ∀ t (ht : t < l.length), t < h + 1 → cmpK p s l[t] < 0) := lh (fun hc t ht hth => by
    by_cases e : t = h
    ·subst e; exact hc
    ·exact HM.out t h ht (by omega) (by omega) hc)
   have HG : Hid (0 ≤ cmpK p s (l[h]'(by omega)) → ∀ t (ht : t < l.length), h ≤ t → 0 ≤ cmpK p s l[t]) := lh (fun hc t ht hth => by
    by_cases e : t = h
    ·subst e; exact hc
    ·exact Int.not_lt.1 (fun hn => by have := HM.out h t (by omega) ht (by omega) hn; omega))
   generalize hck : cmpK p s (l[h]'(by omega)) = ck at *
   generalize l[h]'(by omega) = kh at *
   subst hh
   by_cases hneg : ck < 0
   ·have d0 : decide (ck < 0) = true := by simpa using hneg
    have HL' := lh (HL.out hneg)
    clear HL HG hck hneg
    go_wp2_with (go_at_call 267; refine (HP1.out _ HX.out).mono ?_; rintro e w' ⟨rfl, hxl⟩; obtain ⟨xl, rfl⟩ := hxl.asLater; clear hxl)
    go_roundw
    case rel => exact ⟨(i + j) / 2 + 1, j, by go_num, rfl, by omega, hj, lh (HX.out.onto _), HL', H2⟩
    case measure => simp [intOf]; omega
   ·have d0 : decide (ck < 0) = false := by simpa using hneg
    have HG' := lh (HG.out (by omega))
    clear HL HG hck hneg
    go_wp2_with (go_at_call 267; refine (HP1.out _ HX.out).mono ?_; rintro e w' ⟨rfl, hxl⟩; obtain ⟨xl, rfl⟩ := hxl.asLater; clear hxl)
    go_roundw
    case rel => exact ⟨i, (i + j) / 2, rfl, by go_num, by omega, by omega, lh (HX.out.onto _), H1, HG'⟩
    case measure => simp [intOf]; omega
  ·have e : i = j := by omega
   subst e
   have hsz := HX.out.size
   by_cases hi : i < l.length
   ·obtain ⟨b, off, rfl, hb, hrow⟩ := ReadsKy.row (HR.out.ext HX.out (Nat.le_refl _)) i hi
    have hb' : b < wr.heap.size := by omega
    have HP1 := lh (HP.out i hi)
    have HQ : Hid (AtK l p s i) := lh ⟨hj, H1.out, H2.out⟩
    have HE : Hid ((cmpK p s l[i] == 0) = true ↔ ∃ h : i < l.length, cmpK p s l[i] = 0) := lh (Iff.intro (fun h => ⟨hi, by simpa using h⟩) (fun h => by obtain ⟨_, h⟩ := h; simpa using h))
    generalize cmpK p s l[i] = ck at *
    generalize l[i] = kh at *
    go_wp2_with (go_at_call 267; refine (HP1.out _ HX.out).mono ?_; rintro e w' ⟨rfl, hxl⟩; obtain ⟨xl, rfl⟩ := hxl.asLater; clear hxl)
    refine bodyPost_ret (v := .tuple #[.int .i64 i, .bool (ck == 0)]) ?_ rfl ⟨i, _, rfl, HQ.out, HE.out, (by (with_reducible repeat first|exact HX.out|exact eR _|apply eD|apply eN|apply eA|apply eO|apply eS|apply eC);all_goals first|omega|simp <;> omega)⟩
    simp [results, Tryz.results266, go_sem, ↓IntWalk.iteOmega]
   ·have HQ : Hid (AtK l p s i) := lh ⟨hj, H1.out, H2.out⟩
    have HE : Hid (false = true ↔ ∃ h : i < l.length, cmpK p s l[i] = 0) := lh (Iff.intro (fun h => by cases h) (fun h => by obtain ⟨h, _⟩ := h; exact absurd h hi))
    clear H1 H2 HP
    go_wp2
    refine bodyPost_ret (v := .tuple #[.int .i64 i, .bool false]) ?_ rfl ⟨i, false, rfl, HQ.out, HE.out, HX.out⟩
    simp [results, Tryz.results266, go_sem, ↓IntWalk.iteOmega]
theorem kplace_any (A : Option Addr) (c : Nat) (l : List Ky) (p s : Int) (w : World) (hl : l.length ≤ 100000) (hr : ReadsKy w w.heap.size A l) (hm : MonoK l p s) (hk : ∀ k ∈ l, small40 k.party ∧ small40 k.serial) (h3 : small40 p) (h4 : small40 s) :
  Calls Tryz.prog 232 #[.slice A l.length c, .int .i64 p, .int .i64 s] w fun e w' =>
   ∃ (i : Nat) (f : Bool), e = .returned (.tuple #[.int .i64 i, .bool f]) ∧ AtK l p s i ∧ (f = true ↔ ∃ h : i < l.length, cmpK p s l[i] = 0) ∧ Ext w w' := by
 have H := lh (bsearch_any A c l p s w.heap.size (w.alloc (.cells #[.int .i64 s] 3)) hl (hr.on ((Ext.refl w).alloc _)) (by rw [alloc_cell_if, if_pos rfl]; rfl) (by simp) hm hk h3 h4)
 clear hr hm hk h3 h4
 go_enter Tryz.func232, Tryz.ntmps232
 go_wp2_with (go_at_call 266; refine H.out.mono ?_; rintro e w' ⟨i, f, rfl, h1, h2, hxl⟩; have H1 := lh h1; have H2 := lh h2; clear h1 h2; obtain ⟨xl, rfl⟩ := hxl.asLater; clear hxl)
 refine bodyPost_ret (v := .tuple #[.int .i64 i, .bool f]) ?_ rfl ⟨i, f, rfl, H1.out, H2.out, (by (with_reducible repeat first|exact eR _|apply eD|apply eN|apply eA|apply eO|apply eS|apply eC);all_goals first|omega|simp <;> omega)⟩
 simp [results, Tryz.results232, go_sem, ↓IntWalk.iteOmega]
theorem ky_loaded {w : World} {b : Nat} {x : Ky} (h : rowOf w b 0 5 = some (kyC x)) : (loadVar 44 ⟨b, 0, none⟩).run Tryz.prog w = .ok (.agg (kyC x)) w := run_loadVar_row ky_ty h
def kyB0 : Sem Next := do pure (.value (← Instr.build 44 #[]))
theorem kyB0_x (ρ : Operand → Value) (dst : Option Tmp) (t : TypeId) (pos : String) (after : Array Edge) (guard : Option (Nat × Bool)) : execOp ρ { dst, op := .build 44 #[], type := t, pos, after, guard } = kyB0 := by kernel_rfl
theorem kyB0_run (W : World) : kyB0.run Tryz.prog W = .ok (.value (.agg (kyC noKy))) W := by kernel_rfl
attribute [go_sem ↓] kyB0_x
attribute [go_sem] kyB0_run
def keyN (l : List Ky) (p s : Int) : Option Ky := l.find? fun k => cmpK p s k == 0
theorem key_at {l : List Ky} {p s : Int} {i : Nat} (ha : AtK l p s i) (hm : ∀ a (h : a < l.length), cmpK p s l[a] = 0 → ∀ b (h' : b < l.length), a < b → 0 < cmpK p s l[b]) (h : i < l.length) (h0 : cmpK p s l[i] = 0) : keyN l p s = some l[i] := by
 unfold keyN
 rw [List.find?_eq_some_iff_getElem]
 refine ⟨by simpa using h0, i, h, rfl, fun j hj => ?_⟩
 have := ha.2.1 j (by omega) hj
 simp
 omega
theorem key_none {l : List Ky} {p s : Int} {i : Nat} (ha : AtK l p s i) (hm : ∀ a (h : a < l.length), cmpK p s l[a] < 0 ∨ cmpK p s l[a] = 0 ∨ 0 < cmpK p s l[a]) (hp : ∀ a b (h : a < l.length) (h' : b < l.length), a < b → 0 < cmpK p s l[a] → 0 < cmpK p s l[b]) (h : ¬ ∃ h : i < l.length, cmpK p s l[i] = 0) : keyN l p s = none := by
 unfold keyN
 rw [List.find?_eq_none]
 intro k hk
 obtain ⟨j, hj, rfl⟩ := List.getElem_of_mem hk
 simp only [beq_iff_eq]
 intro h0
 by_cases hji : j < i
 ·have := ha.2.1 j hj hji; omega
 ·by_cases e : j = i
  ·subst e; exact h ⟨hj, h0⟩
  ·have hlt : i < j := by omega
   have h1 := ha.2.2 i (by omega) (Nat.le_refl _)
   have h2 : cmpK p s (l[i]'(by omega)) ≠ 0 := fun e => h ⟨by omega, e⟩
   have := hp i j (by omega) hj hlt (by omega)
   omega
theorem kfind_hit (A : Option Addr) (c : Nat) (l : List Ky) (p s : Int) (w : World) (hl : l.length ≤ 100000) (hr : ReadsKy w w.heap.size A l) (hm : MonoK l p s) (hk : ∀ k ∈ l, small40 k.party ∧ small40 k.serial) (h3 : small40 p) (h4 : small40 s) :
  Calls Tryz.prog 177 #[.slice A l.length c, .int .i64 p, .int .i64 s] w fun e w' => ∃ i : Nat, AtK l p s i ∧ ((∃ h : i < l.length, cmpK p s l[i] = 0 ∧ e = .returned (.tuple #[.agg (kyC l[i]), .int .i64 0])) ∨ ((¬ ∃ h : i < l.length, cmpK p s l[i] = 0) ∧ e = .returned (.tuple #[.agg (kyC noKy), .int .i64 5]))) ∧ Ext w w' := by
 have H := lh (kplace_any A c l p s (w.alloc (.cells (kyC noKy) 44)) hl (hr.on ((Ext.refl w).alloc _)) hm hk h3 h4)
 have HR := lh hr
 have hft0 := ky_fits noKy
 clear hr hm hk h3 h4
 go_enter Tryz.func177, Tryz.ntmps177
 go_wp2_with (go_at_call 232; refine (show Hid _ from ?_).out)
 refine lh ?_
 refine H.out.mono ?_
 rintro e w1 ⟨i, f, rfl, h1, h2, hx1⟩
 have H1 := lh h1
 have HX1 : Hid (Ext w w1) := lh (((Ext.refl w).alloc _).trans hx1)
 have HRow : Hid (RowAt w1 w.heap.size (kyC noKy)) := lh ((RowAt.new w (kyC noKy) 44).ext hx1)
 have hlr := HRow.out.lt
 have hrm : roomOf w1 w.heap.size 0 5 = true := by rw [HRow.out.room]; rfl
 clear h1 hx1 H
 cases f with
 | true =>
  obtain ⟨hi, h0⟩ := h2.1 rfl
  obtain ⟨b, off, rfl, hb, hrow⟩ := ReadsKy.row (HR.out.ext HX1.out (Nat.le_refl _)) i hi
  have hb' : b < w1.heap.size := by omega
  have HQ : Hid (∃ h : i < l.length, cmpK p s l[i] = 0) := lh ⟨hi, h0⟩
  have hft := ky_fits l[i]
  clear h2 h0
  go_wp2
  refine post_two (v1 := .agg (kyC l[i])) (v2 := .int .i64 0) Tryz.results177 rfl ⟨_, rfl, ky_loaded ((HRow.out.store (ds := kyC l[i]) rfl).all rfl (by omega))⟩ rfl ⟨i, H1.out, .inl (by obtain ⟨h, h0⟩ := HQ.out; exact ⟨h, h0, rfl⟩), Ext.setCells HX1.out (Nat.le_refl _) _ _⟩
 | false =>
  have HN : Hid (¬ ∃ h : i < l.length, cmpK p s l[i] = 0) := lh (fun h => by have := h2.2 h; cases this)
  clear h2
  go_wp2
  refine post_two (v1 := .agg (kyC noKy)) (v2 := .int .i64 5) Tryz.results177 rfl ⟨_, rfl, ky_loaded ((HRow.out.store (ds := kyC noKy) rfl).all rfl (by omega))⟩ rfl ⟨i, H1.out, .inr ⟨HN.out, rfl⟩, Ext.setCells HX1.out (Nat.le_refl _) _ _⟩
def countB (k : Ky) (lo hi : Int) : Bool := decide (0 ≤ lo) && decide (lo ≤ hi) && decide (hi ≤ 1099511627776) && decide (k.fr ≤ lo) && decide (hi < k.upto)
theorem counts_any (k : Ky) (lo hi : Int) (w : World) : Calls Tryz.prog 178 #[.agg (kyC k), .agg #[.int .i64 lo, .int .i64 hi]] w fun e w' => e = .returned (.bool (countB k lo hi)) ∧ Ext w w' := by
 have HF : Hid (countB k lo hi = (decide (0 ≤ lo) && decide (lo ≤ hi) && decide (hi ≤ 1099511627776) && decide (k.fr ≤ lo) && decide (hi < k.upto))) := lh rfl
 generalize countB k lo hi = R at HF ⊢
 go_enter Tryz.func178, Tryz.ntmps178
 go_wp2
 all_goals
  go_ret
  exact ⟨ret_bool (by rw [HF.out]; clear HF; simp [*] <;> omega), (by (with_reducible repeat first|exact eR _|apply eD|apply eN|apply eA|apply eO|apply eS|apply eC);all_goals first|omega|simp <;> omega)⟩
end Go.Proofs.YtpojnhikgjcgmaaGreatDoor