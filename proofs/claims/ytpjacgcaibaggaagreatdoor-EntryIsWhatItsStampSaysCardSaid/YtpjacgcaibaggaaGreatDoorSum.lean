/- Walks of the hash: the sum of a stream. -/
import Derived.Test.YtpjacgcaibaggaaGreatDoorProg
import Derived.Test.YtpjacgcaibaggaaGreatDoorExt
import Derived.WalkKit
import Derived.WalkSpells
import Derived.WalkLawsBesides
import Derived.Deep.QuietTactic
import Derived.BigQuiet
import Derived.Test.YtpjacgcaibaggaaGreatDoorAdd
import Derived.Test.YtpjacgcaibaggaaGreatDoorWi
set_option linter.unusedVariables false
set_option linter.unusedSimpArgs false
namespace Go.Proofs.YtpjacgcaibaggaaGreatDoor
open Go.RowKit
open Go.Proofs

theorem Owns.fresh {α : Type} {e : TypeId} {size base : Nat} {enc : α → List Value} (E : EncTy enc size) {w : World} {cs : Array Value} {l : List α} {c g : Nat} (hg : g = w.heap.size) (hb : base ≤ g) (h1 : cs.toList = l.flatMap enc) (h2 : c = l.length) (h3 : c ≤ 140737488355328) : Owns e size enc base (w.alloc (.cells cs e)) (some ⟨g, 0, none⟩) c l := by
  subst h2 hg
  refine Owns.mk E hb (heap_alloc_new w _) (Nat.le_refl _) (by unfold maxLen; omega) ?_ ?_
  · have := congrArg List.length h1
    rw [E.flat_len] at this
    simpa using this
  · rw [h1, ← E.flat_len l, List.take_length]
/-- How many zeros are in the padding. -/
def zn (n : Nat) : Nat := (119 - n % 64) % 64
theorem pad_eq (n : Nat) : Sha.pad n = 128 :: List.replicate (zn n) 0 ++ Sha.be8 (8 * n) := rfl
def lenOf : Value → Nat
  | .slice _ n _ => n
  | _ => 0
/-- Between two rounds: so much of the padding is there. -/
def PadRel (w : World) (cs : Array Value) (l0 : List Int) (wr : World) (v : Value) : Prop :=
  ∃ (A : Option Addr) (c : Nat) (l : List Int), Hid (l = l0) ∧ v = .slice A l.length c ∧ OwnsB (w.heap.size + 2) wr A c l ∧ Ext w wr ∧ RowAt wr w.heap.size cs ∧ RowAt wr (w.heap.size + 1) (cells8 (zeros32 32))
theorem stC_word (s : Sha.S8) (blk : List Int) (n : Int) (q : Nat) (h : q < 8) : (stC s blk n)[q]? = some (.int .u32 ((s8l s).getD q 0)) := by
  have e : (stC s blk n)[q]? = (stC s blk n).toList[q]? := by simp
  rw [e, stC_list, List.getElem?_append_left (by simp [cells32_size, s8l_length, h])]
  have : (cells32 (s8l s)).toList[q]? = (cells32 (s8l s))[q]? := by simp
  rw [this, cells32_get, if_pos (by rw [s8l_length]; exact h)]
theorem be8_snoc (n : Nat) {i : Nat} (h : i < 8) : (Sha.be8 (8 * n)).take (i + 1) = (Sha.be8 (8 * n)).take i ++ [8 * (n : Int) / 2 ^ (56 - 8 * i) % 256] := by
  have hl : (Sha.be8 (8 * n)).length = 8 := by simp [Sha.be8]
  rw [List.take_succ_eq_append_getElem (by omega)]
  congr 2
  simp [Sha.be8]
theorem pad_byte (n : Nat) : ∀ x ∈ Sha.pad n, 0 ≤ x ∧ x < 256 := by
  intro x hx
  simp only [Sha.pad, Sha.be8, List.cons_append, List.mem_cons, List.mem_append, List.mem_map] at hx
  rcases hx with rfl | hx | ⟨i, _, rfl⟩
  · omega
  · have := List.eq_of_mem_replicate hx; omega
  · omega
def outAt (s : Sha.S8) (i : Nat) : List Int := (Sha.out s).take i ++ zeros32 (32 - i)
theorem outAt_length (s : Sha.S8) {i : Nat} (h : i ≤ 32) : (outAt s i).length = 32 := by
  simp [outAt, Sha.out_length, zeros32]
  omega
theorem outAt_set (s : Sha.S8) {i : Nat} (h : i < 32) : (outAt s i).set i ((Sha.out s).getD i 0) = outAt s (i + 1) := by
  have hl := Sha.out_length s
  unfold outAt
  rw [List.set_append_right _ _ (by simp [hl]; omega)]
  have e : i - ((Sha.out s).take i).length = 0 := by simp [hl]; omega
  have e2 : (Sha.out s).take (i + 1) = (Sha.out s).take i ++ [(Sha.out s).getD i 0] := by
    rw [List.take_succ_eq_append_getElem (by omega)]
    simp [hl, h]
  rw [e, e2, zeros32, zeros32, show 32 - i = (32 - (i + 1)) + 1 by omega, List.replicate_succ, List.set_cons_zero]
  simp
theorem outAt_all (s : Sha.S8) : outAt s 32 = Sha.out s := by
  unfold outAt
  rw [List.take_of_length_le (by rw [Sha.out_length]; omega)]
  simp [zeros32]

set_option maxRecDepth 100000 in
set_option maxHeartbeats 4000000 in
theorem ssum_ok (s : Sha.S8) (blk m : List Int) (w : World) (h : Sha.Holds s blk m) (hb : Byt blk) (hk : Konst 0 w) (hlen : m.length < 1152921504606846000) :
    Calls Tryz.prog 98 #[.agg (stC s blk m.length)] w fun e w' => e = .returned (.agg (cells8 (Sha.sha m))) ∧ Ext w w' := by
  have HK := Lib.hid hk
  have H0 := Lib.hid h
  have HB := Lib.hid hb
  have hl64 := h.len
  clear hk h hb
  go_enter Tryz.func98, Tryz.ntmps98
  have hc72 : (stC s blk m.length)[72]? = some (.int .u64 m.length) := stC_n _ _ _ hl64
  go_wp2
  have hz : zn m.length < 64 := by unfold zn; omega
  go_loopw [4] (fun v wr => ∃ k : Nat, k ≤ zn m.length ∧ PadRel w (stC s blk m.length) (128 :: List.replicate k 0) wr v) (fun v _ => 65 - lenOf v)
  case atStart => exact ⟨0, Nat.zero_le _, some ⟨w.heap.size + 1 + 1, 0, none⟩, 1, [128], Lib.hid rfl, rfl, Owns.fresh bE (by simp) (by omega) rfl rfl (by omega), (by (repeat (first | with_reducible exact Ext.refl _ | with_reducible exact Ext.refl _ | with_reducible refine Ext.drew ?_ | with_reducible refine Ext.drewN ?_ _ | with_reducible refine Ext.alloc ?_ _ | with_reducible refine Ext.onto ?_ _ | (with_reducible refine Ext.setCells ?_ ?_ _ _; rotate_left; focus (first | omega | (simp; done) | (simp; omega))) | (with_reducible refine Ext.setCell ?_ ?_ _; rotate_left; focus (first | omega | (simp; done) | (simp; omega)))))), (by (repeat (first | with_reducible exact rfl | with_reducible refine RowAt.drew ?_ | with_reducible refine RowAt.later ?_ _ | with_reducible exact RowAt.newAt (by first | rfl | omega | (simp [later_size, setCells_size]; done) | (simp [later_size, setCells_size]; omega)) | with_reducible refine RowAt.alloc ?_ _ | with_reducible apply RowAt.store | with_reducible refine RowAt.others ?_ ?_ _ _ | with_reducible refine RowAt.other ?_ ?_ _)); all_goals first | omega | (simp; done) | (simp; omega) | (simp [go_sem]; done)), (by (repeat (first | with_reducible exact rfl | with_reducible refine RowAt.drew ?_ | with_reducible refine RowAt.later ?_ _ | with_reducible exact RowAt.newAt (by first | rfl | omega | (simp [later_size, setCells_size]; done) | (simp [later_size, setCells_size]; omega)) | with_reducible refine RowAt.alloc ?_ _ | with_reducible apply RowAt.store | with_reducible refine RowAt.others ?_ ?_ _ _ | with_reducible refine RowAt.other ?_ ?_ _)); all_goals first | omega | (simp; done) | (simp; omega) | (simp [go_sem]; done))⟩
  case round =>
    obtain ⟨k, hk, A, c, l, HL, rfl, ho, hx, h1, h2⟩ := hrel
    have hll : l.length = k + 1 := by rw [HL.out]; simp
    have hll1 : l.length ≤ k + 1 := by omega
    have hll2 : k + 1 ≤ l.length := by omega
    have HO := Lib.hid ho
    have HX := Lib.hid hx
    have H1 := Lib.hid h1
    have H2 := Lib.hid h2
    have hsz := h2.lt
    have hcn : wr.cell? ⟨w.heap.size, 72, none⟩ = some (.int .u64 m.length) := (h1.cell 72).trans hc72
    clear ho hx h1 h2 hll
    by_cases hkz : k < zn m.length
    · have ht : (((m.length : Int) + (l.length : Int)) % 64 == 56) = false := by rw [beq_eq_false_iff_ne]; unfold zn at hkz; omega
      have ht2 : (((m.length : Int) + (l.length : Int)) % 64 != 56) = true := by rw [bne_iff_ne]; unfold zn at hkz; omega
      go_wp2_with (at_builtin; refine app_from bT bE rfl _ _ rfl (w.heap.size + 2) _ _ l rfl (HO.out.alloc _) _ 1 _ [0] rfl rfl (new_cells _ _ _) (by omega) (by omega) (by simp; omega) ?_; intro A2 c2 l2 w2 HL2 HO2 hB hl1 hl2 _; have HO2' := Lib.hid HO2; have HB2 := Lib.hid hB; clear HO2 hB)
      go_roundw
      case rel => exact ⟨k + 1, by omega, A2, c2, l2, Lib.hid (by rw [HL2.out, HL.out, List.replicate_succ']; simp), rfl, HO2'.out, (HX.out.alloc _).grown HB2.out (by omega), (H1.out.alloc _).below HB2.out (by omega), (H2.out.alloc _).below HB2.out (by omega)⟩
      case measure => simp [lenOf]; omega
    · have ht : (((m.length : Int) + (l.length : Int)) % 64 != 56) = false := by rw [bne_eq_false_iff_eq]; unfold zn at hkz hk; omega
      have HL3 : Hid (l = 128 :: List.replicate (zn m.length) 0) := Lib.hid (by rw [HL.out]; congr 2; omega)
      clear HL
      go_wp2
      clear ht hll1 hll2 hkz hcn hk
      go_loopw [4, 23] (fun v j wr => ∃ i : Nat, i ≤ 8 ∧ j = .int .i64 i ∧ PadRel w (stC s blk m.length) (128 :: List.replicate (zn m.length) 0 ++ (Sha.be8 (8 * m.length)).take i) wr v) (fun _ j _ => 8 - (intOf j).toNat)
      case atStart => exact ⟨0, Nat.zero_le _, rfl, A, c, l, Lib.hid (by rw [HL3.out]; simp), rfl, HO.out, HX.out, H1.out, H2.out⟩
      case round =>
        obtain ⟨i, hi, rfl, A, c, l, HL, rfl, ho, hx, h1, h2⟩ := hrel
        have hll : l.length ≤ 72 := by rw [HL.out]; simp; omega
        have HO := Lib.hid ho
        have HX := Lib.hid hx
        have H1 := Lib.hid h1
        have H2 := Lib.hid h2
        have hsz := h2.lt
        clear ho hx h1 h2
        by_cases hi8 : i < 8
        · have HT := Lib.hid (be8_snoc m.length hi8)
          obtain ⟨b, hbv⟩ : ∃ b : Int, 8 * (m.length : Int) / 2 ^ (56 - 8 * i) % 256 = b := ⟨_, rfl⟩
          rw [hbv] at HT
          go_wp2_with (at_builtin; refine app_from bT bE rfl _ _ rfl (w.heap.size + 2) _ _ l rfl (HO.out.alloc _) _ 1 _ [b] rfl rfl (new_cells _ _ _) (by omega) (by omega) (by simp; omega) ?_; intro A2 c2 l2 w2 HL2 HO2 hB hl1 hl2 _; have HO2' := Lib.hid HO2; have HB2 := Lib.hid hB; clear HO2 hB)
          go_roundw
          case rel => exact ⟨i + 1, by omega, by go_num, A2, c2, l2, Lib.hid (by rw [HL2.out, HL.out, HT.out]; simp), rfl, HO2'.out, (HX.out.alloc _).grown HB2.out (by omega), (H1.out.alloc _).below HB2.out (by omega), (H2.out.alloc _).below HB2.out (by omega)⟩
          case measure => simp [intOf]; omega
        · have HP : Hid (l = Sha.pad m.length) := Lib.hid (by rw [HL.out, pad_eq, List.take_of_length_le (by simp [Sha.be8]; omega)])
          have hpos : 0 < l.length := by rw [HP.out]; simp [Sha.pad]
          have hcv := conv_bytes c (HO.out.reads bE) hpos
          have hrow : rowOf wr w.heap.size 0 73 = some (stC s blk m.length) := H1.out.all (stC_size hl64).symm (by omega)
          have hrm : roomOf wr w.heap.size 0 73 = true := by rw [H1.out.room, stC_size hl64]; rfl
          have hlt := H1.out.lt
          have hss : (strOfNums l).size = l.length := strOfNums_size l
          have HM : Hid (m ++ bts (strOfNums l) = Sha.padded m) := Lib.hid (by rw [bts_nums (by rw [HP.out]; exact pad_byte _), HP.out]; rfl)
          have hM : (strOfNums l).size ≤ 72 := by omega
          have HLI := Lib.hid hlen
          generalize strOfNums l = r at *
          clear hss hlen
          go_wp2_with (go_at_call 96; refine (add_ok s blk m r _ H0.out HB.out (HK.out.ext HX.out) (by have := HLI.out; omega)).mono ?_; rintro e w1 ⟨s2, blk2, hh2, hb2, rfl, hx2⟩; have HH2 := Lib.hid hh2; have hl2 := hh2.len; have hft := fits_st s2 blk2 ((m ++ bts r).length : Nat) hl2; rw [HM.out] at hft HH2 ⊢; obtain ⟨xl, rfl⟩ := hx2.asLater; clear hh2 hb2 hx2 hcv)
          have HS : Hid (Sha.out s2 = Sha.sha m) := Lib.hid (Sha.sha_of_holds HH2.out)
          refine wp_world (fun W => Ext w W ∧ RowAt W w.heap.size (stC s2 blk2 ((Sha.padded m).length : Nat)) ∧ RowAt W (w.heap.size + 1) (cells8 (zeros32 32)) ∧ RowAt W (wr.heap.size + xl.n) (cells8 (outAt s2 0)))
            ⟨(by (repeat (first | with_reducible exact HX.out | with_reducible exact Ext.refl _ | with_reducible refine Ext.drew ?_ | with_reducible refine Ext.drewN ?_ _ | with_reducible refine Ext.alloc ?_ _ | with_reducible refine Ext.onto ?_ _ | (with_reducible refine Ext.setCells ?_ ?_ _ _; rotate_left; focus (first | omega | (simp; done) | (simp; omega))) | (with_reducible refine Ext.setCell ?_ ?_ _; rotate_left; focus (first | omega | (simp; done) | (simp; omega)))))), (((H1.out.later _).store (by rw [stC_size hl2, stC_size hl64])).alloc _), (by (repeat (first | with_reducible exact H2.out | with_reducible refine RowAt.drew ?_ | with_reducible refine RowAt.later ?_ _ | with_reducible exact RowAt.newAt (by first | rfl | omega | (simp [later_size, setCells_size]; done) | (simp [later_size, setCells_size]; omega)) | with_reducible refine RowAt.alloc ?_ _ | with_reducible apply RowAt.store | with_reducible refine RowAt.others ?_ ?_ _ _ | with_reducible refine RowAt.other ?_ ?_ _)); all_goals first | omega | (simp; done) | (simp; omega) | (simp [go_sem]; done)), RowAt.newAt (by rw [setCells_size, later_size])⟩ ?_
          rintro W ⟨hx, h1, h2, h3⟩
          have HXa := Lib.hid hx
          have H1a := Lib.hid h1
          have H2a := Lib.hid h2
          have H3a := Lib.hid h3
          have hok := Lib.hid HH2.out.ok
          have hbo : w.heap.size + 1 < wr.heap.size + xl.n := by omega
          clear hx h1 h2 h3 hft hrow hrm
          generalize wr.heap.size + xl.n = bo at *
          go_loopw [40] (fun j wq => ∃ i : Nat, i ≤ 32 ∧ j = .int .i64 i ∧ Ext w wq ∧ RowAt wq w.heap.size (stC s2 blk2 ((Sha.padded m).length : Nat)) ∧ RowAt wq (w.heap.size + 1) (cells8 (zeros32 32)) ∧ RowAt wq bo (cells8 (outAt s2 i))) (fun j _ => 32 - (intOf j).toNat)
          case atStart => exact ⟨0, Nat.zero_le _, rfl, HXa.out, H1a.out, H2a.out, H3a.out⟩
          case round =>
            obtain ⟨i, hi, rfl, hx, h1, h2, h3⟩ := hrel
            have HXb := Lib.hid hx
            have H1b := Lib.hid h1
            have H2b := Lib.hid h2
            have H3b := Lib.hid h3
            by_cases hi32 : i < 32
            · have hcw : wr.cell? ⟨w.heap.size, i / 4, none⟩ = some (.int .u32 ((s8l s2).getD (i / 4) 0)) := (h1.cell _).trans (stC_word _ _ _ _ (by omega))
              have hg := Sha.out_get s2 (s8l s2) rfl i hi32
              have HG := Lib.hid (outAt_set s2 hi32)
              rw [hg] at HG
              generalize (s8l s2).getD (i / 4) 0 = x at hcw HG
              clear hg
              have hm : roomOf wr bo i 1 = true := by rw [h3.room, cells8_size, outAt_length s2 hi]; simp; omega
              have hcx : wr.cell? ⟨bo, i, none⟩ = some (.int .u8 ((outAt s2 i).getD i 0)) := by rw [h3.cell, cells8_get, outAt_length s2 hi, if_pos hi32]
              have hfx := h3.free
              have hl1 := h1.lt
              have hl3 := h3.lt
              clear hx h1 h2 h3
              go_wp2
              go_roundw
              case rel => exact ⟨i + 1, by omega, by go_num, (by (repeat (first | with_reducible exact HXb.out | with_reducible exact Ext.refl _ | with_reducible refine Ext.drew ?_ | with_reducible refine Ext.drewN ?_ _ | with_reducible refine Ext.alloc ?_ _ | with_reducible refine Ext.onto ?_ _ | (with_reducible refine Ext.setCells ?_ ?_ _ _; rotate_left; focus (first | omega | (simp; done) | (simp; omega))) | (with_reducible refine Ext.setCell ?_ ?_ _; rotate_left; focus (first | omega | (simp; done) | (simp; omega)))))), (by (repeat (first | with_reducible exact H1b.out | with_reducible refine RowAt.drew ?_ | with_reducible refine RowAt.later ?_ _ | with_reducible exact RowAt.newAt (by first | rfl | omega | (simp [later_size, setCells_size]; done) | (simp [later_size, setCells_size]; omega)) | with_reducible refine RowAt.alloc ?_ _ | with_reducible apply RowAt.store | with_reducible refine RowAt.others ?_ ?_ _ _ | with_reducible refine RowAt.other ?_ ?_ _)); all_goals first | omega | (simp; done) | (simp; omega) | (simp [go_sem]; done)), (by (repeat (first | with_reducible exact H2b.out | with_reducible refine RowAt.drew ?_ | with_reducible refine RowAt.later ?_ _ | with_reducible exact RowAt.newAt (by first | rfl | omega | (simp [later_size, setCells_size]; done) | (simp [later_size, setCells_size]; omega)) | with_reducible refine RowAt.alloc ?_ _ | with_reducible apply RowAt.store | with_reducible refine RowAt.others ?_ ?_ _ _ | with_reducible refine RowAt.other ?_ ?_ _)); all_goals first | omega | (simp; done) | (simp; omega) | (simp [go_sem]; done)), H3b.out.set8 HG.out⟩
              case measure => simp [intOf]; omega
            · have e32 : i = 32 := by omega
              subst e32
              rw [outAt_all, HS.out] at h3 H3b
              have hsl := Sha.sha_length m
              have r32 : rowOf wr bo 0 32 = some (cells8 (Sha.sha m)) := h3.all (by rw [cells8_size, hsl]) (by omega)
              have m32 : roomOf wr (w.heap.size + 1) 0 32 = true := by rw [h2.room]; rfl
              have hf32 : fitsRow 32 (cells8 (Sha.sha m)) = true := fits8 hsl
              have rr := Lib.hid (h2.stored (n := 32) (ds := cells8 (Sha.sha m)) (by rw [cells8_size, cells8_size, hsl, zeros32_length]) (by rw [cells8_size, hsl]) (by omega))
              have hl2 := h2.lt
              clear hx h1 h2 h3
              go_wp2
              refine post_row b32_ty Tryz.results98 rfl rfl rr.out ⟨rfl, (by (repeat (first | with_reducible exact HXb.out | with_reducible exact Ext.refl _ | with_reducible refine Ext.drew ?_ | with_reducible refine Ext.drewN ?_ _ | with_reducible refine Ext.alloc ?_ _ | with_reducible refine Ext.onto ?_ _ | (with_reducible refine Ext.setCells ?_ ?_ _ _; rotate_left; focus (first | omega | (simp; done) | (simp; omega))) | (with_reducible refine Ext.setCell ?_ ?_ _; rotate_left; focus (first | omega | (simp; done) | (simp; omega))))))⟩
end Go.Proofs.YtpjacgcaibaggaaGreatDoor
