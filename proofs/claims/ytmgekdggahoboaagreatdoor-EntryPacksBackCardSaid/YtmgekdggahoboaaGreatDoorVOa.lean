/- What came in, opened: a law's last step for any law; slices of spans. -/
import Derived.WalkKit
import Derived.WalkSpells
import Derived.WalkLawsBesides
import Derived.Deep.QuietTactic
import Derived.BigQuiet
import Derived.Test.YtmgekdggahoboaaGreatDoorVHc
import Derived.Lib.IndexBytes
import Derived.Test.YtmgekdggahoboaaGreatDoorRows
import Derived.ProofKit
import Derived.Lib.SmallJoins
import Derived.MakeChecks
import Derived.OpenShut
import Derived.Deep.Slices
import Derived.Test.YtmgekdggahoboaaGreatDoorVMs
set_option maxRecDepth 100000
set_option maxHeartbeats 64000000
set_option linter.unusedVariables false
set_option linter.unusedSimpArgs false
namespace Go.Proofs.YtmgekdggahoboaaGreatDoor
open Go.RowKit
open Go.Proofs
theorem stC_list (s : Sha.S8) (blk : List Int) (n : Int) : (stC s blk n).toList = (cells32 (s8l s)).toList ++ ((cells8 blk).toList ++ [Value.int .u64 n]) := by simp [stC]
theorem stC_n (s : Sha.S8) (blk : List Int) (n : Int) (h : blk.length = 64) : (stC s blk n)[72]? = some (.int .u64 n) := by
 have e : (stC s blk n)[72]? = (stC s blk n).toList[72]? := by simp
 rw [e, stC_list, List.getElem?_append_right (by simp [cells32_size, s8l_length]), List.getElem?_append_right (by simp [cells32_size, cells8_size, s8l_length, h])]
 simp [cells32_size, cells8_size, s8l_length, h]
theorem stC_byte (s : Sha.S8) (blk : List Int) (n : Int) (i : Nat) (h : blk.length = 64) (hi : i < 64) : (stC s blk n)[8 + i]? = some (.int .u8 (blk.getD i 0)) := by
 have e : (stC s blk n)[8 + i]? = (stC s blk n).toList[8 + i]? := by simp
 rw [e, stC_list, List.getElem?_append_right (by simp [cells32_size, s8l_length]), List.getElem?_append_left (by simp [cells32_size, cells8_size, s8l_length, h, hi])]
 have : (cells8 blk).toList[8 + i - (cells32 (s8l s)).toList.length]? = (cells8 blk)[i]? := by simp [cells32_size, s8l_length]
 rw [this, cells8_get, if_pos (by omega)]
theorem stC_state (s : Sha.S8) (blk : List Int) (n : Int) (h : blk.length = 64) : rowSub (stC s blk n) 0 8 = some (cells32 (s8l s)) := by
 rw [rowSub, if_pos (by rw [stC_size h]; omega)]
 congr 1
 apply Array.toList_inj.1
 rw [Array.toList_extract, stC_list]
 simp [cells32_size, s8l_length, List.take_append]
theorem stC_set_n (s : Sha.S8) (blk : List Int) (n n' : Int) (h : blk.length = 64) : (stC s blk n).setIfInBounds 72 (.int .u64 n') = stC s blk n' := by
 apply Array.toList_inj.1
 rw [Array.toList_setIfInBounds, stC_list, stC_list, List.set_append_right _ _ (by simp [cells32_size, s8l_length]), List.set_append_right _ _ (by simp [cells32_size, cells8_size, s8l_length, h])]
 simp [cells32_size, cells8_size, s8l_length, h]
theorem stC_lay_state (s s' : Sha.S8) (blk : List Int) (n : Int) (h : blk.length = 64) : laidOver (stC s blk n) 0 (cells32 (s8l s')).toList = stC s' blk n := by
 rw [laidOver_eq _ _ _ (by rw [stC_size h]; simp [cells32_size, s8l_length])]
 apply Array.toList_inj.1
 rw [stC_list, stC_list]
 simp [cells32_size, s8l_length, List.drop_append]
theorem cells8_append (a b : List Int) : cells8 (a ++ b) = cells8 a ++ cells8 b := by simp [cells8]
theorem stC_lay_block (s : Sha.S8) (blk x : List Int) (n : Int) (k : Nat) (h : blk.length = 64) (hk : k + x.length ≤ 64) : laidOver (stC s blk n) (8 + k) (cells8 x).toList = stC s (Sha.over blk k x) n := by
 rw [laidOver_eq _ _ _ (by rw [stC_size h]; simp [cells8_size]; omega)]
 apply Array.toList_inj.1
 rw [stC_list, stC_list, Sha.over, cells8_append, cells8_append]
 simp only [List.take_append, List.drop_append, Array.toList_append, List.append_assoc]
 have e1 : (cells32 (s8l s)).toList.length = 8 := by simp [cells32_size, s8l_length]
 have e2 : (cells8 x).toList.length = x.length := by simp [cells8_size]
 have e3 : (cells8 blk).toList.length = 64 := by simp [cells8_size, h]
 rw [e1, e2, e3]
 rw [List.take_of_length_le (l := (cells32 (s8l s)).toList) (by rw [e1]; omega), List.drop_of_length_le (l := (cells32 (s8l s)).toList) (by rw [e1]; omega)]
 have e4 : 8 + k - 8 - 64 = 0 := by omega
 have e5 : 8 + k + x.length - 8 - 64 = 0 := by omega
 rw [e4, e5, show 8 + k - 8 = k by omega, show 8 + k + x.length - 8 = k + x.length by omega]
 simp [cells8]
def Byt (l : List Int) : Prop := ∀ x ∈ l, 0 ≤ x ∧ x < 256
def StreamIs (m : List Int) (w : World) (e : Ending) (w' : World) : Prop := ∃ s blk, Sha.Holds s blk m ∧ Byt blk ∧ e = .returned (.agg (stC s blk m.length)) ∧ Ext w w'
def AddRel (w : World) (all : List Int) (v : Value) (wr : World) : Prop :=
 ∃ (M : List Int) (r : ByteArray) (s : Sha.S8) (blk : List Int), M ++ bts r = all ∧ v = .string r ∧ Sha.Holds s blk M ∧ Byt blk ∧ Ext w wr ∧ RowAt wr w.heap.size (stC s blk M.length) ∧ RowAt wr (w.heap.size + 1) (stC zeroS (zeros32 64) 0)
def strSize : Value → Nat
 | .string r => r.size
 | _ => 0
theorem str_some (r : ByteArray) (h : 0 < r.size) : r.toList.isEmpty = false := by
 rw [ByteArray.toList_eq, List.isEmpty_eq_false_iff]
 intro e
 have : r.data.toList.length = 0 := by rw [e]; rfl
 have k : r.data.toList.length = r.size := by simp
 omega
theorem str_none (r : ByteArray) (h : r.size = 0) : r.toList.isEmpty = true := by
 rw [ByteArray.toList_eq, List.isEmpty_iff]
 apply List.eq_nil_of_length_eq_zero
 simpa using h
theorem u8_size (w : World) : (Go.sizeOf 5).run Tryz.prog w = .ok 1 w := by kernel_rfl
theorem fits_st (s : Sha.S8) (blk : List Int) (n : Int) (h : blk.length = 64) : fitsRow 73 (stC s blk n) = true := by
 have e : (stC s blk n).all (·.oneCell') = true := by
  rw [Array.all_eq_true_iff_forall_mem]
  intro x hx
  rw [← Array.mem_toList_iff, stC_list] at hx
  simp only [List.mem_append, List.mem_singleton, cells32, cells8, List.mem_map] at hx
  rcases hx with ⟨y, _, rfl⟩ | ⟨y, _, rfl⟩ | rfl <;> rfl
 unfold fitsRow
 rw [Bool.and_eq_true]
 exact ⟨by simp [stC_size h], e⟩
theorem st0_size : (stC zeroS (zeros32 64) 0).size = 73 := stC_size (zeros32_length 64)
theorem s0_size : (stC Sha.S0 (zeros32 64) 0).size = 73 := stC_size (zeros32_length 64)
theorem cells8_take (l : List Int) (n : Nat) : (cells8 l).toList.take n = (cells8 (l.take n)).toList := by simp [cells8]
theorem bts_drop (r : ByteArray) (n : Nat) : bts (r.extract n r.size) = (bts r).drop n := by
 unfold bts
 rw [Lib.extract_to_end, List.map_drop]
theorem extract_size (r : ByteArray) (n : Nat) : (r.extract n r.size).size = r.size - n := by
 rw [← bts_length, bts_drop, List.length_drop, bts_length]
theorem RowAt.copied {w : World} {b : Nat} {s : Sha.S8} {blk x : List Int} {n : Int} {p : Nat} (h : RowAt w b (stC s blk n)) (hl : blk.length = 64) (hp : p + x.length ≤ 64) : RowAt (w.setCells b (8 + p) (cells8 x).toList) b (stC s (Sha.over blk p x) n) := by
 have := h.sets (8 + p) (cells8 x).toList
 rwa [stC_lay_block _ _ _ _ _ hl hp] at this
theorem RowAt.counted {w : World} {b : Nat} {s : Sha.S8} {blk : List Int} {n n' : Int} (h : RowAt w b (stC s blk n)) (hl : blk.length = 64) : RowAt (w.setCell ⟨b, 72, none⟩ (.int .u64 n')) b (stC s blk n') := by
 have := h.set 72 (.int .u64 n')
 rwa [stC_set_n _ _ _ _ hl] at this
theorem RowAt.stated {w : World} {b : Nat} {s s' : Sha.S8} {blk : List Int} {n : Int} (h : RowAt w b (stC s blk n)) (hl : blk.length = 64) : RowAt (w.setCells b 0 (cells32 (s8l s')).toList) b (stC s' blk n) := by
 have := h.sets 0 (cells32 (s8l s')).toList
 rwa [stC_lay_state _ _ _ _ hl] at this
theorem byt_over {blk x : List Int} {p : Nat} (h : Byt blk) (k : Byt x) : Byt (Sha.over blk p x) := by
 intro y hy
 simp only [Sha.over, List.mem_append] at hy
 rcases hy with (hy | hy) | hy
 ·exact h y (List.mem_of_mem_take hy)
 ·exact k y hy
 ·exact h y (List.mem_of_mem_drop hy)
theorem bts_byt (r : ByteArray) (n : Nat) : Byt ((bts r).take n) := fun x hx => bts_byte r x (List.mem_of_mem_take hx)
theorem build_st : ((((((((Tryz.zeroCells261.setIfInBounds 0 (Value.int .u32 1779033703)).setIfInBounds 1 (Value.int .u32 3144134277)).setIfInBounds 2 (Value.int .u32 1013904242)).setIfInBounds 3 (Value.int .u32 2773480762)).setIfInBounds 4 (Value.int .u32 1359893119)).setIfInBounds 5 (Value.int .u32 2600822924)).setIfInBounds 6 (Value.int .u32 528734635)).setIfInBounds 7 (Value.int .u32 1541459225)) = stC Sha.S0 (zeros32 64) 0 := by kernel_rfl
theorem fits_s0 : fitsRow 73 (stC Sha.S0 (zeros32 64) 0) = true := fits_st _ _ _ (zeros32_length 64)
attribute [local go_sem] st0_size build_st fits_s0
theorem zeros_byt (n : Nat) : Byt (zeros32 n) := fun x hx => by
 have := List.eq_of_mem_replicate hx
 omega
theorem begin_ok (w : World) : Calls Tryz.prog 193 #[] w (StreamIs [] w) := by
 go_enter Tryz.func193, Tryz.ntmps193
 go_wp2
 have r := (RowAt.new w (stC zeroS (zeros32 64) 0) 261).stored (n := 73) (ds := stC Sha.S0 (zeros32 64) 0) (by rw [s0_size, st0_size]) s0_size.symm (by omega)
 refine post_row strm_ty Tryz.results193 rfl rfl r ⟨Sha.S0, zeros32 64, Sha.holds_nil _ (zeros32_length 64), zeros_byt 64, rfl, (by (with_reducible repeat first|exact eR _|apply eD|apply eN|apply eA|apply eO|apply eS|apply eC);all_goals first|omega|simp <;> omega)⟩
theorem add_ok (s : Sha.S8) (blk m : List Int) (t : ByteArray) (w : World) (h : Sha.Holds s blk m) (hb : Byt blk) (hk : Konst 4 w) (hlen : m.length + t.size < 1152921504606846976) :
  Calls Tryz.prog 194 #[.agg (stC s blk m.length), .string t] w (StreamIs (m ++ bts t) w) := by
 have HK := lh hk
 have H0 := lh h
 have HB := lh hb
 have HL := lh h.len
 have HA : Hid ((m ++ bts t).length < 1152921504606846976) := lh (by rw [List.length_append, bts_length]; exact hlen)
 clear hk h hb hlen
 go_enter Tryz.func194, Tryz.ntmps194
 go_wp2
 go_loopw [1] (AddRel w (m ++ bts t)) (fun v _ => strSize v)
 case atStart => exact ⟨m, t, s, blk, rfl, rfl, H0.out, HB.out, (by (repeat (first | with_reducible exact eR _ | with_reducible refine Ext.drew ?_ | with_reducible refine Ext.drewN ?_ _ | with_reducible refine Ext.alloc ?_ _ | with_reducible refine Ext.onto ?_ _ | with_reducible refine Ext.setCell ?_ ?_ _)); all_goals (simp; try omega)), (by (repeat (first | with_reducible exact rfl | with_reducible refine RowAt.drew ?_ | with_reducible refine RowAt.later ?_ _ | with_reducible exact RowAt.newAt (by first | rfl | omega | (simp [later_size, setCells_size]; done) | (simp [later_size, setCells_size]; omega)) | with_reducible refine RowAt.alloc ?_ _ | with_reducible apply RowAt.store | with_reducible refine RowAt.others ?_ ?_ _ _ | with_reducible refine RowAt.other ?_ ?_ _)); all_goals first | omega | (simp; done) | (simp; omega) | (simp [go_sem]; done)), (by (repeat (first | with_reducible exact rfl | with_reducible refine RowAt.drew ?_ | with_reducible refine RowAt.later ?_ _ | with_reducible exact RowAt.newAt (by first | rfl | omega | (simp [later_size, setCells_size]; done) | (simp [later_size, setCells_size]; omega)) | with_reducible refine RowAt.alloc ?_ _ | with_reducible apply RowAt.store | with_reducible refine RowAt.others ?_ ?_ _ _ | with_reducible refine RowAt.other ?_ ?_ _)); all_goals first | omega | (simp; done) | (simp; omega) | (simp [go_sem]; done))⟩
 case round =>
  obtain ⟨M, r, s, blk, he, rfl, hh, hb, hx, h1, h2⟩ := hrel
  have HE := lh he
  have HH := lh hh
  have HBy := lh hb
  have HX := lh hx
  have H1 := lh h1
  have H2 := lh h2
  have hn : M.length + r.size < 1152921504606846976 := by have := HA.out; rw [← he, List.length_append, bts_length] at this; exact this
  have hl64 := hh.len
  have hc72 : wr.cell? ⟨w.heap.size, 72, none⟩ = some (.int .u64 M.length) := (h1.cell 72).trans (stC_n _ _ _ hl64)
  have hf : ∀ i, wr.frozen? ⟨w.heap.size, i, none⟩ = false := h1.free
  have hlt := h1.lt
  clear he hh hb hx h2
  by_cases h0 : 0 < r.size
  ·obtain ⟨p, hp⟩ : ∃ p, M.length % 64 = p := ⟨_, rfl⟩
   have hp64 : p < 64 := by omega
   have hple : (p : Int) ≤ 64 := by omega
   have hmod : (M.length : Int) % 64 = (p : Int) := by omega
   have HP := lh hp
   have hem := str_some r h0
   have hroom : roomOf wr w.heap.size (8 + p) (min r.size (64 - p)) = true := by rw [h1.room, stC_size hl64]; simp; omega
   clear hp h1
   by_cases hfull : 64 - p ≤ r.size
   ·have hmin : min r.size (64 - p) = 64 - p := by omega
    go_wp2_with (with_reducible refine wpList_copy_str (.tmp 15) (.tmp 16) 154 9 5 (by kernel_rfl) u8_size w.heap.size (8 + p) (64 - p) (64 - p) rfl r rfl hroom ?_)
    have hxl : ((bts r).take (64 - p)).length = 64 - p := by rw [List.length_take, bts_length]; omega
    refine wp_world (fun W => Ext w W ∧ RowAt W w.heap.size (stC s (Sha.over blk p ((bts r).take (64 - p))) ((M ++ (bts r).take (64 - p)).length : Nat)) ∧ RowAt W (w.heap.size + 1) (stC zeroS (zeros32 64) 0))
     ⟨(by (with_reducible repeat first|exact HX.out|exact eR _|apply eD|apply eN|apply eA|apply eO|apply eS|apply eC);all_goals first|omega|simp <;> omega), by rw [cells8_take, List.length_append, hxl]; push_cast; exact (H1.out.copied hl64 (by omega)).counted (Sha.over_length hl64 (by omega)), (by (repeat (first | with_reducible exact H2.out | with_reducible refine RowAt.drew ?_ | with_reducible refine RowAt.later ?_ _ | with_reducible exact RowAt.newAt (by first | rfl | omega | (simp [later_size, setCells_size]; done) | (simp [later_size, setCells_size]; omega)) | with_reducible refine RowAt.alloc ?_ _ | with_reducible apply RowAt.store | with_reducible refine RowAt.others ?_ ?_ _ _ | with_reducible refine RowAt.other ?_ ?_ _)); all_goals first | omega | (simp; done) | (simp; omega) | (simp [go_sem]; done))⟩ ?_
    rintro W ⟨hx, h1, h2⟩
    have HH2 := lh (Sha.holds_full HH.out (x := (bts r).take (64 - p)) (by rw [HP.out, hxl]; omega))
    rw [HP.out] at HH2
    have hbl : (Sha.over blk p ((bts r).take (64 - p))).length = 64 := Sha.over_length hl64 (by omega)
    have HB2 := lh (byt_over (p := p) HBy.out (bts_byt r (64 - p)))
    have HE2 : Hid (M ++ (bts r).take (64 - p) ++ bts (r.extract (64 - p) r.size) = m ++ bts t) := lh (by rw [bts_drop, List.append_assoc, List.take_append_drop]; exact HE.out)
    have hsz := extract_size r (64 - p)
    have HSZ := lh hsz
    generalize M ++ (bts r).take (64 - p) = M2 at *
    generalize Sha.over blk p ((bts r).take (64 - p)) = blk2 at *
    generalize r.extract (64 - p) r.size = r2 at *
    have HX2 := lh hx
    have H12 := lh h1
    have H22 := lh h2
    have hr8 : rowOf W w.heap.size 0 8 = some (cells32 (s8l s)) := by rw [h1.row, if_neg (by omega), stC_state _ _ _ hbl]
    have hm8 : roomOf W w.heap.size 0 8 = true := by rw [h1.room, stC_size hbl]; rfl
    have hft : fitsRow 8 (cells32 (s8l (Sha.comp s blk2))) = true := fits32 rfl
    have hlW := h1.lt
    clear hx h1 h2 hc72 hf hmod hroom hsz hem
    refine wp_region_later_tail 6 (by kernel_rfl) (by kernel_rfl) ?_
    simp only [List.take_succ_cons, List.take_zero, List.drop_succ_cons, List.drop_zero]
    repeat (first | go_big_quiet_step ((go_at_call 236; exact quietE (compress_ok s blk2 _ 8 _ _ HH.out.ok (HK.out.ext (HX2.out.onto _)) (by omega) (by rw [later_size]; omega) (fun i hi => getD_byte HB2.out i) (fun i hi => ((H12.out.later _).cell _).trans (stC_byte _ _ _ _ hbl hi))))) | quiet_step ((go_at_call 236; exact quietE (compress_ok s blk2 _ 8 _ _ HH.out.ok (HK.out.ext (HX2.out.onto _)) (by omega) (by rw [later_size]; omega) (fun i hi => getD_byte HB2.out i) (fun i hi => ((H12.out.later _).cell _).trans (stC_byte _ _ _ _ hbl hi))))))
    refine wpQuiet_nil ?_
    rintro _ ⟨xq, rfl⟩
    go_wp2
    go_roundw
    case rel => exact ⟨M2, r2, Sha.comp s blk2, blk2, HE2.out, rfl, HH2.out, HB2.out, (by (with_reducible repeat first|exact HX2.out|exact eR _|apply eD|apply eN|apply eA|apply eO|apply eS|apply eC);all_goals first|omega|simp <;> omega), (H12.out.later _).stated hbl, (by (repeat (first | with_reducible exact H22.out | with_reducible refine RowAt.drew ?_ | with_reducible refine RowAt.later ?_ _ | with_reducible exact RowAt.newAt (by first | rfl | omega | (simp [later_size, setCells_size]; done) | (simp [later_size, setCells_size]; omega)) | with_reducible refine RowAt.alloc ?_ _ | with_reducible apply RowAt.store | with_reducible refine RowAt.others ?_ ?_ _ _ | with_reducible refine RowAt.other ?_ ?_ _)); all_goals first | omega | (simp; done) | (simp; omega) | (simp [go_sem]; done))⟩
    case measure => show r2.size < r.size; have := HSZ.out; omega
   ·have hmin : min r.size (64 - p) = r.size := by omega
    have hne : ((p : Int) + (r.size : Int) == 64) = false := by rw [beq_eq_false_iff_ne]; omega
    go_wp2_with (with_reducible refine wpList_copy_str (.tmp 15) (.tmp 16) 154 9 5 (by kernel_rfl) u8_size w.heap.size (8 + p) (64 - p) (64 - p) rfl r rfl hroom ?_)
    have hxl : ((bts r).take r.size).length = r.size := by rw [List.length_take, bts_length]; omega
    have HH2 := lh (Sha.holds_more HH.out (x := (bts r).take r.size) (by rw [HP.out, hxl]; omega))
    rw [HP.out] at HH2
    have HE2 : Hid (M ++ (bts r).take r.size ++ bts ByteArray.empty = m ++ bts t) := lh (by
     have e1 : bts ByteArray.empty = [] := rfl
     rw [e1, List.append_nil, List.take_of_length_le (by rw [bts_length]; omega)]
     exact HE.out)
    go_roundw
    case rel => exact ⟨M ++ (bts r).take r.size, ByteArray.empty, s, Sha.over blk p ((bts r).take r.size), HE2.out, rfl, HH2.out, byt_over HBy.out (bts_byt r _), (by (with_reducible repeat first|exact HX.out|exact eR _|apply eD|apply eN|apply eA|apply eO|apply eS|apply eC);all_goals first|omega|simp <;> omega), by rw [cells8_take, List.length_append, hxl]; push_cast; exact (H1.out.copied hl64 (by omega)).counted (Sha.over_length hl64 (by omega)), (by (repeat (first | with_reducible exact H2.out | with_reducible refine RowAt.drew ?_ | with_reducible refine RowAt.later ?_ _ | with_reducible exact RowAt.newAt (by first | rfl | omega | (simp [later_size, setCells_size]; done) | (simp [later_size, setCells_size]; omega)) | with_reducible refine RowAt.alloc ?_ _ | with_reducible apply RowAt.store | with_reducible refine RowAt.others ?_ ?_ _ _ | with_reducible refine RowAt.other ?_ ?_ _)); all_goals first | omega | (simp; done) | (simp; omega) | (simp [go_sem]; done))⟩
    case measure => show 0 < r.size; omega
  ·have hem := str_none r (by omega)
   have hrow : rowOf wr w.heap.size 0 73 = some (stC s blk M.length) := h1.all (stC_size hl64).symm (by omega)
   have hrm : roomOf wr (w.heap.size + 1) 0 73 = true := by rw [H2.out.room, stC_size (zeros32_length 64)]; rfl
   have hft := fits_st s blk M.length hl64
   have rr := lh (H2.out.stored (n := 73) (ds := stC s blk M.length) (by rw [stC_size hl64, stC_size (zeros32_length 64)]) (stC_size hl64).symm (by omega))
   have HQ : Hid (M = m ++ bts t) := by
    have e : bts r = [] := List.eq_nil_of_length_eq_zero (by rw [bts_length]; omega)
    have := HE.out
    rw [e, List.append_nil] at this
    exact lh this
   clear h1
   go_wp2_with fail
   refine post_row strm_ty Tryz.results194 rfl rfl rr.out ⟨s, blk, by rw [← HQ.out]; exact HH.out, HBy.out, by rw [← HQ.out], (by (with_reducible repeat first|exact HX.out|exact eR _|apply eD|apply eN|apply eA|apply eO|apply eS|apply eC);all_goals first|omega|simp <;> omega)⟩
end Go.Proofs.YtmgekdggahoboaaGreatDoor

namespace Go.Proofs.YtmgekdggahoboaaGreatDoor
open Go.RowKit
open Go.Proofs
theorem Owns.fresh {α : Type} {e : TypeId} {size base : Nat} {enc : α → List Value} (E : EncTy enc size) {w : World} {cs : Array Value} {l : List α} {c g : Nat} (hg : g = w.heap.size) (hb : base ≤ g) (h1 : cs.toList = l.flatMap enc) (h2 : c = l.length) (h3 : c ≤ 140737488355328) : Owns e size enc base (w.alloc (.cells cs e)) (some ⟨g, 0, none⟩) c l := by
 subst h2 hg
 refine Owns.mk E hb (heap_alloc_new w _) (Nat.le_refl _) (by unfold maxLen; omega) ?_ ?_
 ·have := congrArg List.length h1
  rw [E.flat_len] at this
  simpa using this
 ·rw [h1, ← E.flat_len l, List.take_length]
def zn (n : Nat) : Nat := (119 - n % 64) % 64
theorem pad_eq (n : Nat) : Sha.pad n = 128 :: List.replicate (zn n) 0 ++ Sha.be8 (8 * n) := rfl
def lenOf : Value → Nat
 | .slice _ n _ => n
 | _ => 0
def PadRel (w : World) (cs : Array Value) (l0 : List Int) (wr : World) (v : Value) : Prop :=
 ∃ (A : Option Addr) (c : Nat) (l : List Int), Hid (l = l0) ∧ v = .slice A l.length c ∧ OwnsB (w.heap.size + 2) wr A c l ∧ Ext w wr ∧ RowAt wr w.heap.size cs ∧ RowAt wr (w.heap.size + 1) (cells8 (zeros32 32))
theorem stC_word (s : Sha.S8) (blk : List Int) (n : Int) (q : Nat) (h : q < 8) : (stC s blk n)[q]? = some (.int .u32 ((s8l s).getD q 0)) := by
 have e : (stC s blk n)[q]? = (stC s blk n).toList[q]? := by simp
 rw [e, stC_list, List.getElem?_append_left (by simp [cells32_size, s8l_length, h])]
 have : (cells32 (s8l s)).toList[q]? = (cells32 (s8l s))[q]? := by simp
 rw [this, cells32_get, if_pos (by rw [s8l_length]; exact h)]
theorem be8_snoc (n : Nat) {i : Nat} (h : i < 8) : (Sha.be8 (8 * n)).take (i + 1) = (Sha.be8 (8 * n)).take i ++ [8 * (n : Int) / 2 ^ (56 - 8 * i) % 256] := by
 have hl : (Sha.be8 (8 * n)).length = 8 := by simp [Sha.be8]
 rw [List.take_succ_eq_append_getElem (by omega)]
 congr 2
 simp [Sha.be8]
theorem pad_byte (n : Nat) : ∀ x ∈ Sha.pad n, 0 ≤ x ∧ x < 256 := by
 intro x hx
 simp only [Sha.pad, Sha.be8, List.cons_append, List.mem_cons, List.mem_append, List.mem_map] at hx
 rcases hx with rfl | hx | ⟨i, _, rfl⟩
 ·omega
 ·have := List.eq_of_mem_replicate hx; omega
 ·omega
def outAt (s : Sha.S8) (i : Nat) : List Int := (Sha.out s).take i ++ zeros32 (32 - i)
theorem outAt_length (s : Sha.S8) {i : Nat} (h : i ≤ 32) : (outAt s i).length = 32 := by
 simp [outAt, Sha.out_length, zeros32]
 omega
theorem outAt_set (s : Sha.S8) {i : Nat} (h : i < 32) : (outAt s i).set i ((Sha.out s).getD i 0) = outAt s (i + 1) := by
 have hl := Sha.out_length s
 unfold outAt
 rw [List.set_append_right _ _ (by simp [hl]; omega)]
 have e : i - ((Sha.out s).take i).length = 0 := by simp [hl]; omega
 have e2 : (Sha.out s).take (i + 1) = (Sha.out s).take i ++ [(Sha.out s).getD i 0] := by
  rw [List.take_succ_eq_append_getElem (by omega)]
  simp [hl, h]
 rw [e, e2, zeros32, zeros32, show 32 - i = (32 - (i + 1)) + 1 by omega, List.replicate_succ, List.set_cons_zero]
 simp
theorem outAt_all (s : Sha.S8) : outAt s 32 = Sha.out s := by
 unfold outAt
 rw [List.take_of_length_le (by rw [Sha.out_length]; omega)]
 simp [zeros32]
theorem ssum_ok (s : Sha.S8) (blk m : List Int) (w : World) (h : Sha.Holds s blk m) (hb : Byt blk) (hk : Konst 4 w) (hlen : m.length < 1152921504606846000) :
  Calls Tryz.prog 195 #[.agg (stC s blk m.length)] w fun e w' => e = .returned (.agg (cells8 (Sha.sha m))) ∧ Ext w w' := by
 have HK := lh hk
 have H0 := lh h
 have HB := lh hb
 have hl64 := h.len
 clear hk h hb
 go_enter Tryz.func195, Tryz.ntmps195
 have hc72 : (stC s blk m.length)[72]? = some (.int .u64 m.length) := stC_n _ _ _ hl64
 go_wp2
 have hz : zn m.length < 64 := by unfold zn; omega
 go_loopw [4] (fun v wr => ∃ k : Nat, k ≤ zn m.length ∧ PadRel w (stC s blk m.length) (128 :: List.replicate k 0) wr v) (fun v _ => 65 - lenOf v)
 case atStart => exact ⟨0, Nat.zero_le _, some ⟨w.heap.size + 1 + 1, 0, none⟩, 1, [128], lh rfl, rfl, Owns.fresh bE (by simp) (by omega) rfl rfl (by omega), (by (with_reducible repeat first|exact eR _|apply eD|apply eN|apply eA|apply eO|apply eS|apply eC);all_goals first|omega|simp <;> omega), (by (repeat (first | with_reducible exact rfl | with_reducible refine RowAt.drew ?_ | with_reducible refine RowAt.later ?_ _ | with_reducible exact RowAt.newAt (by first | rfl | omega | (simp [later_size, setCells_size]; done) | (simp [later_size, setCells_size]; omega)) | with_reducible refine RowAt.alloc ?_ _ | with_reducible apply RowAt.store | with_reducible refine RowAt.others ?_ ?_ _ _ | with_reducible refine RowAt.other ?_ ?_ _)); all_goals first | omega | (simp; done) | (simp; omega) | (simp [go_sem]; done)), (by (repeat (first | with_reducible exact rfl | with_reducible refine RowAt.drew ?_ | with_reducible refine RowAt.later ?_ _ | with_reducible exact RowAt.newAt (by first | rfl | omega | (simp [later_size, setCells_size]; done) | (simp [later_size, setCells_size]; omega)) | with_reducible refine RowAt.alloc ?_ _ | with_reducible apply RowAt.store | with_reducible refine RowAt.others ?_ ?_ _ _ | with_reducible refine RowAt.other ?_ ?_ _)); all_goals first | omega | (simp; done) | (simp; omega) | (simp [go_sem]; done))⟩
 case round =>
  obtain ⟨k, hk, A, c, l, HL, rfl, ho, hx, h1, h2⟩ := hrel
  have hll : l.length = k + 1 := by rw [HL.out]; simp
  have hll1 : l.length ≤ k + 1 := by omega
  have hll2 : k + 1 ≤ l.length := by omega
  have HO := lh ho
  have HX := lh hx
  have H1 := lh h1
  have H2 := lh h2
  have hsz := h2.lt
  have hcn : wr.cell? ⟨w.heap.size, 72, none⟩ = some (.int .u64 m.length) := (h1.cell 72).trans hc72
  clear ho hx h1 h2 hll
  by_cases hkz : k < zn m.length
  ·have ht : (((m.length : Int) + (l.length : Int)) % 64 == 56) = false := by rw [beq_eq_false_iff_ne]; unfold zn at hkz; omega
   have ht2 : (((m.length : Int) + (l.length : Int)) % 64 != 56) = true := by rw [bne_iff_ne]; unfold zn at hkz; omega
   go_wp2_with (at_builtin; refine app_from bT bE rfl _ _ rfl (w.heap.size + 2) _ _ l rfl (HO.out.alloc _) _ 1 _ [0] rfl rfl (new_cells _ _ _) (by omega) (by omega) (by simp; omega) ?_; intro A2 c2 l2 w2 HL2 HO2 hB hl1 hl2 _; have HO2' := lh HO2; have HB2 := lh hB; clear HO2 hB)
   go_roundw
   case rel => exact ⟨k + 1, by omega, A2, c2, l2, lh (by rw [HL2.out, HL.out, List.replicate_succ']; simp), rfl, HO2'.out, (HX.out.alloc _).grown HB2.out (by omega), (H1.out.alloc _).below HB2.out (by omega), (H2.out.alloc _).below HB2.out (by omega)⟩
   case measure => simp [lenOf]; omega
  ·have ht : (((m.length : Int) + (l.length : Int)) % 64 != 56) = false := by rw [bne_eq_false_iff_eq]; unfold zn at hkz hk; omega
   have HL3 : Hid (l = 128 :: List.replicate (zn m.length) 0) := lh (by rw [HL.out]; congr 2; omega)
   clear HL
   go_wp2
   clear ht hll1 hll2 hkz hcn hk
   go_loopw [4, 23] (fun v j wr => ∃ i : Nat, i ≤ 8 ∧ j = .int .i64 i ∧ PadRel w (stC s blk m.length) (128 :: List.replicate (zn m.length) 0 ++ (Sha.be8 (8 * m.length)).take i) wr v) (fun _ j _ => 8 - (intOf j).toNat)
   case atStart => exact ⟨0, Nat.zero_le _, rfl, A, c, l, lh (by rw [HL3.out]; simp), rfl, HO.out, HX.out, H1.out, H2.out⟩
   case round =>
    obtain ⟨i, hi, rfl, A, c, l, HL, rfl, ho, hx, h1, h2⟩ := hrel
    have hll : l.length ≤ 72 := by rw [HL.out]; simp; omega
    have HO := lh ho
    have HX := lh hx
    have H1 := lh h1
    have H2 := lh h2
    have hsz := h2.lt
    clear ho hx h1 h2
    by_cases hi8 : i < 8
    ·have HT := lh (be8_snoc m.length hi8)
     obtain ⟨b, hbv⟩ : ∃ b : Int, 8 * (m.length : Int) / 2 ^ (56 - 8 * i) % 256 = b := ⟨_, rfl⟩
     rw [hbv] at HT
     go_wp2_with (at_builtin; refine app_from bT bE rfl _ _ rfl (w.heap.size + 2) _ _ l rfl (HO.out.alloc _) _ 1 _ [b] rfl rfl (new_cells _ _ _) (by omega) (by omega) (by simp; omega) ?_; intro A2 c2 l2 w2 HL2 HO2 hB hl1 hl2 _; have HO2' := lh HO2; have HB2 := lh hB; clear HO2 hB)
     go_roundw
     case rel => exact ⟨i + 1, by omega, by go_num, A2, c2, l2, lh (by rw [HL2.out, HL.out, HT.out]; simp), rfl, HO2'.out, (HX.out.alloc _).grown HB2.out (by omega), (H1.out.alloc _).below HB2.out (by omega), (H2.out.alloc _).below HB2.out (by omega)⟩
     case measure => simp [intOf]; omega
    ·have HP : Hid (l = Sha.pad m.length) := lh (by rw [HL.out, pad_eq, List.take_of_length_le (by simp [Sha.be8]; omega)])
     have hpos : 0 < l.length := by rw [HP.out]; simp [Sha.pad]
     have hcv := conv_bytes c (HO.out.reads bE) hpos
     have hrow : rowOf wr w.heap.size 0 73 = some (stC s blk m.length) := H1.out.all (stC_size hl64).symm (by omega)
     have hrm : roomOf wr w.heap.size 0 73 = true := by rw [H1.out.room, stC_size hl64]; rfl
     have hlt := H1.out.lt
     have hss : (strOfNums l).size = l.length := strOfNums_size l
     have HM : Hid (m ++ bts (strOfNums l) = Sha.padded m) := lh (by rw [bts_nums (by rw [HP.out]; exact pad_byte _), HP.out]; rfl)
     have hM : (strOfNums l).size ≤ 72 := by omega
     have HLI := lh hlen
     generalize strOfNums l = r at *
     clear hss hlen
     go_wp2_with (go_at_call 194; refine (add_ok s blk m r _ H0.out HB.out (HK.out.ext HX.out) (by have := HLI.out; omega)).mono ?_; rintro e w1 ⟨s2, blk2, hh2, hb2, rfl, hx2⟩; have HH2 := lh hh2; have hl2 := hh2.len; have hft := fits_st s2 blk2 ((m ++ bts r).length : Nat) hl2; rw [HM.out] at hft HH2 ⊢; obtain ⟨xl, rfl⟩ := hx2.asLater; clear hh2 hb2 hx2 hcv)
     have HS : Hid (Sha.out s2 = Sha.sha m) := lh (Sha.sha_of_holds HH2.out)
     refine wp_world (fun W => Ext w W ∧ RowAt W w.heap.size (stC s2 blk2 ((Sha.padded m).length : Nat)) ∧ RowAt W (w.heap.size + 1) (cells8 (zeros32 32)) ∧ RowAt W (wr.heap.size + xl.n) (cells8 (outAt s2 0)))
      ⟨(by (with_reducible repeat first|exact HX.out|exact eR _|apply eD|apply eN|apply eA|apply eO|apply eS|apply eC);all_goals first|omega|simp <;> omega), (((H1.out.later _).store (by rw [stC_size hl2, stC_size hl64])).alloc _), (by (repeat (first | with_reducible exact H2.out | with_reducible refine RowAt.drew ?_ | with_reducible refine RowAt.later ?_ _ | with_reducible exact RowAt.newAt (by first | rfl | omega | (simp [later_size, setCells_size]; done) | (simp [later_size, setCells_size]; omega)) | with_reducible refine RowAt.alloc ?_ _ | with_reducible apply RowAt.store | with_reducible refine RowAt.others ?_ ?_ _ _ | with_reducible refine RowAt.other ?_ ?_ _)); all_goals first | omega | (simp; done) | (simp; omega) | (simp [go_sem]; done)), RowAt.newAt (by rw [setCells_size, later_size])⟩ ?_
     rintro W ⟨hx, h1, h2, h3⟩
     have HXa := lh hx
     have H1a := lh h1
     have H2a := lh h2
     have H3a := lh h3
     have hok := lh HH2.out.ok
     have hbo : w.heap.size + 1 < wr.heap.size + xl.n := by omega
     clear hx h1 h2 h3 hft hrow hrm
     generalize wr.heap.size + xl.n = bo at *
     go_loopw [40] (fun j wq => ∃ i : Nat, i ≤ 32 ∧ j = .int .i64 i ∧ Ext w wq ∧ RowAt wq w.heap.size (stC s2 blk2 ((Sha.padded m).length : Nat)) ∧ RowAt wq (w.heap.size + 1) (cells8 (zeros32 32)) ∧ RowAt wq bo (cells8 (outAt s2 i))) (fun j _ => 32 - (intOf j).toNat)
     case atStart => exact ⟨0, Nat.zero_le _, rfl, HXa.out, H1a.out, H2a.out, H3a.out⟩
     case round =>
      obtain ⟨i, hi, rfl, hx, h1, h2, h3⟩ := hrel
      have HXb := lh hx
      have H1b := lh h1
      have H2b := lh h2
      have H3b := lh h3
      by_cases hi32 : i < 32
      ·have hcw : wr.cell? ⟨w.heap.size, i / 4, none⟩ = some (.int .u32 ((s8l s2).getD (i / 4) 0)) := (h1.cell _).trans (stC_word _ _ _ _ (by omega))
       have hg := Sha.out_get s2 (s8l s2) rfl i hi32
       have HG := lh (outAt_set s2 hi32)
       rw [hg] at HG
       generalize (s8l s2).getD (i / 4) 0 = x at hcw HG
       clear hg
       have hm : roomOf wr bo i 1 = true := by rw [h3.room, cells8_size, outAt_length s2 hi]; simp; omega
       have hcx : wr.cell? ⟨bo, i, none⟩ = some (.int .u8 ((outAt s2 i).getD i 0)) := by rw [h3.cell, cells8_get, outAt_length s2 hi, if_pos hi32]
       have hfx := h3.free
       have hl1 := h1.lt
       have hl3 := h3.lt
       clear hx h1 h2 h3
       go_wp2
       go_roundw
       case rel => exact ⟨i + 1, by omega, by go_num, (by (with_reducible repeat first|exact HXb.out|exact eR _|apply eD|apply eN|apply eA|apply eO|apply eS|apply eC);all_goals first|omega|simp <;> omega), (by (repeat (first | with_reducible exact H1b.out | with_reducible refine RowAt.drew ?_ | with_reducible refine RowAt.later ?_ _ | with_reducible exact RowAt.newAt (by first | rfl | omega | (simp [later_size, setCells_size]; done) | (simp [later_size, setCells_size]; omega)) | with_reducible refine RowAt.alloc ?_ _ | with_reducible apply RowAt.store | with_reducible refine RowAt.others ?_ ?_ _ _ | with_reducible refine RowAt.other ?_ ?_ _)); all_goals first | omega | (simp; done) | (simp; omega) | (simp [go_sem]; done)), (by (repeat (first | with_reducible exact H2b.out | with_reducible refine RowAt.drew ?_ | with_reducible refine RowAt.later ?_ _ | with_reducible exact RowAt.newAt (by first | rfl | omega | (simp [later_size, setCells_size]; done) | (simp [later_size, setCells_size]; omega)) | with_reducible refine RowAt.alloc ?_ _ | with_reducible apply RowAt.store | with_reducible refine RowAt.others ?_ ?_ _ _ | with_reducible refine RowAt.other ?_ ?_ _)); all_goals first | omega | (simp; done) | (simp; omega) | (simp [go_sem]; done)), H3b.out.set8 HG.out⟩
       case measure => simp [intOf]; omega
      ·have e32 : i = 32 := by omega
       subst e32
       rw [outAt_all, HS.out] at h3 H3b
       have hsl := Sha.sha_length m
       have r32 : rowOf wr bo 0 32 = some (cells8 (Sha.sha m)) := h3.all (by rw [cells8_size, hsl]) (by omega)
       have m32 : roomOf wr (w.heap.size + 1) 0 32 = true := by rw [h2.room]; rfl
       have hf32 : fitsRow 32 (cells8 (Sha.sha m)) = true := fits8 hsl
       have rr := lh (h2.stored (n := 32) (ds := cells8 (Sha.sha m)) (by rw [cells8_size, cells8_size, hsl, zeros32_length]) (by rw [cells8_size, hsl]) (by omega))
       have hl2 := h2.lt
       clear hx h1 h2 h3
       go_wp2
       refine post_row b32_ty Tryz.results195 rfl rfl rr.out ⟨rfl, (by (with_reducible repeat first|exact HXb.out|exact eR _|apply eD|apply eN|apply eA|apply eO|apply eS|apply eC);all_goals first|omega|simp <;> omega)⟩
attribute [local go_sem] st0_size
abbrev ReadsS (w : World) (B : Nat) (A : Option Addr) (l : List ByteArray) : Prop := Reads 1 encStr w B A l
theorem ReadsS.cell {w : World} {B : Nat} {A : Option Addr} {l : List ByteArray} (h : ReadsS w B A l) (i : Nat) (hi : i < l.length) : ∃ b off, A = some ⟨b, off, none⟩ ∧ b < B ∧ w.cell? ⟨b, off + i, none⟩ = some (.string l[i]) := by
 obtain ⟨b, off, h1, h2, h3⟩ := h (by omega)
 refine ⟨b, off, h1, h2, ?_⟩
 have := h3 i hi 0 (.string l[i]) rfl
 rwa [Nat.mul_one, Nat.add_zero] at this
def lens (l : List ByteArray) : Nat := (l.map fun s => s.size + 10).sum
def inputS (tag : Int) (l : List ByteArray) : List Int := Wire.input tag (l.map bts)
def StreamV (m : List Int) (v : Value) : Prop := ∃ s blk, Sha.Holds s blk m ∧ Byt blk ∧ v = .agg (stC s blk m.length)
theorem StreamIs.v {m : List Int} {w w' : World} {e : Ending} (h : StreamIs m w e w') : ∃ v, e = .returned v ∧ Ext w w' ∧ StreamV m v := by
 obtain ⟨s, blk, h1, h2, h3, h4⟩ := h
 exact ⟨_, h3, h4, s, blk, h1, h2, rfl⟩
def oneByte (x : Int) : Soft := ⟨fun v w => ∃ b, v = .slice (some ⟨b, 0, none⟩) 1 1 ∧ b < w.heap.size ∧ w.cell? ⟨b, 0, none⟩ = some (.int .u8 x), fun v w w' ⟨b, h1, h2, h3⟩ hx => ⟨b, h1, Nat.lt_of_lt_of_le h2 hx.size, (hx.cell (p := ⟨b, 0, none⟩) h2).trans h3⟩⟩
def newRow (base : Nat) (cs : Array Value) : Soft := ⟨fun v w => ∃ b, v = .pointer (some ⟨b, 0, none⟩) ∧ base ≤ b ∧ RowAt w b cs, fun v w w' ⟨b, h1, h2, h3⟩ hx => ⟨b, h1, h2, h3.ext hx⟩⟩
def ofSoft (tag : Int) (base : Nat) : Nat → Soft
 | 0 => Soft.pl (StreamV [])
 | 1 => Soft.eq (.int .i64 tag)
 | 2 => Soft.eq (.int .u8 (tag % 256))
 | 3 => oneByte (tag % 256)
 | 4 => Soft.eq (.string (strOfNums [tag % 256]))
 | 5 => Soft.pl (StreamV [tag % 256])
 | _ => newRow base (stC zeroS (zeros32 64) 0)
theorem lens_append (l m : List ByteArray) : lens (l ++ m) = lens l + lens m := by simp [lens]
theorem lens_take (l : List ByteArray) (k : Nat) : lens (l.take k) ≤ lens l := by
 conv => rhs; rw [← List.take_append_drop k l]
 rw [lens_append]
 omega
theorem lens_get (l : List ByteArray) (k : Nat) (h : k < l.length) : lens (l.take k) + l[k].size + 10 ≤ lens l := by
 have e : lens (l.take (k + 1)) = lens (l.take k) + (l[k].size + 10) := by
  rw [List.take_succ_eq_append_getElem h, lens_append]
  simp [lens]
 have := lens_take l (k + 1)
 omega
theorem lens_length (l : List ByteArray) : l.length ≤ lens l := by
 induction l with
 | nil => simp [lens]
 | cons s l ih =>
  have e : lens (s :: l) = s.size + 10 + lens l := by simp [lens]
  simp only [List.length_cons]
  omega
theorem encS_len (s : ByteArray) : (Wire.encS (bts s)).length ≤ s.size + 10 := by
 have := Wire.enc_length (s.size : Int)
 rw [encS_eq, List.length_append, bts_length]
 omega
theorem inputS_snoc (tag : Int) (l : List ByteArray) (k : Nat) (h : k < l.length) : inputS tag (l.take (k + 1)) = inputS tag (l.take k) ++ Wire.encS (bts l[k]) := by
 rw [List.take_succ_eq_append_getElem h, inputS, inputS, Wire.input, Wire.input, List.map_append, List.flatMap_append, List.map_singleton, List.flatMap_singleton]
 rfl
theorem inputS_len (tag : Int) : ∀ l : List ByteArray, (inputS tag l).length ≤ 1 + lens l := by
 intro l
 suffices H : ∀ l : List ByteArray, ((l.map bts).flatMap Wire.encS).length ≤ lens l by
  have := H l
  simp only [inputS, Wire.input, List.length_cons]
  omega
 intro l
 induction l with
 | nil => simp [lens]
 | cons s l ih =>
  have := encS_len s
  simp only [List.map_cons, List.flatMap_cons, List.length_append]
  have e : lens (s :: l) = s.size + 10 + lens l := by simp [lens]
  omega
theorem encS_byt (s : ByteArray) (h : s.size ≤ 140737488351232) : ∀ x ∈ Wire.encS (bts s), 0 ≤ x ∧ x < 256 := by
 intro x hx
 rw [encS_eq, List.mem_append] at hx
 rcases hx with hx | hx
 ·exact Wire.enc_byte _ (by omega) (by omega) x hx
 ·exact bts_byte s x hx
def freshB (lb : List Int) : Soft := ⟨fun v w => ∃ A c, v = .slice A lb.length c ∧ ReadsB w w.heap.size A lb, fun v w w' ⟨A, c, h1, h2⟩ hx => ⟨A, c, h1, h2.on hx⟩⟩
def ofSoft2 (v0 : Value) (p : ByteArray) (lb : List Int) (m : List Int) : Nat → Soft
 | 0 => Soft.eq v0
 | 1 => Soft.eq (.string p)
 | 2 => freshB lb
 | 3 => Soft.eq (.string (strOfNums lb))
 | _ => Soft.pl (StreamV m)
theorem cells8_take16 (l : List Int) {n : Nat} (h : n ≤ l.length) (h0 : 0 < n) : rowSub (cells8 l) 0 n = some (cells8 (l.take n)) := by
 rw [rowSub, if_pos (by rw [cells8_size]; omega)]
 congr 1
 apply Array.toList_inj.1
 rw [Array.toList_extract]
 simp [cells8, List.map_take]
def OfRel (w : World) (b : Nat) (m : List Int) (wr : World) : Prop := ∃ s blk, Sha.Holds s blk m ∧ Byt blk ∧ Ext w wr ∧ RowAt wr w.heap.size (cells8 (zeros32 16)) ∧ RowAt wr b (stC s blk m.length)
theorem of_ok (tag : Int) (A : Option Addr) (c : Nat) (l : List ByteArray) (w : World) (hk : Konst 4 w) (hr : ReadsS w w.heap.size A l) (hl : lens l < 140737488351232) :
  Calls Tryz.prog 159 #[.int .i64 tag, .slice A l.length c] w fun e w' => e = .returned (.agg (cells8 (Wire.digest tag (l.map bts)))) ∧ Ext w w' := by
 have HK := lh hk
 have HR := lh hr
 have hll := lens_length l
 clear hk hr
 go_enter Tryz.func159, Tryz.ntmps159
 go_wp2
 refine wp_region_soft 7 (ofSoft tag (w.heap.size + 1)) (by kernel_rfl) (by kernel_rfl) (lt_cons ?_ (lt_cons ?_ (lt_cons ?_ (lt_cons ?_ (lt_cons ?_ (lt_cons ?_ (lt_cons ?_ lt_none))))))) ?_
 ·refine sop rfl fun xs W HW hsW HD Q' HQ => ?_; simp only [fillAt, dstOf, lc0, lcs, obs, Act.put, lsa, lsz, lss, nz, Nat.reduceAdd] at HQ ⊢
  go_wp2_with (go_at_call 193; refine (begin_ok _).mono ?_; rintro e w1 h1; obtain ⟨v, rfl, hx, hv⟩ := h1.v; clear h1)
  exact HQ.out _ _ hx hv
 ·refine sop rfl fun xs W HW hsW HD Q' HQ => ?_; simp only [fillAt, dstOf, lc0, lcs, obs, Act.put, lsa, lsz, lss, nz, Nat.reduceAdd] at HQ ⊢
  go_wp2
  exact HQ.out _ _ (eR _) rfl
 ·refine sop rfl fun xs W HW hsW HD Q' HQ => ?_; simp only [fillAt, dstOf, lc0, lcs, obs, Act.put, lsa, lsz, lss, nz, Nat.reduceAdd] at HQ ⊢
  have h1 : xs 1 = .int .i64 tag := (HD.out 1 (dk (by kernel_rfl)))
  go_wp2
  exact HQ.out _ _ (eR _) rfl
 ·refine sop rfl fun xs W HW hsW HD Q' HQ => ?_; simp only [fillAt, dstOf, lc0, lcs, obs, Act.put, lsa, lsz, lss, nz, Nat.reduceAdd] at HQ ⊢
  have h1 : xs 2 = .int .u8 (tag % 256) := (HD.out 2 (dk (by kernel_rfl)))
  go_wp2
  exact HQ.out _ _ ((eR _).alloc _) ⟨W.heap.size, rfl, by simp, by rw [alloc_cell_if, if_pos rfl]; rfl⟩
 ·refine sop rfl fun xs W HW hsW HD Q' HQ => ?_; simp only [fillAt, dstOf, lc0, lcs, obs, Act.put, lsa, lsz, lss, nz, Nat.reduceAdd] at HQ ⊢
  obtain ⟨b, h1, h2, h3⟩ : (oneByte (tag % 256)).S (xs 3) W := (HD.out 3 (dk (by kernel_rfl)))
  have hcv := conv_bytes (w := W) (B := W.heap.size) (A := some ⟨b, 0, none⟩) (l := [tag % 256]) 1 (fun _ => ⟨b, 0, rfl, h2, fun i hi j v hv => by
   have : i = 0 := by simp at hi; omega
   subst this
   have : j = 0 := by
    have := (List.getElem?_eq_some_iff.1 hv).1
    simp [encB] at this; omega
   subst this
   simp [encB] at hv
   subst hv
   exact h3⟩) (by simp)
  rw [show [tag % 256].length = 1 from rfl] at hcv
  go_wp2
  exact HQ.out _ _ (eR _) rfl
 ·refine sop rfl fun xs W HW hsW HD Q' HQ => ?_; simp only [fillAt, dstOf, lc0, lcs, obs, Act.put, lsa, lsz, lss, nz, Nat.reduceAdd] at HQ ⊢
  obtain ⟨s1, blk1, hh, hb, h1⟩ : StreamV [] (xs 0) := (HD.out 0 (dk (by kernel_rfl)))
  have h4 : xs 4 = .string (strOfNums [tag % 256]) := (HD.out 4 (dk (by kernel_rfl)))
  generalize xs 0 = x0 at h1 HQ ⊢; subst h1
  generalize xs 4 = x4 at h4 HQ ⊢; subst h4
  have HH := lh hh
  have HB := lh hb
  have HE : Hid ([] ++ bts (strOfNums [tag % 256]) = [tag % 256]) := lh (by rw [List.nil_append, bts_nums (by intro x hx; simp at hx; omega)])
  have hsz := strOfNums_size [tag % 256]
  have hsz2 : (strOfNums [tag % 256]).size ≤ 1 := by rw [hsz]; simp
  clear hh hb hsz
  generalize strOfNums [tag % 256] = r at *
  go_wp2_with (go_at_call 194; refine (add_ok s1 blk1 [] r _ HH.out HB.out ((HK.out.alloc _).ext HW.out) (by simp; omega)).mono ?_; rintro e w1 h1; obtain ⟨v, rfl, hx, hv⟩ := h1.v; clear h1)
  rw [HE.out] at hv
  exact HQ.out _ _ hx hv
 ·refine sop rfl fun xs W HW hsW HD Q' HQ => ?_; simp only [fillAt, dstOf, lc0, lcs, obs, Act.put, lsa, lsz, lss, nz, Nat.reduceAdd] at HQ ⊢
  go_wp2
  exact HQ.out _ _ ((eR _).alloc _) ⟨W.heap.size, rfl, by simp at hsW; omega, RowAt.new _ _ _⟩
 ·intro xs W hW hS
  obtain ⟨s1, blk1, hh, hb, h5⟩ : StreamV [tag % 256] (xs 5) := hS 5 (by omega)
  obtain ⟨b, h6, hbs, hrow⟩ : (newRow (w.heap.size + 1) (stC zeroS (zeros32 64) 0)).S (xs 6) W := hS 6 (by omega)
  simp only [fillAt, dstOf, lc0, lcs, obs, Act.put, lsa, lsz, lss, nz, Nat.reduceAdd, List.drop_succ_cons, List.drop_zero]
  generalize xs 5 = x5 at h5 ⊢; subst h5
  generalize xs 6 = x6 at h6 ⊢; subst h6
  have hl64 := hh.len
  have hft := fits_st s1 blk1 1 hl64
  have hrm : roomOf W b 0 73 = true := by rw [hrow.room, st0_size]; rfl
  have HR2 : Hid (ReadsS W w.heap.size A l) := lh (HR.out.ext (((eR _).alloc _).trans hW) (Nat.le_refl _))
  have H0 : Hid (RowAt W w.heap.size (cells8 (zeros32 16))) := lh ((RowAt.new w _ _).ext hW)
  have HW := lh (((Ext.refl w).alloc _).trans hW)
  have HH := lh hh
  have HB := lh hb
  have HRo := lh hrow
  clear hW hS hh hb hrow
  go_wp2
  go_loopw [17] (fun j wr => ∃ k : Nat, k ≤ l.length ∧ j = .int .i64 k ∧ OfRel w b (inputS tag (l.take k)) wr) (fun j _ => l.length - (intOf j).toNat)
  case atStart => exact ⟨0, Nat.zero_le _, rfl, s1, blk1, HH.out, HB.out, HW.out.setCells (by omega) _ _, H0.out.others (by omega) _ _, HRo.out.store (by rw [stC_size hl64, st0_size])⟩
  case round =>
   obtain ⟨k, hk, rfl, s, blk, hh, hb, hx, h0, h1⟩ := hrel
   have HX := lh hx
   have HH := lh hh
   have HB := lh hb
   have H0 := lh h0
   have H1 := lh h1
   have hl64 := hh.len
   clear hh hb hx h0 h1
   by_cases hlt : k < l.length
   ·have HRw := HR.out.ext HX.out (Nat.le_refl _)
    obtain ⟨ba, off, rfl, hba, hcs⟩ := ReadsS.cell HRw k hlt
    have HI := lh (inputS_snoc tag l k hlt)
    have hlg := lens_get l k hlt
    have hml := inputS_len tag (l.take k)
    have hel := encS_len l[k]
    have HBy := lh (encS_byt l[k] (by omega))
    have hrow : rowOf wr b 0 73 = some (stC s blk (inputS tag (l.take k)).length) := H1.out.all (stC_size hl64).symm (by omega)
    have hbl := H1.out.lt
    have hwl := HX.out.size
    generalize inputS tag (l.take k) = M at *
    generalize hp : l[k] = p at *
    clear hp HRw
    go_wp2
    refine wp_region_soft 5 (ofSoft2 (.agg (stC s blk M.length)) p (Wire.encS (bts p)) (M ++ Wire.encS (bts p))) (by kernel_rfl) (by kernel_rfl) (lt_cons ?_ (lt_cons ?_ (lt_cons ?_ (lt_cons ?_ (lt_cons ?_ lt_none))))) ?_
    ·refine sop rfl fun xs W HW hsW HD Q' HQ => ?_; simp only [fillAt, dstOf, lc0, lcs, obs, Act.put, lsa, lsz, lss, nz, Nat.reduceAdd] at HQ ⊢
     have hr2 : rowOf W b 0 73 = some (stC s blk M.length) := (H1.out.ext HW.out).all (stC_size hl64).symm (by omega)
     go_wp2
     exact HQ.out _ _ (eR _) rfl
    ·refine sop rfl fun xs W HW hsW HD Q' HQ => ?_; simp only [fillAt, dstOf, lc0, lcs, obs, Act.put, lsa, lsz, lss, nz, Nat.reduceAdd] at HQ ⊢
     go_wp2
     exact HQ.out _ _ (eR _) rfl
    ·refine sop rfl fun xs W HW hsW HD Q' HQ => ?_; simp only [fillAt, dstOf, lc0, lcs, obs, Act.put, lsa, lsz, lss, nz, Nat.reduceAdd] at HQ ⊢
     have h1 : xs 1 = .string p := (HD.out 1 (dk (by kernel_rfl)))
     generalize xs 1 = x1 at h1 HQ ⊢; subst h1
     go_wp2_with (go_at_call 135; refine (wbytes_ok p _ (by omega)).mono ?_; rintro e w1 ⟨A1, c1, rfl, ho, hx⟩)
     exact HQ.out _ _ hx ⟨A1, c1, rfl, ho.reads bE⟩
    ·refine sop rfl fun xs W HW hsW HD Q' HQ => ?_; simp only [fillAt, dstOf, lc0, lcs, obs, Act.put, lsa, lsz, lss, nz, Nat.reduceAdd] at HQ ⊢
     obtain ⟨A1, c1, h2, hr⟩ : (freshB (Wire.encS (bts p))).S (xs 2) W := (HD.out 2 (dk (by kernel_rfl)))
     have hpos : 0 < (Wire.encS (bts p)).length := by have := Wire.enc_pos (p.size : Int); rw [encS_eq, List.length_append]; omega
     have hcv := conv_bytes c1 hr hpos
     have HR3 := lh hr
     clear hr
     generalize xs 2 = x2 at h2 HQ ⊢; subst h2
     generalize Wire.encS (bts p) = lb at *
     go_wp2
     exact HQ.out _ _ (eR _) rfl
    ·refine sop rfl fun xs W HW hsW HD Q' HQ => ?_; simp only [fillAt, dstOf, lc0, lcs, obs, Act.put, lsa, lsz, lss, nz, Nat.reduceAdd] at HQ ⊢
     have h0 : xs 0 = .agg (stC s blk M.length) := (HD.out 0 (dk (by kernel_rfl)))
     have h3 : xs 3 = .string (strOfNums (Wire.encS (bts p))) := (HD.out 3 (dk (by kernel_rfl)))
     have HE : Hid (M ++ bts (strOfNums (Wire.encS (bts p))) = M ++ Wire.encS (bts p)) := lh (by rw [bts_nums HBy.out])
     have hsz2 : (strOfNums (Wire.encS (bts p))).size ≤ p.size + 10 := by rw [strOfNums_size]; exact hel
     generalize xs 0 = x0 at h0 HQ ⊢; subst h0
     generalize xs 3 = x3 at h3 HQ ⊢; subst h3
     generalize strOfNums (Wire.encS (bts p)) = r at *
     go_wp2_with (go_at_call 194; refine (add_ok s blk M r _ HH.out HB.out ((HK.out.ext HX.out).ext HW.out) (by omega)).mono ?_; rintro e w1 h1; obtain ⟨v, rfl, hx, hv⟩ := h1.v; clear h1)
     rw [HE.out] at hv
     exact HQ.out _ _ hx hv
    ·intro xs W hW hS
     obtain ⟨s2, blk2, hh, hb, h4⟩ : StreamV (M ++ Wire.encS (bts p)) (xs 4) := hS 4 (by omega)
     simp only [fillAt, dstOf, lc0, lcs, obs, Act.put, lsa, lsz, lss, nz, Nat.reduceAdd, List.drop_succ_cons, List.drop_zero]
     generalize xs 4 = x4 at h4 ⊢; subst h4
     rw [← HI.out] at hh ⊢
     have hl2 := hh.len
     have hft := fits_st s2 blk2 ((inputS tag (l.take (k + 1))).length : Nat) hl2
     have hrm : roomOf W b 0 73 = true := by rw [(H1.out.ext hW).room, stC_size hl64]; rfl
     have HW := lh hW
     have HH2 := lh hh
     have HB2 := lh hb
     clear hW hS hh hb
     generalize hM2 : inputS tag (l.take (k + 1)) = M2 at *
     have HM2 := lh hM2
     clear hM2
     go_wp2
     go_roundw
     case rel => exact ⟨k + 1, by omega, by go_num, s2, blk2, by rw [HM2.out]; exact HH2.out, HB2.out, (HX.out.trans HW.out).setCells (by omega) _ _, (H0.out.ext HW.out).others (by omega) _ _, by rw [HM2.out]; exact (H1.out.ext HW.out).store (by rw [stC_size hl2, stC_size hl64])⟩
     case measure => simp [intOf]; omega
   ·have e : k = l.length := by omega
    subst e
    rw [List.take_length] at HH H1
    have hml := inputS_len tag l
    have HD : Hid ((Sha.sha (inputS tag l)).take 16 = Wire.digest tag (l.map bts)) := lh rfl
    have hrow : rowOf wr b 0 73 = some (stC s blk (inputS tag l).length) := H1.out.all (stC_size hl64).symm (by omega)
    have hbl := H1.out.lt
    have hwl := HX.out.size
    generalize inputS tag l = M at *
    have hsl := Sha.sha_length M
    have hf32 : fitsRow 32 (cells8 (Sha.sha M)) = true := fits8 hsl
    have hs16 := cells8_take16 (Sha.sha M) (n := 16) (by omega) (by omega)
    rw [HD.out] at hs16
    have hd16 : (Wire.digest tag (l.map bts)).length = 16 := by rw [← HD.out, List.length_take]; omega
    have hfd : fitsRow 16 (cells8 (Wire.digest tag (l.map bts))) = true := fits8 hd16
    have hrd : roomOf wr w.heap.size 0 16 = true := by rw [H0.out.room]; rfl
    generalize hDD : Wire.digest tag (l.map bts) = D at *
    have HDD := lh hDD
    clear hDD
    go_upto_region 8 with (go_at_call 195; refine (ssum_ok s blk M _ HH.out HB.out (HK.out.ext HX.out) (by omega)).mono ?_; rintro e w' ⟨rfl, hxl⟩; obtain ⟨xl, rfl⟩ := hxl.asLater; clear hxl)
    refine wp_world (fun W => Ext w W ∧ RowAt W w.heap.size (cells8 (zeros32 16)) ∧ RowAt W (wr.heap.size + xl.n) (cells8 (Sha.sha M)))
     ⟨(by (with_reducible repeat first|exact HX.out|exact eR _|apply eD|apply eN|apply eA|apply eO|apply eS|apply eC);all_goals first|omega|simp <;> omega), (by (repeat (first | with_reducible exact H0.out | with_reducible refine RowAt.drew ?_ | with_reducible refine RowAt.later ?_ _ | with_reducible exact RowAt.newAt (by first | rfl | omega | (simp [later_size, setCells_size]; done) | (simp [later_size, setCells_size]; omega)) | with_reducible refine RowAt.alloc ?_ _ | with_reducible apply RowAt.store | with_reducible refine RowAt.others ?_ ?_ _ _ | with_reducible refine RowAt.other ?_ ?_ _)); all_goals first | omega | (simp; done) | (simp; omega) | (simp [go_sem]; done)), (RowAt.newAt (by rw [later_size])).store (by rw [cells8_size, cells8_size, hsl, zeros32_length])⟩ ?_
    rintro W ⟨hx, h0, h1⟩
    have hr16 : rowOf W (wr.heap.size + xl.n) 0 16 = some (cells8 D) := by rw [h1.row, if_neg (by omega), hs16]
    have hm16 : roomOf W w.heap.size 0 16 = true := by rw [h0.room]; rfl
    have rr := lh (h0.stored (n := 16) (ds := cells8 D) (by rw [cells8_size, cells8_size, hd16, zeros32_length]) (by rw [cells8_size, hd16]) (by omega))
    have HX2 := lh hx
    have hl0 := h0.lt
    have hl1 := h1.lt
    clear hx h0 h1 hs16 hf32 hrow hrd
    go_wp2
    refine post_row dig_ty Tryz.results159 rfl rfl rr.out ⟨by rw [HDD.out], (by (with_reducible repeat first|exact HX2.out|exact eR _|apply eD|apply eN|apply eA|apply eO|apply eS|apply eC);all_goals first|omega|simp <;> omega)⟩
end Go.Proofs.YtmgekdggahoboaaGreatDoor

namespace Go.Proofs.YtmgekdggahoboaaGreatDoor
open Go.RowKit
open Go.Proofs
theorem odigest_ok (s : ByteArray) (w : World) (hk : Konst 4 w) (hl : s.size ≤ 140737488351200) :
  Calls Tryz.prog 120 #[.string s] w fun e w' => e = .returned (.agg (cells8 (Wire.digest 34 [bts s]))) ∧ Ext w w' := by
 have HK := lh hk
 have hd16 : (Wire.digest 34 [bts s]).length = 16 := by rw [Wire.digest, List.length_take, Sha.sha_length]; omega
 have HD : Hid (Wire.digest 34 ([s].map bts) = Wire.digest 34 [bts s]) := lh rfl
 have hfd : fitsRow 16 (cells8 (Wire.digest 34 [bts s])) = true := fits8 hd16
 clear hk
 go_enter Tryz.func120, Tryz.ntmps120
 go_wp2_with (go_at_call 159; refine (of_ok 34 (some ⟨w.heap.size + 1, 0, none⟩) 1 [s] _ ((HK.out.alloc _).alloc _) ((Owns.fresh (base := 0) sE (by simp) (by omega) rfl rfl (by simp)).reads sE) (by simp [lens]; omega)).mono ?_; rw [HD.out]; rintro e w' ⟨rfl, hxl⟩; obtain ⟨xl, rfl⟩ := hxl.asLater; clear hxl)
 generalize hDD : Wire.digest 34 [bts s] = D at *
 have rr : rowOf ((later ((w.alloc (.cells (cells8 (zeros32 16)) 43)).alloc (.cells #[.string s] 9)) xl).setCells w.heap.size 0 (cells8 D).toList) w.heap.size 0 16 = some (cells8 D) :=
  RowAt.stored (cs := cells8 (zeros32 16)) ((by (repeat (first | with_reducible exact rfl | with_reducible refine RowAt.drew ?_ | with_reducible refine RowAt.later ?_ _ | with_reducible exact RowAt.newAt (by first | rfl | omega | (simp [later_size, setCells_size]; done) | (simp [later_size, setCells_size]; omega)) | with_reducible refine RowAt.alloc ?_ _ | with_reducible apply RowAt.store | with_reducible refine RowAt.others ?_ ?_ _ _ | with_reducible refine RowAt.other ?_ ?_ _)); all_goals first | omega | (simp; done) | (simp; omega) | (simp [go_sem]; done))) (by rw [cells8_size, cells8_size, hd16, zeros32_length]) (by rw [cells8_size, hd16]) (by omega)
 refine post_row dig_ty Tryz.results120 rfl rfl rr ⟨rfl, (by (with_reducible repeat first|exact eR _|apply eD|apply eN|apply eA|apply eO|apply eS|apply eC);all_goals first|omega|simp <;> omega)⟩
theorem rotr_any (x k : Int) (h : 0 < k ∧ k < 32) (w : World) : Calls Tryz.prog 254 #[.int .u32 x, .int .i64 k] w fun e w' => e = .returned (.int .u32 (Sha.rotr x k.toNat)) ∧ Ext w w' := by
 obtain ⟨n, rfl⟩ := Int.eq_ofNat_of_zero_le (show 0 ≤ k by omega)
 exact rotr_ok x n (by omega) w
theorem join_all' (a b c d : Int) (ha : 0 ≤ a ∧ a < 256) (hb : 0 ≤ b ∧ b < 256) (hc : 0 ≤ c ∧ c < 256) (hd : 0 ≤ d ∧ d < 256) :
  bits .or .u32 (bits .or .u32 (bits .or .u32 (a * 16777216) (b * 65536)) (c * 256)) d = Sha.be4 a b c d := by
 have := Sha.join_all a b c d ha hb hc hd
 rw [Int.emod_eq_of_lt (by omega) (by omega), Int.emod_eq_of_lt (by omega) (by omega), Int.emod_eq_of_lt (by omega) (by omega)] at this
 exact this
theorem words_ok (bs : List Int) (b off c : Nat) (w : World) (hcap : 64 ≤ c) (hb : b < w.heap.size) (hby : ∀ i, i < 64 → 0 ≤ bs.getD i 0 ∧ bs.getD i 0 < 256) (hc : ∀ i, i < 64 → w.cell? ⟨b, off + i, none⟩ = some (.int .u8 (bs.getD i 0))) :
  Calls Tryz.prog 253 #[.slice (some ⟨b, off, none⟩) 64 c] w fun e w' => e = .returned (.agg (cells32 (Sha.sched bs))) ∧ Ext w w' := by
 have HC := lh hc
 have HB := lh hby
 clear hc hby
 go_enter Tryz.func253, Tryz.ntmps253
 go_wp2
 go_loopw [4] (fun i wr => ∃ t : Nat, t ≤ 16 ∧ i = .int .i64 t ∧ Ext w wr ∧ RowAt wr w.heap.size (cells32 (zeros32 64)) ∧ RowAt wr (w.heap.size + 1) (cells32 (Sha.part bs t))) (fun i _ => 16 - (intOf i).toNat)
 case atStart => exact ⟨0, by omega, rfl, (by (with_reducible repeat first|exact eR _|apply eD|apply eN|apply eA|apply eO|apply eS|apply eC);all_goals first|omega|simp <;> omega), (by (repeat (first | with_reducible exact rfl | with_reducible refine RowAt.drew ?_ | with_reducible refine RowAt.later ?_ _ | with_reducible exact RowAt.newAt (by first | rfl | omega | (simp [later_size, setCells_size]; done) | (simp [later_size, setCells_size]; omega)) | with_reducible refine RowAt.alloc ?_ _ | with_reducible apply RowAt.store | with_reducible refine RowAt.others ?_ ?_ _ _ | with_reducible refine RowAt.other ?_ ?_ _)); all_goals first | omega | (simp; done) | (simp; omega) | (simp [go_sem]; done)), (show RowAt _ _ (cells32 (zeros32 64)) from (by (repeat (first | with_reducible exact rfl | with_reducible refine RowAt.drew ?_ | with_reducible refine RowAt.later ?_ _ | with_reducible exact RowAt.newAt (by first | rfl | omega | (simp [later_size, setCells_size]; done) | (simp [later_size, setCells_size]; omega)) | with_reducible refine RowAt.alloc ?_ _ | with_reducible apply RowAt.store | with_reducible refine RowAt.others ?_ ?_ _ _ | with_reducible refine RowAt.other ?_ ?_ _)); all_goals first | omega | (simp; done) | (simp; omega) | (simp [go_sem]; done)))⟩
 case round =>
  obtain ⟨t, ht, rfl, hx, h2, h3⟩ := hrel
  have HX := lh hx
  have H2 := lh h2
  have H3 := lh h3
  have hl3 := h3.lt
  by_cases h16 : t < 16
  ·have c0 : wr.cell? ⟨b, off + 4 * t, none⟩ = some (.int .u8 (bs.getD (4 * t) 0)) := (hx.cell hb).trans (HC.out _ (by omega))
   have c1 : wr.cell? ⟨b, off + (4 * t + 1), none⟩ = some (.int .u8 (bs.getD (4 * t + 1) 0)) := (hx.cell hb).trans (HC.out _ (by omega))
   have c2 : wr.cell? ⟨b, off + (4 * t + 2), none⟩ = some (.int .u8 (bs.getD (4 * t + 2) 0)) := (hx.cell hb).trans (HC.out _ (by omega))
   have c3 : wr.cell? ⟨b, off + (4 * t + 3), none⟩ = some (.int .u8 (bs.getD (4 * t + 3) 0)) := (hx.cell hb).trans (HC.out _ (by omega))
   have b0 := HB.out (4 * t) (by omega)
   have b1 := HB.out (4 * t + 1) (by omega)
   have b2 := HB.out (4 * t + 2) (by omega)
   have b3 := HB.out (4 * t + 3) (by omega)
   have HJ := lh (show Sha.word bs t = Sha.be4 (bs.getD (4 * t) 0) (bs.getD (4 * t + 1) 0) (bs.getD (4 * t + 2) 0) (bs.getD (4 * t + 3) 0) from rfl)
   have HP := lh (Sha.part_set bs (by omega) (Sha.upTo_low bs h16))
   have hft : ∀ i, wr.frozen? ⟨w.heap.size + 1, i, none⟩ = false := h3.free
   have hct : wr.cell? ⟨w.heap.size + 1, t, none⟩ = some (.int .u32 ((Sha.part bs t).getD t 0)) := by rw [h3.cell, cells32_get, Sha.part_length bs (by omega), if_pos (by omega)]
   generalize bs.getD (4 * t) 0 = x0 at *
   generalize bs.getD (4 * t + 1) 0 = x1 at *
   generalize bs.getD (4 * t + 2) 0 = x2 at *
   generalize bs.getD (4 * t + 3) 0 = x3 at *
   have hbl : b < wr.heap.size := by have := hx.size; omega
   clear hx h2 h3
   go_wp2
   refine wp_region_later_tail 35 (by kernel_rfl) (by kernel_rfl) ?_
   simp only [List.take_succ_cons, List.take_zero, List.drop_succ_cons, List.drop_zero]
   repeat (first | go_big_quiet_step (fail) | quiet_step (fail))
   refine wpQuiet_nil ?_
   rintro _ ⟨xq, rfl⟩
   go_wp2
   have HJ2 := join_all' x0 x1 x2 x3 b0 b1 b2 b3
   go_roundw
   case rel => exact ⟨t + 1, by omega, by go_num, (by (with_reducible repeat first|exact HX.out|exact eR _|apply eD|apply eN|apply eA|apply eO|apply eS|apply eC);all_goals first|omega|simp <;> omega), (by (repeat (first | with_reducible exact H2.out | with_reducible refine RowAt.drew ?_ | with_reducible refine RowAt.later ?_ _ | with_reducible exact RowAt.newAt (by first | rfl | omega | (simp [later_size, setCells_size]; done) | (simp [later_size, setCells_size]; omega)) | with_reducible refine RowAt.alloc ?_ _ | with_reducible apply RowAt.store | with_reducible refine RowAt.others ?_ ?_ _ _ | with_reducible refine RowAt.other ?_ ?_ _)); all_goals first | omega | (simp; done) | (simp; omega) | (simp [go_sem]; done)), (H3.out.later _).set32 (by rw [HJ2, ← HJ.out]; exact HP.out)⟩
   case measure => simp [intOf]; omega
  ·have e16 : t = 16 := by omega
   subst e16
   clear hx h2 h3
   go_wp2
   go_loopw [5] (fun i wr => ∃ t : Nat, 16 ≤ t ∧ t ≤ 64 ∧ i = .int .i64 t ∧ Ext w wr ∧ RowAt wr w.heap.size (cells32 (zeros32 64)) ∧ RowAt wr (w.heap.size + 1) (cells32 (Sha.part bs t))) (fun i _ => 64 - (intOf i).toNat)
   case atStart => exact ⟨16, by omega, by omega, rfl, HX.out, H2.out, H3.out⟩
   case round =>
    obtain ⟨t, ht0, ht, rfl, hx, h2, h3⟩ := hrel
    have HX := lh hx
    have H2 := lh h2
    have H3 := lh h3
    have hl3 := h3.lt
    by_cases h64 : t < 64
    ·have hc3 : ∀ i, i < 64 → wr.cell? ⟨w.heap.size + 1, i, none⟩ = some (.int .u32 ((Sha.part bs t).getD i 0)) := fun i hi => by rw [h3.cell, cells32_get, Sha.part_length bs ht, if_pos hi]
     have hf3 : ∀ i, wr.frozen? ⟨w.heap.size + 1, i, none⟩ = false := h3.free
     have k15 := hc3 (t - 15) (by omega)
     have k2 := hc3 (t - 2) (by omega)
     have k16 := hc3 (t - 16) (by omega)
     have k7 := hc3 (t - 7) (by omega)
     have k0 := hc3 t h64
     have HP := lh (Sha.part_set bs h64 (Sha.upTo_high bs ht0))
     rw [Sha.next_part bs ht0] at HP
     generalize (Sha.part bs t).getD (t - 15) 0 = x15 at *
     generalize (Sha.part bs t).getD (t - 2) 0 = x2 at *
     generalize (Sha.part bs t).getD (t - 16) 0 = x16 at *
     generalize (Sha.part bs t).getD (t - 7) 0 = x7 at *
     clear hc3 hx h2 h3
     go_wp2
     refine wp_region_later (by kernel_rfl) (by kernel_rfl) ?_
     repeat (first | go_big_quiet_step ((go_at_call 254; exact quietE (rotr_any _ _ (by omega) _))) | quiet_step ((go_at_call 254; exact quietE (rotr_any _ _ (by omega) _))))
     refine wpQuiet_nil ?_
     rintro _ ⟨xq, rfl⟩
     go_wp2
     refine wp_region_later (by kernel_rfl) (by kernel_rfl) ?_
     repeat (first | go_big_quiet_step ((go_at_call 254; exact quietE (rotr_any _ _ (by omega) _))) | quiet_step ((go_at_call 254; exact quietE (rotr_any _ _ (by omega) _))))
     refine wpQuiet_nil ?_
     rintro _ ⟨xq, rfl⟩
     go_wp2
     refine wp_region_later_tail 15 (by kernel_rfl) (by kernel_rfl) ?_
     simp only [List.take_succ_cons, List.take_zero, List.drop_succ_cons, List.drop_zero]
     repeat (first | go_big_quiet_step (fail) | quiet_step (fail))
     refine wpQuiet_nil ?_
     rintro _ ⟨xq, rfl⟩
     go_wp2
     go_roundw
     case rel =>
      refine ⟨t + 1, by omega, by omega, by go_num, (by (with_reducible repeat first|exact HX.out|exact eR _|apply eD|apply eN|apply eA|apply eO|apply eS|apply eC);all_goals first|omega|simp <;> omega), (by (repeat (first | with_reducible exact H2.out | with_reducible refine RowAt.drew ?_ | with_reducible refine RowAt.later ?_ _ | with_reducible exact RowAt.newAt (by first | rfl | omega | (simp [later_size, setCells_size]; done) | (simp [later_size, setCells_size]; omega)) | with_reducible refine RowAt.alloc ?_ _ | with_reducible apply RowAt.store | with_reducible refine RowAt.others ?_ ?_ _ _ | with_reducible refine RowAt.other ?_ ?_ _)); all_goals first | omega | (simp; done) | (simp; omega) | (simp [go_sem]; done)), (H3.out.later _).set32 ?_⟩
      rw [← HP.out]
      simp only [Sha.add, Sha.sm0, Sha.sm1, Sha.xor]
      congr 1
      omega
     case measure => simp [intOf]; omega
    ·have e64 : t = 64 := by omega
     subst e64
     rw [Sha.part_all] at h3
     have r3 : rowOf wr (w.heap.size + 1) 0 64 = some (cells32 (Sha.sched bs)) := h3.all (by rw [cells32_size, Sha.sched_length]) (by omega)
     have r2 : roomOf wr w.heap.size 0 64 = true := by rw [h2.room]; simp [cells32_size, zeros32_length]
     have f2 : fitsRow 64 (cells32 (Sha.sched bs)) = true := fits32 (Sha.sched_length bs)
     have hl2 := h2.lt
     have rr := lh (h2.stored (n := 64) (ds := cells32 (Sha.sched bs)) (by rw [cells32_size, cells32_size, Sha.sched_length, zeros32_length]) (by rw [cells32_size, Sha.sched_length]) (by omega))
     clear hx h2 h3
     go_wp2
     exact post_row w64_ty Tryz.results253 rfl rfl rr.out ⟨rfl, (HX.out).setCells (Nat.le_refl _) _ _⟩
def OwnRel (w : World) (base : Nat) (l0 : List Int) (wr : World) (v : Value) : Prop :=
 ∃ (A : Option Addr) (c : Nat) (l : List Int), Hid (l = l0) ∧ v = .slice A l.length c ∧ OwnsB base wr A c l ∧ Ext w wr
theorem padded_ok (m : List Int) (A : Option Addr) (c : Nat) (w : World) (hr : ReadsB w w.heap.size A m) (hA : A = none → c = 0) (hlen : m.length < 140737488355000) :
  Calls Tryz.prog 252 #[.slice A m.length c] w (BytesIs (Sha.padded m) w) := by
 have HR := lh hr
 have HA := lh hA
 clear hr hA
 go_enter Tryz.func252, Tryz.ntmps252
 go_wp2_with (at_builtin; first
  | (refine app_reads bT bE rfl (.tmp 6) (.tmp 7) rfl w.heap.size (some ⟨w.heap.size, 0, none⟩) 0 [] rfl (Owns.fresh bE rfl (Nat.le_refl _) rfl rfl (by omega)) w.heap.size A c m rfl (HR.out.ext ((eR _).alloc _) (Nat.le_refl _)) HA.out (by simp; omega) (by simp; omega) (by simp) ?_; intro A1 c1 l1 w1 HL1 HO1 hB1 hl1 hl2 _; have HO1' := lh HO1; have HB1 := lh hB1; have hs1 := hB1.size; clear HO1 hB1)
  | (refine app_from bT bE rfl (.tmp 9) (.tmp 10) rfl w.heap.size _ _ l1 rfl (HO1'.out.alloc _) _ 1 _ [128] rfl rfl (new_cells _ _ _) (by simp at hl1; omega) (by simp at hl1; omega) (by simp at hs1 ⊢; omega) ?_; intro A2 c2 l2 w2 HL2 HO2 hB2 hl3 hl4 _; have HO2' := lh HO2; have HB2 := lh hB2; have hs2 := hB2.size; clear HO2 hB2))
 have HX2 : Hid (Ext w w2) := lh ((((((Ext.refl w).alloc _).grown HB1.out (Nat.le_refl _)).alloc _).grown HB2.out (Nat.le_refl _)))
 have HL : Hid (l2 = m ++ 128 :: List.replicate 0 0) := lh (by rw [HL2.out, HL1.out]; simp)
 clear HL1 HL2 hl1 hl2 hl3 hl4 hs1 hs2 HO1' HB1 HB2
 have hz : zn m.length < 64 := by unfold zn; omega
 go_loopw [3] (fun v wr => ∃ k : Nat, k ≤ zn m.length ∧ OwnRel w w.heap.size (m ++ 128 :: List.replicate k 0) wr v) (fun v _ => m.length + 65 - lenOf v)
 case atStart => exact ⟨0, Nat.zero_le _, A2, c2, l2, HL, rfl, HO2'.out, HX2.out⟩
 case round =>
  obtain ⟨k, hk, A3, c3, l3, HL3, rfl, ho, hx⟩ := hrel
  have hll : l3.length = m.length + 1 + k := by rw [HL3.out]; simp; omega
  have hll1 : l3.length ≤ m.length + 1 + k := by omega
  have hll2 : m.length + 1 + k ≤ l3.length := by omega
  have HO := lh ho
  have HX := lh hx
  have hsz := hx.size
  clear ho hx hll
  by_cases hkz : k < zn m.length
  ·have ht2 : ((l3.length : Int) % 64 != 56) = true := by rw [bne_iff_ne]; unfold zn at hkz; omega
   go_wp2_with (at_builtin; refine app_from bT bE rfl _ _ rfl w.heap.size _ _ l3 rfl (HO.out.alloc _) _ 1 _ [0] rfl rfl (new_cells _ _ _) (by omega) (by omega) (by simp; omega) ?_; intro A4 c4 l4 w4 HL4 HO4 hB hl1 hl2 _; have HO4' := lh HO4; have HB4 := lh hB; clear HO4 hB)
   go_roundw
   case rel => exact ⟨k + 1, by omega, A4, c4, l4, lh (by rw [HL4.out, HL3.out, List.replicate_succ']; simp), rfl, HO4'.out, (HX.out.alloc _).grown HB4.out (Nat.le_refl _)⟩
   case measure => simp [lenOf]; omega
  ·have ht : ((l3.length : Int) % 64 != 56) = false := by rw [bne_eq_false_iff_eq]; unfold zn at hkz hk; omega
   have HL5 : Hid (l3 = m ++ 128 :: List.replicate (zn m.length) 0) := lh (by rw [HL3.out]; congr 3; omega)
   clear HL3
   go_wp2
   clear ht hll1 hll2 hkz hk
   go_loopw [3, 5] (fun v j wr => ∃ i : Nat, i ≤ 8 ∧ j = .int .i64 i ∧ OwnRel w w.heap.size (m ++ (128 :: List.replicate (zn m.length) 0 ++ (Sha.be8 (8 * m.length)).take i)) wr v) (fun _ j _ => 8 - (intOf j).toNat)
   case atStart => exact ⟨0, Nat.zero_le _, rfl, A3, c3, l3, lh (by rw [HL5.out]; simp), rfl, HO.out, HX.out⟩
   case round =>
    obtain ⟨i, hi, rfl, A4, c4, l4, HL4, rfl, ho, hx⟩ := hrel
    have hll : l4.length ≤ m.length + 72 := by rw [HL4.out]; simp; omega
    have HO := lh ho
    have HX := lh hx
    have hsz := hx.size
    clear ho hx
    by_cases hi8 : i < 8
    ·have HT := lh (be8_snoc m.length hi8)
     obtain ⟨b, hbv⟩ : ∃ b : Int, 8 * (m.length : Int) / 2 ^ (56 - 8 * i) % 256 = b := ⟨_, rfl⟩
     rw [hbv] at HT
     go_wp2_with (at_builtin; refine app_from bT bE rfl _ _ rfl w.heap.size _ _ l4 rfl (HO.out.alloc _) _ 1 _ [b] rfl rfl (new_cells _ _ _) (by omega) (by omega) (by simp; omega) ?_; intro A6 c6 l6 w6 HL6 HO6 hB hl1 hl2 _; have HO6' := lh HO6; have HB6 := lh hB; clear HO6 hB)
     go_roundw
     case rel => exact ⟨i + 1, by omega, by go_num, A6, c6, l6, lh (by rw [HL6.out, HL4.out, HT.out]; simp), rfl, HO6'.out, (HX.out.alloc _).grown HB6.out (Nat.le_refl _)⟩
     case measure => simp [intOf]; omega
    ·have e : l4 = Sha.padded m := by rw [HL4.out, Sha.padded, pad_eq, List.take_of_length_le (by simp [Sha.be8]; omega)]
     have HE := lh e
     clear e
     go_wp2
     go_ret
     have e := HE.out
     subst e
     exact ⟨A4, c4, rfl, HO.out, HX.out⟩
def addUp (s v : Sha.S8) (i : Nat) : List Int := (s8l (Sha.addS s v)).take i ++ (s8l s).drop i
theorem addUp_length (s v : Sha.S8) (i : Nat) (h : i ≤ 8) : (addUp s v i).length = 8 := by
 simp [addUp, s8l_length]
 omega
theorem addUp_step (s v : Sha.S8) : ∀ i, i < 8 → (addUp s v i).set i (((addUp s v i).getD i 0 + (s8l v).getD i 0) % 4294967296) = addUp s v (i + 1)
 | 0, _ => rfl
 | 1, _ => rfl
 | 2, _ => rfl
 | 3, _ => rfl
 | 4, _ => rfl
 | 5, _ => rfl
 | 6, _ => rfl
 | 7, _ => rfl
 | n + 8, h => by omega
theorem addUp_all (s v : Sha.S8) : addUp s v 8 = s8l (Sha.addS s v) := rfl
theorem padded_byte (m : List Int) (h : ∀ x ∈ m, 0 ≤ x ∧ x < 256) : ∀ x ∈ Sha.padded m, 0 ≤ x ∧ x < 256 := by
 intro x hx
 rcases List.mem_append.1 hx with hx | hx
 ·exact h x hx
 ·exact pad_byte _ x hx
theorem drop_getD (l : List Int) (a n i : Nat) (h : i < n) : ((l.drop a).take n).getD i 0 = l.getD (a + i) 0 := by
 simp [List.getD_eq_getElem?_getD, List.getElem?_take, h, List.getElem?_drop]
theorem s0_lay {w : World} {b : Nat} {cs : Array Value} (h : RowAt w b cs) (hs : cs.size = 8) : RowAt (w.setCells b 0 [Value.int .u32 1779033703, Value.int .u32 3144134277, Value.int .u32 1013904242, Value.int .u32 2773480762, Value.int .u32 1359893119, Value.int .u32 2600822924, Value.int .u32 528734635, Value.int .u32 1541459225]) b (cells32 (s8l Sha.S0)) := by
 have e : [Value.int .u32 1779033703, Value.int .u32 3144134277, Value.int .u32 1013904242, Value.int .u32 2773480762, Value.int .u32 1359893119, Value.int .u32 2600822924, Value.int .u32 528734635, Value.int .u32 1541459225].toArray = cells32 (s8l Sha.S0) := by
  simp only [cells32, s8l, Sha.S0, List.map_cons, List.map_nil]
 exact h.lay (by rw [hs]; rfl) e
theorem rnd_cells (r : Sha.S8) (kt wt A D : Int) (hA : A = Sha.add (Sha.rx kt wt r) (Sha.ry r)) (hD : D = Sha.add r.d (Sha.rx kt wt r)) : [Value.int .u32 A, .int .u32 r.a, .int .u32 r.b, .int .u32 r.c, .int .u32 D, .int .u32 r.e, .int .u32 r.f, .int .u32 r.g].toArray = cells32 (s8l (Sha.rnd kt wt r)) := by
 subst hA hD
 simp only [cells32, s8l, Sha.rnd, List.map_cons, List.map_nil]
theorem Below.setCells {B : Nat} {a w : World} (h : Below B a w) {b : Nat} (hb : B ≤ b) (o : Nat) (vs : List Value) : Below B a (w.setCells b o vs) := by
 induction vs generalizing o w with
 | nil => exact h
 | cons v r ih => exact ih (Below.setCell h (p := ⟨b, o, none⟩) hb v) (o + 1)
theorem Reads.other {α : Type} {size : Nat} {enc : α → List Value} {w : World} {B b off : Nat} {l : List α} (h : Reads size enc w B (some ⟨b, off, none⟩) l) {p : Addr} (hp : p.block ≠ b) (v : Value) : Reads size enc (w.setCell p v) B (some ⟨b, off, none⟩) l := by
 intro h0
 obtain ⟨b', off', e, h2, h3⟩ := h h0
 injection e with e
 injection e with e1 e2
 subst e1 e2
 refine ⟨b, off, rfl, h2, fun i hi j u hu => ?_⟩
 rw [World.cell?_setCell_other w _ _ _ (fun e => hp (by rw [e]))]
 exact h3 i hi j u hu
def RKonst (w : World) : Prop := Konst 1 w
def SumRel (w : World) (P : List Int) (B : Nat) (A : Option Addr) (j : Nat) (wr : World) : Prop :=
 Ext w wr ∧ RowAt wr w.heap.size (cells8 (zeros32 32)) ∧ RowAt wr (w.heap.size + 1) (cells32 (s8l (Sha.chew Sha.S0 P j))) ∧ ReadsB wr B A P ∧ B ≤ wr.heap.size
theorem rsum_ok (m : List Int) (A : Option Addr) (c : Nat) (w : World) (hk : RKonst w) (hr : ReadsB w w.heap.size A m) (hA : A = none → c = 0) (hlen : m.length < 140737488355000) (hm : ∀ x ∈ m, 0 ≤ x ∧ x < 256) :
  Calls Tryz.prog 215 #[.slice A m.length c] w fun e w' => e = .returned (.agg (cells8 (Sha.sha m))) ∧ Ext w w' := by
 have HK := lh hk
 have HR := lh hr
 have HA := lh hA
 have HM := lh hm
 have hPl : (Sha.padded m).length ≤ m.length + 72 := by simp [Sha.padded, Sha.pad, Sha.be8]; omega
 have hPl2 : m.length + 9 ≤ (Sha.padded m).length := by simp [Sha.padded, Sha.pad, Sha.be8]
 have hPm := Sha.padded_length m
 have HBy := lh (padded_byte m hm)
 have HS : Hid (Sha.out (Sha.chew Sha.S0 (Sha.padded m) ((Sha.padded m).length / 64)) = Sha.sha m) := lh rfl
 clear hk hr hA hm
 go_enter Tryz.func215, Tryz.ntmps215
 go_wp2_with (go_at_call 252; refine (padded_ok m A c _ ((HR.out.ext (by (with_reducible repeat first|exact eR _|apply eD|apply eN|apply eA|apply eO|apply eS|apply eC);all_goals first|omega|simp <;> omega) (Nat.le_refl _)).up (by simp [setCells_size]; omega)) HA.out hlen).mono ?_; rintro e w1 ⟨A1, c1, rfl, ho, hx⟩; have HO := lh ho; have HX := lh hx; have hsz := hx.size; clear ho hx)
 generalize Sha.padded m = P at *
 have hcap : P.length ≤ c1 := by
  rcases HO.out.cases with ⟨_, _, e⟩ | ⟨g, cur, _, _, _, e, _⟩
  ·rw [e] at hPl2; simp at hPl2
  ·exact e
 have hcm : c1 ≤ 9223372036854775807 := by
  rcases HO.out.cases with ⟨_, e, _⟩ | ⟨g, cur, _, _, _, _, e, _⟩
  ·omega
  ·unfold maxLen at e; omega
 have HRd := lh (HO.out.reads bE)
 have HA1 : Hid (∀ x, A1 = some x → w.heap.size + 2 ≤ x.block) := lh (fun x e => by have := (HO.out.lt x e).1; simp [setCells_size] at this; omega)
 have HX0 : Hid (Ext w w1) := lh (Ext.trans ((((Ext.refl w).alloc _).alloc _).setCells (by omega) _ _) HX.out)
 have H0 : Hid (RowAt w1 w.heap.size (cells8 (zeros32 32))) := lh (RowAt.ext (((RowAt.new w _ _).alloc _).others (by omega) _ _) HX.out)
 have H1 : Hid (RowAt w1 (w.heap.size + 1) (cells32 (s8l Sha.S0))) := lh ((s0_lay (RowAt.newAt (cs := cells32 (zeros32 8)) (by rw [World.size_alloc])) rfl).ext HX.out)
 clear HX HO hsz HR HM
 go_loopw [5] (fun i wr => ∃ j a : Nat, Hid (a = 64 * j) ∧ a ≤ P.length ∧ i = .int .i64 a ∧ SumRel w P w1.heap.size A1 j wr) (fun i _ => P.length - (intOf i).toNat)
 case atStart => exact ⟨0, 0, lh rfl, Nat.zero_le _, rfl, HX0.out, H0.out, H1.out, HRd.out, Nat.le_refl _⟩
 case round =>
  obtain ⟨j, a, HJ, hj, rfl, hx, h0, h1, hr, hB⟩ := hrel
  have HX := lh hx
  have HZ := lh h0
  have HC := lh h1
  have HRw := lh hr
  have hl0 := h0.lt
  have hl1 := h1.lt
  by_cases hlt : a < P.length
  ·have hle : a + 64 ≤ P.length := by have := HJ.out; omega
   obtain ⟨g, off, rfl, hg, hcl⟩ := hr.cell (by omega)
   have hg2 : w.heap.size + 2 ≤ g := HA1.out ⟨g, off, none⟩ rfl
   have HCl := lh hcl
   have hrow : rowOf wr (w.heap.size + 1) 0 8 = some (cells32 (s8l (Sha.chew Sha.S0 P j))) := h1.all (by rw [cells32_size, s8l_length]) (by omega)
   have HN := lh (show Sha.chew Sha.S0 P (j + 1) = Sha.addS (Sha.chew Sha.S0 P j) (Sha.rounds (Sha.sched ((P.drop a).take 64)) (Sha.chew Sha.S0 P j) 64) by rw [Sha.chew, Sha.comp, HJ.out])
   have hok := lh (Sha.chew_ok P j)
   have HBb : Hid (∀ i, i < 64 → 0 ≤ ((P.drop a).take 64).getD i 0 ∧ ((P.drop a).take 64).getD i 0 < 256) := lh (fun i _ => getD_byte (fun x hx => HBy.out x (List.mem_of_mem_drop (List.mem_of_mem_take hx))) i)
   have HCb : Hid (∀ i, i < 64 → wr.cell? ⟨g, off + a + i, none⟩ = some (.int .u8 (((P.drop a).take 64).getD i 0))) := lh (fun i hi => by rw [drop_getD _ _ _ _ hi, Nat.add_assoc]; exact HCl.out _ (by omega))
   generalize (P.drop a).take 64 = bs at *
   generalize Sha.chew Sha.S0 P j = s at *
   have hft : fitsRow 8 (cells32 (s8l s)) = true := fits32 rfl
   have hf64 : fitsRow 64 (cells32 (Sha.sched bs)) = true := fits32 (Sha.sched_length bs)
   clear hx h0 h1 hr hcl
   have hgw : g < wr.heap.size := by omega
   clear hPm
   have HPM := lh hPl2
   clear hPl2 hPl
   go_upto_region 8 with (go_at_call 253; (with_reducible refine (words_ok bs g (off + a) _ _ (by omega) (by omega) HBb.out HCb.out).mono ?_); rintro e w' ⟨rfl, hxl⟩; obtain ⟨xl, rfl⟩ := hxl.asLater; clear hxl)
   have hbw : wr.heap.size ≤ wr.heap.size + xl.n := by omega
   refine wp_world (fun W => Ext w W ∧ RowAt W w.heap.size (cells8 (zeros32 32)) ∧ RowAt W (w.heap.size + 1) (cells32 (s8l s)) ∧ RowAt W (wr.heap.size + xl.n) (cells32 (Sha.sched bs)) ∧ RowAt W (wr.heap.size + xl.n + 1) (cells32 (s8l s)) ∧ ReadsB W w1.heap.size (some ⟨g, off, none⟩) P ∧ w1.heap.size ≤ W.heap.size)
    ⟨(by (with_reducible repeat first|exact HX.out|exact eR _|apply eD|apply eN|apply eA|apply eO|apply eS|apply eC);all_goals first|omega|simp <;> omega), ((((HZ.out.later _).alloc _).others (by omega) _ _).alloc _).others (by omega) _ _, ((((HC.out.later _).alloc _).others (by omega) _ _).alloc _).others (by omega) _ _,
     (((RowAt.newAt (cs := cells32 (zeros32 64)) (by rw [later_size])).store (by rw [cells32_size, cells32_size, Sha.sched_length, zeros32_length])).alloc _).others (by omega) _ _,
     (RowAt.newAt (cs := cells32 (zeros32 8)) (by rw [setCells_size, World.size_alloc, later_size])).store (by rw [cells32_size, cells32_size, s8l_length, zeros32_length]),
     HRw.out.ext (by (with_reducible repeat first|exact eR _|apply eD|apply eN|apply eA|apply eO|apply eS|apply eC);all_goals first|omega|simp <;> omega) hB, by rw [setCells_size, World.size_alloc, setCells_size, World.size_alloc, later_size]; omega⟩ ?_
   rintro W ⟨hx, h0, h1, h2, h3, hr, hW⟩
   generalize wr.heap.size + xl.n = bw at *
   have HXa := lh hx
   have HZa := lh h0
   have HCa := lh h1
   have HWa := lh h2
   have HVa := lh h3
   have HRa := lh hr
   clear hx h0 h1 h2 h3 hr HX HZ HC HRw HCl HBb HCb hrow hft hf64
   go_wp2
   go_loopw [8] (fun i wq => ∃ t : Nat, t ≤ 64 ∧ i = .int .i64 t ∧ Ext w wq ∧ RowAt wq w.heap.size (cells8 (zeros32 32)) ∧ RowAt wq (w.heap.size + 1) (cells32 (s8l s)) ∧ RowAt wq bw (cells32 (Sha.sched bs)) ∧ RowAt wq (bw + 1) (cells32 (s8l (Sha.rounds (Sha.sched bs) s t))) ∧ ReadsB wq w1.heap.size (some ⟨g, off, none⟩) P ∧ w1.heap.size ≤ wq.heap.size) (fun i _ => 64 - (intOf i).toNat)
   case atStart => exact ⟨0, by omega, rfl, HXa.out, HZa.out, HCa.out, HWa.out, HVa.out, HRa.out, hW⟩
   case round =>
    obtain ⟨t, ht, rfl, hx, h0, h1, h2, h3, hr, hWr⟩ := hrel
    have HX := lh hx
    have HZ := lh h0
    have HC := lh h1
    have HWd := lh h2
    have HV := lh h3
    have HRw := lh hr
    clear hx h0 h1 h2 h3 hr
    by_cases h64 : t < 64
    ·go_upto_region 11 with (fail)
     have hx := HX.out
     have h2 := HWd.out
     have h3 := HV.out
     have hR := lh (show Sha.rounds (Sha.sched bs) s (t + 1) = Sha.rnd (Sha.K.getD t 0) ((Sha.sched bs).getD t 0) (Sha.rounds (Sha.sched bs) s t) by rw [Sha.rounds])
     have hcw : wr.cell? ⟨bw, t, none⟩ = some (.int .u32 ((Sha.sched bs).getD t 0)) := by rw [h2.cell, cells32_get, Sha.sched_length, if_pos h64]
     have hck : wr.cell? ⟨1, t, none⟩ = some (.int .u32 (Sha.K.getD t 0)) := by
      have hkk : RowAt wr 1 (cells32 Sha.K) := RowAt.ext HK.out hx
      rw [hkk.cell, cells32_get, K_length, if_pos h64]
     have hgl : 1 < wr.heap.size := (RowAt.ext HK.out hx : RowAt wr 1 (cells32 Sha.K)).lt
     generalize Sha.rounds (Sha.sched bs) s t = r at *
     generalize (Sha.sched bs).getD t 0 = wt at *
     generalize Sha.K.getD t 0 = kt at *
     have v0 : wr.cell? ⟨bw + 1, 0, none⟩ = some (.int .u32 r.a) := h3.cell 0
     have v1 : wr.cell? ⟨bw + 1, 1, none⟩ = some (.int .u32 r.b) := h3.cell 1
     have v2 : wr.cell? ⟨bw + 1, 2, none⟩ = some (.int .u32 r.c) := h3.cell 2
     have v3 : wr.cell? ⟨bw + 1, 3, none⟩ = some (.int .u32 r.d) := h3.cell 3
     have v4 : wr.cell? ⟨bw + 1, 4, none⟩ = some (.int .u32 r.e) := h3.cell 4
     have v5 : wr.cell? ⟨bw + 1, 5, none⟩ = some (.int .u32 r.f) := h3.cell 5
     have v6 : wr.cell? ⟨bw + 1, 6, none⟩ = some (.int .u32 r.g) := h3.cell 6
     have v7 : wr.cell? ⟨bw + 1, 7, none⟩ = some (.int .u32 r.h) := h3.cell 7
     have mv : roomOf wr (bw + 1) 0 8 = true := by rw [h3.room]; rfl
     have lv := h3.lt
     have lw := h2.lt
     clear hx h2 h3
     refine wp_region_later (by kernel_rfl) (by kernel_rfl) ?_
     repeat (first | go_big_quiet_step ((go_at_call 254; exact quietE (rotr_any _ _ (by omega) _))) | quiet_step ((go_at_call 254; exact quietE (rotr_any _ _ (by omega) _))))
     refine wpQuiet_nil ?_
     rintro _ ⟨xq, rfl⟩
     go_wp2
     refine wp_region_later (by kernel_rfl) (by kernel_rfl) ?_
     repeat (first | go_big_quiet_step ((go_at_call 254; exact quietE (rotr_any _ _ (by omega) _))) | quiet_step ((go_at_call 254; exact quietE (rotr_any _ _ (by omega) _))))
     refine wpQuiet_nil ?_
     rintro _ ⟨xq, rfl⟩
     go_wp2
     go_roundw
     case rel =>
      refine ⟨t + 1, by omega, by go_num, (by (with_reducible repeat first|exact HX.out|exact eR _|apply eD|apply eN|apply eA|apply eO|apply eS|apply eC);all_goals first|omega|simp <;> omega), (HZ.out.later _).others (by omega) _ _, (HC.out.later _).others (by omega) _ _, (HWd.out.later _).others (by omega) _ _, ?_, HRw.out.below (Below.setCells (((Ext.refl wr).onto _).below.mono hWr) (by omega) _ _), by rw [setCells_size, later_size]; omega⟩
      rw [hR.out]
      refine RowAt.lay (cs := cells32 (s8l r)) (HV.out.later _) rfl (rnd_cells r kt wt _ _ ?_ ?_)
      ·simp only [Sha.add, Sha.rx, Sha.ry, Sha.ch, Sha.maj, Sha.mix, Sha.xor, Sha.and]
       omega
      ·simp only [Sha.add, Sha.rx, Sha.ry, Sha.ch, Sha.maj, Sha.mix, Sha.xor, Sha.and]
       omega
     case measure => simp [intOf]; omega
    ·have e64 : t = 64 := by omega
     subst e64
     generalize Sha.rounds (Sha.sched bs) s 64 = q at *
     go_wp2
     go_loopw [11] (fun i wq => ∃ k : Nat, k ≤ 8 ∧ i = .int .i64 k ∧ Ext w wq ∧ RowAt wq w.heap.size (cells8 (zeros32 32)) ∧ RowAt wq (w.heap.size + 1) (cells32 (addUp s q k)) ∧ RowAt wq (bw + 1) (cells32 (s8l q)) ∧ ReadsB wq w1.heap.size (some ⟨g, off, none⟩) P ∧ w1.heap.size ≤ wq.heap.size) (fun i _ => 8 - (intOf i).toNat)
     case atStart => exact ⟨0, by omega, rfl, HX.out, HZ.out, HC.out, HV.out, HRw.out, hWr⟩
     case round =>
      obtain ⟨k, hk, rfl, hx, h0, h1, h3, hr, hWq⟩ := hrel
      have HX' := lh hx
      have HZ' := lh h0
      have HC' := lh h1
      have HV' := lh h3
      have HR' := lh hr
      by_cases hk8 : k < 8
      ·have c1 : wr.cell? ⟨w.heap.size + 1, k, none⟩ = some (.int .u32 ((addUp s q k).getD k 0)) := by rw [h1.cell, cells32_get, addUp_length _ _ _ hk, if_pos hk8]
       have c2 : wr.cell? ⟨bw + 1, k, none⟩ = some (.int .u32 ((s8l q).getD k 0)) := by rw [h3.cell, cells32_get, s8l_length, if_pos hk8]
       have f1 : ∀ i, wr.frozen? ⟨w.heap.size + 1, i, none⟩ = false := h1.free
       have l1 := h1.lt
       have l3 := h3.lt
       have HU := lh (addUp_step s q k hk8)
       generalize (addUp s q k).getD k 0 = a1 at *
       generalize (s8l q).getD k 0 = a2 at *
       clear hx h0 h1 h3 hr
       go_wp2
       refine wp_region_later_tail 9 (by kernel_rfl) (by kernel_rfl) ?_
       simp only [List.take_succ_cons, List.take_zero, List.drop_succ_cons, List.drop_zero]
       repeat (first | go_big_quiet_step (fail) | quiet_step (fail))
       refine wpQuiet_nil ?_
       rintro _ ⟨xq, rfl⟩
       go_wp2
       go_roundw
       case rel => exact ⟨k + 1, by omega, by go_num, (by (with_reducible repeat first|exact HX'.out|exact eR _|apply eD|apply eN|apply eA|apply eO|apply eS|apply eC);all_goals first|omega|simp <;> omega), (HZ'.out.later _).other (by show w.heap.size ≠ w.heap.size + 1; omega) _, (HC'.out.later _).set32 HU.out, (HV'.out.later _).other (by show bw + 1 ≠ w.heap.size + 1; omega) _, (HR'.out.ext ((Ext.refl wr).onto _) hWq).other (by show w.heap.size + 1 ≠ g; omega) _, by simp [World.setCell, later_size]; omega⟩
       case measure => simp [intOf]; omega
      ·have e8 : k = 8 := by omega
       subst e8
       rw [addUp_all, ← HN.out] at HC'
       clear hx h0 h1 h3 hr
       go_wp2
       go_roundw
       case rel => exact ⟨j + 1, a + 64, lh (by have := HJ.out; omega), by omega, by go_num, HX'.out, HZ'.out, HC'.out, HR'.out, hWq⟩
       case measure => simp [intOf]; omega
  ·have e : j = P.length / 64 := by have := HJ.out; omega
   have HS2 : Hid (Sha.out (Sha.chew Sha.S0 P j) = Sha.sha m) := lh (by rw [e]; exact HS.out)
   generalize Sha.chew Sha.S0 P j = s at *
   clear hx h0 h1 hr e
   go_upto_region 19 with (fail)
   refine wp_world (fun W => Ext w W ∧ RowAt W w.heap.size (cells8 (zeros32 32)) ∧ RowAt W (w.heap.size + 1) (cells32 (s8l s)) ∧ RowAt W wr.heap.size (cells8 (outAt s 0))) ⟨HX.out.alloc _, HZ.out.alloc _, HC.out.alloc _, RowAt.new _ _ _⟩ ?_
   rintro W ⟨hx, h0, h1, h3⟩
   have HXa := lh hx
   have HZa := lh h0
   have HCa := lh h1
   have HOa := lh h3
   clear hx h0 h1 h3 HX HZ HC HRw
   generalize wr.heap.size = bo at *
   go_wp2
   go_loopw [13] (fun i wq => ∃ k : Nat, k ≤ 32 ∧ i = .int .i64 k ∧ Ext w wq ∧ RowAt wq w.heap.size (cells8 (zeros32 32)) ∧ RowAt wq (w.heap.size + 1) (cells32 (s8l s)) ∧ RowAt wq bo (cells8 (outAt s k))) (fun i _ => 32 - (intOf i).toNat)
   case atStart => exact ⟨0, by omega, rfl, HXa.out, HZa.out, HCa.out, HOa.out⟩
   case round =>
    obtain ⟨i, hi, rfl, hx, h0, h1, h3⟩ := hrel
    have HX' := lh hx
    have HZ' := lh h0
    have HC' := lh h1
    have HO' := lh h3
    by_cases hi32 : i < 32
    ·have hcw : wr.cell? ⟨w.heap.size + 1, i / 4, none⟩ = some (.int .u32 ((s8l s).getD (i / 4) 0)) := by rw [h1.cell, cells32_get, s8l_length, if_pos (by omega)]
     have hg := Sha.out_get s (s8l s) rfl i hi32
     have HG := lh (outAt_set s hi32)
     rw [hg] at HG
     generalize (s8l s).getD (i / 4) 0 = x at hcw HG
     clear hg
     have hcx : wr.cell? ⟨bo, i, none⟩ = some (.int .u8 ((outAt s i).getD i 0)) := by rw [h3.cell, cells8_get, outAt_length s hi, if_pos hi32]
     have hfx := h3.free
     have hl1' := h1.lt
     have hl3' := h3.lt
     clear hx h0 h1 h3
     go_wp2
     go_roundw
     case rel => exact ⟨i + 1, by omega, by go_num, HX'.out.setCell (by show w.heap.size ≤ bo; omega) _, HZ'.out.other (by show w.heap.size ≠ bo; omega) _, HC'.out.other (by show w.heap.size + 1 ≠ bo; omega) _, HO'.out.set8 HG.out⟩
     case measure => simp [intOf]; omega
    ·have e32 : i = 32 := by omega
     subst e32
     rw [outAt_all, HS2.out] at h3
     have hsl := Sha.sha_length m
     have r32 : rowOf wr bo 0 32 = some (cells8 (Sha.sha m)) := h3.all (by rw [cells8_size, hsl]) (by omega)
     have m32 : roomOf wr w.heap.size 0 32 = true := by rw [h0.room]; rfl
     have hf32 : fitsRow 32 (cells8 (Sha.sha m)) = true := fits8 hsl
     have rr := lh (h0.stored (n := 32) (ds := cells8 (Sha.sha m)) (by rw [cells8_size, cells8_size, hsl, zeros32_length]) (by rw [cells8_size, hsl]) (by omega))
     have hl2' := h0.lt
     clear hx h0 h1 h3
     go_wp2
     refine post_row b32_ty Tryz.results215 rfl rfl rr.out ⟨rfl, HX'.out.setCells (Nat.le_refl _) _ _⟩
def digAt (d : List Int) (i : Nat) : List Int := d.take i ++ zeros32 (16 - i)
theorem digAt_length {d : List Int} (hd : d.length = 32) {i : Nat} (h : i ≤ 16) : (digAt d i).length = 16 := by
 simp [digAt, zeros32, hd]
 omega
theorem digAt_set {d : List Int} (hd : d.length = 32) {i : Nat} (h : i < 16) : (digAt d i).set i (d.getD i 0) = digAt d (i + 1) := by
 unfold digAt
 rw [List.set_append_right _ _ (by simp [hd]; omega)]
 have e : i - (d.take i).length = 0 := by simp [hd]; omega
 have e2 : d.take (i + 1) = d.take i ++ [d.getD i 0] := by
  rw [List.take_succ_eq_append_getElem (by omega)]
  simp [show i < d.length by omega]
 rw [e, e2, zeros32, zeros32, show 16 - i = (16 - (i + 1)) + 1 by omega, List.replicate_succ, List.set_cons_zero]
 simp
theorem digAt_all (d : List Int) : digAt d 16 = d.take 16 := by simp [digAt, zeros32]
theorem zero_dig : #[Value.int .u8 0, Value.int .u8 0, Value.int .u8 0, Value.int .u8 0, Value.int .u8 0, Value.int .u8 0, Value.int .u8 0, Value.int .u8 0, Value.int .u8 0, Value.int .u8 0, Value.int .u8 0, Value.int .u8 0, Value.int .u8 0, Value.int .u8 0, Value.int .u8 0, Value.int .u8 0] = cells8 (zeros32 16) := rfl
attribute [local go_sem] zero_dig
theorem short_ok (m : List Int) (A : Option Addr) (c : Nat) (w : World) (hk : RKonst w) (hr : ReadsB w w.heap.size A m) (hA : A = none → c = 0) (hlen : m.length < 140737488355000) (hm : ∀ x ∈ m, 0 ≤ x ∧ x < 256) :
  Calls Tryz.prog 171 #[.slice A m.length c] w fun e w' => e = .returned (.agg (cells8 ((Sha.sha m).take 16))) ∧ Ext w w' := by
 have HK := lh hk
 have HR := lh hr
 have HA := lh hA
 have HM := lh hm
 clear hk hr hA hm
 have hsl := Sha.sha_length m
 have hf32 : fitsRow 32 (cells8 (Sha.sha m)) = true := fits8 hsl
 go_enter Tryz.func171, Tryz.ntmps171
 go_upto_region 3 with (go_at_call 215; refine (rsum_ok m A c _ (HK.out.alloc _) (HR.out.on ((eR _).alloc _)) HA.out hlen HM.out).mono ?_; rintro e w' ⟨rfl, hxl⟩; obtain ⟨xl, rfl⟩ := hxl.asLater; clear hxl)
 refine wp_world (fun W => Ext w W ∧ RowAt W w.heap.size (cells8 (zeros32 16)) ∧ RowAt W (w.heap.size + 1 + xl.n) (cells8 (Sha.sha m)) ∧ RowAt W (w.heap.size + 1 + xl.n + 1) (cells8 (digAt (Sha.sha m) 0)))
  ⟨(by (with_reducible repeat first|exact eR _|apply eD|apply eN|apply eA|apply eO|apply eS|apply eC);all_goals first|omega|simp <;> omega), ((((((RowAt.new w _ _).later _).alloc _).others (by omega) _ _).alloc _).others (by omega) _ _), ((((RowAt.newAt (cs := cells8 (zeros32 32)) (by rw [later_size, World.size_alloc])).store (by rw [cells8_size, cells8_size, hsl, zeros32_length])).alloc _).others (by omega) _ _),
   (RowAt.newAt (cs := cells8 (zeros32 16)) (by rw [setCells_size, World.size_alloc, later_size, World.size_alloc])).store rfl⟩ ?_
 rintro W ⟨hx, h0, h1, h3⟩
 have HXa := lh hx
 have HZa := lh h0
 have HCa := lh h1
 have HOa := lh h3
 have hbo : w.heap.size + 1 ≤ w.heap.size + 1 + xl.n := by omega
 clear hx h0 h1 h3 hf32
 generalize w.heap.size + 1 + xl.n = bo at *
 generalize hdm : Sha.sha m = d at *
 have HDM := lh hdm
 clear hdm
 go_wp2
 go_loopw [5] (fun i wq => ∃ k : Nat, k ≤ 16 ∧ i = .int .i64 k ∧ Ext w wq ∧ RowAt wq w.heap.size (cells8 (zeros32 16)) ∧ RowAt wq bo (cells8 d) ∧ RowAt wq (bo + 1) (cells8 (digAt d k))) (fun i _ => 16 - (intOf i).toNat)
 case atStart => exact ⟨0, by omega, rfl, HXa.out, HZa.out, HCa.out, HOa.out⟩
 case round =>
  obtain ⟨i, hi, rfl, hx, h0, h1, h3⟩ := hrel
  have HX' := lh hx
  have HZ' := lh h0
  have HC' := lh h1
  have HO' := lh h3
  by_cases hi16 : i < 16
  ·have hcw : wr.cell? ⟨bo, i, none⟩ = some (.int .u8 (d.getD i 0)) := by rw [h1.cell, cells8_get, if_pos (by omega)]
   have HG := lh (digAt_set hsl hi16)
   generalize d.getD i 0 = x at hcw HG
   have hcx : wr.cell? ⟨bo + 1, i, none⟩ = some (.int .u8 ((digAt d i).getD i 0)) := by rw [h3.cell, cells8_get, digAt_length hsl hi, if_pos hi16]
   have hfx := h3.free
   have hl1' := h1.lt
   have hl3' := h3.lt
   clear hx h0 h1 h3
   go_wp2
   go_roundw
   case rel => exact ⟨i + 1, by omega, by go_num, HX'.out.setCell (by show w.heap.size ≤ bo + 1; omega) _, HZ'.out.other (by show w.heap.size ≠ bo + 1; omega) _, HC'.out.other (by show bo ≠ bo + 1; omega) _, HO'.out.set8 HG.out⟩
   case measure => simp [intOf]; omega
  ·have e16 : i = 16 := by omega
   subst e16
   rw [digAt_all] at h3
   have htl : (d.take 16).length = 16 := by rw [List.length_take]; omega
   generalize hD : d.take 16 = D at *
   have HD := lh hD
   have r16 : rowOf wr (bo + 1) 0 16 = some (cells8 D) := h3.all (by rw [cells8_size, htl]) (by omega)
   have m16 : roomOf wr w.heap.size 0 16 = true := by rw [h0.room]; rfl
   have hf16 : fitsRow 16 (cells8 D) = true := fits8 htl
   have rr := lh (h0.stored (n := 16) (ds := cells8 D) (by rw [cells8_size, cells8_size, htl, zeros32_length]) (by rw [cells8_size, htl]) (by omega))
   have hl2' := h0.lt
   clear hx h0 h1 h3 hD
   go_wp2
   refine post_row dig_ty Tryz.results171 rfl rfl rr.out ⟨by rw [HDM.out, HD.out], HX'.out.setCells (Nat.le_refl _) _ _⟩
theorem input_ok (tag : Int) (A : Option Addr) (c : Nat) (l : List ByteArray) (w : World) (hr : ReadsS w w.heap.size A l) (hl : lens l < 140737488351232) :
  Calls Tryz.prog 172 #[.int .i64 tag, .slice A l.length c] w (BytesIs (inputS tag l) w) := by
 have HR := lh hr
 have hll := lens_length l
 clear hr
 go_enter Tryz.func172, Tryz.ntmps172
 go_wp2
 go_loopw [5, 6] (fun v j wr => ∃ k : Nat, k ≤ l.length ∧ j = .int .i64 k ∧ OwnRel w w.heap.size (inputS tag (l.take k)) wr v) (fun _ j _ => l.length - (intOf j).toNat)
 case atStart => exact ⟨0, Nat.zero_le _, rfl, some ⟨w.heap.size, 0, none⟩, 1, [tag % 256], lh rfl, rfl, Owns.fresh bE rfl (Nat.le_refl _) rfl rfl (by omega), (eR _).alloc _⟩
 case round =>
  obtain ⟨k, hk, rfl, A3, c3, l3, HL3, rfl, ho, hx⟩ := hrel
  have hml := inputS_len tag (l.take k)
  rw [← HL3.out] at hml
  have HO := lh ho
  have HX := lh hx
  have hsz := hx.size
  by_cases hlt : k < l.length
  ·have HRw := HR.out.ext hx (Nat.le_refl _)
   obtain ⟨ba, off, rfl, hba, hcs⟩ := ReadsS.cell HRw k hlt
   have HI := lh (inputS_snoc tag l k hlt)
   have hlg := lens_get l k hlt
   have hel := encS_len l[k]
   generalize hp : l[k] = p at *
   clear hp HRw ho hx
   go_wp2_with (first
    | (go_at_call 139; refine (rbytes_ok p _ (by omega)).mono ?_; rintro e w1 ⟨A1, c1, rfl, ho1, hx1⟩; have HO1 := lh ho1; have HX1 := lh hx1; have hs1 := hx1.size; clear ho1 hx1)
    | (at_builtin; refine app_reads bT bE rfl _ _ rfl w.heap.size _ _ l3 rfl (HO.out.ext HX1.out) w1.heap.size A1 c1 (Wire.encS (bts p)) rfl (HO1.out.reads bE) HO1.out.none0 (by omega) (by omega) (by omega) ?_; intro A4 c4 l4 w4 HL4 HO4 hB hl1 hl2 _; have HO4' := lh HO4; have HB4 := lh hB; clear HO4 hB))
   go_roundw
   case rel => exact ⟨k + 1, by omega, by go_num, A4, c4, l4, lh (by rw [HL4.out, HL3.out, HI.out]), rfl, HO4'.out, (HX.out.trans HX1.out).grown HB4.out (Nat.le_refl _)⟩
   case measure => simp [intOf]; omega
  ·have e : k = l.length := by omega
   subst e
   have HE : Hid (l3 = inputS tag l) := lh (by rw [HL3.out, List.take_length])
   clear ho hx
   go_wp2
   go_ret
   have e := HE.out
   subst e
   exact ⟨A3, c3, rfl, HO.out, HX.out⟩
theorem inputS_byt (tag : Int) (l : List ByteArray) (hl : lens l < 140737488351232) : ∀ x ∈ inputS tag l, 0 ≤ x ∧ x < 256 := by
 intro x hx
 simp only [inputS, Wire.input, List.mem_cons, List.mem_flatMap, List.mem_map] at hx
 rcases hx with rfl | ⟨_, ⟨s, hs, rfl⟩, hx⟩
 ·omega
 ·obtain ⟨k, hk, rfl⟩ := List.mem_iff_getElem.1 hs
  have := lens_get l k hk
  exact encS_byt l[k] (by omega) x hx
theorem rof_ok (tag : Int) (A : Option Addr) (c : Nat) (l : List ByteArray) (w : World) (hk : RKonst w) (hr : ReadsS w w.heap.size A l) (hl : lens l < 140737488351232) :
  Calls Tryz.prog 133 #[.int .i64 tag, .slice A l.length c] w fun e w' => e = .returned (.agg (cells8 (Wire.digest tag (l.map bts)))) ∧ Ext w w' := by
 have HK := lh hk
 have HR := lh hr
 have hml := inputS_len tag l
 have HBy := lh (inputS_byt tag l hl)
 have HD : Hid ((Sha.sha (inputS tag l)).take 16 = Wire.digest tag (l.map bts)) := lh rfl
 have hd16 : (Wire.digest tag (l.map bts)).length = 16 := by rw [Wire.digest, List.length_take, Sha.sha_length]; omega
 have hfd : fitsRow 16 (cells8 (Wire.digest tag (l.map bts))) = true := fits8 hd16
 clear hk hr
 go_enter Tryz.func133, Tryz.ntmps133
 go_wp2_with (first
  | (go_at_call 172; refine (input_ok tag A c l _ (HR.out.on ((eR _).alloc _)) hl).mono ?_; rintro e w1 ⟨A1, c1, rfl, ho1, hx1⟩; have HO1 := lh ho1; obtain ⟨xl, rfl⟩ := hx1.asLater; clear ho1 hx1)
  | (go_at_call 171; refine (short_ok (inputS tag l) A1 c1 _ ((HK.out.alloc _).later _) (HO1.out.reads bE) HO1.out.none0 (by omega) HBy.out).mono ?_; rw [HD.out]; rintro e w' ⟨rfl, hxm⟩; obtain ⟨xm, rfl⟩ := hxm.asLater; clear hxm))
 generalize hDD : Wire.digest tag (l.map bts) = D at *
 refine post_row dig_ty Tryz.results133 rfl rfl (RowAt.stored (cs := cells8 (zeros32 16)) (n := 16) ((by (repeat (first | with_reducible exact rfl | with_reducible refine RowAt.drew ?_ | with_reducible refine RowAt.later ?_ _ | with_reducible exact RowAt.newAt (by first | rfl | omega | (simp [later_size, setCells_size]; done) | (simp [later_size, setCells_size]; omega)) | with_reducible refine RowAt.alloc ?_ _ | with_reducible apply RowAt.store | with_reducible refine RowAt.others ?_ ?_ _ _ | with_reducible refine RowAt.other ?_ ?_ _)); all_goals first | omega | (simp; done) | (simp; omega) | (simp [go_sem]; done))) (by rw [cells8_size, cells8_size, hd16, zeros32_length]) (by rw [cells8_size, hd16]) (by omega)) ⟨rfl, (by (with_reducible repeat first|exact eR _|apply eD|apply eN|apply eA|apply eO|apply eS|apply eC);all_goals first|omega|simp <;> omega)⟩
theorem rdigest_ok (s : ByteArray) (w : World) (hk : RKonst w) (hl : s.size ≤ 140737488351200) :
  Calls Tryz.prog 82 #[.string s] w fun e w' => e = .returned (.agg (cells8 (Wire.digest 34 [bts s]))) ∧ Ext w w' := by
 have HK := lh hk
 have hd16 : (Wire.digest 34 [bts s]).length = 16 := by rw [Wire.digest, List.length_take, Sha.sha_length]; omega
 have HD : Hid (Wire.digest 34 ([s].map bts) = Wire.digest 34 [bts s]) := lh rfl
 have hfd : fitsRow 16 (cells8 (Wire.digest 34 [bts s])) = true := fits8 hd16
 clear hk
 go_enter Tryz.func82, Tryz.ntmps82
 go_wp2_with (go_at_call 133; refine (rof_ok 34 (some ⟨w.heap.size + 1, 0, none⟩) 1 [s] _ ((HK.out.alloc _).alloc _) ((Owns.fresh (base := 0) sE (by simp) (by omega) rfl rfl (by simp)).reads sE) (by simp [lens]; omega)).mono ?_; rw [HD.out]; rintro e w' ⟨rfl, hxl⟩; obtain ⟨xl, rfl⟩ := hxl.asLater; clear hxl)
 generalize hDD : Wire.digest 34 [bts s] = D at *
 refine post_row dig_ty Tryz.results82 rfl rfl (RowAt.stored (cs := cells8 (zeros32 16)) (n := 16) ((by (repeat (first | with_reducible exact rfl | with_reducible refine RowAt.drew ?_ | with_reducible refine RowAt.later ?_ _ | with_reducible exact RowAt.newAt (by first | rfl | omega | (simp [later_size, setCells_size]; done) | (simp [later_size, setCells_size]; omega)) | with_reducible refine RowAt.alloc ?_ _ | with_reducible apply RowAt.store | with_reducible refine RowAt.others ?_ ?_ _ _ | with_reducible refine RowAt.other ?_ ?_ _)); all_goals first | omega | (simp; done) | (simp; omega) | (simp [go_sem]; done))) (by rw [cells8_size, cells8_size, hd16, zeros32_length]) (by rw [cells8_size, hd16]) (by omega)) ⟨rfl, (by (with_reducible repeat first|exact eR _|apply eD|apply eN|apply eA|apply eO|apply eS|apply eC);all_goals first|omega|simp <;> omega)⟩
end Go.Proofs.YtmgekdggahoboaaGreatDoor

namespace Go.Proofs.YtmgekdggahoboaaGreatDoor
open Go.RowKit
open Go.Proofs
structure St where
 (addr var : ByteArray)
 (status size : Int)
 body : List Int
 tags : ByteArray
 (lo hi gate serial : Int)
 seal_ : List Int
structure En where
 st : St
 soft : Bool
 hv : Value
 bytes : ByteArray
 whole : Bool
def dgC (l : List Int) : Array Value := #[.int .u8 (l.getD 0 0), .int .u8 (l.getD 1 0), .int .u8 (l.getD 2 0), .int .u8 (l.getD 3 0), .int .u8 (l.getD 4 0), .int .u8 (l.getD 5 0), .int .u8 (l.getD 6 0), .int .u8 (l.getD 7 0), .int .u8 (l.getD 8 0), .int .u8 (l.getD 9 0), .int .u8 (l.getD 10 0), .int .u8 (l.getD 11 0), .int .u8 (l.getD 12 0), .int .u8 (l.getD 13 0), .int .u8 (l.getD 14 0), .int .u8 (l.getD 15 0)]
def stmL (s : St) : List Value := [.string s.addr, .string s.var, .int .i64 s.status, .int .i64 s.size] ++ (dgC s.body).toList ++ [.string s.tags, .int .i64 s.lo, .int .i64 s.hi, .int .i64 s.gate, .int .i64 s.serial] ++ (dgC s.seal_).toList
def stmC (s : St) : Array Value := (stmL s).toArray
def entC (e : En) : Array Value := (stmL e.st ++ [.bool e.soft, e.hv, .string e.bytes, .bool e.whole]).toArray
def noSt : St := ⟨ByteArray.empty, ByteArray.empty, 0, 0, zeros32 16, ByteArray.empty, 0, 0, 0, 0, zeros32 16⟩
def noEn : En := ⟨noSt, false, .slice none 0 0, ByteArray.empty, false⟩
theorem dgC_cells {l : List Int} (h : l.length = 16) : dgC l = cells8 l := by
 match l, h with
 | [_, _, _, _, _, _, _, _, _, _, _, _, _, _, _, _], _ => rfl
theorem stm_size (s : St) : (stmC s).size = 41 := rfl
theorem ent_size (e : En) : (entC e).size = 45 := rfl
theorem ent_all (e : En) : rowSub (entC e) 0 45 = some (entC e) := rowSub_all _ _ rfl
theorem stm_all (s : St) : rowSub (stmC s) 0 41 = some (stmC s) := rowSub_all _ _ rfl
theorem ent_stm (e : En) : rowSub (entC e) 0 41 = some (stmC e.st) := by kernel_rfl
theorem ent_body (e : En) : rowSub (entC e) 4 16 = some (dgC e.st.body) := by kernel_rfl
theorem stm_body (s : St) : rowSub (stmC s) 4 16 = some (dgC s.body) := by kernel_rfl
theorem stm_seal (s : St) : rowSub (stmC s) 25 16 = some (dgC s.seal_) := by kernel_rfl
theorem stm_at (s : St) : rowSub (stmC s) 21 2 = some #[.int .i64 s.lo, .int .i64 s.hi] := by kernel_rfl
theorem stm_g0 (s : St) : (stmC s)[0]? = some (.string s.addr) := rfl
theorem ent_g0 (e : En) : (entC e)[0]? = some (.string e.st.addr) := rfl
theorem stm_g1 (s : St) : (stmC s)[1]? = some (.string s.var) := rfl
theorem ent_g1 (e : En) : (entC e)[1]? = some (.string e.st.var) := rfl
theorem stm_g2 (s : St) : (stmC s)[2]? = some (.int .i64 s.status) := rfl
theorem ent_g2 (e : En) : (entC e)[2]? = some (.int .i64 e.st.status) := rfl
theorem stm_g3 (s : St) : (stmC s)[3]? = some (.int .i64 s.size) := rfl
theorem ent_g3 (e : En) : (entC e)[3]? = some (.int .i64 e.st.size) := rfl
theorem stm_g20 (s : St) : (stmC s)[20]? = some (.string s.tags) := rfl
theorem ent_g20 (e : En) : (entC e)[20]? = some (.string e.st.tags) := rfl
theorem stm_g21 (s : St) : (stmC s)[21]? = some (.int .i64 s.lo) := rfl
theorem ent_g21 (e : En) : (entC e)[21]? = some (.int .i64 e.st.lo) := rfl
theorem stm_g22 (s : St) : (stmC s)[22]? = some (.int .i64 s.hi) := rfl
theorem ent_g22 (e : En) : (entC e)[22]? = some (.int .i64 e.st.hi) := rfl
theorem stm_g23 (s : St) : (stmC s)[23]? = some (.int .i64 s.gate) := rfl
theorem ent_g23 (e : En) : (entC e)[23]? = some (.int .i64 e.st.gate) := rfl
theorem stm_g24 (s : St) : (stmC s)[24]? = some (.int .i64 s.serial) := rfl
theorem ent_g24 (e : En) : (entC e)[24]? = some (.int .i64 e.st.serial) := rfl
theorem ent_g41 (e : En) : (entC e)[41]? = some (.bool e.soft) := rfl
theorem ent_g42 (e : En) : (entC e)[42]? = some (e.hv) := rfl
theorem ent_g43 (e : En) : (entC e)[43]? = some (.string e.bytes) := rfl
theorem ent_g44 (e : En) : (entC e)[44]? = some (.bool e.whole) := rfl
attribute [go_sem] ent_all stm_all stm_size ent_size ent_stm ent_body stm_body stm_seal stm_at stm_g0 ent_g0 stm_g1 ent_g1 stm_g2 ent_g2 stm_g3 ent_g3 stm_g20 ent_g20 stm_g21 ent_g21 stm_g22 ent_g22 stm_g23 ent_g23 stm_g24 ent_g24 ent_g41 ent_g42 ent_g43 ent_g44
theorem stm_ty : RowTy Tryz.prog 52 41 := ⟨by kernel_rfl, by kernel_rfl⟩
theorem stm_ld (w : World) (b o : Nat) : (rowLoad 52 41 (.pointer (some ⟨b, o, none⟩))).run Tryz.prog w = rowLoadR Tryz.prog w 52 41 b o (rowOf w b o 41) := run_rowLoad stm_ty w b o
theorem stm_st (w : World) (b o : Nat) (cells : Array Value) : (rowStore 52 41 (.pointer (some ⟨b, o, none⟩)) (.agg cells)).run Tryz.prog w = rowStoreR Tryz.prog w 52 41 b o cells (roomOf w b o 41 && fitsRow 41 cells) := run_rowStore stm_ty w b o cells
theorem stm_al (w : World) : (rowAlloc 52).run Tryz.prog w = .ok (.value (.pointer (some ⟨w.heap.size, 0, none⟩))) (w.alloc (.cells (stmC noSt) 52)) := run_rowAlloc (by kernel_rfl) w
theorem stm_xl (ρ : Operand → Value) (dst : Option Tmp) (x : Operand) (t : TypeId) (pos : String) (after : Array Edge) (guard : Option (Nat × Bool)) : execOp ρ { dst, op := .load 52 x, type := t, pos, after, guard } = rowLoad 52 41 (ρ x) := rfl
theorem stm_xs (ρ : Operand → Value) (dst : Option Tmp) (x y : Operand) (t : TypeId) (pos : String) (after : Array Edge) (guard : Option (Nat × Bool)) : execOp ρ { dst, op := .store 52 x y, type := t, pos, after, guard } = rowStore 52 41 (ρ x) (ρ y) := rfl
theorem stm_xa (ρ : Operand → Value) (dst : Option Tmp) (t : TypeId) (pos : String) (after : Array Edge) (guard : Option (Nat × Bool)) : execOp ρ { dst, op := .alloc 52, type := t, pos, after, guard } = rowAlloc 52 := rfl
attribute [go_sem ↓] stm_xl stm_xs stm_xa
attribute [go_sem] stm_ld stm_st stm_al
theorem ent_ty : RowTy Tryz.prog 96 45 := ⟨by kernel_rfl, by kernel_rfl⟩
theorem ent_ld (w : World) (b o : Nat) : (rowLoad 96 45 (.pointer (some ⟨b, o, none⟩))).run Tryz.prog w = rowLoadR Tryz.prog w 96 45 b o (rowOf w b o 45) := run_rowLoad ent_ty w b o
theorem ent_st (w : World) (b o : Nat) (cells : Array Value) : (rowStore 96 45 (.pointer (some ⟨b, o, none⟩)) (.agg cells)).run Tryz.prog w = rowStoreR Tryz.prog w 96 45 b o cells (roomOf w b o 45 && fitsRow 45 cells) := run_rowStore ent_ty w b o cells
theorem ent_lv (w : World) (b o : Nat) : (loadVar 96 ⟨b, o, none⟩).run Tryz.prog w = varRes Tryz.prog w 96 b o (rowOf w b o 45) := loadVar_row ent_ty w b o
theorem ent_al (w : World) : (rowAlloc 96).run Tryz.prog w = .ok (.value (.pointer (some ⟨w.heap.size, 0, none⟩))) (w.alloc (.cells (entC noEn) 96)) := run_rowAlloc (by kernel_rfl) w
theorem ent_xl (ρ : Operand → Value) (dst : Option Tmp) (x : Operand) (t : TypeId) (pos : String) (after : Array Edge) (guard : Option (Nat × Bool)) : execOp ρ { dst, op := .load 96 x, type := t, pos, after, guard } = rowLoad 96 45 (ρ x) := rfl
theorem ent_xs (ρ : Operand → Value) (dst : Option Tmp) (x y : Operand) (t : TypeId) (pos : String) (after : Array Edge) (guard : Option (Nat × Bool)) : execOp ρ { dst, op := .store 96 x y, type := t, pos, after, guard } = rowStore 96 45 (ρ x) (ρ y) := rfl
theorem ent_xa (ρ : Operand → Value) (dst : Option Tmp) (t : TypeId) (pos : String) (after : Array Edge) (guard : Option (Nat × Bool)) : execOp ρ { dst, op := .alloc 96, type := t, pos, after, guard } = rowAlloc 96 := rfl
attribute [go_sem ↓] ent_xl ent_xs ent_xa
attribute [go_sem] ent_ld ent_st ent_al
structure Ru where
 (fresh stale down neg : Int)
 (x0 x1 x2 : Value)
 rest : List Value
def ruC (r : Ru) : Array Value := ([r.x0, r.x1, r.x2, .int .i64 r.fresh, .int .i64 r.stale, .int .i64 r.down, .int .i64 r.neg] ++ r.rest).toArray
theorem ru_g3 (r : Ru) : (ruC r)[3]? = some (.int .i64 r.fresh) := rfl
theorem ru_g4 (r : Ru) : (ruC r)[4]? = some (.int .i64 r.stale) := rfl
theorem ru_g5 (r : Ru) : (ruC r)[5]? = some (.int .i64 r.down) := rfl
theorem ru_g6 (r : Ru) : (ruC r)[6]? = some (.int .i64 r.neg) := rfl
attribute [go_sem] ru_g3 ru_g4 ru_g5 ru_g6
def ageN (e : En) (hi : Int) : Int := max (hi - e.st.lo) 0
theorem age_any (e : En) (lo hi : Int) (w : World) (h0 : 0 ≤ e.st.lo) (h1 : e.st.lo ≤ 1099511627776) (h2 : 0 ≤ hi) (h3 : hi ≤ 1099511627776) :
  Calls Tryz.prog 74 #[.agg (entC e), .agg #[.int .i64 lo, .int .i64 hi]] w fun e' w' => e' = .returned (.int .i64 (ageN e hi)) ∧ Ext w w' := by
 go_enter Tryz.func74, Tryz.ntmps74
 go_wp2
 all_goals
  go_ret
  exact ⟨ret_int (by unfold ageN; omega), (by (with_reducible repeat first|exact eR _|apply eD|apply eN|apply eA|apply eO|apply eS|apply eC);all_goals first|omega|simp <;> omega)⟩
structure RuR (r : Ru) : Prop where
 (f0 : 0 ≤ r.fresh) (f1 : r.fresh ≤ 1099511627776) (s0 : 0 ≤ r.stale) (s1 : r.stale ≤ 1099511627776) (d0 : 0 ≤ r.down) (d1 : r.down ≤ 1099511627776) (n0 : 0 ≤ r.neg) (n1 : r.neg ≤ 1099511627776)
def stateN (e : En) (r : Ru) (a mode : Int) : Int :=
 if e.whole = false then 0
 else if e.soft = false ∧ a ≤ (if e.st.status = 200 then r.fresh else r.neg) then 1
 else if e.st.status = 200 ∧ (mode = 1 ∧ a ≤ r.fresh + r.stale ∨ mode = 2 ∧ a ≤ r.fresh + r.down) then 2
 else 0
theorem age_bd (e : En) (hi : Int) (h0 : 0 ≤ e.st.lo) (h3 : hi ≤ 1099511627776) : 0 ≤ ageN e hi ∧ ageN e hi ≤ 1099511627776 := by unfold ageN; omega
theorem state_at (e : En) (r : Ru) (lo hi mode a : Int) (w : World) (h0 : 0 ≤ e.st.lo) (h1 : e.st.lo ≤ 1099511627776) (h2 : 0 ≤ hi) (h3 : hi ≤ 1099511627776) (hr : RuR r) (HA : Hid (ageN e hi = a)) :
  Calls Tryz.prog 75 #[.agg (entC e), .agg (ruC r), .agg #[.int .i64 lo, .int .i64 hi], .int .i64 mode] w fun e' w' => e' = .returned (.int .i64 (stateN e r a mode)) ∧ Ext w w' := by
 obtain ⟨r1, r2, r3, r4, r5, r6, r7, r8⟩ := hr
 have ha := age_bd e hi h0 h3
 rw [HA.out] at ha
 obtain ⟨ha1, ha2⟩ := ha
 go_enter Tryz.func75, Tryz.ntmps75
 go_wp2_with (go_at_call 74; refine (age_any e lo hi _ h0 h1 h2 h3).mono ?_; rw [HA.out]; rintro e w' ⟨rfl, hxl⟩; obtain ⟨xl, rfl⟩ := hxl.asLater; clear hxl)
 all_goals
  go_ret
  refine ⟨ret_int ?_, (by (with_reducible repeat first|exact eR _|apply eD|apply eN|apply eA|apply eO|apply eS|apply eC);all_goals first|omega|simp <;> omega)⟩
  simp_all [stateN]
  try omega
theorem state_any (e : En) (r : Ru) (lo hi mode : Int) (w : World) (h0 : 0 ≤ e.st.lo) (h1 : e.st.lo ≤ 1099511627776) (h2 : 0 ≤ hi) (h3 : hi ≤ 1099511627776) (hr : RuR r) :
  Calls Tryz.prog 75 #[.agg (entC e), .agg (ruC r), .agg #[.int .i64 lo, .int .i64 hi], .int .i64 mode] w fun e' w' => e' = .returned (.int .i64 (stateN e r (ageN e hi) mode)) ∧ Ext w w' := state_at e r lo hi mode _ w h0 h1 h2 h3 hr (lh rfl)
theorem stm_fits (s : St) : fitsRow 41 (stmC s) = true := by kernel_rfl
attribute [go_sem] stm_fits
end Go.Proofs.YtmgekdggahoboaaGreatDoor

namespace Go.Proofs.YtmgekdggahoboaaGreatDoor
open Go.ChangeShapes Go.WideShapes Go.ChangeAt Go.RowKit Go.Joins
section
variable {H : Type} {enc : TypeId × Value → H} {P : Program}
theorem trodAll_ext {W W' : World} (hl : laidOutB P = true) (hx : Ext W W') : ∀ {ts : List TypeId} {vs : List Value} {ds : List (DataW H)} {ps : List MemPlace},
  (ts.all fun t => P.readableRec t && decide (t < P.types.size)) = true → (∀ x ∈ ps, x.block < W.heap.size) →
  DataW.TrodAll enc P W 0 (fun _ => true) true ts vs ds ps → DataW.TrodAll enc P W' 0 (fun b => decide (b < W.heap.size)) true ts vs ds ps
 | [], [], [], _, _, _, h => h
 | [], [], _ :: _, _, _, _, h => h.elim
 | [], _ :: _, _, _, _, _, h => h.elim
 | _ :: _, [], _, _, _, _, h => h.elim
 | _ :: _, _ :: _, [], _, _, _, h => h.elim
 | t :: ts, v :: vs, d :: ds, ps, ha, hlt, h => by
  obtain ⟨p, q, h1, h2, rfl⟩ := h
  simp only [List.all_cons, Bool.and_eq_true, decide_eq_true_eq] at ha
  refine ⟨p, q, Below.trod hl ha.1.1 ha.1.2 h1 hx.below (fun x hx => hlt x (List.mem_append.2 (.inl hx))), trodAll_ext hl hx (by simpa using ha.2) (fun x hx => hlt x (List.mem_append.2 (.inr hx))) h2, rfl⟩
theorem law_post {f : Func} {s : ChangeSpec} {W W' : World} {args : Array Value} {ds gs : List (DataW H)} {before : List MemPlace} (hl : laidOutB P = true)
  (hts : (f.params.toList.all fun t => P.readableRec t && decide (t < P.types.size)) = true) (hvs : s.vars = [])
  (hW : DataW.Whole enc P f.params.toList s.vars false W args.toList ds gs before) (hx : Ext W W') (tb : TypeId) (hrt : f.resultTypes = #[tb]) (hb : P.underlying tb = some .bool)
  (hr : (s.fn H (ds ++ gs)).results = [.lit (.bool true)]) (ha : (s.fn H (ds ++ gs)).args = ds) (hv : (s.fn H (ds ++ gs)).vars = []) :
  s.post enc P f false true false false W args (.bool true) W' := by
 have hlt : ∀ p ∈ before, p.block < W.heap.size := fun p hp => hW.lt p hp
 have hW' := hW
 obtain ⟨p, q, hA, hV, rfl, _, _⟩ := hW
 rw [hvs] at hV
 obtain ⟨rfl, rfl⟩ := trodVars_none hV
 simp only [List.append_nil] at hlt hW'
 refine ⟨ds, [], p, [], p, [], hW', ?_, ?_, ?_, World.keptBut_mono (fun x hx => ⟨hx, .inr (.inl hx)⟩) (hx.below.frame (· ∈ p)), fun h => by cases h⟩
 ·rw [hr, hrt]
  exact trodAll_mk1 (shut_bool hb true)
 ·rw [ha]; exact trodAll_ext hl hx hts hlt hA
 ·rw [hv, hvs]; rfl
end
theorem Tryz.own : ownKnob Tryz.prog.godebug = none := by kernel_rfl
theorem Tryz.laidOut : laidOutB Tryz.prog = true := by kernel_rfl
section
variable {H : Type} {enc : TypeId × Value → H} {w : World} {base : Nat} {spare : Nat → Bool} {held : Bool}
end
end Go.Proofs.YtmgekdggahoboaaGreatDoor
namespace Go.Proofs.YtmgekdggahoboaaGreatDoor
open Go.ChangeShapes Go.WideShapes Go.ChangeAt Go.RowKit Go.Joins Go.Deep
open Go.Proofs
theorem seg {L M : List Value} {o n : Nat} (h : (L.drop o).take n = M) : L.drop o = M ++ L.drop (o + n) := by
 rw [← h, ← List.drop_drop, List.take_append_drop]
theorem list_each {α : Type} (d : α) (Q : Nat → α → Prop) : ∀ n : Nat, (∀ i, i < n → ∃ x, Q i x) → ∃ l : List α, l.length = n ∧ ∀ i, i < n → Q i (l.getD i d)
 | 0, _ => ⟨[], rfl, fun i h => by omega⟩
 | n + 1, h => by
  obtain ⟨l, hl, hq⟩ := list_each d Q n (fun i hi => h i (by omega))
  obtain ⟨x, hx⟩ := h n (by omega)
  refine ⟨l ++ [x], by simp [hl], fun i hi => ?_⟩
  by_cases e : i = n
  ·subst e; rw [List.getD_eq_getElem?_getD, List.getElem?_append_right (by omega), hl, Nat.sub_self]; exact hx
  ·have hin : i < n := by omega
   have := hq i hin
   rw [List.getD_eq_getElem?_getD] at this ⊢
   rwa [List.getElem?_append_left (by omega)]
theorem cell_there {w : World} {a : Addr} {v : Value} (h : w.cell? a = some v) : a.block < w.heap.size := by
 unfold World.cell? at h
 cases ho : w.heap[a.block]? with
 | none => simp [ho] at h
 | some o => exact (Array.getElem?_eq_some_iff.1 ho).1
theorem laidK : (Rows.laid_weirgate_hash_constants : DataW Unit) = .agg (Sha.K.map fun n => .lit (.int .u32 n)) := by kernel_rfl
theorem laidRK : (Rows.laid_weirgate_weirgateref02_constants : DataW Unit) = .agg (Sha.K.map fun n => .lit (.int .u32 n)) := by kernel_rfl
theorem consts_of_trod {W : World} {m : Nat} {cs : Array Value} {p : List MemPlace} (hd : DataW.trod (fun _ => ()) Tryz.prog W 0 (fun _ => true) false m 329 cs.toList = some (.agg (Sha.K.map fun n => .lit (.int .u32 n)), p)) : cs = cells32 Sha.K := by
 obtain ⟨xs, n, _, ex, hlen, hl, hel⟩ := DataW.trod_array Tryz.underlying329 hd
 have c1 : Tryz.prog.cellsOf 257 = 1 := by kernel_rfl
 have c64 : Tryz.prog.cellsOf 329 = 64 := by kernel_rfl
 have hK : Sha.K.length = 64 := by kernel_rfl
 rw [c64] at hlen
 have e3 : (xs.map (·.1)) = Sha.K.map fun n => .lit (.int .u32 n) := (DataW.agg.inj (Prod.mk.inj ex).1).symm
 apply Array.ext_getElem?
 intro r
 rw [cells32_get, hK]
 by_cases hr : r < 64
 ·rw [if_pos hr]
  have hE := hel r hr
  rw [c1, Nat.mul_one, List.getElem?_eq_getElem (by omega)] at hE
  obtain ⟨z, e1, e2, _⟩ := DataW.trod_int Tryz.underlying257 hE
  have e4 : (xs.map (·.1))[r]? = (Sha.K.map fun n => (DataW.lit (.int .u32 n) : DataW Unit))[r]? := by rw [e3]
  rw [List.getElem?_map, List.getElem?_map, List.getElem?_eq_getElem (by omega : r < xs.length), List.getElem?_eq_getElem (by omega : r < Sha.K.length), e2] at e4
  have hz : z = Sha.K.getD r 0 := by
   simp only [Option.map_some, Option.some.injEq, DataW.lit.injEq, Lit.int.injEq, true_and] at e4
   rw [e4, List.getD, List.getElem?_eq_getElem (by omega : r < Sha.K.length)]; rfl
  have h0 : ((cs.toList.drop r).take 1)[0]? = some (.int .u32 z) := by rw [e1]; rfl
  rw [← hz]
  have : cs.toList[r]? = some (.int .u32 z) := by simpa using h0
  simpa using this
 ·rw [if_neg hr]
  have : cs.size = 64 := by simpa using hlen
  exact Array.getElem?_eq_none (by omega)
theorem table_at {W : World} {n : String} {g : Nat} {m : Nat} {cs : Array Value} {p : List MemPlace} {ps : List MemPlace} (hg : Tryz.prog.globalNamed n = some g) (hv : W.var? Tryz.prog n = some cs)
  (hd : DataW.trod (fun _ => ()) Tryz.prog W 0 (fun _ => true) false m 329 cs.toList = some (.agg (Sha.K.map fun n => .lit (.int .u32 n)), p))
  (hp : ∀ x, x ∈ MemPlace.row ⟨g, 0, none⟩ cs.size → x ∈ ps) (hf : ∀ b off, MemPlace.cell b off ∈ ps → (∃ c t, W.heap[b]? = some (.cells c t (0, 0))) ∧ ∀ u v, W.cell? ⟨b, off, none⟩ = some (.iface u v) → Value.okWide Tryz.prog W .any 0 u v) :
  RowAt W g (cells32 Sha.K) := by
 have hcs := consts_of_trod hd
 subst hcs
 have h0 : MemPlace.cell g 0 ∈ ps := hp _ (by
  unfold MemPlace.row
  refine List.mem_map.2 ⟨0, List.mem_range.2 (dk (by kernel_rfl)), rfl⟩)
 obtain ⟨⟨c, t', hb⟩, _⟩ := hf g 0 h0
 unfold World.var? at hv
 rw [hg] at hv
 simp only [Option.bind_some, hb, Option.some.injEq] at hv
 subst hv
 exact ⟨t', hb⟩
section
variable {H : Type} {enc : TypeId × Value → H} {w : World} {base : Nat} {spare : Nat → Bool} {held : Bool}
theorem dg_of_trod {T : TypeId} {m : Nat} {L : List Value} {x : DataW H × List MemPlace} (ht : Tryz.prog.underlying T = some (.array 16 5)) (hc : Tryz.prog.cellsOf T = 16) (h : DataW.trod enc Tryz.prog w base spare held m T L = some x) :
  ∃ b : List Int, L = (dgC b).toList ∧ b.length = 16 ∧ Byt b := by
 obtain ⟨xs, n, _, _, hlen, hxl, hel⟩ := DataW.trod_array ht h
 have c1 : Tryz.prog.cellsOf 5 = 1 := by kernel_rfl
 rw [hc] at hlen
 obtain ⟨b, hb, hq⟩ := list_each (0 : Int) (fun i k => (L.drop i).take 1 = [Value.int .u8 k] ∧ 0 ≤ k ∧ k < 256) 16 (fun i hi => by
  have g := hel i hi
  rw [c1, Nat.mul_one, List.getElem?_eq_getElem (by omega)] at g
  obtain ⟨k, e, _, hw⟩ := DataW.trod_int Tryz.underlying5 g
  refine ⟨k, e, ?_⟩
  simp [Lit.wf, IntKind.min, IntKind.max, IntKind.signed, IntKind.bits] at hw
  omega)
 refine ⟨b, ?_, hb, fun z hz => ?_⟩
 ·have e : ∀ k, k < 16 → L.drop k = [Value.int .u8 (b.getD k 0)] ++ L.drop (k + 1) := fun k hk => seg (hq k hk).1
  have e0 : L = L.drop 0 := rfl
  rw [e0, e 0 (by omega), e 1 (by omega), e 2 (by omega), e 3 (by omega), e 4 (by omega), e 5 (by omega), e 6 (by omega), e 7 (by omega), e 8 (by omega), e 9 (by omega), e 10 (by omega), e 11 (by omega), e 12 (by omega), e 13 (by omega), e 14 (by omega), e 15 (by omega), List.drop_eq_nil_of_le (by omega)]
  rfl
 ·obtain ⟨i, hi, rfl⟩ := List.getElem_of_mem hz
  have := (hq i (by omega)).2
  rwa [List.getD_eq_getElem?_getD, List.getElem?_eq_getElem hi, Option.getD_some] at this
theorem stm_of_trod {m : Nat} {L : List Value} {x : DataW H × List MemPlace} (h : DataW.trod enc Tryz.prog w base spare held m 52 L = some x) :
  ∃ s : St, L = stmL s ∧ s.body.length = 16 ∧ Byt s.body ∧ s.addr.size ≤ maxLen ∧ s.var.size ≤ maxLen ∧ s.tags.size ≤ maxLen ∧ s.seal_.length = 16 ∧ Byt s.seal_ := by
 obtain ⟨xs, n, _, _, hlen, hxl, hg⟩ := DataW.trod_struct Tryz.underlying52 h
 have hC : Tryz.prog.cellsOf 52 = 41 := by kernel_rfl
 have cs : Tryz.prog.cellsOf 9 = 1 := by kernel_rfl
 have ci : Tryz.prog.cellsOf 3 = 1 := by kernel_rfl
 have cd : Tryz.prog.cellsOf 43 = 16 := by kernel_rfl
 have cp : Tryz.prog.cellsOf 34 = 2 := by kernel_rfl
 have cl : Tryz.prog.cellsOf 40 = 16 := by kernel_rfl
 rw [hC] at hlen
 have hx9 : xs.length = 10 := hxl
 have g0 := hg 0 _ rfl
 have g1 := hg 1 _ rfl
 have g2 := hg 2 _ rfl
 have g3 := hg 3 _ rfl
 have g4 := hg 4 _ rfl
 have g5 := hg 5 _ rfl
 have g6 := hg 6 _ rfl
 have g7 := hg 7 _ rfl
 have g8 := hg 8 _ rfl
 have g9 := hg 9 _ rfl
 simp only [List.getElem_toArray, List.getElem_cons_succ, List.getElem_cons_zero, cs, ci, cd, cp, cl] at g0 g1 g2 g3 g4 g5 g6 g7 g8 g9
 rw [List.getElem?_eq_getElem (by omega)] at g0 g1 g2 g3 g4 g5 g6 g7 g8 g9
 obtain ⟨s0, e0, _, z0⟩ := DataW.trod_string Tryz.underlying9 g0
 obtain ⟨s1, e1, _, z1⟩ := DataW.trod_string Tryz.underlying9 g1
 obtain ⟨n2, e2, _, _⟩ := DataW.trod_int Tryz.underlying3 g2
 obtain ⟨n3, e3, _, _⟩ := DataW.trod_int Tryz.underlying3 g3
 obtain ⟨b4, e4, l4, y4⟩ := dg_of_trod Tryz.underlying43 cd g4
 obtain ⟨s5, e5, _, z5⟩ := DataW.trod_string Tryz.underlying9 g5
 obtain ⟨ys, k, _, _, hl6, hyl, hg6⟩ := DataW.trod_struct Tryz.underlying34 g6
 have u0 := hg6 0 _ rfl
 have u1 := hg6 1 _ rfl
 have hy2 : ys.length = 2 := hyl
 simp only [List.getElem_toArray, List.getElem_cons_succ, List.getElem_cons_zero, ci] at u0 u1
 rw [List.getElem?_eq_getElem (by omega)] at u0 u1
 obtain ⟨lo, f0, _, _⟩ := DataW.trod_int Tryz.underlying3 u0
 obtain ⟨hi, f1, _, _⟩ := DataW.trod_int Tryz.underlying3 u1
 obtain ⟨n7, e7, _, _⟩ := DataW.trod_int Tryz.underlying3 g7
 obtain ⟨n8, e8, _, _⟩ := DataW.trod_int Tryz.underlying3 g8
 obtain ⟨b9, e9, l9, y9⟩ := dg_of_trod Tryz.underlying40 cl g9
 have p6 : (L.drop 21).take 2 = [.int .i64 lo, .int .i64 hi] := by
  have q0 := seg f0
  have q1 := seg f1
  rw [cp] at hl6
  have q2 : ((L.drop 21).take 2).drop 2 = [] := List.drop_eq_nil_of_le (by omega)
  have e : (L.drop 21).take 2 = ((L.drop 21).take 2).drop 0 := rfl
  rw [e, q0, q1, q2]
  rfl
 refine ⟨⟨s0, s1, n2, n3, b4, s5, lo, hi, n7, n8, b9⟩, ?_, l4, y4, z0, z1, z5, l9, y9⟩
 have e : L = L.drop 0 := rfl
 have q0 := seg e0
 have q1 := seg e1
 have q2 := seg e2
 have q3 := seg e3
 have q4 := seg e4
 have q5 := seg e5
 have q6 := seg p6
 have q7 := seg e7
 have q8 := seg e8
 have q9 := seg e9
 rw [e, q0, q1, q2, q3, q4, q5, q6, q7, q8, q9, List.drop_eq_nil_of_le (show L.length ≤ 25 + 16 by omega)]
 simp [stmL]
end
end Go.Proofs.YtmgekdggahoboaaGreatDoor

namespace Go.Proofs.YtmgekdggahoboaaGreatDoor
open Go.ChangeShapes Go.WideShapes Go.ChangeAt Go.RowKit Go.Joins Go.Deep
open Go.Proofs
open Go.Proofs.Sp (Sp)
section
variable {H : Type} {enc : TypeId × Value → H} {w : World} {base : Nat} {spare : Nat → Bool} {held : Bool}
theorem sp_of_trod {m : Nat} {v : Value} {x : DataW H × List MemPlace} (h : DataW.trod enc Tryz.prog w 0 (fun _ => true) held m 94 [v] = some x) :
  ∃ (A : Option Addr) (c : Nat) (l : List Sp), v = .slice A l.length c ∧ l.length ≤ maxLen ∧ ReadsSp w w.heap.size A l := by
 have hC : Tryz.prog.cellsOf 54 = 2 := by kernel_rfl
 have hC1 : Tryz.prog.cellsOf 3 = 1 := by kernel_rfl
 rcases open_slice Tryz.underlying94 h with ⟨hcs, _⟩ | ⟨a, len, cap, m, n, D, Pl, hcs, hb, hl, hm, hmm, hx, hi⟩
 ·simp at hcs
  subst hcs
  exact ⟨none, 0, [], rfl, by simp, Reads.nil _ _ _ _ _⟩
 ·simp at hcs
  subst hcs
  have hlm : len ≤ m := by rw [hmm]; simp; omega
  obtain ⟨l, hll, hq⟩ := list_each ((0 : Int), (0 : Int)) (fun i s => w.cell? (a.add (i * 2)) = some (.int .i64 s.1) ∧ w.cell? (a.add (i * 2 + 1)) = some (.int .i64 s.2)) len (fun i hil => by
   obtain ⟨cs', hc, ht⟩ := hi i (by omega)
   rw [hC] at hc
   obtain ⟨_, hcl, hat⟩ := World.cells?_some hc
   obtain ⟨ys, n', _, _, _, hyl, hg⟩ := DataW.trod_struct Tryz.underlying54 ht
   have g0 := hg 0 _ rfl
   have g1 := hg 1 _ rfl
   simp only [List.getElem_toArray, List.getElem_cons_succ, List.getElem_cons_zero, hC1] at g0 g1
   have hl2 : ys.length = 2 := hyl
   rw [List.getElem?_eq_getElem (by omega)] at g0 g1
   obtain ⟨x0, e0, _, _⟩ := DataW.trod_int Tryz.underlying3 g0
   obtain ⟨x1, e1, _, _⟩ := DataW.trod_int Tryz.underlying3 g1
   match cs', hcl with
   | [c0, c1], _ =>
    simp at e0 e1
    subst e0 e1
    have a0 := hat 0 (by omega)
    have a1 := hat 1 (by omega)
    rw [add_add] at a0 a1
    exact ⟨(x0, x1), by simpa using a0, by simpa using a1⟩)
  refine ⟨some a, cap, l, by rw [hll], by rw [hll]; omega, ?_⟩
  intro h0
  have h00 := (hq 0 (by omega)).1
  have ea : a.add (0 * 2) = a := by simp [Addr.add]
  rw [ea] at h00
  have hlt := cell_there h00
  have hs : a.spot = none := by
   unfold World.cell? at h00
   cases ho : w.heap[a.block]? with
   | none => simp [ho] at h00
   | some o => cases hs : a.spot with
    | none => rfl
    | some s => cases o <;> simp [ho, hs] at h00
  refine ⟨a.block, a.off, by cases a; simp at hs; simp [hs], hlt, fun i hi j v hv => ?_⟩
  have e1 : a.add (i * 2) = ⟨a.block, a.off + i * 2, none⟩ := by
   unfold Addr.add
   by_cases h : i * 2 = 0
   ·rw [if_pos h, h]; cases a; simp at hs; simp [hs]
   ·rw [if_neg h]
  have e2 : a.add (i * 2 + 1) = ⟨a.block, a.off + i * 2 + 1, none⟩ := by
   unfold Addr.add
   rw [if_neg (by omega)]; simp [Nat.add_assoc]
  have hqi := hq i (by omega)
  rw [e1, e2, List.getD_eq_getElem?_getD, List.getElem?_eq_getElem hi, Option.getD_some] at hqi
  have hj : j < 2 := by
   have := (List.getElem?_eq_some_iff.1 hv).1
   simpa [encSp] using this
  have h3 : j = 0 ∨ j = 1 := by omega
  rcases h3 with h3 | h3 <;> subst h3 <;> simp [encSp] at hv <;> subst hv
  ·exact hqi.1
  ·exact hqi.2
theorem plain_of_ok {r : Reach} {b0 : Nat} {n c : Nat} {A : Option Addr} (h : Cell.okWide Tryz.prog w r b0 94 (.slice A n c)) : plainA A := by
 intro a ha
 subst ha
 unfold Cell.okWide at h
 rw [Tryz.underlying94] at h
 simp only [] at h
 unfold Cell.ok at h
 rw [Tryz.underlying94] at h
 simp only [] at h
 obtain ⟨_, _, _, hs, _⟩ := h
 exact ⟨a.block, a.off, by cases a; simp at hs; simp [hs]⟩
theorem none_of_ok {r : Reach} {b0 : Nat} {n c : Nat} {A : Option Addr} (h : Cell.okWide Tryz.prog w r b0 94 (.slice A n c)) : A = none → c = 0 := by
 intro ha
 subst ha
 unfold Cell.okWide at h
 rw [Tryz.underlying94] at h
 simp only [] at h
 unfold Cell.ok at h
 rw [Tryz.underlying94] at h
 cases c with
 | zero => rfl
 | succ c => cases n <;> simp at h
end
end Go.Proofs.YtmgekdggahoboaaGreatDoor