/- Walks of the hash: a stream, and what is added to it. -/
import Derived.Test.YtpjacgcaibaggaaGreatDoorProg
import Derived.Test.YtpjacgcaibaggaaGreatDoorExt
import Derived.WalkKit
import Derived.WalkSpells
import Derived.WalkLawsBesides
import Derived.Deep.QuietTactic
import Derived.BigQuiet
import Derived.Test.YtpjacgcaibaggaaGreatDoorHc
import Derived.Test.YtpjacgcaibaggaaGreatDoorStm
import Derived.Lib.IndexBytes
set_option linter.unusedVariables false
set_option linter.unusedSimpArgs false
namespace Go.Proofs.YtpjacgcaibaggaaGreatDoor
open Go.RowKit
open Go.Proofs

def Byt (l : List Int) : Prop := ∀ x ∈ l, 0 ≤ x ∧ x < 256
/-- A stream of message m is returned. -/
def StreamIs (m : List Int) (w : World) (e : Ending) (w' : World) : Prop := ∃ s blk, Sha.Holds s blk m ∧ Byt blk ∧ e = .returned (.agg (stC s blk m.length)) ∧ Ext w w'
/-- Between two rounds of Add: M is in the stream, r is left. -/
def AddRel (w : World) (all : List Int) (v : Value) (wr : World) : Prop :=
  ∃ (M : List Int) (r : ByteArray) (s : Sha.S8) (blk : List Int), M ++ bts r = all ∧ v = .string r ∧ Sha.Holds s blk M ∧ Byt blk ∧ Ext w wr ∧ RowAt wr w.heap.size (stC s blk M.length) ∧ RowAt wr (w.heap.size + 1) (stC zeroS (zeros32 64) 0)
def strSize : Value → Nat
  | .string r => r.size
  | _ => 0
theorem str_some (r : ByteArray) (h : 0 < r.size) : r.toList.isEmpty = false := by
  rw [ByteArray.toList_eq, List.isEmpty_eq_false_iff]
  intro e
  have : r.data.toList.length = 0 := by rw [e]; rfl
  have k : r.data.toList.length = r.size := by simp
  omega
theorem str_none (r : ByteArray) (h : r.size = 0) : r.toList.isEmpty = true := by
  rw [ByteArray.toList_eq, List.isEmpty_iff]
  apply List.eq_nil_of_length_eq_zero
  simpa using h
theorem u8_size (w : World) : (Go.sizeOf 5).run Tryz.prog w = .ok 1 w := by kernel_rfl
theorem fits_st (s : Sha.S8) (blk : List Int) (n : Int) (h : blk.length = 64) : fitsRow 73 (stC s blk n) = true := by
  have e : (stC s blk n).all (·.oneCell') = true := by
    rw [Array.all_eq_true_iff_forall_mem]
    intro x hx
    rw [← Array.mem_toList_iff, stC_list] at hx
    simp only [List.mem_append, List.mem_singleton, cells32, cells8, List.mem_map] at hx
    rcases hx with ⟨y, _, rfl⟩ | ⟨y, _, rfl⟩ | rfl <;> rfl
  unfold fitsRow
  rw [Bool.and_eq_true]
  exact ⟨by simp [stC_size h], e⟩
theorem st0_size : (stC zeroS (zeros32 64) 0).size = 73 := stC_size (zeros32_length 64)
theorem s0_size : (stC Sha.S0 (zeros32 64) 0).size = 73 := stC_size (zeros32_length 64)
theorem cells8_take (l : List Int) (n : Nat) : (cells8 l).toList.take n = (cells8 (l.take n)).toList := by simp [cells8]
theorem bts_drop (r : ByteArray) (n : Nat) : bts (r.extract n r.size) = (bts r).drop n := by
  unfold bts
  rw [Lib.extract_to_end, List.map_drop]
theorem extract_size (r : ByteArray) (n : Nat) : (r.extract n r.size).size = r.size - n := by
  rw [← bts_length, bts_drop, List.length_drop, bts_length]
theorem RowAt.copied {w : World} {b : Nat} {s : Sha.S8} {blk x : List Int} {n : Int} {p : Nat} (h : RowAt w b (stC s blk n)) (hl : blk.length = 64) (hp : p + x.length ≤ 64) : RowAt (w.setCells b (8 + p) (cells8 x).toList) b (stC s (Sha.over blk p x) n) := by
  have := h.sets (8 + p) (cells8 x).toList
  rwa [stC_lay_block _ _ _ _ _ hl hp] at this
theorem RowAt.counted {w : World} {b : Nat} {s : Sha.S8} {blk : List Int} {n n' : Int} (h : RowAt w b (stC s blk n)) (hl : blk.length = 64) : RowAt (w.setCell ⟨b, 72, none⟩ (.int .u64 n')) b (stC s blk n') := by
  have := h.set 72 (.int .u64 n')
  rwa [stC_set_n _ _ _ _ hl] at this
theorem RowAt.stated {w : World} {b : Nat} {s s' : Sha.S8} {blk : List Int} {n : Int} (h : RowAt w b (stC s blk n)) (hl : blk.length = 64) : RowAt (w.setCells b 0 (cells32 (s8l s')).toList) b (stC s' blk n) := by
  have := h.sets 0 (cells32 (s8l s')).toList
  rwa [stC_lay_state _ _ _ _ hl] at this
theorem byt_over {blk x : List Int} {p : Nat} (h : Byt blk) (k : Byt x) : Byt (Sha.over blk p x) := by
  intro y hy
  simp only [Sha.over, List.mem_append] at hy
  rcases hy with (hy | hy) | hy
  · exact h y (List.mem_of_mem_take hy)
  · exact k y hy
  · exact h y (List.mem_of_mem_drop hy)
theorem bts_byt (r : ByteArray) (n : Nat) : Byt ((bts r).take n) := fun x hx => bts_byte r x (List.mem_of_mem_take hx)
theorem build_st : ((((((((Tryz.zeroCells149.setIfInBounds 0 (Value.int .u32 1779033703)).setIfInBounds 1 (Value.int .u32 3144134277)).setIfInBounds 2 (Value.int .u32 1013904242)).setIfInBounds 3 (Value.int .u32 2773480762)).setIfInBounds 4 (Value.int .u32 1359893119)).setIfInBounds 5 (Value.int .u32 2600822924)).setIfInBounds 6 (Value.int .u32 528734635)).setIfInBounds 7 (Value.int .u32 1541459225)) = stC Sha.S0 (zeros32 64) 0 := by kernel_rfl
theorem fits_s0 : fitsRow 73 (stC Sha.S0 (zeros32 64) 0) = true := fits_st _ _ _ (zeros32_length 64)
attribute [local go_sem] st0_size build_st fits_s0
theorem zeros_byt (n : Nat) : Byt (zeros32 n) := fun x hx => by
  have := List.eq_of_mem_replicate hx
  omega
theorem begin_ok (w : World) : Calls Tryz.prog 95 #[] w (StreamIs [] w) := by
  go_enter Tryz.func95, Tryz.ntmps95
  go_wp2
  have r := (RowAt.new w (stC zeroS (zeros32 64) 0) 149).stored (n := 73) (ds := stC Sha.S0 (zeros32 64) 0) (by rw [s0_size, st0_size]) s0_size.symm (by omega)
  refine post_row strm_ty Tryz.results95 rfl rfl r ⟨Sha.S0, zeros32 64, Sha.holds_nil _ (zeros32_length 64), zeros_byt 64, rfl, (by (repeat (first | with_reducible exact Ext.refl _ | with_reducible exact Ext.refl _ | with_reducible refine Ext.drew ?_ | with_reducible refine Ext.drewN ?_ _ | with_reducible refine Ext.alloc ?_ _ | with_reducible refine Ext.onto ?_ _ | (with_reducible refine Ext.setCells ?_ ?_ _ _; rotate_left; focus (first | omega | (simp; done) | (simp; omega))) | (with_reducible refine Ext.setCell ?_ ?_ _; rotate_left; focus (first | omega | (simp; done) | (simp; omega))))))⟩

set_option maxRecDepth 100000 in
set_option maxHeartbeats 4000000 in
theorem add_ok (s : Sha.S8) (blk m : List Int) (t : ByteArray) (w : World) (h : Sha.Holds s blk m) (hb : Byt blk) (hk : Konst 0 w) (hlen : m.length + t.size < 1152921504606846976) :
    Calls Tryz.prog 96 #[.agg (stC s blk m.length), .string t] w (StreamIs (m ++ bts t) w) := by
  have HK := Lib.hid hk
  have H0 := Lib.hid h
  have HB := Lib.hid hb
  have HL := Lib.hid h.len
  have HA : Hid ((m ++ bts t).length < 1152921504606846976) := Lib.hid (by rw [List.length_append, bts_length]; exact hlen)
  clear hk h hb hlen
  go_enter Tryz.func96, Tryz.ntmps96
  go_wp2
  go_loopw [1] (AddRel w (m ++ bts t)) (fun v _ => strSize v)
  case atStart => exact ⟨m, t, s, blk, rfl, rfl, H0.out, HB.out, (by (repeat (first | with_reducible exact Ext.refl _ | with_reducible refine Ext.drew ?_ | with_reducible refine Ext.drewN ?_ _ | with_reducible refine Ext.alloc ?_ _ | with_reducible refine Ext.onto ?_ _ | with_reducible refine Ext.setCell ?_ ?_ _)); all_goals (simp; try omega)), (by (repeat (first | with_reducible exact rfl | with_reducible refine RowAt.drew ?_ | with_reducible refine RowAt.later ?_ _ | with_reducible exact RowAt.newAt (by first | rfl | omega | (simp [later_size, setCells_size]; done) | (simp [later_size, setCells_size]; omega)) | with_reducible refine RowAt.alloc ?_ _ | with_reducible apply RowAt.store | with_reducible refine RowAt.others ?_ ?_ _ _ | with_reducible refine RowAt.other ?_ ?_ _)); all_goals first | omega | (simp; done) | (simp; omega) | (simp [go_sem]; done)), (by (repeat (first | with_reducible exact rfl | with_reducible refine RowAt.drew ?_ | with_reducible refine RowAt.later ?_ _ | with_reducible exact RowAt.newAt (by first | rfl | omega | (simp [later_size, setCells_size]; done) | (simp [later_size, setCells_size]; omega)) | with_reducible refine RowAt.alloc ?_ _ | with_reducible apply RowAt.store | with_reducible refine RowAt.others ?_ ?_ _ _ | with_reducible refine RowAt.other ?_ ?_ _)); all_goals first | omega | (simp; done) | (simp; omega) | (simp [go_sem]; done))⟩
  case round =>
    obtain ⟨M, r, s, blk, he, rfl, hh, hb, hx, h1, h2⟩ := hrel
    have HE := Lib.hid he
    have HH := Lib.hid hh
    have HBy := Lib.hid hb
    have HX := Lib.hid hx
    have H1 := Lib.hid h1
    have H2 := Lib.hid h2
    have hn : M.length + r.size < 1152921504606846976 := by have := HA.out; rw [← he, List.length_append, bts_length] at this; exact this
    have hl64 := hh.len
    have hc72 : wr.cell? ⟨w.heap.size, 72, none⟩ = some (.int .u64 M.length) := (h1.cell 72).trans (stC_n _ _ _ hl64)
    have hf : ∀ i, wr.frozen? ⟨w.heap.size, i, none⟩ = false := h1.free
    have hlt := h1.lt
    clear he hh hb hx h2
    by_cases h0 : 0 < r.size
    · obtain ⟨p, hp⟩ : ∃ p, M.length % 64 = p := ⟨_, rfl⟩
      have hp64 : p < 64 := by omega
      have hple : (p : Int) ≤ 64 := by omega
      have hmod : (M.length : Int) % 64 = (p : Int) := by omega
      have HP := Lib.hid hp
      have hem := str_some r h0
      have hroom : roomOf wr w.heap.size (8 + p) (min r.size (64 - p)) = true := by rw [h1.room, stC_size hl64]; simp; omega
      clear hp h1
      by_cases hfull : 64 - p ≤ r.size
      · have hmin : min r.size (64 - p) = 64 - p := by omega
        go_wp2_with (with_reducible refine wpList_copy_str (.tmp 15) (.tmp 16) 118 9 5 (by kernel_rfl) u8_size w.heap.size (8 + p) (64 - p) (64 - p) rfl r rfl hroom ?_)
        have hxl : ((bts r).take (64 - p)).length = 64 - p := by rw [List.length_take, bts_length]; omega
        refine wp_world (fun W => Ext w W ∧ RowAt W w.heap.size (stC s (Sha.over blk p ((bts r).take (64 - p))) ((M ++ (bts r).take (64 - p)).length : Nat)) ∧ RowAt W (w.heap.size + 1) (stC zeroS (zeros32 64) 0))
          ⟨(by (repeat (first | with_reducible exact HX.out | with_reducible exact Ext.refl _ | with_reducible refine Ext.drew ?_ | with_reducible refine Ext.drewN ?_ _ | with_reducible refine Ext.alloc ?_ _ | with_reducible refine Ext.onto ?_ _ | (with_reducible refine Ext.setCells ?_ ?_ _ _; rotate_left; focus (first | omega | (simp; done) | (simp; omega))) | (with_reducible refine Ext.setCell ?_ ?_ _; rotate_left; focus (first | omega | (simp; done) | (simp; omega)))))), by rw [cells8_take, List.length_append, hxl]; push_cast; exact (H1.out.copied hl64 (by omega)).counted (Sha.over_length hl64 (by omega)), (by (repeat (first | with_reducible exact H2.out | with_reducible refine RowAt.drew ?_ | with_reducible refine RowAt.later ?_ _ | with_reducible exact RowAt.newAt (by first | rfl | omega | (simp [later_size, setCells_size]; done) | (simp [later_size, setCells_size]; omega)) | with_reducible refine RowAt.alloc ?_ _ | with_reducible apply RowAt.store | with_reducible refine RowAt.others ?_ ?_ _ _ | with_reducible refine RowAt.other ?_ ?_ _)); all_goals first | omega | (simp; done) | (simp; omega) | (simp [go_sem]; done))⟩ ?_
        rintro W ⟨hx, h1, h2⟩
        have HH2 := Lib.hid (Sha.holds_full HH.out (x := (bts r).take (64 - p)) (by rw [HP.out, hxl]; omega))
        rw [HP.out] at HH2
        have hbl : (Sha.over blk p ((bts r).take (64 - p))).length = 64 := Sha.over_length hl64 (by omega)
        have HB2 := Lib.hid (byt_over (p := p) HBy.out (bts_byt r (64 - p)))
        have HE2 : Hid (M ++ (bts r).take (64 - p) ++ bts (r.extract (64 - p) r.size) = m ++ bts t) := Lib.hid (by rw [bts_drop, List.append_assoc, List.take_append_drop]; exact HE.out)
        have hsz := extract_size r (64 - p)
        have HSZ := Lib.hid hsz
        generalize M ++ (bts r).take (64 - p) = M2 at *
        generalize Sha.over blk p ((bts r).take (64 - p)) = blk2 at *
        generalize r.extract (64 - p) r.size = r2 at *
        have HX2 := Lib.hid hx
        have H12 := Lib.hid h1
        have H22 := Lib.hid h2
        have hr8 : rowOf W w.heap.size 0 8 = some (cells32 (s8l s)) := by rw [h1.row, if_neg (by omega), stC_state _ _ _ hbl]
        have hm8 : roomOf W w.heap.size 0 8 = true := by rw [h1.room, stC_size hbl]; rfl
        have hft : fitsRow 8 (cells32 (s8l (Sha.comp s blk2))) = true := fits32 rfl
        have hlW := h1.lt
        clear hx h1 h2 hc72 hf hmod hroom hsz hem
        refine wp_region_later_tail 6 (by kernel_rfl) (by kernel_rfl) ?_
        simp only [List.take_succ_cons, List.take_zero, List.drop_succ_cons, List.drop_zero]
        repeat (first | go_big_quiet_step ((go_at_call 125; exact quietE (compress_ok s blk2 _ 8 _ _ HH.out.ok (HK.out.ext (HX2.out.onto _)) (by omega) (by rw [later_size]; omega) (fun i hi => getD_byte HB2.out i) (fun i hi => ((H12.out.later _).cell _).trans (stC_byte _ _ _ _ hbl hi))))) | quiet_step ((go_at_call 125; exact quietE (compress_ok s blk2 _ 8 _ _ HH.out.ok (HK.out.ext (HX2.out.onto _)) (by omega) (by rw [later_size]; omega) (fun i hi => getD_byte HB2.out i) (fun i hi => ((H12.out.later _).cell _).trans (stC_byte _ _ _ _ hbl hi))))))
        refine wpQuiet_nil ?_
        rintro _ ⟨xq, rfl⟩
        go_wp2
        go_roundw
        case rel => exact ⟨M2, r2, Sha.comp s blk2, blk2, HE2.out, rfl, HH2.out, HB2.out, (by (repeat (first | with_reducible exact HX2.out | with_reducible exact Ext.refl _ | with_reducible refine Ext.drew ?_ | with_reducible refine Ext.drewN ?_ _ | with_reducible refine Ext.alloc ?_ _ | with_reducible refine Ext.onto ?_ _ | (with_reducible refine Ext.setCells ?_ ?_ _ _; rotate_left; focus (first | omega | (simp; done) | (simp; omega))) | (with_reducible refine Ext.setCell ?_ ?_ _; rotate_left; focus (first | omega | (simp; done) | (simp; omega)))))), (H12.out.later _).stated hbl, (by (repeat (first | with_reducible exact H22.out | with_reducible refine RowAt.drew ?_ | with_reducible refine RowAt.later ?_ _ | with_reducible exact RowAt.newAt (by first | rfl | omega | (simp [later_size, setCells_size]; done) | (simp [later_size, setCells_size]; omega)) | with_reducible refine RowAt.alloc ?_ _ | with_reducible apply RowAt.store | with_reducible refine RowAt.others ?_ ?_ _ _ | with_reducible refine RowAt.other ?_ ?_ _)); all_goals first | omega | (simp; done) | (simp; omega) | (simp [go_sem]; done))⟩
        case measure => show r2.size < r.size; have := HSZ.out; omega
      · have hmin : min r.size (64 - p) = r.size := by omega
        have hne : ((p : Int) + (r.size : Int) == 64) = false := by rw [beq_eq_false_iff_ne]; omega
        go_wp2_with (with_reducible refine wpList_copy_str (.tmp 15) (.tmp 16) 118 9 5 (by kernel_rfl) u8_size w.heap.size (8 + p) (64 - p) (64 - p) rfl r rfl hroom ?_)
        have hxl : ((bts r).take r.size).length = r.size := by rw [List.length_take, bts_length]; omega
        have HH2 := Lib.hid (Sha.holds_more HH.out (x := (bts r).take r.size) (by rw [HP.out, hxl]; omega))
        rw [HP.out] at HH2
        have HE2 : Hid (M ++ (bts r).take r.size ++ bts ByteArray.empty = m ++ bts t) := Lib.hid (by
          have e1 : bts ByteArray.empty = [] := rfl
          rw [e1, List.append_nil, List.take_of_length_le (by rw [bts_length]; omega)]
          exact HE.out)
        go_roundw
        case rel => exact ⟨M ++ (bts r).take r.size, ByteArray.empty, s, Sha.over blk p ((bts r).take r.size), HE2.out, rfl, HH2.out, byt_over HBy.out (bts_byt r _), (by (repeat (first | with_reducible exact HX.out | with_reducible exact Ext.refl _ | with_reducible refine Ext.drew ?_ | with_reducible refine Ext.drewN ?_ _ | with_reducible refine Ext.alloc ?_ _ | with_reducible refine Ext.onto ?_ _ | (with_reducible refine Ext.setCells ?_ ?_ _ _; rotate_left; focus (first | omega | (simp; done) | (simp; omega))) | (with_reducible refine Ext.setCell ?_ ?_ _; rotate_left; focus (first | omega | (simp; done) | (simp; omega)))))), by rw [cells8_take, List.length_append, hxl]; push_cast; exact (H1.out.copied hl64 (by omega)).counted (Sha.over_length hl64 (by omega)), (by (repeat (first | with_reducible exact H2.out | with_reducible refine RowAt.drew ?_ | with_reducible refine RowAt.later ?_ _ | with_reducible exact RowAt.newAt (by first | rfl | omega | (simp [later_size, setCells_size]; done) | (simp [later_size, setCells_size]; omega)) | with_reducible refine RowAt.alloc ?_ _ | with_reducible apply RowAt.store | with_reducible refine RowAt.others ?_ ?_ _ _ | with_reducible refine RowAt.other ?_ ?_ _)); all_goals first | omega | (simp; done) | (simp; omega) | (simp [go_sem]; done))⟩
        case measure => show 0 < r.size; omega
    · have hem := str_none r (by omega)
      have hrow : rowOf wr w.heap.size 0 73 = some (stC s blk M.length) := h1.all (stC_size hl64).symm (by omega)
      have hrm : roomOf wr (w.heap.size + 1) 0 73 = true := by rw [H2.out.room, stC_size (zeros32_length 64)]; rfl
      have hft := fits_st s blk M.length hl64
      have rr := Lib.hid (H2.out.stored (n := 73) (ds := stC s blk M.length) (by rw [stC_size hl64, stC_size (zeros32_length 64)]) (stC_size hl64).symm (by omega))
      have HQ : Hid (M = m ++ bts t) := by
        have e : bts r = [] := List.eq_nil_of_length_eq_zero (by rw [bts_length]; omega)
        have := HE.out
        rw [e, List.append_nil] at this
        exact Lib.hid this
      clear h1
      go_wp2_with fail
      refine post_row strm_ty Tryz.results96 rfl rfl rr.out ⟨s, blk, by rw [← HQ.out]; exact HH.out, HBy.out, by rw [← HQ.out], (by (repeat (first | with_reducible exact HX.out | with_reducible exact Ext.refl _ | with_reducible refine Ext.drew ?_ | with_reducible refine Ext.drewN ?_ _ | with_reducible refine Ext.alloc ?_ _ | with_reducible refine Ext.onto ?_ _ | (with_reducible refine Ext.setCells ?_ ?_ _ _; rotate_left; focus (first | omega | (simp; done) | (simp; omega))) | (with_reducible refine Ext.setCell ?_ ?_ _; rotate_left; focus (first | omega | (simp; done) | (simp; omega))))))⟩
end Go.Proofs.YtpjacgcaibaggaaGreatDoor
