/- What an epoch makes of a copy: both sides. -/
import Derived.WalkKit
import Derived.WalkSpells
import Derived.WalkLawsBesides
import Derived.Deep.QuietTactic
import Derived.BigQuiet
import Derived.Test.YtpojnhikgjcgmaaGreatDoorENq
import Derived.Test.YtpojnhikgjcgmaaGreatDoorENe
import Derived.Test.YtpojnhikgjcgmaaGreatDoorEYj
set_option maxRecDepth 100000
set_option maxHeartbeats 64000000
set_option linter.unusedVariables false
set_option linter.unusedSimpArgs false
namespace Go.Proofs.YtpojnhikgjcgmaaGreatDoor
open Go.RowKit Go.Shelf
open Go.Proofs
def hasT (ls : List ByteArray) (v : ByteArray) : Bool := (ls.map fun s => s.data.toList).contains v.data.toList
theorem data_eq (a b : ByteArray) : (a.toList == b.toList) = decide (a.data.toList = b.data.toList) := by
 rw [Lib.toList_data, Lib.toList_data, Bool.eq_iff_iff]
 simp
theorem hasT_hit {ls : List ByteArray} {v : ByteArray} {k : Nat} (h : k < ls.length) (he : ls[k].data.toList = v.data.toList) : hasT ls v = true := by
 unfold hasT
 rw [List.contains_iff_mem, ← he]
 exact List.mem_map_of_mem (f := fun s : ByteArray => s.data.toList) (List.getElem_mem h)
theorem hasT_miss {ls : List ByteArray} {v : ByteArray} {k : Nat} (h : k < ls.length) (hj : hasT (ls.take k) v = false) (he : ls[k].data.toList ≠ v.data.toList) : hasT (ls.take (k + 1)) v = false := by
 unfold hasT at hj ⊢
 rw [List.take_succ_eq_append_getElem h, List.map_append]
 simp only [List.contains_eq_mem, List.map_cons, List.map_nil, List.mem_append, List.mem_singleton, decide_eq_false_iff_not] at hj ⊢
 rintro (g | g)
 ·exact hj g
 ·exact he g.symm
theorem sindexT_any (A : Option Addr) (c : Nat) (ls : List ByteArray) (v : ByteArray) (w : World) (hlen : ls.length ≤ 140737488355328) (hr : ReadsStr w w.heap.size A ls) :
  Calls Tryz.prog 174 #[.slice A ls.length c, .string v] w fun e w' => ∃ i : Int, e = .returned (.int .i64 i) ∧ decide (i ≥ 0) = hasT ls v ∧ Ext w w' := by
 have HR := lh hr
 clear hr
 go_enter Tryz.func174, Tryz.ntmps174
 go_wp2
 go_loopw [8] (fun i wr => ∃ k : Nat, k ≤ ls.length ∧ i = .int .i64 k ∧ Ext w wr ∧ Hid (hasT (ls.take k) v = false)) (fun i _ => ls.length - (intOf i).toNat)
 case atStart => exact ⟨0, Nat.zero_le _, rfl, eR _, lh rfl⟩
 case round =>
  obtain ⟨k, hk, rfl, hx, HJ⟩ := hrel
  have HX := lh hx
  by_cases hlt : k < ls.length
  ·obtain ⟨b, off, rfl, hb, c1⟩ := ReadsStr.cell (HR.out.on hx) k hlt
   have HN : Hid (ls[k].data.toList ≠ v.data.toList → hasT (ls.take (k + 1)) v = false) := lh (hasT_miss hlt HJ.out)
   have HM : Hid (ls[k].data.toList = v.data.toList → hasT ls v = true) := lh (hasT_hit hlt)
   have HE := lh (data_eq v ls[k])
   generalize ls[k] = s at *
   clear hx
   by_cases hn : s.data.toList = v.data.toList
   ·have HM2 := lh (HM.out hn)
    have hee : (v.toList == s.toList) = true := by rw [HE.out]; simp [hn]
    clear HN HM hn HE
    go_wp2
    go_ret
    exact ⟨k, rfl, by rw [HM2.out]; simp, (by (with_reducible repeat first|exact HX.out|exact eR _|apply eD|apply eN|apply eA|apply eO|apply eS|apply eC);all_goals first|omega|simp <;> omega)⟩
   ·have HN2 := lh (HN.out hn)
    have hee : (v.toList == s.toList) = false := by rw [HE.out]; exact decide_eq_false (fun h => hn h.symm)
    clear HN HM hn HE
    go_wp2
    go_roundw
    case rel => exact ⟨k + 1, by omega, by go_num, (by (with_reducible repeat first|exact HX.out|exact eR _|apply eD|apply eN|apply eA|apply eO|apply eS|apply eC);all_goals first|omega|simp <;> omega), HN2⟩
    case measure => simp [intOf]; omega
  ·have HQ : Hid (hasT ls v = false) := lh (by have h := HJ.out; rwa [List.take_of_length_le (by omega)] at h)
   go_wp2
   go_ret
   exact ⟨-1, rfl, by rw [HQ.out]; decide, HX.out⟩
theorem scontainsT_any (A : Option Addr) (c : Nat) (ls : List ByteArray) (v : ByteArray) (w : World) (hlen : ls.length ≤ 140737488355328) (hr : ReadsStr w w.heap.size A ls) :
  Calls Tryz.prog 127 #[.slice A ls.length c, .string v] w fun e w' => e = .returned (.bool (hasT ls v)) ∧ Ext w w' := by
 have H := lh (sindexT_any A c ls v w hlen hr)
 clear hr
 generalize hasT ls v = R at *
 go_enter Tryz.func127, Tryz.ntmps127
 go_wp2_with (go_at_call 174; refine H.out.mono ?_; rintro e w' ⟨i, rfl, h1, hx⟩; obtain ⟨xl, rfl⟩ := hx.asLater; clear hx)
 go_ret
 exact ⟨ret_bool (by first | exact h1 | (simp; done) | (simp; exact h1)), (by (with_reducible repeat first|exact eR _|apply eD|apply eN|apply eA|apply eO|apply eS|apply eC);all_goals first|omega|simp <;> omega)⟩
theorem splitT_of {s : ByteArray} {ls : List ByteArray} (h0 : s.size ≠ 0) (h1 : Tg.tagsB (bsT s) = true → s.size = 0 ∧ ls = [] ∨ Tg.Cut 44 (bsT s) (ls.map bsT)) (h2 : Tg.tagsB (bsT s) = false → ls = []) : ls.map bsT = splitT (bsT s) := by
 have hb : bsT s ≠ [] := fun e => h0 (by rw [← bsT_size, e]; rfl)
 unfold splitT
 rw [if_neg hb]
 cases ht : Tg.tagsB (bsT s) with
 | true =>
  rw [if_pos rfl]
  rcases h1 ht with ⟨h, _⟩ | h
  ·exact absurd h h0
  ·exact Ad.pieces_of h
 | false => rw [if_neg Bool.false_ne_true, h2 ht]; rfl
theorem bs_empty {s : ByteArray} (h0 : s.size = 0) : s = ByteArray.empty := by
 apply ByteArray.ext
 apply Array.toList_inj.1
 exact List.eq_nil_of_length_eq_zero ((bsT_size s).trans h0)
def SplitIs (s : ByteArray) (e : Ending) (w' : World) : Prop := ∃ (A : Option Addr) (c : Nat) (ls : List ByteArray) (n : Int), e = .returned (.tuple #[.slice A ls.length c, .int .i64 n]) ∧ ReadsStr w' w'.heap.size A ls ∧ ls.map bsT = splitT (bsT s) ∧ ls.length ≤ s.size + 1
theorem splitT_any (s : ByteArray) (w : World) (hs : s.size ≤ 900000) :
  Calls Tryz.prog 126 #[.string s] w fun e w' => SplitIs s e w' ∧ Ext w w' := by
 by_cases h0 : s.size = 0
 ·have e := bs_empty h0
  subst e
  clear h0
  go_enter Tryz.func126, Tryz.ntmps126
  go_wp2
  refine bodyPost_ret (v := .tuple #[.slice none 0 0, .int .i64 0]) ?_ rfl ⟨⟨none, 0, [], 0, rfl, Reads.nil _ _ _ _ _, (if_pos (show bsT ByteArray.empty = [] from rfl)).symm, by simp⟩, (by (with_reducible repeat first|exact eR _|apply eD|apply eN|apply eA|apply eO|apply eS|apply eC);all_goals first|omega|simp <;> omega)⟩
  simp [results, Tryz.results126, go_sem, ↓IntWalk.iteOmega]
 ·refine (asplit_any s w hs).mono ?_
  rintro e w' ⟨⟨A, c, ls, rfl, h1, h2, h3, h4⟩, hx⟩
  exact ⟨⟨A, c, ls, _, rfl, h1, splitT_of h0 h2 h3, h4⟩, hx⟩
theorem hasT_is {ls : List ByteArray} {v s : ByteArray} (h : ls.map bsT = splitT (bsT s)) : hasT ls v = (splitT (bsT s)).contains (bsT v) := by rw [← h]; rfl
theorem hasTag_any (s v : ByteArray) (w : World) (hs : s.size ≤ 900000) :
  Calls Tryz.prog 68 #[.string s, .string v] w fun e w' => e = .returned (.bool ((splitT (bsT s)).contains (bsT v))) ∧ Ext w w' := by
 have H := lh (splitT_any s w hs)
 obtain ⟨R, hR⟩ : ∃ R, (splitT (bsT s)).contains (bsT v) = R := ⟨_, rfl⟩
 rw [hR]
 go_enter Tryz.func68, Tryz.ntmps68
 go_wp2_with (go_at_call 126; refine (show Hid _ from ?_).out)
 refine lh ?_
 refine H.out.mono ?_
 rintro e w1 ⟨⟨A, c, ls, n, rfl, h1, h2, h3⟩, hx⟩
 have HC := lh (fun (W : World) (hx : Ext w1 W) => scontainsT_any A c ls v W (by omega) (h1.on hx))
 rw [hasT_is h2, hR] at HC
 have HX := lh hx
 clear h1 h2 hx H hR
 go_wp2_with (go_at_call 127; refine (HC.out _ (by (with_reducible repeat first|exact eR _|apply eD|apply eN|apply eA|apply eO|apply eS|apply eC);all_goals first|omega|simp <;> omega)).mono ?_; rintro e w' ⟨rfl, hxl⟩; obtain ⟨xl, rfl⟩ := hxl.asLater; clear hxl)
 refine bodyPost_ret (v := .bool R) ?_ rfl ⟨rfl, (by (with_reducible repeat first|exact HX.out|exact eR _|apply eD|apply eN|apply eA|apply eO|apply eS|apply eC);all_goals first|omega|simp <;> omega)⟩
 simp [results, Tryz.results68, go_sem, ↓IntWalk.iteOmega]
def RSplitIs (s : ByteArray) (e : Ending) (w' : World) : Prop := ∃ (A : Option Addr) (c : Nat) (ls : List ByteArray) (n : Int), e = .returned (.agg #[.slice A ls.length c, .int .i64 n]) ∧ ReadsStr w' w'.heap.size A ls ∧ ls.map bsT = splitT (bsT s) ∧ ls.length ≤ s.size + 1
theorem rsplitT_any (s : ByteArray) (w : World) (hs : s.size ≤ 900000) :
  Calls Tryz.prog 129 #[.string s] w fun e w' => RSplitIs s e w' ∧ Ext w w' := by
 by_cases h0 : s.size = 0
 ·have e := bs_empty h0
  subst e
  clear h0
  go_enter Tryz.func129, Tryz.ntmps129
  go_wp2
  refine post_row lst_ty Tryz.results129 rfl rfl ((RowAt.new _ _ _).all rfl (by omega)) ⟨⟨none, 0, [], 0, rfl, Reads.nil _ _ _ _ _, (if_pos (show bsT ByteArray.empty = [] from rfl)).symm, by simp⟩, (by (with_reducible repeat first|exact eR _|apply eD|apply eN|apply eA|apply eO|apply eS|apply eC);all_goals first|omega|simp <;> omega)⟩
 ·refine (rSplit_any s w (by omega)).mono ?_
  rintro e w' ⟨⟨A, c, ls, rfl, h1, h2, h3, h4⟩, hx⟩
  exact ⟨⟨A, c, ls, _, rfl, h1, splitT_of h0 h2 h3, h4⟩, hx⟩
theorem lst_fld0 (A : Option Addr) (n c : Nat) (m : Int) (W : World) : (Instr.field 186 (.agg #[.slice A n c, .int .i64 m]) 0).run Tryz.prog W = .ok (.slice A n c) W := by kernel_rfl
section
attribute [local go_sem] lst_fld0
theorem rhasTag_any (s v : ByteArray) (w : World) (hs : s.size ≤ 900000) :
  Calls Tryz.prog 72 #[.string s, .string v] w fun e w' => e = .returned (.bool ((splitT (bsT s)).contains (bsT v))) ∧ Ext w w' := by
 have H := lh (rsplitT_any s w hs)
 obtain ⟨R, hR⟩ : ∃ R, (splitT (bsT s)).contains (bsT v) = R := ⟨_, rfl⟩
 rw [hR]
 go_enter Tryz.func72, Tryz.ntmps72
 go_wp2_with (go_at_call 129; refine (show Hid _ from ?_).out)
 refine lh ?_
 refine H.out.mono ?_
 rintro e w1 ⟨⟨A, c, ls, n, rfl, h1, h2, h3⟩, hx⟩
 have HR := lh h1
 have HX := lh hx
 have HH := lh ((hasT_is (v := v) h2).trans hR)
 have hls : ls.length ≤ 900001 := by omega
 clear h1 h2 h3 hx H hR
 go_wp2
 go_loopw [6] (fun i wr => ∃ k : Nat, k ≤ ls.length ∧ i = .int .i64 k ∧ Ext w1 wr ∧ Hid (hasT (ls.take k) v = false)) (fun i _ => ls.length - (intOf i).toNat)
 case atStart => exact ⟨0, Nat.zero_le _, rfl, (by (with_reducible repeat first|exact eR _|apply eD|apply eN|apply eA|apply eO|apply eS|apply eC);all_goals first|omega|simp <;> omega), lh rfl⟩
 case round =>
  obtain ⟨k, hk, rfl, hx, HJ⟩ := hrel
  have HX2 := lh hx
  by_cases hlt : k < ls.length
  ·obtain ⟨b, off, rfl, hb, c1⟩ := ReadsStr.cell (HR.out.on hx) k hlt
   have HN : Hid (ls[k].data.toList ≠ v.data.toList → hasT (ls.take (k + 1)) v = false) := lh (hasT_miss hlt HJ.out)
   have HM : Hid (ls[k].data.toList = v.data.toList → R = true) := lh (fun h => HH.out ▸ hasT_hit hlt h)
   have HE := lh (data_eq ls[k] v)
   generalize ls[k] = t at *
   clear hx
   by_cases hn : t.data.toList = v.data.toList
   ·have HM2 := lh (HM.out hn)
    have hee : (t.toList == v.toList) = true := by rw [HE.out]; simp [hn]
    clear HN HM hn HE
    go_wp2
    go_ret
    exact ⟨ret_bool HM2.out.symm, (by (with_reducible repeat first|exact HX.out.trans HX2.out|exact eR _|apply eD|apply eN|apply eA|apply eO|apply eS|apply eC);all_goals first|omega|simp <;> omega)⟩
   ·have HN2 := lh (HN.out hn)
    have hee : (t.toList == v.toList) = false := by rw [HE.out]; exact decide_eq_false hn
    clear HN HM hn HE
    go_wp2
    go_roundw
    case rel => exact ⟨k + 1, by omega, by go_num, (by (with_reducible repeat first|exact HX2.out|exact eR _|apply eD|apply eN|apply eA|apply eO|apply eS|apply eC);all_goals first|omega|simp <;> omega), HN2⟩
    case measure => simp [intOf]; omega
  ·have HQ : Hid (R = false) := lh (by have h := HJ.out; rw [List.take_of_length_le (by omega)] at h; rw [← HH.out]; exact h)
   go_wp2
   go_ret
   exact ⟨ret_bool HQ.out.symm, (by (with_reducible repeat first|exact HX.out.trans HX2.out|exact eR _|apply eD|apply eN|apply eA|apply eO|apply eS|apply eC);all_goals first|omega|simp <;> omega)⟩
end
end Go.Proofs.YtpojnhikgjcgmaaGreatDoor

namespace Go.Proofs.YtpojnhikgjcgmaaGreatDoor
open Go.RowKit Go.Shelf
open Go.Proofs
open Ad (Bs)
theorem beg_take (p a : ByteArray) : decide ((bsT a).take (bsT p).length = bsT p) = begB a p := by
 unfold begB
 rw [bsT_size]
 rfl
theorem rest_drop {p a : ByteArray} (h : begB a p = true) : bsT (restT a p) = (bsT a).drop (bsT p).length := by
 unfold restT
 rw [if_pos h, bsT_rest, bsT_size]
theorem restB_none {t : ByteArray} (h : t.size = 0) : restB (bsT t) = true := by rw [bs_empty h]; rfl
theorem restB_some {t : ByteArray} (h : 0 < t.size) : restB (bsT t) = (((t.data[0]'h).toNat : Int) == 47 || ((t.data[0]'h).toNat : Int) == 63) := by
 have e : bsT t = (t.data[0]'h) :: (bsT t).drop 1 := by
  have h1 : 0 < (bsT t).length := by rw [bsT_size]; exact h
  have := List.drop_eq_getElem_cons h1
  rw [List.drop_zero] at this
  exact this
 rw [e]
 generalize t.data[0] = x
 show (x == 47 || x == 63) = _
 have k : ∀ n : Nat, n < 256 → (x == UInt8.ofNat n) = ((x.toNat : Int) == (n : Int)) := by
  intro n hn
  rw [Bool.eq_iff_iff, beq_iff_eq, beq_iff_eq]
  constructor
  ·rintro rfl; simp; omega
  ·intro h2; apply UInt8.toNat_inj.1; rw [UInt8.toNat_ofNat']; omega
 have k1 := k 47 (by omega)
 have k2 := k 63 (by omega)
 rw [show (47 : UInt8) = UInt8.ofNat 47 from rfl, show (63 : UInt8) = UInt8.ofNat 63 from rfl, k1, k2]
 rfl
section
attribute [local go_sem] adr_fits adr_sub0
theorem under_any (p a : ByteArray) (w : World) (hp : p.size ≤ 900000) (ha : a.size ≤ 900000) :
  Calls Tryz.prog 65 #[.string p, .string a] w fun e w' => e = .returned (.bool (underB (bsT p) (bsT a))) ∧ Ext w w' := by
 have HR1 := lh (fun W => read_any p W hp)
 have HR2 := lh (fun W => read_any a W ha)
 have HU : Hid (underB (bsT p) (bsT a) = (Ad.canonB (bsT p) && Ad.canonB (bsT a) && !((bsT p).contains 63) && begB a p && restB ((bsT a).drop (bsT p).length))) := lh (by rw [← beg_take]; rfl)
 have HQ : Hid (Ad.canonB (bsT p) = true → decide (((Ad.parseA (bsT p)).query.length : Int) > 0) = (bsT p).contains 63) := lh canon_query
 have HCP := lh (fun W => cutPrefix_any a p W)
 have HRD : Hid (begB a p = true → bsT (restT a p) = (bsT a).drop (bsT p).length) := lh rest_drop
 generalize underB (bsT p) (bsT a) = R at *
 generalize Ad.parseA (bsT p) = PA at *
 generalize Ad.parseA (bsT a) = PB at *
 generalize (bsT p).contains 63 = b3 at *
 generalize Ad.canonB (bsT p) = b1 at *
 generalize Ad.canonB (bsT a) = b2 at *
 generalize begB a p = b4 at *
 generalize restT a p = T at *
 generalize (bsT a).drop (bsT p).length = D at *
 go_enter Tryz.func65, Tryz.ntmps65
 go_wp2_with (go_at_call 122; refine (show Hid _ from ?_).out)
 refine lh ?_
 refine (HR1.out _).mono ?_
 rintro e w1 ⟨⟨v, rfl, cu, A, c, ls, A2, c2, qs, rfl, hA, _, _⟩, hx1⟩
 have hsz1 := hx1.size
 have HX1 : Hid (Ext w w1) := lh (by exact hx1)
 have hql : PA.query.length = qs.length := by rw [← hA]; simp
 rw [hql] at HQ
 clear hA hql hx1 HR1
 go_upto_region 2 with (fail)
 refine wp_world (fun W => Ext w W ∧ RowAt W w1.heap.size #[.string cu, .slice A ls.length c, .slice A2 qs.length c2]) ⟨(by (with_reducible repeat first|exact HX1.out|exact eR _|apply eD|apply eN|apply eA|apply eO|apply eS|apply eC);all_goals first|omega|simp <;> omega), RowAt.store (RowAt.new _ _ _) rfl⟩ ?_
 generalize w1.heap.size = g
 rintro W2 ⟨x2, r2⟩
 have HX2 := lh x2
 have HW2 := lh r2
 clear x2 r2 HX1
 go_wp2_with (go_at_call 122; refine (show Hid _ from ?_).out)
 refine lh ?_
 refine (HR2.out _).mono ?_
 rintro e w3 ⟨⟨v, rfl, cu', A', c', ls', A2', c2', qs', rfl, _, _, _⟩, hx3⟩
 have HX3 : Hid (Ext w w3) := lh (HX2.out.trans hx3)
 have hsz3 := HX3.out.size
 have HW3 := lh (HW2.out.ext hx3)
 clear hx3 HR2 HW2 HX2
 have hg3 := HW3.out.lt
 go_upto_region 3 with (fail)
 refine wp_world (fun W => Ext w W ∧ W.cell? ⟨g, 2, none⟩ = some (.slice A2 qs.length c2)) ⟨(by (with_reducible repeat first|exact HX3.out|exact eR _|apply eD|apply eN|apply eA|apply eO|apply eS|apply eC);all_goals first|omega|simp <;> omega), ?_⟩ ?_
 ·exact (RowAt.others (RowAt.alloc HW3.out _) (by omega) _ _).cell 2
 rintro W4 ⟨x4, q2⟩
 have HX4 := lh x4
 clear x4 HX3 HW3 hg3
 cases b1 with
 | false =>
  have HF : Hid (R = false) := lh (by rw [HU.out]; rfl)
  go_wp2
  go_ret
  exact ⟨ret_bool HF.out.symm, (by (with_reducible repeat first|exact HX4.out|exact eR _|apply eD|apply eN|apply eA|apply eO|apply eS|apply eC);all_goals first|omega|simp <;> omega)⟩
 | true =>
  cases b2 with
  | false =>
   have HF : Hid (R = false) := lh (by rw [HU.out]; rfl)
   go_wp2
   go_ret
   exact ⟨ret_bool HF.out.symm, (by (with_reducible repeat first|exact HX4.out|exact eR _|apply eD|apply eN|apply eA|apply eO|apply eS|apply eC);all_goals first|omega|simp <;> omega)⟩
  | true =>
   have hq : decide ((qs.length : Int) > 0) = b3 := HQ.out rfl
   cases b3 with
   | true =>
    have hq' : 0 < qs.length := by simpa using hq
    have HF : Hid (R = false) := lh (by rw [HU.out]; simp)
    clear hq HQ HU
    go_wp2
    go_ret
    exact ⟨ret_bool HF.out.symm, (by (with_reducible repeat first|exact HX4.out|exact eR _|apply eD|apply eN|apply eA|apply eO|apply eS|apply eC);all_goals first|omega|simp <;> omega)⟩
   | false =>
    have hq' : qs.length ≤ 0 := by simpa using hq
    have HV : Hid (R = (b4 && restB D)) := lh (by rw [HU.out]; simp)
    clear hq HU HQ
    cases b4 with
    | false =>
     have HF : Hid (R = false) := lh (by rw [HV.out]; rfl)
     clear HV
     go_wp2_with (go_at_call 123; refine (HCP.out _).mono ?_; rintro e w' ⟨rfl, hxl⟩; obtain ⟨xl, rfl⟩ := hxl.asLater; clear hxl)
     go_ret
     exact ⟨ret_bool HF.out.symm, (by (with_reducible repeat first|exact HX4.out|exact eR _|apply eD|apply eN|apply eA|apply eO|apply eS|apply eC);all_goals first|omega|simp <;> omega)⟩
    | true =>
     have HRT : Hid (R = restB (bsT T)) := lh (by rw [HV.out, HRD.out rfl]; rfl)
     clear HV HRD
     by_cases h0 : T.size = 0
     ·have HF : Hid (R = true) := lh (by rw [HRT.out, restB_none h0])
      have e := bs_empty h0
      subst e
      clear HRT h0
      go_wp2_with (go_at_call 123; refine (HCP.out _).mono ?_; rintro e w' ⟨rfl, hxl⟩; obtain ⟨xl, rfl⟩ := hxl.asLater; clear hxl)
      go_ret
      exact ⟨ret_bool HF.out.symm, (by (with_reducible repeat first|exact HX4.out|exact eR _|apply eD|apply eN|apply eA|apply eO|apply eS|apply eC);all_goals first|omega|simp <;> omega)⟩
     ·have hT : 0 < T.size := by omega
      have HF : Hid (R = (((T.data[0]'hT).toNat : Int) == 47 || ((T.data[0]'hT).toNat : Int) == 63)) := lh (by rw [HRT.out, restB_some hT])
      have hne : (T.toList == []) = false := by rw [Lib.toList_data, beq_eq_false_iff_ne]; intro k; exact h0 (by rw [← bsT_size, show bsT T = [] from k]; rfl)
      have hne2 : T.toList.isEmpty = false := by rw [Lib.toList_data]; cases h : T.data.toList with
       | nil => exact absurd h (by intro k; exact h0 (by rw [← bsT_size, show bsT T = [] from k]; rfl))
       | cons _ _ => rfl
      clear HRT h0
      cases e1 : (((T.data[0]'hT).toNat : Int) == 47) with
      | true =>
       have HF2 : Hid (R = true) := lh (by rw [HF.out, e1]; rfl)
       have e2 : (((T[0]'hT).toNat : Int) == 47) = true := e1
       clear HF
       go_wp2_with (go_at_call 123; refine (HCP.out _).mono ?_; rintro e w' ⟨rfl, hxl⟩; obtain ⟨xl, rfl⟩ := hxl.asLater; clear hxl)
       go_ret
       exact ⟨ret_bool HF2.out.symm, (by (with_reducible repeat first|exact HX4.out|exact eR _|apply eD|apply eN|apply eA|apply eO|apply eS|apply eC);all_goals first|omega|simp <;> omega)⟩
      | false =>
       have HF2 : Hid (R = (((T[0]'hT).toNat : Int) == 63)) := lh (by rw [HF.out, e1]; rfl)
       have e2 : (((T[0]'hT).toNat : Int) == 47) = false := e1
       cases e3 : (((T[0]'hT).toNat : Int) == 63)
       all_goals
        rw [e3] at HF2
        clear HF
        go_wp2_with (go_at_call 123; refine (HCP.out _).mono ?_; rintro e w' ⟨rfl, hxl⟩; obtain ⟨xl, rfl⟩ := hxl.asLater; clear hxl)
        go_ret
        exact ⟨ret_bool HF2.out.symm, (by (with_reducible repeat first|exact HX4.out|exact eR _|apply eD|apply eN|apply eA|apply eO|apply eS|apply eC);all_goals first|omega|simp <;> omega)⟩
end
theorem rest_of {a : ByteArray} {n : Nat} (h : n < a.size) : restB ((bsT a).drop n) = (((a.data[n]'h).toNat : Int) == 47 || ((a.data[n]'h).toNat : Int) == 63) := by
 have h1 : n < (bsT a).length := by rw [bsT_size]; exact h
 rw [← bsT_rest]
 have h2 : 0 < (a.extract n a.size).size := by rw [ByteArray.size_extract]; omega
 rw [restB_some h2]
 have e : (a.extract n a.size).data[0]'h2 = a.data[n]'h := by simp [ByteArray.data_extract]
 rw [e]
theorem runder_any (p a : ByteArray) (w : World) (hp : p.size ≤ 900000) (ha : a.size ≤ 900000) :
  Calls Tryz.prog 69 #[.string p, .string a] w fun e w' => e = .returned (.bool (underB (bsT p) (bsT a))) ∧ Ext w w' := by
 have HC := lh (fun (s : ByteArray) (W : World) (hs : s.size ≤ 900000) => rcanon_any s W hs)
 have HH : Hid (∀ W, Calls Tryz.prog 128 #[.string p, .int .u8 63] W fun e w' => e = .returned (.bool (p.data.toList.contains 63)) ∧ Ext W w') := lh (fun W => rhas_byte p 63 W (by omega))
 have HU : Hid (underB (bsT p) (bsT a) = (Ad.canonB (bsT p) && Ad.canonB (bsT a) && !(p.data.toList.contains 63) && begB a p && restB ((bsT a).drop p.size))) := lh (by rw [← beg_take, ← bsT_size p]; rfl)
 generalize underB (bsT p) (bsT a) = R at *
 cases c1 : Ad.canonB (bsT p) with
 | false =>
  have HF : Hid (R = false) := lh (by rw [HU.out, c1]; rfl)
  clear HU
  go_enter Tryz.func69, Tryz.ntmps69
  go_wp2_with (first
   | (go_at_call 64; refine (HC.out _ _ (by assumption)).mono ?_; rintro e w' ⟨rfl, hxl⟩; obtain ⟨xl, rfl⟩ := hxl.asLater; clear hxl)
   | (go_at_call 128; refine (HH.out _).mono ?_; rintro e w' ⟨rfl, hxl⟩; obtain ⟨xl, rfl⟩ := hxl.asLater; clear hxl))
  go_ret
  exact ⟨ret_bool HF.out.symm, (by (with_reducible repeat first|exact eR _|apply eD|apply eN|apply eA|apply eO|apply eS|apply eC);all_goals first|omega|simp <;> omega)⟩
 | true =>
  cases c2 : Ad.canonB (bsT a) with
  | false =>
   have HF : Hid (R = false) := lh (by rw [HU.out, c1, c2]; rfl)
   clear HU
   go_enter Tryz.func69, Tryz.ntmps69
   go_wp2_with (first
    | (go_at_call 64; refine (HC.out _ _ (by assumption)).mono ?_; rintro e w' ⟨rfl, hxl⟩; obtain ⟨xl, rfl⟩ := hxl.asLater; clear hxl)
    | (go_at_call 128; refine (HH.out _).mono ?_; rintro e w' ⟨rfl, hxl⟩; obtain ⟨xl, rfl⟩ := hxl.asLater; clear hxl))
   go_ret
   exact ⟨ret_bool HF.out.symm, (by (with_reducible repeat first|exact eR _|apply eD|apply eN|apply eA|apply eO|apply eS|apply eC);all_goals first|omega|simp <;> omega)⟩
  | true =>
   cases c3 : p.data.toList.contains 63 with
   | true =>
    have HF : Hid (R = false) := lh (by rw [HU.out, c1, c2, c3]; rfl)
    rw [c3] at HH
    clear HU
    go_enter Tryz.func69, Tryz.ntmps69
    go_wp2_with (first
     | (go_at_call 64; refine (HC.out _ _ (by assumption)).mono ?_; rintro e w' ⟨rfl, hxl⟩; obtain ⟨xl, rfl⟩ := hxl.asLater; clear hxl)
     | (go_at_call 128; refine (HH.out _).mono ?_; rintro e w' ⟨rfl, hxl⟩; obtain ⟨xl, rfl⟩ := hxl.asLater; clear hxl))
    go_ret
    exact ⟨ret_bool HF.out.symm, (by (with_reducible repeat first|exact eR _|apply eD|apply eN|apply eA|apply eO|apply eS|apply eC);all_goals first|omega|simp <;> omega)⟩
   | false =>
    rw [c3] at HH
    have HV : Hid (R = (begB a p && restB ((bsT a).drop p.size))) := lh (by rw [HU.out, c1, c2, c3]; rfl)
    clear HU c3
    by_cases hl : a.size < p.size
    ·have HF : Hid (R = false) := lh (by rw [HV.out, beg_len hl]; rfl)
     clear HV
     go_enter Tryz.func69, Tryz.ntmps69
     go_wp2_with (first
      | (go_at_call 64; refine (HC.out _ _ (by assumption)).mono ?_; rintro e w' ⟨rfl, hxl⟩; obtain ⟨xl, rfl⟩ := hxl.asLater; clear hxl)
      | (go_at_call 128; refine (HH.out _).mono ?_; rintro e w' ⟨rfl, hxl⟩; obtain ⟨xl, rfl⟩ := hxl.asLater; clear hxl))
     go_ret
     exact ⟨ret_bool HF.out.symm, (by (with_reducible repeat first|exact eR _|apply eD|apply eN|apply eA|apply eO|apply eS|apply eC);all_goals first|omega|simp <;> omega)⟩
    ·have he := beg_eq (s := a) (p := p) (by omega)
     cases c4 : begB a p with
     | false =>
      have HF : Hid (R = false) := lh (by rw [HV.out, c4]; rfl)
      have hw : ((a.extract 0 p.size).toList == p.toList) = false := by rw [he, c4]
      have hw2 : (p.toList == (a.extract 0 p.size).toList) = false := by rw [← hw]; exact BEq.comm
      clear HV he c4
      go_enter Tryz.func69, Tryz.ntmps69
      go_wp2_with (first
       | (go_at_call 64; refine (HC.out _ _ (by assumption)).mono ?_; rintro e w' ⟨rfl, hxl⟩; obtain ⟨xl, rfl⟩ := hxl.asLater; clear hxl)
       | (go_at_call 128; refine (HH.out _).mono ?_; rintro e w' ⟨rfl, hxl⟩; obtain ⟨xl, rfl⟩ := hxl.asLater; clear hxl))
      go_ret
      exact ⟨ret_bool HF.out.symm, (by (with_reducible repeat first|exact eR _|apply eD|apply eN|apply eA|apply eO|apply eS|apply eC);all_goals first|omega|simp <;> omega)⟩
     | true =>
      have hw : ((a.extract 0 p.size).toList == p.toList) = true := by rw [he, c4]
      have hw2 : (p.toList == (a.extract 0 p.size).toList) = true := by rw [← hw]; exact BEq.comm
      by_cases hz : a.size = p.size
      ·have HF : Hid (R = true) := lh (by rw [HV.out, c4, ← bsT_rest a p.size, restB_none (by rw [ByteArray.size_extract]; omega)]; rfl)
       clear HV he c4
       have hz1 : a.size ≤ p.size := by omega
       have hz2 : p.size ≤ a.size := by omega
       clear hz
       go_enter Tryz.func69, Tryz.ntmps69
       go_wp2_with (first
        | (go_at_call 64; refine (HC.out _ _ (by assumption)).mono ?_; rintro e w' ⟨rfl, hxl⟩; obtain ⟨xl, rfl⟩ := hxl.asLater; clear hxl)
        | (go_at_call 128; refine (HH.out _).mono ?_; rintro e w' ⟨rfl, hxl⟩; obtain ⟨xl, rfl⟩ := hxl.asLater; clear hxl))
       go_ret
       exact ⟨ret_bool HF.out.symm, (by (with_reducible repeat first|exact eR _|apply eD|apply eN|apply eA|apply eO|apply eS|apply eC);all_goals first|omega|simp <;> omega)⟩
      ·have hT : p.size < a.size := by omega
       have hz3 : ((a.size : Int) == (p.size : Int)) = false := by rw [beq_eq_false_iff_ne]; omega
       have HF : Hid (R = (((a.data[p.size]'hT).toNat : Int) == 47 || ((a.data[p.size]'hT).toNat : Int) == 63)) := lh (by rw [HV.out, c4, rest_of hT]; rfl)
       clear HV he c4 hz
       cases e1 : (((a.data[p.size]'hT).toNat : Int) == 47) with
       | true =>
        have HF2 : Hid (R = true) := lh (by rw [HF.out, e1]; rfl)
        have e2 : (((a[p.size]'hT).toNat : Int) == 47) = true := e1
        clear HF
        go_enter Tryz.func69, Tryz.ntmps69
        go_wp2_with (first
         | (go_at_call 64; refine (HC.out _ _ (by assumption)).mono ?_; rintro e w' ⟨rfl, hxl⟩; obtain ⟨xl, rfl⟩ := hxl.asLater; clear hxl)
         | (go_at_call 128; refine (HH.out _).mono ?_; rintro e w' ⟨rfl, hxl⟩; obtain ⟨xl, rfl⟩ := hxl.asLater; clear hxl))
        go_ret
        exact ⟨ret_bool HF2.out.symm, (by (with_reducible repeat first|exact eR _|apply eD|apply eN|apply eA|apply eO|apply eS|apply eC);all_goals first|omega|simp <;> omega)⟩
       | false =>
        have HF2 : Hid (R = (((a[p.size]'hT).toNat : Int) == 63)) := lh (by rw [HF.out, e1]; rfl)
        have e2 : (((a[p.size]'hT).toNat : Int) == 47) = false := e1
        cases e3 : (((a[p.size]'hT).toNat : Int) == 63)
        all_goals
         rw [e3] at HF2
         clear HF
         go_enter Tryz.func69, Tryz.ntmps69
         go_wp2_with (first
          | (go_at_call 64; refine (HC.out _ _ (by assumption)).mono ?_; rintro e w' ⟨rfl, hxl⟩; obtain ⟨xl, rfl⟩ := hxl.asLater; clear hxl)
          | (go_at_call 128; refine (HH.out _).mono ?_; rintro e w' ⟨rfl, hxl⟩; obtain ⟨xl, rfl⟩ := hxl.asLater; clear hxl))
         go_ret
         exact ⟨ret_bool HF2.out.symm, (by (with_reducible repeat first|exact eR _|apply eD|apply eN|apply eA|apply eO|apply eS|apply eC);all_goals first|omega|simp <;> omega)⟩
end Go.Proofs.YtpojnhikgjcgmaaGreatDoor

namespace Go.Proofs.YtpojnhikgjcgmaaGreatDoor
open Go.RowKit Go.Shelf
open Go.Proofs
open Ad (Bs cutB)
theorem hits1 {p : Pu} {a t : Bs} (h : p.kind = 1) : hitsB p a t = decide (bsT p.what = a) := by unfold hitsB; rw [if_pos h]
theorem hits2 {p : Pu} {a t : Bs} (h : p.kind = 2) : hitsB p a t = underB (bsT p.what) a := by unfold hitsB; rw [if_neg (by omega), if_pos h]
theorem hits3 {p : Pu} {a t : Bs} (h1 : p.kind ≠ 1) (h2 : p.kind ≠ 2) : hitsB p a t = (decide ((cutB 58 (bsT p.what)).1 = custB a) && (splitT t).contains (cutB 58 (bsT p.what)).2.1) := by unfold hitsB; rw [if_neg h1, if_neg h2]
theorem hits_any (p : Pu) (a t : ByteArray) (w : World) (hp : p.what.size ≤ 900000) (ha : a.size ≤ 900000) (ht : t.size ≤ 900000) (hasc : ∀ c ∈ bsT a, c.toNat < 128) :
  Calls Tryz.prog 18 #[.agg (puC p), .string a, .string t] w fun e w' => e = .returned (.bool (hitsB p (bsT a) (bsT t))) ∧ Ext w w' := by
 have HUn := lh (fun W => under_any p.what a W hp ha)
 have HCt : Hid (∀ W, Calls Tryz.prog 66 #[.string p.what, .string ⟨#[58]⟩] W fun e w' => CutIs 58 p.what e ∧ Ext W w') := lh (fun W => scut_any p.what 58 W hp)
 have HCu := lh (fun W => cust_any a W ha hasc)
 have HHt := lh (fun (v : ByteArray) W => hasTag_any t v W ht)
 have H1 := lh (hits1 (p := p) (a := bsT a) (t := bsT t))
 have H2 := lh (hits2 (p := p) (a := bsT a) (t := bsT t))
 have H3 := lh (hits3 (p := p) (a := bsT a) (t := bsT t))
 have hft := pu_fits p
 generalize hitsB p (bsT a) (bsT t) = R at *
 go_enter Tryz.func18, Tryz.ntmps18
 go_upto_region 1 with (fail)
 refine wp_world (fun W => Ext w W ∧ RowAt W w.heap.size (puC p)) ⟨(by (with_reducible repeat first|exact eR _|apply eD|apply eN|apply eA|apply eO|apply eS|apply eC);all_goals first|omega|simp <;> omega), RowAt.new _ _ _⟩ ?_
 obtain ⟨B, hB⟩ : ∃ B, w.heap.size = B := ⟨_, rfl⟩
 rw [hB]
 rintro W1 ⟨x1, u1⟩
 have HX1 := lh x1
 have hl1 := u1.lt
 have q0 : W1.cell? ⟨B, 0, none⟩ = some (.int .i64 p.kind) := (u1.cell 0).trans (pu_g0 p)
 have q1 : W1.cell? ⟨B, 1, none⟩ = some (.string p.what) := (u1.cell 1).trans (pu_g1 p)
 clear x1 u1
 by_cases k1 : p.kind = 1
 ·have HF : Hid ((p.what.toList == a.toList) = R) := lh ((eq_walk p.what a).trans (H1.out k1).symm)
  have d1 : (p.kind == 1) = true := by simpa using k1
  clear H1 H2 H3 k1
  go_wp2
  go_ret
  exact ⟨ret_bool HF.out, (by (with_reducible repeat first|exact HX1.out|exact eR _|apply eD|apply eN|apply eA|apply eO|apply eS|apply eC);all_goals first|omega|simp <;> omega)⟩
 have d1 : (p.kind == 1) = false := by simpa using k1
 by_cases k2 : p.kind = 2
 ·have HF : Hid (underB (bsT p.what) (bsT a) = R) := lh (H2.out k2).symm
  have d2 : (p.kind == 2) = true := by simpa using k2
  rw [HF.out] at HUn
  clear H1 H2 H3 k1 k2
  go_wp2_with (go_at_call 65; refine (HUn.out _).mono ?_; rintro e w' ⟨rfl, hxl⟩; obtain ⟨xl, rfl⟩ := hxl.asLater; clear hxl)
  go_ret
  exact ⟨rfl, (by (with_reducible repeat first|exact HX1.out|exact eR _|apply eD|apply eN|apply eA|apply eO|apply eS|apply eC);all_goals first|omega|simp <;> omega)⟩
 have d2 : (p.kind == 2) = false := by simpa using k2
 have HF : Hid (R = (decide ((cutB 58 (bsT p.what)).1 = custB (bsT a)) && (splitT (bsT t)).contains (cutB 58 (bsT p.what)).2.1)) := lh (H3.out k1 k2)
 clear H1 H2 H3 k1 k2
 go_wp2_with (go_at_call 66; refine (show Hid _ from ?_).out)
 refine lh ?_
 refine (HCt.out _).mono ?_
 rintro e w' ⟨⟨x, y, f, rfl, hc, _, _⟩, hxl⟩
 obtain ⟨xc, rfl⟩ := hxl.asLater
 clear hxl
 rw [← hc] at HF
 clear hc
 go_wp2_with (go_at_call 67; refine (show Hid _ from ?_).out)
 refine lh ?_
 refine (HCu.out _).mono ?_
 rintro e w' ⟨⟨cu, rfl, hcu, _⟩, hxl⟩
 obtain ⟨xu, rfl⟩ := hxl.asLater
 clear hxl
 rw [← hcu] at HF
 clear hcu
 have he := eq_walk x cu
 cases hd : decide (bsT x = bsT cu) with
 | false =>
  have HG : Hid (R = false) := lh (by rw [HF.out, hd]; rfl)
  rw [hd] at he
  clear HF hd
  go_wp2
  go_ret
  exact ⟨ret_bool HG.out.symm, (by (with_reducible repeat first|exact HX1.out|exact eR _|apply eD|apply eN|apply eA|apply eO|apply eS|apply eC);all_goals first|omega|simp <;> omega)⟩
 | true =>
  have HG : Hid ((splitT (bsT t)).contains (bsT y) = R) := lh (by rw [HF.out, hd]; rfl)
  have HH := lh (fun W => HHt.out y W)
  rw [HG.out] at HH
  rw [hd] at he
  clear HF hd HHt
  go_wp2_with (go_at_call 68; refine (HH.out _).mono ?_; rintro e w' ⟨rfl, hxl⟩; obtain ⟨xl, rfl⟩ := hxl.asLater; clear hxl)
  go_ret
  exact ⟨rfl, (by (with_reducible repeat first|exact HX1.out|exact eR _|apply eD|apply eN|apply eA|apply eO|apply eS|apply eC);all_goals first|omega|simp <;> omega)⟩
theorem rcust_any (s : ByteArray) (w : World) (hs : s.size ≤ 900000) :
  Calls Tryz.prog 71 #[.string s] w fun e w' => e = .returned (.string ⟨(custB (bsT s)).toArray⟩) ∧ Ext w w' := by
 have H1 : Hid (∀ W, Calls Tryz.prog 70 #[.string s, .int .u8 47] W fun e w' => RCutIs 47 s e ∧ Ext W w') := lh (fun W => r31split_any s 47 W hs)
 have H2 : Hid (∀ (v : ByteArray) W, v.size ≤ 900000 → Calls Tryz.prog 70 #[.string v, .int .u8 63] W fun e w' => RCutIs 63 v e ∧ Ext W w') := lh (fun v W hv => r31split_any v 63 W hv)
 have HC := lh (cust_cuts (bsT s))
 generalize custB (bsT s) = CU at *
 go_enter Tryz.func71, Tryz.ntmps71
 go_wp2_with (go_at_call 70; refine (show Hid _ from ?_).out)
 refine lh ?_
 refine (H1.out _).mono ?_
 rintro e w1 ⟨⟨x, y, f, rfl, hc, hx1, _⟩, hx⟩
 have HX1 := lh hx
 have hsz1 := hx.size
 rw [← hc] at HC
 have hft := rc_fits x y f
 clear hc hx H1
 go_upto_region 2 with (fail)
 refine wp_world (fun W => Ext w W ∧ RowAt W w1.heap.size (rcC x y f)) ⟨(by (with_reducible repeat first|exact HX1.out|exact eR _|apply eD|apply eN|apply eA|apply eO|apply eS|apply eC);all_goals first|omega|simp <;> omega), RowAt.store (RowAt.new _ _ _) rfl⟩ ?_
 generalize w1.heap.size = g
 rintro W2 ⟨x2, u2⟩
 have HX2 := lh x2
 have q0 : W2.cell? ⟨g, 0, none⟩ = some (.string x) := (u2.cell 0).trans (rc_g0 x y f)
 clear x2 u2 HX1
 go_wp2_with (go_at_call 70; refine (show Hid _ from ?_).out)
 refine lh ?_
 refine (H2.out _ _ (by omega)).mono ?_
 rintro e w3 ⟨⟨x', y', f', rfl, hc, _, _⟩, hx⟩
 have HX3 := lh (HX2.out.trans hx)
 have hsz3 := HX3.out.size
 have HC2 : Hid (bsT x' = CU) := lh (by rw [← HC.out]; exact congrArg Prod.fst hc)
 have hft' := rc_fits x' y' f'
 clear hc hx H2 HC
 go_upto_region 3 with (fail)
 refine wp_world (fun W => Ext w W ∧ RowAt W w3.heap.size (rcC x' y' f')) ⟨(by (with_reducible repeat first|exact HX3.out|exact eR _|apply eD|apply eN|apply eA|apply eO|apply eS|apply eC);all_goals first|omega|simp <;> omega), RowAt.store (RowAt.new _ _ _) rfl⟩ ?_
 generalize w3.heap.size = g'
 rintro W4 ⟨x4, u4⟩
 have HX4 := lh x4
 have q4 : W4.cell? ⟨g', 0, none⟩ = some (.string x') := (u4.cell 0).trans (rc_g0 x' y' f')
 have e := bs_eq HC2.out
 clear x4 u4 q0 HX3 HC2
 subst e
 go_wp2
 go_ret
 exact ⟨rfl, (by (with_reducible repeat first|exact HX4.out|exact eR _|apply eD|apply eN|apply eA|apply eO|apply eS|apply eC);all_goals first|omega|simp <;> omega)⟩
theorem rhits_any (p : Pu) (a t : ByteArray) (w : World) (hp : p.what.size ≤ 900000) (ha : a.size ≤ 900000) (ht : t.size ≤ 900000) :
  Calls Tryz.prog 19 #[.agg (puC p), .string a, .string t] w fun e w' => e = .returned (.bool (hitsB p (bsT a) (bsT t))) ∧ Ext w w' := by
 have HUn := lh (fun W => runder_any p.what a W hp ha)
 have HCt : Hid (∀ W, Calls Tryz.prog 70 #[.string p.what, .int .u8 58] W fun e w' => RCutIs 58 p.what e ∧ Ext W w') := lh (fun W => r31split_any p.what 58 W hp)
 have HCu := lh (fun W => rcust_any a W ha)
 have HHt := lh (fun (v : ByteArray) W => rhasTag_any t v W ht)
 have H1 := lh (hits1 (p := p) (a := bsT a) (t := bsT t))
 have H2 := lh (hits2 (p := p) (a := bsT a) (t := bsT t))
 have H3 := lh (hits3 (p := p) (a := bsT a) (t := bsT t))
 have hft := pu_fits p
 generalize hitsB p (bsT a) (bsT t) = R at *
 go_enter Tryz.func19, Tryz.ntmps19
 go_upto_region 1 with (fail)
 refine wp_world (fun W => Ext w W ∧ RowAt W w.heap.size (puC p)) ⟨(by (with_reducible repeat first|exact eR _|apply eD|apply eN|apply eA|apply eO|apply eS|apply eC);all_goals first|omega|simp <;> omega), RowAt.new _ _ _⟩ ?_
 obtain ⟨B, hB⟩ : ∃ B, w.heap.size = B := ⟨_, rfl⟩
 rw [hB]
 rintro W1 ⟨x1, u1⟩
 have HX1 := lh x1
 have hl1 := u1.lt
 have q0 : W1.cell? ⟨B, 0, none⟩ = some (.int .i64 p.kind) := (u1.cell 0).trans (pu_g0 p)
 have q1 : W1.cell? ⟨B, 1, none⟩ = some (.string p.what) := (u1.cell 1).trans (pu_g1 p)
 clear x1 u1
 by_cases k1 : p.kind = 1
 ·have HF : Hid ((p.what.toList == a.toList) = R) := lh ((eq_walk p.what a).trans (H1.out k1).symm)
  have d1 : (p.kind == 1) = true := by simpa using k1
  clear H1 H2 H3 k1
  go_wp2
  go_ret
  exact ⟨ret_bool HF.out, (by (with_reducible repeat first|exact HX1.out|exact eR _|apply eD|apply eN|apply eA|apply eO|apply eS|apply eC);all_goals first|omega|simp <;> omega)⟩
 have d1 : (p.kind == 1) = false := by simpa using k1
 by_cases k2 : p.kind = 2
 ·have HF : Hid (underB (bsT p.what) (bsT a) = R) := lh (H2.out k2).symm
  have d2 : (p.kind == 2) = true := by simpa using k2
  rw [HF.out] at HUn
  clear H1 H2 H3 k1 k2
  go_wp2_with (go_at_call 69; refine (HUn.out _).mono ?_; rintro e w' ⟨rfl, hxl⟩; obtain ⟨xl, rfl⟩ := hxl.asLater; clear hxl)
  go_ret
  exact ⟨rfl, (by (with_reducible repeat first|exact HX1.out|exact eR _|apply eD|apply eN|apply eA|apply eO|apply eS|apply eC);all_goals first|omega|simp <;> omega)⟩
 have d2 : (p.kind == 2) = false := by simpa using k2
 have HF : Hid (R = (decide ((cutB 58 (bsT p.what)).1 = custB (bsT a)) && (splitT (bsT t)).contains (cutB 58 (bsT p.what)).2.1)) := lh (H3.out k1 k2)
 clear H1 H2 H3 k1 k2
 go_wp2_with (go_at_call 70; refine (show Hid _ from ?_).out)
 refine lh ?_
 refine (HCt.out _).mono ?_
 rintro e w2 ⟨⟨x, y, f, rfl, hc, _, _⟩, hx⟩
 have HX2 := lh (HX1.out.trans hx)
 have hsz2 := HX2.out.size
 rw [← hc] at HF
 have hftr := rc_fits x y f
 clear hc hx HCt
 go_upto_region 7 with (fail)
 refine wp_world (fun W => Ext w W ∧ RowAt W w2.heap.size (rcC x y f)) ⟨(by (with_reducible repeat first|exact HX2.out|exact eR _|apply eD|apply eN|apply eA|apply eO|apply eS|apply eC);all_goals first|omega|simp <;> omega), RowAt.store (RowAt.new _ _ _) rfl⟩ ?_
 generalize w2.heap.size = g
 rintro W3 ⟨x3, u3⟩
 have HX3 := lh x3
 have hl3 := u3.lt
 have r0 : W3.cell? ⟨g, 0, none⟩ = some (.string x) := (u3.cell 0).trans (rc_g0 x y f)
 have r1 : W3.cell? ⟨g, 1, none⟩ = some (.string y) := (u3.cell 1).trans (rc_g1 x y f)
 clear x3 u3 HX1 HX2 q0 q1
 obtain ⟨cu, hcu⟩ : ∃ cu : ByteArray, (⟨(custB (bsT a)).toArray⟩ : ByteArray) = cu := ⟨_, rfl⟩
 have hcb : custB (bsT a) = bsT cu := by rw [← hcu]; rfl
 rw [hcu] at HCu
 rw [hcb] at HF
 clear hcu hcb
 have he := eq_walk x cu
 cases hd : decide (bsT x = bsT cu) with
 | false =>
  have HG : Hid (R = false) := lh (by rw [HF.out, hd]; rfl)
  rw [hd] at he
  clear HF hd
  refine wp_region_later (by kernel_rfl) (by kernel_rfl) ?_
  repeat (first | go_big_quiet_step ((go_at_call 71; exact quietE (HCu.out _))) | quiet_step ((go_at_call 71; exact quietE (HCu.out _))))
  refine wpQuiet_nil ?_
  rintro _ ⟨xq, rfl⟩
  go_wp2
  go_ret
  exact ⟨ret_bool HG.out.symm, (by (with_reducible repeat first|exact HX3.out|exact eR _|apply eD|apply eN|apply eA|apply eO|apply eS|apply eC);all_goals first|omega|simp <;> omega)⟩
 | true =>
  have HG : Hid ((splitT (bsT t)).contains (bsT y) = R) := lh (by rw [HF.out, hd]; rfl)
  have HH := lh (fun W => HHt.out y W)
  rw [HG.out] at HH
  rw [hd] at he
  clear HF hd HHt
  refine wp_region_later (by kernel_rfl) (by kernel_rfl) ?_
  repeat (first | go_big_quiet_step ((first | (go_at_call 71; exact quietE (HCu.out _)) | (go_at_call 72; exact quietE (HH.out _)))) | quiet_step ((first | (go_at_call 71; exact quietE (HCu.out _)) | (go_at_call 72; exact quietE (HH.out _)))))
  refine wpQuiet_nil ?_
  rintro _ ⟨xq, rfl⟩
  go_wp2
  go_ret
  exact ⟨rfl, (by (with_reducible repeat first|exact HX3.out|exact eR _|apply eD|apply eN|apply eA|apply eO|apply eS|apply eC);all_goals first|omega|simp <;> omega)⟩
end Go.Proofs.YtpojnhikgjcgmaaGreatDoor

namespace Go.Proofs.YtpojnhikgjcgmaaGreatDoor
open Go.RowKit Go.Shelf
open Go.Proofs
open Ad (Bs)
theorem anyT_snoc {α : Type} (f : α → Bool) (l : List α) (k : Nat) (h : k < l.length) : (l.take (k + 1)).any f = ((l.take k).any f || f l[k]) := by
 rw [List.take_succ_eq_append_getElem h, List.any_append]
 simp
noncomputable def softN (a t : Bs) (l : List Pu) : Int := if (l.any fun p => hitsB p a t) = true then 1 else 0
noncomputable def hardB (a t : Bs) (l : List Pu) : Bool := l.any fun p => hitsB p a t && !p.soft
theorem rem_old {e : Ep} {lo : Int} {a t : Bs} (h : e.hi < lo) : removesB e lo a t = 0 := by unfold removesB; rw [if_pos h]
theorem rem_hard {e : Ep} {lo : Int} {a t : Bs} (h : ¬ e.hi < lo) (hh : hardB a t e.pu = true) : removesB e lo a t = 2 := by unfold removesB hardB at *; rw [if_neg h, if_pos hh]
theorem rem_soft {e : Ep} {lo : Int} {a t : Bs} (h : ¬ e.hi < lo) (hh : hardB a t e.pu = false) : removesB e lo a t = softN a t e.pu := by unfold removesB hardB softN at *; rw [if_neg h, if_neg (by rw [hh]; exact Bool.false_ne_true)]
theorem rem_at {e : Ep} {lo : Int} {a t : Bs} (h : ¬ e.hi < lo) : removesB e lo a t = if hardB a t e.pu = true then 2 else softN a t e.pu := by
 cases hh : hardB a t e.pu with
 | true => rw [if_pos rfl]; exact rem_hard h hh
 | false => rw [if_neg Bool.false_ne_true]; exact rem_soft h hh
theorem hard_at {a t : Bs} {l : List Pu} (k : Nat) (h : k < l.length) (hh : hitsB l[k] a t = true) (hs : l[k].soft = false) : hardB a t l = true := by
 unfold hardB
 rw [List.any_eq_true]
 exact ⟨l[k], List.getElem_mem h, by rw [hh, hs]; rfl⟩
theorem hard_snoc {a t : Bs} {l : List Pu} (k : Nat) (h : k < l.length) : hardB a t (l.take (k + 1)) = (hardB a t (l.take k) || (hitsB l[k] a t && !l[k].soft)) := anyT_snoc _ l k h
theorem soft_snoc {a t : Bs} {l : List Pu} (k : Nat) (h : k < l.length) : softN a t (l.take (k + 1)) = if hitsB l[k] a t = true then 1 else softN a t (l.take k) := by
 unfold softN
 rw [anyT_snoc _ l k h]
 cases (l.take k).any fun p => hitsB p a t <;> cases hitsB l[k] a t <;> rfl
theorem removes_any (e : Ep) (s : St) (w : World) (ha : EpAt w e) (hl : e.pu.length ≤ 100000) (hw : ∀ p ∈ e.pu, p.what.size ≤ 900000) (hsa : s.addr.size ≤ 900000) (hst : s.tags.size ≤ 900000) (hasc : ∀ c ∈ bsT s.addr, c.toNat < 128) :
  Calls Tryz.prog 20 #[.agg (epC e), .agg (stmC s)] w fun r w' => r = .returned (.int .i64 (removesB e s.lo (bsT s.addr) (bsT s.tags))) ∧ Ext w w' := by
 have HHt := lh (fun (p : Pu) (hp : p.what.size ≤ 900000) W => hits_any p s.addr s.tags W hp hsa hst hasc)
 have HA := lh ha.pu
 have HW := lh hw
 have HO := lh (rem_old (e := e) (lo := s.lo) (a := bsT s.addr) (t := bsT s.tags))
 have HH := lh (rem_hard (e := e) (lo := s.lo) (a := bsT s.addr) (t := bsT s.tags))
 have HS := lh (rem_soft (e := e) (lo := s.lo) (a := bsT s.addr) (t := bsT s.tags))
 have hfe := ep_fits e
 have hfs := stm_fits s
 generalize removesB e s.lo (bsT s.addr) (bsT s.tags) = R at *
 clear ha hw hasc
 go_enter Tryz.func20, Tryz.ntmps20
 go_upto_region 1 with (fail)
 refine wp_world (fun W => Ext w W ∧ RowAt W w.heap.size (epC e) ∧ RowAt W (w.heap.size + 1) (stmC s)) ⟨(by (with_reducible repeat first|exact eR _|apply eD|apply eN|apply eA|apply eO|apply eS|apply eC);all_goals first|omega|simp <;> omega), (RowAt.new _ _ _).alloc _, RowAt.newAt (by simp)⟩ ?_
 obtain ⟨B, hB⟩ : ∃ B, w.heap.size = B := ⟨_, rfl⟩
 rw [hB]
 rintro W1 ⟨x1, u0, u1⟩
 have HX1 := lh x1
 have hl1 := u1.lt
 have q18 : W1.cell? ⟨B, 18, none⟩ = some (.int .i64 e.hi) := (u0.cell 18).trans (ep_g18 e)
 have q19 : W1.cell? ⟨B, 19, none⟩ = some (.slice e.PA e.pu.length e.pc) := (u0.cell 19).trans (ep_g19 e)
 have q21 : W1.cell? ⟨B + 1, 21, none⟩ = some (.int .i64 s.lo) := (u1.cell 21).trans (stm_g21 s)
 have HQ0 : Hid (W1.cell? ⟨B + 1, 0, none⟩ = some (.string s.addr)) := lh ((u1.cell 0).trans (stm_g0 s))
 have HQ20 : Hid (W1.cell? ⟨B + 1, 20, none⟩ = some (.string s.tags)) := lh ((u1.cell 20).trans (stm_g20 s))
 clear x1 u0 u1
 generalize e.PA = PA at *
 by_cases ho : e.hi < s.lo
 ·have HR : Hid (R = 0) := lh (HO.out ho)
  have d1 : decide (e.hi < s.lo) = true := by simpa using ho
  clear HO HH HS ho
  go_wp2
  go_ret
  exact ⟨ret_int HR.out.symm, (by (with_reducible repeat first|exact HX1.out|exact eR _|apply eD|apply eN|apply eA|apply eO|apply eS|apply eC);all_goals first|omega|simp <;> omega)⟩
 have HH2 := lh (HH.out ho)
 have HS2 := lh (HS.out ho)
 have d1 : decide (e.hi < s.lo) = false := by simpa using ho
 clear HO HH HS ho
 go_wp2
 clear q18 q19 q21 d1
 go_loopw [5, 19] (fun o i wr => ∃ (k : Nat) (out : Int), o = .int .i64 out ∧ i = .int .i64 k ∧ k ≤ e.pu.length ∧ Hid (out = softN (bsT s.addr) (bsT s.tags) (e.pu.take k)) ∧ Hid (hardB (bsT s.addr) (bsT s.tags) (e.pu.take k) = false) ∧ Hid (Ext W1 wr)) (fun _ i _ => e.pu.length - (intOf i).toNat)
 case atStart => exact ⟨0, 0, rfl, rfl, Nat.zero_le _, lh rfl, lh rfl, lh (eR _)⟩
 case round =>
  obtain ⟨k, out, rfl, rfl, hk, HOu, HNh, HX⟩ := hrel
  have hsz := HX.out.size
  by_cases hlt : k < e.pu.length
  ·obtain ⟨b, off, rfl, hb, hrow⟩ := reads_row puE (HA.out.ext (HX1.out.trans HX.out) (Nat.le_refl _)) k hlt
   have hb2 : b < wr.heap.size := by omega
   have hfp := pu_fits e.pu[k]
   have kr : rowOf wr b (off + k * 3) 3 = some (puC e.pu[k]) := hrow
   clear hrow
   have HSN := lh (soft_snoc (a := bsT s.addr) (t := bsT s.tags) k hlt)
   have HHN := lh (hard_snoc (a := bsT s.addr) (t := bsT s.tags) k hlt)
   have HHA := lh (hard_at (a := bsT s.addr) (t := bsT s.tags) k hlt)
   have HHk := lh (fun W => HHt.out e.pu[k] (HW.out _ (List.getElem_mem hlt)) W)
   generalize e.pu[k] = p at *
   go_upto_region 7 with (fail)
   refine wp_world (fun W => Ext wr W ∧ RowAt W wr.heap.size (puC p)) ⟨(by (with_reducible repeat first|exact eR _|apply eD|apply eN|apply eA|apply eO|apply eS|apply eC);all_goals first|omega|simp <;> omega), RowAt.store (RowAt.new _ _ _) rfl⟩ ?_
   obtain ⟨g, hg⟩ : ∃ g, wr.heap.size = g := ⟨_, rfl⟩
   rw [hg]
   rintro W2 ⟨x2, u2⟩
   have HX2 := lh x2
   have hl2 := u2.lt
   have hs2 := x2.size
   have k0 : rowOf W2 g 0 3 = some (puC p) := u2.all rfl (by omega)
   have q2 : W2.cell? ⟨g, 2, none⟩ = some (.bool p.soft) := (u2.cell 2).trans (pu_g2 p)
   have q0 : W2.cell? ⟨B + 1, 0, none⟩ = some (.string s.addr) := ((HX.out.trans x2).cell (p := ⟨B + 1, 0, none⟩) hl1).trans HQ0.out
   have q20 : W2.cell? ⟨B + 1, 20, none⟩ = some (.string s.tags) := ((HX.out.trans x2).cell (p := ⟨B + 1, 20, none⟩) hl1).trans HQ20.out
   have hl3 : B + 1 < W2.heap.size := by omega
   clear x2 u2 kr
   cases hh : hitsB p (bsT s.addr) (bsT s.tags) with
   | false =>
    rw [hh] at HHk HSN HHN
    have HSk : Hid (out = softN (bsT s.addr) (bsT s.tags) (e.pu.take (k + 1))) := lh (by rw [HOu.out, HSN.out, if_neg Bool.false_ne_true])
    have HNk : Hid (hardB (bsT s.addr) (bsT s.tags) (e.pu.take (k + 1)) = false) := lh (by rw [HHN.out, HNh.out]; rfl)
    clear HSN HHN HHA hh
    go_wp2_with (go_at_call 18; refine (HHk.out _).mono ?_; rintro e w' ⟨rfl, hxl⟩; obtain ⟨xl, rfl⟩ := hxl.asLater; clear hxl)
    go_roundw
    case rel => exact ⟨k + 1, out, rfl, by go_num, by omega, HSk, HNk, lh (by (with_reducible repeat first|exact HX.out.trans HX2.out|exact eR _|apply eD|apply eN|apply eA|apply eO|apply eS|apply eC);all_goals first|omega|simp <;> omega)⟩
    case measure => simp [intOf]; omega
   | true =>
    rw [hh] at HHk HSN HHN
    cases hs : p.soft with
    | false =>
     have HR : Hid (R = 2) := lh (HH2.out (HHA.out hh hs))
     rw [hs] at q2
     clear HSN HHN HHA hh hs
     go_wp2_with (go_at_call 18; refine (HHk.out _).mono ?_; rintro e w' ⟨rfl, hxl⟩; obtain ⟨xl, rfl⟩ := hxl.asLater; clear hxl)
     go_ret
     exact ⟨ret_int HR.out.symm, (by (with_reducible repeat first|exact (HX1.out.trans HX.out).trans HX2.out|exact eR _|apply eD|apply eN|apply eA|apply eO|apply eS|apply eC);all_goals first|omega|simp <;> omega)⟩
    | true =>
     have HSk : Hid (1 = softN (bsT s.addr) (bsT s.tags) (e.pu.take (k + 1))) := lh (by rw [HSN.out, if_pos rfl])
     have HNk : Hid (hardB (bsT s.addr) (bsT s.tags) (e.pu.take (k + 1)) = false) := lh (by rw [HHN.out, HNh.out, hs]; rfl)
     rw [hs] at q2
     clear HSN HHN HHA hh hs
     go_wp2_with (go_at_call 18; refine (HHk.out _).mono ?_; rintro e w' ⟨rfl, hxl⟩; obtain ⟨xl, rfl⟩ := hxl.asLater; clear hxl)
     go_roundw
     case rel => exact ⟨k + 1, 1, rfl, by go_num, by omega, HSk, HNk, lh (by (with_reducible repeat first|exact HX.out.trans HX2.out|exact eR _|apply eD|apply eN|apply eA|apply eO|apply eS|apply eC);all_goals first|omega|simp <;> omega)⟩
     case measure => simp [intOf]; omega
  ·have HR : Hid (R = out) := lh (by
    have h1 := HNh.out
    have h2 := HOu.out
    rw [List.take_of_length_le (by omega)] at h1 h2
    rw [HS2.out h1, h2])
   go_wp2
   go_ret
   exact ⟨ret_int HR.out.symm, (by (with_reducible repeat first|exact HX1.out.trans HX.out|exact eR _|apply eD|apply eN|apply eA|apply eO|apply eS|apply eC);all_goals first|omega|simp <;> omega)⟩
theorem rremoves_any (e : Ep) (s : St) (w : World) (ha : EpAt w e) (hl : e.pu.length ≤ 100000) (hw : ∀ p ∈ e.pu, p.what.size ≤ 900000) (hsa : s.addr.size ≤ 900000) (hst : s.tags.size ≤ 900000) :
  Calls Tryz.prog 21 #[.agg (epC e), .agg (stmC s)] w fun r w' => r = .returned (.int .i64 (removesB e s.lo (bsT s.addr) (bsT s.tags))) ∧ Ext w w' := by
 have HHt := lh (fun (p : Pu) (hp : p.what.size ≤ 900000) W => rhits_any p s.addr s.tags W hp hsa hst)
 have HA := lh ha.pu
 have HW := lh hw
 have HO := lh (rem_old (e := e) (lo := s.lo) (a := bsT s.addr) (t := bsT s.tags))
 have HS := lh (rem_at (e := e) (lo := s.lo) (a := bsT s.addr) (t := bsT s.tags))
 have hfe := ep_fits e
 have hfs := stm_fits s
 generalize removesB e s.lo (bsT s.addr) (bsT s.tags) = R at *
 clear ha hw
 go_enter Tryz.func21, Tryz.ntmps21
 go_upto_region 1 with (fail)
 refine wp_world (fun W => Ext w W ∧ RowAt W w.heap.size (epC e) ∧ RowAt W (w.heap.size + 1) (stmC s)) ⟨(by (with_reducible repeat first|exact eR _|apply eD|apply eN|apply eA|apply eO|apply eS|apply eC);all_goals first|omega|simp <;> omega), (RowAt.new _ _ _).alloc _, RowAt.newAt (by simp)⟩ ?_
 obtain ⟨B, hB⟩ : ∃ B, w.heap.size = B := ⟨_, rfl⟩
 rw [hB]
 rintro W1 ⟨x1, u0, u1⟩
 have HX1 := lh x1
 have hl1 := u1.lt
 have q18 : W1.cell? ⟨B, 18, none⟩ = some (.int .i64 e.hi) := (u0.cell 18).trans (ep_g18 e)
 have HQ19 : Hid (W1.cell? ⟨B, 19, none⟩ = some (.slice e.PA e.pu.length e.pc)) := lh ((u0.cell 19).trans (ep_g19 e))
 have q21 : W1.cell? ⟨B + 1, 21, none⟩ = some (.int .i64 s.lo) := (u1.cell 21).trans (stm_g21 s)
 have HQ0 : Hid (W1.cell? ⟨B + 1, 0, none⟩ = some (.string s.addr)) := lh ((u1.cell 0).trans (stm_g0 s))
 have HQ20 : Hid (W1.cell? ⟨B + 1, 20, none⟩ = some (.string s.tags)) := lh ((u1.cell 20).trans (stm_g20 s))
 clear x1 u0 u1
 generalize e.PA = PA at *
 by_cases ho : e.hi < s.lo
 ·have HR : Hid (R = 0) := lh (HO.out ho)
  have d1 : decide (e.hi < s.lo) = true := by simpa using ho
  clear HO HS ho
  go_wp2
  go_ret
  exact ⟨ret_int HR.out.symm, (by (with_reducible repeat first|exact HX1.out|exact eR _|apply eD|apply eN|apply eA|apply eO|apply eS|apply eC);all_goals first|omega|simp <;> omega)⟩
 have HS2 := lh (HS.out ho)
 have d1 : decide (e.hi < s.lo) = false := by simpa using ho
 clear HO HS ho
 go_wp2
 clear q18 q21 d1
 go_loopw [5, 6] (fun o i wr => ∃ (k : Nat) (out : Int), o = .int .i64 out ∧ i = .int .i64 k ∧ k ≤ e.pu.length ∧ Hid (out = if hardB (bsT s.addr) (bsT s.tags) (e.pu.take k) = true then 2 else softN (bsT s.addr) (bsT s.tags) (e.pu.take k)) ∧ Hid (Ext W1 wr)) (fun _ i _ => e.pu.length - (intOf i).toNat)
 case atStart => exact ⟨0, 0, rfl, rfl, Nat.zero_le _, lh rfl, lh (eR _)⟩
 case round =>
  obtain ⟨k, out, rfl, rfl, hk, HOu, HX⟩ := hrel
  have hsz := HX.out.size
  have q19 : wr.cell? ⟨B, 19, none⟩ = some (.slice PA e.pu.length e.pc) := (HX.out.cell (p := ⟨B, 19, none⟩) (by show B < _; omega)).trans HQ19.out
  have hlB : B < wr.heap.size := by omega
  by_cases hlt : k < e.pu.length
  ·obtain ⟨b, off, rfl, hb, hrow⟩ := reads_row puE (HA.out.ext (HX1.out.trans HX.out) (Nat.le_refl _)) k hlt
   have hb2 : b < wr.heap.size := by omega
   have hfp := pu_fits e.pu[k]
   have HSN := lh (soft_snoc (a := bsT s.addr) (t := bsT s.tags) k hlt)
   have HHN := lh (hard_snoc (a := bsT s.addr) (t := bsT s.tags) k hlt)
   have HHk := lh (fun W => HHt.out e.pu[k] (HW.out _ (List.getElem_mem hlt)) W)
   have k0 : rowOf wr b (off + k * 3) 3 = some (puC e.pu[k]) := hrow
   have q2 : wr.cell? ⟨b, off + k * 3 + 2, none⟩ = some (.bool e.pu[k].soft) := (rowOf_cell hrow (i := 2) (by omega)).trans (pu_g2 _)
   have q0 : wr.cell? ⟨B + 1, 0, none⟩ = some (.string s.addr) := (HX.out.cell (p := ⟨B + 1, 0, none⟩) hl1).trans HQ0.out
   have q20 : wr.cell? ⟨B + 1, 20, none⟩ = some (.string s.tags) := (HX.out.cell (p := ⟨B + 1, 20, none⟩) hl1).trans HQ20.out
   have hl3 : B + 1 < wr.heap.size := by omega
   generalize e.pu[k] = p at *
   clear hrow
   cases hh : hitsB p (bsT s.addr) (bsT s.tags) with
   | false =>
    rw [hh] at HHk HSN HHN
    have HSk : Hid (out = if hardB (bsT s.addr) (bsT s.tags) (e.pu.take (k + 1)) = true then 2 else softN (bsT s.addr) (bsT s.tags) (e.pu.take (k + 1))) := lh (by rw [HOu.out, HSN.out, HHN.out, if_neg Bool.false_ne_true, Bool.false_and, Bool.or_false])
    clear HSN HHN hh
    go_upto_region 7 with (fail)
    refine wp_region_later (by kernel_rfl) (by kernel_rfl) ?_
    repeat (first | go_big_quiet_step ((go_at_call 19; exact quietE (HHk.out _))) | quiet_step ((go_at_call 19; exact quietE (HHk.out _))))
    refine wpQuiet_nil ?_
    rintro _ ⟨xq, rfl⟩
    go_wp2
    go_roundw
    case rel => exact ⟨k + 1, out, rfl, by go_num, by omega, HSk, lh (by (with_reducible repeat first|exact HX.out|exact eR _|apply eD|apply eN|apply eA|apply eO|apply eS|apply eC);all_goals first|omega|simp <;> omega)⟩
    case measure => simp [intOf]; omega
   | true =>
    rw [hh] at HHk HSN HHN
    cases hs : p.soft with
    | false =>
     have HSk : Hid (2 = if hardB (bsT s.addr) (bsT s.tags) (e.pu.take (k + 1)) = true then 2 else softN (bsT s.addr) (bsT s.tags) (e.pu.take (k + 1))) := lh (by rw [HHN.out, hs]; simp)
     rw [hs] at q2
     clear HSN HHN hh hs
     go_upto_region 7 with (fail)
     refine wp_region_later (by kernel_rfl) (by kernel_rfl) ?_
     repeat (first | go_big_quiet_step ((go_at_call 19; exact quietE (HHk.out _))) | quiet_step ((go_at_call 19; exact quietE (HHk.out _))))
     refine wpQuiet_nil ?_
     rintro _ ⟨xq, rfl⟩
     go_wp2
     go_roundw
     case rel => exact ⟨k + 1, 2, rfl, by go_num, by omega, HSk, lh (by (with_reducible repeat first|exact HX.out|exact eR _|apply eD|apply eN|apply eA|apply eO|apply eS|apply eC);all_goals first|omega|simp <;> omega)⟩
     case measure => simp [intOf]; omega
    | true =>
     have HSk : Hid (max out 1 = if hardB (bsT s.addr) (bsT s.tags) (e.pu.take (k + 1)) = true then 2 else softN (bsT s.addr) (bsT s.tags) (e.pu.take (k + 1))) := lh (by
      have h := HOu.out
      rw [HSN.out, HHN.out, hs, Bool.not_true, Bool.and_false, Bool.or_false, if_pos rfl]
      cases hq : hardB (bsT s.addr) (bsT s.tags) (e.pu.take k) with
      | true =>
       rw [hq, if_pos rfl] at h
       rw [h]
       rfl
      | false =>
       rw [hq, if_neg Bool.false_ne_true] at h
       rw [if_neg Bool.false_ne_true]
       have h2 : out = 0 ∨ out = 1 := by
        rw [h]
        unfold softN
        split
        ·exact .inr rfl
        ·exact .inl rfl
       rcases h2 with h2 | h2 <;> rw [h2] <;> rfl)
     rw [hs] at q2
     clear HSN HHN hh hs
     go_upto_region 7 with (fail)
     refine wp_region_later (by kernel_rfl) (by kernel_rfl) ?_
     repeat (first | go_big_quiet_step ((go_at_call 19; exact quietE (HHk.out _))) | quiet_step ((go_at_call 19; exact quietE (HHk.out _))))
     refine wpQuiet_nil ?_
     rintro _ ⟨xq, rfl⟩
     go_wp2
     go_roundw
     case rel => exact ⟨k + 1, _, rfl, by go_num, by omega, HSk, lh (by (with_reducible repeat first|exact HX.out|exact eR _|apply eD|apply eN|apply eA|apply eO|apply eS|apply eC);all_goals first|omega|simp <;> omega)⟩
     case measure => simp [intOf]; omega
  ·have HR : Hid (R = out) := lh (by
    have h2 := HOu.out
    rw [List.take_of_length_le (by omega)] at h2
    rw [HS2.out, h2])
   go_wp2
   go_ret
   exact ⟨ret_int HR.out.symm, (by (with_reducible repeat first|exact HX1.out.trans HX.out|exact eR _|apply eD|apply eN|apply eA|apply eO|apply eS|apply eC);all_goals first|omega|simp <;> omega)⟩
end Go.Proofs.YtpojnhikgjcgmaaGreatDoor