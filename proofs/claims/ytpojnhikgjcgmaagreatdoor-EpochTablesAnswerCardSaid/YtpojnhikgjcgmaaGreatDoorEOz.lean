/- What arguments of law 32 read: purges, epochs, confirmations; keys. -/
import Derived.WalkKit
import Derived.WalkSpells
import Derived.WalkLawsBesides
import Derived.Deep.QuietTactic
import Derived.BigQuiet
import Derived.Test.YtpojnhikgjcgmaaGreatDoorECd
import Derived.RangeFuncNested
import Derived.RangeFuncBound
import Derived.RangeFuncCalls
import Derived.RangeFuncLeaves
import Derived.Shelf.Abstract
import Derived.Shelf.RegionOpen
import Derived.OwnWalkIn
import Derived.TacticsInMore
import Derived.LoopNIn
import Derived.LoopIn
import Derived.Test.YtpojnhikgjcgmaaGreatDoorEWh
set_option maxRecDepth 100000
set_option maxHeartbeats 64000000
set_option linter.unusedVariables false
set_option linter.unusedSimpArgs false
namespace Go.Proofs.YtpojnhikgjcgmaaGreatDoor
open Go.RowKit Go.Shelf
open Go.Proofs
abbrev PrB := ByteArray × ByteArray
def encP (p : PrB) : List Value := [.string p.1, .string p.2]
theorem prE : EncTy encP 2 := ⟨fun _ => rfl, fun x v hv => by simp [encP] at hv; rcases hv with rfl | rfl <;> rfl⟩
theorem prT : ElemTy Tryz.prog 173 281 2 32 := ⟨by kernel_rfl, by kernel_rfl, by omega⟩
abbrev ReadsPr (w : World) (B : Nat) (A : Option Addr) (l : List PrB) : Prop := Reads 2 encP w B A l
abbrev OwnsPr (base : Nat) (w : World) (A : Option Addr) (c : Nat) (l : List PrB) : Prop := Owns 281 2 encP base w A c l
theorem ReadsPr.cell {w : World} {B : Nat} {A : Option Addr} {l : List PrB} (h : ReadsPr w B A l) (i : Nat) (hi : i < l.length) : ∃ b off, A = some ⟨b, off, none⟩ ∧ b < B ∧ w.cell? ⟨b, off + i * 2, none⟩ = some (.string l[i].1) ∧ w.cell? ⟨b, off + i * 2 + 1, none⟩ = some (.string l[i].2) := by
 obtain ⟨b, off, h1, h2, h3⟩ := h (by omega)
 exact ⟨b, off, h1, h2, by simpa using h3 i hi 0 _ rfl, by simpa using h3 i hi 1 _ rfl⟩
def prB (p : PrB) : Ad.Pr := (bsT p.1, bsT p.2)
def sepB (k : Nat) : List UInt8 := if k = 0 then [63] else [38]
theorem pathT_succ (l : List (List UInt8)) (k : Nat) (h : k < l.length) : Ad.pathT (l.take (k + 1)) = Ad.pathT (l.take k) ++ 47 :: l[k] := by
 rw [List.take_succ_eq_append_getElem h, Ad.pathT, List.flatMap_append]
 simp [Ad.pathT]
theorem quT_snoc : ∀ (l : List Ad.Pr) (p : Ad.Pr), Ad.quT (l ++ [p]) = Ad.quT l ++ (sepB l.length ++ Ad.pairT p)
 | [], p => by simp [Ad.quT, sepB]
 | q :: r, p => by
  have e : sepB (q :: r).length = [38] := if_neg (by simp)
  rw [e]
  simp [Ad.quT, List.flatMap_append]
theorem quT_succ (l : List Ad.Pr) (k : Nat) (h : k < l.length) : Ad.quT (l.take (k + 1)) = Ad.quT (l.take k) ++ (sepB k ++ Ad.pairT l[k]) := by
 rw [List.take_succ_eq_append_getElem h, quT_snoc, List.length_take, Nat.min_eq_left (by omega)]
def sepS (k : Nat) : ByteArray := if k = 0 then ⟨#[63]⟩ else ⟨#[38]⟩
theorem sepS_bs (k : Nat) : bsT (sepS k) = sepB k := by unfold sepS sepB; split <;> rfl
theorem sepS_size (k : Nat) : (sepS k).size = 1 := by unfold sepS; split <;> rfl
theorem sepS_succ (k : Nat) : sepS (k + 1) = ⟨#[38]⟩ := if_neg (by omega)
section
variable {T e : TypeId} {B b : Nat} {bs : List Value} {w w' : World}
theorem builderAt_ext {p : Value} (h : Lib.BuilderAt T e B b p bs w) (hx : Ext w w') : Lib.BuilderAt T e B b p bs w' := by
 obtain ⟨hB, v, hb, hown, hne⟩ := h
 refine ⟨hB, v, (hx.below.block b (Array.getElem?_eq_some_iff.1 hb).1).trans hb, ⟨hown.1, ?_⟩, hne⟩
 rcases hown.2 with k | ⟨g, cap, cur, h1, h2, h3, h4⟩
 ·exact .inl k
 ·exact .inr ⟨g, cap, cur, h1, h2, (hx.below.block g (Array.getElem?_eq_some_iff.1 h3).1).trans h3, h4⟩
theorem isBuilder_ext (h : Lib.IsBuilder T e B b bs w) (hx : Ext w w') : Lib.IsBuilder T e B b bs w' := by
 rcases h with h | h
 ·exact .inl (builderAt_ext h hx)
 ·exact .inr (builderAt_ext h hx)
end
abbrev Bld (B b : Nat) (l : List UInt8) (w : World) : Prop := Lib.IsBuilder 275 5 B b (Lib.byteCells l) w
theorem wrstr_any (B b : Nat) (l : List UInt8) (s : ByteArray) (w : World) (h : Bld B b l w) (hlen : l.length + s.size ≤ 140737488355328) (hBw : B ≤ w.heap.size) :
  Calls Tryz.prog 220 #[.pointer (some ⟨b, 0, none⟩), .string s] w fun e w' => e = .returned (.tuple #[.int .i64 s.size, .nilIface]) ∧ Bld B b (l ++ bsT s) w' ∧ Below B w w' := by
 have hc := Any.Builder_WriteString { Tryz.join with } joinExtra B b (Lib.byteCells l) s w h (by rw [Lib.byteCells_length]; exact hlen) hBw
 refine Calls.mono hc ?_
 rintro e w' ⟨he, h1, h2⟩
 refine ⟨he, .inr ?_, h2⟩
 rw [Lib.byteCells_append]
 exact h1
theorem bstr_any (B b : Nat) (l : List UInt8) (w : World) (h : Bld B b l w) (hBw : B ≤ w.heap.size) :
  Calls Tryz.prog 221 #[.pointer (some ⟨b, 0, none⟩)] w fun e w' => e = .returned (.string ⟨l.toArray⟩) ∧ Below B w w' :=
 Any.Builder_String_any { Tryz.join with } joinExtra B b l w h hBw
theorem write_any (cu : ByteArray) (A : Option Addr) (c : Nat) (ls : List ByteArray) (A2 : Option Addr) (c2 : Nat) (qs : List PrB) (w : World) (h1 : cu.size ≤ 64) (h2 : ∀ x ∈ ls, x.size ≤ 64) (h3 : ∀ x ∈ qs, x.1.size ≤ 64 ∧ x.2.size ≤ 64) (hl : ls.length ≤ 32) (hq : qs.length ≤ 16)
  (hr : ReadsStr w w.heap.size A ls) (hr2 : ReadsPr w w.heap.size A2 qs) :
  Calls Tryz.prog 166 #[.agg #[.string cu, .slice A ls.length c, .slice A2 qs.length c2]] w fun e w' => e = .returned (.string ⟨(Ad.textT ⟨bsT cu, ls.map bsT, qs.map prB⟩).toArray⟩) ∧ Ext w w' := by
 have HR := lh hr
 have HR2 := lh hr2
 have H2 := lh h2
 have H3 := lh h3
 clear hr hr2 h2 h3
 go_enter Tryz.func166, Tryz.ntmps166
 go_wp2_with (go_at_call 220; refine (show Hid _ from ?_).out)
 refine lh ?_
 have hB0 : Bld (w.heap.size + 1) (w.heap.size + 1) [] ((w.alloc (.cells #[.string cu, .slice A ls.length c, .slice A2 qs.length c2] 175)).alloc (.cells #[.pointer none, .slice none 0 0] 275)) := by
  have h := Lib.fresh_isBuilder 275 5 (w.alloc (.cells #[.string cu, .slice A ls.length c, .slice A2 qs.length c2] 175))
  rw [World.size_alloc] at h
  exact h
 have hA0 : RowAt ((w.alloc (.cells #[.string cu, .slice A ls.length c, .slice A2 qs.length c2] 175)).alloc (.cells #[.pointer none, .slice none 0 0] 275)) w.heap.size #[.string cu, .slice A ls.length c, .slice A2 qs.length c2] := (RowAt.new _ _ _).alloc _
 have hx0 : Ext w ((w.alloc (.cells #[.string cu, .slice A ls.length c, .slice A2 qs.length c2] 175)).alloc (.cells #[.pointer none, .slice none 0 0] 275)) := ((Ext.refl w).alloc _).alloc _
 have hs0 : w.heap.size + 1 ≤ ((w.alloc (.cells #[.string cu, .slice A ls.length c, .slice A2 qs.length c2] 175)).alloc (.cells #[.pointer none, .slice none 0 0] 275)).heap.size := by simp
 refine (wrstr_any _ _ _ cu _ hB0 (by simp; omega) hs0).mono ?_
 rintro e w1 ⟨rfl, hb1, hx1⟩
 have hA1 := hA0.below hx1 (by omega)
 have HX1 : Hid (Ext w w1) := lh (hx0.grown hx1 (by omega))
 have HB1 := lh hb1
 have HA1 := lh hA1
 have a1 := hA1.cell 1
 have hs1 : w.heap.size + 1 ≤ w1.heap.size := Nat.le_trans hs0 hx1.size
 clear hB0 hA0 hx0 hs0 hx1 hb1 hA1
 go_wp2
 go_loopw [15] (fun i wr => ∃ k : Nat, k ≤ ls.length ∧ i = .int .i64 k ∧ Hid (Bld (w.heap.size + 1) (w.heap.size + 1) (bsT cu ++ Ad.pathT ((ls.take k).map bsT)) wr) ∧ Hid (Ext w wr) ∧ Hid (RowAt wr w.heap.size #[.string cu, .slice A ls.length c, .slice A2 qs.length c2]) ∧ w.heap.size + 1 ≤ wr.heap.size ∧ (bsT cu ++ Ad.pathT ((ls.take k).map bsT)).length ≤ 64 + 65 * k) (fun i _ => ls.length - (intOf i).toNat)
 case atStart => exact ⟨0, Nat.zero_le _, rfl, lh (by simpa [Ad.pathT] using HB1.out), HX1, HA1, hs1, by simp [Ad.pathT, bsT_size]; omega⟩
 case round =>
  obtain ⟨k, hk, rfl, HB, HX, HA, hsz, hln⟩ := hrel
  clear HB1 HX1 HA1 a1 hs1
  by_cases hlt : k < ls.length
  ·obtain ⟨b, off, rfl, hb, d1⟩ := ReadsStr.cell (HR.out.ext HX.out (Nat.le_refl _)) k hlt
   have hx64 := H2.out _ (List.getElem_mem hlt)
   have HN : Hid (bsT cu ++ Ad.pathT ((ls.take (k + 1)).map bsT) = bsT cu ++ Ad.pathT ((ls.take k).map bsT) ++ bsT (⟨#[47]⟩ ++ ls[k])) := lh (by
    have h := pathT_succ (ls.map bsT) k (by simpa using hlt)
    rw [List.map_take, List.map_take, h, bsT_app, List.getElem_map, List.append_assoc]
    rfl)
   generalize ls[k] = x at *
   generalize bsT cu ++ Ad.pathT ((ls.take k).map bsT) = L at *
   go_wp2_with (go_at_call 220; refine (show Hid _ from ?_).out)
   refine lh ?_
   refine (wrstr_any _ _ _ _ _ HB.out (by simp only [ByteArray.size_append]; have : (⟨#[47]⟩ : ByteArray).size = 1 := rfl; omega) hsz).mono ?_
   rintro e w2 ⟨rfl, hb2, hx2⟩
   have hl2 : (L ++ bsT (⟨#[47]⟩ ++ x)).length ≤ 64 + 65 * (k + 1) := by
    rw [List.length_append, bsT_size, ByteArray.size_append]
    have : (⟨#[47]⟩ : ByteArray).size = 1 := rfl
    omega
   have HB2 := lh hb2
   have HX2 : Hid (Ext w w2) := lh (HX.out.grown hx2 (by omega))
   have HA2 := lh (HA.out.below hx2 (by omega))
   have hs2 : w.heap.size + 1 ≤ w2.heap.size := Nat.le_trans hsz hx2.size
   clear hb2 hx2 HB
   go_wp2
   go_roundw
   case rel => exact ⟨k + 1, by omega, by go_num, by rw [HN.out]; exact HB2, HX2, HA2, hs2, by rw [HN.out]; exact hl2⟩
   case measure => simp [intOf]; omega
  ·have e : k = ls.length := by omega
   subst e
   rw [List.take_of_length_le (Nat.le_refl _)] at HB hln
   have a2 := HA.out.cell 2
   obtain ⟨L, hL⟩ : ∃ L, bsT cu ++ Ad.pathT (ls.map bsT) = L := ⟨_, rfl⟩
   have HT : Hid (Ad.textT ⟨bsT cu, ls.map bsT, qs.map prB⟩ = L ++ Ad.quT (qs.map prB)) := lh (by rw [← hL]; rfl)
   rw [hL] at HB hln
   clear hL
   have hsep : sepS 0 = ⟨#[63]⟩ := rfl
   go_wp2
   go_loopw [6, 26] (fun sp i wr => ∃ k : Nat, k ≤ qs.length ∧ sp = .string (sepS k) ∧ i = .int .i64 k ∧ Hid (Bld (w.heap.size + 1) (w.heap.size + 1) (L ++ Ad.quT ((qs.map prB).take k)) wr) ∧ Hid (Ext w wr) ∧ w.heap.size + 1 ≤ wr.heap.size ∧ (L ++ Ad.quT ((qs.map prB).take k)).length ≤ 2200 + 140 * k) (fun _ i _ => qs.length - (intOf i).toNat)
   case atStart => exact ⟨0, Nat.zero_le _, rfl, rfl, lh (by simpa [Ad.quT] using HB.out), HX, hsz, by simp [Ad.quT]; omega⟩
   case round =>
    obtain ⟨k, hk, rfl, rfl, HB', HX', hsz', hln'⟩ := hrel
    clear HB HX HA a2 hsz hln
    by_cases hlt : k < qs.length
    ·obtain ⟨b, off, rfl, hb, d1, d2⟩ := ReadsPr.cell (HR2.out.ext HX'.out (Nat.le_refl _)) k hlt
     obtain ⟨hx1, hx2⟩ := H3.out _ (List.getElem_mem hlt)
     have HN : Hid (L ++ Ad.quT ((qs.map prB).take (k + 1)) = L ++ Ad.quT ((qs.map prB).take k) ++ bsT (sepS k ++ qs[k].1 ++ ⟨#[61]⟩ ++ qs[k].2)) := lh (by
      rw [quT_succ (qs.map prB) k (by simpa using hlt), List.getElem_map, bsT_app, bsT_app, bsT_app, sepS_bs]
      simp only [List.append_assoc, prB, Ad.pairT]
      rfl)
     generalize qs[k] = p at *
     obtain ⟨p1, p2⟩ := p
     simp only [] at d1 d2 hx1 hx2 HN
     have hsk := sepS_size k
     have hss := sepS_succ k
     generalize sepS k = sk at *
     generalize L ++ Ad.quT ((qs.map prB).take k) = LL at *
     go_wp2_with (go_at_call 220; refine (show Hid _ from ?_).out)
     refine lh ?_
     have hs1 : (⟨#[61]⟩ : ByteArray).size = 1 := rfl
     have hs3 : w.heap.size + 1 ≤ (wr.alloc (.cells #[.string p1, .string p2] 281)).heap.size := by rw [World.size_alloc]; omega
     refine (wrstr_any _ _ _ _ _ (isBuilder_ext HB'.out ((Ext.refl wr).alloc _)) (by simp only [ByteArray.size_append]; omega) hs3).mono ?_
     rintro e w2 ⟨rfl, hb2, hx3⟩
     have hl2 : (LL ++ bsT (sk ++ p1 ++ ⟨#[61]⟩ ++ p2)).length ≤ 2200 + 140 * (k + 1) := by
      rw [List.length_append, bsT_size]
      simp only [ByteArray.size_append]
      omega
     have HB2 := lh hb2
     have HX2 : Hid (Ext w w2) := lh ((HX'.out.alloc _).grown hx3 (by omega))
     have hs2 : w.heap.size + 1 ≤ w2.heap.size := Nat.le_trans hs3 hx3.size
     clear hb2 hx3 HB' hs3
     go_wp2
     go_roundw
     case rel => exact ⟨k + 1, by omega, by rw [hss], by go_num, by rw [HN.out]; exact HB2, HX2, hs2, by rw [HN.out]; exact hl2⟩
     case measure => simp [intOf]; omega
    ·have e : k = qs.length := by omega
     subst e
     rw [List.take_of_length_le (by simp)] at HB'
     generalize sepS qs.length = sk
     clear hsep
     go_wp2_with (go_at_call 221; refine (bstr_any _ _ _ _ HB'.out hsz').mono ?_; rintro e w2 ⟨rfl, hx3⟩; have HX2 : Hid (Ext w w2) := lh (HX'.out.grown hx3 (by omega)); clear hx3)
     go_ret
     exact ⟨by rw [HT.out]; rfl, HX2.out⟩
end Go.Proofs.YtpojnhikgjcgmaaGreatDoor

namespace Go.Proofs.YtpojnhikgjcgmaaGreatDoor
open Go.RowKit Go.Shelf
open Go.Proofs
theorem text1_any (s : ByteArray) (w : World) : Calls Tryz.prog 250 #[.string s] w fun e w' => e = .returned (.bool (!Tg.wordB (bsT s))) ∧ Ext w w' := by
 have H := lh (word_any s)
 go_enter Tryz.func250, Tryz.ntmps250
 go_wp2_with (go_at_call 251; refine (H.out _).mono ?_; rintro e w' ⟨rfl, hxl⟩; obtain ⟨xl, rfl⟩ := hxl.asLater; clear hxl)
 go_ret
 exact ⟨rfl, (by (with_reducible repeat first|exact eR _|apply eD|apply eN|apply eA|apply eO|apply eS|apply eC);all_goals first|omega|simp <;> omega)⟩
theorem windex_any (A : Option Addr) (c : Nat) (ls : List ByteArray) (w : World) (hlen : ls.length ≤ 140737488355328) (hr : ReadsStr w w.heap.size A ls) (hw : ∀ x ∈ ls, Tg.wordB (bsT x) = true) :
  Calls Tryz.prog 252 #[.slice A ls.length c, .func (.func 250) #[] #[]] w fun e w' => e = .returned (.int .i64 (-1)) ∧ Ext w w' := by
 have HR := lh hr
 have HW := lh hw
 clear hr hw
 go_enter Tryz.func252, Tryz.ntmps252
 go_wp2
 go_loopw [8] (fun i wr => ∃ k : Nat, k ≤ ls.length ∧ i = .int .i64 k ∧ Ext w wr) (fun i _ => ls.length - (intOf i).toNat)
 case atStart => exact ⟨0, Nat.zero_le _, rfl, eR _⟩
 case round =>
  obtain ⟨k, hk, rfl, hx⟩ := hrel
  have HX := lh hx
  by_cases hlt : k < ls.length
  ·obtain ⟨b, off, rfl, hb, c1⟩ := ReadsStr.cell (HR.out.on hx) k hlt
   have HT := lh (text1_any ls[k])
   rw [HW.out _ (List.getElem_mem hlt)] at HT
   generalize ls[k] = s at *
   clear hx
   go_wp2_with (go_at_call 250; refine (HT.out _).mono ?_; rintro e w' ⟨rfl, hxl⟩; obtain ⟨xl, rfl⟩ := hxl.asLater; clear hxl)
   go_roundw
   case rel => exact ⟨k + 1, by omega, by go_num, (by (with_reducible repeat first|exact HX.out|exact eR _|apply eD|apply eN|apply eA|apply eO|apply eS|apply eC);all_goals first|omega|simp <;> omega)⟩
   case measure => simp [intOf]; omega
  ·go_wp2
   go_ret
   exact ⟨rfl, HX.out⟩
theorem wcont_any (A : Option Addr) (c : Nat) (ls : List ByteArray) (w : World) (hlen : ls.length ≤ 140737488355328) (hr : ReadsStr w w.heap.size A ls) (hw : ∀ x ∈ ls, Tg.wordB (bsT x) = true) :
  Calls Tryz.prog 195 #[.slice A ls.length c, .func (.func 250) #[] #[]] w fun e w' => e = .returned (.bool false) ∧ Ext w w' := by
 have H := lh (windex_any A c ls w hlen hr hw)
 clear hr hw
 go_enter Tryz.func195, Tryz.ntmps195
 go_wp2_with (go_at_call 252; refine H.out.mono ?_; rintro e w' ⟨rfl, hxl⟩; obtain ⟨xl, rfl⟩ := hxl.asLater; clear hxl)
 go_ret
 exact ⟨rfl, (by (with_reducible repeat first|exact eR _|apply eD|apply eN|apply eA|apply eO|apply eS|apply eC);all_goals first|omega|simp <;> omega)⟩
def txE (a : Ad.Adr) : Int := if 4096 < (Ad.textT a).length then 1 else 0
def txS (a : Ad.Adr) : List UInt8 := if txE a = 0 then Ad.textT a else []
theorem word_size {s : ByteArray} (h : Tg.wordB (bsT s) = true) : s.size ≤ 64 := by
 simp only [Tg.wordB, Bool.and_eq_true, decide_eq_true_eq] at h
 have := h.1.1.1.2
 rwa [bsT_size] at this
theorem asc_at {qs : List PrB} (ha : Ad.AscP (qs.map prB)) (k : Nat) (h0 : 0 < k) (hk : k < qs.length) : bsT (qs[k - 1]'(by omega)).1 < bsT qs[k].1 := by
 have h := List.pairwise_iff_getElem.1 ha (k - 1) k (by simp; omega) (by simpa using hk) (by omega)
 simpa [prB] using h
theorem text_any (cu : ByteArray) (A : Option Addr) (c : Nat) (ls : List ByteArray) (A2 : Option Addr) (c2 : Nat) (qs : List PrB) (w : World) (hn : Tg.nameB (bsT cu) = true) (hw : ∀ x ∈ ls, Tg.wordB (bsT x) = true) (hg : ∀ p ∈ qs, Ad.goodP (prB p) = true) (ha : Ad.AscP (qs.map prB)) (hl : ls.length ≤ 32) (hq : qs.length ≤ 16)
  (hr : ReadsStr w w.heap.size A ls) (hr2 : ReadsPr w w.heap.size A2 qs) :
  Calls Tryz.prog 194 #[.agg #[.string cu, .slice A ls.length c, .slice A2 qs.length c2]] w fun e w' => e = .returned (.tuple #[.string ⟨(txS ⟨bsT cu, ls.map bsT, qs.map prB⟩).toArray⟩, .int .i64 (txE ⟨bsT cu, ls.map bsT, qs.map prB⟩)]) ∧ Ext w w' := by
 have HR := lh hr
 have HR2 := lh hr2
 have HC := lh (fun (W : World) (hx : Ext w W) => wcont_any A c ls W (by omega) (hr.on hx) hw)
 have HNm := lh (fun W => name_any cu W)
 have hn' : Tg.nameB cu.data.toList = true := hn
 rw [hn'] at HNm
 have HWr := lh (fun (W : World) (hx : Ext w W) => write_any cu A c ls A2 c2 qs W (name_size hn) (fun x hx => word_size (hw x hx)) (fun p hp => by
  have h := hg p hp
  simp only [Ad.goodP, Bool.and_eq_true] at h
  exact ⟨name_size h.1, word_size h.2⟩) hl hq (hr.on hx) (hr2.on hx))
 have HA := lh ha
 have HG := lh hg
 have HS : Hid (txS ⟨bsT cu, ls.map bsT, qs.map prB⟩ = if txE ⟨bsT cu, ls.map bsT, qs.map prB⟩ = 0 then Ad.textT ⟨bsT cu, ls.map bsT, qs.map prB⟩ else []) := lh rfl
 have HE : Hid (txE ⟨bsT cu, ls.map bsT, qs.map prB⟩ = if 4096 < (Ad.textT ⟨bsT cu, ls.map bsT, qs.map prB⟩).length then 1 else 0) := lh rfl
 generalize txS ⟨bsT cu, ls.map bsT, qs.map prB⟩ = tS at *
 generalize txE ⟨bsT cu, ls.map bsT, qs.map prB⟩ = tE at *
 generalize Ad.textT ⟨bsT cu, ls.map bsT, qs.map prB⟩ = tx at *
 have d1 : decide ((32 : Int) < (ls.length : Int)) = false := by simp; omega
 have d2 : decide ((16 : Int) < (qs.length : Int)) = false := by simp; omega
 clear hr hr2 hw hn hn' ha hg
 go_enter Tryz.func194, Tryz.ntmps194
 go_wp2_with (first
  | (go_at_call 197; refine (HNm.out _).mono ?_; rintro e w' ⟨rfl, hxl⟩; obtain ⟨xl, rfl⟩ := hxl.asLater; clear hxl)
  | (go_at_call 195; refine (HC.out _ (by (with_reducible repeat first|exact eR _|apply eD|apply eN|apply eA|apply eO|apply eS|apply eC);all_goals first|omega|simp <;> omega)).mono ?_; rintro e w' ⟨rfl, hxk⟩; obtain ⟨xk, rfl⟩ := hxk.asLater; clear hxk))
 refine wp_world (fun W => Ext w W ∧ RowAt W w.heap.size #[.string cu, .slice A ls.length c, .slice A2 qs.length c2]) ⟨(by (with_reducible repeat first|exact eR _|apply eD|apply eN|apply eA|apply eO|apply eS|apply eC);all_goals first|omega|simp <;> omega), (by (repeat (first | with_reducible exact RowAt.new _ _ _ | with_reducible refine RowAt.drew ?_ | with_reducible refine RowAt.later ?_ _ | with_reducible exact RowAt.newAt (by first | rfl | omega | (simp [later_size, setCells_size]; done) | (simp [later_size, setCells_size]; omega)) | with_reducible refine RowAt.alloc ?_ _ | with_reducible apply RowAt.store | with_reducible refine RowAt.others ?_ ?_ _ _ | with_reducible refine RowAt.other ?_ ?_ _)); all_goals first | omega | (simp; done) | (simp; omega) | (simp [go_sem]; done))⟩ ?_
 rintro W1 ⟨x1, r1⟩
 have HX1 := lh x1
 have HR1 := lh r1
 clear x1 r1 HC HNm
 have HNm := lh (fun (s : ByteArray) (h : Tg.nameB (bsT s) = true) W => (by have k := name_any s W; rw [show Tg.nameB s.data.toList = true from h] at k; exact k : Calls Tryz.prog 197 #[.string s] W fun e w' => e = .returned (.bool true) ∧ Ext W w'))
 have HWd := lh (fun (s : ByteArray) (h : Tg.wordB (bsT s) = true) W => (by have k := word_any s W; rw [show Tg.wordB s.data.toList = true from h] at k; exact k : Calls Tryz.prog 251 #[.string s] W fun e w' => e = .returned (.bool true) ∧ Ext W w'))
 go_loopw [31] (fun i wr => ∃ k : Nat, k ≤ qs.length ∧ i = .int .i64 k ∧ Hid (Ext w wr) ∧ Hid (RowAt wr w.heap.size #[.string cu, .slice A ls.length c, .slice A2 qs.length c2])) (fun i _ => qs.length - (intOf i).toNat)
 case atStart => exact ⟨0, Nat.zero_le _, rfl, HX1, HR1⟩
 case round =>
  obtain ⟨k, hk, rfl, HX, HRw⟩ := hrel
  clear HX1 HR1
  have hlt0 := HRw.out.lt
  have hsz := HX.out.size
  have q0 : wr.cell? ⟨w.heap.size, 0, none⟩ = some (.string cu) := HRw.out.cell 0
  have q1 : wr.cell? ⟨w.heap.size, 1, none⟩ = some (.slice A ls.length c) := HRw.out.cell 1
  have q2 : wr.cell? ⟨w.heap.size, 2, none⟩ = some (.slice A2 qs.length c2) := HRw.out.cell 2
  by_cases hlt : k < qs.length
  ·obtain ⟨b, off, rfl, hb, d3, d4⟩ := ReadsPr.cell (HR2.out.ext HX.out (Nat.le_refl _)) k hlt
   have hb2 : b < wr.heap.size := by omega
   have hgd := HG.out _ (List.getElem_mem hlt)
   simp only [Ad.goodP, Bool.and_eq_true] at hgd
   have hN1 := HNm.out qs[k].1 hgd.1
   have hW1 := HWd.out qs[k].2 hgd.2
   have HN1 := lh hN1
   have HW1 := lh hW1
   clear hgd hN1 hW1
   by_cases k0 : 0 < k
   ·obtain ⟨b', off', e1, _, d5, _⟩ := ReadsPr.cell (HR2.out.ext HX.out (Nat.le_refl _)) (k - 1) (by omega)
    injection e1 with e1
    injection e1 with e1 e2
    subst e1 e2
    have hasc := asc_at HA.out k k0 hlt
    have HLE := lh (le_walk qs[k].1 (qs[k - 1]'(by omega)).1)
    generalize (qs[k - 1]'(by omega)).1 = pk at *
    generalize qs[k] = p at *
    obtain ⟨p1, p2⟩ := p
    simp only [] at d3 d4 HN1 HW1 HLE hasc
    have hle : (Op.bytesLess p1.toList pk.toList || p1.toList == pk.toList) = false := by
     rw [HLE.out, decide_eq_false_iff_not]
     exact fun h => List.not_lt.2 h hasc
    have z0 : decide (0 < k) = true := by simpa using k0
    have z1 : decide ((0 : Int) < (k : Int)) = true := by simp; omega
    clear hasc HLE
    go_wp2
    refine wp_region_later (by kernel_rfl) (by kernel_rfl) ?_
    repeat (first | go_big_quiet_step ((first | (go_at_call 197; exact quietE (HN1.out _)) | (go_at_call 251; exact quietE (HW1.out _)))) | quiet_step ((first | (go_at_call 197; exact quietE (HN1.out _)) | (go_at_call 251; exact quietE (HW1.out _)))))
    refine wpQuiet_nil ?_
    rintro _ ⟨xq, rfl⟩
    go_wp2
    go_roundw
    case rel => exact ⟨k + 1, by omega, by go_num, lh (by (with_reducible repeat first|exact HX.out|exact eR _|apply eD|apply eN|apply eA|apply eO|apply eS|apply eC);all_goals first|omega|simp <;> omega), lh (by (repeat (first | with_reducible exact HRw.out | with_reducible refine RowAt.drew ?_ | with_reducible refine RowAt.later ?_ _ | with_reducible exact RowAt.newAt (by first | rfl | omega | (simp [later_size, setCells_size]; done) | (simp [later_size, setCells_size]; omega)) | with_reducible refine RowAt.alloc ?_ _ | with_reducible apply RowAt.store | with_reducible refine RowAt.others ?_ ?_ _ _ | with_reducible refine RowAt.other ?_ ?_ _)); all_goals first | omega | (simp; done) | (simp; omega) | (simp [go_sem]; done))⟩
    case measure => simp [intOf]; omega
   ·have z0 : decide (0 < k) = false := by simpa using k0
    have z1 : decide ((0 : Int) < (k : Int)) = false := by simp; omega
    generalize qs[k] = p at *
    obtain ⟨p1, p2⟩ := p
    simp only [] at d3 d4 HN1 HW1
    go_wp2
    refine wp_region_later (by kernel_rfl) (by kernel_rfl) ?_
    repeat (first | go_big_quiet_step ((first | (go_at_call 197; exact quietE (HN1.out _)) | (go_at_call 251; exact quietE (HW1.out _)))) | quiet_step ((first | (go_at_call 197; exact quietE (HN1.out _)) | (go_at_call 251; exact quietE (HW1.out _)))))
    refine wpQuiet_nil ?_
    rintro _ ⟨xq, rfl⟩
    go_wp2
    go_roundw
    case rel => exact ⟨k + 1, by omega, by go_num, lh (by (with_reducible repeat first|exact HX.out|exact eR _|apply eD|apply eN|apply eA|apply eO|apply eS|apply eC);all_goals first|omega|simp <;> omega), lh (by (repeat (first | with_reducible exact HRw.out | with_reducible refine RowAt.drew ?_ | with_reducible refine RowAt.later ?_ _ | with_reducible exact RowAt.newAt (by first | rfl | omega | (simp [later_size, setCells_size]; done) | (simp [later_size, setCells_size]; omega)) | with_reducible refine RowAt.alloc ?_ _ | with_reducible apply RowAt.store | with_reducible refine RowAt.others ?_ ?_ _ _ | with_reducible refine RowAt.other ?_ ?_ _)); all_goals first | omega | (simp; done) | (simp; omega) | (simp [go_sem]; done))⟩
    case measure => simp [intOf]; omega
  ·clear HNm HWd HG HA
   have hz : ((⟨tx.toArray⟩ : ByteArray)).size = tx.length := by simp [ByteArray.size]
   by_cases h4 : 4096 < tx.length
   ·have h5 : tE = 1 := by rw [HE.out, if_pos h4]
    have h6 : tS = [] := by rw [HS.out, h5]; rfl
    subst h5 h6
    clear HE HS
    go_wp2_with (go_at_call 166; refine (HWr.out _ HX.out).mono ?_; rintro e w' ⟨rfl, hxl⟩; obtain ⟨xl, rfl⟩ := hxl.asLater; clear hxl)
    go_wp2
    refine bodyPost_ret (v := .tuple #[.string ⟨([] : List UInt8).toArray⟩, .int .i64 1]) ?_ rfl ⟨rfl, (by (with_reducible repeat first|exact HX.out|exact eR _|apply eD|apply eN|apply eA|apply eO|apply eS|apply eC);all_goals first|omega|simp <;> omega)⟩
    simp [results, Tryz.results194, go_sem, ↓IntWalk.iteOmega]
   ·have h5 : tE = 0 := by rw [HE.out, if_neg h4]
    have h6 : tS = tx := by rw [HS.out, h5]; rfl
    subst h5 h6
    clear HE HS
    go_wp2_with (go_at_call 166; refine (HWr.out _ HX.out).mono ?_; rintro e w' ⟨rfl, hxl⟩; obtain ⟨xl, rfl⟩ := hxl.asLater; clear hxl)
    go_wp2
    refine bodyPost_ret (v := .tuple #[.string ⟨tS.toArray⟩, .int .i64 0]) ?_ rfl ⟨rfl, (by (with_reducible repeat first|exact HX.out|exact eR _|apply eD|apply eN|apply eA|apply eO|apply eS|apply eC);all_goals first|omega|simp <;> omega)⟩
    simp [results, Tryz.results194, go_sem, ↓IntWalk.iteOmega]
section
attribute [local go_sem] Oper.semAt_some
theorem resolve_none (w : World) :
  Calls Tryz.prog 218 #[.func (.func 217) #[] #[]] w fun e w' => e = .returned (.tuple #[.slice none 0 0, .bool true]) ∧ Ext w w' := by
 refine (callsIn_wide (n := 4)).1 ?_
 refine callsIn_of_wp_marks Tryz.func218 rfl trivial ?_ rfl
 simp only [Tryz.ntmps218, List.size_toArray, List.length_cons, List.length_nil, Nat.reduceAdd, Nat.reduceSub, Array.replicate_succ, Array.replicate_zero, List.push_toArray, List.append_toArray, List.nil_append, List.cons_append]
 gi_wp2
 have b1 : Boxed (((w.alloc (.cells #[.slice none 0 0] 97)).alloc (.cells #[.bool false] 4)).alloc (.cells #[.slice none 0 0] 97)) w.heap.size 97 (.slice none 0 0) := ((Boxed.new w 97 _).alloc _).alloc _
 have b2 : Boxed (((w.alloc (.cells #[.slice none 0 0] 97)).alloc (.cells #[.bool false] 4)).alloc (.cells #[.slice none 0 0] 97)) (w.heap.size + 1) 4 (.bool false) := by
  have := Boxed.new (w.alloc (.cells #[.slice none 0 0] 97)) 4 (.bool false); rw [World.size_alloc] at this; exact this.alloc _
 have b3 : Boxed (((w.alloc (.cells #[.slice none 0 0] 97)).alloc (.cells #[.bool false] 4)).alloc (.cells #[.slice none 0 0] 97)) (w.heap.size + 1 + 1) 97 (.slice none 0 0) := by
  have := Boxed.new ((w.alloc (.cells #[.slice none 0 0] 97)).alloc (.cells #[.bool false] 4)) 97 (.slice none 0 0); rw [World.size_alloc, World.size_alloc] at this; exact this
 have bs0 : (((w.alloc (.cells #[.slice none 0 0] 97)).alloc (.cells #[.bool false] 4)).alloc (.cells #[.slice none 0 0] 97)).heap.size = w.heap.size + 3 := by simp
 have bx : Ext w (((w.alloc (.cells #[.slice none 0 0] 97)).alloc (.cells #[.bool false] 4)).alloc (.cells #[.slice none 0 0] 97)) := (((eR _).alloc _).alloc _).alloc _
 generalize (((w.alloc (.cells #[.slice none 0 0] 97)).alloc (.cells #[.bool false] 4)).alloc (.cells #[.slice none 0 0] 97)) = W0 at b1 b2 b3 bs0 bx ⊢
 have hbs1 := Nat.le_of_eq bs0
 have hbs2 := Nat.le_of_eq bs0.symm
 clear bs0
 refine rf_enter2 rfl (by omega) (gf := 217) (lb := #[]) rfl trivial (enters_of Tryz.func217 (by kernel_rfl) rfl) ?_
 intro fn WL rdy hfn hrdy hE hEs hl0 hD0
 have hEa := Nat.le_of_eq hEs
 have hEb := Nat.le_of_eq hEs.symm
 clear hEs hrdy
 have hP : CallsIn Fence.wide (4 - 1) Tryz.prog 217 #[.func (.yield (W0.heap.size + 1)) #[] #[]] WL fun e W' => (∃ v, e = .returned v) ∧ W' = WL := by
  refine callsIn_of_wp Tryz.func217 rfl trivial ?_ rfl
  simp only [Tryz.ntmps217, List.size_toArray, List.length_cons, List.length_nil, Nat.reduceAdd, Nat.reduceSub, Array.replicate_succ, Array.replicate_zero, List.push_toArray, List.append_toArray, List.nil_append, List.cons_append]
  gi_wp2
  go_end0
  exact ⟨⟨_, rfl⟩, rfl⟩
 refine CallsIn.mono hP ?_
 rintro e W' ⟨⟨v', rfl⟩, rfl⟩
 refine ⟨⟨_, rfl⟩, .inl ⟨hl0, ?_⟩⟩
 intro W'' hBut
 have HK : Hid (W''.heap[W0.heap.size]? = some (.deferred (some []))) := lh ((hBut.block _ (by omega) (fun e => by injection e; omega)).trans hD0)
 have hc := (boxed_but (Boxed.ext b3 hE) hBut (by omega)).cell
 have hq2 := boxed_but (Boxed.ext b1 hE) hBut (by omega)
 have hq3 := boxed_but (Boxed.ext b2 hE) hBut (by omega)
 have k2 := hq2.cell
 have k2f := hq2.frozen
 have k3 := hq3.cell
 have k3f := hq3.frozen
 have HQ2 := lh hq2
 have HQ3 := lh hq3
 have HBu : Hid (ButS (fun k => w.heap.size ≤ k) w W'') := lh ((ButS.of_ext (bx.trans hE)).trans (ButS.of_but hBut (.inr (by omega))))
 clear hBut hq2 hq3 hD0 hl0 b1 b2 b3 hP
 gi_wp2
 have hK2 : ((W''.setCell ⟨w.heap.size, 0, none⟩ (.slice none 0 0)).setCell ⟨w.heap.size + 1, 0, none⟩ (.bool true)).heap[W0.heap.size]? = some (.deferred (some [])) := (Below.heap_setCell _ _ _ _ (by show _ ≠ w.heap.size + 1; omega)).trans ((Below.heap_setCell _ _ _ _ (by show _ ≠ w.heap.size; omega)).trans HK.out)
 refine ⟨by simp, .inl ⟨_, _, rfl, run_takeDeferred hK2, ?_⟩⟩
 have hgb := grownBy_putObj' ((W''.setCell ⟨w.heap.size, 0, none⟩ (.slice none 0 0)).setCell ⟨w.heap.size + 1, 0, none⟩ (.bool true)) W0.heap.size (.deferred none)
 refine ⟨.tuple #[.slice none 0 0, .bool true], results_two Tryz.results218 ⟨_, rfl, load_strs (boxed_but ((HQ2.out.set _).other (by omega) _) hgb (by omega))⟩ ⟨_, rfl, load_bool (boxed_but ((HQ3.out.other (by omega) _).set _) hgb (by omega))⟩, rfl, ?_⟩
 have h1 : ButS (fun k => w.heap.size ≤ k) w ((W''.setCell ⟨w.heap.size, 0, none⟩ (.slice none 0 0)).setCell ⟨w.heap.size + 1, 0, none⟩ (.bool true)) := (HBu.out.setCell (p := ⟨w.heap.size, 0, none⟩) (.inl (Nat.le_refl _)) _).setCell (p := ⟨w.heap.size + 1, 0, none⟩) (.inl (by show _ ≤ w.heap.size + 1; omega)) _
 exact (h1.trans (ButS.of_but hgb (.inr (by omega)))).toExt (fun k hk => by omega)
end
def RslU (o : Option (List (List UInt8))) (base : Nat) (e : Ending) (w' : World) : Prop :=
 ∃ (A : Option Addr) (c : Nat) (ls : List ByteArray) (one : Bool), e = .returned (.tuple #[.slice A ls.length c, .bool one]) ∧ one = o.isSome ∧ ls.map bsT = o.getD [] ∧ OwnsStr base w' A c ls
theorem RslIs.uni {o : Option (List (List UInt8))} {base : Nat} {e : Ending} {w' : World} (h : RslIs o base e w') : RslU o base e w' := by
 cases o with
 | none => exact ⟨none, 0, [], false, h, rfl, rfl, Owns.nil _ _ _ _ _⟩
 | some out =>
  obtain ⟨A, c, ls, h1, h2, h3⟩ := h
  exact ⟨A, c, ls, true, h1, rfl, h2, h3⟩
def PrsU (o : Option (List Ad.Pr)) (base : Nat) (e : Ending) (w' : World) : Prop :=
 ∃ (A : Option Addr) (c : Nat) (qs : List PrB) (two : Bool), e = .returned (.tuple #[.slice A qs.length c, .bool two]) ∧ two = o.isSome ∧ qs.map prB = o.getD [] ∧ OwnsPr base w' A c qs
def AdrAt (base : Nat) (a : Ad.Adr) (v : Value) (w : World) : Prop :=
 ∃ (cu : ByteArray) (A : Option Addr) (c : Nat) (ls : List ByteArray) (A2 : Option Addr) (c2 : Nat) (qs : List PrB), v = .agg #[.string cu, .slice A ls.length c, .slice A2 qs.length c2] ∧ (⟨bsT cu, ls.map bsT, qs.map prB⟩ : Ad.Adr) = a ∧ OwnsStr base w A c ls ∧ OwnsPr base w A2 c2 qs
theorem RslU.lower {o : Option (List (List UInt8))} {b b2 : Nat} {e : Ending} {w' : World} (h : RslU o b e w') (hb : b2 ≤ b) : RslU o b2 e w' := by
 obtain ⟨A, c, ls, one, h1, h2, h3, h4⟩ := h
 exact ⟨A, c, ls, one, h1, h2, h3, h4.lower hb⟩
section
variable {base b2 : Nat} {a : Ad.Adr} {v : Value} {w w' : World}
theorem AdrAt.ext (h : AdrAt base a v w) (hx : Ext w w') : AdrAt base a v w' := by
 obtain ⟨cu, A, c, ls, A2, c2, qs, h1, h2, h3, h4⟩ := h
 exact ⟨cu, A, c, ls, A2, c2, qs, h1, h2, h3.ext hx, h4.ext hx⟩
theorem AdrAt.lower (h : AdrAt base a v w) (hb : b2 ≤ base) : AdrAt b2 a v w := by
 obtain ⟨cu, A, c, ls, A2, c2, qs, h1, h2, h3, h4⟩ := h
 exact ⟨cu, A, c, ls, A2, c2, qs, h1, h2, h3.lower hb, h4.lower hb⟩
theorem AdrAt.others (h : AdrAt base a v w) {m : Nat} (hm : m < base) (o : Nat) (vs : List Value) : AdrAt base a v (w.setCells m o vs) := by
 obtain ⟨cu, A, c, ls, A2, c2, qs, h1, h2, h3, h4⟩ := h
 exact ⟨cu, A, c, ls, A2, c2, qs, h1, h2, h3.others hm o vs, h4.others hm o vs⟩
end
theorem adr_ty : RowTy Tryz.prog 175 3 := ⟨by kernel_rfl, by kernel_rfl⟩
theorem adr_ld (w : World) (b o : Nat) : (rowLoad 175 3 (.pointer (some ⟨b, o, none⟩))).run Tryz.prog w = rowLoadR Tryz.prog w 175 3 b o (rowOf w b o 3) := run_rowLoad adr_ty w b o
theorem adr_st (w : World) (b o : Nat) (cells : Array Value) : (rowStore 175 3 (.pointer (some ⟨b, o, none⟩)) (.agg cells)).run Tryz.prog w = rowStoreR Tryz.prog w 175 3 b o cells (roomOf w b o 3 && fitsRow 3 cells) := run_rowStore adr_ty w b o cells
theorem adr_al (w : World) : (rowAlloc 175).run Tryz.prog w = .ok (.value (.pointer (some ⟨w.heap.size, 0, none⟩))) (w.alloc (.cells (#[.string ByteArray.empty, .slice none 0 0, .slice none 0 0]) 175)) := run_rowAlloc (by kernel_rfl) w
theorem adr_xl (ρ : Operand → Value) (dst : Option Tmp) (x : Operand) (t : TypeId) (pos : String) (after : Array Edge) (guard : Option (Nat × Bool)) : execOp ρ { dst, op := .load 175 x, type := t, pos, after, guard } = rowLoad 175 3 (ρ x) := rfl
theorem adr_xs (ρ : Operand → Value) (dst : Option Tmp) (x y : Operand) (t : TypeId) (pos : String) (after : Array Edge) (guard : Option (Nat × Bool)) : execOp ρ { dst, op := .store 175 x y, type := t, pos, after, guard } = rowStore 175 3 (ρ x) (ρ y) := rfl
theorem adr_xa (ρ : Operand → Value) (dst : Option Tmp) (t : TypeId) (pos : String) (after : Array Edge) (guard : Option (Nat × Bool)) : execOp ρ { dst, op := .alloc 175, type := t, pos, after, guard } = rowAlloc 175 := rfl
attribute [go_sem ↓] adr_xl adr_xs adr_xa
attribute [go_sem] adr_ld adr_st adr_al
theorem load_prs {w : World} {b : Nat} {v : Value} (h : Boxed w b 173 v) : (loadVar 173 ⟨b, 0, none⟩).run Tryz.prog w = .ok v w := by
 have h1 := h.cell
 simp [loadVar, go_sem, h1]
theorem pairs_none (s : ByteArray) (w : World) (h : bsT s = []) : Calls Tryz.prog 219 #[.string s] w fun e w' => PrsU (Ad.quN (bsT s)) w.heap.size e w' ∧ Ext w w' := by
 have hs0 : (s.toList == []) = true := by rw [Lib.toList_data]; rw [show s.data.toList = [] from h]; rfl
 have hs1 : s.toList.isEmpty = true := by rw [Lib.toList_data]; rw [show s.data.toList = [] from h]; rfl
 have HQ : Hid (Ad.quN (bsT s) = some []) := lh (by rw [h]; rfl)
 clear h
 go_enter Tryz.func219, Tryz.ntmps219
 go_wp2
 have b1 : Boxed ((w.alloc (.cells #[.slice none 0 0] 173)).alloc (.cells #[.bool true] 4)) w.heap.size 173 (.slice none 0 0) := (Boxed.new w 173 _).alloc _
 have b2 : Boxed ((w.alloc (.cells #[.slice none 0 0] 173)).alloc (.cells #[.bool true] 4)) (w.heap.size + 1) 4 (.bool true) := by
  have := Boxed.new (w.alloc (.cells #[.slice none 0 0] 173)) 4 (.bool true); rw [World.size_alloc] at this; exact this
 exact post_two (v1 := .slice none 0 0) (v2 := .bool true) Tryz.results219 rfl ⟨_, rfl, load_prs b1⟩ ⟨_, rfl, load_bool b2⟩ ⟨⟨none, 0, [], true, rfl, by rw [HQ.out]; rfl, by rw [HQ.out]; rfl, Owns.nil _ _ _ _ _⟩, (by (with_reducible repeat first|exact eR _|apply eD|apply eN|apply eA|apply eO|apply eS|apply eC);all_goals first|omega|simp <;> omega)⟩
theorem trim_any (s : ByteArray) (w : World) (hs : s.size ≤ 900000) : Calls Tryz.prog 215 #[.string s, .string ⟨#[47]⟩] w fun e w' => e = .returned (.string ⟨(Ad.trim1 (bsT s)).toArray⟩) ∧ w' = w :=
 Any.strings_TrimSuffix Tryz.trimSuffix s ⟨#[47]⟩ w (by omega)
theorem adr_loaded {w : World} {b : Nat} {cs : Array Value} (h : rowOf w b 0 3 = some cs) : (loadVar 175 ⟨b, 0, none⟩).run Tryz.prog w = .ok (.agg cs) w := run_loadVar_row adr_ty h
theorem adr_fits (cu : ByteArray) (A : Option Addr) (n c : Nat) (A2 : Option Addr) (n2 c2 : Nat) : fitsRow 3 #[.string cu, .slice A n c, .slice A2 n2 c2] = true := by kernel_rfl
attribute [local go_sem] adr_fits
theorem bsT_mk (l : List UInt8) : bsT ⟨l.toArray⟩ = l := rfl
theorem adr_none (base : Nat) (w : World) : AdrAt base Ad.noAdr (.agg #[.string ⟨#[]⟩, .slice none 0 0, .slice none 0 0]) w := ⟨⟨#[]⟩, none, 0, [], none, 0, [], rfl, rfl, Owns.nil _ _ _ _ _, Owns.nil _ _ _ _ _⟩
theorem parse_any (s : ByteArray) (w : World) (hs : s.size ≤ 900000) (hp : ∀ (q : ByteArray) W, bsT q = (Ad.headN (bsT s)).2.1 → q.size ≤ 4096 → Ext w W → Calls Tryz.prog 219 #[.string q] W fun e w' => PrsU (Ad.quN (bsT q)) W.heap.size e w' ∧ Ext W w') :
  Calls Tryz.prog 165 #[.string s] w fun e w' => ∃ v, e = .returned (.tuple #[v, .int .i64 (Ad.parseE (bsT s))]) ∧ AdrAt w.heap.size (Ad.parseA (bsT s)) v w' ∧ Ext w w' := by
 have hz := bsT_size s
 by_cases h4 : 4096 < s.size
 ·have HE : Hid (Ad.parseE (bsT s) = 2) := lh (by unfold Ad.parseE; rw [hz, if_pos h4])
  have HA : Hid (Ad.parseA (bsT s) = Ad.noAdr) := lh (by unfold Ad.parseA; rw [HE.out]; rfl)
  clear hp hz
  go_enter Tryz.func165, Tryz.ntmps165
  go_wp2
  rw [HE.out, HA.out]
  exact post_two (v1 := .agg #[.string ⟨#[]⟩, .slice none 0 0, .slice none 0 0]) (v2 := .int .i64 2) Tryz.results165 rfl ⟨_, rfl, adr_loaded ((RowAt.store (RowAt.new _ _ _) rfl).all rfl (by omega))⟩ rfl ⟨_, rfl, adr_none _ _, (by (with_reducible repeat first|exact eR _|apply eD|apply eN|apply eA|apply eO|apply eS|apply eC);all_goals first|omega|simp <;> omega)⟩
 ·have HE : Hid (Ad.parseE (bsT s) = if Tg.nameB (Ad.leftN (bsT s)).1 = true ∧ (Ad.pathN (bsT s)).isSome = true ∧ (Ad.quN (Ad.headN (bsT s)).2.1).isSome = true then (if 32 < ((Ad.pathN (bsT s)).getD []).length ∨ 16 < ((Ad.quN (Ad.headN (bsT s)).2.1).getD []).length then 2 else 0) else 3) := lh (by unfold Ad.parseE; rw [hz, if_neg h4])
  have HA : Hid (Ad.parseA (bsT s) = if Ad.parseE (bsT s) = 0 then ⟨(Ad.leftN (bsT s)).1, (Ad.pathN (bsT s)).getD [], (Ad.quN (Ad.headN (bsT s)).2.1).getD []⟩ else Ad.noAdr) := lh rfl
  have HPr := lh hp
  clear hp
  generalize Ad.parseA (bsT s) = PA at *
  generalize Ad.parseE (bsT s) = PE at *
  go_enter Tryz.func165, Tryz.ntmps165
  go_wp2_with (first
   | (go_at_call 214; refine (lower_any s _ hs).mono ?_; rintro e w' ⟨⟨t, rfl, hlo, hlt⟩, hxl⟩; obtain ⟨xl, rfl⟩ := hxl.asLater; clear hxl; have HLo := lh hlo; clear hlo)
   | (go_at_call 66; refine (show Hid _ from ?_).out))
  refine lh ?_
  refine (scut_any t 63 _ (by omega)).mono ?_
  rintro e w' ⟨⟨a, b, fq, rfl, hcut, hla, hlb⟩, hxl⟩
  obtain ⟨x2, rfl⟩ := hxl.asLater
  have HC1 := lh hcut
  clear hxl hcut
  go_wp2_with (first
   | (go_at_call 215; refine (trim_any a _ (by omega)).mono ?_; rintro e w' ⟨rfl, rfl⟩)
   | (go_at_call 66; refine (show Hid _ from ?_).out))
  refine lh ?_
  have htl : (⟨(Ad.trim1 (bsT a)).toArray⟩ : ByteArray).size ≤ a.size := by
   rw [← bsT_size, bsT_mk]
   have := Ad.trim1_len (bsT a)
   rwa [bsT_size] at this
  have HTr : Hid (bsT ⟨(Ad.trim1 (bsT a)).toArray⟩ = Ad.trim1 (bsT a)) := lh (bsT_mk _)
  generalize (⟨(Ad.trim1 (bsT a)).toArray⟩ : ByteArray) = tr at *
  refine (scut_any tr 47 _ (by omega)).mono ?_
  rintro e w' ⟨⟨cu, rs, more, rfl, hcut, hlc, hlr⟩, hxl⟩
  obtain ⟨x3, rfl⟩ := hxl.asLater
  have HC2 := lh hcut
  clear hxl hcut
  have HHd : Hid (Ad.headN (bsT s) = (bsT a, bsT b, fq)) := lh (by unfold Ad.headN; rw [HC1.out]; exact congrArg _ HLo.out.symm)
  have HLf : Hid (Ad.leftN (bsT s) = (bsT cu, bsT rs, more)) := lh (by unfold Ad.leftN; rw [HHd.out, HC2.out, HTr.out])
  have HPt : Hid (Ad.pathN (bsT s) = if more = true then Ad.resAll (Ad.pieces 47 (bsT rs)) else some []) := lh (by unfold Ad.pathN; rw [HLf.out])
  rw [HLf.out, HHd.out] at HE HA
  have HPq := lh (fun (W : World) (hx : Ext w W) => HPr.out b W (by rw [HHd.out]) (by omega) hx)
  clear HPr HC1 HC2 HLo HTr HHd HLf
  generalize Ad.pathN (bsT s) = pth at *
  generalize Ad.quN (bsT b) = qry at *
  have hrs : rs.size ≤ 4096 := by omega
  clear htl hla hlc hlr
  go_upto_region 5 with (fail)
  refine wp_world (fun W => Ext w W ∧ RowAt W w.heap.size #[.string ByteArray.empty, .slice none 0 0, .slice none 0 0]) ⟨(by (with_reducible repeat first|exact eR _|apply eD|apply eN|apply eA|apply eO|apply eS|apply eC);all_goals first|omega|simp <;> omega), (by (repeat (first | with_reducible exact RowAt.new _ _ _ | with_reducible refine RowAt.drew ?_ | with_reducible refine RowAt.later ?_ _ | with_reducible exact RowAt.newAt (by first | rfl | omega | (simp [later_size, setCells_size]; done) | (simp [later_size, setCells_size]; omega)) | with_reducible refine RowAt.alloc ?_ _ | with_reducible apply RowAt.store | with_reducible refine RowAt.others ?_ ?_ _ _ | with_reducible refine RowAt.other ?_ ?_ _)); all_goals first | omega | (simp; done) | (simp; omega) | (simp [go_sem]; done))⟩ ?_
  rintro W1 ⟨x1, r1⟩
  have HX1 := lh x1
  have HR1 := lh r1
  clear x1 r1
  cases more with
  | true =>
   go_wp2_with (first
    | (go_at_call 216; refine (splitSeq_any rs 47 _).mono ?_; rintro e w' ⟨rfl, rfl⟩)
    | (go_at_call 218; refine (show Hid _ from ?_).out))
   refine lh ?_
   have hxz : Ext W1 (((W1.alloc (.cells #[.string rs] 9)).alloc (.cells #[.string ⟨#[47]⟩] 9)).alloc (.cells #[.int .i64 0] 3)) := (((eR _).alloc _).alloc _).alloc _
   have z1 : Boxed (((W1.alloc (.cells #[.string rs] 9)).alloc (.cells #[.string ⟨#[47]⟩] 9)).alloc (.cells #[.int .i64 0] 3)) W1.heap.size 9 (.string rs) := ((Boxed.new W1 9 _).alloc _).alloc _
   have z2 : Boxed (((W1.alloc (.cells #[.string rs] 9)).alloc (.cells #[.string ⟨#[47]⟩] 9)).alloc (.cells #[.int .i64 0] 3)) (W1.heap.size + 1) 9 (.string ⟨#[47]⟩) := by
    have := Boxed.new (W1.alloc (.cells #[.string rs] 9)) 9 (.string ⟨#[47]⟩); rw [World.size_alloc] at this; exact this.alloc _
   have z3 : Boxed (((W1.alloc (.cells #[.string rs] 9)).alloc (.cells #[.string ⟨#[47]⟩] 9)).alloc (.cells #[.int .i64 0] 3)) (W1.heap.size + 1 + 1) 3 (.int .i64 0) := by
    have := Boxed.new ((W1.alloc (.cells #[.string rs] 9)).alloc (.cells #[.string ⟨#[47]⟩] 9)) 3 (.int .i64 0); rw [World.size_alloc, World.size_alloc] at this; exact this
   refine (resolve_seq 47 W1.heap.size (W1.heap.size + 1) (W1.heap.size + 1 + 1) rs _ (by omega) (by have := Ad.pieces_len 47 (bsT rs); rw [bsT_size] at this; omega) z2 z1 z3 ⟨by omega, by omega⟩).mono ?_
   rintro e w5 ⟨hR0, hB5⟩
   have hR5 := (RslIs.uni hR0).lower (b2 := w.heap.size + 1) (by have := HR1.out.lt; simp; omega)
   have hp9 : pth = Ad.resAll (Ad.pieces 47 (bsT rs)) := HPt.out.trans (if_pos trivial)
   rw [← hp9] at hR5
   have hx5 : Ext W1 w5 := ((ButS.of_ext hxz).trans (S := fun k => k = W1.heap.size) (hB5)).toExt (fun k hk => by omega)
   clear hB5 hR0 z1 z2 z3 hxz hp9 HPt
   have HX5 : Hid (Ext w w5) := lh (HX1.out.trans hx5)
   obtain ⟨Ap, cp, lp, one, he5, hone, hlp, hop⟩ := hR5
   subst he5
   have HOl := lh hop
   have HR5 := lh (HR1.out.ext hx5)
   have HOne := lh hone
   have HLp := lh hlp
   clear hx5 hone hlp hop
   go_wp2_with (go_at_call 219; refine (show Hid _ from ?_).out)
   refine lh ?_
   refine (HPq.out _ HX5.out).mono ?_
   rintro e w7 ⟨⟨A2, c2, qs, two, rfl, htwo, hqs, hoq⟩, hx7⟩
   have HX7 : Hid (Ext w w7) := lh (HX5.out.trans hx7)
   have HAt : Hid (AdrAt (w.heap.size + 1) ⟨bsT cu, pth.getD [], qry.getD []⟩ (.agg #[.string cu, .slice Ap lp.length cp, .slice A2 qs.length c2]) w7) := lh ⟨cu, Ap, cp, lp, A2, c2, qs, rfl, by rw [HLp.out, hqs], HOl.out.ext hx7, hoq.lower HR5.out.lt⟩
   have HR7 := lh (HR5.out.ext hx7)
   have hl1 : (pth.getD []).length = lp.length := by rw [← HLp.out]; simp
   have hl2 : (qry.getD []).length = qs.length := by rw [← hqs]; simp
   rw [← HOne.out, ← htwo, hl1, hl2] at HE
   have HN := lh (fun W => name_any cu W)
   have HNe : Hid (Tg.nameB (bsT cu) = Tg.nameB cu.data.toList) := lh rfl
   rw [HNe.out] at HE
   have rm7 : roomOf w7 w.heap.size 0 3 = true := by rw [HR7.out.room]; rfl
   have hlt7 := HR7.out.lt
   clear hx7 hqs hoq hl1 hl2 htwo HOne HLp HOl HPq HX5 HR5 HX1 HR1
   generalize Tg.nameB cu.data.toList = nm at *
   cases nm with
   | false =>
    have h3 : PE = 3 := by rw [HE.out, if_neg (by simp)]
    have hA : PA = Ad.noAdr := by rw [HA.out, h3]; rfl
    subst h3 hA
    clear HE HA
    go_wp2_with (go_at_call 197; refine (HN.out _).mono ?_; rintro e w' ⟨rfl, hxl⟩; obtain ⟨xl, rfl⟩ := hxl.asLater; clear hxl)
    exact post_two (v1 := .agg #[.string ⟨#[]⟩, .slice none 0 0, .slice none 0 0]) (v2 := .int .i64 3) Tryz.results165 rfl ⟨_, rfl, adr_loaded ((RowAt.store (HR7.out.later xl) rfl).all rfl (by omega))⟩ rfl ⟨_, rfl, adr_none _ _, Ext.setCells (HX7.out.onto _) (by omega) _ _⟩
   | true =>
    cases one with
    | false =>
     have h3 : PE = 3 := by rw [HE.out, if_neg (by simp)]
     have hA : PA = Ad.noAdr := by rw [HA.out, h3]; rfl
     subst h3 hA
     clear HE HA
     go_wp2_with (go_at_call 197; refine (HN.out _).mono ?_; rintro e w' ⟨rfl, hxl⟩; obtain ⟨xl, rfl⟩ := hxl.asLater; clear hxl)
     exact post_two (v1 := .agg #[.string ⟨#[]⟩, .slice none 0 0, .slice none 0 0]) (v2 := .int .i64 3) Tryz.results165 rfl ⟨_, rfl, adr_loaded ((RowAt.store (HR7.out.later xl) rfl).all rfl (by omega))⟩ rfl ⟨_, rfl, adr_none _ _, Ext.setCells (HX7.out.onto _) (by omega) _ _⟩
    | true =>
     cases two with
     | false =>
      have h3 : PE = 3 := by rw [HE.out, if_neg (by simp)]
      have hA : PA = Ad.noAdr := by rw [HA.out, h3]; rfl
      subst h3 hA
      clear HE HA
      go_wp2_with (go_at_call 197; refine (HN.out _).mono ?_; rintro e w' ⟨rfl, hxl⟩; obtain ⟨xl, rfl⟩ := hxl.asLater; clear hxl)
      exact post_two (v1 := .agg #[.string ⟨#[]⟩, .slice none 0 0, .slice none 0 0]) (v2 := .int .i64 3) Tryz.results165 rfl ⟨_, rfl, adr_loaded ((RowAt.store (HR7.out.later xl) rfl).all rfl (by omega))⟩ rfl ⟨_, rfl, adr_none _ _, Ext.setCells (HX7.out.onto _) (by omega) _ _⟩
     | true =>
      by_cases l1 : 32 < lp.length
      ·have h3 : PE = 2 := by rw [HE.out, if_pos (by simp), if_pos (.inl l1)]
       have hA : PA = Ad.noAdr := by rw [HA.out, h3]; rfl
       subst h3 hA
       have d1 : decide ((32 : Int) < (lp.length : Int)) = true := by simp; omega
       clear HE HA
       go_wp2_with (go_at_call 197; refine (HN.out _).mono ?_; rintro e w' ⟨rfl, hxl⟩; obtain ⟨xl, rfl⟩ := hxl.asLater; clear hxl)
       exact post_two (v1 := .agg #[.string ⟨#[]⟩, .slice none 0 0, .slice none 0 0]) (v2 := .int .i64 2) Tryz.results165 rfl ⟨_, rfl, adr_loaded ((RowAt.store (HR7.out.later xl) rfl).all rfl (by omega))⟩ rfl ⟨_, rfl, adr_none _ _, Ext.setCells (HX7.out.onto _) (by omega) _ _⟩
      ·have d1 : decide ((32 : Int) < (lp.length : Int)) = false := by simp; omega
       by_cases l2 : 16 < qs.length
       ·have h3 : PE = 2 := by rw [HE.out, if_pos (by simp), if_pos (.inr l2)]
        have hA : PA = Ad.noAdr := by rw [HA.out, h3]; rfl
        subst h3 hA
        have d2 : decide ((16 : Int) < (qs.length : Int)) = true := by simp; omega
        clear HE HA
        go_wp2_with (go_at_call 197; refine (HN.out _).mono ?_; rintro e w' ⟨rfl, hxl⟩; obtain ⟨xl, rfl⟩ := hxl.asLater; clear hxl)
        exact post_two (v1 := .agg #[.string ⟨#[]⟩, .slice none 0 0, .slice none 0 0]) (v2 := .int .i64 2) Tryz.results165 rfl ⟨_, rfl, adr_loaded ((RowAt.store (HR7.out.later xl) rfl).all rfl (by omega))⟩ rfl ⟨_, rfl, adr_none _ _, Ext.setCells (HX7.out.onto _) (by omega) _ _⟩
       ·have h3 : PE = 0 := by rw [HE.out, if_pos (by simp), if_neg (by omega)]
        have hA : PA = ⟨bsT cu, pth.getD [], qry.getD []⟩ := by rw [HA.out, h3]; rfl
        subst h3 hA
        have d2 : decide ((16 : Int) < (qs.length : Int)) = false := by simp; omega
        clear HE HA
        go_wp2_with (go_at_call 197; refine (HN.out _).mono ?_; rintro e w' ⟨rfl, hxl⟩; obtain ⟨xl, rfl⟩ := hxl.asLater; clear hxl)
        refine post_two (v1 := .agg #[.string cu, .slice Ap lp.length cp, .slice A2 qs.length c2]) (v2 := .int .i64 0) Tryz.results165 rfl ⟨_, rfl, adr_loaded ((RowAt.store (ds := #[.string cu, .slice Ap lp.length cp, .slice A2 qs.length c2]) (HR7.out.later xl) rfl).all rfl (by omega))⟩ rfl ⟨_, rfl, ?_, ?_⟩
        ·exact ((HAt.out.ext (ext_later _ _)).others (by omega) _ _).lower (by omega)
        ·exact Ext.setCells (HX7.out.onto _) (by omega) _ _
  | false =>
   go_wp2_with (first
    | (go_at_call 216; refine (splitSeq_any rs 47 _).mono ?_; rintro e w' ⟨rfl, rfl⟩)
    | (go_at_call 218; refine (show Hid _ from ?_).out))
   refine lh ?_
   refine (resolve_none _).mono ?_
   rintro e w5 ⟨he0, hx0⟩
   have hx5 : Ext W1 w5 := Ext.trans ((((Ext.refl W1).alloc _).alloc _).alloc _) hx0
   have hp9 : pth = some [] := HPt.out.trans (if_neg (by decide))
   have hR5 : RslU pth (w.heap.size + 1) e w5 := ⟨none, 0, [], true, he0, by rw [hp9]; rfl, by rw [hp9]; rfl, Owns.nil _ _ _ _ _⟩
   clear hx0 he0 hp9 HPt
   have HX5 : Hid (Ext w w5) := lh (HX1.out.trans hx5)
   obtain ⟨Ap, cp, lp, one, he5, hone, hlp, hop⟩ := hR5
   subst he5
   have HOl := lh hop
   have HR5 := lh (HR1.out.ext hx5)
   have HOne := lh hone
   have HLp := lh hlp
   clear hx5 hone hlp hop
   go_wp2_with (go_at_call 219; refine (show Hid _ from ?_).out)
   refine lh ?_
   refine (HPq.out _ HX5.out).mono ?_
   rintro e w7 ⟨⟨A2, c2, qs, two, rfl, htwo, hqs, hoq⟩, hx7⟩
   have HX7 : Hid (Ext w w7) := lh (HX5.out.trans hx7)
   have HAt : Hid (AdrAt (w.heap.size + 1) ⟨bsT cu, pth.getD [], qry.getD []⟩ (.agg #[.string cu, .slice Ap lp.length cp, .slice A2 qs.length c2]) w7) := lh ⟨cu, Ap, cp, lp, A2, c2, qs, rfl, by rw [HLp.out, hqs], HOl.out.ext hx7, hoq.lower HR5.out.lt⟩
   have HR7 := lh (HR5.out.ext hx7)
   have hl1 : (pth.getD []).length = lp.length := by rw [← HLp.out]; simp
   have hl2 : (qry.getD []).length = qs.length := by rw [← hqs]; simp
   rw [← HOne.out, ← htwo, hl1, hl2] at HE
   have HN := lh (fun W => name_any cu W)
   have HNe : Hid (Tg.nameB (bsT cu) = Tg.nameB cu.data.toList) := lh rfl
   rw [HNe.out] at HE
   have rm7 : roomOf w7 w.heap.size 0 3 = true := by rw [HR7.out.room]; rfl
   have hlt7 := HR7.out.lt
   clear hx7 hqs hoq hl1 hl2 htwo HOne HLp HOl HPq HX5 HR5 HX1 HR1
   generalize Tg.nameB cu.data.toList = nm at *
   cases nm with
   | false =>
    have h3 : PE = 3 := by rw [HE.out, if_neg (by simp)]
    have hA : PA = Ad.noAdr := by rw [HA.out, h3]; rfl
    subst h3 hA
    clear HE HA
    go_wp2_with (go_at_call 197; refine (HN.out _).mono ?_; rintro e w' ⟨rfl, hxl⟩; obtain ⟨xl, rfl⟩ := hxl.asLater; clear hxl)
    exact post_two (v1 := .agg #[.string ⟨#[]⟩, .slice none 0 0, .slice none 0 0]) (v2 := .int .i64 3) Tryz.results165 rfl ⟨_, rfl, adr_loaded ((RowAt.store (HR7.out.later xl) rfl).all rfl (by omega))⟩ rfl ⟨_, rfl, adr_none _ _, Ext.setCells (HX7.out.onto _) (by omega) _ _⟩
   | true =>
    cases one with
    | false =>
     have h3 : PE = 3 := by rw [HE.out, if_neg (by simp)]
     have hA : PA = Ad.noAdr := by rw [HA.out, h3]; rfl
     subst h3 hA
     clear HE HA
     go_wp2_with (go_at_call 197; refine (HN.out _).mono ?_; rintro e w' ⟨rfl, hxl⟩; obtain ⟨xl, rfl⟩ := hxl.asLater; clear hxl)
     exact post_two (v1 := .agg #[.string ⟨#[]⟩, .slice none 0 0, .slice none 0 0]) (v2 := .int .i64 3) Tryz.results165 rfl ⟨_, rfl, adr_loaded ((RowAt.store (HR7.out.later xl) rfl).all rfl (by omega))⟩ rfl ⟨_, rfl, adr_none _ _, Ext.setCells (HX7.out.onto _) (by omega) _ _⟩
    | true =>
     cases two with
     | false =>
      have h3 : PE = 3 := by rw [HE.out, if_neg (by simp)]
      have hA : PA = Ad.noAdr := by rw [HA.out, h3]; rfl
      subst h3 hA
      clear HE HA
      go_wp2_with (go_at_call 197; refine (HN.out _).mono ?_; rintro e w' ⟨rfl, hxl⟩; obtain ⟨xl, rfl⟩ := hxl.asLater; clear hxl)
      exact post_two (v1 := .agg #[.string ⟨#[]⟩, .slice none 0 0, .slice none 0 0]) (v2 := .int .i64 3) Tryz.results165 rfl ⟨_, rfl, adr_loaded ((RowAt.store (HR7.out.later xl) rfl).all rfl (by omega))⟩ rfl ⟨_, rfl, adr_none _ _, Ext.setCells (HX7.out.onto _) (by omega) _ _⟩
     | true =>
      by_cases l1 : 32 < lp.length
      ·have h3 : PE = 2 := by rw [HE.out, if_pos (by simp), if_pos (.inl l1)]
       have hA : PA = Ad.noAdr := by rw [HA.out, h3]; rfl
       subst h3 hA
       have d1 : decide ((32 : Int) < (lp.length : Int)) = true := by simp; omega
       clear HE HA
       go_wp2_with (go_at_call 197; refine (HN.out _).mono ?_; rintro e w' ⟨rfl, hxl⟩; obtain ⟨xl, rfl⟩ := hxl.asLater; clear hxl)
       exact post_two (v1 := .agg #[.string ⟨#[]⟩, .slice none 0 0, .slice none 0 0]) (v2 := .int .i64 2) Tryz.results165 rfl ⟨_, rfl, adr_loaded ((RowAt.store (HR7.out.later xl) rfl).all rfl (by omega))⟩ rfl ⟨_, rfl, adr_none _ _, Ext.setCells (HX7.out.onto _) (by omega) _ _⟩
      ·have d1 : decide ((32 : Int) < (lp.length : Int)) = false := by simp; omega
       by_cases l2 : 16 < qs.length
       ·have h3 : PE = 2 := by rw [HE.out, if_pos (by simp), if_pos (.inr l2)]
        have hA : PA = Ad.noAdr := by rw [HA.out, h3]; rfl
        subst h3 hA
        have d2 : decide ((16 : Int) < (qs.length : Int)) = true := by simp; omega
        clear HE HA
        go_wp2_with (go_at_call 197; refine (HN.out _).mono ?_; rintro e w' ⟨rfl, hxl⟩; obtain ⟨xl, rfl⟩ := hxl.asLater; clear hxl)
        exact post_two (v1 := .agg #[.string ⟨#[]⟩, .slice none 0 0, .slice none 0 0]) (v2 := .int .i64 2) Tryz.results165 rfl ⟨_, rfl, adr_loaded ((RowAt.store (HR7.out.later xl) rfl).all rfl (by omega))⟩ rfl ⟨_, rfl, adr_none _ _, Ext.setCells (HX7.out.onto _) (by omega) _ _⟩
       ·have h3 : PE = 0 := by rw [HE.out, if_pos (by simp), if_neg (by omega)]
        have hA : PA = ⟨bsT cu, pth.getD [], qry.getD []⟩ := by rw [HA.out, h3]; rfl
        subst h3 hA
        have d2 : decide ((16 : Int) < (qs.length : Int)) = false := by simp; omega
        clear HE HA
        go_wp2_with (go_at_call 197; refine (HN.out _).mono ?_; rintro e w' ⟨rfl, hxl⟩; obtain ⟨xl, rfl⟩ := hxl.asLater; clear hxl)
        refine post_two (v1 := .agg #[.string cu, .slice Ap lp.length cp, .slice A2 qs.length c2]) (v2 := .int .i64 0) Tryz.results165 rfl ⟨_, rfl, adr_loaded ((RowAt.store (ds := #[.string cu, .slice Ap lp.length cp, .slice A2 qs.length c2]) (HR7.out.later xl) rfl).all rfl (by omega))⟩ rfl ⟨_, rfl, ?_, ?_⟩
        ·exact ((HAt.out.ext (ext_later _ _)).others (by omega) _ _).lower (by omega)
        ·exact Ext.setCells (HX7.out.onto _) (by omega) _ _
end Go.Proofs.YtpojnhikgjcgmaaGreatDoor

namespace Go.Proofs.YtpojnhikgjcgmaaGreatDoor
open Go.RowKit Go.Shelf
open Go.Proofs
theorem adr_sub0 : rowSub #[.string ByteArray.empty, .slice none 0 0, .slice none 0 0] 0 3 = some #[.string ByteArray.empty, .slice none 0 0, .slice none 0 0] := rowSub_all _ _ rfl
attribute [local go_sem] adr_fits adr_sub0
theorem canon_any (s : ByteArray) (w : World) (hs : s.size ≤ 900000) (hp : ∀ (q : ByteArray) W, bsT q = (Ad.headN (bsT s)).2.1 → q.size ≤ 4096 → Ext w W → Calls Tryz.prog 219 #[.string q] W fun e w' => PrsU (Ad.quN (bsT q)) W.heap.size e w' ∧ Ext W w') :
  Calls Tryz.prog 157 #[.string s] w fun e w' => e = .returned (.tuple #[.string ⟨(Ad.canonT (bsT s)).toArray⟩, .int .i64 (Ad.canonE (bsT s))]) ∧ Ext w w' := by
 have HP := lh (parse_any s w hs hp)
 clear hp
 have HE : Hid (Ad.canonE (bsT s) = if Ad.parseE (bsT s) = 0 then txE (Ad.parseA (bsT s)) else Ad.parseE (bsT s)) := lh rfl
 have HT : Hid (Ad.parseE (bsT s) = 0 → Ad.canonT (bsT s) = txS (Ad.parseA (bsT s))) := lh (fun h => by unfold Ad.canonT txS; rw [HE.out, if_pos h])
 have HT2 : Hid (Ad.canonE (bsT s) ≠ 0 → Ad.canonT (bsT s) = []) := lh (fun h => if_neg h)
 have HG := lh (fun h => Ad.parseA_good (s := bsT s) h)
 generalize Ad.canonT (bsT s) = CT at *
 generalize Ad.canonE (bsT s) = CE at *
 generalize Ad.parseA (bsT s) = PA at *
 generalize Ad.parseE (bsT s) = PE at *
 go_enter Tryz.func157, Tryz.ntmps157
 go_wp2_with (go_at_call 165; refine (show Hid _ from ?_).out)
 refine lh ?_
 refine HP.out.mono ?_
 rintro e w1 ⟨v, rfl, ⟨cu, A, c, ls, A2, c2, qs, rfl, rfl, ho1, ho2⟩, hx1⟩
 have HO1 := lh (ho1.reads sE)
 have HO2 := lh (ho2.reads prE)
 have HX1 := lh hx1
 have hsz1 := hx1.size
 clear ho1 ho2 hx1 HP
 by_cases h0 : PE = 0
 ·subst h0
  have hCE : CE = txE ⟨bsT cu, ls.map bsT, qs.map prB⟩ := by rw [HE.out]; rfl
  have hCT : CT = txS ⟨bsT cu, ls.map bsT, qs.map prB⟩ := HT.out rfl
  obtain ⟨g1, g2, g3, g4, g5, g6⟩ := HG.out rfl
  have HTx := lh (fun (W : World) (hx : Ext w1 W) => text_any cu A c ls A2 c2 qs W g1 (fun x hx => g4 _ (List.mem_map_of_mem hx)) (fun p hp => g6 _ (List.mem_map_of_mem hp)) g5 (by simpa using g2) (by simpa using g3) (HO1.out.on hx) (HO2.out.on hx))
  rw [← hCE, ← hCT] at HTx
  clear HE HT HT2 HG g1 g2 g3 g4 g5 g6 HO1 HO2 hCE hCT
  go_wp2_with (go_at_call 194; refine (HTx.out _ (by (with_reducible repeat first|exact eR _|apply eD|apply eN|apply eA|apply eO|apply eS|apply eC);all_goals first|omega|simp <;> omega)).mono ?_; rintro e w' ⟨rfl, hxl⟩; obtain ⟨xl, rfl⟩ := hxl.asLater; clear hxl)
  refine bodyPost_ret (v := .tuple #[.string ⟨CT.toArray⟩, .int .i64 CE]) ?_ rfl ⟨rfl, (by (with_reducible repeat first|exact HX1.out|exact eR _|apply eD|apply eN|apply eA|apply eO|apply eS|apply eC);all_goals first|omega|simp <;> omega)⟩
  simp [results, Tryz.results157, go_sem, ↓IntWalk.iteOmega]
 ·have hCE : CE = PE := by rw [HE.out, if_neg h0]
  subst hCE
  have hCT := HT2.out h0
  subst hCT
  have d0 : (CE != 0) = true := by simpa using h0
  clear HE HT HT2 HG HO1 HO2
  go_wp2
  refine bodyPost_ret (v := .tuple #[.string ⟨([] : List UInt8).toArray⟩, .int .i64 CE]) ?_ rfl ⟨rfl, (by (with_reducible repeat first|exact HX1.out|exact eR _|apply eD|apply eN|apply eA|apply eO|apply eS|apply eC);all_goals first|omega|simp <;> omega)⟩
  simp [results, Tryz.results157, go_sem, ↓IntWalk.iteOmega]
end Go.Proofs.YtpojnhikgjcgmaaGreatDoor

namespace Go.Proofs.YtpojnhikgjcgmaaGreatDoor
open Go.RowKit Go.Shelf
open Go.Proofs
theorem rwints_ok (A : Option Addr) (c : Nat) (l : List Int) (w : World) (hl : l.length ≤ 100000) (hr : ReadsInt w w.heap.size A l) (hi : ∀ x ∈ l, i64 x) :
  Calls Tryz.prog 104 #[.slice A l.length c] w (BytesIs (encInts l) w) := by
 have HR := lh hr
 have HI := lh hi
 clear hr hi
 have HE : Hid (intsTo l.length l = encInts l) := lh rfl
 go_enter Tryz.func104, Tryz.ntmps104
 go_wp2_with (go_at_call 155; refine (rint_ok _ _ (by omega) (by omega)).mono ?_; rintro e w1 ⟨A1, c1, rfl, ho, hx⟩; have HO1 := lh ho; have HX1 := lh hx; clear ho hx)
 go_loopw [3, 4] (fun o i wr => ∃ (A2 : Option Addr) (c2 : Nat) (out : List Int) (k : Nat), o = .slice A2 out.length c2 ∧ i = .int .i64 k ∧ k ≤ l.length ∧ Hid (out = intsTo l.length (l.take k)) ∧ Hid (OwnsB w.heap.size wr A2 c2 out) ∧ Hid (Ext w wr)) (fun _ i _ => l.length - (intOf i).toNat)
 case atStart => exact ⟨A1, c1, Wire.enc l.length, 0, rfl, rfl, Nat.zero_le _, lh (by unfold intsTo; simp), HO1, HX1⟩
 case round =>
  obtain ⟨A2, c2, out, k, rfl, rfl, hk, HOu, HO, HX⟩ := hrel
  have hsz := HX.out.size
  have hol : out.length ≤ 1000010 := by
   have h1 := intsTo_len l.length (l.take k)
   rw [← HOu.out, List.length_take] at h1
   omega
  by_cases hlt : k < l.length
  ·obtain ⟨b, off, rfl, hb, c1⟩ := ReadsInt.cell (HR.out.ext HX.out (Nat.le_refl _)) k hlt
   obtain ⟨i1, i2⟩ := HI.out _ (List.getElem_mem hlt)
   have HN := lh (intsTo_succ l.length l k hlt)
   generalize l[k] = x at *
   have hxl := Wire.enc_length x
   go_wp2_with (first
    | (go_at_call 155; refine (rint_ok _ _ i1 i2).mono ?_; rintro e w3 ⟨A3, c3, rfl, ho, hx⟩; have HO3 := lh ho; have HX3 := lh hx; have hs3 := hx.size; clear ho hx)
    | (at_builtin; refine app_reads bT bE rfl _ _ rfl w.heap.size _ _ out rfl (HO.out.ext HX3.out) w3.heap.size _ _ (Wire.enc x) rfl (HO3.out.reads bE) HO3.out.none0 (by omega) (by omega) (by omega) ?_; intro A4 c4 l4 w4 HL HO4 hB hl1 hl2 _; have HO4' := lh HO4; have HB4 := lh hB; clear HO4 hB))
   go_roundw
   case rel => exact ⟨A4, c4, l4, k + 1, rfl, by go_num, by omega, lh (by rw [HL.out, HOu.out, HN.out]), HO4', lh ((HX.out.trans HX3.out).grown HB4.out (Nat.le_refl _))⟩
   case measure => simp [intOf]; omega
  ·have HF : Hid (out = encInts l) := lh (by rw [HOu.out, List.take_of_length_le (by omega), HE.out])
   go_wp2
   go_ret
   obtain rfl := HF.out
   exact ⟨A2, c2, rfl, HO.out, HX.out⟩
theorem rsints_ok (A : Option Addr) (c : Nat) (l : List Int) (w : World) (hl : l.length ≤ 100000) (hr : ReadsInt w w.heap.size A l) (hi : ∀ x ∈ l, i64 x) :
  Calls Tryz.prog 118 #[.slice A l.length c] w fun e w' => e = .returned (.string (strOfNums (encInts l))) ∧ Ext w w' := by
 have H := lh (rwints_ok A c l w hl hr hi)
 have hp := encInts_pos l
 clear hr hi
 go_enter Tryz.func118, Tryz.ntmps118
 go_wp2_with (go_at_call 104; refine H.out.mono ?_; rintro e w1 ⟨A1, c1, rfl, ho, hx⟩; have hcv := conv_bytes c1 (ho.reads bE) hp; have HX1 := lh hx; clear ho hx)
 go_ret
 exact ⟨rfl, HX1.out⟩
theorem dgC_at (l : List Int) (h : l.length = 16) (i : Nat) (hi : i < 16) : (dgC l)[i]? = some (.int .u8 (l[i]'(by omega))) := by
 rw [dgC_cells h]
 unfold cells8
 simp [List.getElem?_eq_getElem (show i < l.length by omega)]
theorem rtext16_any (l : List Int) (w : World) (h16 : l.length = 16) :
  Calls Tryz.prog 63 #[.agg (dgC l)] w fun e w' => e = .returned (.string (strOfNums l)) ∧ Ext w w' := by
 have hfd : fitsRow 16 (dgC l) = true := by simp [fitsRow, dgC, Value.oneCell']
 have HC := lh (dgC_at l h16)
 go_enter Tryz.func63, Tryz.ntmps63
 go_wp2
 refine wp_world (fun W => Ext w W ∧ RowAt W w.heap.size (dgC l)) ⟨(by (with_reducible repeat first|exact eR _|apply eD|apply eN|apply eA|apply eO|apply eS|apply eC);all_goals first|omega|simp <;> omega), RowAt.new _ _ _⟩ ?_
 rintro W1 ⟨x1, r1⟩
 have HX1 := lh x1
 have HR1 := lh r1
 have hl1 := r1.lt
 clear x1 r1
 go_loopw [3, 4] (fun o i wr => ∃ (A2 : Option Addr) (c2 : Nat) (out : List Int) (k : Nat), o = .slice A2 out.length c2 ∧ i = .int .i64 k ∧ k ≤ 16 ∧ Hid (out = l.take k) ∧ out.length = k ∧ Hid (OwnsB W1.heap.size wr A2 c2 out) ∧ Hid (Ext W1 wr)) (fun _ i _ => 16 - (intOf i).toNat)
 case atStart => exact ⟨none, 0, [], 0, rfl, rfl, Nat.zero_le _, lh rfl, rfl, lh (Owns.nil _ _ _ _ _), lh (eR _)⟩
 case round =>
  obtain ⟨A2, c2, out, k, rfl, rfl, hk, HOu, hol, HO, HX⟩ := hrel
  have hsz := HX.out.size
  by_cases hlt : k < 16
  ·have hkl : k < l.length := by rw [h16]; exact hlt
   have hc : wr.cell? ⟨w.heap.size, k, none⟩ = some (.int .u8 l[k]) := ((HR1.out.ext HX.out).cell k).trans (HC.out k hlt)
   have HN : Hid (out ++ [l[k]] = l.take (k + 1)) := lh ((congrArg (· ++ [l[k]]) HOu.out).trans (List.take_succ_eq_append_getElem hkl).symm)
   generalize l[k] = x at *
   go_wp2_with (at_builtin; refine app_from bT bE rfl _ _ rfl W1.heap.size _ _ out rfl (HO.out.alloc _) _ 1 _ [x] rfl rfl (new_cellsAt rfl _ _) (by omega) (by omega) (by simp; omega) ?_; intro A4 c4 l4 w4 HL HO4 hB hl1 hl2 _; have HO4' := lh HO4; have HB4 := lh hB; clear HO4 hB)
   go_roundw
   case rel => exact ⟨A4, c4, l4, k + 1, rfl, by go_num, by omega, lh (by rw [HL.out]; exact HN.out), by (try simp at hl1 hl2); omega, HO4', lh ((HX.out.alloc _).grown HB4.out (Nat.le_refl _))⟩
   case measure => simp [intOf]; omega
  ·have hF : out = l := by rw [HOu.out, List.take_of_length_le (by omega)]
   have hk16 : k = 16 := by omega
   subst hk16
   have hcv := conv_bytes c2 (HO.out.reads bE) (by omega)
   rw [hol, hF] at hcv
   go_wp2
   go_ret
   exact ⟨rfl, HX1.out.trans HX.out⟩
theorem rdigest4_any (l : List Int) (w : World) (h16 : l.length = 16) :
  Calls Tryz.prog 119 #[.agg (dgC l)] w fun e w' => e = .returned (.string (strOfNums l)) ∧ Ext w w' := by
 have hfd : fitsRow 16 (dgC l) = true := by simp [fitsRow, dgC, Value.oneCell']
 have HT := lh (fun W => rtext16_any l W h16)
 go_enter Tryz.func119, Tryz.ntmps119
 go_upto_region 1 with (fail)
 refine wp_world (fun W => Ext w W ∧ RowAt W w.heap.size (dgC l)) ⟨(by (with_reducible repeat first|exact eR _|apply eD|apply eN|apply eA|apply eO|apply eS|apply eC);all_goals first|omega|simp <;> omega), RowAt.new _ _ _⟩ ?_
 rintro W1 ⟨x1, r1⟩
 have HX1 := lh x1
 have hrow := r1.all (n := 16) rfl (by omega)
 have hl1 := r1.lt
 clear x1 r1
 go_wp2_with (go_at_call 63; refine (HT.out _).mono ?_; rintro e w' ⟨rfl, hxl⟩; obtain ⟨xl, rfl⟩ := hxl.asLater; clear hxl)
 go_ret
 exact ⟨rfl, (by (with_reducible repeat first|exact HX1.out|exact eR _|apply eD|apply eN|apply eA|apply eO|apply eS|apply eC);all_goals first|omega|simp <;> omega)⟩
theorem rmake_any (k : Ky) (tag : Int) (A : Option Addr) (c : Nat) (parts : List ByteArray) (w : World) (hr : ReadsStr w w.heap.size A parts) (hz : A = none → c = 0) (hl : lens ([k.secret] ++ parts ++ [k.secret]) < 8796093022208) (hk : RKonst w) :
  Calls Tryz.prog 136 #[.agg (kyC k), .int .i64 tag, .slice A parts.length c] w fun e w' => e = .returned (.agg (dgC (makeN k tag parts))) ∧ Ext w w' := by
 have HR := lh hr
 have HZ := lh hz
 have HK := lh hk
 have HL := lh hl
 have hll := lens_length ([k.secret] ++ parts ++ [k.secret])
 have hpl : parts.length + 2 ≤ 8796093022208 := by
  have : ([k.secret] ++ parts ++ [k.secret]).length = parts.length + 2 := by simp [List.length_append]
  omega
 obtain ⟨D, hD⟩ : ∃ D, makeN k tag parts = D := ⟨_, rfl⟩
 have h16 : D.length = 16 := by rw [← hD]; exact makeN_len _ _ _
 have HOf : Hid (∀ (A : Option Addr) (c n : Nat) (l : List ByteArray) (W : World), n = l.length → l = [k.secret] ++ parts ++ [k.secret] → RKonst W → ReadsStr W W.heap.size A l → Calls Tryz.prog 61 #[.int .i64 tag, .slice A n c] W fun e w' => e = .returned (.agg (dgC D)) ∧ Ext W w') := lh (fun A c n l W hn he h1 h2 => by
  subst hn
  subst he
  have h := rof_ok tag A c _ W h1 h2 (by omega)
  rw [show Wire.digest tag (([k.secret] ++ parts ++ [k.secret]).map bts) = D from hD, ← dgC_cells h16] at h
  exact h)
 have hfd : fitsRow 16 (dgC D) = true := by simp [fitsRow, dgC, Value.oneCell']
 rw [hD]
 clear hr hz hk hl hll hD
 go_enter Tryz.func136, Tryz.ntmps136
 go_upto_region 1 with (fail)
 refine wp_world (fun W => Ext w W ∧ W.heap.size = w.heap.size + 2 ∧ RowAt W w.heap.size (kyC k) ∧ RowAt W (w.heap.size + 1) (cells8 (zeros32 16))) ⟨(by (with_reducible repeat first|exact eR _|apply eD|apply eN|apply eA|apply eO|apply eS|apply eC);all_goals first|omega|simp <;> omega), by simp, (RowAt.new _ _ _).alloc _, RowAt.newAt (by simp)⟩ ?_
 rintro W1 ⟨x1, hs1, r1, r2⟩
 have HX1 := lh x1
 have HRk := lh r1
 have HRs := lh r2
 have s2 : W1.cell? ⟨w.heap.size, 2, none⟩ = some (.string k.secret) := r1.cell 2
 clear x1 r1 r2
 go_wp2_with (at_builtin; refine (show Hid _ from ?_).out)
 refine lh ?_
 have hg : (W1.alloc (.cells #[.string k.secret] 9)).heap[w.heap.size + 2]? = some (.cells #[.string k.secret] 9 (0, 0)) := by rw [← hs1]; exact heap_alloc_new W1 _
 refine app_reads strT sE rfl _ _ rfl (w.heap.size + 2) _ 1 [k.secret] rfl (Owns.mk sE (Nat.le_refl _) hg (Nat.le_refl _) (by unfold maxLen; omega) rfl rfl) _ _ _ parts rfl (HR.out.on (HX1.out.alloc _)) HZ.out (by simp; omega) (by simp; omega) (by simp; omega) ?_
 intro A2 c2 l2 w2 HL2 hO9 hB9 hl1 hl2 _
 have HO2 := lh hO9
 have HB2 := lh hB9
 have hs2 := hB9.size
 rw [World.size_alloc] at hs2
 have s22 : w2.cell? ⟨w.heap.size, 2, none⟩ = some (.string k.secret) := (hB9.cell (p := ⟨w.heap.size, 2, none⟩) (by show w.heap.size < w.heap.size + 2; omega)).trans (Lib.cell?_alloc_some _ s2)
 have HX2 : Hid (Ext w w2) := lh ((HX1.out.alloc _).grown HB2.out (by omega))
 have HRs2 : Hid (RowAt w2 (w.heap.size + 1) (cells8 (zeros32 16))) := lh ((HRs.out.alloc _).below HB2.out (by omega))
 simp only [List.length_cons, List.length_nil] at hl1 hl2
 clear hO9 hB9 s2
 go_wp2_with (at_builtin; refine (show Hid _ from ?_).out)
 refine lh ?_
 refine app_from strT sE rfl _ _ rfl (w.heap.size + 2) _ _ l2 rfl (HO2.out.alloc _) _ 1 _ [k.secret] rfl rfl (new_cellsAt rfl _ _) (by omega) (by omega) (by simp; omega) ?_
 intro A3 c3 l3 w3 HL3 hO9 hB9 hl3 hl4 _
 have HO3 := lh hO9
 have hs3 := hB9.size
 rw [World.size_alloc] at hs3
 have HX3 : Hid (Ext w w3) := lh ((HX2.out.alloc _).grown hB9 (by omega))
 have HRs3 : Hid (RowAt w3 (w.heap.size + 1) (cells8 (zeros32 16))) := lh ((HRs2.out.alloc _).below hB9 (by omega))
 have HE3 : Hid (l3 = [k.secret] ++ parts ++ [k.secret]) := lh (by rw [HL3.out, HL2.out])
 have hm3 : roomOf w3 (w.heap.size + 1) 0 16 = true := by rw [HRs3.out.room]; rfl
 have hlr := HRs3.out.lt
 clear hO9 hB9
 go_wp2_with (go_at_call 61; refine (HOf.out _ _ _ l3 _ rfl HE3.out (RowAt.ext HK.out HX3.out) (HO3.out.reads sE)).mono ?_; rintro e w' ⟨rfl, hxl⟩; obtain ⟨xo, rfl⟩ := hxl.asLater; clear hxl)
 exact post_row sel_ty Tryz.results136 rfl rfl (RowAt.stored (n := 16) (ds := dgC D) (HRs3.out.later _) (by rw [cells8_size]; rfl) rfl (by omega)) ⟨rfl, (by (with_reducible repeat first|exact HX3.out|exact eR _|apply eD|apply eN|apply eA|apply eO|apply eS|apply eC);all_goals first|omega|simp <;> omega)⟩
theorem reads_row {α : Type} {size : Nat} {enc : α → List Value} (E : EncTy enc size) {w : World} {B : Nat} {A : Option Addr} {l : List α} (h : Reads size enc w B A l) (i : Nat) (hi : i < l.length) :
  ∃ b off, A = some ⟨b, off, none⟩ ∧ b < B ∧ rowOf w b (off + i * size) size = some (enc l[i]).toArray := by
 obtain ⟨b, off, h1, h2, h3⟩ := h (by omega)
 refine ⟨b, off, h1, h2, rowOf_some (by simp [E.len]) fun j hj => ?_⟩
 have hj' : j < (enc l[i]).length := by rw [E.len]; exact hj
 rw [h3 i hi j _ (List.getElem?_eq_getElem hj')]
 simp [hj']
def dgL (l : List Int) : List Value := (dgC l).toList
theorem dgE : EncTy dgL 16 := ⟨fun _ => rfl, fun x v hv => by
 have h : fitsRow 16 (dgC x) = true := by simp [fitsRow, dgC, Value.oneCell']
 simp only [fitsRow, Bool.and_eq_true, Array.all_eq_true'] at h
 exact h.2 v (by simpa [dgL] using hv)⟩
structure Pu where
 kind : Int
 what : ByteArray
 soft : Bool
def puL (s : Pu) : List Value := [.int .i64 s.kind] ++ [.string s.what] ++ [.bool s.soft]
def puC (s : Pu) : Array Value := (puL s).toArray
def noPu : Pu := ⟨0, ByteArray.empty, false⟩
theorem pu_size (s : Pu) : (puC s).size = 3 := rfl
theorem pu_all (s : Pu) : rowSub (puC s) 0 3 = some (puC s) := rowSub_all _ _ rfl
theorem pu_fits (s : Pu) : fitsRow 3 (puC s) = true := by kernel_rfl
theorem pu_g0 (s : Pu) : (puC s)[0]? = some (.int .i64 s.kind) := by kernel_rfl
theorem pu_g1 (s : Pu) : (puC s)[1]? = some (.string s.what) := by kernel_rfl
theorem pu_g2 (s : Pu) : (puC s)[2]? = some (.bool s.soft) := by kernel_rfl
attribute [go_sem] pu_size pu_all pu_fits pu_g0 pu_g1 pu_g2
theorem puE : EncTy puL 3 := ⟨fun _ => rfl, fun x v hv => by
 have h : (fitsRow 3 (puC x)) = true := pu_fits x
 simp only [fitsRow, Bool.and_eq_true, Array.all_eq_true'] at h
 exact h.2 v (by simpa [puC] using hv)⟩
theorem pu_ty : RowTy Tryz.prog 39 3 := ⟨by kernel_rfl, by kernel_rfl⟩
theorem pu_ld (w : World) (b o : Nat) : (rowLoad 39 3 (.pointer (some ⟨b, o, none⟩))).run Tryz.prog w = rowLoadR Tryz.prog w 39 3 b o (rowOf w b o 3) := run_rowLoad pu_ty w b o
theorem pu_st (w : World) (b o : Nat) (cells : Array Value) : (rowStore 39 3 (.pointer (some ⟨b, o, none⟩)) (.agg cells)).run Tryz.prog w = rowStoreR Tryz.prog w 39 3 b o cells (roomOf w b o 3 && fitsRow 3 cells) := run_rowStore pu_ty w b o cells
theorem pu_al (w : World) : (rowAlloc 39).run Tryz.prog w = .ok (.value (.pointer (some ⟨w.heap.size, 0, none⟩))) (w.alloc (.cells (puC noPu) 39)) := run_rowAlloc (by kernel_rfl) w
theorem pu_xl (ρ : Operand → Value) (dst : Option Tmp) (x : Operand) (t : TypeId) (pos : String) (after : Array Edge) (guard : Option (Nat × Bool)) : execOp ρ { dst, op := .load 39 x, type := t, pos, after, guard } = rowLoad 39 3 (ρ x) := rfl
theorem pu_xs (ρ : Operand → Value) (dst : Option Tmp) (x y : Operand) (t : TypeId) (pos : String) (after : Array Edge) (guard : Option (Nat × Bool)) : execOp ρ { dst, op := .store 39 x y, type := t, pos, after, guard } = rowStore 39 3 (ρ x) (ρ y) := rfl
theorem pu_xa (ρ : Operand → Value) (dst : Option Tmp) (t : TypeId) (pos : String) (after : Array Edge) (guard : Option (Nat × Bool)) : execOp ρ { dst, op := .alloc 39, type := t, pos, after, guard } = rowAlloc 39 := rfl
attribute [go_sem ↓] pu_xl pu_xs pu_xa
attribute [go_sem] pu_ld pu_st pu_al
structure Ep where
 num : Int
 prev : List Int
 (lo hi : Int)
 PA : Option Addr
 pc : Nat
 pu : List Pu
 RA : Option Addr
 rc : Nat
 rv : List (List Int)
 serial : Int
 sl : List Int
def epL (s : Ep) : List Value := [.int .i64 s.num] ++ (dgC s.prev).toList ++ [.int .i64 s.lo, .int .i64 s.hi] ++ [.slice s.PA s.pu.length s.pc] ++ [.slice s.RA s.rv.length s.rc] ++ [.int .i64 s.serial] ++ (dgC s.sl).toList
def epC (s : Ep) : Array Value := (epL s).toArray
def noEp : Ep := ⟨0, zeros32 16, 0, 0, none, 0, [], none, 0, [], 0, zeros32 16⟩
theorem ep_size (s : Ep) : (epC s).size = 38 := rfl
theorem ep_all (s : Ep) : rowSub (epC s) 0 38 = some (epC s) := rowSub_all _ _ rfl
theorem ep_fits (s : Ep) : fitsRow 38 (epC s) = true := by kernel_rfl
theorem ep_g0 (s : Ep) : (epC s)[0]? = some (.int .i64 s.num) := by kernel_rfl
theorem ep_g17 (s : Ep) : (epC s)[17]? = some (.int .i64 s.lo) := by kernel_rfl
theorem ep_g18 (s : Ep) : (epC s)[18]? = some (.int .i64 s.hi) := by kernel_rfl
theorem ep_g19 (s : Ep) : (epC s)[19]? = some (.slice s.PA s.pu.length s.pc) := by kernel_rfl
theorem ep_g20 (s : Ep) : (epC s)[20]? = some (.slice s.RA s.rv.length s.rc) := by kernel_rfl
theorem ep_g21 (s : Ep) : (epC s)[21]? = some (.int .i64 s.serial) := by kernel_rfl
theorem ep_s1_16 (s : Ep) : rowSub (epC s) 1 16 = some (dgC s.prev) := by kernel_rfl
theorem ep_s17_2 (s : Ep) : rowSub (epC s) 17 2 = some (#[.int .i64 s.lo, .int .i64 s.hi]) := by kernel_rfl
theorem ep_s22_16 (s : Ep) : rowSub (epC s) 22 16 = some (dgC s.sl) := by kernel_rfl
attribute [go_sem] ep_size ep_all ep_fits ep_g0 ep_g17 ep_g18 ep_g19 ep_g20 ep_g21 ep_s1_16 ep_s17_2 ep_s22_16
theorem epE : EncTy epL 38 := ⟨fun _ => rfl, fun x v hv => by
 have h : (fitsRow 38 (epC x)) = true := ep_fits x
 simp only [fitsRow, Bool.and_eq_true, Array.all_eq_true'] at h
 exact h.2 v (by simpa [epC] using hv)⟩
theorem ep_ty : RowTy Tryz.prog 30 38 := ⟨by kernel_rfl, by kernel_rfl⟩
theorem ep_ld (w : World) (b o : Nat) : (rowLoad 30 38 (.pointer (some ⟨b, o, none⟩))).run Tryz.prog w = rowLoadR Tryz.prog w 30 38 b o (rowOf w b o 38) := run_rowLoad ep_ty w b o
theorem ep_st (w : World) (b o : Nat) (cells : Array Value) : (rowStore 30 38 (.pointer (some ⟨b, o, none⟩)) (.agg cells)).run Tryz.prog w = rowStoreR Tryz.prog w 30 38 b o cells (roomOf w b o 38 && fitsRow 38 cells) := run_rowStore ep_ty w b o cells
theorem ep_al (w : World) : (rowAlloc 30).run Tryz.prog w = .ok (.value (.pointer (some ⟨w.heap.size, 0, none⟩))) (w.alloc (.cells (epC noEp) 30)) := run_rowAlloc (by kernel_rfl) w
theorem ep_xl (ρ : Operand → Value) (dst : Option Tmp) (x : Operand) (t : TypeId) (pos : String) (after : Array Edge) (guard : Option (Nat × Bool)) : execOp ρ { dst, op := .load 30 x, type := t, pos, after, guard } = rowLoad 30 38 (ρ x) := rfl
theorem ep_xs (ρ : Operand → Value) (dst : Option Tmp) (x y : Operand) (t : TypeId) (pos : String) (after : Array Edge) (guard : Option (Nat × Bool)) : execOp ρ { dst, op := .store 30 x y, type := t, pos, after, guard } = rowStore 30 38 (ρ x) (ρ y) := rfl
theorem ep_xa (ρ : Operand → Value) (dst : Option Tmp) (t : TypeId) (pos : String) (after : Array Edge) (guard : Option (Nat × Bool)) : execOp ρ { dst, op := .alloc 30, type := t, pos, after, guard } = rowAlloc 30 := rfl
attribute [go_sem ↓] ep_xl ep_xs ep_xa
attribute [go_sem] ep_ld ep_st ep_al
theorem place1k_wide (k : Ky) (p s : Int) (b : Nat) (w : World) (hb : w.cell? ⟨b, 0, none⟩ = some (.int .i64 s)) (hlt : b < w.heap.size) (h1 : small40 k.party) (h2 : small40 k.serial) (h3 : small40 p) (h4 : i64 s) (hne : cmpK p s k ≠ 0) :
  Calls Tryz.prog 267 #[.agg (kyC k), .int .i64 p, .pointer (some ⟨b, 0, none⟩)] w fun e w' => ∃ r : Int, Hid (r ≠ 0) ∧ e = .returned (.int .i64 r) ∧ Ext w w' := by
 obtain ⟨a1, a2⟩ := h1
 obtain ⟨b1, b2⟩ := h2
 obtain ⟨c1, c2⟩ := h3
 obtain ⟨d1, d2⟩ := h4
 by_cases h : k.party = p
 ·have e0 : (k.party != p) = false := by simpa using h
  have HN : Hid (wrap64 (k.serial - s) ≠ 0) := lh (by
   unfold cmpK at hne
   rw [if_pos h] at hne
   unfold wrap64
   omega)
  have HS : Hid (IntKind.i64.wrap (k.serial - s) = wrap64 (k.serial - s)) := lh (IntWalk.i64_left _)
  clear h hne
  go_enter Tryz.func267, Tryz.ntmps267
  go_wp2
  go_ret
  exact ⟨_, HN, rfl, (by (with_reducible repeat first|exact eR _|apply eD|apply eN|apply eA|apply eO|apply eS|apply eC);all_goals first|omega|simp <;> omega)⟩
 ·have e0 : (k.party != p) = true := by simpa using h
  have HN : Hid (k.party - p ≠ 0) := lh (by omega)
  clear h hne
  go_enter Tryz.func267, Tryz.ntmps267
  go_wp2
  go_ret
  exact ⟨_, HN, rfl, (by (with_reducible repeat first|exact eR _|apply eD|apply eN|apply eA|apply eO|apply eS|apply eC);all_goals first|omega|simp <;> omega)⟩
theorem bsearch_miss (A : Option Addr) (c : Nat) (l : List Ky) (p s : Int) (bt : Nat) (w : World) (hl : l.length ≤ 100000) (hr : ReadsKy w w.heap.size A l) (hb : w.cell? ⟨bt, 0, none⟩ = some (.int .i64 s)) (hlb : bt < w.heap.size) (hk : ∀ k ∈ l, small40 k.party ∧ small40 k.serial) (h3 : small40 p) (h4 : i64 s) (hne : ∀ k ∈ l, cmpK p s k ≠ 0) :
  Calls Tryz.prog 266 #[.slice A l.length c, .int .i64 p, .func (.func 267) #[] #[.pointer (some ⟨bt, 0, none⟩)]] w fun e w' =>
   ∃ (i : Nat), e = .returned (.tuple #[.int .i64 i, .bool false]) ∧ i ≤ l.length ∧ Ext w w' := by
 have HR := lh hr
 have HP := lh (fun (j : Nat) (h : j < l.length) (W : World) (hx : Ext w W) => place1k_wide l[j] p s bt W ((hx.cell (p := ⟨bt, 0, none⟩) hlb).trans hb) (by have := hx.size; omega) (hk _ (List.getElem_mem h)).1 (hk _ (List.getElem_mem h)).2 h3 h4 (hne _ (List.getElem_mem h)))
 clear hr hb hk h3 h4 hne
 go_enter Tryz.func266, Tryz.ntmps266
 go_wp2
 go_loopw [9, 10] (fun iv jv wr => ∃ i j : Nat, iv = .int .i64 i ∧ jv = .int .i64 j ∧ i ≤ j ∧ j ≤ l.length ∧ Hid (Ext w wr)) (fun i j _ => (intOf j).toNat - (intOf i).toNat)
 case atStart => exact ⟨0, l.length, rfl, rfl, Nat.zero_le _, Nat.le_refl _, lh (eR _)⟩
 case round =>
  obtain ⟨i, j, rfl, rfl, hij, hj, HX⟩ := hrel
  by_cases hlt : i < j
  ·obtain ⟨h, hh⟩ : ∃ h : Nat, h = (i + j) / 2 := ⟨_, rfl⟩
   have hh1 : i ≤ h := by omega
   have hh2 : h < j := by omega
   obtain ⟨b, off, rfl, hb, hrow⟩ := ReadsKy.row (HR.out.ext HX.out (Nat.le_refl _)) h (by omega)
   have hsz := HX.out.size
   have hb' : b < wr.heap.size := by omega
   have HP1 := lh (HP.out h (by omega))
   generalize l[h]'(by omega) = kh at *
   subst hh
   go_wp2_with (go_at_call 267; refine (HP1.out _ HX.out).mono ?_; rintro e w' ⟨r, HN, rfl, hxl⟩; obtain ⟨xl, rfl⟩ := hxl.asLater; clear hxl)
   all_goals
    go_roundw
    case rel => first
     | exact ⟨(i + j) / 2 + 1, j, by go_num, rfl, by omega, hj, lh (HX.out.onto _)⟩
     | exact ⟨i, (i + j) / 2, rfl, by go_num, by omega, by omega, lh (HX.out.onto _)⟩
    case measure => simp [intOf]; omega
  ·have e : i = j := by omega
   subst e
   have hsz := HX.out.size
   by_cases hi : i < l.length
   ·obtain ⟨b, off, rfl, hb, hrow⟩ := ReadsKy.row (HR.out.ext HX.out (Nat.le_refl _)) i hi
    have hb' : b < wr.heap.size := by omega
    have HP1 := lh (HP.out i hi)
    generalize l[i] = kh at *
    go_wp2_with (go_at_call 267; refine (HP1.out _ HX.out).mono ?_; rintro e w' ⟨r, HN, rfl, hxl⟩; obtain ⟨xl, rfl⟩ := hxl.asLater; clear hxl)
    have hr0 : (r == 0) = false := by simpa using HN.out
    refine bodyPost_ret (v := .tuple #[.int .i64 i, .bool false]) ?_ rfl ⟨i, rfl, hj, (by (with_reducible repeat first|exact HX.out|exact eR _|apply eD|apply eN|apply eA|apply eO|apply eS|apply eC);all_goals first|omega|simp <;> omega)⟩
    simp [results, Tryz.results266, go_sem, hr0, ↓IntWalk.iteOmega]
   ·go_wp2
    refine bodyPost_ret (v := .tuple #[.int .i64 i, .bool false]) ?_ rfl ⟨i, rfl, hj, HX.out⟩
    simp [results, Tryz.results266, go_sem, ↓IntWalk.iteOmega]
theorem kplace_miss (A : Option Addr) (c : Nat) (l : List Ky) (p s : Int) (w : World) (hl : l.length ≤ 100000) (hr : ReadsKy w w.heap.size A l) (hk : ∀ k ∈ l, small40 k.party ∧ small40 k.serial) (h3 : small40 p) (h4 : i64 s) (hne : ∀ k ∈ l, cmpK p s k ≠ 0) :
  Calls Tryz.prog 232 #[.slice A l.length c, .int .i64 p, .int .i64 s] w fun e w' =>
   ∃ (i : Nat), e = .returned (.tuple #[.int .i64 i, .bool false]) ∧ i ≤ l.length ∧ Ext w w' := by
 have H := lh (bsearch_miss A c l p s w.heap.size (w.alloc (.cells #[.int .i64 s] 3)) hl (hr.on ((Ext.refl w).alloc _)) (by rw [alloc_cell_if, if_pos rfl]; rfl) (by simp) hk h3 h4 hne)
 clear hr hk h3 h4 hne
 go_enter Tryz.func232, Tryz.ntmps232
 go_wp2_with (go_at_call 266; refine H.out.mono ?_; rintro e w' ⟨i, rfl, h1, hxl⟩; obtain ⟨xl, rfl⟩ := hxl.asLater; clear hxl)
 refine bodyPost_ret (v := .tuple #[.int .i64 i, .bool false]) ?_ rfl ⟨i, rfl, h1, (by (with_reducible repeat first|exact eR _|apply eD|apply eN|apply eA|apply eO|apply eS|apply eC);all_goals first|omega|simp <;> omega)⟩
 simp [results, Tryz.results232, go_sem, ↓IntWalk.iteOmega]
theorem kfind_miss (A : Option Addr) (c : Nat) (l : List Ky) (p s : Int) (w : World) (hl : l.length ≤ 100000) (hr : ReadsKy w w.heap.size A l) (hk : ∀ k ∈ l, small40 k.party ∧ small40 k.serial) (h3 : small40 p) (h4 : i64 s) (hne : ∀ k ∈ l, cmpK p s k ≠ 0) :
  Calls Tryz.prog 177 #[.slice A l.length c, .int .i64 p, .int .i64 s] w fun e w' => e = .returned (.tuple #[.agg (kyC noKy), .int .i64 5]) ∧ Ext w w' := by
 have H := lh (kplace_miss A c l p s (w.alloc (.cells (kyC noKy) 44)) hl (hr.on ((Ext.refl w).alloc _)) hk h3 h4 hne)
 have hft0 := ky_fits noKy
 clear hr hk h3 h4 hne
 go_enter Tryz.func177, Tryz.ntmps177
 go_wp2_with (go_at_call 232; refine (show Hid _ from ?_).out)
 refine lh ?_
 refine H.out.mono ?_
 rintro e w1 ⟨i, rfl, h1, hx1⟩
 have HX1 : Hid (Ext w w1) := lh (((Ext.refl w).alloc _).trans hx1)
 have HRow : Hid (RowAt w1 w.heap.size (kyC noKy)) := lh ((RowAt.new w (kyC noKy) 44).ext hx1)
 have hlr := HRow.out.lt
 have hrm : roomOf w1 w.heap.size 0 5 = true := by rw [HRow.out.room]; rfl
 clear h1 hx1 H
 go_wp2
 refine post_two (v1 := .agg (kyC noKy)) (v2 := .int .i64 5) Tryz.results177 rfl ⟨_, rfl, ky_loaded ((HRow.out.store (ds := kyC noKy) rfl).all rfl (by omega))⟩ rfl ⟨rfl, Ext.setCells HX1.out (Nat.le_refl _) _ _⟩
theorem okKy_lims {k : Ky} (h : okKy k = true) : 1 ≤ k.party ∧ 1 ≤ k.serial ∧ k.party ≤ 1073741824 ∧ k.serial ≤ 1073741824 ∧ 1 ≤ k.secret.size ∧ k.secret.size ≤ 64 ∧ 0 ≤ k.fr ∧ k.fr < k.upto ∧ k.upto ≤ 1099511627776 := by
 simp only [okKy, Bool.and_eq_true, decide_eq_true_eq] at h
 omega
def befK (a b : Ky) : Bool := decide (a.party < b.party) || (decide (a.party = b.party) && decide (a.serial < b.serial))
structure RingOk (l : List Ky) : Prop where
 ok : ∀ k ∈ l, okKy k = true
 asc : ∀ i (h : i + 1 < l.length), befK l[i] l[i + 1] = true
 len : l.length ≤ 100000
theorem befK_is {a b : Ky} : befK a b = true ↔ a.party < b.party ∨ (a.party = b.party ∧ a.serial < b.serial) := by simp [befK]
theorem RingOk.before {l : List Ky} (h : RingOk l) : ∀ (j i : Nat) (hj : j < l.length) (hij : i < j), befK (l[i]'(by omega)) l[j] = true := by
 intro j
 induction j with
 | zero => intro i _ h; omega
 | succ j ih =>
  intro i hj hij
  have h1 := h.asc j hj
  by_cases e : i = j
  ·subst e; exact h1
  ·have h2 := ih i (by omega) (by omega)
   rw [befK_is] at *
   omega
theorem RingOk.small {l : List Ky} (h : RingOk l) : ∀ k ∈ l, small40 k.party ∧ small40 k.serial := fun k hk => by
 have := okKy_lims (h.ok k hk)
 unfold small40
 omega
theorem RingOk.mono {l : List Ky} (h : RingOk l) (p s : Int) : MonoK l p s := by
 intro a b ha hb hab hc
 have := befK_is.1 (h.before b a hb hab)
 unfold cmpK at *
 split at hc <;> split <;> omega
theorem RingOk.uniq {l : List Ky} (h : RingOk l) (p s : Int) : ∀ a (ha : a < l.length), cmpK p s l[a] = 0 → ∀ b (hb : b < l.length), a < b → 0 < cmpK p s l[b] := by
 intro a ha h0 b hb hab
 have := befK_is.1 (h.before b a hb hab)
 unfold cmpK at *
 split at h0 <;> split <;> omega
theorem RingOk.pos {l : List Ky} (h : RingOk l) (p s : Int) : ∀ a b (ha : a < l.length) (hb : b < l.length), a < b → 0 < cmpK p s l[a] → 0 < cmpK p s l[b] := by
 intro a b ha hb hab h0
 have := befK_is.1 (h.before b a hb hab)
 unfold cmpK at *
 split at h0 <;> split <;> omega
def keyF (l : List Ky) (p s : Int) : Ky := (keyN l p s).getD noKy
def keyE (l : List Ky) (p s : Int) : Int := if (keyN l p s).isSome then 0 else 5
theorem keyN_zero {l : List Ky} {p s : Int} {k : Ky} (h : keyN l p s = some k) : k ∈ l ∧ cmpK p s k = 0 := ⟨List.mem_of_find?_eq_some h, by simpa using List.find?_some h⟩
theorem kfind_ring (A : Option Addr) (c : Nat) (l : List Ky) (p s : Int) (w : World) (hg : RingOk l) (hr : ReadsKy w w.heap.size A l) (h3 : small40 p) (h4 : i64 s) :
  Calls Tryz.prog 177 #[.slice A l.length c, .int .i64 p, .int .i64 s] w fun e w' => e = .returned (.tuple #[.agg (kyC (keyF l p s)), .int .i64 (keyE l p s)]) ∧ Ext w w' := by
 by_cases hs : small40 s
 ·refine (kfind_hit A c l p s w hg.len hr (hg.mono p s) hg.small h3 hs).mono ?_
  rintro e w' ⟨i, ha, h | h, hx⟩
  ·obtain ⟨hi, h0, rfl⟩ := h
   have := key_at ha (hg.uniq p s) hi h0
   exact ⟨by rw [keyF, keyE, this]; rfl, hx⟩
  ·obtain ⟨hn, rfl⟩ := h
   have := key_none ha (fun a h => by omega) (hg.pos p s) hn
   exact ⟨by rw [keyF, keyE, this]; rfl, hx⟩
 ·have hne : ∀ k ∈ l, cmpK p s k ≠ 0 := fun k hk h0 => by
   have h2 := (hg.small k hk).2
   unfold small40 at *
   unfold cmpK at h0
   split at h0 <;> omega
  have hn : keyN l p s = none := by
   unfold keyN
   rw [List.find?_eq_none]
   intro k hk
   simpa using hne k hk
  refine (kfind_miss A c l p s w hg.len hr hg.small h3 h4 hne).mono ?_
  rintro e w' ⟨rfl, hx⟩
  exact ⟨by rw [keyF, keyE, hn]; rfl, hx⟩
def oneB (b : Bool) : Int := if b then 1 else 0
def puParts (p : Pu) : List ByteArray := [strOfNums (encInts [p.kind, oneB p.soft]), p.what]
def epInts (e : Ep) : List Int := [e.num, e.lo, e.hi, e.serial, e.pu.length]
def epHead (e : Ep) : List ByteArray := [strOfNums (encInts (epInts e)), strOfNums e.prev]
def epParts (e : Ep) : List ByteArray := epHead e ++ e.pu.flatMap puParts ++ e.rv.map strOfNums
def epName (e : Ep) : List Int := Wire.digest 31 ((epParts e ++ [strOfNums e.sl]).map bts)
theorem epName_len (e : Ep) : (epName e).length = 16 := digest_length _ _
theorem epName_byt (e : Ep) : Byt (epName e) := digest_byt _ _
structure DgOk (l : List Int) : Prop where
 len : l.length = 16
 byt : Byt l
structure EpOk (e : Ep) : Prop where
 prev : DgOk e.prev
 sl : DgOk e.sl
 rv : ∀ d ∈ e.rv, DgOk d
 ints : ∀ x ∈ [e.num, e.lo, e.hi, e.serial], i64 x
 pu : ∀ p ∈ e.pu, i64 p.kind ∧ p.what.size ≤ 9223372036854775807
 pul : e.pu.length ≤ 9223372036854775807
 rvl : e.rv.length ≤ 9223372036854775807
 pcap : e.pu.length ≤ e.pc ∧ e.pc ≤ 9223372036854775807
 rcap : e.rv.length ≤ e.rc ∧ e.rc ≤ 9223372036854775807
 pz : e.PA = none → e.pc = 0
 rz : e.RA = none → e.rc = 0
structure EpAt (w : World) (e : Ep) : Prop where
 pu : Reads 3 puL w w.heap.size e.PA e.pu
 rv : Reads 16 dgL w w.heap.size e.RA e.rv
theorem EpAt.on {w w' : World} {e : Ep} (h : EpAt w e) (hx : Ext w w') : EpAt w' e := ⟨h.pu.on hx, h.rv.on hx⟩
structure EpShort (e : Ep) : Prop where
 pu : e.pu.length ≤ 10
 rv : e.rv.length ≤ 10
 what : ∀ p ∈ e.pu, p.what.size ≤ 200
def shortEp (e : Ep) : Bool := (e.pu.all fun p => decide ((p.what.size : Int) ≤ 200)) && decide ((e.pu.length : Int) ≤ 10) && decide ((e.rv.length : Int) ≤ 10)
theorem shortEp_is {e : Ep} (h : shortEp e = true) : EpShort e := by
 simp only [shortEp, Bool.and_eq_true, decide_eq_true_eq, List.all_eq_true] at h
 exact ⟨by omega, by omega, fun p hp => by have := h.1.1 p hp; omega⟩
theorem ints_size (l : List Int) : (strOfNums (encInts l)).size ≤ 10 * l.length + 10 := by
 have := encInts_len l
 rw [strOfNums_size]
 exact this
theorem lens_one (s : ByteArray) : lens [s] = s.size + 10 := by simp [lens]
theorem lens_flat {α : Type} (f : α → List ByteArray) (m : Nat) : ∀ l : List α, (∀ x ∈ l, lens (f x) ≤ m) → lens (l.flatMap f) ≤ l.length * m
 | [], _ => by simp [lens]
 | x :: t, h => by
  rw [List.flatMap_cons, lens_append, List.length_cons, Nat.add_mul, Nat.one_mul]
  have h1 := h x (by simp)
  have h2 := lens_flat f m t (fun y hy => h y (by simp [hy]))
  omega
theorem lens_map {α : Type} (f : α → ByteArray) (m : Nat) : ∀ l : List α, (∀ x ∈ l, (f x).size + 10 ≤ m) → lens (l.map f) ≤ l.length * m
 | [], _ => by simp [lens]
 | x :: t, h => by
  have e : lens ((x :: t).map f) = ((f x).size + 10) + lens (t.map f) := by simp [lens]
  rw [e, List.length_cons, Nat.add_mul, Nat.one_mul]
  have h1 := h x (by simp)
  have h2 := lens_map f m t (fun y hy => h y (by simp [hy]))
  omega
theorem lens_cons (s : ByteArray) (l : List ByteArray) : lens (s :: l) = s.size + 10 + lens l := by simp [lens]
theorem lens_nil : lens [] = 0 := by simp [lens]
theorem dg_size {l : List Int} (h : DgOk l) : (strOfNums l).size = 16 := by rw [strOfNums_size]; exact h.len
theorem epParts_lens {e : Ep} (h : EpOk e) (hs : EpShort e) : lens (epParts e) ≤ 10000 := by
 have h1 := ints_size (epInts e)
 have h2 := dg_size h.prev
 have h3 : (epInts e).length = 5 := rfl
 have h4 := lens_flat puParts 250 e.pu (fun p hp => by
  have g1 := ints_size [p.kind, oneB p.soft]
  have g2 : [p.kind, oneB p.soft].length = 2 := rfl
  have g3 := hs.what p hp
  unfold puParts
  rw [lens_cons, lens_cons, lens_nil]
  omega)
 have h5 := lens_map strOfNums 26 e.rv (fun d hd => by have := dg_size (h.rv d hd); omega)
 have h6 := hs.pu
 have h7 := hs.rv
 unfold epParts epHead
 rw [lens_append, lens_append, lens_cons, lens_cons, lens_nil]
 omega
theorem epName_lens {e : Ep} (h : EpOk e) (hs : EpShort e) : lens (epParts e ++ [strOfNums e.sl]) ≤ 20000 := by
 have h1 := epParts_lens h hs
 have h2 := dg_size h.sl
 rw [lens_append, lens_one]
 omega
end Go.Proofs.YtpojnhikgjcgmaaGreatDoor

namespace Go.Proofs.YtpojnhikgjcgmaaGreatDoor
open Go.ChangeShapes Go.WideShapes Go.ChangeAt Go.RowKit Go.Joins Go.Deep
open Go.Proofs
section
variable {H : Type} {enc : TypeId × Value → H} {w : World} {base : Nat} {spare : Nat → Bool} {held : Bool}
theorem i64_wf {n : Int} (w : (Lit.int .i64 n).wf = true) : i64 n := by simp [Lit.wf, IntKind.min, IntKind.max, IntKind.signed, IntKind.bits] at w; unfold i64; constructor <;> omega
theorem dg_el {m : Nat} {L : List Value} {x : DataW H × List MemPlace} (h : DataW.trod enc Tryz.prog w base spare held m 23 L = some x) : ∃ s : List Int, L = dgL s ∧ DgOk s := by
 obtain ⟨d, e, l, y⟩ := dg_of_trod Tryz.underlying23 (by kernel_rfl) h
 exact ⟨d, e, l, y⟩
def PuIn (s : Pu) : Prop := i64 s.kind ∧ s.what.size ≤ maxLen
theorem pu_of_trod {m : Nat} {L : List Value} {x : DataW H × List MemPlace} (h : DataW.trod enc Tryz.prog w base spare held m 39 L = some x) : ∃ s : Pu, L = puL s ∧ PuIn s := by
 obtain ⟨xs, n, _, _, hlen, hxl, hg⟩ := DataW.trod_struct Tryz.underlying39 h
 have hC : Tryz.prog.cellsOf 39 = 3 := by kernel_rfl
 have q0 : Tryz.prog.cellsOf 3 = 1 := by kernel_rfl
 have q1 : Tryz.prog.cellsOf 9 = 1 := by kernel_rfl
 have q2 : Tryz.prog.cellsOf 4 = 1 := by kernel_rfl
 rw [hC] at hlen
 have hx9 : xs.length = 3 := hxl
 have g0 := hg 0 _ rfl
 have g1 := hg 1 _ rfl
 have g2 := hg 2 _ rfl
 simp only [List.getElem_toArray, List.getElem_cons_succ, List.getElem_cons_zero, q0, q1, q2] at g0 g1 g2
 rw [List.getElem?_eq_getElem (by omega)] at g0 g1 g2
 obtain ⟨n0, e0, _, w0⟩ := DataW.trod_int Tryz.underlying3 g0
 obtain ⟨s1, e1, _, z1⟩ := DataW.trod_string Tryz.underlying9 g1
 obtain ⟨b2, e2, _⟩ := DataW.trod_bool Tryz.underlying4 g2
 refine ⟨⟨n0, s1, b2⟩, ?_, i64_wf w0 , z1⟩
 have e : L = L.drop 0 := rfl
 have j0 := seg e0
 have j1 := seg e1
 have j2 := seg e2
 rw [e, j0, j1, j2, List.drop_eq_nil_of_le (by omega)]
 simp [puL]
def EpIn (w : World) (s : Ep) : Prop := i64 s.num ∧ DgOk s.prev ∧ i64 s.lo ∧ i64 s.hi ∧ (s.pu.length ≤ s.pc ∧ s.pc ≤ maxLen ∧ Reads 3 puL w w.heap.size s.PA s.pu ∧ (∀ x ∈ s.pu, PuIn x) ∧ (s.PA = none → s.pc = 0)) ∧ (s.rv.length ≤ s.rc ∧ s.rc ≤ maxLen ∧ Reads 16 dgL w w.heap.size s.RA s.rv ∧ (∀ x ∈ s.rv, DgOk x) ∧ (s.RA = none → s.rc = 0)) ∧ i64 s.serial ∧ DgOk s.sl
theorem ep_of_trod {m : Nat} {L : List Value} {x : DataW H × List MemPlace} (h : DataW.trod enc Tryz.prog w 0 (fun _ => true) held m 30 L = some x) : ∃ s : Ep, L = epL s ∧ EpIn w s := by
 obtain ⟨xs, n, _, _, hlen, hxl, hg⟩ := DataW.trod_struct Tryz.underlying30 h
 have hC : Tryz.prog.cellsOf 30 = 38 := by kernel_rfl
 have q0 : Tryz.prog.cellsOf 3 = 1 := by kernel_rfl
 have q1 : Tryz.prog.cellsOf 23 = 16 := by kernel_rfl
 have q2 : Tryz.prog.cellsOf 25 = 2 := by kernel_rfl
 have q3 : Tryz.prog.cellsOf 26 = 1 := by kernel_rfl
 have q4 : Tryz.prog.cellsOf 27 = 1 := by kernel_rfl
 have q5 : Tryz.prog.cellsOf 28 = 16 := by kernel_rfl
 rw [hC] at hlen
 have hx9 : xs.length = 7 := hxl
 have g0 := hg 0 _ rfl
 have g1 := hg 1 _ rfl
 have g2 := hg 2 _ rfl
 have g3 := hg 3 _ rfl
 have g4 := hg 4 _ rfl
 have g5 := hg 5 _ rfl
 have g6 := hg 6 _ rfl
 simp only [List.getElem_toArray, List.getElem_cons_succ, List.getElem_cons_zero, q0, q1, q2, q3, q4, q5] at g0 g1 g2 g3 g4 g5 g6
 rw [List.getElem?_eq_getElem (by omega)] at g0 g1 g2 g3 g4 g5 g6
 obtain ⟨n0, e0, _, w0⟩ := DataW.trod_int Tryz.underlying3 g0
 obtain ⟨d1, e1, l1, y1⟩ := dg_of_trod Tryz.underlying23 q1 g1
 obtain ⟨ys2, k2, _, _, hl2, hyl2, hg2⟩ := DataW.trod_struct Tryz.underlying25 g2
 have u0 := hg2 0 _ rfl
 have u1 := hg2 1 _ rfl
 have hy2 : ys2.length = 2 := hyl2
 simp only [List.getElem_toArray, List.getElem_cons_succ, List.getElem_cons_zero, q0] at u0 u1
 rw [List.getElem?_eq_getElem (by omega)] at u0 u1
 obtain ⟨lo2, f0, _, wl2⟩ := DataW.trod_int Tryz.underlying3 u0
 obtain ⟨hi2, f1, _, wh2⟩ := DataW.trod_int Tryz.underlying3 u1
 have e2 : (L.drop 17).take 2 = [.int .i64 lo2, .int .i64 hi2] := by
  have q0 := seg f0
  have q1 := seg f1
  rw [q2] at hl2
  have q2 : ((L.drop 17).take 2).drop 2 = [] := List.drop_eq_nil_of_le (by omega)
  have e : (L.drop 17).take 2 = ((L.drop 17).take 2).drop 0 := rfl
  rw [e, q0, q1, q2]
  rfl
 obtain ⟨v3, e3⟩ : ∃ v, (L.drop 19).take 1 = [v] := ⟨L[19]'(by omega), by rw [List.drop_eq_getElem_cons (by omega), List.take_succ_cons, List.take_zero]⟩
 rw [e3] at g3
 obtain ⟨A3, c3, l3, rfl, a3, b3, r3, p3, z3⟩ := slice_of_trod puE (noPu) PuIn Tryz.underlying26 (by kernel_rfl) (by omega) (fun h => pu_of_trod h) g3
 obtain ⟨v4, e4⟩ : ∃ v, (L.drop 20).take 1 = [v] := ⟨L[20]'(by omega), by rw [List.drop_eq_getElem_cons (by omega), List.take_succ_cons, List.take_zero]⟩
 rw [e4] at g4
 obtain ⟨A4, c4, l4, rfl, a4, b4, r4, p4, z4⟩ := slice_of_trod dgE (zeros32 16) DgOk Tryz.underlying27 (by kernel_rfl) (by omega) (fun h => dg_el h) g4
 obtain ⟨n5, e5, _, w5⟩ := DataW.trod_int Tryz.underlying3 g5
 obtain ⟨d6, e6, l6, y6⟩ := dg_of_trod Tryz.underlying28 q5 g6
 refine ⟨⟨n0, d1, lo2, hi2, A3, c3, l3, A4, c4, l4, n5, d6⟩, ?_, i64_wf w0 , ⟨l1, y1⟩ , i64_wf wl2 , i64_wf wh2 , ⟨a3, b3, r3, p3, z3⟩ , ⟨a4, b4, r4, p4, z4⟩ , i64_wf w5 , ⟨l6, y6⟩⟩
 have e : L = L.drop 0 := rfl
 have j0 := seg e0
 have j1 := seg e1
 have j2 := seg e2
 have j3 := seg e3
 have j4 := seg e4
 have j5 := seg e5
 have j6 := seg e6
 rw [e, j0, j1, j2, j3, j4, j5, j6, List.drop_eq_nil_of_le (by omega)]
 simp [epL]
theorem open_ep {r : Reach} {b0 : Nat} {v : Value} {d : DataW H} {p : List MemPlace} (hv : Value.okWide Tryz.prog w r b0 30 v) (h : DataW.Trod enc Tryz.prog w 0 (fun _ => true) held 30 v d p) : ∃ s : Ep, v = .agg (epC s) ∧ EpIn w s := by
 obtain ⟨cs, rfl, hsz⟩ := okWide_struct Tryz.underlying30 hv
 obtain ⟨fuel, hf⟩ := h
 obtain ⟨s, e0, l1⟩ := ep_of_trod hf
 have hcs : cs = epC s := by
  apply Array.toList_inj.1
  exact e0
 exact ⟨s, by rw [hcs], l1⟩
theorem ep_ok {e : Ep} (h : EpIn w e) : EpOk e ∧ EpAt w e := by
 obtain ⟨h1, h2, h3, h4, ⟨p1, p2, p3, p4, p5⟩, ⟨r1, r2, r3, r4, r5⟩, h7, h8⟩ := h
 unfold maxLen at *
 refine ⟨⟨h2, h8, r4, ?_, ?_, by omega, by omega, ⟨p1, by omega⟩, ⟨r1, by omega⟩, p5, r5⟩, ⟨p3, r3⟩⟩
 ·intro x hx
  simp only [List.mem_cons, List.not_mem_nil, or_false] at hx
  rcases hx with rfl | rfl | rfl | rfl <;> assumption
 ·intro p hp
  obtain ⟨q1, q2⟩ := p4 p hp
  unfold maxLen at q2
  exact ⟨q1, by omega⟩
end
end Go.Proofs.YtpojnhikgjcgmaaGreatDoor