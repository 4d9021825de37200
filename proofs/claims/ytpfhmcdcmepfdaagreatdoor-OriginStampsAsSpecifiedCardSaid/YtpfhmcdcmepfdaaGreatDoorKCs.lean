/- weirgateref06: Text, Canonical, Canon. -/
import Derived.Test.YtpfhmcdcmepfdaaGreatDoorProg
import Derived.Test.YtpfhmcdcmepfdaaGreatDoorKSpv
import Derived.WalkKit
import Derived.WalkSpells
import Derived.WalkLawsBesides
import Derived.Deep.QuietTactic
import Derived.BigQuiet
import Derived.Test.YtpfhmcdcmepfdaaGreatDoorKCd
import Derived.RangeFuncNested
import Derived.RangeFuncBound
import Derived.RangeFuncCalls
import Derived.RangeFuncLeaves
import Derived.Shelf.Abstract
import Derived.Shelf.RegionOpen
import Derived.OwnWalkIn
import Derived.TacticsInMore
import Derived.LoopNIn
import Derived.LoopIn
import Derived.Maps.OwnIn
import Derived.StringKeys
import Derived.Test.YtpfhmcdcmepfdaaGreatDoorKCi
import Derived.Test.YtpfhmcdcmepfdaaGreatDoorKIt
set_option linter.unusedVariables false
set_option linter.unusedSimpArgs false
namespace Go.Proofs.YtpfhmcdcmepfdaaGreatDoor
open Go.RowKit Go.Shelf
open Go.Proofs

abbrev PrB := ByteArray × ByteArray
def encP (p : PrB) : List Value := [.string p.1, .string p.2]
theorem prE : EncTy encP 2 := ⟨fun _ => rfl, fun x v hv => by simp [encP] at hv; rcases hv with rfl | rfl <;> rfl⟩
theorem prT : ElemTy Tryz.prog 210 251 2 32 := ⟨by kernel_rfl, by kernel_rfl, by omega⟩
abbrev ReadsPr (w : World) (B : Nat) (A : Option Addr) (l : List PrB) : Prop := Reads 2 encP w B A l
abbrev OwnsPr (base : Nat) (w : World) (A : Option Addr) (c : Nat) (l : List PrB) : Prop := Owns 251 2 encP base w A c l
theorem ReadsPr.cell {w : World} {B : Nat} {A : Option Addr} {l : List PrB} (h : ReadsPr w B A l) (i : Nat) (hi : i < l.length) : ∃ b off, A = some ⟨b, off, none⟩ ∧ b < B ∧ w.cell? ⟨b, off + i * 2, none⟩ = some (.string l[i].1) ∧ w.cell? ⟨b, off + i * 2 + 1, none⟩ = some (.string l[i].2) := by
  obtain ⟨b, off, h1, h2, h3⟩ := h (by omega)
  exact ⟨b, off, h1, h2, by simpa using h3 i hi 0 _ rfl, by simpa using h3 i hi 1 _ rfl⟩
def prB (p : PrB) : Ad.Pr := (bsT p.1, bsT p.2)
/-- The text of the first parts, of the first pairs. -/
def sepB (k : Nat) : List UInt8 := if k = 0 then [63] else [38]
theorem pathT_succ (l : List (List UInt8)) (k : Nat) (h : k < l.length) : Ad.pathT (l.take (k + 1)) = Ad.pathT (l.take k) ++ 47 :: l[k] := by
  rw [List.take_succ_eq_append_getElem h, Ad.pathT, List.flatMap_append]
  simp [Ad.pathT]
theorem quT_snoc : ∀ (l : List Ad.Pr) (p : Ad.Pr), Ad.quT (l ++ [p]) = Ad.quT l ++ (sepB l.length ++ Ad.pairT p)
  | [], p => by simp [Ad.quT, sepB]
  | q :: r, p => by
    have e : sepB (q :: r).length = [38] := if_neg (by simp)
    rw [e]
    simp [Ad.quT, List.flatMap_append]
theorem quT_succ (l : List Ad.Pr) (k : Nat) (h : k < l.length) : Ad.quT (l.take (k + 1)) = Ad.quT (l.take k) ++ (sepB k ++ Ad.pairT l[k]) := by
  rw [List.take_succ_eq_append_getElem h, quT_snoc, List.length_take, Nat.min_eq_left (by omega)]
def sepS (k : Nat) : ByteArray := if k = 0 then ⟨#[63]⟩ else ⟨#[38]⟩
theorem sepS_bs (k : Nat) : bsT (sepS k) = sepB k := by unfold sepS sepB; split <;> rfl
theorem sepS_size (k : Nat) : (sepS k).size = 1 := by unfold sepS; split <;> rfl
theorem sepS_succ (k : Nat) : sepS (k + 1) = ⟨#[38]⟩ := if_neg (by omega)
section
variable {T e : TypeId} {B b : Nat} {bs : List Value} {w w' : World}
theorem builderAt_ext {p : Value} (h : Lib.BuilderAt T e B b p bs w) (hx : Ext w w') : Lib.BuilderAt T e B b p bs w' := by
  obtain ⟨hB, v, hb, hown, hne⟩ := h
  refine ⟨hB, v, (hx.below.block b (Array.getElem?_eq_some_iff.1 hb).1).trans hb, ⟨hown.1, ?_⟩, hne⟩
  rcases hown.2 with k | ⟨g, cap, cur, h1, h2, h3, h4⟩
  · exact .inl k
  · exact .inr ⟨g, cap, cur, h1, h2, (hx.below.block g (Array.getElem?_eq_some_iff.1 h3).1).trans h3, h4⟩
theorem isBuilder_ext (h : Lib.IsBuilder T e B b bs w) (hx : Ext w w') : Lib.IsBuilder T e B b bs w' := by
  rcases h with h | h
  · exact .inl (builderAt_ext h hx)
  · exact .inr (builderAt_ext h hx)
end
abbrev Bld (B b : Nat) (l : List UInt8) (w : World) : Prop := Lib.IsBuilder 284 5 B b (Lib.byteCells l) w
theorem wrstr_any (B b : Nat) (l : List UInt8) (s : ByteArray) (w : World) (h : Bld B b l w) (hlen : l.length + s.size ≤ 140737488355328) (hBw : B ≤ w.heap.size) :
    Calls Tryz.prog 208 #[.pointer (some ⟨b, 0, none⟩), .string s] w fun e w' => e = .returned (.tuple #[.int .i64 s.size, .nilIface]) ∧ Bld B b (l ++ bsT s) w' ∧ Below B w w' := by
  have hc := Any.Builder_WriteString { Tryz.join with } joinExtra B b (Lib.byteCells l) s w h (by rw [Lib.byteCells_length]; exact hlen) hBw
  refine Calls.mono hc ?_
  rintro e w' ⟨he, h1, h2⟩
  refine ⟨he, .inr ?_, h2⟩
  rw [Lib.byteCells_append]
  exact h1
theorem bstr_any (B b : Nat) (l : List UInt8) (w : World) (h : Bld B b l w) (hBw : B ≤ w.heap.size) :
    Calls Tryz.prog 209 #[.pointer (some ⟨b, 0, none⟩)] w fun e w' => e = .returned (.string ⟨l.toArray⟩) ∧ Below B w w' :=
  Any.Builder_String_any { Tryz.join with } joinExtra B b l w h hBw
def adrV (cu : ByteArray) (A : Option Addr) (n c : Nat) (A2 : Option Addr) (n2 c2 : Nat) : Value := .agg #[.string cu, .slice A n c, .slice A2 n2 c2]
set_option maxRecDepth 100000 in
set_option maxHeartbeats 2000000 in
theorem write_any (cu : ByteArray) (A : Option Addr) (c : Nat) (ls : List ByteArray) (A2 : Option Addr) (c2 : Nat) (qs : List PrB) (w : World) (h1 : cu.size ≤ 64) (h2 : ∀ x ∈ ls, x.size ≤ 64) (h3 : ∀ x ∈ qs, x.1.size ≤ 64 ∧ x.2.size ≤ 64) (hl : ls.length ≤ 32) (hq : qs.length ≤ 16)
    (hr : ReadsStr w w.heap.size A ls) (hr2 : ReadsPr w w.heap.size A2 qs) :
    Calls Tryz.prog 180 #[.agg #[.string cu, .slice A ls.length c, .slice A2 qs.length c2]] w fun e w' => e = .returned (.string ⟨(Ad.textT ⟨bsT cu, ls.map bsT, qs.map prB⟩).toArray⟩) ∧ Ext w w' := by
  have HR := Lib.hid hr
  have HR2 := Lib.hid hr2
  have H2 := Lib.hid h2
  have H3 := Lib.hid h3
  clear hr hr2 h2 h3
  go_enter Tryz.func180, Tryz.ntmps180
  go_wp2_with (go_at_call 208; refine (show Hid _ from ?_).out)
  refine Lib.hid ?_
  have hB0 : Bld (w.heap.size + 1) (w.heap.size + 1) [] ((w.alloc (.cells #[.string cu, .slice A ls.length c, .slice A2 qs.length c2] 212)).alloc (.cells #[.pointer none, .slice none 0 0] 284)) := by
    have h := Lib.fresh_isBuilder 284 5 (w.alloc (.cells #[.string cu, .slice A ls.length c, .slice A2 qs.length c2] 212))
    rw [World.size_alloc] at h
    exact h
  have hA0 : RowAt ((w.alloc (.cells #[.string cu, .slice A ls.length c, .slice A2 qs.length c2] 212)).alloc (.cells #[.pointer none, .slice none 0 0] 284)) w.heap.size #[.string cu, .slice A ls.length c, .slice A2 qs.length c2] := (RowAt.new _ _ _).alloc _
  have hx0 : Ext w ((w.alloc (.cells #[.string cu, .slice A ls.length c, .slice A2 qs.length c2] 212)).alloc (.cells #[.pointer none, .slice none 0 0] 284)) := ((Ext.refl w).alloc _).alloc _
  have hs0 : w.heap.size + 1 ≤ ((w.alloc (.cells #[.string cu, .slice A ls.length c, .slice A2 qs.length c2] 212)).alloc (.cells #[.pointer none, .slice none 0 0] 284)).heap.size := by simp
  refine (wrstr_any _ _ _ cu _ hB0 (by simp; omega) hs0).mono ?_
  rintro e w1 ⟨rfl, hb1, hx1⟩
  have hA1 := hA0.below hx1 (by omega)
  have HX1 : Hid (Ext w w1) := Lib.hid (hx0.grown hx1 (by omega))
  have HB1 := Lib.hid hb1
  have HA1 := Lib.hid hA1
  have a1 := hA1.cell 1
  have hs1 : w.heap.size + 1 ≤ w1.heap.size := Nat.le_trans hs0 hx1.size
  clear hB0 hA0 hx0 hs0 hx1 hb1 hA1
  go_wp2
  go_loopw [15] (fun i wr => ∃ k : Nat, k ≤ ls.length ∧ i = .int .i64 k ∧ Hid (Bld (w.heap.size + 1) (w.heap.size + 1) (bsT cu ++ Ad.pathT ((ls.take k).map bsT)) wr) ∧ Hid (Ext w wr) ∧ Hid (RowAt wr w.heap.size #[.string cu, .slice A ls.length c, .slice A2 qs.length c2]) ∧ w.heap.size + 1 ≤ wr.heap.size ∧ (bsT cu ++ Ad.pathT ((ls.take k).map bsT)).length ≤ 64 + 65 * k) (fun i _ => ls.length - (intOf i).toNat)
  case atStart => exact ⟨0, Nat.zero_le _, rfl, Lib.hid (by simpa [Ad.pathT] using HB1.out), HX1, HA1, hs1, by simp [Ad.pathT, bsT_size]; omega⟩
  case round =>
    obtain ⟨k, hk, rfl, HB, HX, HA, hsz, hln⟩ := hrel
    clear HB1 HX1 HA1 a1 hs1
    by_cases hlt : k < ls.length
    · obtain ⟨b, off, rfl, hb, d1⟩ := ReadsStr.cell (HR.out.ext HX.out (Nat.le_refl _)) k hlt
      have hx64 := H2.out _ (List.getElem_mem hlt)
      have HN : Hid (bsT cu ++ Ad.pathT ((ls.take (k + 1)).map bsT) = bsT cu ++ Ad.pathT ((ls.take k).map bsT) ++ bsT (⟨#[47]⟩ ++ ls[k])) := Lib.hid (by
        have h := pathT_succ (ls.map bsT) k (by simpa using hlt)
        rw [List.map_take, List.map_take, h, bsT_app, List.getElem_map, List.append_assoc]
        rfl)
      generalize ls[k] = x at *
      generalize bsT cu ++ Ad.pathT ((ls.take k).map bsT) = L at *
      go_wp2_with (go_at_call 208; refine (show Hid _ from ?_).out)
      refine Lib.hid ?_
      refine (wrstr_any _ _ _ _ _ HB.out (by simp only [ByteArray.size_append]; have : (⟨#[47]⟩ : ByteArray).size = 1 := rfl; omega) hsz).mono ?_
      rintro e w2 ⟨rfl, hb2, hx2⟩
      have hl2 : (L ++ bsT (⟨#[47]⟩ ++ x)).length ≤ 64 + 65 * (k + 1) := by
        rw [List.length_append, bsT_size, ByteArray.size_append]
        have : (⟨#[47]⟩ : ByteArray).size = 1 := rfl
        omega
      have HB2 := Lib.hid hb2
      have HX2 : Hid (Ext w w2) := Lib.hid (HX.out.grown hx2 (by omega))
      have HA2 := Lib.hid (HA.out.below hx2 (by omega))
      have hs2 : w.heap.size + 1 ≤ w2.heap.size := Nat.le_trans hsz hx2.size
      clear hb2 hx2 HB
      go_wp2
      go_roundw
      case rel => exact ⟨k + 1, by omega, by go_num, by rw [HN.out]; exact HB2, HX2, HA2, hs2, by rw [HN.out]; exact hl2⟩
      case measure => simp [intOf]; omega
    · have e : k = ls.length := by omega
      subst e
      rw [List.take_of_length_le (Nat.le_refl _)] at HB hln
      have a2 := HA.out.cell 2
      obtain ⟨L, hL⟩ : ∃ L, bsT cu ++ Ad.pathT (ls.map bsT) = L := ⟨_, rfl⟩
      have HT : Hid (Ad.textT ⟨bsT cu, ls.map bsT, qs.map prB⟩ = L ++ Ad.quT (qs.map prB)) := Lib.hid (by rw [← hL]; rfl)
      rw [hL] at HB hln
      clear hL
      have hsep : sepS 0 = ⟨#[63]⟩ := rfl
      go_wp2
      go_loopw [6, 26] (fun sp i wr => ∃ k : Nat, k ≤ qs.length ∧ sp = .string (sepS k) ∧ i = .int .i64 k ∧ Hid (Bld (w.heap.size + 1) (w.heap.size + 1) (L ++ Ad.quT ((qs.map prB).take k)) wr) ∧ Hid (Ext w wr) ∧ w.heap.size + 1 ≤ wr.heap.size ∧ (L ++ Ad.quT ((qs.map prB).take k)).length ≤ 2200 + 140 * k) (fun _ i _ => qs.length - (intOf i).toNat)
      case atStart => exact ⟨0, Nat.zero_le _, rfl, rfl, Lib.hid (by simpa [Ad.quT] using HB.out), HX, hsz, by simp [Ad.quT]; omega⟩
      case round =>
        obtain ⟨k, hk, rfl, rfl, HB', HX', hsz', hln'⟩ := hrel
        clear HB HX HA a2 hsz hln
        by_cases hlt : k < qs.length
        · obtain ⟨b, off, rfl, hb, d1, d2⟩ := ReadsPr.cell (HR2.out.ext HX'.out (Nat.le_refl _)) k hlt
          obtain ⟨hx1, hx2⟩ := H3.out _ (List.getElem_mem hlt)
          have HN : Hid (L ++ Ad.quT ((qs.map prB).take (k + 1)) = L ++ Ad.quT ((qs.map prB).take k) ++ bsT (sepS k ++ qs[k].1 ++ ⟨#[61]⟩ ++ qs[k].2)) := Lib.hid (by
            rw [quT_succ (qs.map prB) k (by simpa using hlt), List.getElem_map, bsT_app, bsT_app, bsT_app, sepS_bs]
            simp only [List.append_assoc, prB, Ad.pairT]
            rfl)
          generalize qs[k] = p at *
          obtain ⟨p1, p2⟩ := p
          simp only [] at d1 d2 hx1 hx2 HN
          have hsk := sepS_size k
          have hss := sepS_succ k
          generalize sepS k = sk at *
          generalize L ++ Ad.quT ((qs.map prB).take k) = LL at *
          go_wp2_with (go_at_call 208; refine (show Hid _ from ?_).out)
          refine Lib.hid ?_
          have hs1 : (⟨#[61]⟩ : ByteArray).size = 1 := rfl
          have hs3 : w.heap.size + 1 ≤ (wr.alloc (.cells #[.string p1, .string p2] 251)).heap.size := by rw [World.size_alloc]; omega
          refine (wrstr_any _ _ _ _ _ (isBuilder_ext HB'.out ((Ext.refl wr).alloc _)) (by simp only [ByteArray.size_append]; omega) hs3).mono ?_
          rintro e w2 ⟨rfl, hb2, hx3⟩
          have hl2 : (LL ++ bsT (sk ++ p1 ++ ⟨#[61]⟩ ++ p2)).length ≤ 2200 + 140 * (k + 1) := by
            rw [List.length_append, bsT_size]
            simp only [ByteArray.size_append]
            omega
          have HB2 := Lib.hid hb2
          have HX2 : Hid (Ext w w2) := Lib.hid ((HX'.out.alloc _).grown hx3 (by omega))
          have hs2 : w.heap.size + 1 ≤ w2.heap.size := Nat.le_trans hs3 hx3.size
          clear hb2 hx3 HB' hs3
          go_wp2
          go_roundw
          case rel => exact ⟨k + 1, by omega, by rw [hss], by go_num, by rw [HN.out]; exact HB2, HX2, hs2, by rw [HN.out]; exact hl2⟩
          case measure => simp [intOf]; omega
        · have e : k = qs.length := by omega
          subst e
          rw [List.take_of_length_le (by simp)] at HB'
          generalize sepS qs.length = sk
          clear hsep
          go_wp2_with (go_at_call 209; refine (bstr_any _ _ _ _ HB'.out hsz').mono ?_; rintro e w2 ⟨rfl, hx3⟩; have HX2 : Hid (Ext w w2) := Lib.hid (HX'.out.grown hx3 (by omega)); clear hx3)
          go_ret
          exact ⟨by rw [HT.out]; rfl, HX2.out⟩
end Go.Proofs.YtpfhmcdcmepfdaaGreatDoor


set_option linter.unusedVariables false
set_option linter.unusedSimpArgs false
namespace Go.Proofs.YtpfhmcdcmepfdaaGreatDoor
open Go.RowKit Go.Shelf
open Go.Proofs

theorem text1_any (s : ByteArray) (w : World) : Calls Tryz.prog 178 #[.string s] w fun e w' => e = .returned (.bool (!Tg.wordB (bsT s))) ∧ Ext w w' := by
  have H := Lib.hid (word_any s)
  go_enter Tryz.func178, Tryz.ntmps178
  go_wp2_with (go_at_call 179; refine (H.out _).mono ?_; rintro e w' ⟨rfl, hxl⟩; obtain ⟨xl, rfl⟩ := hxl.asLater; clear hxl)
  go_ret
  exact ⟨rfl, (by (repeat (first | with_reducible exact Ext.refl _ | with_reducible exact Ext.refl _ | with_reducible refine Ext.drew ?_ | with_reducible refine Ext.drewN ?_ _ | with_reducible refine Ext.alloc ?_ _ | with_reducible refine Ext.onto ?_ _ | (with_reducible refine Ext.setCells ?_ ?_ _ _; rotate_left; focus (first | omega | (simp; done) | (simp; omega))) | (with_reducible refine Ext.setCell ?_ ?_ _; rotate_left; focus (first | omega | (simp; done) | (simp; omega))))))⟩
theorem windex_any (A : Option Addr) (c : Nat) (ls : List ByteArray) (w : World) (hlen : ls.length ≤ 140737488355328) (hr : ReadsStr w w.heap.size A ls) (hw : ∀ x ∈ ls, Tg.wordB (bsT x) = true) :
    Calls Tryz.prog 204 #[.slice A ls.length c, .func (.func 178) #[] #[]] w fun e w' => e = .returned (.int .i64 (-1)) ∧ Ext w w' := by
  have HR := Lib.hid hr
  have HW := Lib.hid hw
  clear hr hw
  go_enter Tryz.func204, Tryz.ntmps204
  go_wp2
  go_loopw [8] (fun i wr => ∃ k : Nat, k ≤ ls.length ∧ i = .int .i64 k ∧ Ext w wr) (fun i _ => ls.length - (intOf i).toNat)
  case atStart => exact ⟨0, Nat.zero_le _, rfl, Ext.refl _⟩
  case round =>
    obtain ⟨k, hk, rfl, hx⟩ := hrel
    have HX := Lib.hid hx
    by_cases hlt : k < ls.length
    · obtain ⟨b, off, rfl, hb, c1⟩ := ReadsStr.cell (HR.out.on hx) k hlt
      have HT := Lib.hid (text1_any ls[k])
      rw [HW.out _ (List.getElem_mem hlt)] at HT
      generalize ls[k] = s at *
      clear hx
      go_wp2_with (go_at_call 178; refine (HT.out _).mono ?_; rintro e w' ⟨rfl, hxl⟩; obtain ⟨xl, rfl⟩ := hxl.asLater; clear hxl)
      go_roundw
      case rel => exact ⟨k + 1, by omega, by go_num, (by (repeat (first | with_reducible exact HX.out | with_reducible exact Ext.refl _ | with_reducible refine Ext.drew ?_ | with_reducible refine Ext.drewN ?_ _ | with_reducible refine Ext.alloc ?_ _ | with_reducible refine Ext.onto ?_ _ | (with_reducible refine Ext.setCells ?_ ?_ _ _; rotate_left; focus (first | omega | (simp; done) | (simp; omega))) | (with_reducible refine Ext.setCell ?_ ?_ _; rotate_left; focus (first | omega | (simp; done) | (simp; omega))))))⟩
      case measure => simp [intOf]; omega
    · go_wp2
      go_ret
      exact ⟨rfl, HX.out⟩
theorem wcont_any (A : Option Addr) (c : Nat) (ls : List ByteArray) (w : World) (hlen : ls.length ≤ 140737488355328) (hr : ReadsStr w w.heap.size A ls) (hw : ∀ x ∈ ls, Tg.wordB (bsT x) = true) :
    Calls Tryz.prog 177 #[.slice A ls.length c, .func (.func 178) #[] #[]] w fun e w' => e = .returned (.bool false) ∧ Ext w w' := by
  have H := Lib.hid (windex_any A c ls w hlen hr hw)
  clear hr hw
  go_enter Tryz.func177, Tryz.ntmps177
  go_wp2_with (go_at_call 204; refine H.out.mono ?_; rintro e w' ⟨rfl, hxl⟩; obtain ⟨xl, rfl⟩ := hxl.asLater; clear hxl)
  go_ret
  exact ⟨rfl, (by (repeat (first | with_reducible exact Ext.refl _ | with_reducible exact Ext.refl _ | with_reducible refine Ext.drew ?_ | with_reducible refine Ext.drewN ?_ _ | with_reducible refine Ext.alloc ?_ _ | with_reducible refine Ext.onto ?_ _ | (with_reducible refine Ext.setCells ?_ ?_ _ _; rotate_left; focus (first | omega | (simp; done) | (simp; omega))) | (with_reducible refine Ext.setCell ?_ ?_ _; rotate_left; focus (first | omega | (simp; done) | (simp; omega))))))⟩
def txE (a : Ad.Adr) : Int := if 4096 < (Ad.textT a).length then 1 else 0
def txS (a : Ad.Adr) : List UInt8 := if txE a = 0 then Ad.textT a else []
theorem word_size {s : ByteArray} (h : Tg.wordB (bsT s) = true) : s.size ≤ 64 := by
  simp only [Tg.wordB, Bool.and_eq_true, decide_eq_true_eq] at h
  have := h.1.1.1.2
  rwa [bsT_size] at this
theorem asc_at {qs : List PrB} (ha : Ad.AscP (qs.map prB)) (k : Nat) (h0 : 0 < k) (hk : k < qs.length) : bsT (qs[k - 1]'(by omega)).1 < bsT qs[k].1 := by
  have h := List.pairwise_iff_getElem.1 ha (k - 1) k (by simp; omega) (by simpa using hk) (by omega)
  simpa [prB] using h
set_option maxRecDepth 100000 in
set_option maxHeartbeats 4000000 in
theorem text_any (cu : ByteArray) (A : Option Addr) (c : Nat) (ls : List ByteArray) (A2 : Option Addr) (c2 : Nat) (qs : List PrB) (w : World) (hn : Tg.nameB (bsT cu) = true) (hw : ∀ x ∈ ls, Tg.wordB (bsT x) = true) (hg : ∀ p ∈ qs, Ad.goodP (prB p) = true) (ha : Ad.AscP (qs.map prB)) (hl : ls.length ≤ 32) (hq : qs.length ≤ 16)
    (hr : ReadsStr w w.heap.size A ls) (hr2 : ReadsPr w w.heap.size A2 qs) :
    Calls Tryz.prog 145 #[.agg #[.string cu, .slice A ls.length c, .slice A2 qs.length c2]] w fun e w' => e = .returned (.tuple #[.string ⟨(txS ⟨bsT cu, ls.map bsT, qs.map prB⟩).toArray⟩, .int .i64 (txE ⟨bsT cu, ls.map bsT, qs.map prB⟩)]) ∧ Ext w w' := by
  have HR := Lib.hid hr
  have HR2 := Lib.hid hr2
  have HC := Lib.hid (fun (W : World) (hx : Ext w W) => wcont_any A c ls W (by omega) (hr.on hx) hw)
  have HNm := Lib.hid (fun W => name_any cu W)
  have hn' : Tg.nameB cu.data.toList = true := hn
  rw [hn'] at HNm
  have HWr := Lib.hid (fun (W : World) (hx : Ext w W) => write_any cu A c ls A2 c2 qs W (name_size hn) (fun x hx => word_size (hw x hx)) (fun p hp => by
    have h := hg p hp
    simp only [Ad.goodP, Bool.and_eq_true] at h
    exact ⟨name_size h.1, word_size h.2⟩) hl hq (hr.on hx) (hr2.on hx))
  have HA := Lib.hid ha
  have HG := Lib.hid hg
  have HS : Hid (txS ⟨bsT cu, ls.map bsT, qs.map prB⟩ = if txE ⟨bsT cu, ls.map bsT, qs.map prB⟩ = 0 then Ad.textT ⟨bsT cu, ls.map bsT, qs.map prB⟩ else []) := Lib.hid rfl
  have HE : Hid (txE ⟨bsT cu, ls.map bsT, qs.map prB⟩ = if 4096 < (Ad.textT ⟨bsT cu, ls.map bsT, qs.map prB⟩).length then 1 else 0) := Lib.hid rfl
  generalize txS ⟨bsT cu, ls.map bsT, qs.map prB⟩ = tS at *
  generalize txE ⟨bsT cu, ls.map bsT, qs.map prB⟩ = tE at *
  generalize Ad.textT ⟨bsT cu, ls.map bsT, qs.map prB⟩ = tx at *
  have d1 : decide ((32 : Int) < (ls.length : Int)) = false := by simp; omega
  have d2 : decide ((16 : Int) < (qs.length : Int)) = false := by simp; omega
  clear hr hr2 hw hn hn' ha hg
  go_enter Tryz.func145, Tryz.ntmps145
  go_wp2_with (first
    | (go_at_call 176; refine (HNm.out _).mono ?_; rintro e w' ⟨rfl, hxl⟩; obtain ⟨xl, rfl⟩ := hxl.asLater; clear hxl)
    | (go_at_call 177; refine (HC.out _ (by (repeat (first | with_reducible exact Ext.refl _ | with_reducible exact Ext.refl _ | with_reducible refine Ext.drew ?_ | with_reducible refine Ext.drewN ?_ _ | with_reducible refine Ext.alloc ?_ _ | with_reducible refine Ext.onto ?_ _ | (with_reducible refine Ext.setCells ?_ ?_ _ _; rotate_left; focus (first | omega | (simp; done) | (simp; omega))) | (with_reducible refine Ext.setCell ?_ ?_ _; rotate_left; focus (first | omega | (simp; done) | (simp; omega))))))).mono ?_; rintro e w' ⟨rfl, hxk⟩; obtain ⟨xk, rfl⟩ := hxk.asLater; clear hxk))
  refine wp_world (fun W => Ext w W ∧ RowAt W w.heap.size #[.string cu, .slice A ls.length c, .slice A2 qs.length c2]) ⟨(by (repeat (first | with_reducible exact Ext.refl _ | with_reducible exact Ext.refl _ | with_reducible refine Ext.drew ?_ | with_reducible refine Ext.drewN ?_ _ | with_reducible refine Ext.alloc ?_ _ | with_reducible refine Ext.onto ?_ _ | (with_reducible refine Ext.setCells ?_ ?_ _ _; rotate_left; focus (first | omega | (simp; done) | (simp; omega))) | (with_reducible refine Ext.setCell ?_ ?_ _; rotate_left; focus (first | omega | (simp; done) | (simp; omega)))))), (by (repeat (first | with_reducible exact RowAt.new _ _ _ | with_reducible refine RowAt.drew ?_ | with_reducible refine RowAt.later ?_ _ | with_reducible exact RowAt.newAt (by first | rfl | omega | (simp [later_size, setCells_size]; done) | (simp [later_size, setCells_size]; omega)) | with_reducible refine RowAt.alloc ?_ _ | with_reducible apply RowAt.store | with_reducible refine RowAt.others ?_ ?_ _ _ | with_reducible refine RowAt.other ?_ ?_ _)); all_goals first | omega | (simp; done) | (simp; omega) | (simp [go_sem]; done))⟩ ?_
  rintro W1 ⟨x1, r1⟩
  have HX1 := Lib.hid x1
  have HR1 := Lib.hid r1
  clear x1 r1 HC HNm
  have HNm := Lib.hid (fun (s : ByteArray) (h : Tg.nameB (bsT s) = true) W => (by have k := name_any s W; rw [show Tg.nameB s.data.toList = true from h] at k; exact k : Calls Tryz.prog 176 #[.string s] W fun e w' => e = .returned (.bool true) ∧ Ext W w'))
  have HWd := Lib.hid (fun (s : ByteArray) (h : Tg.wordB (bsT s) = true) W => (by have k := word_any s W; rw [show Tg.wordB s.data.toList = true from h] at k; exact k : Calls Tryz.prog 179 #[.string s] W fun e w' => e = .returned (.bool true) ∧ Ext W w'))
  go_loopw [31] (fun i wr => ∃ k : Nat, k ≤ qs.length ∧ i = .int .i64 k ∧ Hid (Ext w wr) ∧ Hid (RowAt wr w.heap.size #[.string cu, .slice A ls.length c, .slice A2 qs.length c2])) (fun i _ => qs.length - (intOf i).toNat)
  case atStart => exact ⟨0, Nat.zero_le _, rfl, HX1, HR1⟩
  case round =>
    obtain ⟨k, hk, rfl, HX, HRw⟩ := hrel
    clear HX1 HR1
    have hlt0 := HRw.out.lt
    have hsz := HX.out.size
    have q0 : wr.cell? ⟨w.heap.size, 0, none⟩ = some (.string cu) := HRw.out.cell 0
    have q1 : wr.cell? ⟨w.heap.size, 1, none⟩ = some (.slice A ls.length c) := HRw.out.cell 1
    have q2 : wr.cell? ⟨w.heap.size, 2, none⟩ = some (.slice A2 qs.length c2) := HRw.out.cell 2
    by_cases hlt : k < qs.length
    · obtain ⟨b, off, rfl, hb, d3, d4⟩ := ReadsPr.cell (HR2.out.ext HX.out (Nat.le_refl _)) k hlt
      have hb2 : b < wr.heap.size := by omega
      have hgd := HG.out _ (List.getElem_mem hlt)
      simp only [Ad.goodP, Bool.and_eq_true] at hgd
      have hN1 := HNm.out qs[k].1 hgd.1
      have hW1 := HWd.out qs[k].2 hgd.2
      have HN1 := Lib.hid hN1
      have HW1 := Lib.hid hW1
      clear hgd hN1 hW1
      by_cases k0 : 0 < k
      · obtain ⟨b', off', e1, _, d5, _⟩ := ReadsPr.cell (HR2.out.ext HX.out (Nat.le_refl _)) (k - 1) (by omega)
        injection e1 with e1
        injection e1 with e1 e2
        subst e1 e2
        have hasc := asc_at HA.out k k0 hlt
        have HLE := Lib.hid (le_walk qs[k].1 (qs[k - 1]'(by omega)).1)
        generalize (qs[k - 1]'(by omega)).1 = pk at *
        generalize qs[k] = p at *
        obtain ⟨p1, p2⟩ := p
        simp only [] at d3 d4 HN1 HW1 HLE hasc
        have hle : (Op.bytesLess p1.toList pk.toList || p1.toList == pk.toList) = false := by
          rw [HLE.out, decide_eq_false_iff_not]
          exact fun h => List.not_lt.2 h hasc
        have z0 : decide (0 < k) = true := by simpa using k0
        have z1 : decide ((0 : Int) < (k : Int)) = true := by simp; omega
        clear hasc HLE
        go_wp2
        refine wp_region_later (by kernel_rfl) (by kernel_rfl) ?_
        repeat (first | go_big_quiet_step ((first | (go_at_call 176; exact quietE (HN1.out _)) | (go_at_call 179; exact quietE (HW1.out _)))) | quiet_step ((first | (go_at_call 176; exact quietE (HN1.out _)) | (go_at_call 179; exact quietE (HW1.out _)))))
        refine wpQuiet_nil ?_
        rintro _ ⟨xq, rfl⟩
        go_wp2
        go_roundw
        case rel => exact ⟨k + 1, by omega, by go_num, Lib.hid (by (repeat (first | with_reducible exact HX.out | with_reducible exact Ext.refl _ | with_reducible refine Ext.drew ?_ | with_reducible refine Ext.drewN ?_ _ | with_reducible refine Ext.alloc ?_ _ | with_reducible refine Ext.onto ?_ _ | (with_reducible refine Ext.setCells ?_ ?_ _ _; rotate_left; focus (first | omega | (simp; done) | (simp; omega))) | (with_reducible refine Ext.setCell ?_ ?_ _; rotate_left; focus (first | omega | (simp; done) | (simp; omega)))))), Lib.hid (by (repeat (first | with_reducible exact HRw.out | with_reducible refine RowAt.drew ?_ | with_reducible refine RowAt.later ?_ _ | with_reducible exact RowAt.newAt (by first | rfl | omega | (simp [later_size, setCells_size]; done) | (simp [later_size, setCells_size]; omega)) | with_reducible refine RowAt.alloc ?_ _ | with_reducible apply RowAt.store | with_reducible refine RowAt.others ?_ ?_ _ _ | with_reducible refine RowAt.other ?_ ?_ _)); all_goals first | omega | (simp; done) | (simp; omega) | (simp [go_sem]; done))⟩
        case measure => simp [intOf]; omega
      · have z0 : decide (0 < k) = false := by simpa using k0
        have z1 : decide ((0 : Int) < (k : Int)) = false := by simp; omega
        generalize qs[k] = p at *
        obtain ⟨p1, p2⟩ := p
        simp only [] at d3 d4 HN1 HW1
        go_wp2
        refine wp_region_later (by kernel_rfl) (by kernel_rfl) ?_
        repeat (first | go_big_quiet_step ((first | (go_at_call 176; exact quietE (HN1.out _)) | (go_at_call 179; exact quietE (HW1.out _)))) | quiet_step ((first | (go_at_call 176; exact quietE (HN1.out _)) | (go_at_call 179; exact quietE (HW1.out _)))))
        refine wpQuiet_nil ?_
        rintro _ ⟨xq, rfl⟩
        go_wp2
        go_roundw
        case rel => exact ⟨k + 1, by omega, by go_num, Lib.hid (by (repeat (first | with_reducible exact HX.out | with_reducible exact Ext.refl _ | with_reducible refine Ext.drew ?_ | with_reducible refine Ext.drewN ?_ _ | with_reducible refine Ext.alloc ?_ _ | with_reducible refine Ext.onto ?_ _ | (with_reducible refine Ext.setCells ?_ ?_ _ _; rotate_left; focus (first | omega | (simp; done) | (simp; omega))) | (with_reducible refine Ext.setCell ?_ ?_ _; rotate_left; focus (first | omega | (simp; done) | (simp; omega)))))), Lib.hid (by (repeat (first | with_reducible exact HRw.out | with_reducible refine RowAt.drew ?_ | with_reducible refine RowAt.later ?_ _ | with_reducible exact RowAt.newAt (by first | rfl | omega | (simp [later_size, setCells_size]; done) | (simp [later_size, setCells_size]; omega)) | with_reducible refine RowAt.alloc ?_ _ | with_reducible apply RowAt.store | with_reducible refine RowAt.others ?_ ?_ _ _ | with_reducible refine RowAt.other ?_ ?_ _)); all_goals first | omega | (simp; done) | (simp; omega) | (simp [go_sem]; done))⟩
        case measure => simp [intOf]; omega
    · clear HNm HWd HG HA
      have hz : ((⟨tx.toArray⟩ : ByteArray)).size = tx.length := by simp [ByteArray.size]
      by_cases h4 : 4096 < tx.length
      · have h5 : tE = 1 := by rw [HE.out, if_pos h4]
        have h6 : tS = [] := by rw [HS.out, h5]; rfl
        subst h5 h6
        clear HE HS
        go_wp2_with (go_at_call 180; refine (HWr.out _ HX.out).mono ?_; rintro e w' ⟨rfl, hxl⟩; obtain ⟨xl, rfl⟩ := hxl.asLater; clear hxl)
        go_wp2
        refine bodyPost_ret (v := .tuple #[.string ⟨([] : List UInt8).toArray⟩, .int .i64 1]) ?_ rfl ⟨rfl, (by (repeat (first | with_reducible exact HX.out | with_reducible exact Ext.refl _ | with_reducible refine Ext.drew ?_ | with_reducible refine Ext.drewN ?_ _ | with_reducible refine Ext.alloc ?_ _ | with_reducible refine Ext.onto ?_ _ | (with_reducible refine Ext.setCells ?_ ?_ _ _; rotate_left; focus (first | omega | (simp; done) | (simp; omega))) | (with_reducible refine Ext.setCell ?_ ?_ _; rotate_left; focus (first | omega | (simp; done) | (simp; omega))))))⟩
        simp [results, Tryz.results145, go_sem, ↓IntWalk.iteOmega]
      · have h5 : tE = 0 := by rw [HE.out, if_neg h4]
        have h6 : tS = tx := by rw [HS.out, h5]; rfl
        subst h5 h6
        clear HE HS
        go_wp2_with (go_at_call 180; refine (HWr.out _ HX.out).mono ?_; rintro e w' ⟨rfl, hxl⟩; obtain ⟨xl, rfl⟩ := hxl.asLater; clear hxl)
        go_wp2
        refine bodyPost_ret (v := .tuple #[.string ⟨tS.toArray⟩, .int .i64 0]) ?_ rfl ⟨rfl, (by (repeat (first | with_reducible exact HX.out | with_reducible exact Ext.refl _ | with_reducible refine Ext.drew ?_ | with_reducible refine Ext.drewN ?_ _ | with_reducible refine Ext.alloc ?_ _ | with_reducible refine Ext.onto ?_ _ | (with_reducible refine Ext.setCells ?_ ?_ _ _; rotate_left; focus (first | omega | (simp; done) | (simp; omega))) | (with_reducible refine Ext.setCell ?_ ?_ _; rotate_left; focus (first | omega | (simp; done) | (simp; omega))))))⟩
        simp [results, Tryz.results145, go_sem, ↓IntWalk.iteOmega]
end Go.Proofs.YtpfhmcdcmepfdaaGreatDoor


set_option linter.unusedVariables false
set_option linter.unusedSimpArgs false
namespace Go.Proofs.YtpfhmcdcmepfdaaGreatDoor
open Go.RowKit Go.Shelf
open Go.Proofs

section
attribute [local go_sem] Oper.semAt_some
set_option maxRecDepth 100000 in
set_option maxHeartbeats 2000000 in
theorem resolve_none (w : World) :
    Calls Tryz.prog 174 #[.func (.func 173) #[] #[]] w fun e w' => e = .returned (.tuple #[.slice none 0 0, .bool true]) ∧ Ext w w' := by
  refine (callsIn_wide (n := 4)).1 ?_
  refine callsIn_of_wp_marks Tryz.func174 rfl trivial ?_ rfl
  simp only [Tryz.ntmps174, List.size_toArray, List.length_cons, List.length_nil, Nat.reduceAdd, Nat.reduceSub, Array.replicate_succ, Array.replicate_zero, List.push_toArray, List.append_toArray, List.nil_append, List.cons_append]
  gi_wp2
  have b1 : Boxed (((w.alloc (.cells #[.slice none 0 0] 34)).alloc (.cells #[.bool false] 4)).alloc (.cells #[.slice none 0 0] 34)) w.heap.size 34 (.slice none 0 0) := ((Boxed.new w 34 _).alloc _).alloc _
  have b2 : Boxed (((w.alloc (.cells #[.slice none 0 0] 34)).alloc (.cells #[.bool false] 4)).alloc (.cells #[.slice none 0 0] 34)) (w.heap.size + 1) 4 (.bool false) := by
    have := Boxed.new (w.alloc (.cells #[.slice none 0 0] 34)) 4 (.bool false); rw [World.size_alloc] at this; exact this.alloc _
  have b3 : Boxed (((w.alloc (.cells #[.slice none 0 0] 34)).alloc (.cells #[.bool false] 4)).alloc (.cells #[.slice none 0 0] 34)) (w.heap.size + 1 + 1) 34 (.slice none 0 0) := by
    have := Boxed.new ((w.alloc (.cells #[.slice none 0 0] 34)).alloc (.cells #[.bool false] 4)) 34 (.slice none 0 0); rw [World.size_alloc, World.size_alloc] at this; exact this
  have bs0 : (((w.alloc (.cells #[.slice none 0 0] 34)).alloc (.cells #[.bool false] 4)).alloc (.cells #[.slice none 0 0] 34)).heap.size = w.heap.size + 3 := by simp
  have bx : Ext w (((w.alloc (.cells #[.slice none 0 0] 34)).alloc (.cells #[.bool false] 4)).alloc (.cells #[.slice none 0 0] 34)) := (((Ext.refl _).alloc _).alloc _).alloc _
  generalize (((w.alloc (.cells #[.slice none 0 0] 34)).alloc (.cells #[.bool false] 4)).alloc (.cells #[.slice none 0 0] 34)) = W0 at b1 b2 b3 bs0 bx ⊢
  have hbs1 := Nat.le_of_eq bs0
  have hbs2 := Nat.le_of_eq bs0.symm
  clear bs0
  refine rf_enter2 rfl (by omega) (gf := 173) (lb := #[]) rfl trivial (enters_of Tryz.func173 (by kernel_rfl) rfl) ?_
  intro fn WL rdy hfn hrdy hE hEs hl0 hD0
  have hEa := Nat.le_of_eq hEs
  have hEb := Nat.le_of_eq hEs.symm
  clear hEs hrdy
  have hP : CallsIn Fence.wide (4 - 1) Tryz.prog 173 #[.func (.yield (W0.heap.size + 1)) #[] #[]] WL fun e W' => (∃ v, e = .returned v) ∧ W' = WL := by
    refine callsIn_of_wp Tryz.func173 rfl trivial ?_ rfl
    simp only [Tryz.ntmps173, List.size_toArray, List.length_cons, List.length_nil, Nat.reduceAdd, Nat.reduceSub, Array.replicate_succ, Array.replicate_zero, List.push_toArray, List.append_toArray, List.nil_append, List.cons_append]
    gi_wp2
    go_end0
    exact ⟨⟨_, rfl⟩, rfl⟩
  refine CallsIn.mono hP ?_
  rintro e W' ⟨⟨v', rfl⟩, rfl⟩
  refine ⟨⟨_, rfl⟩, .inl ⟨hl0, ?_⟩⟩
  intro W'' hBut
  have HK : Hid (W''.heap[W0.heap.size]? = some (.deferred (some []))) := Lib.hid ((hBut.block _ (by omega) (fun e => by injection e; omega)).trans hD0)
  have hc := (boxed_but (Boxed.ext b3 hE) hBut (by omega)).cell
  have hq2 := boxed_but (Boxed.ext b1 hE) hBut (by omega)
  have hq3 := boxed_but (Boxed.ext b2 hE) hBut (by omega)
  have k2 := hq2.cell
  have k2f := hq2.frozen
  have k3 := hq3.cell
  have k3f := hq3.frozen
  have HQ2 := Lib.hid hq2
  have HQ3 := Lib.hid hq3
  have HBu : Hid (ButS (fun k => w.heap.size ≤ k) w W'') := Lib.hid ((ButS.of_ext (bx.trans hE)).trans (ButS.of_but hBut (.inr (by omega))))
  clear hBut hq2 hq3 hD0 hl0 b1 b2 b3 hP
  gi_wp2
  have hK2 : ((W''.setCell ⟨w.heap.size, 0, none⟩ (.slice none 0 0)).setCell ⟨w.heap.size + 1, 0, none⟩ (.bool true)).heap[W0.heap.size]? = some (.deferred (some [])) := (Below.heap_setCell _ _ _ _ (by show _ ≠ w.heap.size + 1; omega)).trans ((Below.heap_setCell _ _ _ _ (by show _ ≠ w.heap.size; omega)).trans HK.out)
  refine ⟨by simp, .inl ⟨_, _, rfl, run_takeDeferred hK2, ?_⟩⟩
  have hgb := grownBy_putObj' ((W''.setCell ⟨w.heap.size, 0, none⟩ (.slice none 0 0)).setCell ⟨w.heap.size + 1, 0, none⟩ (.bool true)) W0.heap.size (.deferred none)
  refine ⟨.tuple #[.slice none 0 0, .bool true], results_two Tryz.results174 ⟨_, rfl, load_strs (boxed_but ((HQ2.out.set _).other (by omega) _) hgb (by omega))⟩ ⟨_, rfl, load_bool (boxed_but ((HQ3.out.other (by omega) _).set _) hgb (by omega))⟩, rfl, ?_⟩
  have h1 : ButS (fun k => w.heap.size ≤ k) w ((W''.setCell ⟨w.heap.size, 0, none⟩ (.slice none 0 0)).setCell ⟨w.heap.size + 1, 0, none⟩ (.bool true)) := (HBu.out.setCell (p := ⟨w.heap.size, 0, none⟩) (.inl (Nat.le_refl _)) _).setCell (p := ⟨w.heap.size + 1, 0, none⟩) (.inl (by show _ ≤ w.heap.size + 1; omega)) _
  exact (h1.trans (ButS.of_but hgb (.inr (by omega)))).toExt (fun k hk => by omega)
end
/-- What resolve answers, in one form. -/
def RslU (o : Option (List (List UInt8))) (base : Nat) (e : Ending) (w' : World) : Prop :=
  ∃ (A : Option Addr) (c : Nat) (ls : List ByteArray) (one : Bool), e = .returned (.tuple #[.slice A ls.length c, .bool one]) ∧ one = o.isSome ∧ ls.map bsT = o.getD [] ∧ OwnsStr base w' A c ls
theorem RslIs.uni {o : Option (List (List UInt8))} {base : Nat} {e : Ending} {w' : World} (h : RslIs o base e w') : RslU o base e w' := by
  cases o with
  | none => exact ⟨none, 0, [], false, h, rfl, rfl, Owns.nil _ _ _ _ _⟩
  | some out =>
    obtain ⟨A, c, ls, h1, h2, h3⟩ := h
    exact ⟨A, c, ls, true, h1, rfl, h2, h3⟩
def PrsU (o : Option (List Ad.Pr)) (base : Nat) (e : Ending) (w' : World) : Prop :=
  ∃ (A : Option Addr) (c : Nat) (qs : List PrB) (two : Bool), e = .returned (.tuple #[.slice A qs.length c, .bool two]) ∧ two = o.isSome ∧ qs.map prB = o.getD [] ∧ OwnsPr base w' A c qs
def AdrAt (base : Nat) (a : Ad.Adr) (v : Value) (w : World) : Prop :=
  ∃ (cu : ByteArray) (A : Option Addr) (c : Nat) (ls : List ByteArray) (A2 : Option Addr) (c2 : Nat) (qs : List PrB), v = .agg #[.string cu, .slice A ls.length c, .slice A2 qs.length c2] ∧ (⟨bsT cu, ls.map bsT, qs.map prB⟩ : Ad.Adr) = a ∧ OwnsStr base w A c ls ∧ OwnsPr base w A2 c2 qs
theorem RslU.lower {o : Option (List (List UInt8))} {b b2 : Nat} {e : Ending} {w' : World} (h : RslU o b e w') (hb : b2 ≤ b) : RslU o b2 e w' := by
  obtain ⟨A, c, ls, one, h1, h2, h3, h4⟩ := h
  exact ⟨A, c, ls, one, h1, h2, h3, h4.lower hb⟩
section
variable {base b2 : Nat} {a : Ad.Adr} {v : Value} {w w' : World}
theorem AdrAt.ext (h : AdrAt base a v w) (hx : Ext w w') : AdrAt base a v w' := by
  obtain ⟨cu, A, c, ls, A2, c2, qs, h1, h2, h3, h4⟩ := h
  exact ⟨cu, A, c, ls, A2, c2, qs, h1, h2, h3.ext hx, h4.ext hx⟩
theorem AdrAt.lower (h : AdrAt base a v w) (hb : b2 ≤ base) : AdrAt b2 a v w := by
  obtain ⟨cu, A, c, ls, A2, c2, qs, h1, h2, h3, h4⟩ := h
  exact ⟨cu, A, c, ls, A2, c2, qs, h1, h2, h3.lower hb, h4.lower hb⟩
theorem AdrAt.others (h : AdrAt base a v w) {m : Nat} (hm : m < base) (o : Nat) (vs : List Value) : AdrAt base a v (w.setCells m o vs) := by
  obtain ⟨cu, A, c, ls, A2, c2, qs, h1, h2, h3, h4⟩ := h
  exact ⟨cu, A, c, ls, A2, c2, qs, h1, h2, h3.others hm o vs, h4.others hm o vs⟩
end
theorem adr_ty : RowTy Tryz.prog 212 3 := ⟨by kernel_rfl, by kernel_rfl⟩
theorem adr_ld (w : World) (b o : Nat) : (rowLoad 212 3 (.pointer (some ⟨b, o, none⟩))).run Tryz.prog w = rowLoadR Tryz.prog w 212 3 b o (rowOf w b o 3) := run_rowLoad adr_ty w b o
theorem adr_st (w : World) (b o : Nat) (cells : Array Value) : (rowStore 212 3 (.pointer (some ⟨b, o, none⟩)) (.agg cells)).run Tryz.prog w = rowStoreR Tryz.prog w 212 3 b o cells (roomOf w b o 3 && fitsRow 3 cells) := run_rowStore adr_ty w b o cells
theorem adr_lv (w : World) (b o : Nat) : (loadVar 212 ⟨b, o, none⟩).run Tryz.prog w = varRes Tryz.prog w 212 b o (rowOf w b o 3) := loadVar_row adr_ty w b o
theorem adr_al (w : World) : (rowAlloc 212).run Tryz.prog w = .ok (.value (.pointer (some ⟨w.heap.size, 0, none⟩))) (w.alloc (.cells (#[.string ByteArray.empty, .slice none 0 0, .slice none 0 0]) 212)) := run_rowAlloc (by kernel_rfl) w
theorem adr_xl (ρ : Operand → Value) (dst : Option Tmp) (x : Operand) (t : TypeId) (pos : String) (after : Array Edge) (guard : Option (Nat × Bool)) : execOp ρ { dst, op := .load 212 x, type := t, pos, after, guard } = rowLoad 212 3 (ρ x) := rfl
theorem adr_xs (ρ : Operand → Value) (dst : Option Tmp) (x y : Operand) (t : TypeId) (pos : String) (after : Array Edge) (guard : Option (Nat × Bool)) : execOp ρ { dst, op := .store 212 x y, type := t, pos, after, guard } = rowStore 212 3 (ρ x) (ρ y) := rfl
theorem adr_xa (ρ : Operand → Value) (dst : Option Tmp) (t : TypeId) (pos : String) (after : Array Edge) (guard : Option (Nat × Bool)) : execOp ρ { dst, op := .alloc 212, type := t, pos, after, guard } = rowAlloc 212 := rfl
attribute [go_sem ↓] adr_xl adr_xs adr_xa
attribute [go_sem] adr_ld adr_st adr_al
theorem load_prs {w : World} {b : Nat} {v : Value} (h : Boxed w b 210 v) : (loadVar 210 ⟨b, 0, none⟩).run Tryz.prog w = .ok v w := by
  have h1 := h.cell
  simp [loadVar, go_sem, h1]
theorem pairs_none (s : ByteArray) (w : World) (h : bsT s = []) : Calls Tryz.prog 175 #[.string s] w fun e w' => PrsU (Ad.quN (bsT s)) w.heap.size e w' ∧ Ext w w' := by
  have hs0 : (s.toList == []) = true := by rw [Lib.toList_data]; rw [show s.data.toList = [] from h]; rfl
  have hs1 : s.toList.isEmpty = true := by rw [Lib.toList_data]; rw [show s.data.toList = [] from h]; rfl
  have HQ : Hid (Ad.quN (bsT s) = some []) := Lib.hid (by rw [h]; rfl)
  clear h
  go_enter Tryz.func175, Tryz.ntmps175
  go_wp2
  have b1 : Boxed ((w.alloc (.cells #[.slice none 0 0] 210)).alloc (.cells #[.bool true] 4)) w.heap.size 210 (.slice none 0 0) := (Boxed.new w 210 _).alloc _
  have b2 : Boxed ((w.alloc (.cells #[.slice none 0 0] 210)).alloc (.cells #[.bool true] 4)) (w.heap.size + 1) 4 (.bool true) := by
    have := Boxed.new (w.alloc (.cells #[.slice none 0 0] 210)) 4 (.bool true); rw [World.size_alloc] at this; exact this
  exact post_two (v1 := .slice none 0 0) (v2 := .bool true) Tryz.results175 rfl ⟨_, rfl, load_prs b1⟩ ⟨_, rfl, load_bool b2⟩ ⟨⟨none, 0, [], true, rfl, by rw [HQ.out]; rfl, by rw [HQ.out]; rfl, Owns.nil _ _ _ _ _⟩, (by (repeat (first | with_reducible exact Ext.refl _ | with_reducible exact Ext.refl _ | with_reducible refine Ext.drew ?_ | with_reducible refine Ext.drewN ?_ _ | with_reducible refine Ext.alloc ?_ _ | with_reducible refine Ext.onto ?_ _ | (with_reducible refine Ext.setCells ?_ ?_ _ _; rotate_left; focus (first | omega | (simp; done) | (simp; omega))) | (with_reducible refine Ext.setCell ?_ ?_ _; rotate_left; focus (first | omega | (simp; done) | (simp; omega))))))⟩
theorem trim_any (s : ByteArray) (w : World) (hs : s.size ≤ 900000) : Calls Tryz.prog 171 #[.string s, .string ⟨#[47]⟩] w fun e w' => e = .returned (.string ⟨(Ad.trim1 (bsT s)).toArray⟩) ∧ w' = w :=
  Any.strings_TrimSuffix Tryz.trimSuffix s ⟨#[47]⟩ w (by omega)
theorem adr_loaded {w : World} {b : Nat} {cs : Array Value} (h : rowOf w b 0 3 = some cs) : (loadVar 212 ⟨b, 0, none⟩).run Tryz.prog w = .ok (.agg cs) w := run_loadVar_row adr_ty h
theorem adr_fits (cu : ByteArray) (A : Option Addr) (n c : Nat) (A2 : Option Addr) (n2 c2 : Nat) : fitsRow 3 #[.string cu, .slice A n c, .slice A2 n2 c2] = true := by kernel_rfl
attribute [local go_sem] adr_fits
theorem bsT_mk (l : List UInt8) : bsT ⟨l.toArray⟩ = l := rfl
theorem adr_none (base : Nat) (w : World) : AdrAt base Ad.noAdr (.agg #[.string ⟨#[]⟩, .slice none 0 0, .slice none 0 0]) w := ⟨⟨#[]⟩, none, 0, [], none, 0, [], rfl, rfl, Owns.nil _ _ _ _ _, Owns.nil _ _ _ _ _⟩
set_option maxRecDepth 100000 in
set_option maxHeartbeats 4000000 in
theorem parse_any (s : ByteArray) (w : World) (hs : s.size ≤ 900000) (hp : ∀ (q : ByteArray) W, bsT q = (Ad.headN (bsT s)).2.1 → q.size ≤ 4096 → Ext w W → Calls Tryz.prog 175 #[.string q] W fun e w' => PrsU (Ad.quN (bsT q)) W.heap.size e w' ∧ Ext W w') :
    Calls Tryz.prog 144 #[.string s] w fun e w' => ∃ v, e = .returned (.tuple #[v, .int .i64 (Ad.parseE (bsT s))]) ∧ AdrAt w.heap.size (Ad.parseA (bsT s)) v w' ∧ Ext w w' := by
  have hz := bsT_size s
  by_cases h4 : 4096 < s.size
  · have HE : Hid (Ad.parseE (bsT s) = 2) := Lib.hid (by unfold Ad.parseE; rw [hz, if_pos h4])
    have HA : Hid (Ad.parseA (bsT s) = Ad.noAdr) := Lib.hid (by unfold Ad.parseA; rw [HE.out]; rfl)
    clear hp hz
    go_enter Tryz.func144, Tryz.ntmps144
    go_wp2
    rw [HE.out, HA.out]
    exact post_two (v1 := .agg #[.string ⟨#[]⟩, .slice none 0 0, .slice none 0 0]) (v2 := .int .i64 2) Tryz.results144 rfl ⟨_, rfl, adr_loaded ((RowAt.store (RowAt.new _ _ _) rfl).all rfl (by omega))⟩ rfl ⟨_, rfl, adr_none _ _, (by (repeat (first | with_reducible exact Ext.refl _ | with_reducible exact Ext.refl _ | with_reducible refine Ext.drew ?_ | with_reducible refine Ext.drewN ?_ _ | with_reducible refine Ext.alloc ?_ _ | with_reducible refine Ext.onto ?_ _ | (with_reducible refine Ext.setCells ?_ ?_ _ _; rotate_left; focus (first | omega | (simp; done) | (simp; omega))) | (with_reducible refine Ext.setCell ?_ ?_ _; rotate_left; focus (first | omega | (simp; done) | (simp; omega))))))⟩
  · have HE : Hid (Ad.parseE (bsT s) = if Tg.nameB (Ad.leftN (bsT s)).1 = true ∧ (Ad.pathN (bsT s)).isSome = true ∧ (Ad.quN (Ad.headN (bsT s)).2.1).isSome = true then (if 32 < ((Ad.pathN (bsT s)).getD []).length ∨ 16 < ((Ad.quN (Ad.headN (bsT s)).2.1).getD []).length then 2 else 0) else 3) := Lib.hid (by unfold Ad.parseE; rw [hz, if_neg h4])
    have HA : Hid (Ad.parseA (bsT s) = if Ad.parseE (bsT s) = 0 then ⟨(Ad.leftN (bsT s)).1, (Ad.pathN (bsT s)).getD [], (Ad.quN (Ad.headN (bsT s)).2.1).getD []⟩ else Ad.noAdr) := Lib.hid rfl
    have HPr := Lib.hid hp
    clear hp
    generalize Ad.parseA (bsT s) = PA at *
    generalize Ad.parseE (bsT s) = PE at *
    go_enter Tryz.func144, Tryz.ntmps144
    go_wp2_with (first
      | (go_at_call 170; refine (lower_any s _ hs).mono ?_; rintro e w' ⟨⟨t, rfl, hlo, hlt⟩, hxl⟩; obtain ⟨xl, rfl⟩ := hxl.asLater; clear hxl; have HLo := Lib.hid hlo; clear hlo)
      | (go_at_call 154; refine (show Hid _ from ?_).out))
    refine Lib.hid ?_
    refine (scut_any t 63 _ (by omega)).mono ?_
    rintro e w' ⟨⟨a, b, fq, rfl, hcut, hla, hlb⟩, hxl⟩
    obtain ⟨x2, rfl⟩ := hxl.asLater
    have HC1 := Lib.hid hcut
    clear hxl hcut
    go_wp2_with (first
      | (go_at_call 171; refine (trim_any a _ (by omega)).mono ?_; rintro e w' ⟨rfl, rfl⟩)
      | (go_at_call 154; refine (show Hid _ from ?_).out))
    refine Lib.hid ?_
    have htl : (⟨(Ad.trim1 (bsT a)).toArray⟩ : ByteArray).size ≤ a.size := by
      rw [← bsT_size, bsT_mk]
      have := Ad.trim1_len (bsT a)
      rwa [bsT_size] at this
    have HTr : Hid (bsT ⟨(Ad.trim1 (bsT a)).toArray⟩ = Ad.trim1 (bsT a)) := Lib.hid (bsT_mk _)
    generalize (⟨(Ad.trim1 (bsT a)).toArray⟩ : ByteArray) = tr at *
    refine (scut_any tr 47 _ (by omega)).mono ?_
    rintro e w' ⟨⟨cu, rs, more, rfl, hcut, hlc, hlr⟩, hxl⟩
    obtain ⟨x3, rfl⟩ := hxl.asLater
    have HC2 := Lib.hid hcut
    clear hxl hcut
    have HHd : Hid (Ad.headN (bsT s) = (bsT a, bsT b, fq)) := Lib.hid (by unfold Ad.headN; rw [HC1.out]; exact congrArg _ HLo.out.symm)
    have HLf : Hid (Ad.leftN (bsT s) = (bsT cu, bsT rs, more)) := Lib.hid (by unfold Ad.leftN; rw [HHd.out, HC2.out, HTr.out])
    have HPt : Hid (Ad.pathN (bsT s) = if more = true then Ad.resAll (Ad.pieces 47 (bsT rs)) else some []) := Lib.hid (by unfold Ad.pathN; rw [HLf.out])
    rw [HLf.out, HHd.out] at HE HA
    have HPq := Lib.hid (fun (W : World) (hx : Ext w W) => HPr.out b W (by rw [HHd.out]) (by omega) hx)
    clear HPr HC1 HC2 HLo HTr HHd HLf
    generalize Ad.pathN (bsT s) = pth at *
    generalize Ad.quN (bsT b) = qry at *
    have hrs : rs.size ≤ 4096 := by omega
    clear htl hla hlc hlr
    go_upto_region 5 with (fail)
    refine wp_world (fun W => Ext w W ∧ RowAt W w.heap.size #[.string ByteArray.empty, .slice none 0 0, .slice none 0 0]) ⟨(by (repeat (first | with_reducible exact Ext.refl _ | with_reducible exact Ext.refl _ | with_reducible refine Ext.drew ?_ | with_reducible refine Ext.drewN ?_ _ | with_reducible refine Ext.alloc ?_ _ | with_reducible refine Ext.onto ?_ _ | (with_reducible refine Ext.setCells ?_ ?_ _ _; rotate_left; focus (first | omega | (simp; done) | (simp; omega))) | (with_reducible refine Ext.setCell ?_ ?_ _; rotate_left; focus (first | omega | (simp; done) | (simp; omega)))))), (by (repeat (first | with_reducible exact RowAt.new _ _ _ | with_reducible refine RowAt.drew ?_ | with_reducible refine RowAt.later ?_ _ | with_reducible exact RowAt.newAt (by first | rfl | omega | (simp [later_size, setCells_size]; done) | (simp [later_size, setCells_size]; omega)) | with_reducible refine RowAt.alloc ?_ _ | with_reducible apply RowAt.store | with_reducible refine RowAt.others ?_ ?_ _ _ | with_reducible refine RowAt.other ?_ ?_ _)); all_goals first | omega | (simp; done) | (simp; omega) | (simp [go_sem]; done))⟩ ?_
    rintro W1 ⟨x1, r1⟩
    have HX1 := Lib.hid x1
    have HR1 := Lib.hid r1
    clear x1 r1
    cases more with
    | true =>
      go_wp2_with (first
        | (go_at_call 172; refine (splitSeq_any rs 47 _).mono ?_; rintro e w' ⟨rfl, rfl⟩)
        | (go_at_call 174; refine (show Hid _ from ?_).out))
      refine Lib.hid ?_
      have hxz : Ext W1 (((W1.alloc (.cells #[.string rs] 9)).alloc (.cells #[.string ⟨#[47]⟩] 9)).alloc (.cells #[.int .i64 0] 3)) := (((Ext.refl _).alloc _).alloc _).alloc _
      have z1 : Boxed (((W1.alloc (.cells #[.string rs] 9)).alloc (.cells #[.string ⟨#[47]⟩] 9)).alloc (.cells #[.int .i64 0] 3)) W1.heap.size 9 (.string rs) := ((Boxed.new W1 9 _).alloc _).alloc _
      have z2 : Boxed (((W1.alloc (.cells #[.string rs] 9)).alloc (.cells #[.string ⟨#[47]⟩] 9)).alloc (.cells #[.int .i64 0] 3)) (W1.heap.size + 1) 9 (.string ⟨#[47]⟩) := by
        have := Boxed.new (W1.alloc (.cells #[.string rs] 9)) 9 (.string ⟨#[47]⟩); rw [World.size_alloc] at this; exact this.alloc _
      have z3 : Boxed (((W1.alloc (.cells #[.string rs] 9)).alloc (.cells #[.string ⟨#[47]⟩] 9)).alloc (.cells #[.int .i64 0] 3)) (W1.heap.size + 1 + 1) 3 (.int .i64 0) := by
        have := Boxed.new ((W1.alloc (.cells #[.string rs] 9)).alloc (.cells #[.string ⟨#[47]⟩] 9)) 3 (.int .i64 0); rw [World.size_alloc, World.size_alloc] at this; exact this
      refine (resolve_seq 47 W1.heap.size (W1.heap.size + 1) (W1.heap.size + 1 + 1) rs _ (by omega) (by have := Ad.pieces_len 47 (bsT rs); rw [bsT_size] at this; omega) z2 z1 z3 ⟨by omega, by omega⟩).mono ?_
      rintro e w5 ⟨hR0, hB5⟩
      have hR5 := (RslIs.uni hR0).lower (b2 := w.heap.size + 1) (by have := HR1.out.lt; simp; omega)
      have hp9 : pth = Ad.resAll (Ad.pieces 47 (bsT rs)) := HPt.out.trans (if_pos trivial)
      rw [← hp9] at hR5
      have hx5 : Ext W1 w5 := ((ButS.of_ext hxz).trans (S := fun k => k = W1.heap.size) (hB5)).toExt (fun k hk => by omega)
      clear hB5 hR0 z1 z2 z3 hxz hp9 HPt
      have HX5 : Hid (Ext w w5) := Lib.hid (HX1.out.trans hx5)
      obtain ⟨Ap, cp, lp, one, he5, hone, hlp, hop⟩ := hR5
      subst he5
      have HOl := Lib.hid hop
      have HR5 := Lib.hid (HR1.out.ext hx5)
      have HOne := Lib.hid hone
      have HLp := Lib.hid hlp
      clear hx5 hone hlp hop
      go_wp2_with (go_at_call 175; refine (show Hid _ from ?_).out)
      refine Lib.hid ?_
      refine (HPq.out _ HX5.out).mono ?_
      rintro e w7 ⟨⟨A2, c2, qs, two, rfl, htwo, hqs, hoq⟩, hx7⟩
      have HX7 : Hid (Ext w w7) := Lib.hid (HX5.out.trans hx7)
      have HAt : Hid (AdrAt (w.heap.size + 1) ⟨bsT cu, pth.getD [], qry.getD []⟩ (.agg #[.string cu, .slice Ap lp.length cp, .slice A2 qs.length c2]) w7) := Lib.hid ⟨cu, Ap, cp, lp, A2, c2, qs, rfl, by rw [HLp.out, hqs], HOl.out.ext hx7, hoq.lower HR5.out.lt⟩
      have HR7 := Lib.hid (HR5.out.ext hx7)
      have hl1 : (pth.getD []).length = lp.length := by rw [← HLp.out]; simp
      have hl2 : (qry.getD []).length = qs.length := by rw [← hqs]; simp
      rw [← HOne.out, ← htwo, hl1, hl2] at HE
      have HN := Lib.hid (fun W => name_any cu W)
      have HNe : Hid (Tg.nameB (bsT cu) = Tg.nameB cu.data.toList) := Lib.hid rfl
      rw [HNe.out] at HE
      have rm7 : roomOf w7 w.heap.size 0 3 = true := by rw [HR7.out.room]; rfl
      have hlt7 := HR7.out.lt
      clear hx7 hqs hoq hl1 hl2 htwo HOne HLp HOl HPq HX5 HR5 HX1 HR1
      generalize Tg.nameB cu.data.toList = nm at *
      cases nm with
      | false =>
        have h3 : PE = 3 := by rw [HE.out, if_neg (by simp)]
        have hA : PA = Ad.noAdr := by rw [HA.out, h3]; rfl
        subst h3 hA
        clear HE HA
        go_wp2_with (go_at_call 176; refine (HN.out _).mono ?_; rintro e w' ⟨rfl, hxl⟩; obtain ⟨xl, rfl⟩ := hxl.asLater; clear hxl)
        exact post_two (v1 := .agg #[.string ⟨#[]⟩, .slice none 0 0, .slice none 0 0]) (v2 := .int .i64 3) Tryz.results144 rfl ⟨_, rfl, adr_loaded ((RowAt.store (HR7.out.later xl) rfl).all rfl (by omega))⟩ rfl ⟨_, rfl, adr_none _ _, Ext.setCells (HX7.out.onto _) (by omega) _ _⟩
      | true =>
        cases one with
        | false =>
          have h3 : PE = 3 := by rw [HE.out, if_neg (by simp)]
          have hA : PA = Ad.noAdr := by rw [HA.out, h3]; rfl
          subst h3 hA
          clear HE HA
          go_wp2_with (go_at_call 176; refine (HN.out _).mono ?_; rintro e w' ⟨rfl, hxl⟩; obtain ⟨xl, rfl⟩ := hxl.asLater; clear hxl)
          exact post_two (v1 := .agg #[.string ⟨#[]⟩, .slice none 0 0, .slice none 0 0]) (v2 := .int .i64 3) Tryz.results144 rfl ⟨_, rfl, adr_loaded ((RowAt.store (HR7.out.later xl) rfl).all rfl (by omega))⟩ rfl ⟨_, rfl, adr_none _ _, Ext.setCells (HX7.out.onto _) (by omega) _ _⟩
        | true =>
          cases two with
          | false =>
            have h3 : PE = 3 := by rw [HE.out, if_neg (by simp)]
            have hA : PA = Ad.noAdr := by rw [HA.out, h3]; rfl
            subst h3 hA
            clear HE HA
            go_wp2_with (go_at_call 176; refine (HN.out _).mono ?_; rintro e w' ⟨rfl, hxl⟩; obtain ⟨xl, rfl⟩ := hxl.asLater; clear hxl)
            exact post_two (v1 := .agg #[.string ⟨#[]⟩, .slice none 0 0, .slice none 0 0]) (v2 := .int .i64 3) Tryz.results144 rfl ⟨_, rfl, adr_loaded ((RowAt.store (HR7.out.later xl) rfl).all rfl (by omega))⟩ rfl ⟨_, rfl, adr_none _ _, Ext.setCells (HX7.out.onto _) (by omega) _ _⟩
          | true =>
            by_cases l1 : 32 < lp.length
            · have h3 : PE = 2 := by rw [HE.out, if_pos (by simp), if_pos (.inl l1)]
              have hA : PA = Ad.noAdr := by rw [HA.out, h3]; rfl
              subst h3 hA
              have d1 : decide ((32 : Int) < (lp.length : Int)) = true := by simp; omega
              clear HE HA
              go_wp2_with (go_at_call 176; refine (HN.out _).mono ?_; rintro e w' ⟨rfl, hxl⟩; obtain ⟨xl, rfl⟩ := hxl.asLater; clear hxl)
              exact post_two (v1 := .agg #[.string ⟨#[]⟩, .slice none 0 0, .slice none 0 0]) (v2 := .int .i64 2) Tryz.results144 rfl ⟨_, rfl, adr_loaded ((RowAt.store (HR7.out.later xl) rfl).all rfl (by omega))⟩ rfl ⟨_, rfl, adr_none _ _, Ext.setCells (HX7.out.onto _) (by omega) _ _⟩
            · have d1 : decide ((32 : Int) < (lp.length : Int)) = false := by simp; omega
              by_cases l2 : 16 < qs.length
              · have h3 : PE = 2 := by rw [HE.out, if_pos (by simp), if_pos (.inr l2)]
                have hA : PA = Ad.noAdr := by rw [HA.out, h3]; rfl
                subst h3 hA
                have d2 : decide ((16 : Int) < (qs.length : Int)) = true := by simp; omega
                clear HE HA
                go_wp2_with (go_at_call 176; refine (HN.out _).mono ?_; rintro e w' ⟨rfl, hxl⟩; obtain ⟨xl, rfl⟩ := hxl.asLater; clear hxl)
                exact post_two (v1 := .agg #[.string ⟨#[]⟩, .slice none 0 0, .slice none 0 0]) (v2 := .int .i64 2) Tryz.results144 rfl ⟨_, rfl, adr_loaded ((RowAt.store (HR7.out.later xl) rfl).all rfl (by omega))⟩ rfl ⟨_, rfl, adr_none _ _, Ext.setCells (HX7.out.onto _) (by omega) _ _⟩
              · have h3 : PE = 0 := by rw [HE.out, if_pos (by simp), if_neg (by omega)]
                have hA : PA = ⟨bsT cu, pth.getD [], qry.getD []⟩ := by rw [HA.out, h3]; rfl
                subst h3 hA
                have d2 : decide ((16 : Int) < (qs.length : Int)) = false := by simp; omega
                clear HE HA
                go_wp2_with (go_at_call 176; refine (HN.out _).mono ?_; rintro e w' ⟨rfl, hxl⟩; obtain ⟨xl, rfl⟩ := hxl.asLater; clear hxl)
                refine post_two (v1 := .agg #[.string cu, .slice Ap lp.length cp, .slice A2 qs.length c2]) (v2 := .int .i64 0) Tryz.results144 rfl ⟨_, rfl, adr_loaded ((RowAt.store (ds := #[.string cu, .slice Ap lp.length cp, .slice A2 qs.length c2]) (HR7.out.later xl) rfl).all rfl (by omega))⟩ rfl ⟨_, rfl, ?_, ?_⟩
                · exact ((HAt.out.ext (ext_later _ _)).others (by omega) _ _).lower (by omega)
                · exact Ext.setCells (HX7.out.onto _) (by omega) _ _
    | false =>
      go_wp2_with (first
        | (go_at_call 172; refine (splitSeq_any rs 47 _).mono ?_; rintro e w' ⟨rfl, rfl⟩)
        | (go_at_call 174; refine (show Hid _ from ?_).out))
      refine Lib.hid ?_
      refine (resolve_none _).mono ?_
      rintro e w5 ⟨he0, hx0⟩
      have hx5 : Ext W1 w5 := Ext.trans ((((Ext.refl W1).alloc _).alloc _).alloc _) hx0
      have hp9 : pth = some [] := HPt.out.trans (if_neg (by decide))
      have hR5 : RslU pth (w.heap.size + 1) e w5 := ⟨none, 0, [], true, he0, by rw [hp9]; rfl, by rw [hp9]; rfl, Owns.nil _ _ _ _ _⟩
      clear hx0 he0 hp9 HPt
      have HX5 : Hid (Ext w w5) := Lib.hid (HX1.out.trans hx5)
      obtain ⟨Ap, cp, lp, one, he5, hone, hlp, hop⟩ := hR5
      subst he5
      have HOl := Lib.hid hop
      have HR5 := Lib.hid (HR1.out.ext hx5)
      have HOne := Lib.hid hone
      have HLp := Lib.hid hlp
      clear hx5 hone hlp hop
      go_wp2_with (go_at_call 175; refine (show Hid _ from ?_).out)
      refine Lib.hid ?_
      refine (HPq.out _ HX5.out).mono ?_
      rintro e w7 ⟨⟨A2, c2, qs, two, rfl, htwo, hqs, hoq⟩, hx7⟩
      have HX7 : Hid (Ext w w7) := Lib.hid (HX5.out.trans hx7)
      have HAt : Hid (AdrAt (w.heap.size + 1) ⟨bsT cu, pth.getD [], qry.getD []⟩ (.agg #[.string cu, .slice Ap lp.length cp, .slice A2 qs.length c2]) w7) := Lib.hid ⟨cu, Ap, cp, lp, A2, c2, qs, rfl, by rw [HLp.out, hqs], HOl.out.ext hx7, hoq.lower HR5.out.lt⟩
      have HR7 := Lib.hid (HR5.out.ext hx7)
      have hl1 : (pth.getD []).length = lp.length := by rw [← HLp.out]; simp
      have hl2 : (qry.getD []).length = qs.length := by rw [← hqs]; simp
      rw [← HOne.out, ← htwo, hl1, hl2] at HE
      have HN := Lib.hid (fun W => name_any cu W)
      have HNe : Hid (Tg.nameB (bsT cu) = Tg.nameB cu.data.toList) := Lib.hid rfl
      rw [HNe.out] at HE
      have rm7 : roomOf w7 w.heap.size 0 3 = true := by rw [HR7.out.room]; rfl
      have hlt7 := HR7.out.lt
      clear hx7 hqs hoq hl1 hl2 htwo HOne HLp HOl HPq HX5 HR5 HX1 HR1
      generalize Tg.nameB cu.data.toList = nm at *
      cases nm with
      | false =>
        have h3 : PE = 3 := by rw [HE.out, if_neg (by simp)]
        have hA : PA = Ad.noAdr := by rw [HA.out, h3]; rfl
        subst h3 hA
        clear HE HA
        go_wp2_with (go_at_call 176; refine (HN.out _).mono ?_; rintro e w' ⟨rfl, hxl⟩; obtain ⟨xl, rfl⟩ := hxl.asLater; clear hxl)
        exact post_two (v1 := .agg #[.string ⟨#[]⟩, .slice none 0 0, .slice none 0 0]) (v2 := .int .i64 3) Tryz.results144 rfl ⟨_, rfl, adr_loaded ((RowAt.store (HR7.out.later xl) rfl).all rfl (by omega))⟩ rfl ⟨_, rfl, adr_none _ _, Ext.setCells (HX7.out.onto _) (by omega) _ _⟩
      | true =>
        cases one with
        | false =>
          have h3 : PE = 3 := by rw [HE.out, if_neg (by simp)]
          have hA : PA = Ad.noAdr := by rw [HA.out, h3]; rfl
          subst h3 hA
          clear HE HA
          go_wp2_with (go_at_call 176; refine (HN.out _).mono ?_; rintro e w' ⟨rfl, hxl⟩; obtain ⟨xl, rfl⟩ := hxl.asLater; clear hxl)
          exact post_two (v1 := .agg #[.string ⟨#[]⟩, .slice none 0 0, .slice none 0 0]) (v2 := .int .i64 3) Tryz.results144 rfl ⟨_, rfl, adr_loaded ((RowAt.store (HR7.out.later xl) rfl).all rfl (by omega))⟩ rfl ⟨_, rfl, adr_none _ _, Ext.setCells (HX7.out.onto _) (by omega) _ _⟩
        | true =>
          cases two with
          | false =>
            have h3 : PE = 3 := by rw [HE.out, if_neg (by simp)]
            have hA : PA = Ad.noAdr := by rw [HA.out, h3]; rfl
            subst h3 hA
            clear HE HA
            go_wp2_with (go_at_call 176; refine (HN.out _).mono ?_; rintro e w' ⟨rfl, hxl⟩; obtain ⟨xl, rfl⟩ := hxl.asLater; clear hxl)
            exact post_two (v1 := .agg #[.string ⟨#[]⟩, .slice none 0 0, .slice none 0 0]) (v2 := .int .i64 3) Tryz.results144 rfl ⟨_, rfl, adr_loaded ((RowAt.store (HR7.out.later xl) rfl).all rfl (by omega))⟩ rfl ⟨_, rfl, adr_none _ _, Ext.setCells (HX7.out.onto _) (by omega) _ _⟩
          | true =>
            by_cases l1 : 32 < lp.length
            · have h3 : PE = 2 := by rw [HE.out, if_pos (by simp), if_pos (.inl l1)]
              have hA : PA = Ad.noAdr := by rw [HA.out, h3]; rfl
              subst h3 hA
              have d1 : decide ((32 : Int) < (lp.length : Int)) = true := by simp; omega
              clear HE HA
              go_wp2_with (go_at_call 176; refine (HN.out _).mono ?_; rintro e w' ⟨rfl, hxl⟩; obtain ⟨xl, rfl⟩ := hxl.asLater; clear hxl)
              exact post_two (v1 := .agg #[.string ⟨#[]⟩, .slice none 0 0, .slice none 0 0]) (v2 := .int .i64 2) Tryz.results144 rfl ⟨_, rfl, adr_loaded ((RowAt.store (HR7.out.later xl) rfl).all rfl (by omega))⟩ rfl ⟨_, rfl, adr_none _ _, Ext.setCells (HX7.out.onto _) (by omega) _ _⟩
            · have d1 : decide ((32 : Int) < (lp.length : Int)) = false := by simp; omega
              by_cases l2 : 16 < qs.length
              · have h3 : PE = 2 := by rw [HE.out, if_pos (by simp), if_pos (.inr l2)]
                have hA : PA = Ad.noAdr := by rw [HA.out, h3]; rfl
                subst h3 hA
                have d2 : decide ((16 : Int) < (qs.length : Int)) = true := by simp; omega
                clear HE HA
                go_wp2_with (go_at_call 176; refine (HN.out _).mono ?_; rintro e w' ⟨rfl, hxl⟩; obtain ⟨xl, rfl⟩ := hxl.asLater; clear hxl)
                exact post_two (v1 := .agg #[.string ⟨#[]⟩, .slice none 0 0, .slice none 0 0]) (v2 := .int .i64 2) Tryz.results144 rfl ⟨_, rfl, adr_loaded ((RowAt.store (HR7.out.later xl) rfl).all rfl (by omega))⟩ rfl ⟨_, rfl, adr_none _ _, Ext.setCells (HX7.out.onto _) (by omega) _ _⟩
              · have h3 : PE = 0 := by rw [HE.out, if_pos (by simp), if_neg (by omega)]
                have hA : PA = ⟨bsT cu, pth.getD [], qry.getD []⟩ := by rw [HA.out, h3]; rfl
                subst h3 hA
                have d2 : decide ((16 : Int) < (qs.length : Int)) = false := by simp; omega
                clear HE HA
                go_wp2_with (go_at_call 176; refine (HN.out _).mono ?_; rintro e w' ⟨rfl, hxl⟩; obtain ⟨xl, rfl⟩ := hxl.asLater; clear hxl)
                refine post_two (v1 := .agg #[.string cu, .slice Ap lp.length cp, .slice A2 qs.length c2]) (v2 := .int .i64 0) Tryz.results144 rfl ⟨_, rfl, adr_loaded ((RowAt.store (ds := #[.string cu, .slice Ap lp.length cp, .slice A2 qs.length c2]) (HR7.out.later xl) rfl).all rfl (by omega))⟩ rfl ⟨_, rfl, ?_, ?_⟩
                · exact ((HAt.out.ext (ext_later _ _)).others (by omega) _ _).lower (by omega)
                · exact Ext.setCells (HX7.out.onto _) (by omega) _ _
end Go.Proofs.YtpfhmcdcmepfdaaGreatDoor


set_option linter.unusedVariables false
set_option linter.unusedSimpArgs false
namespace Go.Proofs.YtpfhmcdcmepfdaaGreatDoor
open Go.RowKit Go.Shelf
open Go.Proofs

theorem adr_sub0 : rowSub #[.string ByteArray.empty, .slice none 0 0, .slice none 0 0] 0 3 = some #[.string ByteArray.empty, .slice none 0 0, .slice none 0 0] := rowSub_all _ _ rfl
attribute [local go_sem] adr_fits adr_sub0
set_option maxRecDepth 100000 in
set_option maxHeartbeats 2000000 in
theorem canon_any (s : ByteArray) (w : World) (hs : s.size ≤ 900000) (hp : ∀ (q : ByteArray) W, bsT q = (Ad.headN (bsT s)).2.1 → q.size ≤ 4096 → Ext w W → Calls Tryz.prog 175 #[.string q] W fun e w' => PrsU (Ad.quN (bsT q)) W.heap.size e w' ∧ Ext W w') :
    Calls Tryz.prog 108 #[.string s] w fun e w' => e = .returned (.tuple #[.string ⟨(Ad.canonT (bsT s)).toArray⟩, .int .i64 (Ad.canonE (bsT s))]) ∧ Ext w w' := by
  have HP := Lib.hid (parse_any s w hs hp)
  clear hp
  have HE : Hid (Ad.canonE (bsT s) = if Ad.parseE (bsT s) = 0 then txE (Ad.parseA (bsT s)) else Ad.parseE (bsT s)) := Lib.hid rfl
  have HT : Hid (Ad.parseE (bsT s) = 0 → Ad.canonT (bsT s) = txS (Ad.parseA (bsT s))) := Lib.hid (fun h => by unfold Ad.canonT txS; rw [HE.out, if_pos h])
  have HT2 : Hid (Ad.canonE (bsT s) ≠ 0 → Ad.canonT (bsT s) = []) := Lib.hid (fun h => if_neg h)
  have HG := Lib.hid (fun h => Ad.parseA_good (s := bsT s) h)
  generalize Ad.canonT (bsT s) = CT at *
  generalize Ad.canonE (bsT s) = CE at *
  generalize Ad.parseA (bsT s) = PA at *
  generalize Ad.parseE (bsT s) = PE at *
  go_enter Tryz.func108, Tryz.ntmps108
  go_wp2_with (go_at_call 144; refine (show Hid _ from ?_).out)
  refine Lib.hid ?_
  refine HP.out.mono ?_
  rintro e w1 ⟨v, rfl, ⟨cu, A, c, ls, A2, c2, qs, rfl, rfl, ho1, ho2⟩, hx1⟩
  have HO1 := Lib.hid (ho1.reads sE)
  have HO2 := Lib.hid (ho2.reads prE)
  have HX1 := Lib.hid hx1
  have hsz1 := hx1.size
  clear ho1 ho2 hx1 HP
  by_cases h0 : PE = 0
  · subst h0
    have hCE : CE = txE ⟨bsT cu, ls.map bsT, qs.map prB⟩ := by rw [HE.out]; rfl
    have hCT : CT = txS ⟨bsT cu, ls.map bsT, qs.map prB⟩ := HT.out rfl
    obtain ⟨g1, g2, g3, g4, g5, g6⟩ := HG.out rfl
    have HTx := Lib.hid (fun (W : World) (hx : Ext w1 W) => text_any cu A c ls A2 c2 qs W g1 (fun x hx => g4 _ (List.mem_map_of_mem hx)) (fun p hp => g6 _ (List.mem_map_of_mem hp)) g5 (by simpa using g2) (by simpa using g3) (HO1.out.on hx) (HO2.out.on hx))
    rw [← hCE, ← hCT] at HTx
    clear HE HT HT2 HG g1 g2 g3 g4 g5 g6 HO1 HO2 hCE hCT
    go_wp2_with (go_at_call 145; refine (HTx.out _ (by (repeat (first | with_reducible exact Ext.refl _ | with_reducible exact Ext.refl _ | with_reducible refine Ext.drew ?_ | with_reducible refine Ext.drewN ?_ _ | with_reducible refine Ext.alloc ?_ _ | with_reducible refine Ext.onto ?_ _ | (with_reducible refine Ext.setCells ?_ ?_ _ _; rotate_left; focus (first | omega | (simp; done) | (simp; omega))) | (with_reducible refine Ext.setCell ?_ ?_ _; rotate_left; focus (first | omega | (simp; done) | (simp; omega))))))).mono ?_; rintro e w' ⟨rfl, hxl⟩; obtain ⟨xl, rfl⟩ := hxl.asLater; clear hxl)
    refine bodyPost_ret (v := .tuple #[.string ⟨CT.toArray⟩, .int .i64 CE]) ?_ rfl ⟨rfl, (by (repeat (first | with_reducible exact HX1.out | with_reducible exact Ext.refl _ | with_reducible refine Ext.drew ?_ | with_reducible refine Ext.drewN ?_ _ | with_reducible refine Ext.alloc ?_ _ | with_reducible refine Ext.onto ?_ _ | (with_reducible refine Ext.setCells ?_ ?_ _ _; rotate_left; focus (first | omega | (simp; done) | (simp; omega))) | (with_reducible refine Ext.setCell ?_ ?_ _; rotate_left; focus (first | omega | (simp; done) | (simp; omega))))))⟩
    simp [results, Tryz.results108, go_sem, ↓IntWalk.iteOmega]
  · have hCE : CE = PE := by rw [HE.out, if_neg h0]
    subst hCE
    have hCT := HT2.out h0
    subst hCT
    have d0 : (CE != 0) = true := by simpa using h0
    clear HE HT HT2 HG HO1 HO2
    go_wp2
    refine bodyPost_ret (v := .tuple #[.string ⟨([] : List UInt8).toArray⟩, .int .i64 CE]) ?_ rfl ⟨rfl, (by (repeat (first | with_reducible exact HX1.out | with_reducible exact Ext.refl _ | with_reducible refine Ext.drew ?_ | with_reducible refine Ext.drewN ?_ _ | with_reducible refine Ext.alloc ?_ _ | with_reducible refine Ext.onto ?_ _ | (with_reducible refine Ext.setCells ?_ ?_ _ _; rotate_left; focus (first | omega | (simp; done) | (simp; omega))) | (with_reducible refine Ext.setCell ?_ ?_ _; rotate_left; focus (first | omega | (simp; done) | (simp; omega))))))⟩
    simp [results, Tryz.results108, go_sem, ↓IntWalk.iteOmega]
theorem canon_plain (s : ByteArray) (w : World) (hs : s.size ≤ 900000) (h : (Ad.headN (bsT s)).2.1 = []) :
    Calls Tryz.prog 108 #[.string s] w fun e w' => e = .returned (.tuple #[.string ⟨(Ad.canonT (bsT s)).toArray⟩, .int .i64 (Ad.canonE (bsT s))]) ∧ Ext w w' :=
  canon_any s w hs (fun q W hq _ _ => pairs_none q W (hq.trans h))
theorem canon_acme (w : World) :
    Calls Tryz.prog 108 #[.string ⟨#[97, 99, 109, 101, 47, 97]⟩] w fun e w' => e = .returned (.tuple #[.string ⟨#[97, 99, 109, 101, 47, 97]⟩, .int .i64 0]) ∧ Ext w w' := by
  have h := canon_plain ⟨#[97, 99, 109, 101, 47, 97]⟩ w (by decide) (by decide)
  rw [show bsT ⟨#[97, 99, 109, 101, 47, 97]⟩ = [97, 99, 109, 101, 47, 97] from rfl, Ad.acme.1, Ad.acme.2] at h
  exact h
end Go.Proofs.YtpfhmcdcmepfdaaGreatDoor


set_option linter.unusedVariables false
set_option linter.unusedSimpArgs false
namespace Go.Proofs.YtpfhmcdcmepfdaaGreatDoor
open Go.RowKit Go.Shelf Go.Maps
open Go.Proofs
open Go.Proofs.YtpfhmcdcmepfdaaGreatDoor.Ad (Pr AscP)

theorem strK : Keyed Tryz.prog 9 := string_keyed Tryz.underlying9
theorem ownsMap_same {P : Program} {k : TypeId} {R : Value → Option (DataW Unit × List MemPlace)} {w w' : World} {b n : Nat} {D : DataW Unit} (h : w.ownsMap P k R b n D) (e : w'.heap[b]? = w.heap[b]?) : w'.ownsMap P k R b n D := by
  obtain ⟨es, clock, hb, r⟩ := h
  exact ⟨es, clock, e.trans hb, r⟩
theorem bs_mk (x : ByteArray) : (⟨(bsT x).toArray⟩ : ByteArray) = x := by cases x; simp [bsT]
theorem piece_le (c : UInt8) : ∀ s : List UInt8, ∀ p ∈ Ad.pieces c s, p.length ≤ s.length
  | [], p, hp => by simp [Ad.pieces] at hp; rw [hp]; simp
  | x :: r, p, hp => by
    have ih := piece_le c r
    unfold Ad.pieces at hp
    split at hp
    · rcases List.mem_cons.1 hp with e | e
      · rw [e]; simp
      · have := ih p e; simp only [List.length_cons]; omega
    · split at hp
      · rw [List.mem_singleton] at hp; rw [hp]; simp
      · rename_i q l hq
        rcases List.mem_cons.1 hp with e | e
        · rw [e]
          have := ih q (by rw [hq]; simp)
          simp only [List.length_cons]; omega
        · have := ih p (by rw [hq]; exact List.mem_cons_of_mem _ e)
          simp only [List.length_cons]; omega
theorem zeroStrC (w : World) : (zeroValue 9).run Tryz.prog w = .ok (.string ByteArray.empty) w := by kernel_rfl
def keyB (p : Pr) : ByteArray := ⟨p.1.toArray⟩
theorem name_64 {p : Pr} (h : Ad.goodP p = true) : (keyB p).size ≤ 64 := by
  simp only [Ad.goodP, Bool.and_eq_true] at h
  have h1 := h.1
  simp only [Tg.nameB, Tg.wordB, Bool.and_eq_true, decide_eq_true_eq] at h1
  have h2 : (keyB p).size = p.1.length := by simp [keyB, ByteArray.size]
  omega
theorem keys_flat : ∀ L : List Pr, L.map (Go.Proofs.encStr ∘ fun x => x.1) = L.flatMap (fun a => encStr (keyB a))
  | [] => rfl
  | p :: l => by rw [List.map_cons, List.flatMap_cons, keys_flat l]; rfl
theorem keys_owned {base : Nat} {w : World} {v : Value} {ss : List (List UInt8)} {L : List Pr} (hs : ss.mergeSort (fun x y => decide (x ≤ y)) = L.map (·.1)) (h : w.ownsRow base 9 1 v ss.length ((ss.mergeSort (fun x y => decide (x ≤ y))).map Go.Proofs.encStr)) :
    ∃ A c, v = .slice A L.length c ∧ OwnsStr base w A c (L.map keyB) := by
  have hl : ss.length = L.length := by
    have := congrArg List.length hs
    rwa [List.length_mergeSort, List.length_map] at this
  have e : (ss.mergeSort (fun x y => decide (x ≤ y))).map Go.Proofs.encStr = (L.map keyB).flatMap encStr := by
    rw [hs, List.map_map, List.flatMap_map]
    exact keys_flat L
  rw [e, hl] at h
  have hl2 : (L.map keyB).length = L.length := List.length_map _
  obtain ⟨h1, h2⟩ := h
  rcases h2 with ⟨rfl, h3⟩ | ⟨g, cap, cur, rfl, h3⟩
  · exact ⟨none, 0, by rw [h3], by unfold OwnsStr Owns World.ownsRow; rw [hl2]; exact ⟨h1, .inl ⟨by rw [h3], h3⟩⟩⟩
  · exact ⟨_, cap, rfl, by unfold OwnsStr Owns World.ownsRow; rw [hl2]; exact ⟨h1, .inr ⟨g, cap, cur, rfl, h3⟩⟩⟩
section
attribute [local go_sem] Oper.semAt_some
abbrev ownsP (W : World) (bm n : Nat) (D : DataW Unit) : Prop := W.ownsMap Tryz.prog 9 (plainElem Tryz.prog 9) bm n D
def PrJ (b4 b2 b3 bm rc : Nat) (ps : List (List UInt8)) (rdy : Obj) (k : Nat) (W : World) : Prop :=
  ∃ (L : List Pr) (D : DataW Unit), Hid (Ad.qAll (ps.take k) = some L) ∧ Hid (MapIs D L) ∧ ownsP W bm k D ∧ Boxed W b4 277 (.map (some bm)) ∧ Boxed W b2 210 (.slice none 0 0) ∧ Boxed W b3 4 (.bool false) ∧ W.heap[rc]? = some rdy
theorem q_take {ps : List (List UInt8)} {k : Nat} (h : k < ps.length) {out : List Pr} (ho : Ad.qAll (ps.take k) = some out) : Ad.qAll (ps.take (k + 1)) = Ad.qIn out ps[k] := by
  rw [List.take_succ_eq_append_getElem h, Ad.q_snoc, ho]
  rfl
theorem q_stop {ps : List (List UInt8)} {k : Nat} (h : Ad.qAll (ps.take k) = none) : Ad.qAll ps = none := by
  have e : Ad.qAll ps = (ps.drop k).foldl Ad.qStep (Ad.qAll (ps.take k)) := by
    conv => lhs; rw [← List.take_append_drop k ps]
    unfold Ad.qAll
    rw [List.foldl_append]
  rw [e, h]
  exact Ad.q_none _
def PrSt (b2 b3 rc : Nat) (ps : List (List UInt8)) (rdy : Obj) (W : World) : Prop :=
  Ad.qAll ps = none ∧ Boxed W b2 210 (.slice none 0 0) ∧ Boxed W b3 4 (.bool false) ∧ W.heap[rc]? = some (doneOf .ret rdy)
set_option maxRecDepth 100000 in
set_option maxHeartbeats 8000000 in
theorem pairs_some (s : ByteArray) (w : World) (h0 : bsT s ≠ []) (hs : s.size ≤ 4096) :
    Calls Tryz.prog 175 #[.string s] w fun e w' => PrsU (Ad.quN (bsT s)) w.heap.size e w' ∧ Ext w w' := by
  have hs0 : (s.toList == []) = false := by rw [Lib.toList_data]; simpa [bsT] using h0
  have hs1 : s.toList.isEmpty = false := by rw [Lib.toList_data]; simpa [bsT] using h0
  have HQN : Hid (Ad.quN (bsT s) = Ad.qAll (Ad.pieces 38 (bsT s))) := Lib.hid (by unfold Ad.quN; rw [if_neg h0])
  have HSS := Lib.hid (fun W => splitSeq_any s 38 W)
  have hmm := @run_makeMap Tryz.prog
  clear h0
  refine (callsIn_wide (n := 6)).1 ?_
  refine callsIn_of_wp_marks Tryz.func175 rfl trivial ?_ rfl
  simp only [Tryz.ntmps175, List.size_toArray, List.length_cons, List.length_nil, Nat.reduceAdd, Nat.reduceSub, Array.replicate_succ, Array.replicate_zero, List.push_toArray, List.append_toArray, List.nil_append, List.cons_append]
  gi_wp2_with (refine ⟨trivial, ?_⟩; gi_at_call 172; refine (callsIn_wide.2 (HSS.out _)).mono ?_; rintro e w' ⟨rfl, rfl⟩)
  obtain ⟨W0, hW0⟩ : ∃ W0, (((((((w.alloc (.cells #[.slice none 0 0] 210)).alloc (.cells #[.bool false] 4)).alloc (.map #[] 0)).alloc (.cells #[.map (some (w.heap.size + 1 + 1))] 277)).alloc (.cells #[.string s] 9)).alloc (.cells #[.string ⟨#[38]⟩] 9)).alloc (.cells #[.int .i64 0] 3)) = W0 := ⟨_, rfl⟩
  have b1 : Boxed W0 w.heap.size 210 (.slice none 0 0) := by rw [← hW0]; exact ((((((Boxed.new w 210 _).alloc _).alloc _).alloc _).alloc _).alloc _).alloc _
  have b2 : Boxed W0 (w.heap.size + 1) 4 (.bool false) := by
    rw [← hW0]
    have := Boxed.new (w.alloc (.cells #[.slice none 0 0] 210)) 4 (.bool false); rw [World.size_alloc] at this; exact ((((this.alloc _).alloc _).alloc _).alloc _).alloc _
  have bmp : ownsP W0 (w.heap.size + 1 + 1) 0 (.map []) := by
    rw [← hW0]
    have := World.ownsMap_made (H := Unit) ((w.alloc (.cells #[.slice none 0 0] 210)).alloc (.cells #[.bool false] 4)) Tryz.prog 9 (plainElem Tryz.prog 9); rw [World.size_alloc, World.size_alloc] at this; exact (((this.alloc _).alloc _).alloc _).alloc _
  have b4 : Boxed W0 (w.heap.size + 1 + 1 + 1) 277 (.map (some (w.heap.size + 1 + 1))) := by
    rw [← hW0]
    have := Boxed.new (((w.alloc (.cells #[.slice none 0 0] 210)).alloc (.cells #[.bool false] 4)).alloc (.map #[] 0)) 277 (.map (some (w.heap.size + 1 + 1))); rw [World.size_alloc, World.size_alloc, World.size_alloc] at this; exact ((this.alloc _).alloc _).alloc _
  have bsx : Boxed W0 (w.heap.size + 1 + 1 + 1 + 1) 9 (.string s) := by
    rw [← hW0]
    have := Boxed.new ((((w.alloc (.cells #[.slice none 0 0] 210)).alloc (.cells #[.bool false] 4)).alloc (.map #[] 0)).alloc (.cells #[.map (some (w.heap.size + 1 + 1))] 277)) 9 (.string s); rw [World.size_alloc, World.size_alloc, World.size_alloc, World.size_alloc] at this; exact (this.alloc _).alloc _
  have bsep : Boxed W0 (w.heap.size + 1 + 1 + 1 + 1 + 1) 9 (.string ⟨#[38]⟩) := by
    rw [← hW0]
    have := Boxed.new (((((w.alloc (.cells #[.slice none 0 0] 210)).alloc (.cells #[.bool false] 4)).alloc (.map #[] 0)).alloc (.cells #[.map (some (w.heap.size + 1 + 1))] 277)).alloc (.cells #[.string s] 9)) 9 (.string ⟨#[38]⟩); rw [World.size_alloc, World.size_alloc, World.size_alloc, World.size_alloc, World.size_alloc] at this; exact this.alloc _
  have bsv : Boxed W0 (w.heap.size + 1 + 1 + 1 + 1 + 1 + 1) 3 (.int .i64 0) := by
    rw [← hW0]
    have := Boxed.new ((((((w.alloc (.cells #[.slice none 0 0] 210)).alloc (.cells #[.bool false] 4)).alloc (.map #[] 0)).alloc (.cells #[.map (some (w.heap.size + 1 + 1))] 277)).alloc (.cells #[.string s] 9)).alloc (.cells #[.string ⟨#[38]⟩] 9)) 3 (.int .i64 0); rw [World.size_alloc, World.size_alloc, World.size_alloc, World.size_alloc, World.size_alloc, World.size_alloc] at this; exact this
  have bs0 : W0.heap.size = w.heap.size + 7 := by rw [← hW0]; simp
  have bx : Ext w W0 := by rw [← hW0]; exact (((((((Ext.refl _).alloc _).alloc _).alloc _).alloc _).alloc _).alloc _).alloc _
  rw [hW0]
  clear hW0
  have hbs1 := Nat.le_of_eq bs0
  have hbs2 := Nat.le_of_eq bs0.symm
  clear bs0
  refine rf_enter2 rfl (by omega) (gf := 227) (lb := #[.pointer (some ⟨w.heap.size + 1 + 1 + 1 + 1 + 1, 0, none⟩), .pointer (some ⟨w.heap.size + 1 + 1 + 1 + 1, 0, none⟩), .pointer (some ⟨w.heap.size + 1 + 1 + 1 + 1 + 1 + 1, 0, none⟩)]) rfl trivial (enters_of Tryz.func227 (by kernel_rfl) rfl) ?_
  intro fn WL rdy hfn hrdy hE hEs hl0 hD0
  have hEa := Nat.le_of_eq hEs
  have hEb := Nat.le_of_eq hEs.symm
  clear hEs
  have hM0 : ownsP WL (w.heap.size + 1 + 1) 0 (.map []) := ownsMap_same bmp (hE.below.block _ (by omega))
  refine CallsIn.mono (splitseq1_in 38 (6 - 1) (by omega) (W0.heap.size + 1) (w.heap.size + 1 + 1 + 1 + 1) (w.heap.size + 1 + 1 + 1 + 1 + 1) (w.heap.size + 1 + 1 + 1 + 1 + 1 + 1) s WL (by omega) (Boxed.ext bsep hE) (Boxed.ext bsx hE) (Boxed.ext bsv hE) ⟨by omega, by omega⟩
    (fun k => (w.heap.size ≤ k ∧ k ≠ W0.heap.size ∧ k ≠ w.heap.size + 4 ∧ k ≠ w.heap.size + 5 ∧ k ≠ w.heap.size + 6)) ⟨by omega, by omega, by omega⟩
    (PrJ (w.heap.size + 1 + 1 + 1) w.heap.size (w.heap.size + 1) (w.heap.size + 1 + 1) (W0.heap.size + 1) (Ad.pieces 38 (bsT s)) rdy)
    (PrSt w.heap.size (w.heap.size + 1) (W0.heap.size + 1) (Ad.pieces 38 (bsT s)) rdy)
    ⟨[], .map [], Lib.hid rfl, Lib.hid MapIs.nil, hM0, Boxed.ext b4 hE, Boxed.ext b1 hE, Boxed.ext b2 hE, hl0⟩
    (fun k W1 W2 ⟨L', D', h1, h2, h4, h3, h5, h6, h7⟩ hx => ⟨L', D', h1, h2, ownsMap_same h4 (hx.block _ h4.lt (by omega)), hx.boxed h3 (by omega), hx.boxed h5 (by omega), hx.boxed h6 (by omega), (hx.block _ (Array.getElem?_eq_some_iff.1 h7).1 (by omega)).trans h7⟩) ?hY) ?post
  case hY =>
    rintro k hk x W1 hx ⟨L', D', HL, HMI, hM1, hbo, hb2, hb3, hrec⟩ hBS
    have hsz1 := hBS.size
    have hlt := (Array.getElem?_eq_some_iff.1 hrec).1
    have HSt : Hid (Ad.qAll ((Ad.pieces 38 (bsT s)).take (k + 1)) = Ad.qIn L' (bsT x)) := Lib.hid (by rw [q_take hk HL.out, hx])
    have HStop : Hid (Ad.qIn L' (bsT x) = none → Ad.qAll (Ad.pieces 38 (bsT s)) = none) := Lib.hid (fun h => q_stop (HSt.out.trans h))
    have hxs : x.size ≤ 4096 := by
      have h1 := piece_le 38 (bsT s) _ (List.getElem_mem hk)
      rw [← hx, bsT_size, bsT_size] at h1
      omega
    have hA : AscP L' := (Ad.qAll_ok _ [] L' HL.out (by simp [AscP]) (by simp)).1
    have HA := Lib.hid hA
    have HRdy := Lib.hid hrdy
    rw [hrdy] at hrec
    clear hrdy hx HL hA
    refine rf_round hrec hfn rfl ?_
    have HREC := Lib.hid hrec
    clear hrec
    gi_wp2
    refine ⟨(Array.getElem?_eq_some_iff.1 HREC.out).2, ?_⟩
    intro W2 hbt hs2 hr2
    have hs2a : W2.heap.size ≤ W1.heap.size := Nat.le_of_eq hs2
    have hs2b : W1.heap.size ≤ W2.heap.size := Nat.le_of_eq hs2.symm
    have hm2 : ownsP W2 (w.heap.size + 1 + 1) k D' := ownsMap_same hM1 (hbt.block _ hM1.lt (fun e => by injection e; omega))
    have hbp2 : Boxed W2 (w.heap.size + 1 + 1 + 1) 277 (.map (some (w.heap.size + 1 + 1))) := boxed_but hbo hbt (by omega)
    have hq2 : Boxed W2 w.heap.size 210 (.slice none 0 0) := boxed_but hb2 hbt (by omega)
    have hq3 : Boxed W2 (w.heap.size + 1) 4 (.bool false) := boxed_but hb3 hbt (by omega)
    have c3 := hbp2.cell
    have c4 := hq2.cell
    have c4f := hq2.frozen
    have c5 := hq3.cell
    have c5f := hq3.frozen
    have HBt := Lib.hid hbt
    have HR2 := Lib.hid hr2
    have HM2 := Lib.hid hm2
    have HP2 := Lib.hid hbp2
    have HQ2 := Lib.hid hq2
    have HQ3 := Lib.hid hq3
    clear hbt hr2 hs2 hM1 hbo hb2 hb3 hm2 hbp2 hq2 hq3
    gi_wp2_with (refine ⟨trivial, ?_⟩; gi_at_call 154; refine (show Hid _ from ?_).out)
    refine Lib.hid ?_
    refine (CallsIn.inRound _ (callsIn_wide.2 (scut_any x 61 _ (by omega)))).mono ?_
    rintro e w' ⟨⟨a, b, f, rfl, hc, has, hbs⟩, hxl⟩
    obtain ⟨xm, rfl⟩ := hxl.asLater
    clear hxl
    have HC := Lib.hid hc
    have HNm := Lib.hid (fun W => name_any a W)
    have HWd := Lib.hid (fun W => word_any b W)
    have HPo : Hid (Ad.pairOf (bsT x) = if f = true ∧ Tg.nameB (bsT a) = true ∧ Tg.wordB (bsT b) = true then some (bsT a, bsT b) else none) := Lib.hid (by unfold Ad.pairOf; rw [← hc])
    clear hc
    cases f with
    | false =>
      have HFl := Lib.hid (HStop.out (by unfold Ad.qIn; rw [HPo.out]; rfl))
      clear HStop HSt HPo HNm HWd HC
      gi_wp2_with (refine ⟨trivial, ?_⟩)
      refine ⟨?_, ?_⟩
      · refine (Below.heap_setCell _ _ _ _ (by show _ ≠ w.heap.size + 1; omega)).trans ((Below.heap_setCell _ _ _ _ (by show _ ≠ w.heap.size; omega)).trans ?_)
        exact ((ext_later W2 xm).below.block _ (by omega)).trans HR2.out
      intro W4 hb4 hr4
      refine ⟨.inr ⟨rfl, HFl.out, ?_, ?_, by rw [HRdy.out]; exact hr4⟩, ?_⟩
      · exact boxed_but (((Boxed.ext HQ2.out (ext_later W2 xm)).set _).other (by omega) _) hb4 (by omega)
      · exact boxed_but ((((Boxed.ext HQ3.out (ext_later W2 xm)).other (by omega) _)).set _) hb4 (by omega)
      · refine (ButS.of_but HBt.out (.inr ⟨by omega, by omega, by omega, by omega, by omega⟩)).trans ((ButS.of_ext (ext_later W2 xm)).trans ?_)
        exact (((ButS.refl _ (later W2 xm)).setCell (p := ⟨w.heap.size, 0, none⟩) (.inl ⟨by show w.heap.size ≤ w.heap.size; omega, by show w.heap.size ≠ _; omega, by show w.heap.size ≠ _; omega, by show w.heap.size ≠ _; omega, by show w.heap.size ≠ _; omega⟩) _).setCell (p := ⟨w.heap.size + 1, 0, none⟩) (.inl ⟨by show _ ≤ w.heap.size + 1; omega, by show w.heap.size + 1 ≠ _; omega, by show w.heap.size + 1 ≠ _; omega, by show w.heap.size + 1 ≠ _; omega, by show w.heap.size + 1 ≠ _; omega⟩) _).trans (ButS.of_but hb4 (.inr ⟨by omega, by omega, by omega, by omega, by omega⟩))
    | true =>
      cases hn : Tg.nameB (bsT a) with
      | false =>
        have hn' : Tg.nameB a.data.toList = false := hn
        rw [hn'] at HNm
        have HFl := Lib.hid (HStop.out (by unfold Ad.qIn; rw [HPo.out, hn]; rfl))
        clear HStop HSt HPo HWd HC hn hn'
        gi_wp2_with (refine ⟨trivial, ?_⟩; try (first
          | (gi_at_call 176; refine (CallsIn.inRound _ (callsIn_wide.2 (HNm.out _))).mono ?_; rintro e w' ⟨rfl, hxl⟩; obtain ⟨xn, rfl⟩ := hxl.asLater; clear hxl)
          | (gi_at_call 179; refine (CallsIn.inRound _ (callsIn_wide.2 (HWd.out _))).mono ?_; rintro e w' ⟨rfl, hxl⟩; obtain ⟨xo, rfl⟩ := hxl.asLater; clear hxl)))
        refine ⟨?_, ?_⟩
        · refine (Below.heap_setCell _ _ _ _ (by show _ ≠ w.heap.size + 1; omega)).trans ((Below.heap_setCell _ _ _ _ (by show _ ≠ w.heap.size; omega)).trans ?_)
          exact ((ext_later W2 (xm.comp xn)).below.block _ (by omega)).trans HR2.out
        intro W4 hb4 hr4
        refine ⟨.inr ⟨rfl, HFl.out, ?_, ?_, by rw [HRdy.out]; exact hr4⟩, ?_⟩
        · exact boxed_but (((Boxed.ext HQ2.out (ext_later W2 (xm.comp xn))).set _).other (by omega) _) hb4 (by omega)
        · exact boxed_but ((((Boxed.ext HQ3.out (ext_later W2 (xm.comp xn))).other (by omega) _)).set _) hb4 (by omega)
        · refine (ButS.of_but HBt.out (.inr ⟨by omega, by omega, by omega, by omega, by omega⟩)).trans ((ButS.of_ext (ext_later W2 (xm.comp xn))).trans ?_)
          exact (((ButS.refl _ (later W2 (xm.comp xn))).setCell (p := ⟨w.heap.size, 0, none⟩) (.inl ⟨by show w.heap.size ≤ w.heap.size; omega, by show w.heap.size ≠ _; omega, by show w.heap.size ≠ _; omega, by show w.heap.size ≠ _; omega, by show w.heap.size ≠ _; omega⟩) _).setCell (p := ⟨w.heap.size + 1, 0, none⟩) (.inl ⟨by show _ ≤ w.heap.size + 1; omega, by show w.heap.size + 1 ≠ _; omega, by show w.heap.size + 1 ≠ _; omega, by show w.heap.size + 1 ≠ _; omega, by show w.heap.size + 1 ≠ _; omega⟩) _).trans (ButS.of_but hb4 (.inr ⟨by omega, by omega, by omega, by omega, by omega⟩))
      | true =>
        have hn' : Tg.nameB a.data.toList = true := hn
        rw [hn'] at HNm
        cases hwd : Tg.wordB (bsT b) with
        | false =>
          have hw' : Tg.wordB b.data.toList = false := hwd
          rw [hw'] at HWd
          have HFl := Lib.hid (HStop.out (by unfold Ad.qIn; rw [HPo.out, hwd]; simp))
          clear HStop HSt HPo HC hn hn' hwd hw'
          gi_wp2_with (refine ⟨trivial, ?_⟩; try (first
            | (gi_at_call 176; refine (CallsIn.inRound _ (callsIn_wide.2 (HNm.out _))).mono ?_; rintro e w' ⟨rfl, hxl⟩; obtain ⟨xn, rfl⟩ := hxl.asLater; clear hxl)
            | (gi_at_call 179; refine (CallsIn.inRound _ (callsIn_wide.2 (HWd.out _))).mono ?_; rintro e w' ⟨rfl, hxl⟩; obtain ⟨xo, rfl⟩ := hxl.asLater; clear hxl)))
          refine ⟨?_, ?_⟩
          · refine (Below.heap_setCell _ _ _ _ (by show _ ≠ w.heap.size + 1; omega)).trans ((Below.heap_setCell _ _ _ _ (by show _ ≠ w.heap.size; omega)).trans ?_)
            exact ((ext_later W2 ((xm.comp xn).comp xo)).below.block _ (by omega)).trans HR2.out
          intro W4 hb4 hr4
          refine ⟨.inr ⟨rfl, HFl.out, ?_, ?_, by rw [HRdy.out]; exact hr4⟩, ?_⟩
          · exact boxed_but (((Boxed.ext HQ2.out (ext_later W2 ((xm.comp xn).comp xo))).set _).other (by omega) _) hb4 (by omega)
          · exact boxed_but ((((Boxed.ext HQ3.out (ext_later W2 ((xm.comp xn).comp xo))).other (by omega) _)).set _) hb4 (by omega)
          · refine (ButS.of_but HBt.out (.inr ⟨by omega, by omega, by omega, by omega, by omega⟩)).trans ((ButS.of_ext (ext_later W2 ((xm.comp xn).comp xo))).trans ?_)
            exact (((ButS.refl _ (later W2 ((xm.comp xn).comp xo))).setCell (p := ⟨w.heap.size, 0, none⟩) (.inl ⟨by show w.heap.size ≤ w.heap.size; omega, by show w.heap.size ≠ _; omega, by show w.heap.size ≠ _; omega, by show w.heap.size ≠ _; omega, by show w.heap.size ≠ _; omega⟩) _).setCell (p := ⟨w.heap.size + 1, 0, none⟩) (.inl ⟨by show _ ≤ w.heap.size + 1; omega, by show w.heap.size + 1 ≠ _; omega, by show w.heap.size + 1 ≠ _; omega, by show w.heap.size + 1 ≠ _; omega, by show w.heap.size + 1 ≠ _; omega⟩) _).trans (ButS.of_but hb4 (.inr ⟨by omega, by omega, by omega, by omega, by omega⟩))
        | true =>
          have hw' : Tg.wordB b.data.toList = true := hwd
          rw [hw'] at HWd
          have HN : Hid (Ad.qAll ((Ad.pieces 38 (bsT s)).take (k + 1)) = some (Ad.putP (bsT a, bsT b) L')) := Lib.hid (by rw [HSt.out]; unfold Ad.qIn; rw [HPo.out, if_pos ⟨rfl, hn, hwd⟩]; rfl)
          clear HStop HSt HPo HC hn hn' hwd hw'
          gi_wp2_with (first
            | (refine ⟨trivial, ?_⟩; try (first
              | (gi_at_call 176; refine (CallsIn.inRound _ (callsIn_wide.2 (HNm.out _))).mono ?_; rintro e w' ⟨rfl, hxl⟩; obtain ⟨xn, rfl⟩ := hxl.asLater; clear hxl)
              | (gi_at_call 179; refine (CallsIn.inRound _ (callsIn_wide.2 (HWd.out _))).mono ?_; rintro e w' ⟨rfl, hxl⟩; obtain ⟨xo, rfl⟩ := hxl.asLater; clear hxl)))
            | (gi_at_mapUpdate; refine (show Hid _ from ?_).out))
          refine Lib.hid ?_
          have HM3 : Hid (ownsP (later W2 ((xm.comp xn).comp xo)) (w.heap.size + 1 + 1) k D') := Lib.hid (ownsMap_same HM2.out ((ext_later W2 _).below.block _ HM2.out.lt))
          have hkl := Ad.pieces_len 38 (bsT s)
          rw [bsT_size] at hkl
          refine wpListIn_mapUpdate_own _ rfl _ _ _ 277 rfl 9 9 strK Tryz.underlying277 _ (w.heap.size + 1 + 1) k D' rfl HM3.out (by unfold maxLen; omega) (.string a) (.string b) (.string (bsT a)) rfl rfl (Go.WideMaps.keyOf_string_mk Tryz.underlying9 (by unfold maxLen; omega)) (.lit (.string (bsT b))) [] (plainElem_string Tryz.underlying9 (by unfold maxLen; omega)) ?_
          intro w3 hown3 hgrow3
          have HG3 := Lib.hid hgrow3
          have HO3 := Lib.hid hown3
          clear hown3 hgrow3 hkl
          gi_wp2
          refine ⟨(HG3.out.block _ (by rw [later_size]; omega) (fun e => by injection e; omega)).trans (((ext_later W2 _).below.block _ (by omega)).trans HR2.out), ?_⟩
          intro W4 hb4 hr4
          have hs3 := HG3.out.size
          rw [later_size] at hs3
          have hq2 : Boxed w3 w.heap.size 210 (.slice none 0 0) := (HG3.out.block _ (by rw [later_size]; omega) (fun e => by injection e; omega)).trans (Boxed.ext HQ2.out (ext_later W2 _))
          have hq3 : Boxed w3 (w.heap.size + 1) 4 (.bool false) := (HG3.out.block _ (by rw [later_size]; omega) (fun e => by injection e; omega)).trans (Boxed.ext HQ3.out (ext_later W2 _))
          have hp2 : Boxed w3 (w.heap.size + 1 + 1 + 1) 277 (.map (some (w.heap.size + 1 + 1))) := (HG3.out.block _ (by rw [later_size]; omega) (fun e => by injection e; omega)).trans (Boxed.ext HP2.out (ext_later W2 _))
          refine ⟨.inl ⟨rfl, _, _, HN, Lib.hid (HMI.out.put HA.out (bsT a, bsT b)), ownsMap_same HO3.out (hb4.block _ HO3.out.lt (fun e => by injection e; omega)), boxed_but hp2 hb4 (by omega), boxed_but hq2 hb4 (by omega), boxed_but hq3 hb4 (by omega), by rw [HRdy.out]; exact hr4⟩, ?_⟩
          refine (ButS.of_but HBt.out (.inr ⟨by omega, by omega, by omega, by omega, by omega⟩)).trans ((ButS.of_ext (ext_later W2 ((xm.comp xn).comp xo))).trans ?_)
          exact (ButS.of_grownBy HG3.out (fun k e => by injection e; subst_vars; exact ⟨by omega, by omega, by omega, by omega, by omega⟩)).trans (ButS.of_but hb4 (.inr ⟨by omega, by omega, by omega, by omega, by omega⟩))
  case post =>
    rintro e W' ⟨⟨v', rfl⟩, hJS, hB⟩
    have HOut : ButS (fun k => w.heap.size ≤ k) w W' := (ButS.of_ext (bx.trans hE)).trans (hB.mono (fun k _ e => by omega))
    have HO1 := Lib.hid HOut
    have hszB := hB.size
    have hD1 : W'.heap[W0.heap.size]? = some (.deferred (some [])) := (hB.block _ (by omega) (by omega)).trans hD0
    refine ⟨⟨_, rfl⟩, ?_⟩
    rcases hJS with ⟨L', D', HL, HMI, hM1, hbo, hb2, hb3, hrec⟩ | ⟨hno, hb2, hb3, hrec⟩
    · refine .inl ⟨hrec, ?_⟩
      intro W'' hBut
      have HK : Hid (W''.heap[W0.heap.size]? = some (.deferred (some []))) := Lib.hid ((hBut.block _ (by omega) (fun e => by injection e; omega)).trans hD1)
      have hq4 := boxed_but hbo hBut (by omega)
      have hc := hq4.cell
      have HQ2 := Lib.hid (boxed_but hb2 hBut (by omega))
      have HQ3 := Lib.hid (boxed_but hb3 hBut (by omega))
      have HM2 : Hid (ownsP W'' (w.heap.size + 1 + 1) (Ad.pieces 38 (bsT s)).length D') := Lib.hid (ownsMap_same hM1 (hBut.block _ hM1.lt (fun e => by injection e; omega)))
      have HBu : Hid (ButS (fun k => w.heap.size ≤ k) w W'') := Lib.hid (HO1.out.trans (ButS.of_but hBut (.inr (by omega))))
      have HR : Hid (Ad.qAll (Ad.pieces 38 (bsT s)) = some L') := Lib.hid (by rw [← HL.out, List.take_of_length_le (Nat.le_refl _)])
      have HA : Hid (AscP L') := Lib.hid (Ad.qAll_ok _ [] L' HR.out (by simp [AscP]) (by simp)).1
      have hkl := Ad.pieces_len 38 (bsT s)
      rw [bsT_size] at hkl
      have hLl : L'.length ≤ (Ad.pieces 38 (bsT s)).length := by have := (Ad.qAll_ok _ [] L' HR.out (by simp [AscP]) (by simp)).2.2; simpa using this
      have hmz : Maps.size D' = L'.length := HMI.out.size HA.out HM2.out strK Tryz.underlying9
      have hsz2 := hBut.size
      clear hbo hb2 hb3 hrec hBut HL hD1 hD0 hB HOut hl0 b1 b2 b4 bmp bsx bsep bsv HO1 hM1 hM0
      gi_wp2_with (refine ⟨trivial, ?_⟩; first
        | (gi_at_call 203; refine (Tryz.mapsKeys _ _).mono ?_; rintro e w' ⟨rfl, rfl⟩)
        | (gi_at_call 199; refine (show Hid _ from ?_).out))
      refine Lib.hid ?_
      refine (Tryz.sortedKeys (w.heap.size + 1 + 1) _ D' _ W'' HM2.out (by rw [hmz]; unfold maxLen; omega) (by rw [hmz]; omega)).mono ?_
      rintro e w5 ⟨v, ss, rfl, hperm, hrow, _, hb5⟩
      obtain ⟨A5, c5, rfl, hks⟩ := keys_owned (L := L') (HMI.out.keys HA.out HM2.out strK Tryz.underlying9 hperm) hrow
      have HKs := Lib.hid hks
      have hx5 : Ext W'' w5 := ((Ext.refl W'').alloc _).trans hb5
      have hs5 := hx5.size
      have HX5 := Lib.hid hx5
      have HM5 : Hid (ownsP w5 (w.heap.size + 1 + 1) (Ad.pieces 38 (bsT s)).length D') := Lib.hid (ownsMap_same HM2.out (hx5.below.block _ HM2.out.lt))
      have HQ4 := Lib.hid (Boxed.ext hq4 hx5)
      have hsm : w.heap.size + 1 + 1 + 1 < w5.heap.size := HQ4.out.lt
      clear hperm hrow hb5 hks hx5 hq4 hc
      gi_wp2
      gi_loopw [43, 9] (fun i v wr => ∃ (j : Nat) (A' : Option Addr) (c' : Nat) (out : List PrB), j ≤ L'.length ∧ i = .int .i64 j ∧ v = .slice A' out.length c' ∧ out.length = j ∧ Hid (out.map prB = L'.take j) ∧ Hid (OwnsPr w5.heap.size wr A' c' out) ∧ Hid (Ext w5 wr)) (fun i _ _ => L'.length - (intOf i).toNat)
      case atStart => exact ⟨0, none, 0, [], Nat.zero_le _, rfl, rfl, rfl, Lib.hid rfl, Lib.hid (Owns.nil _ _ _ _ _), Lib.hid (Ext.refl _)⟩
      case round =>
        obtain ⟨j, A', c', out, hj, rfl, rfl, hoj, HOu, HOw, HX⟩ := hrel
        have hsr := HX.out.size
        by_cases hlt : j < L'.length
        · obtain ⟨b, off, rfl, hb, d1⟩ := ReadsStr.cell ((HKs.out.reads sE).ext HX.out (Nat.le_refl _)) j (by rw [List.length_map]; exact hlt)
          rw [List.getElem_map] at d1
          have hmr : ownsP wr (w.heap.size + 1 + 1) (Ad.pieces 38 (bsT s)).length D' := ownsMap_same HM5.out (HX.out.below.block _ HM5.out.lt)
          have hkb : (keyB L'[j]).size ≤ 64 := by
            have hg := (Ad.qAll_ok _ [] L' HR.out (by simp [AscP]) (by simp)).2.1 _ (List.getElem_mem hlt)
            exact name_64 hg
          obtain ⟨v, ps, hrun, hv⟩ := hmr.lookup (z := .string ByteArray.empty) (zd := .lit (.string [])) (zp := []) strK Tryz.underlying277 (zeroStrC wr) (plainElem_string Tryz.underlying9 (by decide)) (Go.WideMaps.keyOf_string_mk Tryz.underlying9 (s := keyB L'[j]) (by unfold maxLen; omega))
          obtain ⟨vs, rfl, hvs, hvl⟩ := plainElem_string_inv Tryz.underlying9 hv
          have HN : Hid (prB (keyB L'[j], vs) = L'[j]) := Lib.hid (by
            have h1 := HMI.out.val _ (List.getElem_mem hlt) (.lit (.string []))
            have h2 := congrArg Prod.fst hvs
            rw [show (keyB L'[j]).data.toList = (L'[j]).1 from by simp [keyB], h1] at h2
            have h3 : (L'[j]).2 = vs.data.toList := by injection h2 with h2; injection h2
            exact Prod.ext (by simp [prB, keyB, bsT]) h3.symm)
          have HN2 : Hid ((out ++ [(keyB L'[j], vs)]).map prB = L'.take (j + 1)) := Lib.hid (by rw [List.map_append, HOu.out, List.take_succ_eq_append_getElem hlt, List.map_cons, HN.out]; rfl)
          have c4 := (HQ4.out.cell)
          have c4r : wr.cell? ⟨w.heap.size + 1 + 1 + 1, 0, none⟩ = some (.map (some (w.heap.size + 1 + 1))) := (HX.out.cell (p := ⟨w.heap.size + 1 + 1 + 1, 0, none⟩) (by exact hsm)).trans c4
          generalize keyB L'[j] = kb at *
          clear hv hvs hmr HN c4
          gi_wp2_with (gi_at_builtin; refine app_fromIn prT prE rfl _ _ rfl w5.heap.size _ _ out rfl (HOw.out.alloc _) _ 1 _ [(kb, vs)] rfl rfl (new_cellsAt rfl _ _) (by omega) (by omega) (by simp; omega) ?_; intro A3 c3' l3 w3 HL3 HO3 hB hl1 hl2 hG; have HO3' := Lib.hid HO3; have HB3 := Lib.hid hB; have hsz3 := hB.size; clear HO3 hB hG)
          go_roundw
          case rel => exact ⟨j + 1, A3, c3', l3, by omega, by go_num, rfl, by (try simp at hl1); omega, Lib.hid (by rw [HL3.out]; exact HN2.out), HO3', Lib.hid ((HX.out.alloc _).grown HB3.out (Nat.le_refl _))⟩
          case measure => simp [intOf]; omega
        · have e : j = L'.length := by omega
          subst e
          rw [List.take_of_length_le (Nat.le_refl _)] at HOu
          have hq2 : Boxed wr w.heap.size 210 (.slice none 0 0) := Boxed.ext HQ2.out (HX5.out.trans HX.out)
          have hq3 : Boxed wr (w.heap.size + 1) 4 (.bool false) := Boxed.ext HQ3.out (HX5.out.trans HX.out)
          have k2 := hq2.cell
          have k2f := hq2.frozen
          have k3 := hq3.cell
          have k3f := hq3.frozen
          have HQ2r := Lib.hid hq2
          have HQ3r := Lib.hid hq3
          have HKr : Hid (wr.heap[W0.heap.size]? = some (.deferred (some []))) := Lib.hid (((HX5.out.trans HX.out).below.block _ (Array.getElem?_eq_some_iff.1 HK.out).1).trans HK.out)
          have HBr : Hid (ButS (fun k => w.heap.size ≤ k) w wr) := Lib.hid (HBu.out.trans (ButS.of_ext (HX5.out.trans HX.out)))
          clear hq2 hq3
          gi_wp2
          have hK2 : ((wr.setCell ⟨w.heap.size, 0, none⟩ (.slice A' L'.length c')).setCell ⟨w.heap.size + 1, 0, none⟩ (.bool true)).heap[W0.heap.size]? = some (.deferred (some [])) := (Below.heap_setCell _ _ _ _ (by show _ ≠ w.heap.size + 1; omega)).trans ((Below.heap_setCell _ _ _ _ (by show _ ≠ w.heap.size; omega)).trans HKr.out)
          refine ⟨by simp, .inl ⟨_, _, rfl, run_takeDeferred hK2, ?_⟩⟩
          have hgb := grownBy_putObj' ((wr.setCell ⟨w.heap.size, 0, none⟩ (.slice A' L'.length c')).setCell ⟨w.heap.size + 1, 0, none⟩ (.bool true)) W0.heap.size (.deferred none)
          refine ⟨.tuple #[.slice A' L'.length c', .bool true], results_two Tryz.results175 ⟨_, rfl, load_prs (boxed_but ((HQ2r.out.set _).other (by omega) _) hgb (by omega))⟩ ⟨_, rfl, load_bool (boxed_but ((HQ3r.out.other (by omega) _).set _) hgb (by omega))⟩, ?_, ?_⟩
          · rw [HQN.out, HR.out]
            exact ⟨A', c', out, true, by rw [hoj], rfl, HOu.out, (((HOw.out.other (p := ⟨w.heap.size, 0, none⟩) (by show w.heap.size < _; omega) _).other (p := ⟨w.heap.size + 1, 0, none⟩) (by show w.heap.size + 1 < _; omega) _).but hgb (by omega)).lower (by omega)⟩
          · have h1 : ButS (fun k => w.heap.size ≤ k) w ((wr.setCell ⟨w.heap.size, 0, none⟩ (.slice A' L'.length c')).setCell ⟨w.heap.size + 1, 0, none⟩ (.bool true)) := (HBr.out.setCell (p := ⟨w.heap.size, 0, none⟩) (.inr (Nat.le_refl _)) _).setCell (p := ⟨w.heap.size + 1, 0, none⟩) (.inr (by show _ ≤ w.heap.size + 1; omega)) _
            exact (h1.trans (ButS.of_but hgb (.inr (by omega)))).toExt (fun k hk => by omega)
    · refine .inr ⟨_, hrec, ?_⟩
      intro W'' hBut
      have HK : Hid (W''.heap[W0.heap.size]? = some (.deferred (some []))) := Lib.hid ((hBut.block _ (by omega) (fun e => by injection e; omega)).trans hD1)
      have hq2 := boxed_but hb2 hBut (by omega)
      have hq3 := boxed_but hb3 hBut (by omega)
      have k2 := hq2.cell
      have k3 := hq3.cell
      have HQ2 := Lib.hid hq2
      have HQ3 := Lib.hid hq3
      have HBu : Hid (ButS (fun k => w.heap.size ≤ k) w W'') := Lib.hid (HO1.out.trans (ButS.of_but hBut (.inr (by omega))))
      have HR := Lib.hid hno
      clear hb2 hb3 hrec hBut hno hq2 hq3 hD1 hD0 hB HOut hl0 b1 b2 b4 bmp bsx bsep bsv HO1 hM0
      gi_wp2
      refine ⟨by simp, .inl ⟨_, _, rfl, run_takeDeferred HK.out, ?_⟩⟩
      have hgb := grownBy_putObj' W'' W0.heap.size (.deferred none)
      refine ⟨.tuple #[.slice none 0 0, .bool false], results_two Tryz.results175 ⟨_, rfl, load_prs (boxed_but HQ2.out hgb (by omega))⟩ ⟨_, rfl, load_bool (boxed_but HQ3.out hgb (by omega))⟩, ?_, ?_⟩
      · rw [HQN.out, HR.out]
        exact ⟨none, 0, [], false, rfl, rfl, rfl, Owns.nil _ _ _ _ _⟩
      · exact (HBu.out.trans (ButS.of_but hgb (.inr (by omega)))).toExt (fun k hk => by omega)
end
end Go.Proofs.YtpfhmcdcmepfdaaGreatDoor


set_option linter.unusedVariables false
set_option linter.unusedSimpArgs false
namespace Go.Proofs.YtpfhmcdcmepfdaaGreatDoor
open Go.RowKit Go.Shelf
open Go.Proofs

theorem pairs_any (s : ByteArray) (w : World) (hs : s.size ≤ 4096) : Calls Tryz.prog 175 #[.string s] w fun e w' => PrsU (Ad.quN (bsT s)) w.heap.size e w' ∧ Ext w w' := by
  by_cases h : bsT s = []
  · exact pairs_none s w h
  · exact pairs_some s w h hs
theorem canon_all (s : ByteArray) (w : World) (hs : s.size ≤ 900000) :
    Calls Tryz.prog 108 #[.string s] w fun e w' => e = .returned (.tuple #[.string ⟨(Ad.canonT (bsT s)).toArray⟩, .int .i64 (Ad.canonE (bsT s))]) ∧ Ext w w' :=
  canon_any s w hs (fun q W _ hq _ => pairs_any q W hq)
end Go.Proofs.YtpfhmcdcmepfdaaGreatDoor


set_option linter.unusedVariables false
set_option linter.unusedSimpArgs false
namespace Go.Proofs.YtpfhmcdcmepfdaaGreatDoor
open Go.RowKit Go.Shelf
open Go.Proofs

set_option maxRecDepth 100000 in
set_option maxHeartbeats 2000000 in
theorem r6cut_any (s : ByteArray) (sep : UInt8) (w : World) (hs : s.size ≤ 900000) :
    Calls Tryz.prog 210 #[.string s, .int .u8 sep.toNat] w fun e w' => CutIs sep s e ∧ Ext w w' := by
  have hsb := sep.toNat_lt
  go_enter Tryz.func210, Tryz.ntmps210
  go_wp2
  go_loopw [7] (fun i wr => ∃ k : Nat, i = .int .i64 k ∧ k ≤ s.size ∧ Hid (∀ j (hj : j < (bsT s).length), j < k → (bsT s)[j] ≠ sep) ∧ Hid (Ext w wr)) (fun i _ => s.size - (intOf i).toNat)
  case atStart => exact ⟨0, rfl, Nat.zero_le _, Lib.hid (fun j _ h => absurd h (by omega)), Lib.hid (Ext.refl _)⟩
  case round =>
    obtain ⟨k, rfl, hk, HN, HX⟩ := hrel
    by_cases hlt : k < s.size
    · have hl : k < (bsT s).length := by rw [bsT_size]; exact hlt
      have hg : (bsT s)[k] = s[k] := by simp only [bsT, Array.getElem_toList]; rfl
      by_cases hc : s[k] = sep
      · have hcc : ((s[k].toNat : Int) == (sep.toNat : Int)) = true := by rw [hc]; simp
        have HC : Hid (CutIs sep s (.returned (.tuple #[.string (s.extract 0 k), .string (s.extract (k + 1) s.size), .bool true]))) := Lib.hid ⟨_, _, _, rfl, by rw [bsT_take, bsT_rest, Ad.cutB_hit hl (hg.trans hc) HN.out], by rw [ByteArray.size_extract]; omega, by rw [ByteArray.size_extract]; omega⟩
        clear hc hg
        go_wp2
        refine wp_region_later (by kernel_rfl) (by kernel_rfl) ?_
        repeat (first | go_big_quiet_step (fail) | quiet_step (fail))
        refine wpQuiet_nil ?_
        rintro _ ⟨xq, rfl⟩
        go_wp2
        refine bodyPost_ret (v := .tuple #[.string (s.extract 0 k), .string (s.extract (k + 1) s.size), .bool true]) ?_ rfl ⟨HC.out, (by (repeat (first | with_reducible exact HX.out | with_reducible exact Ext.refl _ | with_reducible refine Ext.drew ?_ | with_reducible refine Ext.drewN ?_ _ | with_reducible refine Ext.alloc ?_ _ | with_reducible refine Ext.onto ?_ _ | (with_reducible refine Ext.setCells ?_ ?_ _ _; rotate_left; focus (first | omega | (simp; done) | (simp; omega))) | (with_reducible refine Ext.setCell ?_ ?_ _; rotate_left; focus (first | omega | (simp; done) | (simp; omega))))))⟩
        simp [results, Tryz.results210, go_sem]
      · have hcc : ((s[k].toNat : Int) == (sep.toNat : Int)) = false := by
          rw [beq_eq_false_iff_ne]
          exact fun h => hc (UInt8.toNat_inj.1 (by omega))
        have HN2 : Hid (∀ j (hj : j < (bsT s).length), j < k + 1 → (bsT s)[j] ≠ sep) := Lib.hid (fun j hj h => by
          by_cases e : j = k
          · subst e; rw [hg]; exact hc
          · exact HN.out j hj (by omega))
        clear hc hg HN
        go_wp2
        go_roundw
        case rel => exact ⟨k + 1, by go_num, by omega, HN2, HX⟩
        case measure => simp [intOf]; omega
    · have HC : Hid (CutIs sep s (.returned (.tuple #[.string s, .string ByteArray.empty, .bool false]))) := Lib.hid ⟨_, _, _, rfl, by
        rw [Ad.cutB_miss (fun hm => by
          obtain ⟨j, hj, e⟩ := List.mem_iff_getElem.1 hm
          exact HN.out j hj (by rw [bsT_size] at hj; omega) e)]
        rfl, Nat.le_refl _, Nat.zero_le _⟩
      clear HN
      go_wp2
      refine bodyPost_ret (v := .tuple #[.string s, .string ByteArray.empty, .bool false]) ?_ rfl ⟨HC.out, (by (repeat (first | with_reducible exact HX.out | with_reducible exact Ext.refl _ | with_reducible refine Ext.drew ?_ | with_reducible refine Ext.drewN ?_ _ | with_reducible refine Ext.alloc ?_ _ | with_reducible refine Ext.onto ?_ _ | (with_reducible refine Ext.setCells ?_ ?_ _ _; rotate_left; focus (first | omega | (simp; done) | (simp; omega))) | (with_reducible refine Ext.setCell ?_ ?_ _; rotate_left; focus (first | omega | (simp; done) | (simp; omega))))))⟩
      simp [results, Tryz.results210, go_sem]
      rfl
attribute [local go_sem] strConv
set_option maxHeartbeats 1000000 in
theorem rsmall_any (s : ByteArray) (w : World) (hs : s.size ≤ 900000) :
    Calls Tryz.prog 211 #[.string s] w fun e w' => SmallIs s e ∧ Ext w w' := by
  have hbl := bts_length s
  have hbb := Lib.hid (bts_byte s)
  have hba := Lib.hid (bytes_at w 5 s)
  go_enter Tryz.func211, Tryz.ntmps211
  go_wp2
  refine wp_world (fun W => Ext w W ∧ ByteAt W w.heap.size (lowTo (bts s) 0)) ⟨ext_bytes _ _ _, by rw [lowTo_zero]; exact hba.out⟩ ?_
  rintro W1 ⟨x1, b1⟩
  have HX1 := Lib.hid x1
  have HB1 := Lib.hid b1
  clear x1 b1
  generalize grownCap w s.size 0 5 = gc
  go_loopw [4] (fun i wr => ∃ k : Nat, k ≤ s.size ∧ i = .int .i64 k ∧ Hid (ByteAt wr w.heap.size (lowTo (bts s) k)) ∧ Hid (Ext w wr)) (fun i _ => s.size - (intOf i).toNat)
  case atStart => exact ⟨0, Nat.zero_le _, rfl, HB1, HX1⟩
  case round =>
    obtain ⟨k, hk, rfl, HB, HX⟩ := hrel
    clear HX1 HB1
    have hlt0 := HB.out.1
    by_cases hlt : k < s.size
    · have hc := (HB.out.2 k (by rw [lowTo_len]; omega)).1
      have hf := (HB.out.2 k (by rw [lowTo_len]; omega)).2
      rw [lowTo_at _ _ (by omega)] at hc
      have hby := getD_byte hbb.out k
      have HN := Lib.hid (fun h => ByteAt.lowKeep HB.out (by omega) h)
      have HL := Lib.hid (fun u h => ByteAt.low HB.out (by omega) u h)
      generalize (bts s).getD k 0 = x at *
      obtain ⟨hx0, hx1⟩ := hby
      by_cases h1 : 65 ≤ x
      · have d1 : decide (65 ≤ x) = true := by simpa using h1
        by_cases h2 : x ≤ 90
        · have d2 : decide (x ≤ 90) = true := by simpa using h2
          have HB2 := Lib.hid (HL.out (x + 32) (by unfold lowZ; rw [if_pos ⟨h1, h2⟩]))
          clear HN HL
          go_wp2
          go_roundw
          case rel => exact ⟨k + 1, by omega, by go_num, HB2, Lib.hid (HX.out.setCell (Nat.le_refl _) _)⟩
          case measure => simp [intOf]; omega
        · have d2 : decide (x ≤ 90) = false := by simpa using h2
          have HB2 := Lib.hid (HN.out (by unfold lowZ; rw [if_neg (by omega)]))
          clear HN HL
          go_wp2
          go_roundw
          case rel => exact ⟨k + 1, by omega, by go_num, HB2, HX⟩
          case measure => simp [intOf]; omega
      · have d1 : decide (65 ≤ x) = false := by simpa using h1
        have HB2 := Lib.hid (HN.out (by unfold lowZ; rw [if_neg (by omega)]))
        clear HN HL
        go_wp2
        go_roundw
        case rel => exact ⟨k + 1, by omega, by go_num, HB2, HX⟩
        case measure => simp [intOf]; omega
    · have e : k = s.size := by omega
      subst e
      have HB2 : Hid (ByteAt wr w.heap.size ((bts s).map lowZ)) := Lib.hid (by rw [← lowTo_all, hbl]; exact HB.out)
      by_cases h0 : s.size = 0
      · have HS : Hid (SmallIs s (.returned (.string ByteArray.empty))) := Lib.hid ⟨_, rfl, lows_nil h0, h0.symm⟩
        have hcv := conv_nobytes wr (some ⟨w.heap.size, 0, none⟩) gc
        rw [h0]
        clear hbl
        go_wp2
        go_ret
        exact ⟨HS.out, HX.out⟩
      · have HS : Hid (SmallIs s (.returned (.string (strOfNums ((bts s).map lowZ))))) := Lib.hid ⟨_, rfl, lows_bs s, lows_size s⟩
        have hl2 : ((bts s).map lowZ).length = s.size := by rw [List.length_map, hbl]
        have hcv := conv_bytes gc HB2.out.reads (by omega)
        rw [hl2] at hcv
        clear hbl hl2
        go_wp2
        go_ret
        exact ⟨HS.out, HX.out⟩
end Go.Proofs.YtpfhmcdcmepfdaaGreatDoor


set_option linter.unusedVariables false
set_option linter.unusedSimpArgs false
namespace Go.Proofs.YtpfhmcdcmepfdaaGreatDoor.Ad
open Go
def putStep (p : Pr) (st : List Pr × Bool) (x : Pr) : List Pr × Bool :=
  if st.2 = false ∧ p.1 ≤ x.1 then if x.1 = p.1 then (st.1 ++ [p], true) else (st.1 ++ [p] ++ [x], true)
  else if x.1 = p.1 then st else (st.1 ++ [x], st.2)
theorem put_true (p : Pr) : ∀ (l : List Pr) (out : List Pr), (∀ x ∈ l, p.1 < x.1) → l.foldl (putStep p) (out, true) = (out ++ l, true)
  | [], out, _ => by simp
  | q :: r, out, h => by
    have hq := h q (by simp)
    have hne : ¬ q.1 = p.1 := fun e => by rw [e] at hq; exact List.lt_irrefl _ hq
    rw [List.foldl_cons, show putStep p (out, true) q = (out ++ [q], true) by simp [putStep, hne], put_true p r _ (fun x hx => h x (List.mem_cons_of_mem _ hx))]
    simp
theorem put_false (p : Pr) : ∀ (l : List Pr) (out : List Pr), AscP l → (l.foldl (putStep p) (out, false)).1 ++ (if (l.foldl (putStep p) (out, false)).2 then [] else [p]) = out ++ putP p l
  | [], out, _ => by simp [putP]
  | q :: r, out, h => by
    have hq := List.pairwise_cons.1 h
    have hr : ∀ x ∈ r, q.1 < x.1 := fun x hx => hq.1 _ (List.mem_map_of_mem hx)
    rw [List.foldl_cons]
    by_cases h1 : p.1 < q.1
    · have hne : ¬ q.1 = p.1 := fun e => by rw [e] at h1; exact List.lt_irrefl _ h1
      have hle : p.1 ≤ q.1 := List.le_of_lt h1
      rw [show putStep p (out, false) q = (out ++ [p] ++ [q], true) by simp [putStep, hne, hle], put_true p r _ (fun x hx => List.lt_trans h1 (hr x hx))]
      simp [putP, h1]
    · by_cases h2 : p.1 = q.1
      · rw [show putStep p (out, false) q = (out ++ [p], true) by simp [putStep, h2], put_true p r _ (fun x hx => by rw [h2]; exact hr x hx)]
        simp [putP, h1, h2]
      · have hlt := lt_of h1 h2
        have hnle : ¬ p.1 ≤ q.1 := fun hle => h2 (List.le_antisymm hle (List.le_of_lt hlt))
        have hne : ¬ q.1 = p.1 := fun e => h2 e.symm
        rw [show putStep p (out, false) q = (out ++ [q], false) by simp [putStep, hne, hnle], put_false p r _ hq.2]
        simp [putP, h1, h2]
end Go.Proofs.YtpfhmcdcmepfdaaGreatDoor.Ad
namespace Go.Proofs.YtpfhmcdcmepfdaaGreatDoor
open Go.RowKit Go.Shelf
open Go.Proofs

theorem put_take (l : List PrB) (p : Ad.Pr) (k : Nat) (h : k < l.length) : ((l.take (k + 1)).map prB).foldl (Ad.putStep p) ([], false) = Ad.putStep p (((l.take k).map prB).foldl (Ad.putStep p) ([], false)) (prB l[k]) := by
  rw [List.take_succ_eq_append_getElem h, List.map_append, List.foldl_append]
  rfl
def PutRel (w W1 : World) (l : List PrB) (s : PrB) (o b i : Value) (wr : World) : Prop := ∃ (A : Option Addr) (c : Nat) (out : List PrB) (put : Bool) (k : Nat), o = .slice A out.length c ∧ b = .bool put ∧ i = .int .i64 k ∧ k ≤ l.length ∧ out.length ≤ k + k ∧
  Hid ((out.map prB, put) = ((l.take k).map prB).foldl (Ad.putStep (prB s)) ([], false)) ∧ Hid (OwnsPr (w.heap.size + 1) wr A c out) ∧ Hid (Ext W1 wr)
set_option maxRecDepth 100000 in
set_option maxHeartbeats 4000000 in
theorem r6put_any (A0 : Option Addr) (c0 : Nat) (l : List PrB) (s : PrB) (w : World) (hl : l.length ≤ 900000) (hr : ReadsPr w w.heap.size A0 l) (ha : Ad.AscP (l.map prB)) :
    Calls Tryz.prog 232 #[.slice A0 l.length c0, .agg #[.string s.1, .string s.2]] w fun e w' => ∃ A c out, e = .returned (.slice A out.length c) ∧ out.map prB = Ad.putP (prB s) (l.map prB) ∧ OwnsPr w.heap.size w' A c out ∧ Ext w w' := by
  have HR := Lib.hid hr
  have HAs := Lib.hid ha
  clear hr ha
  go_enter Tryz.func232, Tryz.ntmps232
  go_wp2
  refine wp_world (fun W => Ext w W ∧ W.heap.size = w.heap.size + 1 ∧ W.cell? ⟨w.heap.size, 0, none⟩ = some (.string s.1) ∧ W.cell? ⟨w.heap.size, 1, none⟩ = some (.string s.2)) ⟨(by (repeat (first | with_reducible exact Ext.refl _ | with_reducible exact Ext.refl _ | with_reducible refine Ext.drew ?_ | with_reducible refine Ext.drewN ?_ _ | with_reducible refine Ext.alloc ?_ _ | with_reducible refine Ext.onto ?_ _ | (with_reducible refine Ext.setCells ?_ ?_ _ _; rotate_left; focus (first | omega | (simp; done) | (simp; omega))) | (with_reducible refine Ext.setCell ?_ ?_ _; rotate_left; focus (first | omega | (simp; done) | (simp; omega)))))), by simp, by rw [alloc_cell_if, if_pos rfl]; rfl, by rw [alloc_cell_if, if_pos rfl]; rfl⟩ ?_
  rintro W1 ⟨hx1, hsz1, p10, p20⟩
  have HX1 := Lib.hid hx1
  have HP1 := Lib.hid p10
  have HP2 := Lib.hid p20
  clear hx1 p10 p20
  go_loopw [5, 6, 7] (PutRel w W1 l s) (fun _ _ i _ => l.length - (intOf i).toNat)
  case atStart => exact ⟨none, 0, [], false, 0, rfl, rfl, rfl, Nat.zero_le _, Nat.le_refl _, Lib.hid rfl, Lib.hid (Owns.nil _ _ _ _ _), Lib.hid (Ext.refl _)⟩
  case round =>
    obtain ⟨A, c, out, put, k, rfl, rfl, rfl, hk, hok, HF, HO, HX⟩ := hrel
    have hsz := HX.out.size
    have p1 : wr.cell? ⟨w.heap.size, 0, none⟩ = some (.string s.1) := (HX.out.cell (p := ⟨w.heap.size, 0, none⟩) (by show w.heap.size < _; omega)).trans HP1.out
    have p2 : wr.cell? ⟨w.heap.size, 1, none⟩ = some (.string s.2) := (HX.out.cell (p := ⟨w.heap.size, 1, none⟩) (by show w.heap.size < _; omega)).trans HP2.out
    by_cases hlt : k < l.length
    · obtain ⟨b, off, rfl, hb, d1, d2⟩ := ReadsPr.cell (HR.out.ext (HX1.out.trans HX.out) (Nat.le_refl _)) k hlt
      have hst := put_take l (prB s) k hlt
      rw [← HF.out] at hst
      generalize l[k] = x at *
      have HLE := Lib.hid (le_walk s.1 x.1)
      have HNE := Lib.hid (eq_walk x.1 s.1)
      by_cases h1 : put = false ∧ bsT s.1 ≤ bsT x.1
      · obtain ⟨rfl, h2⟩ := h1
        have e1 : (Op.bytesLess s.1.toList x.1.toList || s.1.toList == x.1.toList) = true := by rw [HLE.out]; simpa using h2
        by_cases h3 : bsT x.1 = bsT s.1
        · have e2 : (x.1.toList == s.1.toList) = true := by rw [HNE.out]; simpa using h3
          have HS : Hid (((l.take (k + 1)).map prB).foldl (Ad.putStep (prB s)) ([], false) = ((out ++ [s]).map prB, true)) := Lib.hid (by rw [hst]; simp [Ad.putStep, prB, h3])
          clear hst h2 h3
          go_wp2
          refine wp_region_later (by kernel_rfl) (by kernel_rfl) ?_
          repeat (first | go_big_quiet_step (fail) | quiet_step (fail))
          refine wpQuiet_nil ?_
          rintro _ ⟨xq, rfl⟩
          have HXq := Lib.hid (HX.out.onto xq)
          have HOq := Lib.hid (HO.out.later xq)
          replace p1 := ((ext_later _ xq).cell (p := ⟨w.heap.size, 0, none⟩) (by show w.heap.size < _; omega)).trans p1
          replace p2 := ((ext_later _ xq).cell (p := ⟨w.heap.size, 1, none⟩) (by show w.heap.size < _; omega)).trans p2
          replace d1 := ((ext_later _ xq).cell (p := ⟨b, off + k * 2, none⟩) (by show b < _; omega)).trans d1
          replace d2 := ((ext_later _ xq).cell (p := ⟨b, off + k * 2 + 1, none⟩) (by show b < _; omega)).trans d2
          have hszq := HXq.out.size
          go_wp2_with (at_builtin; refine (show Hid _ from ?_).out)
          refine Lib.hid ?_
          refine app_from prT prE rfl _ _ rfl (w.heap.size + 1) _ _ out rfl (HOq.out.alloc _) _ 1 _ [s] rfl rfl (new_cellsAt (by first | rfl | exact (later_size _ _).symm) _ _) (by omega) (by omega) (by first | omega | (simp [later_size]; omega)) ?_
          intro A2 c2 l2 w2 HL hO9 hB9 hl1 hl2 _
          have HO2 := Lib.hid hO9
          have HB2 := Lib.hid hB9
          have hszx := hB9.size
          rw [World.size_alloc] at hszx
          clear hO9
          have r1 := (hB9.cell (p := ⟨w.heap.size, 0, none⟩) (by show w.heap.size < w.heap.size + 1; omega)).trans (Lib.cell?_alloc_some _ p1)
          have r2 := (hB9.cell (p := ⟨w.heap.size, 1, none⟩) (by show w.heap.size < w.heap.size + 1; omega)).trans (Lib.cell?_alloc_some _ p2)
          have r3 := (hB9.cell (p := ⟨b, off + k * 2, none⟩) (by show b < w.heap.size + 1; omega)).trans (Lib.cell?_alloc_some _ d1)
          have r4 := (hB9.cell (p := ⟨b, off + k * 2 + 1, none⟩) (by show b < w.heap.size + 1; omega)).trans (Lib.cell?_alloc_some _ d2)
          clear p1 p2 d1 d2 hB9
          have p1 := r1
          have p2 := r2
          have d1 := r3
          have d2 := r4
          clear r1 r2 r3 r4
          have HX2 : Hid (Ext W1 w2) := Lib.hid ((HXq.out.alloc _).grown HB2.out (by omega))
          go_wp2
          refine wp_region_later (by kernel_rfl) (by kernel_rfl) ?_
          repeat (first | go_big_quiet_step (fail) | quiet_step (fail))
          refine wpQuiet_nil ?_
          rintro _ ⟨xq, rfl⟩
          have HXq2 := Lib.hid (HX2.out.onto xq)
          have HOq2 := Lib.hid (HO2.out.later xq)
          replace p1 := ((ext_later _ xq).cell (p := ⟨w.heap.size, 0, none⟩) (by show w.heap.size < _; omega)).trans p1
          replace p2 := ((ext_later _ xq).cell (p := ⟨w.heap.size, 1, none⟩) (by show w.heap.size < _; omega)).trans p2
          replace d1 := ((ext_later _ xq).cell (p := ⟨b, off + k * 2, none⟩) (by show b < _; omega)).trans d1
          replace d2 := ((ext_later _ xq).cell (p := ⟨b, off + k * 2 + 1, none⟩) (by show b < _; omega)).trans d2
          have hszq := HXq2.out.size
          go_wp2
          go_roundw
          case rel => exact ⟨A2, c2, l2, true, k + 1, rfl, rfl, by go_num, by omega, by (try simp at hl1 hl2); omega, by rw [HL.out]; exact Lib.hid HS.out.symm, HOq2, HXq2⟩
          case measure => simp [intOf]; omega
        · have e2 : (x.1.toList == s.1.toList) = false := by rw [HNE.out]; simpa using h3
          have HS : Hid (((l.take (k + 1)).map prB).foldl (Ad.putStep (prB s)) ([], false) = ((out ++ [s] ++ [x]).map prB, true)) := Lib.hid (by rw [hst]; simp [Ad.putStep, prB, h2, h3])
          clear hst h2 h3
          go_wp2
          refine wp_region_later (by kernel_rfl) (by kernel_rfl) ?_
          repeat (first | go_big_quiet_step (fail) | quiet_step (fail))
          refine wpQuiet_nil ?_
          rintro _ ⟨xq, rfl⟩
          have HXq := Lib.hid (HX.out.onto xq)
          have HOq := Lib.hid (HO.out.later xq)
          replace p1 := ((ext_later _ xq).cell (p := ⟨w.heap.size, 0, none⟩) (by show w.heap.size < _; omega)).trans p1
          replace p2 := ((ext_later _ xq).cell (p := ⟨w.heap.size, 1, none⟩) (by show w.heap.size < _; omega)).trans p2
          replace d1 := ((ext_later _ xq).cell (p := ⟨b, off + k * 2, none⟩) (by show b < _; omega)).trans d1
          replace d2 := ((ext_later _ xq).cell (p := ⟨b, off + k * 2 + 1, none⟩) (by show b < _; omega)).trans d2
          have hszq := HXq.out.size
          go_wp2_with (at_builtin; refine (show Hid _ from ?_).out)
          refine Lib.hid ?_
          refine app_from prT prE rfl _ _ rfl (w.heap.size + 1) _ _ out rfl (HOq.out.alloc _) _ 1 _ [s] rfl rfl (new_cellsAt (by first | rfl | exact (later_size _ _).symm) _ _) (by omega) (by omega) (by first | omega | (simp [later_size]; omega)) ?_
          intro A2 c2 l2 w2 HL hO9 hB9 hl1 hl2 _
          have HO2 := Lib.hid hO9
          have HB2 := Lib.hid hB9
          have hszx := hB9.size
          rw [World.size_alloc] at hszx
          clear hO9
          have r1 := (hB9.cell (p := ⟨w.heap.size, 0, none⟩) (by show w.heap.size < w.heap.size + 1; omega)).trans (Lib.cell?_alloc_some _ p1)
          have r2 := (hB9.cell (p := ⟨w.heap.size, 1, none⟩) (by show w.heap.size < w.heap.size + 1; omega)).trans (Lib.cell?_alloc_some _ p2)
          have r3 := (hB9.cell (p := ⟨b, off + k * 2, none⟩) (by show b < w.heap.size + 1; omega)).trans (Lib.cell?_alloc_some _ d1)
          have r4 := (hB9.cell (p := ⟨b, off + k * 2 + 1, none⟩) (by show b < w.heap.size + 1; omega)).trans (Lib.cell?_alloc_some _ d2)
          clear p1 p2 d1 d2 hB9
          have p1 := r1
          have p2 := r2
          have d1 := r3
          have d2 := r4
          clear r1 r2 r3 r4
          have HX2 : Hid (Ext W1 w2) := Lib.hid ((HXq.out.alloc _).grown HB2.out (by omega))
          go_wp2
          refine wp_region_later (by kernel_rfl) (by kernel_rfl) ?_
          repeat (first | go_big_quiet_step (fail) | quiet_step (fail))
          refine wpQuiet_nil ?_
          rintro _ ⟨xq, rfl⟩
          have HXq2 := Lib.hid (HX2.out.onto xq)
          have HOq2 := Lib.hid (HO2.out.later xq)
          replace p1 := ((ext_later _ xq).cell (p := ⟨w.heap.size, 0, none⟩) (by show w.heap.size < _; omega)).trans p1
          replace p2 := ((ext_later _ xq).cell (p := ⟨w.heap.size, 1, none⟩) (by show w.heap.size < _; omega)).trans p2
          replace d1 := ((ext_later _ xq).cell (p := ⟨b, off + k * 2, none⟩) (by show b < _; omega)).trans d1
          replace d2 := ((ext_later _ xq).cell (p := ⟨b, off + k * 2 + 1, none⟩) (by show b < _; omega)).trans d2
          have hszq := HXq2.out.size
          try simp at hl1 hl2
          go_wp2_with (at_builtin; refine (show Hid _ from ?_).out)
          refine Lib.hid ?_
          refine app_from prT prE rfl _ _ rfl (w.heap.size + 1) _ _ l2 rfl (HOq2.out.alloc _) _ 1 _ [x] rfl rfl (new_cellsAt (by first | rfl | exact (later_size _ _).symm) _ _) (by omega) (by omega) (by first | omega | (simp [later_size]; omega)) ?_
          intro A3 c3 l3 w3 HL3 hO9 hB9 hl3 hl4 _
          have HO3 := Lib.hid hO9
          have HB3 := Lib.hid hB9
          have hszx := hB9.size
          rw [World.size_alloc] at hszx
          clear hO9
          clear hB9
          go_wp2
          go_roundw
          case rel => exact ⟨A3, c3, l3, true, k + 1, rfl, rfl, by go_num, by omega, by (try simp at hl3 hl4); omega, by rw [HL3.out, HL.out]; exact Lib.hid HS.out.symm, HO3, Lib.hid ((HXq2.out.alloc _).grown HB3.out (by omega))⟩
          case measure => simp [intOf]; omega
      · by_cases h3 : bsT x.1 = bsT s.1
        · have e2 : (x.1.toList == s.1.toList) = true := by rw [HNE.out]; simpa using h3
          have HS : Hid (((l.take (k + 1)).map prB).foldl (Ad.putStep (prB s)) ([], false) = (out.map prB, put)) := Lib.hid (by rw [hst]; unfold Ad.putStep; rw [if_neg (by simpa [prB] using h1), if_pos (by simpa [prB] using h3)])
          cases put with
          | true =>
            clear hst h1 h3
            go_wp2
            refine wp_region_later (by kernel_rfl) (by kernel_rfl) ?_
            repeat (first | go_big_quiet_step (fail) | quiet_step (fail))
            refine wpQuiet_nil ?_
            rintro _ ⟨xq, rfl⟩
            rename Later => xa
            go_wp2
            refine wp_region_later (by kernel_rfl) (by kernel_rfl) ?_
            repeat (first | go_big_quiet_step (fail) | quiet_step (fail))
            refine wpQuiet_nil ?_
            rintro _ ⟨xq, rfl⟩
            have HXq2 := Lib.hid ((HX.out.onto xa).onto xq)
            have HOq2 := Lib.hid ((HO.out.later xa).later xq)
            have hszq := HXq2.out.size
            go_wp2
            go_roundw
            case rel => exact ⟨A, c, out, true, k + 1, rfl, rfl, by go_num, by omega, by omega, Lib.hid HS.out.symm, HOq2, HXq2⟩
            case measure => simp [intOf]; omega
          | false =>
            have e1 : (Op.bytesLess s.1.toList x.1.toList || s.1.toList == x.1.toList) = false := by rw [HLE.out]; simpa using h1
            clear hst h1 h3
            go_wp2
            refine wp_region_later (by kernel_rfl) (by kernel_rfl) ?_
            repeat (first | go_big_quiet_step (fail) | quiet_step (fail))
            refine wpQuiet_nil ?_
            rintro _ ⟨xq, rfl⟩
            rename Later => xa
            go_wp2
            refine wp_region_later (by kernel_rfl) (by kernel_rfl) ?_
            repeat (first | go_big_quiet_step (fail) | quiet_step (fail))
            refine wpQuiet_nil ?_
            rintro _ ⟨xq, rfl⟩
            have HXq2 := Lib.hid ((HX.out.onto xa).onto xq)
            have HOq2 := Lib.hid ((HO.out.later xa).later xq)
            have hszq := HXq2.out.size
            go_wp2
            go_roundw
            case rel => exact ⟨A, c, out, false, k + 1, rfl, rfl, by go_num, by omega, by omega, Lib.hid HS.out.symm, HOq2, HXq2⟩
            case measure => simp [intOf]; omega
        · have e2 : (x.1.toList == s.1.toList) = false := by rw [HNE.out]; simpa using h3
          have HS : Hid (((l.take (k + 1)).map prB).foldl (Ad.putStep (prB s)) ([], false) = ((out ++ [x]).map prB, put)) := Lib.hid (by rw [hst]; unfold Ad.putStep; rw [if_neg (by simpa [prB] using h1), if_neg (by simpa [prB] using h3), List.map_append, List.map_singleton])
          cases put with
          | true =>
            clear hst h1 h3
            go_wp2
            refine wp_region_later (by kernel_rfl) (by kernel_rfl) ?_
            repeat (first | go_big_quiet_step (fail) | quiet_step (fail))
            refine wpQuiet_nil ?_
            rintro _ ⟨xq, rfl⟩
            rename Later => xa
            go_wp2
            refine wp_region_later (by kernel_rfl) (by kernel_rfl) ?_
            repeat (first | go_big_quiet_step (fail) | quiet_step (fail))
            refine wpQuiet_nil ?_
            rintro _ ⟨xq, rfl⟩
            have HXq2 := Lib.hid ((HX.out.onto xa).onto xq)
            have HOq2 := Lib.hid ((HO.out.later xa).later xq)
            have hszq := HXq2.out.size
            go_wp2_with (at_builtin; refine (show Hid _ from ?_).out)
            refine Lib.hid ?_
            refine app_from prT prE rfl _ _ rfl (w.heap.size + 1) _ _ out rfl (HOq2.out.alloc _) _ 1 _ [x] rfl rfl (new_cellsAt (by first | rfl | exact (later_size _ _).symm) _ _) (by omega) (by omega) (by first | omega | (simp [later_size]; omega)) ?_
            intro A2 c2 l2 w2 HL hO9 hB9 hl1 hl2 _
            have HO2 := Lib.hid hO9
            have HB2 := Lib.hid hB9
            have hszx := hB9.size
            rw [World.size_alloc] at hszx
            clear hO9
            clear hB9
            go_wp2
            go_roundw
            case rel => exact ⟨A2, c2, l2, true, k + 1, rfl, rfl, by go_num, by omega, by (try simp at hl1 hl2); omega, by rw [HL.out]; exact Lib.hid HS.out.symm, HO2, Lib.hid ((HXq2.out.alloc _).grown HB2.out (by omega))⟩
            case measure => simp [intOf]; omega
          | false =>
            have e1 : (Op.bytesLess s.1.toList x.1.toList || s.1.toList == x.1.toList) = false := by rw [HLE.out]; simpa using h1
            clear hst h1 h3
            go_wp2
            refine wp_region_later (by kernel_rfl) (by kernel_rfl) ?_
            repeat (first | go_big_quiet_step (fail) | quiet_step (fail))
            refine wpQuiet_nil ?_
            rintro _ ⟨xq, rfl⟩
            rename Later => xa
            go_wp2
            refine wp_region_later (by kernel_rfl) (by kernel_rfl) ?_
            repeat (first | go_big_quiet_step (fail) | quiet_step (fail))
            refine wpQuiet_nil ?_
            rintro _ ⟨xq, rfl⟩
            have HXq2 := Lib.hid ((HX.out.onto xa).onto xq)
            have HOq2 := Lib.hid ((HO.out.later xa).later xq)
            have hszq := HXq2.out.size
            go_wp2_with (at_builtin; refine (show Hid _ from ?_).out)
            refine Lib.hid ?_
            refine app_from prT prE rfl _ _ rfl (w.heap.size + 1) _ _ out rfl (HOq2.out.alloc _) _ 1 _ [x] rfl rfl (new_cellsAt (by first | rfl | exact (later_size _ _).symm) _ _) (by omega) (by omega) (by first | omega | (simp [later_size]; omega)) ?_
            intro A2 c2 l2 w2 HL hO9 hB9 hl1 hl2 _
            have HO2 := Lib.hid hO9
            have HB2 := Lib.hid hB9
            have hszx := hB9.size
            rw [World.size_alloc] at hszx
            clear hO9
            clear hB9
            go_wp2
            go_roundw
            case rel => exact ⟨A2, c2, l2, false, k + 1, rfl, rfl, by go_num, by omega, by (try simp at hl1 hl2); omega, by rw [HL.out]; exact Lib.hid HS.out.symm, HO2, Lib.hid ((HXq2.out.alloc _).grown HB2.out (by omega))⟩
            case measure => simp [intOf]; omega
    · have e : k = l.length := by omega
      subst e
      rw [List.take_length] at HF
      have hi := Ad.put_false (prB s) (l.map prB) [] HAs.out
      rw [← HF.out, List.nil_append] at hi
      cases put with
      | true =>
        have HI : Hid (out.map prB = Ad.putP (prB s) (l.map prB)) := Lib.hid (by simpa using hi)
        clear hi
        go_wp2
        go_ret
        exact ⟨A, c, out, rfl, HI.out, HO.out.lower (by omega), HX1.out.trans HX.out⟩
      | false =>
        have HI : Hid ((out ++ [s]).map prB = Ad.putP (prB s) (l.map prB)) := Lib.hid (by simpa using hi)
        clear hi
        go_wp2_with (at_builtin; refine (show Hid _ from ?_).out)
        refine Lib.hid ?_
        refine app_from prT prE rfl _ _ rfl (w.heap.size + 1) _ _ out rfl (HO.out.alloc _) _ 1 _ [s] rfl rfl (new_cellsAt (by first | rfl | exact (later_size _ _).symm) _ _) (by omega) (by omega) (by first | omega | (simp [later_size]; omega)) ?_
        intro A2 c2 l2 w2 HL hO9 hB9 hl1 hl2 _
        have HO2 := Lib.hid hO9
        have HB2 := Lib.hid hB9
        have hszx := hB9.size
        rw [World.size_alloc] at hszx
        clear hO9
        clear hB9
        go_wp2
        go_ret
        exact ⟨A2, c2, l2, rfl, by rw [HL.out]; exact HI.out, HO2.out.lower (by omega), HX1.out.trans ((HX.out.alloc _).grown HB2.out (by omega))⟩
end Go.Proofs.YtpfhmcdcmepfdaaGreatDoor


set_option linter.unusedVariables false
set_option linter.unusedSimpArgs false
namespace Go.Proofs.YtpfhmcdcmepfdaaGreatDoor
open Go.RowKit Go.Shelf
open Go.Proofs

def QuRel (w : World) (ls : List ByteArray) (o i : Value) (wr : World) : Prop := ∃ (A : Option Addr) (c : Nat) (qs : List PrB) (k : Nat), o = .slice A qs.length c ∧ i = .int .i64 k ∧ k ≤ ls.length ∧ qs.length ≤ k ∧
  Hid (Ad.qAll ((ls.map bsT).take k) = some (qs.map prB)) ∧ Hid (OwnsPr w.heap.size wr A c qs) ∧ Hid (Ext w wr)
set_option maxRecDepth 100000 in
set_option maxHeartbeats 4000000 in
theorem rquery_any (s : ByteArray) (w : World) (hs : s.size ≤ 4096) :
    Calls Tryz.prog 213 #[.string s] w fun e w' => PrsU (Ad.quN (bsT s)) w.heap.size e w' ∧ Ext w w' := by
  by_cases h0 : bsT s = []
  · have hs0 : (s.toList == []) = true := by rw [Lib.toList_data]; rw [show s.data.toList = [] from h0]; rfl
    have hs1 : s.toList.isEmpty = true := by rw [Lib.toList_data]; rw [show s.data.toList = [] from h0]; rfl
    have HQ : Hid (Ad.quN (bsT s) = some []) := Lib.hid (by rw [h0]; rfl)
    clear h0
    go_enter Tryz.func213, Tryz.ntmps213
    go_wp2
    refine bodyPost_ret (v := .tuple #[.slice none 0 0, .bool true]) ?_ rfl ⟨⟨none, 0, [], true, rfl, by rw [HQ.out]; rfl, by rw [HQ.out]; rfl, Owns.nil _ _ _ _ _⟩, (by (repeat (first | with_reducible exact Ext.refl _ | with_reducible exact Ext.refl _ | with_reducible refine Ext.drew ?_ | with_reducible refine Ext.drewN ?_ _ | with_reducible refine Ext.alloc ?_ _ | with_reducible refine Ext.onto ?_ _ | (with_reducible refine Ext.setCells ?_ ?_ _ _; rotate_left; focus (first | omega | (simp; done) | (simp; omega))) | (with_reducible refine Ext.setCell ?_ ?_ _; rotate_left; focus (first | omega | (simp; done) | (simp; omega))))))⟩
    simp [results, Tryz.results213, go_sem]
  · have hs0 : (s.toList == []) = false := by rw [Lib.toList_data]; simpa [bsT] using h0
    have hs1 : s.toList.isEmpty = false := by rw [Lib.toList_data]; simpa [bsT] using h0
    have HQN : Hid (Ad.quN (bsT s) = Ad.qAll (Ad.pieces 38 (bsT s))) := Lib.hid (by unfold Ad.quN; rw [if_neg h0])
    have HSp := Lib.hid (fun W => rsplit_any s 38 W (by omega))
    clear h0
    go_enter Tryz.func213, Tryz.ntmps213
    go_wp2_with (go_at_call 183; refine (HSp.out _).mono ?_; rintro e w1 ⟨A1, c1, ls, rfl, hcut, ho1, hl1, hx1⟩; have HO1 := Lib.hid ho1; have HX1 := Lib.hid hx1; have HCu := Lib.hid (Ad.pieces_of hcut); clear hcut ho1 hx1)
    go_loopw [4, 6] (QuRel w1 ls) (fun _ i _ => ls.length - (intOf i).toNat)
    case atStart => exact ⟨none, 0, [], 0, rfl, rfl, Nat.zero_le _, Nat.le_refl _, Lib.hid rfl, Lib.hid (Owns.nil _ _ _ _ _), Lib.hid (Ext.refl _)⟩
    case round =>
      obtain ⟨A', c', qs, k, rfl, rfl, hk, hqk, HL, HO, HX⟩ := hrel
      have hsz := HX.out.size
      by_cases hlt : k < ls.length
      · obtain ⟨b, off, rfl, hb, d1⟩ := ReadsStr.cell ((HO1.out.reads sE).ext HX.out (Nat.le_refl _)) k hlt
        have hltm : k < (ls.map bsT).length := by rw [List.length_map]; exact hlt
        have HSt : Hid (Ad.qAll ((ls.map bsT).take (k + 1)) = Ad.qIn (qs.map prB) (bsT ls[k])) := Lib.hid (by rw [q_take hltm HL.out, List.getElem_map])
        have HStop : Hid (Ad.qIn (qs.map prB) (bsT ls[k]) = none → Ad.qAll (Ad.pieces 38 (bsT s)) = none) := Lib.hid (fun h => by rw [← HCu.out]; exact q_stop (HSt.out.trans h))
        have HA : Hid (Ad.AscP (qs.map prB)) := Lib.hid (Ad.qAll_ok _ [] _ HL.out (by simp [Ad.AscP]) (by simp)).1
        have hxs : (ls[k]).size ≤ 4096 := by
          have h1 := piece_le 38 (bsT s) (bsT ls[k]) (by rw [← HCu.out]; exact List.mem_map_of_mem (List.getElem_mem hlt))
          rw [bsT_size, bsT_size] at h1
          omega
        generalize ls[k] = x at *
        go_wp2_with (go_at_call 210; refine (show Hid _ from ?_).out)
        refine Lib.hid ?_
        refine (r6cut_any x 61 _ (by omega)).mono ?_
        rintro e w' ⟨⟨a, b, f, rfl, hc, has, hbs⟩, hxl⟩
        obtain ⟨xm, rfl⟩ := hxl.asLater
        clear hxl
        have HNm := Lib.hid (fun W => rname_any a W (by omega))
        have HWd := Lib.hid (fun W => rword_any b W (by omega))
        have HPo : Hid (Ad.pairOf (bsT x) = if f = true ∧ Tg.nameB (bsT a) = true ∧ Tg.wordB (bsT b) = true then some (bsT a, bsT b) else none) := Lib.hid (by unfold Ad.pairOf; rw [← hc])
        clear hc
        cases f with
        | false =>
          have HFl := Lib.hid (HStop.out (by unfold Ad.qIn; rw [HPo.out]; rfl))
          clear HStop HSt HPo HNm HWd
          go_wp2
          refine bodyPost_ret (v := .tuple #[.slice none 0 0, .bool false]) ?_ rfl ⟨⟨none, 0, [], false, rfl, by rw [HQN.out, HFl.out]; rfl, by rw [HQN.out, HFl.out]; rfl, Owns.nil _ _ _ _ _⟩, (by (repeat (first | with_reducible exact (HX1.out.trans HX.out) | with_reducible exact Ext.refl _ | with_reducible refine Ext.drew ?_ | with_reducible refine Ext.drewN ?_ _ | with_reducible refine Ext.alloc ?_ _ | with_reducible refine Ext.onto ?_ _ | (with_reducible refine Ext.setCells ?_ ?_ _ _; rotate_left; focus (first | omega | (simp; done) | (simp; omega))) | (with_reducible refine Ext.setCell ?_ ?_ _; rotate_left; focus (first | omega | (simp; done) | (simp; omega))))))⟩
          simp [results, Tryz.results213, go_sem]
        | true =>
          cases hn : Tg.nameB (bsT a) with
          | false =>
            have hn' : Tg.nameB a.data.toList = false := hn
            rw [hn'] at HNm
            have HFl := Lib.hid (HStop.out (by unfold Ad.qIn; rw [HPo.out, hn]; rfl))
            clear HStop HSt HPo HWd hn hn'
            go_wp2_with (first
              | (go_at_call 135; refine (HNm.out _).mono ?_; rintro e w' ⟨rfl, hxl⟩; obtain ⟨xn, rfl⟩ := hxl.asLater; clear hxl)
              | (go_at_call 165; refine (HWd.out _).mono ?_; rintro e w' ⟨rfl, hxl⟩; obtain ⟨xo, rfl⟩ := hxl.asLater; clear hxl)
              | (go_at_call 232; refine (show Hid _ from ?_).out))
            refine bodyPost_ret (v := .tuple #[.slice none 0 0, .bool false]) ?_ rfl ⟨⟨none, 0, [], false, rfl, by rw [HQN.out, HFl.out]; rfl, by rw [HQN.out, HFl.out]; rfl, Owns.nil _ _ _ _ _⟩, (by (repeat (first | with_reducible exact (HX1.out.trans HX.out) | with_reducible exact Ext.refl _ | with_reducible refine Ext.drew ?_ | with_reducible refine Ext.drewN ?_ _ | with_reducible refine Ext.alloc ?_ _ | with_reducible refine Ext.onto ?_ _ | (with_reducible refine Ext.setCells ?_ ?_ _ _; rotate_left; focus (first | omega | (simp; done) | (simp; omega))) | (with_reducible refine Ext.setCell ?_ ?_ _; rotate_left; focus (first | omega | (simp; done) | (simp; omega))))))⟩
            simp [results, Tryz.results213, go_sem]
          | true =>
            have hn' : Tg.nameB a.data.toList = true := hn
            rw [hn'] at HNm
            cases hwd : Tg.wordB (bsT b) with
            | false =>
              have hw' : Tg.wordB b.data.toList = false := hwd
              rw [hw'] at HWd
              have HFl := Lib.hid (HStop.out (by unfold Ad.qIn; rw [HPo.out, hwd]; simp))
              clear HStop HSt HPo hn hn' hwd hw'
              go_wp2_with (first
                | (go_at_call 135; refine (HNm.out _).mono ?_; rintro e w' ⟨rfl, hxl⟩; obtain ⟨xn, rfl⟩ := hxl.asLater; clear hxl)
                | (go_at_call 165; refine (HWd.out _).mono ?_; rintro e w' ⟨rfl, hxl⟩; obtain ⟨xo, rfl⟩ := hxl.asLater; clear hxl)
                | (go_at_call 232; refine (show Hid _ from ?_).out))
              refine bodyPost_ret (v := .tuple #[.slice none 0 0, .bool false]) ?_ rfl ⟨⟨none, 0, [], false, rfl, by rw [HQN.out, HFl.out]; rfl, by rw [HQN.out, HFl.out]; rfl, Owns.nil _ _ _ _ _⟩, (by (repeat (first | with_reducible exact (HX1.out.trans HX.out) | with_reducible exact Ext.refl _ | with_reducible refine Ext.drew ?_ | with_reducible refine Ext.drewN ?_ _ | with_reducible refine Ext.alloc ?_ _ | with_reducible refine Ext.onto ?_ _ | (with_reducible refine Ext.setCells ?_ ?_ _ _; rotate_left; focus (first | omega | (simp; done) | (simp; omega))) | (with_reducible refine Ext.setCell ?_ ?_ _; rotate_left; focus (first | omega | (simp; done) | (simp; omega))))))⟩
              simp [results, Tryz.results213, go_sem]
            | true =>
              have hw' : Tg.wordB b.data.toList = true := hwd
              rw [hw'] at HWd
              have HN : Hid (Ad.qAll ((ls.map bsT).take (k + 1)) = some (Ad.putP (bsT a, bsT b) (qs.map prB))) := Lib.hid (by rw [HSt.out]; unfold Ad.qIn; rw [HPo.out, if_pos ⟨rfl, hn, hwd⟩]; rfl)
              clear HStop HSt HPo hn hn' hwd hw'
              go_wp2_with (first
                | (go_at_call 135; refine (HNm.out _).mono ?_; rintro e w' ⟨rfl, hxl⟩; obtain ⟨xn, rfl⟩ := hxl.asLater; clear hxl)
                | (go_at_call 165; refine (HWd.out _).mono ?_; rintro e w' ⟨rfl, hxl⟩; obtain ⟨xo, rfl⟩ := hxl.asLater; clear hxl)
                | (go_at_call 232; refine (show Hid _ from ?_).out))
              refine Lib.hid ?_
              refine (r6put_any A' c' qs (a, b) _ (by omega) (((HO.out.later _).reads prE)) HA.out).mono ?_
              rintro e w5 ⟨A5, c5, qs5, rfl, hq5, ho5, hx5⟩
              have hl5 : qs5.length ≤ k + 1 := by
                have h1 := congrArg List.length hq5
                have h2 := Ad.putP_len (prB (a, b)) (qs.map prB)
                rw [List.length_map] at h1 h2
                omega
              have HO5 := Lib.hid ho5
              have HX5 : Hid (Ext w1 w5) := Lib.hid ((HX.out.onto _).trans hx5)
              have HN5 : Hid (Ad.qAll ((ls.map bsT).take (k + 1)) = some (qs5.map prB)) := Lib.hid (by rw [HN.out, hq5]; rfl)
              clear hq5 ho5 hx5
              go_wp2
              go_roundw
              case rel => exact ⟨A5, c5, qs5, k + 1, rfl, by go_num, by omega, hl5, HN5, Lib.hid (HO5.out.lower (by rw [later_size]; omega)), HX5⟩
              case measure => simp [intOf]; omega
      · have e : k = ls.length := by omega
        subst e
        rw [List.take_of_length_le (by rw [List.length_map]; exact Nat.le_refl _), HCu.out] at HL
        go_wp2
        refine bodyPost_ret (v := .tuple #[.slice A' qs.length c', .bool true]) ?_ rfl ⟨⟨A', c', qs, true, rfl, by rw [HQN.out, HL.out]; rfl, by rw [HQN.out, HL.out]; rfl, HO.out.lower HX1.out.size⟩, HX1.out.trans HX.out⟩
        simp [results, Tryz.results213, go_sem]
end Go.Proofs.YtpfhmcdcmepfdaaGreatDoor


set_option linter.unusedVariables false
set_option linter.unusedSimpArgs false
namespace Go.Proofs.YtpfhmcdcmepfdaaGreatDoor
open Go.RowKit Go.Shelf
open Go.Proofs

def PaRel (w : World) (ls : List ByteArray) (o i : Value) (wr : World) : Prop := ∃ (A : Option Addr) (c : Nat) (qs : List ByteArray) (k : Nat), o = .slice A qs.length c ∧ i = .int .i64 k ∧ k ≤ ls.length ∧ qs.length ≤ k ∧
  Hid (Ad.resAll ((ls.map bsT).take k) = some (qs.map bsT)) ∧ Hid (OwnsStr w.heap.size wr A c qs) ∧ Hid (Ext w wr)
theorem reads_cells {W : World} {B b off : Nat} {l : List ByteArray} (h : ReadsStr W B (some ⟨b, off, none⟩) l) : ∀ j u, (l.flatMap encStr)[j]? = some u → W.cell? ((⟨b, off, none⟩ : Addr).add j) = some u := by
  intro j u hj
  have hj' := (List.getElem?_eq_some_iff.1 hj).1
  rw [sE.flat_len] at hj'
  obtain ⟨b', off', e1, _, h3⟩ := ReadsStr.cell h j (by omega)
  injection e1 with e1
  injection e1 with e1 e2
  subst e1 e2
  have k := sE.flat_get l j (by omega) 0 (by omega)
  rw [show j * 1 + 0 = j by omega, hj] at k
  have e : u = .string l[j] := by
    have := k.symm
    simp [encStr] at this
    exact this.symm
  rw [e, addr_add]
  exact h3
set_option maxRecDepth 100000 in
set_option maxHeartbeats 4000000 in
theorem rpath_any (A0 : Option Addr) (c0 : Nat) (ls : List ByteArray) (w : World) (hl : ls.length ≤ 100000) (hs : ∀ x ∈ ls, x.size ≤ 4096) (hr : ReadsStr w w.heap.size A0 ls) :
    Calls Tryz.prog 212 #[.slice A0 ls.length c0] w fun e w' => RslU (Ad.resAll (ls.map bsT)) w.heap.size e w' ∧ Ext w w' := by
  have HR := Lib.hid hr
  have HSz := Lib.hid hs
  clear hr hs
  go_enter Tryz.func212, Tryz.ntmps212
  go_wp2
  go_loopw [4, 5] (PaRel w ls) (fun _ i _ => ls.length - (intOf i).toNat)
  case atStart => exact ⟨none, 0, [], 0, rfl, rfl, Nat.zero_le _, Nat.le_refl _, Lib.hid rfl, Lib.hid (Owns.nil _ _ _ _ _), Lib.hid (Ext.refl _)⟩
  case round =>
    obtain ⟨A', c', qs, k, rfl, rfl, hk, hqk, HL, HO, HX⟩ := hrel
    have hsz := HX.out.size
    by_cases hlt : k < ls.length
    · obtain ⟨b, off, rfl, hb, d1⟩ := ReadsStr.cell (HR.out.ext HX.out (Nat.le_refl _)) k hlt
      have hltm : k < (ls.map bsT).length := by rw [List.length_map]; exact hlt
      have HSt : Hid (Ad.resAll ((ls.map bsT).take (k + 1)) = Ad.resIn (qs.map bsT) (bsT ls[k])) := Lib.hid (by rw [res_take hltm HL.out, List.getElem_map])
      have HStop : Hid (Ad.resIn (qs.map bsT) (bsT ls[k]) = none → Ad.resAll (ls.map bsT) = none) := Lib.hid (fun h => res_stop (HSt.out.trans h))
      have hxs := HSz.out _ (List.getElem_mem hlt)
      generalize ls[k] = x at *
      have HE1 := Lib.hid (lit_walk x [46])
      have HE2 := Lib.hid (lit_walk x [46, 46])
      have HWd := Lib.hid (fun W => rword_any x W (by omega))
      by_cases h1 : bsT x = [46]
      · have e1 : (x.toList == [46]) = true := by rw [HE1.out]; simpa using h1
        have HN : Hid (Ad.resAll ((ls.map bsT).take (k + 1)) = some (qs.map bsT)) := Lib.hid (by rw [HSt.out]; unfold Ad.resIn; rw [if_pos h1])
        clear h1 HStop HSt HE1 HE2 HWd
        go_wp2
        go_roundw
        case rel => exact ⟨A', c', qs, k + 1, rfl, by go_num, by omega, by omega, HN, HO, HX⟩
        case measure => simp [intOf]; omega
      have e1 : (x.toList == [46]) = false := by rw [HE1.out]; simpa using h1
      by_cases h2 : bsT x = [46, 46]
      · have e2 : (x.toList == [46, 46]) = true := by rw [HE2.out]; simpa using h2
        by_cases h3 : 0 < qs.length
        · have hdl : qs.dropLast.length = qs.length - 1 := List.length_dropLast
          have HN : Hid (Ad.resAll ((ls.map bsT).take (k + 1)) = some (qs.dropLast.map bsT)) := Lib.hid (by
            rw [HSt.out]; unfold Ad.resIn
            rw [if_neg (by rw [h2]; decide), if_pos h2, if_neg (by intro e; rw [List.map_eq_nil_iff] at e; rw [e] at h3; simp at h3), List.map_dropLast])
          obtain ⟨a, ha, hod⟩ := Owns.shorter sE HO.out h3
          rcases HO.out.cases with ⟨_, _, e⟩ | ⟨g, cur, rfl, _, _, hcap, hcm, _, _⟩
          · rw [e] at h3; simp at h3
          have ha' := Option.some.inj ha
          subst ha'
          clear ha
          have HOd := Lib.hid hod
          unfold maxLen at hcm
          have d3 : decide ((qs.length : Int) = 0) = false := decide_eq_false (by omega)
          have d4 : ((qs.length : Int) == 0) = false := by rw [beq_eq_false_iff_ne]; omega
          clear h2 HStop HSt HE1 HE2 HWd hod
          go_wp2_with (at_builtin; refine (show Hid _ from ?_).out)
          refine Lib.hid ?_
          refine app_from strT sE rfl _ _ rfl w.heap.size _ 0 [] rfl (Owns.mk sE hsz (heap_alloc_new wr _) (Nat.le_refl _) (by unfold maxLen; omega) rfl rfl) ⟨g, 0, none⟩ (qs.length - 1) c' qs.dropLast rfl hdl (reads_cells ((HOd.out.alloc _).reads sE)) (by simp; omega) (by simp; omega) (by simp; omega) ?_
          intro A2 c2 l2 w2 HL2 hO9 hB9 hl1 hl2 _
          have HO2 := Lib.hid hO9
          have HB2 := Lib.hid hB9
          clear hO9 hB9
          go_wp2
          go_roundw
          case rel => exact ⟨A2, c2, l2, k + 1, rfl, by go_num, by omega, by (try simp at hl1 hl2); omega, by rw [HL2.out]; exact HN, HO2, Lib.hid ((HX.out.alloc _).grown HB2.out (Nat.le_refl _))⟩
          case measure => simp [intOf]; omega
        · have hl0 : qs = [] := List.eq_nil_of_length_eq_zero (by omega)
          subst hl0
          have HFl := Lib.hid (HStop.out (by unfold Ad.resIn; rw [if_neg (by rw [h2]; decide), if_pos h2, if_pos (show List.map bsT [] = [] from rfl)]))
          clear HStop HSt HE1 HE2 h1 h2 HWd
          go_wp2
          refine bodyPost_ret (v := .tuple #[.slice none 0 0, .bool false]) ?_ rfl ⟨⟨none, 0, [], false, rfl, by rw [HFl.out]; rfl, by rw [HFl.out]; rfl, Owns.nil _ _ _ _ _⟩, (by (repeat (first | with_reducible exact HX.out | with_reducible exact Ext.refl _ | with_reducible refine Ext.drew ?_ | with_reducible refine Ext.drewN ?_ _ | with_reducible refine Ext.alloc ?_ _ | with_reducible refine Ext.onto ?_ _ | (with_reducible refine Ext.setCells ?_ ?_ _ _; rotate_left; focus (first | omega | (simp; done) | (simp; omega))) | (with_reducible refine Ext.setCell ?_ ?_ _; rotate_left; focus (first | omega | (simp; done) | (simp; omega))))))⟩
          simp [results, Tryz.results212, go_sem]
      · have e2 : (x.toList == [46, 46]) = false := by rw [HE2.out]; simpa using h2
        cases h3 : Tg.wordB (bsT x) with
        | true =>
          have hw0 : Tg.wordB x.data.toList = true := h3
          rw [hw0] at HWd
          have HN : Hid (Ad.resAll ((ls.map bsT).take (k + 1)) = some ((qs ++ [x]).map bsT)) := Lib.hid (by
            rw [HSt.out]; unfold Ad.resIn
            rw [if_neg h1, if_neg h2, if_pos h3]
            simp)
          clear HStop HSt HE1 HE2 h1 h2 h3 hw0
          go_wp2_with (first
            | (go_at_call 165; refine (HWd.out _).mono ?_; rintro e w' ⟨rfl, hxl⟩; obtain ⟨xo, rfl⟩ := hxl.asLater; clear hxl)
            | (at_builtin; refine (show Hid _ from ?_).out))
          refine Lib.hid ?_
          refine app_from strT sE rfl _ _ rfl w.heap.size _ _ qs rfl ((HO.out.later _).alloc _) _ 1 _ [x] rfl rfl (new_cellsAt (by first | rfl | exact (later_size _ _).symm) _ _) (by omega) (by omega) (by first | omega | (simp [later_size]; omega)) ?_
          intro A2 c2 l2 w2 HL2 hO9 hB9 hl1 hl2 _
          have HO2 := Lib.hid hO9
          have HB2 := Lib.hid hB9
          clear hO9 hB9
          go_wp2
          go_roundw
          case rel => exact ⟨A2, c2, l2, k + 1, rfl, by go_num, by omega, by (try simp at hl1 hl2); omega, by rw [HL2.out]; exact HN, HO2, Lib.hid (((HX.out.onto _).alloc _).grown HB2.out (Nat.le_refl _))⟩
          case measure => simp [intOf]; omega
        | false =>
          have hw0 : Tg.wordB x.data.toList = false := h3
          rw [hw0] at HWd
          have HFl := Lib.hid (HStop.out (by unfold Ad.resIn; rw [if_neg h1, if_neg h2, if_neg (by rw [h3]; decide)]))
          clear HStop HSt HE1 HE2 h1 h2 h3 hw0
          go_wp2_with (go_at_call 165; refine (HWd.out _).mono ?_; rintro e w' ⟨rfl, hxl⟩; obtain ⟨xo, rfl⟩ := hxl.asLater; clear hxl)
          refine bodyPost_ret (v := .tuple #[.slice none 0 0, .bool false]) ?_ rfl ⟨⟨none, 0, [], false, rfl, by rw [HFl.out]; rfl, by rw [HFl.out]; rfl, Owns.nil _ _ _ _ _⟩, (by (repeat (first | with_reducible exact HX.out | with_reducible exact Ext.refl _ | with_reducible refine Ext.drew ?_ | with_reducible refine Ext.drewN ?_ _ | with_reducible refine Ext.alloc ?_ _ | with_reducible refine Ext.onto ?_ _ | (with_reducible refine Ext.setCells ?_ ?_ _ _; rotate_left; focus (first | omega | (simp; done) | (simp; omega))) | (with_reducible refine Ext.setCell ?_ ?_ _; rotate_left; focus (first | omega | (simp; done) | (simp; omega))))))⟩
          simp [results, Tryz.results212, go_sem]
    · have e : k = ls.length := by omega
      subst e
      rw [List.take_of_length_le (by rw [List.length_map]; exact Nat.le_refl _)] at HL
      go_wp2
      refine bodyPost_ret (v := .tuple #[.slice A' qs.length c', .bool true]) ?_ rfl ⟨⟨A', c', qs, true, rfl, by rw [HL.out]; rfl, by rw [HL.out]; rfl, HO.out⟩, HX.out⟩
      simp [results, Tryz.results212, go_sem]
end Go.Proofs.YtpfhmcdcmepfdaaGreatDoor


set_option linter.unusedVariables false
set_option linter.unusedSimpArgs false
namespace Go.Proofs.YtpfhmcdcmepfdaaGreatDoor
open Go.RowKit Go.Shelf
open Go.Proofs

theorem pieces_cutB (c : UInt8) (s : List UInt8) : Ad.pieces c s = (Ad.cutB c s).1 :: (if (Ad.cutB c s).2.2 = true then Ad.pieces c (Ad.cutB c s).2.1 else []) := by
  rcases Ad.cutB_index c s with ⟨_, h2, h3⟩ | ⟨i, _, _, h3, h4, h5⟩
  · rw [h2, Ad.pieces_one h3]; rfl
  · rw [h3, Ad.pieces_hit h4 h5]; rfl
theorem same_last {t : ByteArray} {m m' : Nat} (hm : t.size = m + 1) (hm' : t.size = m' + 1) (h : t[m]'(by omega) ≠ 47) : t[m']'(by omega) ≠ 47 := by
  have e : m' = m := by omega
  subst e
  exact h
theorem bsT_last {t : ByteArray} {m : Nat} (hm : t.size = m + 1) : bsT t = (bsT t).take m ++ [t[m]'(by omega)] := by
  have hl : m < (bsT t).length := by rw [bsT_size]; omega
  have h1 : (bsT t)[m] = t[m]'(by omega) := by simp only [bsT, Array.getElem_toList]; rfl
  conv => lhs; rw [← List.take_append_drop m (bsT t)]
  rw [List.drop_eq_getElem_cons hl, h1, List.drop_eq_nil_of_le (by rw [bsT_size]; omega)]
theorem trim_at {t : ByteArray} {m : Nat} (hm : t.size = m + 1) (h : t[m]'(by omega) = 47) : bsT (t.extract 0 m) = Ad.trim1 (bsT t) := by
  have hl := bsT_last hm
  rw [h] at hl
  have hs : Lib.hasSuffix (bsT t) [47] = true := by
    rw [hl]; simp [Lib.hasSuffix]
  have hz := bsT_size t
  rw [bsT_take]
  unfold Ad.trim1 Lib.trimSuffix
  rw [if_pos hs, hz, hm]
  rfl
theorem trim_no {t : ByteArray} (h : ∀ m (hm : t.size = m + 1), t[m]'(by omega) ≠ 47) : bsT t = Ad.trim1 (bsT t) := by
  have hs : ¬ Lib.hasSuffix (bsT t) [47] = true := by
    rcases Nat.eq_zero_or_pos t.size with h0 | h0
    · have e : bsT t = [] := List.eq_nil_of_length_eq_zero (by rw [bsT_size]; exact h0)
      rw [e]; simp [Lib.hasSuffix]
    · obtain ⟨m, hm⟩ : ∃ m, t.size = m + 1 := ⟨t.size - 1, by omega⟩
      have hl := bsT_last hm
      have hn := h m hm
      rw [hl]
      simp [Lib.hasSuffix]
      exact fun e => hn e.symm
  unfold Ad.trim1 Lib.trimSuffix
  rw [if_neg hs]
theorem reads_tail {W : World} {B b off : Nat} {x : ByteArray} {l : List ByteArray} (h : ReadsStr W B (some ⟨b, off, none⟩) (x :: l)) : ReadsStr W B (some ⟨b, off + 1, none⟩) l := by
  intro h0
  obtain ⟨b', off', e1, h2, h3⟩ := h (by simp)
  injection e1 with e1
  injection e1 with e1 e2
  subst e1 e2
  refine ⟨b, off + 1, rfl, h2, fun i hi j v hv => ?_⟩
  have := h3 (i + 1) (by simp; omega) j v hv
  rwa [show off + (i + 1) * 1 + j = off + 1 + i * 1 + j by omega] at this
def RdAt (base : Nat) (a : Ad.Adr) (E : Int) (e : Ending) (w : World) : Prop :=
  ∃ (cu : ByteArray) (A : Option Addr) (c : Nat) (ls : List ByteArray) (A2 : Option Addr) (c2 : Nat) (qs : List PrB), e = .returned (.agg #[.string cu, .slice A ls.length c, .slice A2 qs.length c2, .int .i64 E]) ∧ (⟨bsT cu, ls.map bsT, qs.map prB⟩ : Ad.Adr) = a ∧ OwnsStr base w A c ls ∧ OwnsPr base w A2 c2 qs
def rdC (cu : ByteArray) (v1 v2 : Value) (E : Int) : Array Value := #[.string cu, v1, v2, .int .i64 E]
theorem rd_ty : RowTy Tryz.prog 254 4 := ⟨by kernel_rfl, by kernel_rfl⟩
theorem rd_ld (w : World) (b o : Nat) : (rowLoad 254 4 (.pointer (some ⟨b, o, none⟩))).run Tryz.prog w = rowLoadR Tryz.prog w 254 4 b o (rowOf w b o 4) := run_rowLoad rd_ty w b o
theorem rd_st (w : World) (b o : Nat) (cells : Array Value) : (rowStore 254 4 (.pointer (some ⟨b, o, none⟩)) (.agg cells)).run Tryz.prog w = rowStoreR Tryz.prog w 254 4 b o cells (roomOf w b o 4 && fitsRow 4 cells) := run_rowStore rd_ty w b o cells
theorem rd_lv (w : World) (b o : Nat) : (loadVar 254 ⟨b, o, none⟩).run Tryz.prog w = varRes Tryz.prog w 254 b o (rowOf w b o 4) := loadVar_row rd_ty w b o
theorem rd_al (w : World) : (rowAlloc 254).run Tryz.prog w = .ok (.value (.pointer (some ⟨w.heap.size, 0, none⟩))) (w.alloc (.cells (#[.string ByteArray.empty, .slice none 0 0, .slice none 0 0, .int .i64 0]) 254)) := run_rowAlloc (by kernel_rfl) w
theorem rd_xl (ρ : Operand → Value) (dst : Option Tmp) (x : Operand) (t : TypeId) (pos : String) (after : Array Edge) (guard : Option (Nat × Bool)) : execOp ρ { dst, op := .load 254 x, type := t, pos, after, guard } = rowLoad 254 4 (ρ x) := rfl
theorem rd_xs (ρ : Operand → Value) (dst : Option Tmp) (x y : Operand) (t : TypeId) (pos : String) (after : Array Edge) (guard : Option (Nat × Bool)) : execOp ρ { dst, op := .store 254 x y, type := t, pos, after, guard } = rowStore 254 4 (ρ x) (ρ y) := rfl
theorem rd_xa (ρ : Operand → Value) (dst : Option Tmp) (t : TypeId) (pos : String) (after : Array Edge) (guard : Option (Nat × Bool)) : execOp ρ { dst, op := .alloc 254, type := t, pos, after, guard } = rowAlloc 254 := rfl
attribute [go_sem ↓] rd_xl rd_xs rd_xa
attribute [go_sem] rd_ld rd_st rd_al
theorem rd_fits (cu : ByteArray) (A : Option Addr) (n c : Nat) (A2 : Option Addr) (n2 c2 : Nat) (E : Int) : fitsRow 4 #[.string cu, .slice A n c, .slice A2 n2 c2, .int .i64 E] = true := by kernel_rfl
attribute [local go_sem] rd_fits
set_option maxRecDepth 100000 in
set_option maxHeartbeats 8000000 in
theorem r6parse_any (s : ByteArray) (w : World) (hs : s.size ≤ 900000) :
    Calls Tryz.prog 181 #[.string s] w fun e w' => RdAt w.heap.size (Ad.parseA (bsT s)) (Ad.parseE (bsT s)) e w' ∧ Ext w w' := by
  have hz := bsT_size s
  by_cases h4 : 4096 < s.size
  · have HE : Hid (Ad.parseE (bsT s) = 2) := Lib.hid (by unfold Ad.parseE; rw [hz, if_pos h4])
    have HA : Hid (Ad.parseA (bsT s) = Ad.noAdr) := Lib.hid (by unfold Ad.parseA; rw [HE.out]; rfl)
    clear hz
    go_enter Tryz.func181, Tryz.ntmps181
    go_wp2
    rw [HE.out, HA.out]
    exact post_row rd_ty Tryz.results181 rfl rfl (RowAt.stored (n := 4) (RowAt.new _ _ _) rfl rfl (by omega)) ⟨⟨⟨#[]⟩, none, 0, [], none, 0, [], rfl, rfl, Owns.nil _ _ _ _ _, Owns.nil _ _ _ _ _⟩, (by (repeat (first | with_reducible exact Ext.refl _ | with_reducible exact Ext.refl _ | with_reducible refine Ext.drew ?_ | with_reducible refine Ext.drewN ?_ _ | with_reducible refine Ext.alloc ?_ _ | with_reducible refine Ext.onto ?_ _ | (with_reducible refine Ext.setCells ?_ ?_ _ _; rotate_left; focus (first | omega | (simp; done) | (simp; omega))) | (with_reducible refine Ext.setCell ?_ ?_ _; rotate_left; focus (first | omega | (simp; done) | (simp; omega))))))⟩
  · have HE : Hid (Ad.parseE (bsT s) = if Tg.nameB (Ad.leftN (bsT s)).1 = true ∧ (Ad.pathN (bsT s)).isSome = true ∧ (Ad.quN (Ad.headN (bsT s)).2.1).isSome = true then (if 32 < ((Ad.pathN (bsT s)).getD []).length ∨ 16 < ((Ad.quN (Ad.headN (bsT s)).2.1).getD []).length then 2 else 0) else 3) := Lib.hid (by unfold Ad.parseE; rw [hz, if_neg h4])
    have HA : Hid (Ad.parseA (bsT s) = if Ad.parseE (bsT s) = 0 then ⟨(Ad.leftN (bsT s)).1, (Ad.pathN (bsT s)).getD [], (Ad.quN (Ad.headN (bsT s)).2.1).getD []⟩ else Ad.noAdr) := Lib.hid rfl
    generalize Ad.parseA (bsT s) = PA at *
    generalize Ad.parseE (bsT s) = PE at *
    go_enter Tryz.func181, Tryz.ntmps181
    go_wp2_with (first
      | (go_at_call 211; refine (rsmall_any s _ hs).mono ?_; rintro e w' ⟨⟨t, rfl, hlo, hlt⟩, hxl⟩; obtain ⟨xl, rfl⟩ := hxl.asLater; clear hxl; have HLo := Lib.hid hlo; clear hlo)
      | (go_at_call 210; refine (show Hid _ from ?_).out))
    refine Lib.hid ?_
    refine (r6cut_any t 63 _ (by omega)).mono ?_
    rintro e w' ⟨⟨a, b, fq, rfl, hcut, hla, hlb⟩, hxl⟩
    obtain ⟨x2, rfl⟩ := hxl.asLater
    have HHd : Hid (Ad.headN (bsT s) = (bsT a, bsT b, fq)) := Lib.hid (by unfold Ad.headN; rw [hcut]; exact congrArg _ HLo.out.symm)
    clear hxl hcut HLo
    have ha9 : a.size ≤ 4096 := by omega
    have hb9 : b.size ≤ 4096 := by omega
    clear hla hlb hlt
    rcases Nat.eq_zero_or_pos a.size with h0 | h0
    · have HTr : Hid (bsT a = Ad.trim1 (bsT a)) := Lib.hid (trim_no (fun m hm => by omega))
      have d0 : decide (0 < (a.size : Int)) = false := decide_eq_false (by omega)
      go_upto_region 6 with (fail)
      clear d0
      go_upto_region 7 with (go_at_call 183; refine (rsplit_any a 47 _ (by omega)).mono ?_; rintro e w1 ⟨A1, c1, ls, rfl, hcut, ho1, hl1, hx1⟩)
      have hps : ls.map bsT = Ad.pieces 47 (bsT a) := Ad.pieces_of hcut
      rw [pieces_cutB, HTr.out] at hps
      have HLf : Hid (Ad.leftN (bsT s) = Ad.cutB 47 (Ad.trim1 (bsT a))) := Lib.hid (by unfold Ad.leftN; rw [HHd.out])
      rw [← HLf.out] at hps
      cases ls with
      | nil => cases hps
      | cons x0 rest =>
        rw [List.map_cons] at hps
        injection hps with hp0 hp1
        have HPt : Hid (Ad.pathN (bsT s) = Ad.resAll (rest.map bsT)) := Lib.hid (by
          rw [hp1]; unfold Ad.pathN
          split
          · rfl
          · rfl)
        rw [HHd.out, ← hp0] at HE HA
        have hx0 : x0.size ≤ 4096 := by
          have h1 := piece_le 47 (bsT a) (bsT x0) (by rw [← Ad.pieces_of hcut]; simp)
          rw [bsT_size, bsT_size] at h1
          omega
        have hrz : ∀ x ∈ rest, x.size ≤ 4096 := fun x hx => by
          have h1 := piece_le 47 (bsT a) (bsT x) (by rw [← Ad.pieces_of hcut]; exact List.mem_map_of_mem (List.mem_cons_of_mem _ hx))
          rw [bsT_size, bsT_size] at h1
          omega
        have HRz := Lib.hid hrz
        have hrow1 := ((RowAt.new w #[.string ByteArray.empty, .slice none 0 0, .slice none 0 0, .int .i64 0] 254).later _).ext hx1
        have hxw1 := (((Ext.refl w).alloc _).onto _).trans hx1
        have HRw := Lib.hid hrow1
        have HXw := Lib.hid hxw1
        have hlr := hrow1.lt
        have hmr : roomOf w1 w.heap.size 0 4 = true := by rw [hrow1.room]; rfl
        have HO1 := Lib.hid ho1
        rcases ho1.cases with ⟨_, _, e⟩ | ⟨g, cur, rfl, hg1, hg2, hcap, hcm, _, _⟩
        · cases e
        have hglt : g < w1.heap.size := (Array.getElem?_eq_some_iff.1 hg2).1
        obtain ⟨b9, off9, e9, _, d0⟩ := ReadsStr.cell (HO1.out.reads sE) 0 (by simp)
        injection e9 with e9
        injection e9 with e9 e10
        subst e9 e10
        rw [List.length_cons] at hcap hl1
        unfold maxLen at hcm
        simp only [List.getElem_cons_zero] at d0
        have HNm := Lib.hid (fun W => rname_any x0 W (by omega))
        clear hcut hp0 hp1 hx1 hrow1 hxw1 ho1 HLf HTr hrz hg2 HHd
        generalize Ad.leftN (bsT s) = LF at *
        cases hn : Tg.nameB (bsT x0) with
        | false =>
          have hn' : Tg.nameB x0.data.toList = false := hn
          rw [hn'] at HNm
          have HE' : Hid (PE = 3) := Lib.hid (by rw [HE.out, hn]; rfl)
          have HA' : Hid (PA = Ad.noAdr) := Lib.hid (by rw [HA.out, HE'.out]; rfl)
          clear HE HA hn hn'
          go_wp2_with (go_at_call 135; refine (HNm.out _).mono ?_; rintro e w' ⟨rfl, hxl⟩; obtain ⟨xn, rfl⟩ := hxl.asLater; clear hxl)
          rw [HE'.out, HA'.out]
          exact post_row rd_ty Tryz.results181 rfl rfl (RowAt.stored (n := 4) (ds := #[.string ByteArray.empty, .slice none 0 0, .slice none 0 0, .int .i64 3]) (HRw.out.later _) rfl rfl (by omega)) ⟨⟨⟨#[]⟩, none, 0, [], none, 0, [], rfl, rfl, Owns.nil _ _ _ _ _, Owns.nil _ _ _ _ _⟩, (by (repeat (first | with_reducible exact HXw.out | with_reducible exact Ext.refl _ | with_reducible refine Ext.drew ?_ | with_reducible refine Ext.drewN ?_ _ | with_reducible refine Ext.alloc ?_ _ | with_reducible refine Ext.onto ?_ _ | (with_reducible refine Ext.setCells ?_ ?_ _ _; rotate_left; focus (first | omega | (simp; done) | (simp; omega))) | (with_reducible refine Ext.setCell ?_ ?_ _; rotate_left; focus (first | omega | (simp; done) | (simp; omega))))))⟩
        | true =>
          have hn' : Tg.nameB x0.data.toList = true := hn
          rw [hn'] at HNm
          have HPp : Hid (∀ W, Ext w1 W → ∀ (A0 : Option Addr) (c0 : Nat), (rest.length = 0 ∨ A0 = some ⟨g, 1, none⟩) → Calls Tryz.prog 212 #[.slice A0 rest.length c0] W fun e w' => RslU (Ad.resAll (rest.map bsT)) W.heap.size e w' ∧ Ext W w') := Lib.hid (fun W hx A0 c0 h => by
            refine rpath_any A0 c0 rest W (by omega) HRz.out ?_
            rcases h with h | h
            · intro h9; omega
            · subst h; exact reads_tail (off := 0) ((HO1.out.reads sE).on hx))
          have HE2 : Hid (PE = if (Ad.resAll (rest.map bsT)).isSome = true ∧ (Ad.quN (bsT b)).isSome = true then (if 32 < ((Ad.resAll (rest.map bsT)).getD []).length ∨ 16 < ((Ad.quN (bsT b)).getD []).length then 2 else 0) else 3) := Lib.hid (by rw [HE.out, HPt.out, hn]; simp)
          have HA2 : Hid (PA = if PE = 0 then ⟨bsT x0, (Ad.resAll (rest.map bsT)).getD [], (Ad.quN (bsT b)).getD []⟩ else Ad.noAdr) := Lib.hid (by rw [HA.out, HPt.out])
          clear HE HA hn hn' HRz HPt
          generalize Ad.resAll (rest.map bsT) = PT at *
          rcases (show c1 = 1 ∨ 2 ≤ c1 by omega) with hc1 | hc1
          · have hr0 : rest.length = 0 := by omega
            subst hc1
            go_wp2_with (first
              | (go_at_call 135; refine (HNm.out _).mono ?_; rintro e w' ⟨rfl, hxl⟩; obtain ⟨xn, rfl⟩ := hxl.asLater; clear hxl)
              | (go_at_call 212; refine (show Hid _ from ?_).out))
            refine Lib.hid ?_
            (try rw [← hr0])
            refine (HPp.out _ (ext_later _ _) _ _ (.inl hr0)).mono ?_
            rintro e w5 ⟨⟨Ap, cp, lp, one, rfl, hone, hlp, hop⟩, hx5⟩
            have hrow5 := (HRw.out.later _).ext hx5
            have HOne := Lib.hid hone
            have HLp := Lib.hid hlp
            clear hone hlp
            have HRw5 := Lib.hid hrow5
            have HXw5 := Lib.hid ((HXw.out.onto _).trans hx5)
            have HOp := Lib.hid hop
            have hl5 := hrow5.lt
            have hsz5 := hx5.size
            rw [later_size] at hsz5
            have d05 : w5.cell? ⟨g, 0, none⟩ = some (.string x0) := (hx5.cell (p := ⟨g, 0, none⟩) (by show g < _; rw [later_size]; omega)).trans (((ext_later _ _).cell (p := ⟨g, 0, none⟩) (by exact hglt)).trans d0)
            have hbs5 : w.heap.size + 1 ≤ (later w1 xn).heap.size := by rw [later_size]; omega
            clear hop hx5 hrow5
            go_wp2_with (go_at_call 213; refine (show Hid _ from ?_).out)
            refine Lib.hid ?_
            refine (rquery_any b _ hb9).mono ?_
            rintro e w7 ⟨⟨A2, c2, qs, two, rfl, htwo, hqs, hoq⟩, hx7⟩
            have hrow7 := HRw5.out.ext hx7
            have HRw7 := Lib.hid hrow7
            have HXw7 := Lib.hid (HXw5.out.trans hx7)
            have HOp7 := Lib.hid ((HOp.out.ext hx7).lower hbs5)
            have HOq7 := Lib.hid (hoq.lower (b2 := w.heap.size + 1) (by omega))
            have d07 : w7.cell? ⟨g, 0, none⟩ = some (.string x0) := (hx7.cell (p := ⟨g, 0, none⟩) (by show g < _; omega)).trans d05
            have hm7 : roomOf w7 w.heap.size 0 4 = true := by rw [hrow7.room]; rfl
            have hl7 := hrow7.lt
            have hsz7 := hx7.size
            have HE3 : Hid (PE = if one = true ∧ two = true then (if 32 < lp.length ∨ 16 < qs.length then 2 else 0) else 3) := Lib.hid (by
              have e1 : lp.length = (PT.getD []).length := by rw [← HLp.out, List.length_map]
              have e2 : qs.length = ((Ad.quN (bsT b)).getD []).length := by rw [← hqs, List.length_map]
              rw [HE2.out, HOne.out, htwo, e1, e2])
            have HA3 : Hid (PA = if PE = 0 then ⟨bsT x0, lp.map bsT, qs.map prB⟩ else Ad.noAdr) := Lib.hid (by rw [HA2.out, HLp.out, hqs])
            clear hoq hx7 hrow7 HOne HLp htwo hqs HE2 HA2 HPp HOp HRw5 HXw5 HRw HXw HO1
            cases one with
            | false =>
              have HE' : Hid (PE = 3) := Lib.hid (by rw [HE3.out]; rfl)
              have HA' : Hid (PA = Ad.noAdr) := Lib.hid (by rw [HA3.out, HE'.out]; rfl)
              clear HE3 HA3
              go_wp2
              rw [HE'.out, HA'.out]
              exact post_row rd_ty Tryz.results181 rfl rfl (RowAt.stored (n := 4) (ds := #[.string ByteArray.empty, .slice none 0 0, .slice none 0 0, .int .i64 3]) HRw7.out rfl rfl (by omega)) ⟨⟨⟨#[]⟩, none, 0, [], none, 0, [], rfl, rfl, Owns.nil _ _ _ _ _, Owns.nil _ _ _ _ _⟩, (by (repeat (first | with_reducible exact HXw7.out | with_reducible exact Ext.refl _ | with_reducible refine Ext.drew ?_ | with_reducible refine Ext.drewN ?_ _ | with_reducible refine Ext.alloc ?_ _ | with_reducible refine Ext.onto ?_ _ | (with_reducible refine Ext.setCells ?_ ?_ _ _; rotate_left; focus (first | omega | (simp; done) | (simp; omega))) | (with_reducible refine Ext.setCell ?_ ?_ _; rotate_left; focus (first | omega | (simp; done) | (simp; omega))))))⟩
            | true =>
              cases two with
              | false =>
                have HE' : Hid (PE = 3) := Lib.hid (by rw [HE3.out]; rfl)
                have HA' : Hid (PA = Ad.noAdr) := Lib.hid (by rw [HA3.out, HE'.out]; rfl)
                clear HE3 HA3
                go_wp2
                rw [HE'.out, HA'.out]
                exact post_row rd_ty Tryz.results181 rfl rfl (RowAt.stored (n := 4) (ds := #[.string ByteArray.empty, .slice none 0 0, .slice none 0 0, .int .i64 3]) HRw7.out rfl rfl (by omega)) ⟨⟨⟨#[]⟩, none, 0, [], none, 0, [], rfl, rfl, Owns.nil _ _ _ _ _, Owns.nil _ _ _ _ _⟩, (by (repeat (first | with_reducible exact HXw7.out | with_reducible exact Ext.refl _ | with_reducible refine Ext.drew ?_ | with_reducible refine Ext.drewN ?_ _ | with_reducible refine Ext.alloc ?_ _ | with_reducible refine Ext.onto ?_ _ | (with_reducible refine Ext.setCells ?_ ?_ _ _; rotate_left; focus (first | omega | (simp; done) | (simp; omega))) | (with_reducible refine Ext.setCell ?_ ?_ _; rotate_left; focus (first | omega | (simp; done) | (simp; omega))))))⟩
              | true =>
                by_cases h32 : 32 < lp.length
                · have d32 : decide ((32 : Int) < (lp.length : Int)) = true := decide_eq_true (by omega)
                  have HE' : Hid (PE = 2) := Lib.hid (by rw [HE3.out, if_pos ⟨rfl, rfl⟩, if_pos (.inl h32)])
                  have HA' : Hid (PA = Ad.noAdr) := Lib.hid (by rw [HA3.out, HE'.out]; rfl)
                  clear HE3 HA3
                  go_wp2
                  rw [HE'.out, HA'.out]
                  exact post_row rd_ty Tryz.results181 rfl rfl (RowAt.stored (n := 4) (ds := #[.string ByteArray.empty, .slice none 0 0, .slice none 0 0, .int .i64 2]) HRw7.out rfl rfl (by omega)) ⟨⟨⟨#[]⟩, none, 0, [], none, 0, [], rfl, rfl, Owns.nil _ _ _ _ _, Owns.nil _ _ _ _ _⟩, (by (repeat (first | with_reducible exact HXw7.out | with_reducible exact Ext.refl _ | with_reducible refine Ext.drew ?_ | with_reducible refine Ext.drewN ?_ _ | with_reducible refine Ext.alloc ?_ _ | with_reducible refine Ext.onto ?_ _ | (with_reducible refine Ext.setCells ?_ ?_ _ _; rotate_left; focus (first | omega | (simp; done) | (simp; omega))) | (with_reducible refine Ext.setCell ?_ ?_ _; rotate_left; focus (first | omega | (simp; done) | (simp; omega))))))⟩
                · have d32 : decide ((32 : Int) < (lp.length : Int)) = false := decide_eq_false (by omega)
                  by_cases h16 : 16 < qs.length
                  · have d16 : decide ((16 : Int) < (qs.length : Int)) = true := decide_eq_true (by omega)
                    have HE' : Hid (PE = 2) := Lib.hid (by rw [HE3.out, if_pos ⟨rfl, rfl⟩, if_pos (.inr h16)])
                    have HA' : Hid (PA = Ad.noAdr) := Lib.hid (by rw [HA3.out, HE'.out]; rfl)
                    clear HE3 HA3
                    go_wp2
                    rw [HE'.out, HA'.out]
                    exact post_row rd_ty Tryz.results181 rfl rfl (RowAt.stored (n := 4) (ds := #[.string ByteArray.empty, .slice none 0 0, .slice none 0 0, .int .i64 2]) HRw7.out rfl rfl (by omega)) ⟨⟨⟨#[]⟩, none, 0, [], none, 0, [], rfl, rfl, Owns.nil _ _ _ _ _, Owns.nil _ _ _ _ _⟩, (by (repeat (first | with_reducible exact HXw7.out | with_reducible exact Ext.refl _ | with_reducible refine Ext.drew ?_ | with_reducible refine Ext.drewN ?_ _ | with_reducible refine Ext.alloc ?_ _ | with_reducible refine Ext.onto ?_ _ | (with_reducible refine Ext.setCells ?_ ?_ _ _; rotate_left; focus (first | omega | (simp; done) | (simp; omega))) | (with_reducible refine Ext.setCell ?_ ?_ _; rotate_left; focus (first | omega | (simp; done) | (simp; omega))))))⟩
                  · have d16 : decide ((16 : Int) < (qs.length : Int)) = false := decide_eq_false (by omega)
                    have HE' : Hid (PE = 0) := Lib.hid (by rw [HE3.out, if_pos ⟨rfl, rfl⟩, if_neg (by omega)])
                    have HA' : Hid (PA = ⟨bsT x0, lp.map bsT, qs.map prB⟩) := Lib.hid (by rw [HA3.out, HE'.out, if_pos rfl])
                    clear HE3 HA3
                    go_wp2
                    rw [HE'.out, HA'.out]
                    exact post_row rd_ty Tryz.results181 rfl rfl (RowAt.stored (n := 4) (ds := #[.string x0, .slice Ap lp.length cp, .slice A2 qs.length c2, .int .i64 0]) HRw7.out rfl rfl (by omega)) ⟨⟨x0, Ap, cp, lp, A2, c2, qs, rfl, rfl, (HOp7.out.others (by omega) 0 _).lower (by omega), (HOq7.out.others (by omega) 0 _).lower (by omega)⟩, (by (repeat (first | with_reducible exact HXw7.out | with_reducible exact Ext.refl _ | with_reducible refine Ext.drew ?_ | with_reducible refine Ext.drewN ?_ _ | with_reducible refine Ext.alloc ?_ _ | with_reducible refine Ext.onto ?_ _ | (with_reducible refine Ext.setCells ?_ ?_ _ _; rotate_left; focus (first | omega | (simp; done) | (simp; omega))) | (with_reducible refine Ext.setCell ?_ ?_ _; rotate_left; focus (first | omega | (simp; done) | (simp; omega))))))⟩
          · go_wp2_with (first
              | (go_at_call 135; refine (HNm.out _).mono ?_; rintro e w' ⟨rfl, hxl⟩; obtain ⟨xn, rfl⟩ := hxl.asLater; clear hxl)
              | (go_at_call 212; refine (show Hid _ from ?_).out))
            refine Lib.hid ?_
            refine (HPp.out _ (ext_later _ _) _ _ (.inr rfl)).mono ?_
            rintro e w5 ⟨⟨Ap, cp, lp, one, rfl, hone, hlp, hop⟩, hx5⟩
            have hrow5 := (HRw.out.later _).ext hx5
            have HOne := Lib.hid hone
            have HLp := Lib.hid hlp
            clear hone hlp
            have HRw5 := Lib.hid hrow5
            have HXw5 := Lib.hid ((HXw.out.onto _).trans hx5)
            have HOp := Lib.hid hop
            have hl5 := hrow5.lt
            have hsz5 := hx5.size
            rw [later_size] at hsz5
            have d05 : w5.cell? ⟨g, 0, none⟩ = some (.string x0) := (hx5.cell (p := ⟨g, 0, none⟩) (by show g < _; rw [later_size]; omega)).trans (((ext_later _ _).cell (p := ⟨g, 0, none⟩) (by exact hglt)).trans d0)
            have hbs5 : w.heap.size + 1 ≤ (later w1 xn).heap.size := by rw [later_size]; omega
            clear hop hx5 hrow5
            go_wp2_with (go_at_call 213; refine (show Hid _ from ?_).out)
            refine Lib.hid ?_
            refine (rquery_any b _ hb9).mono ?_
            rintro e w7 ⟨⟨A2, c2, qs, two, rfl, htwo, hqs, hoq⟩, hx7⟩
            have hrow7 := HRw5.out.ext hx7
            have HRw7 := Lib.hid hrow7
            have HXw7 := Lib.hid (HXw5.out.trans hx7)
            have HOp7 := Lib.hid ((HOp.out.ext hx7).lower hbs5)
            have HOq7 := Lib.hid (hoq.lower (b2 := w.heap.size + 1) (by omega))
            have d07 : w7.cell? ⟨g, 0, none⟩ = some (.string x0) := (hx7.cell (p := ⟨g, 0, none⟩) (by show g < _; omega)).trans d05
            have hm7 : roomOf w7 w.heap.size 0 4 = true := by rw [hrow7.room]; rfl
            have hl7 := hrow7.lt
            have hsz7 := hx7.size
            have HE3 : Hid (PE = if one = true ∧ two = true then (if 32 < lp.length ∨ 16 < qs.length then 2 else 0) else 3) := Lib.hid (by
              have e1 : lp.length = (PT.getD []).length := by rw [← HLp.out, List.length_map]
              have e2 : qs.length = ((Ad.quN (bsT b)).getD []).length := by rw [← hqs, List.length_map]
              rw [HE2.out, HOne.out, htwo, e1, e2])
            have HA3 : Hid (PA = if PE = 0 then ⟨bsT x0, lp.map bsT, qs.map prB⟩ else Ad.noAdr) := Lib.hid (by rw [HA2.out, HLp.out, hqs])
            clear hoq hx7 hrow7 HOne HLp htwo hqs HE2 HA2 HPp HOp HRw5 HXw5 HRw HXw HO1
            cases one with
            | false =>
              have HE' : Hid (PE = 3) := Lib.hid (by rw [HE3.out]; rfl)
              have HA' : Hid (PA = Ad.noAdr) := Lib.hid (by rw [HA3.out, HE'.out]; rfl)
              clear HE3 HA3
              go_wp2
              rw [HE'.out, HA'.out]
              exact post_row rd_ty Tryz.results181 rfl rfl (RowAt.stored (n := 4) (ds := #[.string ByteArray.empty, .slice none 0 0, .slice none 0 0, .int .i64 3]) HRw7.out rfl rfl (by omega)) ⟨⟨⟨#[]⟩, none, 0, [], none, 0, [], rfl, rfl, Owns.nil _ _ _ _ _, Owns.nil _ _ _ _ _⟩, (by (repeat (first | with_reducible exact HXw7.out | with_reducible exact Ext.refl _ | with_reducible refine Ext.drew ?_ | with_reducible refine Ext.drewN ?_ _ | with_reducible refine Ext.alloc ?_ _ | with_reducible refine Ext.onto ?_ _ | (with_reducible refine Ext.setCells ?_ ?_ _ _; rotate_left; focus (first | omega | (simp; done) | (simp; omega))) | (with_reducible refine Ext.setCell ?_ ?_ _; rotate_left; focus (first | omega | (simp; done) | (simp; omega))))))⟩
            | true =>
              cases two with
              | false =>
                have HE' : Hid (PE = 3) := Lib.hid (by rw [HE3.out]; rfl)
                have HA' : Hid (PA = Ad.noAdr) := Lib.hid (by rw [HA3.out, HE'.out]; rfl)
                clear HE3 HA3
                go_wp2
                rw [HE'.out, HA'.out]
                exact post_row rd_ty Tryz.results181 rfl rfl (RowAt.stored (n := 4) (ds := #[.string ByteArray.empty, .slice none 0 0, .slice none 0 0, .int .i64 3]) HRw7.out rfl rfl (by omega)) ⟨⟨⟨#[]⟩, none, 0, [], none, 0, [], rfl, rfl, Owns.nil _ _ _ _ _, Owns.nil _ _ _ _ _⟩, (by (repeat (first | with_reducible exact HXw7.out | with_reducible exact Ext.refl _ | with_reducible refine Ext.drew ?_ | with_reducible refine Ext.drewN ?_ _ | with_reducible refine Ext.alloc ?_ _ | with_reducible refine Ext.onto ?_ _ | (with_reducible refine Ext.setCells ?_ ?_ _ _; rotate_left; focus (first | omega | (simp; done) | (simp; omega))) | (with_reducible refine Ext.setCell ?_ ?_ _; rotate_left; focus (first | omega | (simp; done) | (simp; omega))))))⟩
              | true =>
                by_cases h32 : 32 < lp.length
                · have d32 : decide ((32 : Int) < (lp.length : Int)) = true := decide_eq_true (by omega)
                  have HE' : Hid (PE = 2) := Lib.hid (by rw [HE3.out, if_pos ⟨rfl, rfl⟩, if_pos (.inl h32)])
                  have HA' : Hid (PA = Ad.noAdr) := Lib.hid (by rw [HA3.out, HE'.out]; rfl)
                  clear HE3 HA3
                  go_wp2
                  rw [HE'.out, HA'.out]
                  exact post_row rd_ty Tryz.results181 rfl rfl (RowAt.stored (n := 4) (ds := #[.string ByteArray.empty, .slice none 0 0, .slice none 0 0, .int .i64 2]) HRw7.out rfl rfl (by omega)) ⟨⟨⟨#[]⟩, none, 0, [], none, 0, [], rfl, rfl, Owns.nil _ _ _ _ _, Owns.nil _ _ _ _ _⟩, (by (repeat (first | with_reducible exact HXw7.out | with_reducible exact Ext.refl _ | with_reducible refine Ext.drew ?_ | with_reducible refine Ext.drewN ?_ _ | with_reducible refine Ext.alloc ?_ _ | with_reducible refine Ext.onto ?_ _ | (with_reducible refine Ext.setCells ?_ ?_ _ _; rotate_left; focus (first | omega | (simp; done) | (simp; omega))) | (with_reducible refine Ext.setCell ?_ ?_ _; rotate_left; focus (first | omega | (simp; done) | (simp; omega))))))⟩
                · have d32 : decide ((32 : Int) < (lp.length : Int)) = false := decide_eq_false (by omega)
                  by_cases h16 : 16 < qs.length
                  · have d16 : decide ((16 : Int) < (qs.length : Int)) = true := decide_eq_true (by omega)
                    have HE' : Hid (PE = 2) := Lib.hid (by rw [HE3.out, if_pos ⟨rfl, rfl⟩, if_pos (.inr h16)])
                    have HA' : Hid (PA = Ad.noAdr) := Lib.hid (by rw [HA3.out, HE'.out]; rfl)
                    clear HE3 HA3
                    go_wp2
                    rw [HE'.out, HA'.out]
                    exact post_row rd_ty Tryz.results181 rfl rfl (RowAt.stored (n := 4) (ds := #[.string ByteArray.empty, .slice none 0 0, .slice none 0 0, .int .i64 2]) HRw7.out rfl rfl (by omega)) ⟨⟨⟨#[]⟩, none, 0, [], none, 0, [], rfl, rfl, Owns.nil _ _ _ _ _, Owns.nil _ _ _ _ _⟩, (by (repeat (first | with_reducible exact HXw7.out | with_reducible exact Ext.refl _ | with_reducible refine Ext.drew ?_ | with_reducible refine Ext.drewN ?_ _ | with_reducible refine Ext.alloc ?_ _ | with_reducible refine Ext.onto ?_ _ | (with_reducible refine Ext.setCells ?_ ?_ _ _; rotate_left; focus (first | omega | (simp; done) | (simp; omega))) | (with_reducible refine Ext.setCell ?_ ?_ _; rotate_left; focus (first | omega | (simp; done) | (simp; omega))))))⟩
                  · have d16 : decide ((16 : Int) < (qs.length : Int)) = false := decide_eq_false (by omega)
                    have HE' : Hid (PE = 0) := Lib.hid (by rw [HE3.out, if_pos ⟨rfl, rfl⟩, if_neg (by omega)])
                    have HA' : Hid (PA = ⟨bsT x0, lp.map bsT, qs.map prB⟩) := Lib.hid (by rw [HA3.out, HE'.out, if_pos rfl])
                    clear HE3 HA3
                    go_wp2
                    rw [HE'.out, HA'.out]
                    exact post_row rd_ty Tryz.results181 rfl rfl (RowAt.stored (n := 4) (ds := #[.string x0, .slice Ap lp.length cp, .slice A2 qs.length c2, .int .i64 0]) HRw7.out rfl rfl (by omega)) ⟨⟨x0, Ap, cp, lp, A2, c2, qs, rfl, rfl, (HOp7.out.others (by omega) 0 _).lower (by omega), (HOq7.out.others (by omega) 0 _).lower (by omega)⟩, (by (repeat (first | with_reducible exact HXw7.out | with_reducible exact Ext.refl _ | with_reducible refine Ext.drew ?_ | with_reducible refine Ext.drewN ?_ _ | with_reducible refine Ext.alloc ?_ _ | with_reducible refine Ext.onto ?_ _ | (with_reducible refine Ext.setCells ?_ ?_ _ _; rotate_left; focus (first | omega | (simp; done) | (simp; omega))) | (with_reducible refine Ext.setCell ?_ ?_ _; rotate_left; focus (first | omega | (simp; done) | (simp; omega))))))⟩
    · obtain ⟨m, hm⟩ : ∃ m, a.size = m + 1 := ⟨a.size - 1, by omega⟩
      by_cases h47 : a[m]'(by omega) = 47
      · have hb7 : (((a[m]'(by omega)).toNat : Int) == 47) = true := by rw [h47]; rfl
        have HTr := Lib.hid (trim_at hm h47)
        have hu9 : (a.extract 0 m).size ≤ 4096 := by rw [ByteArray.size_extract]; omega
        go_upto_region 6 with (fail)
        generalize a.extract 0 m = u at *
        clear hb7 h47
        go_upto_region 7 with (go_at_call 183; refine (rsplit_any u 47 _ (by omega)).mono ?_; rintro e w1 ⟨A1, c1, ls, rfl, hcut, ho1, hl1, hx1⟩)
        have hps : ls.map bsT = Ad.pieces 47 (bsT u) := Ad.pieces_of hcut
        rw [pieces_cutB, HTr.out] at hps
        have HLf : Hid (Ad.leftN (bsT s) = Ad.cutB 47 (Ad.trim1 (bsT a))) := Lib.hid (by unfold Ad.leftN; rw [HHd.out])
        rw [← HLf.out] at hps
        cases ls with
        | nil => cases hps
        | cons x0 rest =>
          rw [List.map_cons] at hps
          injection hps with hp0 hp1
          have HPt : Hid (Ad.pathN (bsT s) = Ad.resAll (rest.map bsT)) := Lib.hid (by
            rw [hp1]; unfold Ad.pathN
            split
            · rfl
            · rfl)
          rw [HHd.out, ← hp0] at HE HA
          have hx0 : x0.size ≤ 4096 := by
            have h1 := piece_le 47 (bsT u) (bsT x0) (by rw [← Ad.pieces_of hcut]; simp)
            rw [bsT_size, bsT_size] at h1
            omega
          have hrz : ∀ x ∈ rest, x.size ≤ 4096 := fun x hx => by
            have h1 := piece_le 47 (bsT u) (bsT x) (by rw [← Ad.pieces_of hcut]; exact List.mem_map_of_mem (List.mem_cons_of_mem _ hx))
            rw [bsT_size, bsT_size] at h1
            omega
          have HRz := Lib.hid hrz
          have hrow1 := ((RowAt.new w #[.string ByteArray.empty, .slice none 0 0, .slice none 0 0, .int .i64 0] 254).later _).ext hx1
          have hxw1 := (((Ext.refl w).alloc _).onto _).trans hx1
          have HRw := Lib.hid hrow1
          have HXw := Lib.hid hxw1
          have hlr := hrow1.lt
          have hmr : roomOf w1 w.heap.size 0 4 = true := by rw [hrow1.room]; rfl
          have HO1 := Lib.hid ho1
          rcases ho1.cases with ⟨_, _, e⟩ | ⟨g, cur, rfl, hg1, hg2, hcap, hcm, _, _⟩
          · cases e
          have hglt : g < w1.heap.size := (Array.getElem?_eq_some_iff.1 hg2).1
          obtain ⟨b9, off9, e9, _, d0⟩ := ReadsStr.cell (HO1.out.reads sE) 0 (by simp)
          injection e9 with e9
          injection e9 with e9 e10
          subst e9 e10
          rw [List.length_cons] at hcap hl1
          unfold maxLen at hcm
          simp only [List.getElem_cons_zero] at d0
          have HNm := Lib.hid (fun W => rname_any x0 W (by omega))
          clear hcut hp0 hp1 hx1 hrow1 hxw1 ho1 HLf HTr hrz hg2 HHd
          generalize Ad.leftN (bsT s) = LF at *
          cases hn : Tg.nameB (bsT x0) with
          | false =>
            have hn' : Tg.nameB x0.data.toList = false := hn
            rw [hn'] at HNm
            have HE' : Hid (PE = 3) := Lib.hid (by rw [HE.out, hn]; rfl)
            have HA' : Hid (PA = Ad.noAdr) := Lib.hid (by rw [HA.out, HE'.out]; rfl)
            clear HE HA hn hn'
            go_wp2_with (go_at_call 135; refine (HNm.out _).mono ?_; rintro e w' ⟨rfl, hxl⟩; obtain ⟨xn, rfl⟩ := hxl.asLater; clear hxl)
            rw [HE'.out, HA'.out]
            exact post_row rd_ty Tryz.results181 rfl rfl (RowAt.stored (n := 4) (ds := #[.string ByteArray.empty, .slice none 0 0, .slice none 0 0, .int .i64 3]) (HRw.out.later _) rfl rfl (by omega)) ⟨⟨⟨#[]⟩, none, 0, [], none, 0, [], rfl, rfl, Owns.nil _ _ _ _ _, Owns.nil _ _ _ _ _⟩, (by (repeat (first | with_reducible exact HXw.out | with_reducible exact Ext.refl _ | with_reducible refine Ext.drew ?_ | with_reducible refine Ext.drewN ?_ _ | with_reducible refine Ext.alloc ?_ _ | with_reducible refine Ext.onto ?_ _ | (with_reducible refine Ext.setCells ?_ ?_ _ _; rotate_left; focus (first | omega | (simp; done) | (simp; omega))) | (with_reducible refine Ext.setCell ?_ ?_ _; rotate_left; focus (first | omega | (simp; done) | (simp; omega))))))⟩
          | true =>
            have hn' : Tg.nameB x0.data.toList = true := hn
            rw [hn'] at HNm
            have HPp : Hid (∀ W, Ext w1 W → ∀ (A0 : Option Addr) (c0 : Nat), (rest.length = 0 ∨ A0 = some ⟨g, 1, none⟩) → Calls Tryz.prog 212 #[.slice A0 rest.length c0] W fun e w' => RslU (Ad.resAll (rest.map bsT)) W.heap.size e w' ∧ Ext W w') := Lib.hid (fun W hx A0 c0 h => by
              refine rpath_any A0 c0 rest W (by omega) HRz.out ?_
              rcases h with h | h
              · intro h9; omega
              · subst h; exact reads_tail (off := 0) ((HO1.out.reads sE).on hx))
            have HE2 : Hid (PE = if (Ad.resAll (rest.map bsT)).isSome = true ∧ (Ad.quN (bsT b)).isSome = true then (if 32 < ((Ad.resAll (rest.map bsT)).getD []).length ∨ 16 < ((Ad.quN (bsT b)).getD []).length then 2 else 0) else 3) := Lib.hid (by rw [HE.out, HPt.out, hn]; simp)
            have HA2 : Hid (PA = if PE = 0 then ⟨bsT x0, (Ad.resAll (rest.map bsT)).getD [], (Ad.quN (bsT b)).getD []⟩ else Ad.noAdr) := Lib.hid (by rw [HA.out, HPt.out])
            clear HE HA hn hn' HRz HPt
            generalize Ad.resAll (rest.map bsT) = PT at *
            rcases (show c1 = 1 ∨ 2 ≤ c1 by omega) with hc1 | hc1
            · have hr0 : rest.length = 0 := by omega
              subst hc1
              go_wp2_with (first
                | (go_at_call 135; refine (HNm.out _).mono ?_; rintro e w' ⟨rfl, hxl⟩; obtain ⟨xn, rfl⟩ := hxl.asLater; clear hxl)
                | (go_at_call 212; refine (show Hid _ from ?_).out))
              refine Lib.hid ?_
              (try rw [← hr0])
              refine (HPp.out _ (ext_later _ _) _ _ (.inl hr0)).mono ?_
              rintro e w5 ⟨⟨Ap, cp, lp, one, rfl, hone, hlp, hop⟩, hx5⟩
              have hrow5 := (HRw.out.later _).ext hx5
              have HOne := Lib.hid hone
              have HLp := Lib.hid hlp
              clear hone hlp
              have HRw5 := Lib.hid hrow5
              have HXw5 := Lib.hid ((HXw.out.onto _).trans hx5)
              have HOp := Lib.hid hop
              have hl5 := hrow5.lt
              have hsz5 := hx5.size
              rw [later_size] at hsz5
              have d05 : w5.cell? ⟨g, 0, none⟩ = some (.string x0) := (hx5.cell (p := ⟨g, 0, none⟩) (by show g < _; rw [later_size]; omega)).trans (((ext_later _ _).cell (p := ⟨g, 0, none⟩) (by exact hglt)).trans d0)
              have hbs5 : w.heap.size + 1 ≤ (later w1 xn).heap.size := by rw [later_size]; omega
              clear hop hx5 hrow5
              go_wp2_with (go_at_call 213; refine (show Hid _ from ?_).out)
              refine Lib.hid ?_
              refine (rquery_any b _ hb9).mono ?_
              rintro e w7 ⟨⟨A2, c2, qs, two, rfl, htwo, hqs, hoq⟩, hx7⟩
              have hrow7 := HRw5.out.ext hx7
              have HRw7 := Lib.hid hrow7
              have HXw7 := Lib.hid (HXw5.out.trans hx7)
              have HOp7 := Lib.hid ((HOp.out.ext hx7).lower hbs5)
              have HOq7 := Lib.hid (hoq.lower (b2 := w.heap.size + 1) (by omega))
              have d07 : w7.cell? ⟨g, 0, none⟩ = some (.string x0) := (hx7.cell (p := ⟨g, 0, none⟩) (by show g < _; omega)).trans d05
              have hm7 : roomOf w7 w.heap.size 0 4 = true := by rw [hrow7.room]; rfl
              have hl7 := hrow7.lt
              have hsz7 := hx7.size
              have HE3 : Hid (PE = if one = true ∧ two = true then (if 32 < lp.length ∨ 16 < qs.length then 2 else 0) else 3) := Lib.hid (by
                have e1 : lp.length = (PT.getD []).length := by rw [← HLp.out, List.length_map]
                have e2 : qs.length = ((Ad.quN (bsT b)).getD []).length := by rw [← hqs, List.length_map]
                rw [HE2.out, HOne.out, htwo, e1, e2])
              have HA3 : Hid (PA = if PE = 0 then ⟨bsT x0, lp.map bsT, qs.map prB⟩ else Ad.noAdr) := Lib.hid (by rw [HA2.out, HLp.out, hqs])
              clear hoq hx7 hrow7 HOne HLp htwo hqs HE2 HA2 HPp HOp HRw5 HXw5 HRw HXw HO1
              cases one with
              | false =>
                have HE' : Hid (PE = 3) := Lib.hid (by rw [HE3.out]; rfl)
                have HA' : Hid (PA = Ad.noAdr) := Lib.hid (by rw [HA3.out, HE'.out]; rfl)
                clear HE3 HA3
                go_wp2
                rw [HE'.out, HA'.out]
                exact post_row rd_ty Tryz.results181 rfl rfl (RowAt.stored (n := 4) (ds := #[.string ByteArray.empty, .slice none 0 0, .slice none 0 0, .int .i64 3]) HRw7.out rfl rfl (by omega)) ⟨⟨⟨#[]⟩, none, 0, [], none, 0, [], rfl, rfl, Owns.nil _ _ _ _ _, Owns.nil _ _ _ _ _⟩, (by (repeat (first | with_reducible exact HXw7.out | with_reducible exact Ext.refl _ | with_reducible refine Ext.drew ?_ | with_reducible refine Ext.drewN ?_ _ | with_reducible refine Ext.alloc ?_ _ | with_reducible refine Ext.onto ?_ _ | (with_reducible refine Ext.setCells ?_ ?_ _ _; rotate_left; focus (first | omega | (simp; done) | (simp; omega))) | (with_reducible refine Ext.setCell ?_ ?_ _; rotate_left; focus (first | omega | (simp; done) | (simp; omega))))))⟩
              | true =>
                cases two with
                | false =>
                  have HE' : Hid (PE = 3) := Lib.hid (by rw [HE3.out]; rfl)
                  have HA' : Hid (PA = Ad.noAdr) := Lib.hid (by rw [HA3.out, HE'.out]; rfl)
                  clear HE3 HA3
                  go_wp2
                  rw [HE'.out, HA'.out]
                  exact post_row rd_ty Tryz.results181 rfl rfl (RowAt.stored (n := 4) (ds := #[.string ByteArray.empty, .slice none 0 0, .slice none 0 0, .int .i64 3]) HRw7.out rfl rfl (by omega)) ⟨⟨⟨#[]⟩, none, 0, [], none, 0, [], rfl, rfl, Owns.nil _ _ _ _ _, Owns.nil _ _ _ _ _⟩, (by (repeat (first | with_reducible exact HXw7.out | with_reducible exact Ext.refl _ | with_reducible refine Ext.drew ?_ | with_reducible refine Ext.drewN ?_ _ | with_reducible refine Ext.alloc ?_ _ | with_reducible refine Ext.onto ?_ _ | (with_reducible refine Ext.setCells ?_ ?_ _ _; rotate_left; focus (first | omega | (simp; done) | (simp; omega))) | (with_reducible refine Ext.setCell ?_ ?_ _; rotate_left; focus (first | omega | (simp; done) | (simp; omega))))))⟩
                | true =>
                  by_cases h32 : 32 < lp.length
                  · have d32 : decide ((32 : Int) < (lp.length : Int)) = true := decide_eq_true (by omega)
                    have HE' : Hid (PE = 2) := Lib.hid (by rw [HE3.out, if_pos ⟨rfl, rfl⟩, if_pos (.inl h32)])
                    have HA' : Hid (PA = Ad.noAdr) := Lib.hid (by rw [HA3.out, HE'.out]; rfl)
                    clear HE3 HA3
                    go_wp2
                    rw [HE'.out, HA'.out]
                    exact post_row rd_ty Tryz.results181 rfl rfl (RowAt.stored (n := 4) (ds := #[.string ByteArray.empty, .slice none 0 0, .slice none 0 0, .int .i64 2]) HRw7.out rfl rfl (by omega)) ⟨⟨⟨#[]⟩, none, 0, [], none, 0, [], rfl, rfl, Owns.nil _ _ _ _ _, Owns.nil _ _ _ _ _⟩, (by (repeat (first | with_reducible exact HXw7.out | with_reducible exact Ext.refl _ | with_reducible refine Ext.drew ?_ | with_reducible refine Ext.drewN ?_ _ | with_reducible refine Ext.alloc ?_ _ | with_reducible refine Ext.onto ?_ _ | (with_reducible refine Ext.setCells ?_ ?_ _ _; rotate_left; focus (first | omega | (simp; done) | (simp; omega))) | (with_reducible refine Ext.setCell ?_ ?_ _; rotate_left; focus (first | omega | (simp; done) | (simp; omega))))))⟩
                  · have d32 : decide ((32 : Int) < (lp.length : Int)) = false := decide_eq_false (by omega)
                    by_cases h16 : 16 < qs.length
                    · have d16 : decide ((16 : Int) < (qs.length : Int)) = true := decide_eq_true (by omega)
                      have HE' : Hid (PE = 2) := Lib.hid (by rw [HE3.out, if_pos ⟨rfl, rfl⟩, if_pos (.inr h16)])
                      have HA' : Hid (PA = Ad.noAdr) := Lib.hid (by rw [HA3.out, HE'.out]; rfl)
                      clear HE3 HA3
                      go_wp2
                      rw [HE'.out, HA'.out]
                      exact post_row rd_ty Tryz.results181 rfl rfl (RowAt.stored (n := 4) (ds := #[.string ByteArray.empty, .slice none 0 0, .slice none 0 0, .int .i64 2]) HRw7.out rfl rfl (by omega)) ⟨⟨⟨#[]⟩, none, 0, [], none, 0, [], rfl, rfl, Owns.nil _ _ _ _ _, Owns.nil _ _ _ _ _⟩, (by (repeat (first | with_reducible exact HXw7.out | with_reducible exact Ext.refl _ | with_reducible refine Ext.drew ?_ | with_reducible refine Ext.drewN ?_ _ | with_reducible refine Ext.alloc ?_ _ | with_reducible refine Ext.onto ?_ _ | (with_reducible refine Ext.setCells ?_ ?_ _ _; rotate_left; focus (first | omega | (simp; done) | (simp; omega))) | (with_reducible refine Ext.setCell ?_ ?_ _; rotate_left; focus (first | omega | (simp; done) | (simp; omega))))))⟩
                    · have d16 : decide ((16 : Int) < (qs.length : Int)) = false := decide_eq_false (by omega)
                      have HE' : Hid (PE = 0) := Lib.hid (by rw [HE3.out, if_pos ⟨rfl, rfl⟩, if_neg (by omega)])
                      have HA' : Hid (PA = ⟨bsT x0, lp.map bsT, qs.map prB⟩) := Lib.hid (by rw [HA3.out, HE'.out, if_pos rfl])
                      clear HE3 HA3
                      go_wp2
                      rw [HE'.out, HA'.out]
                      exact post_row rd_ty Tryz.results181 rfl rfl (RowAt.stored (n := 4) (ds := #[.string x0, .slice Ap lp.length cp, .slice A2 qs.length c2, .int .i64 0]) HRw7.out rfl rfl (by omega)) ⟨⟨x0, Ap, cp, lp, A2, c2, qs, rfl, rfl, (HOp7.out.others (by omega) 0 _).lower (by omega), (HOq7.out.others (by omega) 0 _).lower (by omega)⟩, (by (repeat (first | with_reducible exact HXw7.out | with_reducible exact Ext.refl _ | with_reducible refine Ext.drew ?_ | with_reducible refine Ext.drewN ?_ _ | with_reducible refine Ext.alloc ?_ _ | with_reducible refine Ext.onto ?_ _ | (with_reducible refine Ext.setCells ?_ ?_ _ _; rotate_left; focus (first | omega | (simp; done) | (simp; omega))) | (with_reducible refine Ext.setCell ?_ ?_ _; rotate_left; focus (first | omega | (simp; done) | (simp; omega))))))⟩
            · go_wp2_with (first
                | (go_at_call 135; refine (HNm.out _).mono ?_; rintro e w' ⟨rfl, hxl⟩; obtain ⟨xn, rfl⟩ := hxl.asLater; clear hxl)
                | (go_at_call 212; refine (show Hid _ from ?_).out))
              refine Lib.hid ?_
              refine (HPp.out _ (ext_later _ _) _ _ (.inr rfl)).mono ?_
              rintro e w5 ⟨⟨Ap, cp, lp, one, rfl, hone, hlp, hop⟩, hx5⟩
              have hrow5 := (HRw.out.later _).ext hx5
              have HOne := Lib.hid hone
              have HLp := Lib.hid hlp
              clear hone hlp
              have HRw5 := Lib.hid hrow5
              have HXw5 := Lib.hid ((HXw.out.onto _).trans hx5)
              have HOp := Lib.hid hop
              have hl5 := hrow5.lt
              have hsz5 := hx5.size
              rw [later_size] at hsz5
              have d05 : w5.cell? ⟨g, 0, none⟩ = some (.string x0) := (hx5.cell (p := ⟨g, 0, none⟩) (by show g < _; rw [later_size]; omega)).trans (((ext_later _ _).cell (p := ⟨g, 0, none⟩) (by exact hglt)).trans d0)
              have hbs5 : w.heap.size + 1 ≤ (later w1 xn).heap.size := by rw [later_size]; omega
              clear hop hx5 hrow5
              go_wp2_with (go_at_call 213; refine (show Hid _ from ?_).out)
              refine Lib.hid ?_
              refine (rquery_any b _ hb9).mono ?_
              rintro e w7 ⟨⟨A2, c2, qs, two, rfl, htwo, hqs, hoq⟩, hx7⟩
              have hrow7 := HRw5.out.ext hx7
              have HRw7 := Lib.hid hrow7
              have HXw7 := Lib.hid (HXw5.out.trans hx7)
              have HOp7 := Lib.hid ((HOp.out.ext hx7).lower hbs5)
              have HOq7 := Lib.hid (hoq.lower (b2 := w.heap.size + 1) (by omega))
              have d07 : w7.cell? ⟨g, 0, none⟩ = some (.string x0) := (hx7.cell (p := ⟨g, 0, none⟩) (by show g < _; omega)).trans d05
              have hm7 : roomOf w7 w.heap.size 0 4 = true := by rw [hrow7.room]; rfl
              have hl7 := hrow7.lt
              have hsz7 := hx7.size
              have HE3 : Hid (PE = if one = true ∧ two = true then (if 32 < lp.length ∨ 16 < qs.length then 2 else 0) else 3) := Lib.hid (by
                have e1 : lp.length = (PT.getD []).length := by rw [← HLp.out, List.length_map]
                have e2 : qs.length = ((Ad.quN (bsT b)).getD []).length := by rw [← hqs, List.length_map]
                rw [HE2.out, HOne.out, htwo, e1, e2])
              have HA3 : Hid (PA = if PE = 0 then ⟨bsT x0, lp.map bsT, qs.map prB⟩ else Ad.noAdr) := Lib.hid (by rw [HA2.out, HLp.out, hqs])
              clear hoq hx7 hrow7 HOne HLp htwo hqs HE2 HA2 HPp HOp HRw5 HXw5 HRw HXw HO1
              cases one with
              | false =>
                have HE' : Hid (PE = 3) := Lib.hid (by rw [HE3.out]; rfl)
                have HA' : Hid (PA = Ad.noAdr) := Lib.hid (by rw [HA3.out, HE'.out]; rfl)
                clear HE3 HA3
                go_wp2
                rw [HE'.out, HA'.out]
                exact post_row rd_ty Tryz.results181 rfl rfl (RowAt.stored (n := 4) (ds := #[.string ByteArray.empty, .slice none 0 0, .slice none 0 0, .int .i64 3]) HRw7.out rfl rfl (by omega)) ⟨⟨⟨#[]⟩, none, 0, [], none, 0, [], rfl, rfl, Owns.nil _ _ _ _ _, Owns.nil _ _ _ _ _⟩, (by (repeat (first | with_reducible exact HXw7.out | with_reducible exact Ext.refl _ | with_reducible refine Ext.drew ?_ | with_reducible refine Ext.drewN ?_ _ | with_reducible refine Ext.alloc ?_ _ | with_reducible refine Ext.onto ?_ _ | (with_reducible refine Ext.setCells ?_ ?_ _ _; rotate_left; focus (first | omega | (simp; done) | (simp; omega))) | (with_reducible refine Ext.setCell ?_ ?_ _; rotate_left; focus (first | omega | (simp; done) | (simp; omega))))))⟩
              | true =>
                cases two with
                | false =>
                  have HE' : Hid (PE = 3) := Lib.hid (by rw [HE3.out]; rfl)
                  have HA' : Hid (PA = Ad.noAdr) := Lib.hid (by rw [HA3.out, HE'.out]; rfl)
                  clear HE3 HA3
                  go_wp2
                  rw [HE'.out, HA'.out]
                  exact post_row rd_ty Tryz.results181 rfl rfl (RowAt.stored (n := 4) (ds := #[.string ByteArray.empty, .slice none 0 0, .slice none 0 0, .int .i64 3]) HRw7.out rfl rfl (by omega)) ⟨⟨⟨#[]⟩, none, 0, [], none, 0, [], rfl, rfl, Owns.nil _ _ _ _ _, Owns.nil _ _ _ _ _⟩, (by (repeat (first | with_reducible exact HXw7.out | with_reducible exact Ext.refl _ | with_reducible refine Ext.drew ?_ | with_reducible refine Ext.drewN ?_ _ | with_reducible refine Ext.alloc ?_ _ | with_reducible refine Ext.onto ?_ _ | (with_reducible refine Ext.setCells ?_ ?_ _ _; rotate_left; focus (first | omega | (simp; done) | (simp; omega))) | (with_reducible refine Ext.setCell ?_ ?_ _; rotate_left; focus (first | omega | (simp; done) | (simp; omega))))))⟩
                | true =>
                  by_cases h32 : 32 < lp.length
                  · have d32 : decide ((32 : Int) < (lp.length : Int)) = true := decide_eq_true (by omega)
                    have HE' : Hid (PE = 2) := Lib.hid (by rw [HE3.out, if_pos ⟨rfl, rfl⟩, if_pos (.inl h32)])
                    have HA' : Hid (PA = Ad.noAdr) := Lib.hid (by rw [HA3.out, HE'.out]; rfl)
                    clear HE3 HA3
                    go_wp2
                    rw [HE'.out, HA'.out]
                    exact post_row rd_ty Tryz.results181 rfl rfl (RowAt.stored (n := 4) (ds := #[.string ByteArray.empty, .slice none 0 0, .slice none 0 0, .int .i64 2]) HRw7.out rfl rfl (by omega)) ⟨⟨⟨#[]⟩, none, 0, [], none, 0, [], rfl, rfl, Owns.nil _ _ _ _ _, Owns.nil _ _ _ _ _⟩, (by (repeat (first | with_reducible exact HXw7.out | with_reducible exact Ext.refl _ | with_reducible refine Ext.drew ?_ | with_reducible refine Ext.drewN ?_ _ | with_reducible refine Ext.alloc ?_ _ | with_reducible refine Ext.onto ?_ _ | (with_reducible refine Ext.setCells ?_ ?_ _ _; rotate_left; focus (first | omega | (simp; done) | (simp; omega))) | (with_reducible refine Ext.setCell ?_ ?_ _; rotate_left; focus (first | omega | (simp; done) | (simp; omega))))))⟩
                  · have d32 : decide ((32 : Int) < (lp.length : Int)) = false := decide_eq_false (by omega)
                    by_cases h16 : 16 < qs.length
                    · have d16 : decide ((16 : Int) < (qs.length : Int)) = true := decide_eq_true (by omega)
                      have HE' : Hid (PE = 2) := Lib.hid (by rw [HE3.out, if_pos ⟨rfl, rfl⟩, if_pos (.inr h16)])
                      have HA' : Hid (PA = Ad.noAdr) := Lib.hid (by rw [HA3.out, HE'.out]; rfl)
                      clear HE3 HA3
                      go_wp2
                      rw [HE'.out, HA'.out]
                      exact post_row rd_ty Tryz.results181 rfl rfl (RowAt.stored (n := 4) (ds := #[.string ByteArray.empty, .slice none 0 0, .slice none 0 0, .int .i64 2]) HRw7.out rfl rfl (by omega)) ⟨⟨⟨#[]⟩, none, 0, [], none, 0, [], rfl, rfl, Owns.nil _ _ _ _ _, Owns.nil _ _ _ _ _⟩, (by (repeat (first | with_reducible exact HXw7.out | with_reducible exact Ext.refl _ | with_reducible refine Ext.drew ?_ | with_reducible refine Ext.drewN ?_ _ | with_reducible refine Ext.alloc ?_ _ | with_reducible refine Ext.onto ?_ _ | (with_reducible refine Ext.setCells ?_ ?_ _ _; rotate_left; focus (first | omega | (simp; done) | (simp; omega))) | (with_reducible refine Ext.setCell ?_ ?_ _; rotate_left; focus (first | omega | (simp; done) | (simp; omega))))))⟩
                    · have d16 : decide ((16 : Int) < (qs.length : Int)) = false := decide_eq_false (by omega)
                      have HE' : Hid (PE = 0) := Lib.hid (by rw [HE3.out, if_pos ⟨rfl, rfl⟩, if_neg (by omega)])
                      have HA' : Hid (PA = ⟨bsT x0, lp.map bsT, qs.map prB⟩) := Lib.hid (by rw [HA3.out, HE'.out, if_pos rfl])
                      clear HE3 HA3
                      go_wp2
                      rw [HE'.out, HA'.out]
                      exact post_row rd_ty Tryz.results181 rfl rfl (RowAt.stored (n := 4) (ds := #[.string x0, .slice Ap lp.length cp, .slice A2 qs.length c2, .int .i64 0]) HRw7.out rfl rfl (by omega)) ⟨⟨x0, Ap, cp, lp, A2, c2, qs, rfl, rfl, (HOp7.out.others (by omega) 0 _).lower (by omega), (HOq7.out.others (by omega) 0 _).lower (by omega)⟩, (by (repeat (first | with_reducible exact HXw7.out | with_reducible exact Ext.refl _ | with_reducible refine Ext.drew ?_ | with_reducible refine Ext.drewN ?_ _ | with_reducible refine Ext.alloc ?_ _ | with_reducible refine Ext.onto ?_ _ | (with_reducible refine Ext.setCells ?_ ?_ _ _; rotate_left; focus (first | omega | (simp; done) | (simp; omega))) | (with_reducible refine Ext.setCell ?_ ?_ _; rotate_left; focus (first | omega | (simp; done) | (simp; omega))))))⟩
      · have hb7 : (((a[m]'(by omega)).toNat : Int) == 47) = false := by
          rw [beq_eq_false_iff_ne]
          exact fun h => h47 (UInt8.toNat_inj.1 (by rw [show (47 : UInt8).toNat = 47 from rfl]; omega))
        have HTr : Hid (bsT a = Ad.trim1 (bsT a)) := Lib.hid (trim_no (fun m' hm' => same_last hm hm' h47))
        go_upto_region 6 with (fail)
        clear hb7 h47
        go_upto_region 7 with (go_at_call 183; refine (rsplit_any a 47 _ (by omega)).mono ?_; rintro e w1 ⟨A1, c1, ls, rfl, hcut, ho1, hl1, hx1⟩)
        have hps : ls.map bsT = Ad.pieces 47 (bsT a) := Ad.pieces_of hcut
        rw [pieces_cutB, HTr.out] at hps
        have HLf : Hid (Ad.leftN (bsT s) = Ad.cutB 47 (Ad.trim1 (bsT a))) := Lib.hid (by unfold Ad.leftN; rw [HHd.out])
        rw [← HLf.out] at hps
        cases ls with
        | nil => cases hps
        | cons x0 rest =>
          rw [List.map_cons] at hps
          injection hps with hp0 hp1
          have HPt : Hid (Ad.pathN (bsT s) = Ad.resAll (rest.map bsT)) := Lib.hid (by
            rw [hp1]; unfold Ad.pathN
            split
            · rfl
            · rfl)
          rw [HHd.out, ← hp0] at HE HA
          have hx0 : x0.size ≤ 4096 := by
            have h1 := piece_le 47 (bsT a) (bsT x0) (by rw [← Ad.pieces_of hcut]; simp)
            rw [bsT_size, bsT_size] at h1
            omega
          have hrz : ∀ x ∈ rest, x.size ≤ 4096 := fun x hx => by
            have h1 := piece_le 47 (bsT a) (bsT x) (by rw [← Ad.pieces_of hcut]; exact List.mem_map_of_mem (List.mem_cons_of_mem _ hx))
            rw [bsT_size, bsT_size] at h1
            omega
          have HRz := Lib.hid hrz
          have hrow1 := ((RowAt.new w #[.string ByteArray.empty, .slice none 0 0, .slice none 0 0, .int .i64 0] 254).later _).ext hx1
          have hxw1 := (((Ext.refl w).alloc _).onto _).trans hx1
          have HRw := Lib.hid hrow1
          have HXw := Lib.hid hxw1
          have hlr := hrow1.lt
          have hmr : roomOf w1 w.heap.size 0 4 = true := by rw [hrow1.room]; rfl
          have HO1 := Lib.hid ho1
          rcases ho1.cases with ⟨_, _, e⟩ | ⟨g, cur, rfl, hg1, hg2, hcap, hcm, _, _⟩
          · cases e
          have hglt : g < w1.heap.size := (Array.getElem?_eq_some_iff.1 hg2).1
          obtain ⟨b9, off9, e9, _, d0⟩ := ReadsStr.cell (HO1.out.reads sE) 0 (by simp)
          injection e9 with e9
          injection e9 with e9 e10
          subst e9 e10
          rw [List.length_cons] at hcap hl1
          unfold maxLen at hcm
          simp only [List.getElem_cons_zero] at d0
          have HNm := Lib.hid (fun W => rname_any x0 W (by omega))
          clear hcut hp0 hp1 hx1 hrow1 hxw1 ho1 HLf HTr hrz hg2 HHd
          generalize Ad.leftN (bsT s) = LF at *
          cases hn : Tg.nameB (bsT x0) with
          | false =>
            have hn' : Tg.nameB x0.data.toList = false := hn
            rw [hn'] at HNm
            have HE' : Hid (PE = 3) := Lib.hid (by rw [HE.out, hn]; rfl)
            have HA' : Hid (PA = Ad.noAdr) := Lib.hid (by rw [HA.out, HE'.out]; rfl)
            clear HE HA hn hn'
            go_wp2_with (go_at_call 135; refine (HNm.out _).mono ?_; rintro e w' ⟨rfl, hxl⟩; obtain ⟨xn, rfl⟩ := hxl.asLater; clear hxl)
            rw [HE'.out, HA'.out]
            exact post_row rd_ty Tryz.results181 rfl rfl (RowAt.stored (n := 4) (ds := #[.string ByteArray.empty, .slice none 0 0, .slice none 0 0, .int .i64 3]) (HRw.out.later _) rfl rfl (by omega)) ⟨⟨⟨#[]⟩, none, 0, [], none, 0, [], rfl, rfl, Owns.nil _ _ _ _ _, Owns.nil _ _ _ _ _⟩, (by (repeat (first | with_reducible exact HXw.out | with_reducible exact Ext.refl _ | with_reducible refine Ext.drew ?_ | with_reducible refine Ext.drewN ?_ _ | with_reducible refine Ext.alloc ?_ _ | with_reducible refine Ext.onto ?_ _ | (with_reducible refine Ext.setCells ?_ ?_ _ _; rotate_left; focus (first | omega | (simp; done) | (simp; omega))) | (with_reducible refine Ext.setCell ?_ ?_ _; rotate_left; focus (first | omega | (simp; done) | (simp; omega))))))⟩
          | true =>
            have hn' : Tg.nameB x0.data.toList = true := hn
            rw [hn'] at HNm
            have HPp : Hid (∀ W, Ext w1 W → ∀ (A0 : Option Addr) (c0 : Nat), (rest.length = 0 ∨ A0 = some ⟨g, 1, none⟩) → Calls Tryz.prog 212 #[.slice A0 rest.length c0] W fun e w' => RslU (Ad.resAll (rest.map bsT)) W.heap.size e w' ∧ Ext W w') := Lib.hid (fun W hx A0 c0 h => by
              refine rpath_any A0 c0 rest W (by omega) HRz.out ?_
              rcases h with h | h
              · intro h9; omega
              · subst h; exact reads_tail (off := 0) ((HO1.out.reads sE).on hx))
            have HE2 : Hid (PE = if (Ad.resAll (rest.map bsT)).isSome = true ∧ (Ad.quN (bsT b)).isSome = true then (if 32 < ((Ad.resAll (rest.map bsT)).getD []).length ∨ 16 < ((Ad.quN (bsT b)).getD []).length then 2 else 0) else 3) := Lib.hid (by rw [HE.out, HPt.out, hn]; simp)
            have HA2 : Hid (PA = if PE = 0 then ⟨bsT x0, (Ad.resAll (rest.map bsT)).getD [], (Ad.quN (bsT b)).getD []⟩ else Ad.noAdr) := Lib.hid (by rw [HA.out, HPt.out])
            clear HE HA hn hn' HRz HPt
            generalize Ad.resAll (rest.map bsT) = PT at *
            rcases (show c1 = 1 ∨ 2 ≤ c1 by omega) with hc1 | hc1
            · have hr0 : rest.length = 0 := by omega
              subst hc1
              go_wp2_with (first
                | (go_at_call 135; refine (HNm.out _).mono ?_; rintro e w' ⟨rfl, hxl⟩; obtain ⟨xn, rfl⟩ := hxl.asLater; clear hxl)
                | (go_at_call 212; refine (show Hid _ from ?_).out))
              refine Lib.hid ?_
              (try rw [← hr0])
              refine (HPp.out _ (ext_later _ _) _ _ (.inl hr0)).mono ?_
              rintro e w5 ⟨⟨Ap, cp, lp, one, rfl, hone, hlp, hop⟩, hx5⟩
              have hrow5 := (HRw.out.later _).ext hx5
              have HOne := Lib.hid hone
              have HLp := Lib.hid hlp
              clear hone hlp
              have HRw5 := Lib.hid hrow5
              have HXw5 := Lib.hid ((HXw.out.onto _).trans hx5)
              have HOp := Lib.hid hop
              have hl5 := hrow5.lt
              have hsz5 := hx5.size
              rw [later_size] at hsz5
              have d05 : w5.cell? ⟨g, 0, none⟩ = some (.string x0) := (hx5.cell (p := ⟨g, 0, none⟩) (by show g < _; rw [later_size]; omega)).trans (((ext_later _ _).cell (p := ⟨g, 0, none⟩) (by exact hglt)).trans d0)
              have hbs5 : w.heap.size + 1 ≤ (later w1 xn).heap.size := by rw [later_size]; omega
              clear hop hx5 hrow5
              go_wp2_with (go_at_call 213; refine (show Hid _ from ?_).out)
              refine Lib.hid ?_
              refine (rquery_any b _ hb9).mono ?_
              rintro e w7 ⟨⟨A2, c2, qs, two, rfl, htwo, hqs, hoq⟩, hx7⟩
              have hrow7 := HRw5.out.ext hx7
              have HRw7 := Lib.hid hrow7
              have HXw7 := Lib.hid (HXw5.out.trans hx7)
              have HOp7 := Lib.hid ((HOp.out.ext hx7).lower hbs5)
              have HOq7 := Lib.hid (hoq.lower (b2 := w.heap.size + 1) (by omega))
              have d07 : w7.cell? ⟨g, 0, none⟩ = some (.string x0) := (hx7.cell (p := ⟨g, 0, none⟩) (by show g < _; omega)).trans d05
              have hm7 : roomOf w7 w.heap.size 0 4 = true := by rw [hrow7.room]; rfl
              have hl7 := hrow7.lt
              have hsz7 := hx7.size
              have HE3 : Hid (PE = if one = true ∧ two = true then (if 32 < lp.length ∨ 16 < qs.length then 2 else 0) else 3) := Lib.hid (by
                have e1 : lp.length = (PT.getD []).length := by rw [← HLp.out, List.length_map]
                have e2 : qs.length = ((Ad.quN (bsT b)).getD []).length := by rw [← hqs, List.length_map]
                rw [HE2.out, HOne.out, htwo, e1, e2])
              have HA3 : Hid (PA = if PE = 0 then ⟨bsT x0, lp.map bsT, qs.map prB⟩ else Ad.noAdr) := Lib.hid (by rw [HA2.out, HLp.out, hqs])
              clear hoq hx7 hrow7 HOne HLp htwo hqs HE2 HA2 HPp HOp HRw5 HXw5 HRw HXw HO1
              cases one with
              | false =>
                have HE' : Hid (PE = 3) := Lib.hid (by rw [HE3.out]; rfl)
                have HA' : Hid (PA = Ad.noAdr) := Lib.hid (by rw [HA3.out, HE'.out]; rfl)
                clear HE3 HA3
                go_wp2
                rw [HE'.out, HA'.out]
                exact post_row rd_ty Tryz.results181 rfl rfl (RowAt.stored (n := 4) (ds := #[.string ByteArray.empty, .slice none 0 0, .slice none 0 0, .int .i64 3]) HRw7.out rfl rfl (by omega)) ⟨⟨⟨#[]⟩, none, 0, [], none, 0, [], rfl, rfl, Owns.nil _ _ _ _ _, Owns.nil _ _ _ _ _⟩, (by (repeat (first | with_reducible exact HXw7.out | with_reducible exact Ext.refl _ | with_reducible refine Ext.drew ?_ | with_reducible refine Ext.drewN ?_ _ | with_reducible refine Ext.alloc ?_ _ | with_reducible refine Ext.onto ?_ _ | (with_reducible refine Ext.setCells ?_ ?_ _ _; rotate_left; focus (first | omega | (simp; done) | (simp; omega))) | (with_reducible refine Ext.setCell ?_ ?_ _; rotate_left; focus (first | omega | (simp; done) | (simp; omega))))))⟩
              | true =>
                cases two with
                | false =>
                  have HE' : Hid (PE = 3) := Lib.hid (by rw [HE3.out]; rfl)
                  have HA' : Hid (PA = Ad.noAdr) := Lib.hid (by rw [HA3.out, HE'.out]; rfl)
                  clear HE3 HA3
                  go_wp2
                  rw [HE'.out, HA'.out]
                  exact post_row rd_ty Tryz.results181 rfl rfl (RowAt.stored (n := 4) (ds := #[.string ByteArray.empty, .slice none 0 0, .slice none 0 0, .int .i64 3]) HRw7.out rfl rfl (by omega)) ⟨⟨⟨#[]⟩, none, 0, [], none, 0, [], rfl, rfl, Owns.nil _ _ _ _ _, Owns.nil _ _ _ _ _⟩, (by (repeat (first | with_reducible exact HXw7.out | with_reducible exact Ext.refl _ | with_reducible refine Ext.drew ?_ | with_reducible refine Ext.drewN ?_ _ | with_reducible refine Ext.alloc ?_ _ | with_reducible refine Ext.onto ?_ _ | (with_reducible refine Ext.setCells ?_ ?_ _ _; rotate_left; focus (first | omega | (simp; done) | (simp; omega))) | (with_reducible refine Ext.setCell ?_ ?_ _; rotate_left; focus (first | omega | (simp; done) | (simp; omega))))))⟩
                | true =>
                  by_cases h32 : 32 < lp.length
                  · have d32 : decide ((32 : Int) < (lp.length : Int)) = true := decide_eq_true (by omega)
                    have HE' : Hid (PE = 2) := Lib.hid (by rw [HE3.out, if_pos ⟨rfl, rfl⟩, if_pos (.inl h32)])
                    have HA' : Hid (PA = Ad.noAdr) := Lib.hid (by rw [HA3.out, HE'.out]; rfl)
                    clear HE3 HA3
                    go_wp2
                    rw [HE'.out, HA'.out]
                    exact post_row rd_ty Tryz.results181 rfl rfl (RowAt.stored (n := 4) (ds := #[.string ByteArray.empty, .slice none 0 0, .slice none 0 0, .int .i64 2]) HRw7.out rfl rfl (by omega)) ⟨⟨⟨#[]⟩, none, 0, [], none, 0, [], rfl, rfl, Owns.nil _ _ _ _ _, Owns.nil _ _ _ _ _⟩, (by (repeat (first | with_reducible exact HXw7.out | with_reducible exact Ext.refl _ | with_reducible refine Ext.drew ?_ | with_reducible refine Ext.drewN ?_ _ | with_reducible refine Ext.alloc ?_ _ | with_reducible refine Ext.onto ?_ _ | (with_reducible refine Ext.setCells ?_ ?_ _ _; rotate_left; focus (first | omega | (simp; done) | (simp; omega))) | (with_reducible refine Ext.setCell ?_ ?_ _; rotate_left; focus (first | omega | (simp; done) | (simp; omega))))))⟩
                  · have d32 : decide ((32 : Int) < (lp.length : Int)) = false := decide_eq_false (by omega)
                    by_cases h16 : 16 < qs.length
                    · have d16 : decide ((16 : Int) < (qs.length : Int)) = true := decide_eq_true (by omega)
                      have HE' : Hid (PE = 2) := Lib.hid (by rw [HE3.out, if_pos ⟨rfl, rfl⟩, if_pos (.inr h16)])
                      have HA' : Hid (PA = Ad.noAdr) := Lib.hid (by rw [HA3.out, HE'.out]; rfl)
                      clear HE3 HA3
                      go_wp2
                      rw [HE'.out, HA'.out]
                      exact post_row rd_ty Tryz.results181 rfl rfl (RowAt.stored (n := 4) (ds := #[.string ByteArray.empty, .slice none 0 0, .slice none 0 0, .int .i64 2]) HRw7.out rfl rfl (by omega)) ⟨⟨⟨#[]⟩, none, 0, [], none, 0, [], rfl, rfl, Owns.nil _ _ _ _ _, Owns.nil _ _ _ _ _⟩, (by (repeat (first | with_reducible exact HXw7.out | with_reducible exact Ext.refl _ | with_reducible refine Ext.drew ?_ | with_reducible refine Ext.drewN ?_ _ | with_reducible refine Ext.alloc ?_ _ | with_reducible refine Ext.onto ?_ _ | (with_reducible refine Ext.setCells ?_ ?_ _ _; rotate_left; focus (first | omega | (simp; done) | (simp; omega))) | (with_reducible refine Ext.setCell ?_ ?_ _; rotate_left; focus (first | omega | (simp; done) | (simp; omega))))))⟩
                    · have d16 : decide ((16 : Int) < (qs.length : Int)) = false := decide_eq_false (by omega)
                      have HE' : Hid (PE = 0) := Lib.hid (by rw [HE3.out, if_pos ⟨rfl, rfl⟩, if_neg (by omega)])
                      have HA' : Hid (PA = ⟨bsT x0, lp.map bsT, qs.map prB⟩) := Lib.hid (by rw [HA3.out, HE'.out, if_pos rfl])
                      clear HE3 HA3
                      go_wp2
                      rw [HE'.out, HA'.out]
                      exact post_row rd_ty Tryz.results181 rfl rfl (RowAt.stored (n := 4) (ds := #[.string x0, .slice Ap lp.length cp, .slice A2 qs.length c2, .int .i64 0]) HRw7.out rfl rfl (by omega)) ⟨⟨x0, Ap, cp, lp, A2, c2, qs, rfl, rfl, (HOp7.out.others (by omega) 0 _).lower (by omega), (HOq7.out.others (by omega) 0 _).lower (by omega)⟩, (by (repeat (first | with_reducible exact HXw7.out | with_reducible exact Ext.refl _ | with_reducible refine Ext.drew ?_ | with_reducible refine Ext.drewN ?_ _ | with_reducible refine Ext.alloc ?_ _ | with_reducible refine Ext.onto ?_ _ | (with_reducible refine Ext.setCells ?_ ?_ _ _; rotate_left; focus (first | omega | (simp; done) | (simp; omega))) | (with_reducible refine Ext.setCell ?_ ?_ _; rotate_left; focus (first | omega | (simp; done) | (simp; omega))))))⟩
            · go_wp2_with (first
                | (go_at_call 135; refine (HNm.out _).mono ?_; rintro e w' ⟨rfl, hxl⟩; obtain ⟨xn, rfl⟩ := hxl.asLater; clear hxl)
                | (go_at_call 212; refine (show Hid _ from ?_).out))
              refine Lib.hid ?_
              refine (HPp.out _ (ext_later _ _) _ _ (.inr rfl)).mono ?_
              rintro e w5 ⟨⟨Ap, cp, lp, one, rfl, hone, hlp, hop⟩, hx5⟩
              have hrow5 := (HRw.out.later _).ext hx5
              have HOne := Lib.hid hone
              have HLp := Lib.hid hlp
              clear hone hlp
              have HRw5 := Lib.hid hrow5
              have HXw5 := Lib.hid ((HXw.out.onto _).trans hx5)
              have HOp := Lib.hid hop
              have hl5 := hrow5.lt
              have hsz5 := hx5.size
              rw [later_size] at hsz5
              have d05 : w5.cell? ⟨g, 0, none⟩ = some (.string x0) := (hx5.cell (p := ⟨g, 0, none⟩) (by show g < _; rw [later_size]; omega)).trans (((ext_later _ _).cell (p := ⟨g, 0, none⟩) (by exact hglt)).trans d0)
              have hbs5 : w.heap.size + 1 ≤ (later w1 xn).heap.size := by rw [later_size]; omega
              clear hop hx5 hrow5
              go_wp2_with (go_at_call 213; refine (show Hid _ from ?_).out)
              refine Lib.hid ?_
              refine (rquery_any b _ hb9).mono ?_
              rintro e w7 ⟨⟨A2, c2, qs, two, rfl, htwo, hqs, hoq⟩, hx7⟩
              have hrow7 := HRw5.out.ext hx7
              have HRw7 := Lib.hid hrow7
              have HXw7 := Lib.hid (HXw5.out.trans hx7)
              have HOp7 := Lib.hid ((HOp.out.ext hx7).lower hbs5)
              have HOq7 := Lib.hid (hoq.lower (b2 := w.heap.size + 1) (by omega))
              have d07 : w7.cell? ⟨g, 0, none⟩ = some (.string x0) := (hx7.cell (p := ⟨g, 0, none⟩) (by show g < _; omega)).trans d05
              have hm7 : roomOf w7 w.heap.size 0 4 = true := by rw [hrow7.room]; rfl
              have hl7 := hrow7.lt
              have hsz7 := hx7.size
              have HE3 : Hid (PE = if one = true ∧ two = true then (if 32 < lp.length ∨ 16 < qs.length then 2 else 0) else 3) := Lib.hid (by
                have e1 : lp.length = (PT.getD []).length := by rw [← HLp.out, List.length_map]
                have e2 : qs.length = ((Ad.quN (bsT b)).getD []).length := by rw [← hqs, List.length_map]
                rw [HE2.out, HOne.out, htwo, e1, e2])
              have HA3 : Hid (PA = if PE = 0 then ⟨bsT x0, lp.map bsT, qs.map prB⟩ else Ad.noAdr) := Lib.hid (by rw [HA2.out, HLp.out, hqs])
              clear hoq hx7 hrow7 HOne HLp htwo hqs HE2 HA2 HPp HOp HRw5 HXw5 HRw HXw HO1
              cases one with
              | false =>
                have HE' : Hid (PE = 3) := Lib.hid (by rw [HE3.out]; rfl)
                have HA' : Hid (PA = Ad.noAdr) := Lib.hid (by rw [HA3.out, HE'.out]; rfl)
                clear HE3 HA3
                go_wp2
                rw [HE'.out, HA'.out]
                exact post_row rd_ty Tryz.results181 rfl rfl (RowAt.stored (n := 4) (ds := #[.string ByteArray.empty, .slice none 0 0, .slice none 0 0, .int .i64 3]) HRw7.out rfl rfl (by omega)) ⟨⟨⟨#[]⟩, none, 0, [], none, 0, [], rfl, rfl, Owns.nil _ _ _ _ _, Owns.nil _ _ _ _ _⟩, (by (repeat (first | with_reducible exact HXw7.out | with_reducible exact Ext.refl _ | with_reducible refine Ext.drew ?_ | with_reducible refine Ext.drewN ?_ _ | with_reducible refine Ext.alloc ?_ _ | with_reducible refine Ext.onto ?_ _ | (with_reducible refine Ext.setCells ?_ ?_ _ _; rotate_left; focus (first | omega | (simp; done) | (simp; omega))) | (with_reducible refine Ext.setCell ?_ ?_ _; rotate_left; focus (first | omega | (simp; done) | (simp; omega))))))⟩
              | true =>
                cases two with
                | false =>
                  have HE' : Hid (PE = 3) := Lib.hid (by rw [HE3.out]; rfl)
                  have HA' : Hid (PA = Ad.noAdr) := Lib.hid (by rw [HA3.out, HE'.out]; rfl)
                  clear HE3 HA3
                  go_wp2
                  rw [HE'.out, HA'.out]
                  exact post_row rd_ty Tryz.results181 rfl rfl (RowAt.stored (n := 4) (ds := #[.string ByteArray.empty, .slice none 0 0, .slice none 0 0, .int .i64 3]) HRw7.out rfl rfl (by omega)) ⟨⟨⟨#[]⟩, none, 0, [], none, 0, [], rfl, rfl, Owns.nil _ _ _ _ _, Owns.nil _ _ _ _ _⟩, (by (repeat (first | with_reducible exact HXw7.out | with_reducible exact Ext.refl _ | with_reducible refine Ext.drew ?_ | with_reducible refine Ext.drewN ?_ _ | with_reducible refine Ext.alloc ?_ _ | with_reducible refine Ext.onto ?_ _ | (with_reducible refine Ext.setCells ?_ ?_ _ _; rotate_left; focus (first | omega | (simp; done) | (simp; omega))) | (with_reducible refine Ext.setCell ?_ ?_ _; rotate_left; focus (first | omega | (simp; done) | (simp; omega))))))⟩
                | true =>
                  by_cases h32 : 32 < lp.length
                  · have d32 : decide ((32 : Int) < (lp.length : Int)) = true := decide_eq_true (by omega)
                    have HE' : Hid (PE = 2) := Lib.hid (by rw [HE3.out, if_pos ⟨rfl, rfl⟩, if_pos (.inl h32)])
                    have HA' : Hid (PA = Ad.noAdr) := Lib.hid (by rw [HA3.out, HE'.out]; rfl)
                    clear HE3 HA3
                    go_wp2
                    rw [HE'.out, HA'.out]
                    exact post_row rd_ty Tryz.results181 rfl rfl (RowAt.stored (n := 4) (ds := #[.string ByteArray.empty, .slice none 0 0, .slice none 0 0, .int .i64 2]) HRw7.out rfl rfl (by omega)) ⟨⟨⟨#[]⟩, none, 0, [], none, 0, [], rfl, rfl, Owns.nil _ _ _ _ _, Owns.nil _ _ _ _ _⟩, (by (repeat (first | with_reducible exact HXw7.out | with_reducible exact Ext.refl _ | with_reducible refine Ext.drew ?_ | with_reducible refine Ext.drewN ?_ _ | with_reducible refine Ext.alloc ?_ _ | with_reducible refine Ext.onto ?_ _ | (with_reducible refine Ext.setCells ?_ ?_ _ _; rotate_left; focus (first | omega | (simp; done) | (simp; omega))) | (with_reducible refine Ext.setCell ?_ ?_ _; rotate_left; focus (first | omega | (simp; done) | (simp; omega))))))⟩
                  · have d32 : decide ((32 : Int) < (lp.length : Int)) = false := decide_eq_false (by omega)
                    by_cases h16 : 16 < qs.length
                    · have d16 : decide ((16 : Int) < (qs.length : Int)) = true := decide_eq_true (by omega)
                      have HE' : Hid (PE = 2) := Lib.hid (by rw [HE3.out, if_pos ⟨rfl, rfl⟩, if_pos (.inr h16)])
                      have HA' : Hid (PA = Ad.noAdr) := Lib.hid (by rw [HA3.out, HE'.out]; rfl)
                      clear HE3 HA3
                      go_wp2
                      rw [HE'.out, HA'.out]
                      exact post_row rd_ty Tryz.results181 rfl rfl (RowAt.stored (n := 4) (ds := #[.string ByteArray.empty, .slice none 0 0, .slice none 0 0, .int .i64 2]) HRw7.out rfl rfl (by omega)) ⟨⟨⟨#[]⟩, none, 0, [], none, 0, [], rfl, rfl, Owns.nil _ _ _ _ _, Owns.nil _ _ _ _ _⟩, (by (repeat (first | with_reducible exact HXw7.out | with_reducible exact Ext.refl _ | with_reducible refine Ext.drew ?_ | with_reducible refine Ext.drewN ?_ _ | with_reducible refine Ext.alloc ?_ _ | with_reducible refine Ext.onto ?_ _ | (with_reducible refine Ext.setCells ?_ ?_ _ _; rotate_left; focus (first | omega | (simp; done) | (simp; omega))) | (with_reducible refine Ext.setCell ?_ ?_ _; rotate_left; focus (first | omega | (simp; done) | (simp; omega))))))⟩
                    · have d16 : decide ((16 : Int) < (qs.length : Int)) = false := decide_eq_false (by omega)
                      have HE' : Hid (PE = 0) := Lib.hid (by rw [HE3.out, if_pos ⟨rfl, rfl⟩, if_neg (by omega)])
                      have HA' : Hid (PA = ⟨bsT x0, lp.map bsT, qs.map prB⟩) := Lib.hid (by rw [HA3.out, HE'.out, if_pos rfl])
                      clear HE3 HA3
                      go_wp2
                      rw [HE'.out, HA'.out]
                      exact post_row rd_ty Tryz.results181 rfl rfl (RowAt.stored (n := 4) (ds := #[.string x0, .slice Ap lp.length cp, .slice A2 qs.length c2, .int .i64 0]) HRw7.out rfl rfl (by omega)) ⟨⟨x0, Ap, cp, lp, A2, c2, qs, rfl, rfl, (HOp7.out.others (by omega) 0 _).lower (by omega), (HOq7.out.others (by omega) 0 _).lower (by omega)⟩, (by (repeat (first | with_reducible exact HXw7.out | with_reducible exact Ext.refl _ | with_reducible refine Ext.drew ?_ | with_reducible refine Ext.drewN ?_ _ | with_reducible refine Ext.alloc ?_ _ | with_reducible refine Ext.onto ?_ _ | (with_reducible refine Ext.setCells ?_ ?_ _ _; rotate_left; focus (first | omega | (simp; done) | (simp; omega))) | (with_reducible refine Ext.setCell ?_ ?_ _; rotate_left; focus (first | omega | (simp; done) | (simp; omega))))))⟩
end Go.Proofs.YtpfhmcdcmepfdaaGreatDoor


set_option linter.unusedVariables false
set_option linter.unusedSimpArgs false
namespace Go.Proofs.YtpfhmcdcmepfdaaGreatDoor
open Go.RowKit Go.Shelf
open Go.Proofs

theorem bs_eq {a : ByteArray} {l : List UInt8} (h : bsT a = l) : a = ⟨l.toArray⟩ := by
  rw [← h]; exact (bs_mk a).symm
set_option maxRecDepth 100000 in
set_option maxHeartbeats 4000000 in
theorem rtext_any (cu : ByteArray) (A : Option Addr) (c : Nat) (ls : List ByteArray) (A2 : Option Addr) (c2 : Nat) (qs : List PrB) (w : World) (h1 : cu.size ≤ 64) (h2 : ∀ x ∈ ls, x.size ≤ 64) (h3 : ∀ x ∈ qs, x.1.size ≤ 64 ∧ x.2.size ≤ 64) (hl : ls.length ≤ 32) (hq : qs.length ≤ 16)
    (hr : ReadsStr w w.heap.size A ls) (hr2 : ReadsPr w w.heap.size A2 qs) :
    Calls Tryz.prog 215 #[.agg #[.string cu, .slice A ls.length c, .slice A2 qs.length c2]] w fun e w' => e = .returned (.string ⟨(Ad.textT ⟨bsT cu, ls.map bsT, qs.map prB⟩).toArray⟩) ∧ Ext w w' := by
  have HR := Lib.hid hr
  have HR2 := Lib.hid hr2
  have H2 := Lib.hid h2
  have H3 := Lib.hid h3
  clear hr hr2 h2 h3
  go_enter Tryz.func215, Tryz.ntmps215
  go_wp2
  refine wp_world (fun W => Ext w W ∧ RowAt W w.heap.size #[.string cu, .slice A ls.length c, .slice A2 qs.length c2]) ⟨(by (repeat (first | with_reducible exact Ext.refl _ | with_reducible exact Ext.refl _ | with_reducible refine Ext.drew ?_ | with_reducible refine Ext.drewN ?_ _ | with_reducible refine Ext.alloc ?_ _ | with_reducible refine Ext.onto ?_ _ | (with_reducible refine Ext.setCells ?_ ?_ _ _; rotate_left; focus (first | omega | (simp; done) | (simp; omega))) | (with_reducible refine Ext.setCell ?_ ?_ _; rotate_left; focus (first | omega | (simp; done) | (simp; omega)))))), RowAt.new _ _ _⟩ ?_
  rintro W1 ⟨x1, r1⟩
  have HX1 := Lib.hid x1
  have HA1 := Lib.hid r1
  clear x1 r1
  go_loopw [3, 4] (fun o i wr => ∃ (k : Nat) (out : ByteArray), k ≤ ls.length ∧ o = .string out ∧ i = .int .i64 k ∧ Hid (bsT out = bsT cu ++ Ad.pathT ((ls.take k).map bsT)) ∧ Hid (Ext w wr) ∧ Hid (RowAt wr w.heap.size #[.string cu, .slice A ls.length c, .slice A2 qs.length c2]) ∧ out.size ≤ 64 + 65 * k) (fun _ i _ => ls.length - (intOf i).toNat)
  case atStart => exact ⟨0, cu, Nat.zero_le _, rfl, rfl, Lib.hid (by simp [Ad.pathT]), HX1, HA1, by omega⟩
  case round =>
    obtain ⟨k, out, hk, rfl, rfl, HB, HX, HA, hln⟩ := hrel
    have a1 := HA.out.cell 1
    have hlr := HA.out.lt
    by_cases hlt : k < ls.length
    · obtain ⟨b, off, rfl, hb, d1⟩ := ReadsStr.cell (HR.out.ext HX.out (Nat.le_refl _)) k hlt
      have hx64 := H2.out _ (List.getElem_mem hlt)
      have HN : Hid (bsT (out ++ ⟨#[47]⟩ ++ ls[k]) = bsT cu ++ Ad.pathT ((ls.take (k + 1)).map bsT)) := Lib.hid (by
        have h := pathT_succ (ls.map bsT) k (by simpa using hlt)
        rw [List.map_take, h, bsT_app, bsT_app, HB.out, List.getElem_map, List.map_take]
        simp [bsT])
      generalize ls[k] = x at *
      have hsx : (out ++ ⟨#[47]⟩ ++ x).size ≤ 64 + 65 * (k + 1) := by
        simp only [ByteArray.size_append]; have : (⟨#[47]⟩ : ByteArray).size = 1 := rfl; omega
      go_wp2
      go_roundw
      case rel => exact ⟨k + 1, out ++ ⟨#[47]⟩ ++ x, by omega, rfl, by go_num, HN, HX, HA, hsx⟩
      case measure => simp [intOf]; omega
    · have e : k = ls.length := by omega
      subst e
      rw [List.take_of_length_le (Nat.le_refl _)] at HB
      have a2 := HA.out.cell 2
      obtain ⟨L, hL⟩ : ∃ L, bsT cu ++ Ad.pathT (ls.map bsT) = L := ⟨_, rfl⟩
      have HT : Hid (Ad.textT ⟨bsT cu, ls.map bsT, qs.map prB⟩ = L ++ Ad.quT (qs.map prB)) := Lib.hid (by rw [← hL]; rfl)
      rw [hL] at HB
      clear hL
      go_wp2
      go_loopw [3, 5] (fun o i wr => ∃ (k : Nat) (out : ByteArray), k ≤ qs.length ∧ o = .string out ∧ i = .int .i64 k ∧ Hid (bsT out = L ++ Ad.quT ((qs.map prB).take k)) ∧ Hid (Ext w wr) ∧ Hid (RowAt wr w.heap.size #[.string cu, .slice A ls.length c, .slice A2 qs.length c2]) ∧ out.size ≤ 2200 + 140 * k) (fun _ i _ => qs.length - (intOf i).toNat)
      case atStart => exact ⟨0, out, Nat.zero_le _, rfl, rfl, Lib.hid (by simpa [Ad.quT] using HB.out), HX, HA, by omega⟩
      clear HB HX HA a1 a2 hlr hln
      case round =>
        obtain ⟨k, out, hk, rfl, rfl, HB, HX, HA, hln⟩ := hrel
        have a2 := HA.out.cell 2
        have hlr := HA.out.lt
        by_cases hlt : k < qs.length
        · obtain ⟨b, off, rfl, hb, d1, d2⟩ := ReadsPr.cell (HR2.out.ext HX.out (Nat.le_refl _)) k hlt
          obtain ⟨hx1, hx2⟩ := H3.out _ (List.getElem_mem hlt)
          have HN : Hid (bsT (out ++ sepS k ++ qs[k].1 ++ ⟨#[61]⟩ ++ qs[k].2) = L ++ Ad.quT ((qs.map prB).take (k + 1))) := Lib.hid (by
            rw [quT_succ (qs.map prB) k (by simpa using hlt), List.getElem_map, bsT_app, bsT_app, bsT_app, bsT_app, sepS_bs, HB.out]
            simp only [List.append_assoc, prB, Ad.pairT]
            rfl)
          have hsx : (out ++ sepS k ++ qs[k].1 ++ ⟨#[61]⟩ ++ qs[k].2).size ≤ 2200 + 140 * (k + 1) := by
            have hsk := sepS_size k
            have : (⟨#[61]⟩ : ByteArray).size = 1 := rfl
            simp only [ByteArray.size_append]; omega
          generalize qs[k] = p at *
          obtain ⟨p1, p2⟩ := p
          simp only [] at d1 d2 hx1 hx2 HN hsx
          rcases Nat.eq_zero_or_pos k with hk0 | hk0
          · subst hk0
            rw [show sepS 0 = ⟨#[63]⟩ from rfl] at HN hsx
            simp only [Nat.zero_mul, Nat.add_zero] at d1 d2
            go_wp2
            refine wp_region_later (by kernel_rfl) (by kernel_rfl) ?_
            repeat (first | go_big_quiet_step (fail) | quiet_step (fail))
            refine wpQuiet_nil ?_
            rintro _ ⟨xq, rfl⟩
            go_wp2
            go_roundw
            case rel => exact ⟨0 + 1, out ++ ⟨#[63]⟩ ++ p1 ++ ⟨#[61]⟩ ++ p2, by omega, rfl, by go_num, HN, Lib.hid (HX.out.onto _), Lib.hid (HA.out.later _), hsx⟩
            case measure => simp [intOf]; omega
          · rw [show sepS k = ⟨#[38]⟩ from if_neg (by omega)] at HN hsx
            have e0 : ((k : Int) == 0) = false := by rw [beq_eq_false_iff_ne]; omega
            go_wp2
            refine wp_region_later (by kernel_rfl) (by kernel_rfl) ?_
            repeat (first | go_big_quiet_step (fail) | quiet_step (fail))
            refine wpQuiet_nil ?_
            rintro _ ⟨xq, rfl⟩
            go_wp2
            go_roundw
            case rel => exact ⟨k + 1, out ++ ⟨#[38]⟩ ++ p1 ++ ⟨#[61]⟩ ++ p2, by omega, rfl, by go_num, HN, Lib.hid (HX.out.onto _), Lib.hid (HA.out.later _), hsx⟩
            case measure => simp [intOf]; omega
        · have e : k = qs.length := by omega
          subst e
          rw [List.take_of_length_le (by rw [List.length_map]; exact Nat.le_refl _), ← HT.out] at HB
          have HS := Lib.hid (bs_eq HB.out)
          go_wp2
          go_ret
          exact ⟨by rw [← HS.out]; rfl, HX.out⟩
end Go.Proofs.YtpfhmcdcmepfdaaGreatDoor


set_option linter.unusedVariables false
set_option linter.unusedSimpArgs false
namespace Go.Proofs.YtpfhmcdcmepfdaaGreatDoor
open Go.RowKit Go.Shelf
open Go.Proofs

set_option maxRecDepth 100000 in
set_option maxHeartbeats 4000000 in
theorem rformed_any (cu : ByteArray) (A : Option Addr) (c : Nat) (ls : List ByteArray) (A2 : Option Addr) (c2 : Nat) (qs : List PrB) (w : World) (hn : Tg.nameB (bsT cu) = true) (hw : ∀ x ∈ ls, Tg.wordB (bsT x) = true) (hg : ∀ p ∈ qs, Ad.goodP (prB p) = true) (ha : Ad.AscP (qs.map prB)) (hl : ls.length ≤ 32) (hq : qs.length ≤ 16)
    (hr : ReadsStr w w.heap.size A ls) (hr2 : ReadsPr w w.heap.size A2 qs) :
    Calls Tryz.prog 214 #[.agg #[.string cu, .slice A ls.length c, .slice A2 qs.length c2]] w fun e w' => e = .returned (.bool (decide ((Ad.textT ⟨bsT cu, ls.map bsT, qs.map prB⟩).length ≤ 4096))) ∧ Ext w w' := by
  have hcu : Tg.wordB (bsT cu) = true := by simp only [Tg.nameB, Bool.and_eq_true] at hn; exact hn.1
  have hgw : ∀ p ∈ qs, Tg.nameB (bsT p.1) = true ∧ Tg.wordB (bsT p.2) = true := fun p hp => by
    have := hg p hp
    simp only [Ad.goodP, Bool.and_eq_true, prB] at this
    exact this
  have HTx := Lib.hid (fun (W : World) (hx : Ext w W) => rtext_any cu A c ls A2 c2 qs W (word_size hcu) (fun x hx => word_size (hw x hx)) (fun p hp => ⟨word_size (by have := (hgw p hp).1; simp only [Tg.nameB, Bool.and_eq_true] at this; exact this.1), word_size (hgw p hp).2⟩) hl hq (hr.on hx) (hr2.on hx))
  obtain ⟨T, hT⟩ : ∃ T, Ad.textT ⟨bsT cu, ls.map bsT, qs.map prB⟩ = T := ⟨_, rfl⟩
  rw [hT] at HTx ⊢
  have HNc := Lib.hid (fun W => rname_any cu W (by have := word_size hcu; omega))
  rw [show Tg.nameB cu.data.toList = true from hn] at HNc
  have HR := Lib.hid hr
  have HR2 := Lib.hid hr2
  have HW := Lib.hid hw
  have HG := Lib.hid hgw
  have HAs := Lib.hid ha
  clear hr hr2 hw hg hgw ha hn hcu hT
  go_enter Tryz.func214, Tryz.ntmps214
  go_upto_region 1 with (fail)
  refine wp_world (fun W => Ext w W ∧ RowAt W w.heap.size #[.string cu, .slice A ls.length c, .slice A2 qs.length c2]) ⟨(by (repeat (first | with_reducible exact Ext.refl _ | with_reducible exact Ext.refl _ | with_reducible refine Ext.drew ?_ | with_reducible refine Ext.drewN ?_ _ | with_reducible refine Ext.alloc ?_ _ | with_reducible refine Ext.onto ?_ _ | (with_reducible refine Ext.setCells ?_ ?_ _ _; rotate_left; focus (first | omega | (simp; done) | (simp; omega))) | (with_reducible refine Ext.setCell ?_ ?_ _; rotate_left; focus (first | omega | (simp; done) | (simp; omega)))))), RowAt.new _ _ _⟩ ?_
  rintro W1 ⟨x1, r1⟩
  have HX1 := Lib.hid x1
  have HA1 := Lib.hid r1
  have a0 := r1.cell 0
  have a1 := r1.cell 1
  have a2 := r1.cell 2
  have hl1 := r1.lt
  clear x1 r1
  go_wp2_with (go_at_call 135; refine (HNc.out _).mono ?_; rintro e w' ⟨rfl, hxl⟩; obtain ⟨xn, rfl⟩ := hxl.asLater; clear hxl)
  have HX2 : Hid (Ext w (later W1 xn)) := Lib.hid (HX1.out.onto xn)
  have HA2 := Lib.hid (HA1.out.later xn)
  clear a0 a1 a2 hl1 HX1 HA1
  go_loopw [3] (fun i wr => ∃ k : Nat, k ≤ ls.length ∧ i = .int .i64 k ∧ Hid (Ext w wr) ∧ Hid (RowAt wr w.heap.size #[.string cu, .slice A ls.length c, .slice A2 qs.length c2])) (fun i _ => ls.length - (intOf i).toNat)
  case atStart => exact ⟨0, Nat.zero_le _, rfl, HX2, HA2⟩
  case round =>
    obtain ⟨k, hk, rfl, HX, HA⟩ := hrel
    clear HX2 HA2
    have a1 := HA.out.cell 1
    have hlr := HA.out.lt
    by_cases hlt : k < ls.length
    · obtain ⟨b, off, rfl, hb, d1⟩ := ReadsStr.cell (HR.out.ext HX.out (Nat.le_refl _)) k hlt
      have hx := HW.out _ (List.getElem_mem hlt)
      generalize ls[k] = x at *
      have HWd := Lib.hid (fun W => rword_any x W (by have := word_size hx; omega))
      rw [show Tg.wordB x.data.toList = true from hx] at HWd
      clear hx
      go_wp2_with (go_at_call 165; refine (HWd.out _).mono ?_; rintro e w' ⟨rfl, hxl⟩; obtain ⟨xn, rfl⟩ := hxl.asLater; clear hxl)
      go_roundw
      case rel => exact ⟨k + 1, by omega, by go_num, Lib.hid (HX.out.onto _), Lib.hid (HA.out.later _)⟩
      case measure => simp [intOf]; omega
    · have e : k = ls.length := by omega
      subst e
      go_wp2
      go_loopw [4] (fun i wr => ∃ k : Nat, k ≤ qs.length ∧ i = .int .i64 k ∧ Hid (Ext w wr) ∧ Hid (RowAt wr w.heap.size #[.string cu, .slice A ls.length c, .slice A2 qs.length c2])) (fun i _ => qs.length - (intOf i).toNat)
      case atStart => exact ⟨0, Nat.zero_le _, rfl, HX, HA⟩
      case round =>
        clear HX HA a1 hlr hlt
        obtain ⟨k, hk, rfl, HX, HA⟩ := hrel
        have a2 := HA.out.cell 2
        have hlr := HA.out.lt
        by_cases hlt : k < qs.length
        · obtain ⟨b, off, rfl, hb, d1, d2⟩ := ReadsPr.cell (HR2.out.ext HX.out (Nat.le_refl _)) k hlt
          obtain ⟨g1, g2⟩ := HG.out _ (List.getElem_mem hlt)
          rcases Nat.eq_zero_or_pos k with hk0 | hk0
          · subst hk0
            simp only [Nat.zero_mul, Nat.add_zero] at d1 d2
            generalize qs[0] = p at *
            have HK := Lib.hid (fun W => rname_any p.1 W (by have h := g1; simp only [Tg.nameB, Bool.and_eq_true] at h; have := word_size h.1; omega))
            rw [show Tg.nameB p.1.data.toList = true from g1] at HK
            have HV := Lib.hid (fun W => rword_any p.2 W (by have := word_size g2; omega))
            rw [show Tg.wordB p.2.data.toList = true from g2] at HV
            clear g1 g2
            go_wp2
            refine wp_region_later (by kernel_rfl) (by kernel_rfl) ?_
            repeat (first | go_big_quiet_step ((first
                          | (go_at_call 135; exact quietE (HK.out _))
                          | (go_at_call 165; exact quietE (HV.out _)))) | quiet_step ((first
                          | (go_at_call 135; exact quietE (HK.out _))
                          | (go_at_call 165; exact quietE (HV.out _)))))
            refine wpQuiet_nil ?_
            rintro _ ⟨xq, rfl⟩
            go_wp2
            go_roundw
            case rel => exact ⟨0 + 1, by omega, by go_num, Lib.hid (HX.out.onto _), Lib.hid (HA.out.later _)⟩
            case measure => simp [intOf]; omega
          · obtain ⟨b', off', e1, _, d5, _⟩ := ReadsPr.cell (HR2.out.ext HX.out (Nat.le_refl _)) (k - 1) (by omega)
            injection e1 with e1
            injection e1 with e1 e2
            subst e1 e2
            have hasc := asc_at HAs.out k hk0 hlt
            have HLE := Lib.hid (le_walk qs[k].1 (qs[k - 1]'(by omega)).1)
            generalize (qs[k - 1]'(by omega)).1 = pk at *
            generalize qs[k] = p at *
            obtain ⟨p1, p2⟩ := p
            simp only [] at d1 d2 g1 g2 HLE hasc
            have hle : (Op.bytesLess p1.toList pk.toList || p1.toList == pk.toList) = false := by
              rw [HLE.out, decide_eq_false_iff_not]
              exact fun h => List.not_lt.2 h hasc
            have z0 : decide (0 < k) = true := by simpa using hk0
            have z1 : decide ((0 : Int) < (k : Int)) = true := by simp; omega
            have HK := Lib.hid (fun W => rname_any p1 W (by have h := g1; simp only [Tg.nameB, Bool.and_eq_true] at h; have := word_size h.1; omega))
            rw [show Tg.nameB p1.data.toList = true from g1] at HK
            have HV := Lib.hid (fun W => rword_any p2 W (by have := word_size g2; omega))
            rw [show Tg.wordB p2.data.toList = true from g2] at HV
            clear hasc HLE g1 g2
            go_wp2
            refine wp_region_later (by kernel_rfl) (by kernel_rfl) ?_
            repeat (first | go_big_quiet_step ((first
                          | (go_at_call 135; exact quietE (HK.out _))
                          | (go_at_call 165; exact quietE (HV.out _)))) | quiet_step ((first
                          | (go_at_call 135; exact quietE (HK.out _))
                          | (go_at_call 165; exact quietE (HV.out _)))))
            refine wpQuiet_nil ?_
            rintro _ ⟨xq, rfl⟩
            go_wp2
            go_roundw
            case rel => exact ⟨k + 1, by omega, by go_num, Lib.hid (HX.out.onto _), Lib.hid (HA.out.later _)⟩
            case measure => simp [intOf]; omega
        · have e : k = qs.length := by omega
          subst e
          have hrow := HA.out.all (n := 3) rfl (by omega)
          have hz : ((⟨T.toArray⟩ : ByteArray)).size = T.length := by simp [ByteArray.size]
          have hdd : decide ((T.length : Int) ≤ 4096) = decide (T.length ≤ 4096) := by
            by_cases h : T.length ≤ 4096
            · rw [decide_eq_true h, decide_eq_true (by omega)]
            · rw [decide_eq_false h, decide_eq_false (by omega)]
          go_wp2_with (go_at_call 215; refine (HTx.out _ (by (repeat (first | with_reducible exact HX.out | with_reducible exact Ext.refl _ | with_reducible refine Ext.drew ?_ | with_reducible refine Ext.drewN ?_ _ | with_reducible refine Ext.alloc ?_ _ | with_reducible refine Ext.onto ?_ _ | (with_reducible refine Ext.setCells ?_ ?_ _ _; rotate_left; focus (first | omega | (simp; done) | (simp; omega))) | (with_reducible refine Ext.setCell ?_ ?_ _; rotate_left; focus (first | omega | (simp; done) | (simp; omega))))))).mono ?_; rintro e w' ⟨rfl, hxl⟩; obtain ⟨xn, rfl⟩ := hxl.asLater; clear hxl)
          go_ret
          exact ⟨ret_bool (by simp [hz, hdd]), (by (repeat (first | with_reducible exact HX.out | with_reducible exact Ext.refl _ | with_reducible refine Ext.drew ?_ | with_reducible refine Ext.drewN ?_ _ | with_reducible refine Ext.alloc ?_ _ | with_reducible refine Ext.onto ?_ _ | (with_reducible refine Ext.setCells ?_ ?_ _ _; rotate_left; focus (first | omega | (simp; done) | (simp; omega))) | (with_reducible refine Ext.setCell ?_ ?_ _; rotate_left; focus (first | omega | (simp; done) | (simp; omega))))))⟩
end Go.Proofs.YtpfhmcdcmepfdaaGreatDoor


set_option linter.unusedVariables false
set_option linter.unusedSimpArgs false
namespace Go.Proofs.YtpfhmcdcmepfdaaGreatDoor
open Go.RowKit Go.Shelf
open Go.Proofs

set_option maxRecDepth 100000 in
set_option maxHeartbeats 4000000 in
theorem rtextW_any (cu : ByteArray) (A : Option Addr) (c : Nat) (ls : List ByteArray) (A2 : Option Addr) (c2 : Nat) (qs : List PrB) (w : World) (hn : Tg.nameB (bsT cu) = true) (hw : ∀ x ∈ ls, Tg.wordB (bsT x) = true) (hg : ∀ p ∈ qs, Ad.goodP (prB p) = true) (ha : Ad.AscP (qs.map prB)) (hl : ls.length ≤ 32) (hq : qs.length ≤ 16)
    (hr : ReadsStr w w.heap.size A ls) (hr2 : ReadsPr w w.heap.size A2 qs) :
    Calls Tryz.prog 182 #[.agg #[.string cu, .slice A ls.length c, .slice A2 qs.length c2]] w fun e w' => e = .returned (.agg #[.string ⟨(txS ⟨bsT cu, ls.map bsT, qs.map prB⟩).toArray⟩, .int .i64 (txE ⟨bsT cu, ls.map bsT, qs.map prB⟩)]) ∧ Ext w w' := by
  have hcu : Tg.wordB (bsT cu) = true := by simp only [Tg.nameB, Bool.and_eq_true] at hn; exact hn.1
  have hgw : ∀ p ∈ qs, Tg.nameB (bsT p.1) = true ∧ Tg.wordB (bsT p.2) = true := fun p hp => by
    have := hg p hp
    simp only [Ad.goodP, Bool.and_eq_true, prB] at this
    exact this
  have HTx := Lib.hid (fun (W : World) (hx : Ext w W) => rtext_any cu A c ls A2 c2 qs W (word_size hcu) (fun x hx => word_size (hw x hx)) (fun p hp => ⟨word_size (by have := (hgw p hp).1; simp only [Tg.nameB, Bool.and_eq_true] at this; exact this.1), word_size (hgw p hp).2⟩) hl hq (hr.on hx) (hr2.on hx))
  have HFm := Lib.hid (fun (W : World) (hx : Ext w W) => rformed_any cu A c ls A2 c2 qs W hn hw hg ha hl hq (hr.on hx) (hr2.on hx))
  obtain ⟨T, hT⟩ : ∃ T, Ad.textT ⟨bsT cu, ls.map bsT, qs.map prB⟩ = T := ⟨_, rfl⟩
  have HE : Hid (txE ⟨bsT cu, ls.map bsT, qs.map prB⟩ = if 4096 < T.length then 1 else 0) := Lib.hid (by unfold txE; rw [hT])
  have HS : Hid (txS ⟨bsT cu, ls.map bsT, qs.map prB⟩ = if txE ⟨bsT cu, ls.map bsT, qs.map prB⟩ = 0 then T else []) := Lib.hid (by unfold txS; rw [hT])
  rw [hT] at HTx HFm
  generalize txS ⟨bsT cu, ls.map bsT, qs.map prB⟩ = tS at *
  generalize txE ⟨bsT cu, ls.map bsT, qs.map prB⟩ = tE at *
  clear hr hr2 hw hg hgw ha hn hcu hT
  go_enter Tryz.func182, Tryz.ntmps182
  go_upto_region 1 with (fail)
  refine wp_world (fun W => Ext w W ∧ RowAt W w.heap.size #[.string cu, .slice A ls.length c, .slice A2 qs.length c2] ∧ RowAt W (w.heap.size + 1) #[.string ⟨#[]⟩, .int .i64 0]) ⟨(by (repeat (first | with_reducible exact Ext.refl _ | with_reducible exact Ext.refl _ | with_reducible refine Ext.drew ?_ | with_reducible refine Ext.drewN ?_ _ | with_reducible refine Ext.alloc ?_ _ | with_reducible refine Ext.onto ?_ _ | (with_reducible refine Ext.setCells ?_ ?_ _ _; rotate_left; focus (first | omega | (simp; done) | (simp; omega))) | (with_reducible refine Ext.setCell ?_ ?_ _; rotate_left; focus (first | omega | (simp; done) | (simp; omega)))))), (RowAt.new _ _ _).alloc _, RowAt.newAt (by simp)⟩ ?_
  rintro W1 ⟨x1, r1, r2⟩
  have HX1 := Lib.hid x1
  have HR2 := Lib.hid r2
  have hrow := r1.all (n := 3) rfl (by omega)
  have hl1 := r1.lt
  have hl2 := r2.lt
  have q0 := r2.cell 0
  have q1 := r2.cell 1
  have qf := r2.free
  clear x1 r1 r2
  by_cases h4 : 4096 < T.length
  · have hE : tE = 1 := by rw [HE.out, if_pos h4]
    have hS : tS = [] := by rw [HS.out, hE]; rfl
    subst hE hS
    have hdd : decide (T.length ≤ 4096) = false := decide_eq_false (by omega)
    rw [hdd] at HFm
    clear HE HS hdd
    go_wp2_with (go_at_call 214; refine (HFm.out _ (by (repeat (first | with_reducible exact HX1.out | with_reducible exact Ext.refl _ | with_reducible refine Ext.drew ?_ | with_reducible refine Ext.drewN ?_ _ | with_reducible refine Ext.alloc ?_ _ | with_reducible refine Ext.onto ?_ _ | (with_reducible refine Ext.setCells ?_ ?_ _ _; rotate_left; focus (first | omega | (simp; done) | (simp; omega))) | (with_reducible refine Ext.setCell ?_ ?_ _; rotate_left; focus (first | omega | (simp; done) | (simp; omega))))))).mono ?_; rintro e w' ⟨rfl, hxl⟩; obtain ⟨xn, rfl⟩ := hxl.asLater; clear hxl)
    exact post_row wri_ty Tryz.results182 rfl rfl ((RowAt.set2A (HR2.out.later _) _ _).all rfl (by omega)) ⟨rfl, (by (repeat (first | with_reducible exact HX1.out | with_reducible exact Ext.refl _ | with_reducible refine Ext.drew ?_ | with_reducible refine Ext.drewN ?_ _ | with_reducible refine Ext.alloc ?_ _ | with_reducible refine Ext.onto ?_ _ | (with_reducible refine Ext.setCells ?_ ?_ _ _; rotate_left; focus (first | omega | (simp; done) | (simp; omega))) | (with_reducible refine Ext.setCell ?_ ?_ _; rotate_left; focus (first | omega | (simp; done) | (simp; omega))))))⟩
  · have hE : tE = 0 := by rw [HE.out, if_neg h4]
    have hS : tS = T := by rw [HS.out, hE]; rfl
    subst hE hS
    have hdd : decide (tS.length ≤ 4096) = true := decide_eq_true (by omega)
    rw [hdd] at HFm
    clear HE HS hdd
    go_wp2_with (first
      | (go_at_call 214; refine (HFm.out _ (by (repeat (first | with_reducible exact HX1.out | with_reducible exact Ext.refl _ | with_reducible refine Ext.drew ?_ | with_reducible refine Ext.drewN ?_ _ | with_reducible refine Ext.alloc ?_ _ | with_reducible refine Ext.onto ?_ _ | (with_reducible refine Ext.setCells ?_ ?_ _ _; rotate_left; focus (first | omega | (simp; done) | (simp; omega))) | (with_reducible refine Ext.setCell ?_ ?_ _; rotate_left; focus (first | omega | (simp; done) | (simp; omega))))))).mono ?_; rintro e w' ⟨rfl, hxl⟩; obtain ⟨xn, rfl⟩ := hxl.asLater; clear hxl)
      | (go_at_call 215; refine (HTx.out _ (by (repeat (first | with_reducible exact HX1.out | with_reducible exact Ext.refl _ | with_reducible refine Ext.drew ?_ | with_reducible refine Ext.drewN ?_ _ | with_reducible refine Ext.alloc ?_ _ | with_reducible refine Ext.onto ?_ _ | (with_reducible refine Ext.setCells ?_ ?_ _ _; rotate_left; focus (first | omega | (simp; done) | (simp; omega))) | (with_reducible refine Ext.setCell ?_ ?_ _; rotate_left; focus (first | omega | (simp; done) | (simp; omega))))))).mono ?_; rintro e w' ⟨rfl, hxl⟩; obtain ⟨xn, rfl⟩ := hxl.asLater; clear hxl))
    exact post_row wri_ty Tryz.results182 rfl rfl ((RowAt.set2A (HR2.out.later _) _ _).all rfl (by omega)) ⟨rfl, (by (repeat (first | with_reducible exact HX1.out | with_reducible exact Ext.refl _ | with_reducible refine Ext.drew ?_ | with_reducible refine Ext.drewN ?_ _ | with_reducible refine Ext.alloc ?_ _ | with_reducible refine Ext.onto ?_ _ | (with_reducible refine Ext.setCells ?_ ?_ _ _; rotate_left; focus (first | omega | (simp; done) | (simp; omega))) | (with_reducible refine Ext.setCell ?_ ?_ _; rotate_left; focus (first | omega | (simp; done) | (simp; omega))))))⟩
attribute [local go_sem] rd_fits
theorem rd_all (v0 v1 v2 v3 : Value) : rowSub #[v0, v1, v2, v3] 0 3 = some #[v0, v1, v2] := rfl
set_option maxRecDepth 100000 in
set_option maxHeartbeats 4000000 in
theorem rcanonical_any (s : ByteArray) (w : World) (hs : s.size ≤ 900000) :
    Calls Tryz.prog 148 #[.string s] w fun e w' => e = .returned (.agg #[.string ⟨(Ad.canonT (bsT s)).toArray⟩, .int .i64 (Ad.canonE (bsT s))]) ∧ Ext w w' := by
  have HP := Lib.hid (fun W => r6parse_any s W hs)
  have HE : Hid (Ad.canonE (bsT s) = if Ad.parseE (bsT s) = 0 then txE (Ad.parseA (bsT s)) else Ad.parseE (bsT s)) := Lib.hid rfl
  have HT : Hid (Ad.parseE (bsT s) = 0 → Ad.canonT (bsT s) = txS (Ad.parseA (bsT s))) := Lib.hid (fun h => by unfold Ad.canonT txS; rw [HE.out, if_pos h])
  have HT2 : Hid (Ad.canonE (bsT s) ≠ 0 → Ad.canonT (bsT s) = []) := Lib.hid (fun h => if_neg h)
  have HGd := Lib.hid (Ad.parseA_good (s := bsT s))
  generalize Ad.canonT (bsT s) = CT at *
  generalize Ad.canonE (bsT s) = CE at *
  generalize Ad.parseE (bsT s) = PE at *
  generalize Ad.parseA (bsT s) = PA at *
  go_enter Tryz.func148, Tryz.ntmps148
  go_upto_region 2 with (go_at_call 181; refine (HP.out _).mono ?_; rintro e w5 ⟨⟨cu, Ap, cp, lp, A2, c2, qs, rfl, hadr, hop, hoq⟩, hx5⟩)
  have hrow0 := (RowAt.new w #[.string ⟨#[]⟩, .int .i64 0] 219).ext hx5
  refine wp_world (fun W => Ext w5 W ∧ RowAt W w.heap.size #[.string ⟨#[]⟩, .int .i64 0] ∧ RowAt W w5.heap.size #[.string cu, .slice Ap lp.length cp, .slice A2 qs.length c2, .int .i64 PE]) ⟨((Ext.refl w5).alloc _).setCells (Nat.le_refl _) _ _, ?_, ?_⟩ ?_
  · have hlw := hrow0.lt
    exact (hrow0.alloc _).others (by omega) 0 _
  · exact (RowAt.new w5 _ _).store (ds := #[.string cu, .slice Ap lp.length cp, .slice A2 qs.length c2, .int .i64 PE]) rfl
  rintro W6 ⟨x6, r6, r7⟩
  have HX6 := Lib.hid (((((Ext.refl w).alloc _).trans hx5)).trans x6)
  have HR6 := Lib.hid r6
  have HOp := Lib.hid ((hop.reads sE).on x6)
  have HOq := Lib.hid ((hoq.reads prE).on x6)
  have hl6 := r6.lt
  have hl7 := r7.lt
  have q0 := r6.cell 0
  have q1 := r6.cell 1
  have qf := r6.free
  have e3 : W6.cell? ⟨w5.heap.size, 3, none⟩ = some (.int .i64 PE) := r7.cell 3
  have row3 : rowOf W6 w5.heap.size 0 3 = some #[.string cu, .slice Ap lp.length cp, .slice A2 qs.length c2] := by rw [r7.row, if_neg (by omega)]; rfl
  clear x6 r6 r7 hx5 hop hoq hrow0 HP
  by_cases h0 : PE = 0
  · subst h0
    subst hadr
    have hCE : CE = txE ⟨bsT cu, lp.map bsT, qs.map prB⟩ := by rw [HE.out]; rfl
    have hCT : CT = txS ⟨bsT cu, lp.map bsT, qs.map prB⟩ := HT.out rfl
    obtain ⟨g1, g2, g3, g4, g5, g6⟩ := HGd.out rfl
    have HTx := Lib.hid (fun (W : World) (hx : Ext W6 W) => rtextW_any cu Ap cp lp A2 c2 qs W g1 (fun x hx => g4 _ (List.mem_map_of_mem hx)) (fun p hp => g6 _ (List.mem_map_of_mem hp)) g5 (by simpa using g2) (by simpa using g3) (HOp.out.on hx) (HOq.out.on hx))
    rw [← hCE, ← hCT] at HTx
    clear HE HT HT2 HGd g1 g2 g3 g4 g5 g6 HOp HOq hCE hCT
    go_wp2_with (go_at_call 182; refine (HTx.out _ (by (repeat (first | with_reducible exact Ext.refl _ | with_reducible exact Ext.refl _ | with_reducible refine Ext.drew ?_ | with_reducible refine Ext.drewN ?_ _ | with_reducible refine Ext.alloc ?_ _ | with_reducible refine Ext.onto ?_ _ | (with_reducible refine Ext.setCells ?_ ?_ _ _; rotate_left; focus (first | omega | (simp; done) | (simp; omega))) | (with_reducible refine Ext.setCell ?_ ?_ _; rotate_left; focus (first | omega | (simp; done) | (simp; omega))))))).mono ?_; rintro e w' ⟨rfl, hxl⟩; obtain ⟨xn, rfl⟩ := hxl.asLater; clear hxl)
    exact post_row wri_ty Tryz.results148 rfl rfl ((RowAt.set2A (HR6.out.later _) _ _).all rfl (by omega)) ⟨rfl, (by (repeat (first | with_reducible exact HX6.out | with_reducible exact Ext.refl _ | with_reducible refine Ext.drew ?_ | with_reducible refine Ext.drewN ?_ _ | with_reducible refine Ext.alloc ?_ _ | with_reducible refine Ext.onto ?_ _ | (with_reducible refine Ext.setCells ?_ ?_ _ _; rotate_left; focus (first | omega | (simp; done) | (simp; omega))) | (with_reducible refine Ext.setCell ?_ ?_ _; rotate_left; focus (first | omega | (simp; done) | (simp; omega))))))⟩
  · have hCE : CE = PE := by rw [HE.out, if_neg h0]
    subst hCE
    have hCT := HT2.out h0
    subst hCT
    have d0 : (CE != 0) = true := by simpa using h0
    clear HE HT HT2 HGd HOp HOq
    go_wp2
    exact post_row wri_ty Tryz.results148 rfl rfl ((RowAt.set2A HR6.out _ _).all rfl (by omega)) ⟨rfl, (by (repeat (first | with_reducible exact HX6.out | with_reducible exact Ext.refl _ | with_reducible refine Ext.drew ?_ | with_reducible refine Ext.drewN ?_ _ | with_reducible refine Ext.alloc ?_ _ | with_reducible refine Ext.onto ?_ _ | (with_reducible refine Ext.setCells ?_ ?_ _ _; rotate_left; focus (first | omega | (simp; done) | (simp; omega))) | (with_reducible refine Ext.setCell ?_ ?_ _; rotate_left; focus (first | omega | (simp; done) | (simp; omega))))))⟩
/-- Canon. -/
theorem rcanon_any (s : ByteArray) (w : World) (hs : s.size ≤ 900000) :
    Calls Tryz.prog 110 #[.string s] w fun e w' => e = .returned (.bool (Ad.canonB (bsT s))) ∧ Ext w w' := by
  have HC := Lib.hid (fun W => rcanonical_any s W hs)
  have HB : Hid (Ad.canonB (bsT s) = (decide (Ad.canonE (bsT s) = 0) && decide (Ad.canonT (bsT s) = bsT s))) := Lib.hid rfl
  obtain ⟨T, hT⟩ : ∃ T, Ad.canonT (bsT s) = T := ⟨_, rfl⟩
  rw [hT] at HC HB
  clear hT
  obtain ⟨t, ht⟩ : ∃ t, (⟨T.toArray⟩ : ByteArray) = t := ⟨_, rfl⟩
  have hbt : bsT t = T := by rw [← ht]; rfl
  have HW := Lib.hid (eq_walk t s)
  rw [hbt] at HW
  rw [ht] at HC
  clear ht hbt
  generalize Ad.canonB (bsT s) = B at *
  generalize Ad.canonE (bsT s) = E at *
  go_enter Tryz.func110, Tryz.ntmps110
  go_wp2_with (go_at_call 148; refine (HC.out _).mono ?_; rintro e w' ⟨rfl, hxl⟩; obtain ⟨xn, rfl⟩ := hxl.asLater; clear hxl)
  all_goals
    go_ret
    exact ⟨ret_bool (by rw [HB.out, ← HW.out]; simp [*]), (by (repeat (first | with_reducible exact Ext.refl _ | with_reducible exact Ext.refl _ | with_reducible refine Ext.drew ?_ | with_reducible refine Ext.drewN ?_ _ | with_reducible refine Ext.alloc ?_ _ | with_reducible refine Ext.onto ?_ _ | (with_reducible refine Ext.setCells ?_ ?_ _ _; rotate_left; focus (first | omega | (simp; done) | (simp; omega))) | (with_reducible refine Ext.setCell ?_ ?_ _; rotate_left; focus (first | omega | (simp; done) | (simp; omega))))))⟩
end Go.Proofs.YtpfhmcdcmepfdaaGreatDoor
