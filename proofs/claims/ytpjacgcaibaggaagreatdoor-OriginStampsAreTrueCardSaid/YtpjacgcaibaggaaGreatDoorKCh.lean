/- address.Canonical, given what pairs answers; at a text without a query. -/
import Derived.Test.YtpjacgcaibaggaaGreatDoorProg
import Derived.Test.YtpjacgcaibaggaaGreatDoorKSpv
import Derived.WalkKit
import Derived.WalkSpells
import Derived.WalkLawsBesides
import Derived.Deep.QuietTactic
import Derived.BigQuiet
import Derived.Test.YtpjacgcaibaggaaGreatDoorKCd
import Derived.RangeFuncNested
import Derived.RangeFuncBound
import Derived.RangeFuncCalls
import Derived.RangeFuncLeaves
import Derived.Shelf.Abstract
import Derived.Shelf.RegionOpen
import Derived.OwnWalkIn
import Derived.TacticsInMore
import Derived.LoopNIn
import Derived.LoopIn
set_option linter.unusedVariables false
set_option linter.unusedSimpArgs false
namespace Go.Proofs.YtpjacgcaibaggaaGreatDoor
open Go.RowKit Go.Shelf
open Go.Proofs

abbrev PrB := ByteArray × ByteArray
def encP (p : PrB) : List Value := [.string p.1, .string p.2]
theorem prE : EncTy encP 2 := ⟨fun _ => rfl, fun x v hv => by simp [encP] at hv; rcases hv with rfl | rfl <;> rfl⟩
theorem prT : ElemTy Tryz.prog 199 250 2 32 := ⟨by kernel_rfl, by kernel_rfl, by omega⟩
abbrev ReadsPr (w : World) (B : Nat) (A : Option Addr) (l : List PrB) : Prop := Reads 2 encP w B A l
abbrev OwnsPr (base : Nat) (w : World) (A : Option Addr) (c : Nat) (l : List PrB) : Prop := Owns 250 2 encP base w A c l
theorem ReadsPr.cell {w : World} {B : Nat} {A : Option Addr} {l : List PrB} (h : ReadsPr w B A l) (i : Nat) (hi : i < l.length) : ∃ b off, A = some ⟨b, off, none⟩ ∧ b < B ∧ w.cell? ⟨b, off + i * 2, none⟩ = some (.string l[i].1) ∧ w.cell? ⟨b, off + i * 2 + 1, none⟩ = some (.string l[i].2) := by
  obtain ⟨b, off, h1, h2, h3⟩ := h (by omega)
  exact ⟨b, off, h1, h2, by simpa using h3 i hi 0 _ rfl, by simpa using h3 i hi 1 _ rfl⟩
def prB (p : PrB) : Ad.Pr := (bsT p.1, bsT p.2)
/-- The text of the first parts, of the first pairs. -/
def sepB (k : Nat) : List UInt8 := if k = 0 then [63] else [38]
theorem pathT_succ (l : List (List UInt8)) (k : Nat) (h : k < l.length) : Ad.pathT (l.take (k + 1)) = Ad.pathT (l.take k) ++ 47 :: l[k] := by
  rw [List.take_succ_eq_append_getElem h, Ad.pathT, List.flatMap_append]
  simp [Ad.pathT]
theorem quT_snoc : ∀ (l : List Ad.Pr) (p : Ad.Pr), Ad.quT (l ++ [p]) = Ad.quT l ++ (sepB l.length ++ Ad.pairT p)
  | [], p => by simp [Ad.quT, sepB]
  | q :: r, p => by
    have e : sepB (q :: r).length = [38] := if_neg (by simp)
    rw [e]
    simp [Ad.quT, List.flatMap_append]
theorem quT_succ (l : List Ad.Pr) (k : Nat) (h : k < l.length) : Ad.quT (l.take (k + 1)) = Ad.quT (l.take k) ++ (sepB k ++ Ad.pairT l[k]) := by
  rw [List.take_succ_eq_append_getElem h, quT_snoc, List.length_take, Nat.min_eq_left (by omega)]
def sepS (k : Nat) : ByteArray := if k = 0 then ⟨#[63]⟩ else ⟨#[38]⟩
theorem sepS_bs (k : Nat) : bsT (sepS k) = sepB k := by unfold sepS sepB; split <;> rfl
theorem sepS_size (k : Nat) : (sepS k).size = 1 := by unfold sepS; split <;> rfl
theorem sepS_succ (k : Nat) : sepS (k + 1) = ⟨#[38]⟩ := if_neg (by omega)
section
variable {T e : TypeId} {B b : Nat} {bs : List Value} {w w' : World}
theorem builderAt_ext {p : Value} (h : Lib.BuilderAt T e B b p bs w) (hx : Ext w w') : Lib.BuilderAt T e B b p bs w' := by
  obtain ⟨hB, v, hb, hown, hne⟩ := h
  refine ⟨hB, v, (hx.below.block b (Array.getElem?_eq_some_iff.1 hb).1).trans hb, ⟨hown.1, ?_⟩, hne⟩
  rcases hown.2 with k | ⟨g, cap, cur, h1, h2, h3, h4⟩
  · exact .inl k
  · exact .inr ⟨g, cap, cur, h1, h2, (hx.below.block g (Array.getElem?_eq_some_iff.1 h3).1).trans h3, h4⟩
theorem isBuilder_ext (h : Lib.IsBuilder T e B b bs w) (hx : Ext w w') : Lib.IsBuilder T e B b bs w' := by
  rcases h with h | h
  · exact .inl (builderAt_ext h hx)
  · exact .inr (builderAt_ext h hx)
end
abbrev Bld (B b : Nat) (l : List UInt8) (w : World) : Prop := Lib.IsBuilder 186 5 B b (Lib.byteCells l) w
theorem wrstr_any (B b : Nat) (l : List UInt8) (s : ByteArray) (w : World) (h : Bld B b l w) (hlen : l.length + s.size ≤ 140737488355328) (hBw : B ≤ w.heap.size) :
    Calls Tryz.prog 131 #[.pointer (some ⟨b, 0, none⟩), .string s] w fun e w' => e = .returned (.tuple #[.int .i64 s.size, .nilIface]) ∧ Bld B b (l ++ bsT s) w' ∧ Below B w w' := by
  have hc := Any.Builder_WriteString { Tryz.join with } joinExtra B b (Lib.byteCells l) s w h (by rw [Lib.byteCells_length]; exact hlen) hBw
  refine Calls.mono hc ?_
  rintro e w' ⟨he, h1, h2⟩
  refine ⟨he, .inr ?_, h2⟩
  rw [Lib.byteCells_append]
  exact h1
theorem bstr_any (B b : Nat) (l : List UInt8) (w : World) (h : Bld B b l w) (hBw : B ≤ w.heap.size) :
    Calls Tryz.prog 133 #[.pointer (some ⟨b, 0, none⟩)] w fun e w' => e = .returned (.string ⟨l.toArray⟩) ∧ Below B w w' :=
  Any.Builder_String_any { Tryz.join with } joinExtra B b l w h hBw
def adrV (cu : ByteArray) (A : Option Addr) (n c : Nat) (A2 : Option Addr) (n2 c2 : Nat) : Value := .agg #[.string cu, .slice A n c, .slice A2 n2 c2]
set_option maxRecDepth 100000 in
set_option maxHeartbeats 2000000 in
theorem write_any (cu : ByteArray) (A : Option Addr) (c : Nat) (ls : List ByteArray) (A2 : Option Addr) (c2 : Nat) (qs : List PrB) (w : World) (h1 : cu.size ≤ 64) (h2 : ∀ x ∈ ls, x.size ≤ 64) (h3 : ∀ x ∈ qs, x.1.size ≤ 64 ∧ x.2.size ≤ 64) (hl : ls.length ≤ 32) (hq : qs.length ≤ 16)
    (hr : ReadsStr w w.heap.size A ls) (hr2 : ReadsPr w w.heap.size A2 qs) :
    Calls Tryz.prog 188 #[.agg #[.string cu, .slice A ls.length c, .slice A2 qs.length c2]] w fun e w' => e = .returned (.string ⟨(Ad.textT ⟨bsT cu, ls.map bsT, qs.map prB⟩).toArray⟩) ∧ Ext w w' := by
  have HR := Lib.hid hr
  have HR2 := Lib.hid hr2
  have H2 := Lib.hid h2
  have H3 := Lib.hid h3
  clear hr hr2 h2 h3
  go_enter Tryz.func188, Tryz.ntmps188
  go_wp2_with (go_at_call 131; refine (show Hid _ from ?_).out)
  refine Lib.hid ?_
  have hB0 : Bld (w.heap.size + 1) (w.heap.size + 1) [] ((w.alloc (.cells #[.string cu, .slice A ls.length c, .slice A2 qs.length c2] 201)).alloc (.cells #[.pointer none, .slice none 0 0] 186)) := by
    have h := Lib.fresh_isBuilder 186 5 (w.alloc (.cells #[.string cu, .slice A ls.length c, .slice A2 qs.length c2] 201))
    rw [World.size_alloc] at h
    exact h
  have hA0 : RowAt ((w.alloc (.cells #[.string cu, .slice A ls.length c, .slice A2 qs.length c2] 201)).alloc (.cells #[.pointer none, .slice none 0 0] 186)) w.heap.size #[.string cu, .slice A ls.length c, .slice A2 qs.length c2] := (RowAt.new _ _ _).alloc _
  have hx0 : Ext w ((w.alloc (.cells #[.string cu, .slice A ls.length c, .slice A2 qs.length c2] 201)).alloc (.cells #[.pointer none, .slice none 0 0] 186)) := ((Ext.refl w).alloc _).alloc _
  have hs0 : w.heap.size + 1 ≤ ((w.alloc (.cells #[.string cu, .slice A ls.length c, .slice A2 qs.length c2] 201)).alloc (.cells #[.pointer none, .slice none 0 0] 186)).heap.size := by simp
  refine (wrstr_any _ _ _ cu _ hB0 (by simp; omega) hs0).mono ?_
  rintro e w1 ⟨rfl, hb1, hx1⟩
  have hA1 := hA0.below hx1 (by omega)
  have HX1 : Hid (Ext w w1) := Lib.hid (hx0.grown hx1 (by omega))
  have HB1 := Lib.hid hb1
  have HA1 := Lib.hid hA1
  have a1 := hA1.cell 1
  have hs1 : w.heap.size + 1 ≤ w1.heap.size := Nat.le_trans hs0 hx1.size
  clear hB0 hA0 hx0 hs0 hx1 hb1 hA1
  go_wp2
  go_loopw [15] (fun i wr => ∃ k : Nat, k ≤ ls.length ∧ i = .int .i64 k ∧ Hid (Bld (w.heap.size + 1) (w.heap.size + 1) (bsT cu ++ Ad.pathT ((ls.take k).map bsT)) wr) ∧ Hid (Ext w wr) ∧ Hid (RowAt wr w.heap.size #[.string cu, .slice A ls.length c, .slice A2 qs.length c2]) ∧ w.heap.size + 1 ≤ wr.heap.size ∧ (bsT cu ++ Ad.pathT ((ls.take k).map bsT)).length ≤ 64 + 65 * k) (fun i _ => ls.length - (intOf i).toNat)
  case atStart => exact ⟨0, Nat.zero_le _, rfl, Lib.hid (by simpa [Ad.pathT] using HB1.out), HX1, HA1, hs1, by simp [Ad.pathT, bsT_size]; omega⟩
  case round =>
    obtain ⟨k, hk, rfl, HB, HX, HA, hsz, hln⟩ := hrel
    clear HB1 HX1 HA1 a1 hs1
    by_cases hlt : k < ls.length
    · obtain ⟨b, off, rfl, hb, d1⟩ := ReadsStr.cell (HR.out.ext HX.out (Nat.le_refl _)) k hlt
      have hx64 := H2.out _ (List.getElem_mem hlt)
      have HN : Hid (bsT cu ++ Ad.pathT ((ls.take (k + 1)).map bsT) = bsT cu ++ Ad.pathT ((ls.take k).map bsT) ++ bsT (⟨#[47]⟩ ++ ls[k])) := Lib.hid (by
        have h := pathT_succ (ls.map bsT) k (by simpa using hlt)
        rw [List.map_take, List.map_take, h, bsT_app, List.getElem_map, List.append_assoc]
        rfl)
      generalize ls[k] = x at *
      generalize bsT cu ++ Ad.pathT ((ls.take k).map bsT) = L at *
      go_wp2_with (go_at_call 131; refine (show Hid _ from ?_).out)
      refine Lib.hid ?_
      refine (wrstr_any _ _ _ _ _ HB.out (by simp only [ByteArray.size_append]; have : (⟨#[47]⟩ : ByteArray).size = 1 := rfl; omega) hsz).mono ?_
      rintro e w2 ⟨rfl, hb2, hx2⟩
      have hl2 : (L ++ bsT (⟨#[47]⟩ ++ x)).length ≤ 64 + 65 * (k + 1) := by
        rw [List.length_append, bsT_size, ByteArray.size_append]
        have : (⟨#[47]⟩ : ByteArray).size = 1 := rfl
        omega
      have HB2 := Lib.hid hb2
      have HX2 : Hid (Ext w w2) := Lib.hid (HX.out.grown hx2 (by omega))
      have HA2 := Lib.hid (HA.out.below hx2 (by omega))
      have hs2 : w.heap.size + 1 ≤ w2.heap.size := Nat.le_trans hsz hx2.size
      clear hb2 hx2 HB
      go_wp2
      go_roundw
      case rel => exact ⟨k + 1, by omega, by go_num, by rw [HN.out]; exact HB2, HX2, HA2, hs2, by rw [HN.out]; exact hl2⟩
      case measure => simp [intOf]; omega
    · have e : k = ls.length := by omega
      subst e
      rw [List.take_of_length_le (Nat.le_refl _)] at HB hln
      have a2 := HA.out.cell 2
      obtain ⟨L, hL⟩ : ∃ L, bsT cu ++ Ad.pathT (ls.map bsT) = L := ⟨_, rfl⟩
      have HT : Hid (Ad.textT ⟨bsT cu, ls.map bsT, qs.map prB⟩ = L ++ Ad.quT (qs.map prB)) := Lib.hid (by rw [← hL]; rfl)
      rw [hL] at HB hln
      clear hL
      have hsep : sepS 0 = ⟨#[63]⟩ := rfl
      go_wp2
      go_loopw [6, 26] (fun sp i wr => ∃ k : Nat, k ≤ qs.length ∧ sp = .string (sepS k) ∧ i = .int .i64 k ∧ Hid (Bld (w.heap.size + 1) (w.heap.size + 1) (L ++ Ad.quT ((qs.map prB).take k)) wr) ∧ Hid (Ext w wr) ∧ w.heap.size + 1 ≤ wr.heap.size ∧ (L ++ Ad.quT ((qs.map prB).take k)).length ≤ 2200 + 140 * k) (fun _ i _ => qs.length - (intOf i).toNat)
      case atStart => exact ⟨0, Nat.zero_le _, rfl, rfl, Lib.hid (by simpa [Ad.quT] using HB.out), HX, hsz, by simp [Ad.quT]; omega⟩
      case round =>
        obtain ⟨k, hk, rfl, rfl, HB', HX', hsz', hln'⟩ := hrel
        clear HB HX HA a2 hsz hln
        by_cases hlt : k < qs.length
        · obtain ⟨b, off, rfl, hb, d1, d2⟩ := ReadsPr.cell (HR2.out.ext HX'.out (Nat.le_refl _)) k hlt
          obtain ⟨hx1, hx2⟩ := H3.out _ (List.getElem_mem hlt)
          have HN : Hid (L ++ Ad.quT ((qs.map prB).take (k + 1)) = L ++ Ad.quT ((qs.map prB).take k) ++ bsT (sepS k ++ qs[k].1 ++ ⟨#[61]⟩ ++ qs[k].2)) := Lib.hid (by
            rw [quT_succ (qs.map prB) k (by simpa using hlt), List.getElem_map, bsT_app, bsT_app, bsT_app, sepS_bs]
            simp only [List.append_assoc, prB, Ad.pairT]
            rfl)
          generalize qs[k] = p at *
          obtain ⟨p1, p2⟩ := p
          simp only [] at d1 d2 hx1 hx2 HN
          have hsk := sepS_size k
          have hss := sepS_succ k
          generalize sepS k = sk at *
          generalize L ++ Ad.quT ((qs.map prB).take k) = LL at *
          go_wp2_with (go_at_call 131; refine (show Hid _ from ?_).out)
          refine Lib.hid ?_
          have hs1 : (⟨#[61]⟩ : ByteArray).size = 1 := rfl
          have hs3 : w.heap.size + 1 ≤ (wr.alloc (.cells #[.string p1, .string p2] 250)).heap.size := by rw [World.size_alloc]; omega
          refine (wrstr_any _ _ _ _ _ (isBuilder_ext HB'.out ((Ext.refl wr).alloc _)) (by simp only [ByteArray.size_append]; omega) hs3).mono ?_
          rintro e w2 ⟨rfl, hb2, hx3⟩
          have hl2 : (LL ++ bsT (sk ++ p1 ++ ⟨#[61]⟩ ++ p2)).length ≤ 2200 + 140 * (k + 1) := by
            rw [List.length_append, bsT_size]
            simp only [ByteArray.size_append]
            omega
          have HB2 := Lib.hid hb2
          have HX2 : Hid (Ext w w2) := Lib.hid ((HX'.out.alloc _).grown hx3 (by omega))
          have hs2 : w.heap.size + 1 ≤ w2.heap.size := Nat.le_trans hs3 hx3.size
          clear hb2 hx3 HB' hs3
          go_wp2
          go_roundw
          case rel => exact ⟨k + 1, by omega, by rw [hss], by go_num, by rw [HN.out]; exact HB2, HX2, hs2, by rw [HN.out]; exact hl2⟩
          case measure => simp [intOf]; omega
        · have e : k = qs.length := by omega
          subst e
          rw [List.take_of_length_le (by simp)] at HB'
          generalize sepS qs.length = sk
          clear hsep
          go_wp2_with (go_at_call 133; refine (bstr_any _ _ _ _ HB'.out hsz').mono ?_; rintro e w2 ⟨rfl, hx3⟩; have HX2 : Hid (Ext w w2) := Lib.hid (HX'.out.grown hx3 (by omega)); clear hx3)
          go_ret
          exact ⟨by rw [HT.out]; rfl, HX2.out⟩
end Go.Proofs.YtpjacgcaibaggaaGreatDoor


set_option linter.unusedVariables false
set_option linter.unusedSimpArgs false
namespace Go.Proofs.YtpjacgcaibaggaaGreatDoor
open Go.RowKit Go.Shelf
open Go.Proofs

theorem text1_any (s : ByteArray) (w : World) : Calls Tryz.prog 186 #[.string s] w fun e w' => e = .returned (.bool (!Tg.wordB (bsT s))) ∧ Ext w w' := by
  have H := Lib.hid (word_any s)
  go_enter Tryz.func186, Tryz.ntmps186
  go_wp2_with (go_at_call 187; refine (H.out _).mono ?_; rintro e w' ⟨rfl, hxl⟩; obtain ⟨xl, rfl⟩ := hxl.asLater; clear hxl)
  go_ret
  exact ⟨rfl, (by (repeat (first | with_reducible exact Ext.refl _ | with_reducible exact Ext.refl _ | with_reducible refine Ext.drew ?_ | with_reducible refine Ext.drewN ?_ _ | with_reducible refine Ext.alloc ?_ _ | with_reducible refine Ext.onto ?_ _ | (with_reducible refine Ext.setCells ?_ ?_ _ _; rotate_left; focus (first | omega | (simp; done) | (simp; omega))) | (with_reducible refine Ext.setCell ?_ ?_ _; rotate_left; focus (first | omega | (simp; done) | (simp; omega))))))⟩
theorem windex_any (A : Option Addr) (c : Nat) (ls : List ByteArray) (w : World) (hlen : ls.length ≤ 140737488355328) (hr : ReadsStr w w.heap.size A ls) (hw : ∀ x ∈ ls, Tg.wordB (bsT x) = true) :
    Calls Tryz.prog 200 #[.slice A ls.length c, .func (.func 186) #[] #[]] w fun e w' => e = .returned (.int .i64 (-1)) ∧ Ext w w' := by
  have HR := Lib.hid hr
  have HW := Lib.hid hw
  clear hr hw
  go_enter Tryz.func200, Tryz.ntmps200
  go_wp2
  go_loopw [8] (fun i wr => ∃ k : Nat, k ≤ ls.length ∧ i = .int .i64 k ∧ Ext w wr) (fun i _ => ls.length - (intOf i).toNat)
  case atStart => exact ⟨0, Nat.zero_le _, rfl, Ext.refl _⟩
  case round =>
    obtain ⟨k, hk, rfl, hx⟩ := hrel
    have HX := Lib.hid hx
    by_cases hlt : k < ls.length
    · obtain ⟨b, off, rfl, hb, c1⟩ := ReadsStr.cell (HR.out.on hx) k hlt
      have HT := Lib.hid (text1_any ls[k])
      rw [HW.out _ (List.getElem_mem hlt)] at HT
      generalize ls[k] = s at *
      clear hx
      go_wp2_with (go_at_call 186; refine (HT.out _).mono ?_; rintro e w' ⟨rfl, hxl⟩; obtain ⟨xl, rfl⟩ := hxl.asLater; clear hxl)
      go_roundw
      case rel => exact ⟨k + 1, by omega, by go_num, (by (repeat (first | with_reducible exact HX.out | with_reducible exact Ext.refl _ | with_reducible refine Ext.drew ?_ | with_reducible refine Ext.drewN ?_ _ | with_reducible refine Ext.alloc ?_ _ | with_reducible refine Ext.onto ?_ _ | (with_reducible refine Ext.setCells ?_ ?_ _ _; rotate_left; focus (first | omega | (simp; done) | (simp; omega))) | (with_reducible refine Ext.setCell ?_ ?_ _; rotate_left; focus (first | omega | (simp; done) | (simp; omega))))))⟩
      case measure => simp [intOf]; omega
    · go_wp2
      go_ret
      exact ⟨rfl, HX.out⟩
theorem wcont_any (A : Option Addr) (c : Nat) (ls : List ByteArray) (w : World) (hlen : ls.length ≤ 140737488355328) (hr : ReadsStr w w.heap.size A ls) (hw : ∀ x ∈ ls, Tg.wordB (bsT x) = true) :
    Calls Tryz.prog 153 #[.slice A ls.length c, .func (.func 186) #[] #[]] w fun e w' => e = .returned (.bool false) ∧ Ext w w' := by
  have H := Lib.hid (windex_any A c ls w hlen hr hw)
  clear hr hw
  go_enter Tryz.func153, Tryz.ntmps153
  go_wp2_with (go_at_call 200; refine H.out.mono ?_; rintro e w' ⟨rfl, hxl⟩; obtain ⟨xl, rfl⟩ := hxl.asLater; clear hxl)
  go_ret
  exact ⟨rfl, (by (repeat (first | with_reducible exact Ext.refl _ | with_reducible exact Ext.refl _ | with_reducible refine Ext.drew ?_ | with_reducible refine Ext.drewN ?_ _ | with_reducible refine Ext.alloc ?_ _ | with_reducible refine Ext.onto ?_ _ | (with_reducible refine Ext.setCells ?_ ?_ _ _; rotate_left; focus (first | omega | (simp; done) | (simp; omega))) | (with_reducible refine Ext.setCell ?_ ?_ _; rotate_left; focus (first | omega | (simp; done) | (simp; omega))))))⟩
def txE (a : Ad.Adr) : Int := if 4096 < (Ad.textT a).length then 1 else 0
def txS (a : Ad.Adr) : List UInt8 := if txE a = 0 then Ad.textT a else []
theorem word_size {s : ByteArray} (h : Tg.wordB (bsT s) = true) : s.size ≤ 64 := by
  simp only [Tg.wordB, Bool.and_eq_true, decide_eq_true_eq] at h
  have := h.1.1.1.2
  rwa [bsT_size] at this
theorem asc_at {qs : List PrB} (ha : Ad.AscP (qs.map prB)) (k : Nat) (h0 : 0 < k) (hk : k < qs.length) : bsT (qs[k - 1]'(by omega)).1 < bsT qs[k].1 := by
  have h := List.pairwise_iff_getElem.1 ha (k - 1) k (by simp; omega) (by simpa using hk) (by omega)
  simpa [prB] using h
set_option maxRecDepth 100000 in
set_option maxHeartbeats 4000000 in
theorem text_any (cu : ByteArray) (A : Option Addr) (c : Nat) (ls : List ByteArray) (A2 : Option Addr) (c2 : Nat) (qs : List PrB) (w : World) (hn : Tg.nameB (bsT cu) = true) (hw : ∀ x ∈ ls, Tg.wordB (bsT x) = true) (hg : ∀ p ∈ qs, Ad.goodP (prB p) = true) (ha : Ad.AscP (qs.map prB)) (hl : ls.length ≤ 32) (hq : qs.length ≤ 16)
    (hr : ReadsStr w w.heap.size A ls) (hr2 : ReadsPr w w.heap.size A2 qs) :
    Calls Tryz.prog 144 #[.agg #[.string cu, .slice A ls.length c, .slice A2 qs.length c2]] w fun e w' => e = .returned (.tuple #[.string ⟨(txS ⟨bsT cu, ls.map bsT, qs.map prB⟩).toArray⟩, .int .i64 (txE ⟨bsT cu, ls.map bsT, qs.map prB⟩)]) ∧ Ext w w' := by
  have HR := Lib.hid hr
  have HR2 := Lib.hid hr2
  have HC := Lib.hid (fun (W : World) (hx : Ext w W) => wcont_any A c ls W (by omega) (hr.on hx) hw)
  have HNm := Lib.hid (fun W => name_any cu W)
  have hn' : Tg.nameB cu.data.toList = true := hn
  rw [hn'] at HNm
  have HWr := Lib.hid (fun (W : World) (hx : Ext w W) => write_any cu A c ls A2 c2 qs W (name_size hn) (fun x hx => word_size (hw x hx)) (fun p hp => by
    have h := hg p hp
    simp only [Ad.goodP, Bool.and_eq_true] at h
    exact ⟨name_size h.1, word_size h.2⟩) hl hq (hr.on hx) (hr2.on hx))
  have HA := Lib.hid ha
  have HG := Lib.hid hg
  have HS : Hid (txS ⟨bsT cu, ls.map bsT, qs.map prB⟩ = if txE ⟨bsT cu, ls.map bsT, qs.map prB⟩ = 0 then Ad.textT ⟨bsT cu, ls.map bsT, qs.map prB⟩ else []) := Lib.hid rfl
  have HE : Hid (txE ⟨bsT cu, ls.map bsT, qs.map prB⟩ = if 4096 < (Ad.textT ⟨bsT cu, ls.map bsT, qs.map prB⟩).length then 1 else 0) := Lib.hid rfl
  generalize txS ⟨bsT cu, ls.map bsT, qs.map prB⟩ = tS at *
  generalize txE ⟨bsT cu, ls.map bsT, qs.map prB⟩ = tE at *
  generalize Ad.textT ⟨bsT cu, ls.map bsT, qs.map prB⟩ = tx at *
  have d1 : decide ((32 : Int) < (ls.length : Int)) = false := by simp; omega
  have d2 : decide ((16 : Int) < (qs.length : Int)) = false := by simp; omega
  clear hr hr2 hw hn hn' ha hg
  go_enter Tryz.func144, Tryz.ntmps144
  go_wp2_with (first
    | (go_at_call 155; refine (HNm.out _).mono ?_; rintro e w' ⟨rfl, hxl⟩; obtain ⟨xl, rfl⟩ := hxl.asLater; clear hxl)
    | (go_at_call 153; refine (HC.out _ (by (repeat (first | with_reducible exact Ext.refl _ | with_reducible exact Ext.refl _ | with_reducible refine Ext.drew ?_ | with_reducible refine Ext.drewN ?_ _ | with_reducible refine Ext.alloc ?_ _ | with_reducible refine Ext.onto ?_ _ | (with_reducible refine Ext.setCells ?_ ?_ _ _; rotate_left; focus (first | omega | (simp; done) | (simp; omega))) | (with_reducible refine Ext.setCell ?_ ?_ _; rotate_left; focus (first | omega | (simp; done) | (simp; omega))))))).mono ?_; rintro e w' ⟨rfl, hxk⟩; obtain ⟨xk, rfl⟩ := hxk.asLater; clear hxk))
  refine wp_world (fun W => Ext w W ∧ RowAt W w.heap.size #[.string cu, .slice A ls.length c, .slice A2 qs.length c2]) ⟨(by (repeat (first | with_reducible exact Ext.refl _ | with_reducible exact Ext.refl _ | with_reducible refine Ext.drew ?_ | with_reducible refine Ext.drewN ?_ _ | with_reducible refine Ext.alloc ?_ _ | with_reducible refine Ext.onto ?_ _ | (with_reducible refine Ext.setCells ?_ ?_ _ _; rotate_left; focus (first | omega | (simp; done) | (simp; omega))) | (with_reducible refine Ext.setCell ?_ ?_ _; rotate_left; focus (first | omega | (simp; done) | (simp; omega)))))), (by (repeat (first | with_reducible exact RowAt.new _ _ _ | with_reducible refine RowAt.drew ?_ | with_reducible refine RowAt.later ?_ _ | with_reducible exact RowAt.newAt (by first | rfl | omega | (simp [later_size, setCells_size]; done) | (simp [later_size, setCells_size]; omega)) | with_reducible refine RowAt.alloc ?_ _ | with_reducible apply RowAt.store | with_reducible refine RowAt.others ?_ ?_ _ _ | with_reducible refine RowAt.other ?_ ?_ _)); all_goals first | omega | (simp; done) | (simp; omega) | (simp [go_sem]; done))⟩ ?_
  rintro W1 ⟨x1, r1⟩
  have HX1 := Lib.hid x1
  have HR1 := Lib.hid r1
  clear x1 r1 HC HNm
  have HNm := Lib.hid (fun (s : ByteArray) (h : Tg.nameB (bsT s) = true) W => (by have k := name_any s W; rw [show Tg.nameB s.data.toList = true from h] at k; exact k : Calls Tryz.prog 155 #[.string s] W fun e w' => e = .returned (.bool true) ∧ Ext W w'))
  have HWd := Lib.hid (fun (s : ByteArray) (h : Tg.wordB (bsT s) = true) W => (by have k := word_any s W; rw [show Tg.wordB s.data.toList = true from h] at k; exact k : Calls Tryz.prog 187 #[.string s] W fun e w' => e = .returned (.bool true) ∧ Ext W w'))
  go_loopw [31] (fun i wr => ∃ k : Nat, k ≤ qs.length ∧ i = .int .i64 k ∧ Hid (Ext w wr) ∧ Hid (RowAt wr w.heap.size #[.string cu, .slice A ls.length c, .slice A2 qs.length c2])) (fun i _ => qs.length - (intOf i).toNat)
  case atStart => exact ⟨0, Nat.zero_le _, rfl, HX1, HR1⟩
  case round =>
    obtain ⟨k, hk, rfl, HX, HRw⟩ := hrel
    clear HX1 HR1
    have hlt0 := HRw.out.lt
    have hsz := HX.out.size
    have q0 : wr.cell? ⟨w.heap.size, 0, none⟩ = some (.string cu) := HRw.out.cell 0
    have q1 : wr.cell? ⟨w.heap.size, 1, none⟩ = some (.slice A ls.length c) := HRw.out.cell 1
    have q2 : wr.cell? ⟨w.heap.size, 2, none⟩ = some (.slice A2 qs.length c2) := HRw.out.cell 2
    by_cases hlt : k < qs.length
    · obtain ⟨b, off, rfl, hb, d3, d4⟩ := ReadsPr.cell (HR2.out.ext HX.out (Nat.le_refl _)) k hlt
      have hb2 : b < wr.heap.size := by omega
      have hgd := HG.out _ (List.getElem_mem hlt)
      simp only [Ad.goodP, Bool.and_eq_true] at hgd
      have hN1 := HNm.out qs[k].1 hgd.1
      have hW1 := HWd.out qs[k].2 hgd.2
      have HN1 := Lib.hid hN1
      have HW1 := Lib.hid hW1
      clear hgd hN1 hW1
      by_cases k0 : 0 < k
      · obtain ⟨b', off', e1, _, d5, _⟩ := ReadsPr.cell (HR2.out.ext HX.out (Nat.le_refl _)) (k - 1) (by omega)
        injection e1 with e1
        injection e1 with e1 e2
        subst e1 e2
        have hasc := asc_at HA.out k k0 hlt
        have HLE := Lib.hid (le_walk qs[k].1 (qs[k - 1]'(by omega)).1)
        generalize (qs[k - 1]'(by omega)).1 = pk at *
        generalize qs[k] = p at *
        obtain ⟨p1, p2⟩ := p
        simp only [] at d3 d4 HN1 HW1 HLE hasc
        have hle : (Op.bytesLess p1.toList pk.toList || p1.toList == pk.toList) = false := by
          rw [HLE.out, decide_eq_false_iff_not]
          exact fun h => List.not_lt.2 h hasc
        have z0 : decide (0 < k) = true := by simpa using k0
        have z1 : decide ((0 : Int) < (k : Int)) = true := by simp; omega
        clear hasc HLE
        go_wp2
        refine wp_region_later (by kernel_rfl) (by kernel_rfl) ?_
        repeat (first | go_big_quiet_step ((first | (go_at_call 155; exact quietE (HN1.out _)) | (go_at_call 187; exact quietE (HW1.out _)))) | quiet_step ((first | (go_at_call 155; exact quietE (HN1.out _)) | (go_at_call 187; exact quietE (HW1.out _)))))
        refine wpQuiet_nil ?_
        rintro _ ⟨xq, rfl⟩
        go_wp2
        go_roundw
        case rel => exact ⟨k + 1, by omega, by go_num, Lib.hid (by (repeat (first | with_reducible exact HX.out | with_reducible exact Ext.refl _ | with_reducible refine Ext.drew ?_ | with_reducible refine Ext.drewN ?_ _ | with_reducible refine Ext.alloc ?_ _ | with_reducible refine Ext.onto ?_ _ | (with_reducible refine Ext.setCells ?_ ?_ _ _; rotate_left; focus (first | omega | (simp; done) | (simp; omega))) | (with_reducible refine Ext.setCell ?_ ?_ _; rotate_left; focus (first | omega | (simp; done) | (simp; omega)))))), Lib.hid (by (repeat (first | with_reducible exact HRw.out | with_reducible refine RowAt.drew ?_ | with_reducible refine RowAt.later ?_ _ | with_reducible exact RowAt.newAt (by first | rfl | omega | (simp [later_size, setCells_size]; done) | (simp [later_size, setCells_size]; omega)) | with_reducible refine RowAt.alloc ?_ _ | with_reducible apply RowAt.store | with_reducible refine RowAt.others ?_ ?_ _ _ | with_reducible refine RowAt.other ?_ ?_ _)); all_goals first | omega | (simp; done) | (simp; omega) | (simp [go_sem]; done))⟩
        case measure => simp [intOf]; omega
      · have z0 : decide (0 < k) = false := by simpa using k0
        have z1 : decide ((0 : Int) < (k : Int)) = false := by simp; omega
        generalize qs[k] = p at *
        obtain ⟨p1, p2⟩ := p
        simp only [] at d3 d4 HN1 HW1
        go_wp2
        refine wp_region_later (by kernel_rfl) (by kernel_rfl) ?_
        repeat (first | go_big_quiet_step ((first | (go_at_call 155; exact quietE (HN1.out _)) | (go_at_call 187; exact quietE (HW1.out _)))) | quiet_step ((first | (go_at_call 155; exact quietE (HN1.out _)) | (go_at_call 187; exact quietE (HW1.out _)))))
        refine wpQuiet_nil ?_
        rintro _ ⟨xq, rfl⟩
        go_wp2
        go_roundw
        case rel => exact ⟨k + 1, by omega, by go_num, Lib.hid (by (repeat (first | with_reducible exact HX.out | with_reducible exact Ext.refl _ | with_reducible refine Ext.drew ?_ | with_reducible refine Ext.drewN ?_ _ | with_reducible refine Ext.alloc ?_ _ | with_reducible refine Ext.onto ?_ _ | (with_reducible refine Ext.setCells ?_ ?_ _ _; rotate_left; focus (first | omega | (simp; done) | (simp; omega))) | (with_reducible refine Ext.setCell ?_ ?_ _; rotate_left; focus (first | omega | (simp; done) | (simp; omega)))))), Lib.hid (by (repeat (first | with_reducible exact HRw.out | with_reducible refine RowAt.drew ?_ | with_reducible refine RowAt.later ?_ _ | with_reducible exact RowAt.newAt (by first | rfl | omega | (simp [later_size, setCells_size]; done) | (simp [later_size, setCells_size]; omega)) | with_reducible refine RowAt.alloc ?_ _ | with_reducible apply RowAt.store | with_reducible refine RowAt.others ?_ ?_ _ _ | with_reducible refine RowAt.other ?_ ?_ _)); all_goals first | omega | (simp; done) | (simp; omega) | (simp [go_sem]; done))⟩
        case measure => simp [intOf]; omega
    · clear HNm HWd HG HA
      have hz : ((⟨tx.toArray⟩ : ByteArray)).size = tx.length := by simp [ByteArray.size]
      by_cases h4 : 4096 < tx.length
      · have h5 : tE = 1 := by rw [HE.out, if_pos h4]
        have h6 : tS = [] := by rw [HS.out, h5]; rfl
        subst h5 h6
        clear HE HS
        go_wp2_with (go_at_call 188; refine (HWr.out _ HX.out).mono ?_; rintro e w' ⟨rfl, hxl⟩; obtain ⟨xl, rfl⟩ := hxl.asLater; clear hxl)
        go_wp2
        refine bodyPost_ret (v := .tuple #[.string ⟨([] : List UInt8).toArray⟩, .int .i64 1]) ?_ rfl ⟨rfl, (by (repeat (first | with_reducible exact HX.out | with_reducible exact Ext.refl _ | with_reducible refine Ext.drew ?_ | with_reducible refine Ext.drewN ?_ _ | with_reducible refine Ext.alloc ?_ _ | with_reducible refine Ext.onto ?_ _ | (with_reducible refine Ext.setCells ?_ ?_ _ _; rotate_left; focus (first | omega | (simp; done) | (simp; omega))) | (with_reducible refine Ext.setCell ?_ ?_ _; rotate_left; focus (first | omega | (simp; done) | (simp; omega))))))⟩
        simp [results, Tryz.results144, go_sem, ↓IntWalk.iteOmega]
      · have h5 : tE = 0 := by rw [HE.out, if_neg h4]
        have h6 : tS = tx := by rw [HS.out, h5]; rfl
        subst h5 h6
        clear HE HS
        go_wp2_with (go_at_call 188; refine (HWr.out _ HX.out).mono ?_; rintro e w' ⟨rfl, hxl⟩; obtain ⟨xl, rfl⟩ := hxl.asLater; clear hxl)
        go_wp2
        refine bodyPost_ret (v := .tuple #[.string ⟨tS.toArray⟩, .int .i64 0]) ?_ rfl ⟨rfl, (by (repeat (first | with_reducible exact HX.out | with_reducible exact Ext.refl _ | with_reducible refine Ext.drew ?_ | with_reducible refine Ext.drewN ?_ _ | with_reducible refine Ext.alloc ?_ _ | with_reducible refine Ext.onto ?_ _ | (with_reducible refine Ext.setCells ?_ ?_ _ _; rotate_left; focus (first | omega | (simp; done) | (simp; omega))) | (with_reducible refine Ext.setCell ?_ ?_ _; rotate_left; focus (first | omega | (simp; done) | (simp; omega))))))⟩
        simp [results, Tryz.results144, go_sem, ↓IntWalk.iteOmega]
end Go.Proofs.YtpjacgcaibaggaaGreatDoor


set_option linter.unusedVariables false
set_option linter.unusedSimpArgs false
namespace Go.Proofs.YtpjacgcaibaggaaGreatDoor
open Go.RowKit Go.Shelf
open Go.Proofs

section
attribute [local go_sem] Oper.semAt_some
set_option maxRecDepth 100000 in
set_option maxHeartbeats 2000000 in
theorem resolve_none (w : World) :
    Calls Tryz.prog 184 #[.func (.func 183) #[] #[]] w fun e w' => e = .returned (.tuple #[.slice none 0 0, .bool true]) ∧ Ext w w' := by
  refine (callsIn_wide (n := 4)).1 ?_
  refine callsIn_of_wp_marks Tryz.func184 rfl trivial ?_ rfl
  simp only [Tryz.ntmps184, List.size_toArray, List.length_cons, List.length_nil, Nat.reduceAdd, Nat.reduceSub, Array.replicate_succ, Array.replicate_zero, List.push_toArray, List.append_toArray, List.nil_append, List.cons_append]
  gi_wp2
  have b1 : Boxed (((w.alloc (.cells #[.slice none 0 0] 81)).alloc (.cells #[.bool false] 4)).alloc (.cells #[.slice none 0 0] 81)) w.heap.size 81 (.slice none 0 0) := ((Boxed.new w 81 _).alloc _).alloc _
  have b2 : Boxed (((w.alloc (.cells #[.slice none 0 0] 81)).alloc (.cells #[.bool false] 4)).alloc (.cells #[.slice none 0 0] 81)) (w.heap.size + 1) 4 (.bool false) := by
    have := Boxed.new (w.alloc (.cells #[.slice none 0 0] 81)) 4 (.bool false); rw [World.size_alloc] at this; exact this.alloc _
  have b3 : Boxed (((w.alloc (.cells #[.slice none 0 0] 81)).alloc (.cells #[.bool false] 4)).alloc (.cells #[.slice none 0 0] 81)) (w.heap.size + 1 + 1) 81 (.slice none 0 0) := by
    have := Boxed.new ((w.alloc (.cells #[.slice none 0 0] 81)).alloc (.cells #[.bool false] 4)) 81 (.slice none 0 0); rw [World.size_alloc, World.size_alloc] at this; exact this
  have bs0 : (((w.alloc (.cells #[.slice none 0 0] 81)).alloc (.cells #[.bool false] 4)).alloc (.cells #[.slice none 0 0] 81)).heap.size = w.heap.size + 3 := by simp
  have bx : Ext w (((w.alloc (.cells #[.slice none 0 0] 81)).alloc (.cells #[.bool false] 4)).alloc (.cells #[.slice none 0 0] 81)) := (((Ext.refl _).alloc _).alloc _).alloc _
  generalize (((w.alloc (.cells #[.slice none 0 0] 81)).alloc (.cells #[.bool false] 4)).alloc (.cells #[.slice none 0 0] 81)) = W0 at b1 b2 b3 bs0 bx ⊢
  have hbs1 := Nat.le_of_eq bs0
  have hbs2 := Nat.le_of_eq bs0.symm
  clear bs0
  refine rf_enter2 rfl (by omega) (gf := 183) (lb := #[]) rfl trivial (enters_of Tryz.func183 (by kernel_rfl) rfl) ?_
  intro fn WL rdy hfn hrdy hE hEs hl0 hD0
  have hEa := Nat.le_of_eq hEs
  have hEb := Nat.le_of_eq hEs.symm
  clear hEs hrdy
  have hP : CallsIn Fence.wide (4 - 1) Tryz.prog 183 #[.func (.yield (W0.heap.size + 1)) #[] #[]] WL fun e W' => (∃ v, e = .returned v) ∧ W' = WL := by
    refine callsIn_of_wp Tryz.func183 rfl trivial ?_ rfl
    simp only [Tryz.ntmps183, List.size_toArray, List.length_cons, List.length_nil, Nat.reduceAdd, Nat.reduceSub, Array.replicate_succ, Array.replicate_zero, List.push_toArray, List.append_toArray, List.nil_append, List.cons_append]
    gi_wp2
    go_end0
    exact ⟨⟨_, rfl⟩, rfl⟩
  refine CallsIn.mono hP ?_
  rintro e W' ⟨⟨v', rfl⟩, rfl⟩
  refine ⟨⟨_, rfl⟩, .inl ⟨hl0, ?_⟩⟩
  intro W'' hBut
  have HK : Hid (W''.heap[W0.heap.size]? = some (.deferred (some []))) := Lib.hid ((hBut.block _ (by omega) (fun e => by injection e; omega)).trans hD0)
  have hc := (boxed_but (Boxed.ext b3 hE) hBut (by omega)).cell
  have hq2 := boxed_but (Boxed.ext b1 hE) hBut (by omega)
  have hq3 := boxed_but (Boxed.ext b2 hE) hBut (by omega)
  have k2 := hq2.cell
  have k2f := hq2.frozen
  have k3 := hq3.cell
  have k3f := hq3.frozen
  have HQ2 := Lib.hid hq2
  have HQ3 := Lib.hid hq3
  have HBu : Hid (ButS (fun k => w.heap.size ≤ k) w W'') := Lib.hid ((ButS.of_ext (bx.trans hE)).trans (ButS.of_but hBut (.inr (by omega))))
  clear hBut hq2 hq3 hD0 hl0 b1 b2 b3 hP
  gi_wp2
  have hK2 : ((W''.setCell ⟨w.heap.size, 0, none⟩ (.slice none 0 0)).setCell ⟨w.heap.size + 1, 0, none⟩ (.bool true)).heap[W0.heap.size]? = some (.deferred (some [])) := (Below.heap_setCell _ _ _ _ (by show _ ≠ w.heap.size + 1; omega)).trans ((Below.heap_setCell _ _ _ _ (by show _ ≠ w.heap.size; omega)).trans HK.out)
  refine ⟨by simp, .inl ⟨_, _, rfl, run_takeDeferred hK2, ?_⟩⟩
  have hgb := grownBy_putObj' ((W''.setCell ⟨w.heap.size, 0, none⟩ (.slice none 0 0)).setCell ⟨w.heap.size + 1, 0, none⟩ (.bool true)) W0.heap.size (.deferred none)
  refine ⟨.tuple #[.slice none 0 0, .bool true], results_two Tryz.results184 ⟨_, rfl, load_strs (boxed_but ((HQ2.out.set _).other (by omega) _) hgb (by omega))⟩ ⟨_, rfl, load_bool (boxed_but ((HQ3.out.other (by omega) _).set _) hgb (by omega))⟩, rfl, ?_⟩
  have h1 : ButS (fun k => w.heap.size ≤ k) w ((W''.setCell ⟨w.heap.size, 0, none⟩ (.slice none 0 0)).setCell ⟨w.heap.size + 1, 0, none⟩ (.bool true)) := (HBu.out.setCell (p := ⟨w.heap.size, 0, none⟩) (.inl (Nat.le_refl _)) _).setCell (p := ⟨w.heap.size + 1, 0, none⟩) (.inl (by show _ ≤ w.heap.size + 1; omega)) _
  exact (h1.trans (ButS.of_but hgb (.inr (by omega)))).toExt (fun k hk => by omega)
end
/-- What resolve answers, in one form. -/
def RslU (o : Option (List (List UInt8))) (base : Nat) (e : Ending) (w' : World) : Prop :=
  ∃ (A : Option Addr) (c : Nat) (ls : List ByteArray) (one : Bool), e = .returned (.tuple #[.slice A ls.length c, .bool one]) ∧ one = o.isSome ∧ ls.map bsT = o.getD [] ∧ OwnsStr base w' A c ls
theorem RslIs.uni {o : Option (List (List UInt8))} {base : Nat} {e : Ending} {w' : World} (h : RslIs o base e w') : RslU o base e w' := by
  cases o with
  | none => exact ⟨none, 0, [], false, h, rfl, rfl, Owns.nil _ _ _ _ _⟩
  | some out =>
    obtain ⟨A, c, ls, h1, h2, h3⟩ := h
    exact ⟨A, c, ls, true, h1, rfl, h2, h3⟩
def PrsU (o : Option (List Ad.Pr)) (base : Nat) (e : Ending) (w' : World) : Prop :=
  ∃ (A : Option Addr) (c : Nat) (qs : List PrB) (two : Bool), e = .returned (.tuple #[.slice A qs.length c, .bool two]) ∧ two = o.isSome ∧ qs.map prB = o.getD [] ∧ OwnsPr base w' A c qs
def AdrAt (base : Nat) (a : Ad.Adr) (v : Value) (w : World) : Prop :=
  ∃ (cu : ByteArray) (A : Option Addr) (c : Nat) (ls : List ByteArray) (A2 : Option Addr) (c2 : Nat) (qs : List PrB), v = .agg #[.string cu, .slice A ls.length c, .slice A2 qs.length c2] ∧ (⟨bsT cu, ls.map bsT, qs.map prB⟩ : Ad.Adr) = a ∧ OwnsStr base w A c ls ∧ OwnsPr base w A2 c2 qs
theorem RslU.lower {o : Option (List (List UInt8))} {b b2 : Nat} {e : Ending} {w' : World} (h : RslU o b e w') (hb : b2 ≤ b) : RslU o b2 e w' := by
  obtain ⟨A, c, ls, one, h1, h2, h3, h4⟩ := h
  exact ⟨A, c, ls, one, h1, h2, h3, h4.lower hb⟩
section
variable {base b2 : Nat} {a : Ad.Adr} {v : Value} {w w' : World}
theorem AdrAt.ext (h : AdrAt base a v w) (hx : Ext w w') : AdrAt base a v w' := by
  obtain ⟨cu, A, c, ls, A2, c2, qs, h1, h2, h3, h4⟩ := h
  exact ⟨cu, A, c, ls, A2, c2, qs, h1, h2, h3.ext hx, h4.ext hx⟩
theorem AdrAt.lower (h : AdrAt base a v w) (hb : b2 ≤ base) : AdrAt b2 a v w := by
  obtain ⟨cu, A, c, ls, A2, c2, qs, h1, h2, h3, h4⟩ := h
  exact ⟨cu, A, c, ls, A2, c2, qs, h1, h2, h3.lower hb, h4.lower hb⟩
theorem AdrAt.others (h : AdrAt base a v w) {m : Nat} (hm : m < base) (o : Nat) (vs : List Value) : AdrAt base a v (w.setCells m o vs) := by
  obtain ⟨cu, A, c, ls, A2, c2, qs, h1, h2, h3, h4⟩ := h
  exact ⟨cu, A, c, ls, A2, c2, qs, h1, h2, h3.others hm o vs, h4.others hm o vs⟩
end
theorem adr_ty : RowTy Tryz.prog 201 3 := ⟨by kernel_rfl, by kernel_rfl⟩
theorem adr_ld (w : World) (b o : Nat) : (rowLoad 201 3 (.pointer (some ⟨b, o, none⟩))).run Tryz.prog w = rowLoadR Tryz.prog w 201 3 b o (rowOf w b o 3) := run_rowLoad adr_ty w b o
theorem adr_st (w : World) (b o : Nat) (cells : Array Value) : (rowStore 201 3 (.pointer (some ⟨b, o, none⟩)) (.agg cells)).run Tryz.prog w = rowStoreR Tryz.prog w 201 3 b o cells (roomOf w b o 3 && fitsRow 3 cells) := run_rowStore adr_ty w b o cells
theorem adr_lv (w : World) (b o : Nat) : (loadVar 201 ⟨b, o, none⟩).run Tryz.prog w = varRes Tryz.prog w 201 b o (rowOf w b o 3) := loadVar_row adr_ty w b o
theorem adr_al (w : World) : (rowAlloc 201).run Tryz.prog w = .ok (.value (.pointer (some ⟨w.heap.size, 0, none⟩))) (w.alloc (.cells (#[.string ByteArray.empty, .slice none 0 0, .slice none 0 0]) 201)) := run_rowAlloc (by kernel_rfl) w
theorem adr_xl (ρ : Operand → Value) (dst : Option Tmp) (x : Operand) (t : TypeId) (pos : String) (after : Array Edge) (guard : Option (Nat × Bool)) : execOp ρ { dst, op := .load 201 x, type := t, pos, after, guard } = rowLoad 201 3 (ρ x) := rfl
theorem adr_xs (ρ : Operand → Value) (dst : Option Tmp) (x y : Operand) (t : TypeId) (pos : String) (after : Array Edge) (guard : Option (Nat × Bool)) : execOp ρ { dst, op := .store 201 x y, type := t, pos, after, guard } = rowStore 201 3 (ρ x) (ρ y) := rfl
theorem adr_xa (ρ : Operand → Value) (dst : Option Tmp) (t : TypeId) (pos : String) (after : Array Edge) (guard : Option (Nat × Bool)) : execOp ρ { dst, op := .alloc 201, type := t, pos, after, guard } = rowAlloc 201 := rfl
attribute [go_sem ↓] adr_xl adr_xs adr_xa
attribute [go_sem] adr_ld adr_st adr_al
theorem load_prs {w : World} {b : Nat} {v : Value} (h : Boxed w b 199 v) : (loadVar 199 ⟨b, 0, none⟩).run Tryz.prog w = .ok v w := by
  have h1 := h.cell
  simp [loadVar, go_sem, h1]
theorem pairs_none (s : ByteArray) (w : World) (h : bsT s = []) : Calls Tryz.prog 185 #[.string s] w fun e w' => PrsU (Ad.quN (bsT s)) w.heap.size e w' ∧ Ext w w' := by
  have hs0 : (s.toList == []) = true := by rw [Lib.toList_data]; rw [show s.data.toList = [] from h]; rfl
  have hs1 : s.toList.isEmpty = true := by rw [Lib.toList_data]; rw [show s.data.toList = [] from h]; rfl
  have HQ : Hid (Ad.quN (bsT s) = some []) := Lib.hid (by rw [h]; rfl)
  clear h
  go_enter Tryz.func185, Tryz.ntmps185
  go_wp2
  have b1 : Boxed ((w.alloc (.cells #[.slice none 0 0] 199)).alloc (.cells #[.bool true] 4)) w.heap.size 199 (.slice none 0 0) := (Boxed.new w 199 _).alloc _
  have b2 : Boxed ((w.alloc (.cells #[.slice none 0 0] 199)).alloc (.cells #[.bool true] 4)) (w.heap.size + 1) 4 (.bool true) := by
    have := Boxed.new (w.alloc (.cells #[.slice none 0 0] 199)) 4 (.bool true); rw [World.size_alloc] at this; exact this
  exact post_two (v1 := .slice none 0 0) (v2 := .bool true) Tryz.results185 rfl ⟨_, rfl, load_prs b1⟩ ⟨_, rfl, load_bool b2⟩ ⟨⟨none, 0, [], true, rfl, by rw [HQ.out]; rfl, by rw [HQ.out]; rfl, Owns.nil _ _ _ _ _⟩, (by (repeat (first | with_reducible exact Ext.refl _ | with_reducible exact Ext.refl _ | with_reducible refine Ext.drew ?_ | with_reducible refine Ext.drewN ?_ _ | with_reducible refine Ext.alloc ?_ _ | with_reducible refine Ext.onto ?_ _ | (with_reducible refine Ext.setCells ?_ ?_ _ _; rotate_left; focus (first | omega | (simp; done) | (simp; omega))) | (with_reducible refine Ext.setCell ?_ ?_ _; rotate_left; focus (first | omega | (simp; done) | (simp; omega))))))⟩
theorem trim_any (s : ByteArray) (w : World) (hs : s.size ≤ 900000) : Calls Tryz.prog 181 #[.string s, .string ⟨#[47]⟩] w fun e w' => e = .returned (.string ⟨(Ad.trim1 (bsT s)).toArray⟩) ∧ w' = w :=
  Any.strings_TrimSuffix Tryz.trimSuffix s ⟨#[47]⟩ w (by omega)
theorem adr_loaded {w : World} {b : Nat} {cs : Array Value} (h : rowOf w b 0 3 = some cs) : (loadVar 201 ⟨b, 0, none⟩).run Tryz.prog w = .ok (.agg cs) w := run_loadVar_row adr_ty h
theorem adr_fits (cu : ByteArray) (A : Option Addr) (n c : Nat) (A2 : Option Addr) (n2 c2 : Nat) : fitsRow 3 #[.string cu, .slice A n c, .slice A2 n2 c2] = true := by kernel_rfl
attribute [local go_sem] adr_fits
theorem bsT_mk (l : List UInt8) : bsT ⟨l.toArray⟩ = l := rfl
theorem adr_none (base : Nat) (w : World) : AdrAt base Ad.noAdr (.agg #[.string ⟨#[]⟩, .slice none 0 0, .slice none 0 0]) w := ⟨⟨#[]⟩, none, 0, [], none, 0, [], rfl, rfl, Owns.nil _ _ _ _ _, Owns.nil _ _ _ _ _⟩
set_option maxRecDepth 100000 in
set_option maxHeartbeats 4000000 in
theorem parse_any (s : ByteArray) (w : World) (hs : s.size ≤ 900000) (hp : ∀ (q : ByteArray) W, bsT q = (Ad.headN (bsT s)).2.1 → q.size ≤ 4096 → Ext w W → Calls Tryz.prog 185 #[.string q] W fun e w' => PrsU (Ad.quN (bsT q)) W.heap.size e w' ∧ Ext W w') :
    Calls Tryz.prog 143 #[.string s] w fun e w' => ∃ v, e = .returned (.tuple #[v, .int .i64 (Ad.parseE (bsT s))]) ∧ AdrAt w.heap.size (Ad.parseA (bsT s)) v w' ∧ Ext w w' := by
  have hz := bsT_size s
  by_cases h4 : 4096 < s.size
  · have HE : Hid (Ad.parseE (bsT s) = 2) := Lib.hid (by unfold Ad.parseE; rw [hz, if_pos h4])
    have HA : Hid (Ad.parseA (bsT s) = Ad.noAdr) := Lib.hid (by unfold Ad.parseA; rw [HE.out]; rfl)
    clear hp hz
    go_enter Tryz.func143, Tryz.ntmps143
    go_wp2
    rw [HE.out, HA.out]
    exact post_two (v1 := .agg #[.string ⟨#[]⟩, .slice none 0 0, .slice none 0 0]) (v2 := .int .i64 2) Tryz.results143 rfl ⟨_, rfl, adr_loaded ((RowAt.store (RowAt.new _ _ _) rfl).all rfl (by omega))⟩ rfl ⟨_, rfl, adr_none _ _, (by (repeat (first | with_reducible exact Ext.refl _ | with_reducible exact Ext.refl _ | with_reducible refine Ext.drew ?_ | with_reducible refine Ext.drewN ?_ _ | with_reducible refine Ext.alloc ?_ _ | with_reducible refine Ext.onto ?_ _ | (with_reducible refine Ext.setCells ?_ ?_ _ _; rotate_left; focus (first | omega | (simp; done) | (simp; omega))) | (with_reducible refine Ext.setCell ?_ ?_ _; rotate_left; focus (first | omega | (simp; done) | (simp; omega))))))⟩
  · have HE : Hid (Ad.parseE (bsT s) = if Tg.nameB (Ad.leftN (bsT s)).1 = true ∧ (Ad.pathN (bsT s)).isSome = true ∧ (Ad.quN (Ad.headN (bsT s)).2.1).isSome = true then (if 32 < ((Ad.pathN (bsT s)).getD []).length ∨ 16 < ((Ad.quN (Ad.headN (bsT s)).2.1).getD []).length then 2 else 0) else 3) := Lib.hid (by unfold Ad.parseE; rw [hz, if_neg h4])
    have HA : Hid (Ad.parseA (bsT s) = if Ad.parseE (bsT s) = 0 then ⟨(Ad.leftN (bsT s)).1, (Ad.pathN (bsT s)).getD [], (Ad.quN (Ad.headN (bsT s)).2.1).getD []⟩ else Ad.noAdr) := Lib.hid rfl
    have HPr := Lib.hid hp
    clear hp
    generalize Ad.parseA (bsT s) = PA at *
    generalize Ad.parseE (bsT s) = PE at *
    go_enter Tryz.func143, Tryz.ntmps143
    go_wp2_with (first
      | (go_at_call 180; refine (lower_any s _ hs).mono ?_; rintro e w' ⟨⟨t, rfl, hlo, hlt⟩, hxl⟩; obtain ⟨xl, rfl⟩ := hxl.asLater; clear hxl; have HLo := Lib.hid hlo; clear hlo)
      | (go_at_call 179; refine (show Hid _ from ?_).out))
    refine Lib.hid ?_
    refine (scut_any t 63 _ (by omega)).mono ?_
    rintro e w' ⟨⟨a, b, fq, rfl, hcut, hla, hlb⟩, hxl⟩
    obtain ⟨x2, rfl⟩ := hxl.asLater
    have HC1 := Lib.hid hcut
    clear hxl hcut
    go_wp2_with (first
      | (go_at_call 181; refine (trim_any a _ (by omega)).mono ?_; rintro e w' ⟨rfl, rfl⟩)
      | (go_at_call 179; refine (show Hid _ from ?_).out))
    refine Lib.hid ?_
    have htl : (⟨(Ad.trim1 (bsT a)).toArray⟩ : ByteArray).size ≤ a.size := by
      rw [← bsT_size, bsT_mk]
      have := Ad.trim1_len (bsT a)
      rwa [bsT_size] at this
    have HTr : Hid (bsT ⟨(Ad.trim1 (bsT a)).toArray⟩ = Ad.trim1 (bsT a)) := Lib.hid (bsT_mk _)
    generalize (⟨(Ad.trim1 (bsT a)).toArray⟩ : ByteArray) = tr at *
    refine (scut_any tr 47 _ (by omega)).mono ?_
    rintro e w' ⟨⟨cu, rs, more, rfl, hcut, hlc, hlr⟩, hxl⟩
    obtain ⟨x3, rfl⟩ := hxl.asLater
    have HC2 := Lib.hid hcut
    clear hxl hcut
    have HHd : Hid (Ad.headN (bsT s) = (bsT a, bsT b, fq)) := Lib.hid (by unfold Ad.headN; rw [HC1.out]; exact congrArg _ HLo.out.symm)
    have HLf : Hid (Ad.leftN (bsT s) = (bsT cu, bsT rs, more)) := Lib.hid (by unfold Ad.leftN; rw [HHd.out, HC2.out, HTr.out])
    have HPt : Hid (Ad.pathN (bsT s) = if more = true then Ad.resAll (Ad.pieces 47 (bsT rs)) else some []) := Lib.hid (by unfold Ad.pathN; rw [HLf.out])
    rw [HLf.out, HHd.out] at HE HA
    have HPq := Lib.hid (fun (W : World) (hx : Ext w W) => HPr.out b W (by rw [HHd.out]) (by omega) hx)
    clear HPr HC1 HC2 HLo HTr HHd HLf
    generalize Ad.pathN (bsT s) = pth at *
    generalize Ad.quN (bsT b) = qry at *
    have hrs : rs.size ≤ 4096 := by omega
    clear htl hla hlc hlr
    go_upto_region 5 with (fail)
    refine wp_world (fun W => Ext w W ∧ RowAt W w.heap.size #[.string ByteArray.empty, .slice none 0 0, .slice none 0 0]) ⟨(by (repeat (first | with_reducible exact Ext.refl _ | with_reducible exact Ext.refl _ | with_reducible refine Ext.drew ?_ | with_reducible refine Ext.drewN ?_ _ | with_reducible refine Ext.alloc ?_ _ | with_reducible refine Ext.onto ?_ _ | (with_reducible refine Ext.setCells ?_ ?_ _ _; rotate_left; focus (first | omega | (simp; done) | (simp; omega))) | (with_reducible refine Ext.setCell ?_ ?_ _; rotate_left; focus (first | omega | (simp; done) | (simp; omega)))))), (by (repeat (first | with_reducible exact RowAt.new _ _ _ | with_reducible refine RowAt.drew ?_ | with_reducible refine RowAt.later ?_ _ | with_reducible exact RowAt.newAt (by first | rfl | omega | (simp [later_size, setCells_size]; done) | (simp [later_size, setCells_size]; omega)) | with_reducible refine RowAt.alloc ?_ _ | with_reducible apply RowAt.store | with_reducible refine RowAt.others ?_ ?_ _ _ | with_reducible refine RowAt.other ?_ ?_ _)); all_goals first | omega | (simp; done) | (simp; omega) | (simp [go_sem]; done))⟩ ?_
    rintro W1 ⟨x1, r1⟩
    have HX1 := Lib.hid x1
    have HR1 := Lib.hid r1
    clear x1 r1
    cases more with
    | true =>
      go_wp2_with (first
        | (go_at_call 182; refine (splitSeq_any rs 47 _).mono ?_; rintro e w' ⟨rfl, rfl⟩)
        | (go_at_call 184; refine (show Hid _ from ?_).out))
      refine Lib.hid ?_
      have hxz : Ext W1 (((W1.alloc (.cells #[.string rs] 9)).alloc (.cells #[.string ⟨#[47]⟩] 9)).alloc (.cells #[.int .i64 0] 3)) := (((Ext.refl _).alloc _).alloc _).alloc _
      have z1 : Boxed (((W1.alloc (.cells #[.string rs] 9)).alloc (.cells #[.string ⟨#[47]⟩] 9)).alloc (.cells #[.int .i64 0] 3)) W1.heap.size 9 (.string rs) := ((Boxed.new W1 9 _).alloc _).alloc _
      have z2 : Boxed (((W1.alloc (.cells #[.string rs] 9)).alloc (.cells #[.string ⟨#[47]⟩] 9)).alloc (.cells #[.int .i64 0] 3)) (W1.heap.size + 1) 9 (.string ⟨#[47]⟩) := by
        have := Boxed.new (W1.alloc (.cells #[.string rs] 9)) 9 (.string ⟨#[47]⟩); rw [World.size_alloc] at this; exact this.alloc _
      have z3 : Boxed (((W1.alloc (.cells #[.string rs] 9)).alloc (.cells #[.string ⟨#[47]⟩] 9)).alloc (.cells #[.int .i64 0] 3)) (W1.heap.size + 1 + 1) 3 (.int .i64 0) := by
        have := Boxed.new ((W1.alloc (.cells #[.string rs] 9)).alloc (.cells #[.string ⟨#[47]⟩] 9)) 3 (.int .i64 0); rw [World.size_alloc, World.size_alloc] at this; exact this
      refine (resolve_seq 47 W1.heap.size (W1.heap.size + 1) (W1.heap.size + 1 + 1) rs _ (by omega) (by have := Ad.pieces_len 47 (bsT rs); rw [bsT_size] at this; omega) z2 z1 z3 ⟨by omega, by omega⟩).mono ?_
      rintro e w5 ⟨hR0, hB5⟩
      have hR5 := (RslIs.uni hR0).lower (b2 := w.heap.size + 1) (by have := HR1.out.lt; simp; omega)
      have hp9 : pth = Ad.resAll (Ad.pieces 47 (bsT rs)) := HPt.out.trans (if_pos trivial)
      rw [← hp9] at hR5
      have hx5 : Ext W1 w5 := ((ButS.of_ext hxz).trans (S := fun k => k = W1.heap.size) (hB5)).toExt (fun k hk => by omega)
      clear hB5 hR0 z1 z2 z3 hxz hp9 HPt
      have HX5 : Hid (Ext w w5) := Lib.hid (HX1.out.trans hx5)
      obtain ⟨Ap, cp, lp, one, he5, hone, hlp, hop⟩ := hR5
      subst he5
      have HOl := Lib.hid hop
      have HR5 := Lib.hid (HR1.out.ext hx5)
      have HOne := Lib.hid hone
      have HLp := Lib.hid hlp
      clear hx5 hone hlp hop
      go_wp2_with (go_at_call 185; refine (show Hid _ from ?_).out)
      refine Lib.hid ?_
      refine (HPq.out _ HX5.out).mono ?_
      rintro e w7 ⟨⟨A2, c2, qs, two, rfl, htwo, hqs, hoq⟩, hx7⟩
      have HX7 : Hid (Ext w w7) := Lib.hid (HX5.out.trans hx7)
      have HAt : Hid (AdrAt (w.heap.size + 1) ⟨bsT cu, pth.getD [], qry.getD []⟩ (.agg #[.string cu, .slice Ap lp.length cp, .slice A2 qs.length c2]) w7) := Lib.hid ⟨cu, Ap, cp, lp, A2, c2, qs, rfl, by rw [HLp.out, hqs], HOl.out.ext hx7, hoq.lower HR5.out.lt⟩
      have HR7 := Lib.hid (HR5.out.ext hx7)
      have hl1 : (pth.getD []).length = lp.length := by rw [← HLp.out]; simp
      have hl2 : (qry.getD []).length = qs.length := by rw [← hqs]; simp
      rw [← HOne.out, ← htwo, hl1, hl2] at HE
      have HN := Lib.hid (fun W => name_any cu W)
      have HNe : Hid (Tg.nameB (bsT cu) = Tg.nameB cu.data.toList) := Lib.hid rfl
      rw [HNe.out] at HE
      have rm7 : roomOf w7 w.heap.size 0 3 = true := by rw [HR7.out.room]; rfl
      have hlt7 := HR7.out.lt
      clear hx7 hqs hoq hl1 hl2 htwo HOne HLp HOl HPq HX5 HR5 HX1 HR1
      generalize Tg.nameB cu.data.toList = nm at *
      cases nm with
      | false =>
        have h3 : PE = 3 := by rw [HE.out, if_neg (by simp)]
        have hA : PA = Ad.noAdr := by rw [HA.out, h3]; rfl
        subst h3 hA
        clear HE HA
        go_wp2_with (go_at_call 155; refine (HN.out _).mono ?_; rintro e w' ⟨rfl, hxl⟩; obtain ⟨xl, rfl⟩ := hxl.asLater; clear hxl)
        exact post_two (v1 := .agg #[.string ⟨#[]⟩, .slice none 0 0, .slice none 0 0]) (v2 := .int .i64 3) Tryz.results143 rfl ⟨_, rfl, adr_loaded ((RowAt.store (HR7.out.later xl) rfl).all rfl (by omega))⟩ rfl ⟨_, rfl, adr_none _ _, Ext.setCells (HX7.out.onto _) (by omega) _ _⟩
      | true =>
        cases one with
        | false =>
          have h3 : PE = 3 := by rw [HE.out, if_neg (by simp)]
          have hA : PA = Ad.noAdr := by rw [HA.out, h3]; rfl
          subst h3 hA
          clear HE HA
          go_wp2_with (go_at_call 155; refine (HN.out _).mono ?_; rintro e w' ⟨rfl, hxl⟩; obtain ⟨xl, rfl⟩ := hxl.asLater; clear hxl)
          exact post_two (v1 := .agg #[.string ⟨#[]⟩, .slice none 0 0, .slice none 0 0]) (v2 := .int .i64 3) Tryz.results143 rfl ⟨_, rfl, adr_loaded ((RowAt.store (HR7.out.later xl) rfl).all rfl (by omega))⟩ rfl ⟨_, rfl, adr_none _ _, Ext.setCells (HX7.out.onto _) (by omega) _ _⟩
        | true =>
          cases two with
          | false =>
            have h3 : PE = 3 := by rw [HE.out, if_neg (by simp)]
            have hA : PA = Ad.noAdr := by rw [HA.out, h3]; rfl
            subst h3 hA
            clear HE HA
            go_wp2_with (go_at_call 155; refine (HN.out _).mono ?_; rintro e w' ⟨rfl, hxl⟩; obtain ⟨xl, rfl⟩ := hxl.asLater; clear hxl)
            exact post_two (v1 := .agg #[.string ⟨#[]⟩, .slice none 0 0, .slice none 0 0]) (v2 := .int .i64 3) Tryz.results143 rfl ⟨_, rfl, adr_loaded ((RowAt.store (HR7.out.later xl) rfl).all rfl (by omega))⟩ rfl ⟨_, rfl, adr_none _ _, Ext.setCells (HX7.out.onto _) (by omega) _ _⟩
          | true =>
            by_cases l1 : 32 < lp.length
            · have h3 : PE = 2 := by rw [HE.out, if_pos (by simp), if_pos (.inl l1)]
              have hA : PA = Ad.noAdr := by rw [HA.out, h3]; rfl
              subst h3 hA
              have d1 : decide ((32 : Int) < (lp.length : Int)) = true := by simp; omega
              clear HE HA
              go_wp2_with (go_at_call 155; refine (HN.out _).mono ?_; rintro e w' ⟨rfl, hxl⟩; obtain ⟨xl, rfl⟩ := hxl.asLater; clear hxl)
              exact post_two (v1 := .agg #[.string ⟨#[]⟩, .slice none 0 0, .slice none 0 0]) (v2 := .int .i64 2) Tryz.results143 rfl ⟨_, rfl, adr_loaded ((RowAt.store (HR7.out.later xl) rfl).all rfl (by omega))⟩ rfl ⟨_, rfl, adr_none _ _, Ext.setCells (HX7.out.onto _) (by omega) _ _⟩
            · have d1 : decide ((32 : Int) < (lp.length : Int)) = false := by simp; omega
              by_cases l2 : 16 < qs.length
              · have h3 : PE = 2 := by rw [HE.out, if_pos (by simp), if_pos (.inr l2)]
                have hA : PA = Ad.noAdr := by rw [HA.out, h3]; rfl
                subst h3 hA
                have d2 : decide ((16 : Int) < (qs.length : Int)) = true := by simp; omega
                clear HE HA
                go_wp2_with (go_at_call 155; refine (HN.out _).mono ?_; rintro e w' ⟨rfl, hxl⟩; obtain ⟨xl, rfl⟩ := hxl.asLater; clear hxl)
                exact post_two (v1 := .agg #[.string ⟨#[]⟩, .slice none 0 0, .slice none 0 0]) (v2 := .int .i64 2) Tryz.results143 rfl ⟨_, rfl, adr_loaded ((RowAt.store (HR7.out.later xl) rfl).all rfl (by omega))⟩ rfl ⟨_, rfl, adr_none _ _, Ext.setCells (HX7.out.onto _) (by omega) _ _⟩
              · have h3 : PE = 0 := by rw [HE.out, if_pos (by simp), if_neg (by omega)]
                have hA : PA = ⟨bsT cu, pth.getD [], qry.getD []⟩ := by rw [HA.out, h3]; rfl
                subst h3 hA
                have d2 : decide ((16 : Int) < (qs.length : Int)) = false := by simp; omega
                clear HE HA
                go_wp2_with (go_at_call 155; refine (HN.out _).mono ?_; rintro e w' ⟨rfl, hxl⟩; obtain ⟨xl, rfl⟩ := hxl.asLater; clear hxl)
                refine post_two (v1 := .agg #[.string cu, .slice Ap lp.length cp, .slice A2 qs.length c2]) (v2 := .int .i64 0) Tryz.results143 rfl ⟨_, rfl, adr_loaded ((RowAt.store (ds := #[.string cu, .slice Ap lp.length cp, .slice A2 qs.length c2]) (HR7.out.later xl) rfl).all rfl (by omega))⟩ rfl ⟨_, rfl, ?_, ?_⟩
                · exact ((HAt.out.ext (ext_later _ _)).others (by omega) _ _).lower (by omega)
                · exact Ext.setCells (HX7.out.onto _) (by omega) _ _
    | false =>
      go_wp2_with (first
        | (go_at_call 182; refine (splitSeq_any rs 47 _).mono ?_; rintro e w' ⟨rfl, rfl⟩)
        | (go_at_call 184; refine (show Hid _ from ?_).out))
      refine Lib.hid ?_
      refine (resolve_none _).mono ?_
      rintro e w5 ⟨he0, hx0⟩
      have hx5 : Ext W1 w5 := Ext.trans ((((Ext.refl W1).alloc _).alloc _).alloc _) hx0
      have hp9 : pth = some [] := HPt.out.trans (if_neg (by decide))
      have hR5 : RslU pth (w.heap.size + 1) e w5 := ⟨none, 0, [], true, he0, by rw [hp9]; rfl, by rw [hp9]; rfl, Owns.nil _ _ _ _ _⟩
      clear hx0 he0 hp9 HPt
      have HX5 : Hid (Ext w w5) := Lib.hid (HX1.out.trans hx5)
      obtain ⟨Ap, cp, lp, one, he5, hone, hlp, hop⟩ := hR5
      subst he5
      have HOl := Lib.hid hop
      have HR5 := Lib.hid (HR1.out.ext hx5)
      have HOne := Lib.hid hone
      have HLp := Lib.hid hlp
      clear hx5 hone hlp hop
      go_wp2_with (go_at_call 185; refine (show Hid _ from ?_).out)
      refine Lib.hid ?_
      refine (HPq.out _ HX5.out).mono ?_
      rintro e w7 ⟨⟨A2, c2, qs, two, rfl, htwo, hqs, hoq⟩, hx7⟩
      have HX7 : Hid (Ext w w7) := Lib.hid (HX5.out.trans hx7)
      have HAt : Hid (AdrAt (w.heap.size + 1) ⟨bsT cu, pth.getD [], qry.getD []⟩ (.agg #[.string cu, .slice Ap lp.length cp, .slice A2 qs.length c2]) w7) := Lib.hid ⟨cu, Ap, cp, lp, A2, c2, qs, rfl, by rw [HLp.out, hqs], HOl.out.ext hx7, hoq.lower HR5.out.lt⟩
      have HR7 := Lib.hid (HR5.out.ext hx7)
      have hl1 : (pth.getD []).length = lp.length := by rw [← HLp.out]; simp
      have hl2 : (qry.getD []).length = qs.length := by rw [← hqs]; simp
      rw [← HOne.out, ← htwo, hl1, hl2] at HE
      have HN := Lib.hid (fun W => name_any cu W)
      have HNe : Hid (Tg.nameB (bsT cu) = Tg.nameB cu.data.toList) := Lib.hid rfl
      rw [HNe.out] at HE
      have rm7 : roomOf w7 w.heap.size 0 3 = true := by rw [HR7.out.room]; rfl
      have hlt7 := HR7.out.lt
      clear hx7 hqs hoq hl1 hl2 htwo HOne HLp HOl HPq HX5 HR5 HX1 HR1
      generalize Tg.nameB cu.data.toList = nm at *
      cases nm with
      | false =>
        have h3 : PE = 3 := by rw [HE.out, if_neg (by simp)]
        have hA : PA = Ad.noAdr := by rw [HA.out, h3]; rfl
        subst h3 hA
        clear HE HA
        go_wp2_with (go_at_call 155; refine (HN.out _).mono ?_; rintro e w' ⟨rfl, hxl⟩; obtain ⟨xl, rfl⟩ := hxl.asLater; clear hxl)
        exact post_two (v1 := .agg #[.string ⟨#[]⟩, .slice none 0 0, .slice none 0 0]) (v2 := .int .i64 3) Tryz.results143 rfl ⟨_, rfl, adr_loaded ((RowAt.store (HR7.out.later xl) rfl).all rfl (by omega))⟩ rfl ⟨_, rfl, adr_none _ _, Ext.setCells (HX7.out.onto _) (by omega) _ _⟩
      | true =>
        cases one with
        | false =>
          have h3 : PE = 3 := by rw [HE.out, if_neg (by simp)]
          have hA : PA = Ad.noAdr := by rw [HA.out, h3]; rfl
          subst h3 hA
          clear HE HA
          go_wp2_with (go_at_call 155; refine (HN.out _).mono ?_; rintro e w' ⟨rfl, hxl⟩; obtain ⟨xl, rfl⟩ := hxl.asLater; clear hxl)
          exact post_two (v1 := .agg #[.string ⟨#[]⟩, .slice none 0 0, .slice none 0 0]) (v2 := .int .i64 3) Tryz.results143 rfl ⟨_, rfl, adr_loaded ((RowAt.store (HR7.out.later xl) rfl).all rfl (by omega))⟩ rfl ⟨_, rfl, adr_none _ _, Ext.setCells (HX7.out.onto _) (by omega) _ _⟩
        | true =>
          cases two with
          | false =>
            have h3 : PE = 3 := by rw [HE.out, if_neg (by simp)]
            have hA : PA = Ad.noAdr := by rw [HA.out, h3]; rfl
            subst h3 hA
            clear HE HA
            go_wp2_with (go_at_call 155; refine (HN.out _).mono ?_; rintro e w' ⟨rfl, hxl⟩; obtain ⟨xl, rfl⟩ := hxl.asLater; clear hxl)
            exact post_two (v1 := .agg #[.string ⟨#[]⟩, .slice none 0 0, .slice none 0 0]) (v2 := .int .i64 3) Tryz.results143 rfl ⟨_, rfl, adr_loaded ((RowAt.store (HR7.out.later xl) rfl).all rfl (by omega))⟩ rfl ⟨_, rfl, adr_none _ _, Ext.setCells (HX7.out.onto _) (by omega) _ _⟩
          | true =>
            by_cases l1 : 32 < lp.length
            · have h3 : PE = 2 := by rw [HE.out, if_pos (by simp), if_pos (.inl l1)]
              have hA : PA = Ad.noAdr := by rw [HA.out, h3]; rfl
              subst h3 hA
              have d1 : decide ((32 : Int) < (lp.length : Int)) = true := by simp; omega
              clear HE HA
              go_wp2_with (go_at_call 155; refine (HN.out _).mono ?_; rintro e w' ⟨rfl, hxl⟩; obtain ⟨xl, rfl⟩ := hxl.asLater; clear hxl)
              exact post_two (v1 := .agg #[.string ⟨#[]⟩, .slice none 0 0, .slice none 0 0]) (v2 := .int .i64 2) Tryz.results143 rfl ⟨_, rfl, adr_loaded ((RowAt.store (HR7.out.later xl) rfl).all rfl (by omega))⟩ rfl ⟨_, rfl, adr_none _ _, Ext.setCells (HX7.out.onto _) (by omega) _ _⟩
            · have d1 : decide ((32 : Int) < (lp.length : Int)) = false := by simp; omega
              by_cases l2 : 16 < qs.length
              · have h3 : PE = 2 := by rw [HE.out, if_pos (by simp), if_pos (.inr l2)]
                have hA : PA = Ad.noAdr := by rw [HA.out, h3]; rfl
                subst h3 hA
                have d2 : decide ((16 : Int) < (qs.length : Int)) = true := by simp; omega
                clear HE HA
                go_wp2_with (go_at_call 155; refine (HN.out _).mono ?_; rintro e w' ⟨rfl, hxl⟩; obtain ⟨xl, rfl⟩ := hxl.asLater; clear hxl)
                exact post_two (v1 := .agg #[.string ⟨#[]⟩, .slice none 0 0, .slice none 0 0]) (v2 := .int .i64 2) Tryz.results143 rfl ⟨_, rfl, adr_loaded ((RowAt.store (HR7.out.later xl) rfl).all rfl (by omega))⟩ rfl ⟨_, rfl, adr_none _ _, Ext.setCells (HX7.out.onto _) (by omega) _ _⟩
              · have h3 : PE = 0 := by rw [HE.out, if_pos (by simp), if_neg (by omega)]
                have hA : PA = ⟨bsT cu, pth.getD [], qry.getD []⟩ := by rw [HA.out, h3]; rfl
                subst h3 hA
                have d2 : decide ((16 : Int) < (qs.length : Int)) = false := by simp; omega
                clear HE HA
                go_wp2_with (go_at_call 155; refine (HN.out _).mono ?_; rintro e w' ⟨rfl, hxl⟩; obtain ⟨xl, rfl⟩ := hxl.asLater; clear hxl)
                refine post_two (v1 := .agg #[.string cu, .slice Ap lp.length cp, .slice A2 qs.length c2]) (v2 := .int .i64 0) Tryz.results143 rfl ⟨_, rfl, adr_loaded ((RowAt.store (ds := #[.string cu, .slice Ap lp.length cp, .slice A2 qs.length c2]) (HR7.out.later xl) rfl).all rfl (by omega))⟩ rfl ⟨_, rfl, ?_, ?_⟩
                · exact ((HAt.out.ext (ext_later _ _)).others (by omega) _ _).lower (by omega)
                · exact Ext.setCells (HX7.out.onto _) (by omega) _ _
end Go.Proofs.YtpjacgcaibaggaaGreatDoor


set_option linter.unusedVariables false
set_option linter.unusedSimpArgs false
namespace Go.Proofs.YtpjacgcaibaggaaGreatDoor
open Go.RowKit Go.Shelf
open Go.Proofs

theorem adr_sub0 : rowSub #[.string ByteArray.empty, .slice none 0 0, .slice none 0 0] 0 3 = some #[.string ByteArray.empty, .slice none 0 0, .slice none 0 0] := rowSub_all _ _ rfl
attribute [local go_sem] adr_fits adr_sub0
set_option maxRecDepth 100000 in
set_option maxHeartbeats 2000000 in
theorem canon_any (s : ByteArray) (w : World) (hs : s.size ≤ 900000) (hp : ∀ (q : ByteArray) W, bsT q = (Ad.headN (bsT s)).2.1 → q.size ≤ 4096 → Ext w W → Calls Tryz.prog 185 #[.string q] W fun e w' => PrsU (Ad.quN (bsT q)) W.heap.size e w' ∧ Ext W w') :
    Calls Tryz.prog 112 #[.string s] w fun e w' => e = .returned (.tuple #[.string ⟨(Ad.canonT (bsT s)).toArray⟩, .int .i64 (Ad.canonE (bsT s))]) ∧ Ext w w' := by
  have HP := Lib.hid (parse_any s w hs hp)
  clear hp
  have HE : Hid (Ad.canonE (bsT s) = if Ad.parseE (bsT s) = 0 then txE (Ad.parseA (bsT s)) else Ad.parseE (bsT s)) := Lib.hid rfl
  have HT : Hid (Ad.parseE (bsT s) = 0 → Ad.canonT (bsT s) = txS (Ad.parseA (bsT s))) := Lib.hid (fun h => by unfold Ad.canonT txS; rw [HE.out, if_pos h])
  have HT2 : Hid (Ad.canonE (bsT s) ≠ 0 → Ad.canonT (bsT s) = []) := Lib.hid (fun h => if_neg h)
  have HG := Lib.hid (fun h => Ad.parseA_good (s := bsT s) h)
  generalize Ad.canonT (bsT s) = CT at *
  generalize Ad.canonE (bsT s) = CE at *
  generalize Ad.parseA (bsT s) = PA at *
  generalize Ad.parseE (bsT s) = PE at *
  go_enter Tryz.func112, Tryz.ntmps112
  go_wp2_with (go_at_call 143; refine (show Hid _ from ?_).out)
  refine Lib.hid ?_
  refine HP.out.mono ?_
  rintro e w1 ⟨v, rfl, ⟨cu, A, c, ls, A2, c2, qs, rfl, rfl, ho1, ho2⟩, hx1⟩
  have HO1 := Lib.hid (ho1.reads sE)
  have HO2 := Lib.hid (ho2.reads prE)
  have HX1 := Lib.hid hx1
  have hsz1 := hx1.size
  clear ho1 ho2 hx1 HP
  by_cases h0 : PE = 0
  · subst h0
    have hCE : CE = txE ⟨bsT cu, ls.map bsT, qs.map prB⟩ := by rw [HE.out]; rfl
    have hCT : CT = txS ⟨bsT cu, ls.map bsT, qs.map prB⟩ := HT.out rfl
    obtain ⟨g1, g2, g3, g4, g5, g6⟩ := HG.out rfl
    have HTx := Lib.hid (fun (W : World) (hx : Ext w1 W) => text_any cu A c ls A2 c2 qs W g1 (fun x hx => g4 _ (List.mem_map_of_mem hx)) (fun p hp => g6 _ (List.mem_map_of_mem hp)) g5 (by simpa using g2) (by simpa using g3) (HO1.out.on hx) (HO2.out.on hx))
    rw [← hCE, ← hCT] at HTx
    clear HE HT HT2 HG g1 g2 g3 g4 g5 g6 HO1 HO2 hCE hCT
    go_wp2_with (go_at_call 144; refine (HTx.out _ (by (repeat (first | with_reducible exact Ext.refl _ | with_reducible exact Ext.refl _ | with_reducible refine Ext.drew ?_ | with_reducible refine Ext.drewN ?_ _ | with_reducible refine Ext.alloc ?_ _ | with_reducible refine Ext.onto ?_ _ | (with_reducible refine Ext.setCells ?_ ?_ _ _; rotate_left; focus (first | omega | (simp; done) | (simp; omega))) | (with_reducible refine Ext.setCell ?_ ?_ _; rotate_left; focus (first | omega | (simp; done) | (simp; omega))))))).mono ?_; rintro e w' ⟨rfl, hxl⟩; obtain ⟨xl, rfl⟩ := hxl.asLater; clear hxl)
    refine bodyPost_ret (v := .tuple #[.string ⟨CT.toArray⟩, .int .i64 CE]) ?_ rfl ⟨rfl, (by (repeat (first | with_reducible exact HX1.out | with_reducible exact Ext.refl _ | with_reducible refine Ext.drew ?_ | with_reducible refine Ext.drewN ?_ _ | with_reducible refine Ext.alloc ?_ _ | with_reducible refine Ext.onto ?_ _ | (with_reducible refine Ext.setCells ?_ ?_ _ _; rotate_left; focus (first | omega | (simp; done) | (simp; omega))) | (with_reducible refine Ext.setCell ?_ ?_ _; rotate_left; focus (first | omega | (simp; done) | (simp; omega))))))⟩
    simp [results, Tryz.results112, go_sem, ↓IntWalk.iteOmega]
  · have hCE : CE = PE := by rw [HE.out, if_neg h0]
    subst hCE
    have hCT := HT2.out h0
    subst hCT
    have d0 : (CE != 0) = true := by simpa using h0
    clear HE HT HT2 HG HO1 HO2
    go_wp2
    refine bodyPost_ret (v := .tuple #[.string ⟨([] : List UInt8).toArray⟩, .int .i64 CE]) ?_ rfl ⟨rfl, (by (repeat (first | with_reducible exact HX1.out | with_reducible exact Ext.refl _ | with_reducible refine Ext.drew ?_ | with_reducible refine Ext.drewN ?_ _ | with_reducible refine Ext.alloc ?_ _ | with_reducible refine Ext.onto ?_ _ | (with_reducible refine Ext.setCells ?_ ?_ _ _; rotate_left; focus (first | omega | (simp; done) | (simp; omega))) | (with_reducible refine Ext.setCell ?_ ?_ _; rotate_left; focus (first | omega | (simp; done) | (simp; omega))))))⟩
    simp [results, Tryz.results112, go_sem, ↓IntWalk.iteOmega]
theorem canon_plain (s : ByteArray) (w : World) (hs : s.size ≤ 900000) (h : (Ad.headN (bsT s)).2.1 = []) :
    Calls Tryz.prog 112 #[.string s] w fun e w' => e = .returned (.tuple #[.string ⟨(Ad.canonT (bsT s)).toArray⟩, .int .i64 (Ad.canonE (bsT s))]) ∧ Ext w w' :=
  canon_any s w hs (fun q W hq _ _ => pairs_none q W (hq.trans h))
theorem canon_acme (w : World) :
    Calls Tryz.prog 112 #[.string ⟨#[97, 99, 109, 101, 47, 97]⟩] w fun e w' => e = .returned (.tuple #[.string ⟨#[97, 99, 109, 101, 47, 97]⟩, .int .i64 0]) ∧ Ext w w' := by
  have h := canon_plain ⟨#[97, 99, 109, 101, 47, 97]⟩ w (by decide) (by decide)
  rw [show bsT ⟨#[97, 99, 109, 101, 47, 97]⟩ = [97, 99, 109, 101, 47, 97] from rfl, Ad.acme.1, Ad.acme.2] at h
  exact h
end Go.Proofs.YtpjacgcaibaggaaGreatDoor
