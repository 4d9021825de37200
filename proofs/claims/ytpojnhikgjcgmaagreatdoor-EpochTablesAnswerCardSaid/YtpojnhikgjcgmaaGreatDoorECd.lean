/- address.resolve over the pieces of a text. -/
import Derived.WalkKit
import Derived.WalkSpells
import Derived.WalkLawsBesides
import Derived.Deep.QuietTactic
import Derived.BigQuiet
import Derived.RangeFuncNested
import Derived.RangeFuncBound
import Derived.RangeFuncCalls
import Derived.RangeFuncLeaves
import Derived.Shelf.Abstract
import Derived.Shelf.RegionOpen
import Derived.OwnWalkIn
import Derived.TacticsInMore
import Derived.LoopNIn
import Derived.LoopIn
import Derived.Test.YtpojnhikgjcgmaaGreatDoorEVw
set_option maxRecDepth 100000
set_option maxHeartbeats 64000000
set_option linter.unusedVariables false
set_option linter.unusedSimpArgs false
namespace Go.Proofs.YtpojnhikgjcgmaaGreatDoor
open Go.RowKit Go.Shelf
open Go.Proofs
def CutIs (c : UInt8) (s : ByteArray) (e : Ending) : Prop := ∃ (a b : ByteArray) (f : Bool), e = .returned (.tuple #[.string a, .string b, .bool f]) ∧ (bsT a, bsT b, f) = Ad.cutB c (bsT s) ∧ a.size ≤ s.size ∧ b.size ≤ s.size
theorem bsT_take (s : ByteArray) (i : Nat) : bsT (s.extract 0 i) = (bsT s).take i := by rw [bsT_ext]; simp
theorem bsT_rest (s : ByteArray) (i : Nat) : bsT (s.extract i s.size) = (bsT s).drop i := by
 rw [bsT_ext, List.take_of_length_le]
 rw [List.length_drop, bsT_size]
 exact Nat.le_refl _
theorem cut_is_miss {c : UInt8} {s : ByteArray} (h : Ad.cutB c (bsT s) = (bsT s, [], false)) : CutIs c s (.returned (.tuple #[.string s, .string ⟨#[]⟩, .bool false])) := ⟨s, _, _, rfl, by rw [h]; rfl, Nat.le_refl _, Nat.zero_le _⟩
theorem cut_is_hit {c : UInt8} {s : ByteArray} {i : Nat} (h : Ad.cutB c (bsT s) = ((bsT s).take i, (bsT s).drop (i + 1), true)) : CutIs c s (.returned (.tuple #[.string (s.extract 0 i), .string (s.extract (i + 1) s.size), .bool true])) :=
 ⟨_, _, _, rfl, by rw [h, bsT_take, bsT_rest], by rw [ByteArray.size_extract]; omega, by rw [ByteArray.size_extract]; omega⟩
theorem size_one (c : UInt8) : (⟨#[c]⟩ : ByteArray).size = 1 := rfl
attribute [local go_sem] size_one
theorem lcut_any (s : ByteArray) (c : UInt8) (w : World) (hs : s.size ≤ 900000) :
  Calls Tryz.prog 124 #[.string s, .string ⟨#[c]⟩] w fun e w' => CutIs c s e ∧ Ext w w' := by
 have HI : Hid (∀ W, Calls Tryz.prog 168 #[.string s, .string ⟨#[c]⟩] W fun e w' => e = .returned (.int .i64 (Lib.indexByte s.data.toList c)) ∧ w' = W) := lh (fun W => Any.stringslite_Index_one { Tryz.index with } s c W)
 rcases Ad.cutB_index c (bsT s) with ⟨h1, h2, _⟩ | ⟨i, h1, h2, h3, _, _⟩
 ·have HX : Hid (Lib.indexByte s.data.toList c = -1) := lh h1
  have HC := lh (cut_is_miss h2)
  clear h1 h2
  go_enter Tryz.func124, Tryz.ntmps124
  go_wp2_with (go_at_call 168; refine (HI.out _).mono ?_; rintro e w' ⟨rfl, rfl⟩; rw [HX.out])
  refine bodyPost_ret (v := .tuple #[.string s, .string ⟨#[]⟩, .bool false]) ?_ rfl ⟨HC.out, (by (with_reducible repeat first|exact eR _|apply eD|apply eN|apply eA|apply eO|apply eS|apply eC);all_goals first|omega|simp <;> omega)⟩
  simp [results, Tryz.results124, go_sem, ↓IntWalk.iteOmega]
 ·have HX : Hid (Lib.indexByte s.data.toList c = (i : Int)) := lh h1
  have HC := lh (cut_is_hit h3)
  rw [bsT_size] at h2
  clear h1 h3
  go_enter Tryz.func124, Tryz.ntmps124
  go_wp2_with (go_at_call 168; refine (HI.out _).mono ?_; rintro e w' ⟨rfl, rfl⟩; rw [HX.out])
  refine wp_region_later (by kernel_rfl) (by kernel_rfl) ?_
  repeat (first | go_big_quiet_step (fail) | quiet_step (fail))
  refine wpQuiet_nil ?_
  rintro _ ⟨xq, rfl⟩
  go_wp2
  refine bodyPost_ret (v := .tuple #[.string (s.extract 0 i), .string (s.extract (i + 1) s.size), .bool true]) ?_ rfl ⟨HC.out, (by (with_reducible repeat first|exact eR _|apply eD|apply eN|apply eA|apply eO|apply eS|apply eC);all_goals first|omega|simp <;> omega)⟩
  simp [results, Tryz.results124, go_sem, ↓IntWalk.iteOmega]
theorem scut_any (s : ByteArray) (c : UInt8) (w : World) (hs : s.size ≤ 900000) :
  Calls Tryz.prog 66 #[.string s, .string ⟨#[c]⟩] w fun e w' => CutIs c s e ∧ Ext w w' := by
 have H := lh (lcut_any s c w hs)
 go_enter Tryz.func66, Tryz.ntmps66
 go_wp2_with (go_at_call 124; refine H.out.mono ?_; rintro e w' ⟨⟨a, b, f, rfl, h1, h2, h3⟩, hxl⟩; have HC := lh h1; clear h1; obtain ⟨xl, rfl⟩ := hxl.asLater; clear hxl)
 refine bodyPost_ret (v := .tuple #[.string a, .string b, .bool f]) ?_ rfl ⟨⟨a, b, f, rfl, HC.out, h2, h3⟩, (by (with_reducible repeat first|exact eR _|apply eD|apply eN|apply eA|apply eO|apply eS|apply eC);all_goals first|omega|simp <;> omega)⟩
 simp [results, Tryz.results66, go_sem, ↓IntWalk.iteOmega]
end Go.Proofs.YtpojnhikgjcgmaaGreatDoor

namespace Go.Proofs.YtpojnhikgjcgmaaGreatDoor
open Go.RowKit Go.Shelf
open Go.Proofs
theorem splitSeq_any (s : ByteArray) (c : UInt8) (w : World) :
  Calls Tryz.prog 216 #[.string s, .string ⟨#[c]⟩] w fun e w' => e = .returned (.func (.func 289) #[] #[.pointer (some ⟨w.heap.size + 1, 0, none⟩), .pointer (some ⟨w.heap.size, 0, none⟩), .pointer (some ⟨w.heap.size + 1 + 1, 0, none⟩)]) ∧
   ((w.alloc (.cells #[.string s] 9)).alloc (.cells #[.string ⟨#[c]⟩] 9)).alloc (.cells #[.int .i64 0] 3) = w' := by
 have H : Hid (∀ W, Calls Tryz.prog 259 #[.string s, .string ⟨#[c]⟩, .int .i64 0] W fun e w' => e = .returned (.func (.func 289) #[] #[.pointer (some ⟨W.heap.size + 1, 0, none⟩), .pointer (some ⟨W.heap.size, 0, none⟩), .pointer (some ⟨W.heap.size + 1 + 1, 0, none⟩)]) ∧
   ((W.alloc (.cells #[.string s] 9)).alloc (.cells #[.string ⟨#[c]⟩] 9)).alloc (.cells #[.int .i64 0] 3) = w') := lh (fun W => by
  go_enter Tryz.func259, Tryz.ntmps259
  go_wp2
  go_ret
  exact ⟨rfl, rfl⟩)
 go_enter Tryz.func216, Tryz.ntmps216
 go_wp2_with (go_at_call 259; refine (H.out _).mono ?_; rintro e w' ⟨rfl, rfl⟩)
 go_ret
 exact ⟨rfl, rfl⟩
def Yields2 (e : Ending) (J St : Prop) : Prop := (e = .returned (.bool true) ∧ J) ∨ (e = .returned (.bool false) ∧ St)
theorem Yields2.cases {e : Ending} {J St : Prop} (h : Yields2 e J St) : ∃ b, e = .returned (.bool b) ∧ (if b = true then J else St) := by
 rcases h with ⟨rfl, h⟩ | ⟨rfl, h⟩
 ·exact ⟨true, rfl, h⟩
 ·exact ⟨false, rfl, h⟩
section
attribute [local go_sem] Oper.semAt_some size_one
theorem splitseq1_in (c : UInt8) (n : Nat) (hn : 2 ≤ n) (l bs bsep bsv : Nat) (s : ByteArray) (W : World) (hs : s.size ≤ 900000)
  (hb1 : Boxed W bsep 9 (.string ⟨#[c]⟩)) (hb2 : Boxed W bs 9 (.string s)) (hb3 : Boxed W bsv 3 (.int .i64 0)) (hne : bsep ≠ bs ∧ bsv ≠ bs)
  (S : Nat → Prop) (hS : ¬ S bsep ∧ ¬ S bs ∧ ¬ S bsv) (J : Nat → World → Prop) (St : World → Prop) (h0 : J 0 W) (hJ : ∀ k W1 W2, J k W1 → ButS (· = bs) W1 W2 → J k W2)
  (hY : ∀ k (h : k < (Ad.pieces c (bsT s)).length) (x : ByteArray) W1, bsT x = (Ad.pieces c (bsT s))[k] → J k W1 → ButS (fun b => S b ∨ b = bs) W W1 →
   YieldAt Fence.wide (n - 1) Tryz.prog l #[.string x] W1 fun e W' => Yields2 e (J (k + 1) W') (St W') ∧ ButS S W1 W') :
  CallsIn Fence.wide n Tryz.prog 289 #[.func (.yield l) #[] #[], .pointer (some ⟨bsep, 0, none⟩), .pointer (some ⟨bs, 0, none⟩), .pointer (some ⟨bsv, 0, none⟩)] W fun e W' =>
   (∃ v, e = .returned v) ∧ (J (Ad.pieces c (bsT s)).length W' ∨ St W') ∧ ButS (fun b => S b ∨ b = bs) W W' := by
 refine callsIn_of_wp Tryz.func289 rfl trivial ?_ rfl
 simp only [Tryz.ntmps289, List.size_toArray, List.length_cons, List.length_nil, Nat.reduceAdd, Nat.reduceSub, Array.replicate_succ, Array.replicate_zero, List.push_toArray, List.append_toArray, List.nil_append, List.cons_append]
 have hn1 : 1 ≤ n := by omega
 have HI : Hid (∀ (r : ByteArray) W, Calls Tryz.prog 158 #[.string r, .string ⟨#[c]⟩] W fun e w' => e = .returned (.int .i64 (Lib.indexByte r.data.toList c)) ∧ w' = W) := lh (fun r W => Any.strings_Index_one Tryz.index r c W)
 have hc1 := hb1.cell
 have HY := lh hY
 have HJ := lh hJ
 have H0 := lh h0
 have HB1 := lh hb1
 have HB2 := lh hb2
 have HB3 := lh hb3
 have HSn := lh hS
 have HNe := lh hne
 clear hY hJ h0 hb1 hb2 hb3 hS hne
 gi_wp2
 gi_loopw [7] (fun _ wr => ∃ (k : Nat) (r : ByteArray), r.size ≤ s.size ∧ Hid (∃ done, done.length = k ∧ Ad.pieces c (bsT s) = done ++ Ad.pieces c (bsT r)) ∧ Hid (J k wr) ∧ Hid (Boxed wr bs 9 (.string r)) ∧ Hid (ButS (fun b => S b ∨ b = bs) W wr)) (fun _ wr => match wr.cell? ⟨bs, 0, none⟩ with | some (.string r) => r.size | _ => 0)
 case atStart => exact ⟨0, s, Nat.le_refl _, lh ⟨[], rfl, rfl⟩, H0, HB2, lh (ButS.refl _ _)⟩
 case round =>
  obtain ⟨k, r, hrs, HP, HJk, HBr, HB⟩ := hrel
  have hc2 := HBr.out.cell
  have hb1' : Boxed wr bsep 9 (.string ⟨#[c]⟩) := HB.out.boxed HB1.out (by have := HSn.out; have := HNe.out; rintro (h | h) <;> simp_all)
  have hb3' : Boxed wr bsv 3 (.int .i64 0) := HB.out.boxed HB3.out (by have := HSn.out; have := HNe.out; rintro (h | h) <;> simp_all)
  have hc1' := hb1'.cell
  have hc3' := hb3'.cell
  clear hb1' hb3'
  rcases Ad.cutB_index c (bsT r) with ⟨h1, _, h3⟩ | ⟨i, h1, h2, _, h4, h5⟩
  ·have HX : Hid (Lib.indexByte r.data.toList c = -1) := lh h1
   have hp : Ad.pieces c (bsT r) = [bsT r] := Ad.pieces_one h3
   have HL : Hid ((Ad.pieces c (bsT s)).length = k + 1) := lh (by obtain ⟨done, hd, he⟩ := HP.out; rw [he, hp, List.length_append, hd]; rfl)
   have HG : Hid (∀ h : k < (Ad.pieces c (bsT s)).length, bsT r = (Ad.pieces c (bsT s))[k]) := lh (by
    obtain ⟨done, hd, he⟩ := HP.out
    intro h
    simp only [he, hp]
    rw [List.getElem_append_right (by omega)]
    simp [hd])
   clear h1 h3 hp
   have hlt : k < (Ad.pieces c (bsT s)).length := by have := HL.out; omega
   have hY1 := HY.out k hlt r _ (HG.out hlt) HJk.out HB.out
   obtain ⟨fn, tmps, assign, body, hy, hR⟩ := hY1
   have HRR := lh hR
   clear hR hlt
   gi_wp2_with (refine ⟨trivial, ?_⟩; gi_at_call 158; refine (callsIn_wide.2 (HI.out _ _)).mono ?_; rintro e w' ⟨rfl, hw⟩; subst hw; rw [HX.out])
   refine HRR.out.mono ?_
   rintro e W' ⟨hj0, hb'⟩
   obtain ⟨b, rfl, hj⟩ := hj0.cases
   clear hj0
   have HF : Hid (J (Ad.pieces c (bsT s)).length W' ∨ St W') := lh (by
    rw [HL.out]
    cases b with
    | true => exact .inl hj
    | false => exact .inr hj)
   have HB2' := lh (HB.out.trans (hb'.mono (S' := fun b => S b ∨ b = bs) (fun _ _ h => .inl h)))
   clear hj hb' hy HRR
   gi_wp2
   go_end0
   exact ⟨⟨_, rfl⟩, HF.out, HB2'.out⟩
  ·have HX : Hid (Lib.indexByte r.data.toList c = (i : Int)) := lh h1
   rw [bsT_size] at h2
   have hp : Ad.pieces c (bsT r) = (bsT r).take i :: Ad.pieces c ((bsT r).drop (i + 1)) := Ad.pieces_hit h4 h5
   have hlt : k < (Ad.pieces c (bsT s)).length := by
    obtain ⟨done, hd, he⟩ := HP.out
    rw [he, List.length_append, hd, hp]
    simp
   have hg : bsT (r.extract 0 i) = (Ad.pieces c (bsT s))[k] := by
    obtain ⟨done, hd, he⟩ := HP.out
    simp only [he, hp]
    rw [List.getElem_append_right (by omega), bsT_take]
    simp [hd]
   have HPN : Hid (∃ done, done.length = k + 1 ∧ Ad.pieces c (bsT s) = done ++ Ad.pieces c (bsT (r.extract (i + 1) r.size))) := lh (by
    obtain ⟨done, hd, he⟩ := HP.out
    exact ⟨done ++ [(bsT r).take i], by simp [hd], by rw [he, hp, bsT_rest]; simp⟩)
   clear h1 h4 h5 hp
   have hY1 := HY.out k hlt (r.extract 0 i) _ hg HJk.out HB.out
   obtain ⟨fn, tmps, assign, body, hy, hR⟩ := hY1
   have HRR := lh hR
   clear hR hlt hg
   gi_wp2_with (refine ⟨trivial, ?_⟩; gi_at_call 158; refine (callsIn_wide.2 (HI.out _ _)).mono ?_; rintro e w' ⟨rfl, hw⟩; subst hw; rw [HX.out])
   refine HRR.out.mono ?_
   rintro e W' ⟨hj0, hb'⟩
   obtain ⟨b, rfl, hj⟩ := hj0.cases
   clear hj0
   have HB2' := lh (HB.out.trans (hb'.mono (S' := fun b => S b ∨ b = bs) (fun _ _ h => .inl h)))
   have hbr2 : Boxed W' bs 9 (.string r) := hb'.boxed HBr.out HSn.out.2.1
   have hb12 : Boxed W' bsep 9 (.string ⟨#[c]⟩) := HB2'.out.boxed HB1.out (by have := HSn.out; have := HNe.out; rintro (h | h) <;> simp_all)
   have e1 := hbr2.cell
   have e2 := hbr2.frozen
   have e3 := hb12.cell
   have HBr2 := lh hbr2
   cases b with
   | false =>
    have HSt : Hid (St W') := lh hj
    clear hj hb' hy HRR hbr2 hb12 HPN
    gi_wp2
    refine bodyPost_ret (v := .tuple #[]) ?_ rfl ⟨⟨_, rfl⟩, .inr HSt.out, HB2'.out⟩
    simp [results, Tryz.results289, go_sem, ↓IntWalk.iteOmega]
   | true =>
    have HJ2 : Hid (J (k + 1) W') := lh hj
    clear hj hb' hy HRR hbr2 hb12
    gi_wp2
    go_roundw
    case rel => exact ⟨k + 1, r.extract (i + 1) r.size, by rw [ByteArray.size_extract]; omega, HPN, lh (HJ.out _ _ _ HJ2.out (ButS.setCell (S := fun x => x = bs) (ButS.refl _ W') (p := ⟨bs, 0, none⟩) (.inl rfl) _)), lh (HBr2.out.set _), lh (HB2'.out.setCell (p := ⟨bs, 0, none⟩) (.inl (.inr rfl)) _)⟩
    case measure =>
     rw [hc2, set_cell_if, if_pos ⟨rfl, rfl⟩, e1]
     show (r.extract (i + 1) r.size).size < r.size
     rw [ByteArray.size_extract]
     omega
end
end Go.Proofs.YtpojnhikgjcgmaaGreatDoor

namespace Go.Proofs.YtpojnhikgjcgmaaGreatDoor
open Go.RowKit Go.Shelf
open Go.Proofs
def RslIs (o : Option (List (List UInt8))) (base : Nat) (e : Ending) (w' : World) : Prop :=
 match o with
 | none => e = .returned (.tuple #[.slice none 0 0, .bool false])
 | some out => ∃ (A : Option Addr) (c : Nat) (ls : List ByteArray), e = .returned (.tuple #[.slice A ls.length c, .bool true]) ∧ ls.map bsT = out ∧ OwnsStr base w' A c ls
theorem lit_walk (s : ByteArray) (l : List UInt8) : (s.toList == l) = decide (bsT s = l) := by
 rw [Lib.toList_data, Bool.eq_iff_iff, beq_iff_eq, decide_eq_true_iff]
 rfl
theorem Owns.shorter {α : Type} {e : TypeId} {size base : Nat} {enc : α → List Value} {w : World} {A : Option Addr} {c : Nat} {l : List α} (E : EncTy enc size) (h : Owns e size enc base w A c l) (h0 : 0 < l.length) : ∃ a, A = some a ∧ Owns e size enc base w A c l.dropLast := by
 rcases h.cases with ⟨_, _, rfl⟩ | ⟨g, cur, rfl, h2, h3, h4, h5, h6, h7⟩
 ·simp at h0
 ·refine ⟨_, rfl, Owns.mk E h2 h3 (by rw [List.length_dropLast]; omega) h5 h6 ?_⟩
  have e1 : l = l.dropLast ++ [l.getLast (by intro k; rw [k] at h0; simp at h0)] := (List.dropLast_concat_getLast _).symm
  have e2 : l.flatMap enc = l.dropLast.flatMap enc ++ enc (l.getLast (by intro k; rw [k] at h0; simp at h0)) := by
   conv => lhs; rw [e1]
   rw [List.flatMap_append]
   simp
  rw [e2] at h7
  have h8 := congrArg (List.take (l.dropLast.length * size)) h7
  rw [List.take_take, List.take_append_of_le_length (by rw [E.flat_len]; exact Nat.le_refl _)] at h8
  rw [Nat.min_eq_left (Nat.mul_le_mul_right _ (by rw [List.length_dropLast]; omega))] at h8
  rw [h8, List.take_of_length_le]
  rw [E.flat_len]
  exact Nat.le_refl _
theorem results_two {P : Program} {fn : Func} {tmps : Array Value} {w : World} {r1 r2 : ResultVar} {v1 v2 : Value} (h : fn.results = #[r1, r2]) (h1 : ResIs P w tmps v1 r1) (h2 : ResIs P w tmps v2 r2) : (results fn tmps).run P w = .ok (.tuple #[v1, v2]) w := by
 cases r1 with
 | tmp t1 =>
  simp only [ResIs] at h1
  cases r2 with
  | tmp t2 => simp only [ResIs] at h2; simp [results, h, h1, h2]
  | cell a2 ty2 =>
   obtain ⟨ad2, k3, k4⟩ := h2
   simp [results, h, h1, k3, asAddr, k4]
 | cell a1 ty1 =>
  obtain ⟨ad1, k1, k2⟩ := h1
  cases r2 with
  | tmp t2 => simp only [ResIs] at h2; simp [results, h, h2, k1, asAddr, k2]
  | cell a2 ty2 =>
   obtain ⟨ad2, k3, k4⟩ := h2
   simp [results, h, k1, k3, asAddr, k2, k4]
theorem load_strs {w : World} {b : Nat} {v : Value} (h : Boxed w b 97 v) : (loadVar 97 ⟨b, 0, none⟩).run Tryz.prog w = .ok v w := by
 have h1 := h.cell
 simp [loadVar, go_sem, h1]
theorem load_bool {w : World} {b : Nat} {v : Value} (h : Boxed w b 4 v) : (loadVar 4 ⟨b, 0, none⟩).run Tryz.prog w = .ok v w := by
 have h1 := h.cell
 simp [loadVar, go_sem, h1]
section
attribute [local go_sem] Oper.semAt_some
def ResJ (b4 b2 b3 rc base : Nat) (ps : List (List UInt8)) (rdy : Obj) (k : Nat) (W : World) : Prop :=
 ∃ (A : Option Addr) (c : Nat) (l : List ByteArray), Hid (Ad.resAll (ps.take k) = some (l.map bsT)) ∧ l.length ≤ k ∧ Boxed W b4 97 (.slice A l.length c) ∧ OwnsStr base W A c l ∧ Boxed W b2 97 (.slice none 0 0) ∧ Boxed W b3 4 (.bool false) ∧ W.heap[rc]? = some rdy
def doneOf (c : Code) : Obj → Obj
 | .loop r => .loop { r with state := .done, pending := some c }
 | o => o
theorem res_take {ps : List (List UInt8)} {k : Nat} (h : k < ps.length) {out : List (List UInt8)} (ho : Ad.resAll (ps.take k) = some out) : Ad.resAll (ps.take (k + 1)) = Ad.resIn out ps[k] := by
 rw [List.take_succ_eq_append_getElem h, Ad.res_snoc, ho]
 rfl
theorem res_stop {ps : List (List UInt8)} {k : Nat} (h : Ad.resAll (ps.take k) = none) : Ad.resAll ps = none := by
 have e : Ad.resAll ps = (ps.drop k).foldl Ad.resStep (Ad.resAll (ps.take k)) := by
  rw [← Ad.res_app, List.take_append_drop]
 rw [e, h]
 exact Ad.res_none _
theorem rf_enter2 {F : Fence} {n : Nat} {P : Program} {g : Operand} {ps : Array Tmp} {assign body : Code} {Q : Exit → Act → World → Prop} {a : Act} {w : World}
  (hro : F.round = none) (h1 : 1 ≤ n) {gf : Nat} {lb : Array Value} (hg : a.eval g = .func (.func gf) #[] lb) (hFg : F.fn gf) (eg : ∀ args w, (callFunc gf args).run P w = .ok (.enter gf args) w)
  (h : ∀ fn WL rdy, F.fn fn → rdy = .loop (recOf fn a.tmps ps assign body w.heap.size .ready none) → Ext w WL → WL.heap.size = w.heap.size + 2 → WL.heap[w.heap.size + 1]? = some rdy →
   WL.heap[w.heap.size]? = some (.deferred (some [])) → CallsIn F (n - 1) P gf (#[.func (.yield (w.heap.size + 1)) #[] #[]] ++ lb) WL
   fun e W' => (∃ v, e = .returned v) ∧
    ((W'.heap[w.heap.size + 1]? = some rdy ∧
     ∀ W'', But (w.heap.size + 1) W' W'' → Q .normal { a with defers := { target := .collected w.heap.size, args := #[] } :: a.defers } W'') ∨
     ∃ c, W'.heap[w.heap.size + 1]? = some (doneOf c rdy) ∧
     ∀ W'', But (w.heap.size + 1) W' W'' → c.wpIn F n P Q { a with defers := { target := .collected w.heap.size, args := #[] } :: a.defers } W'')) :
  (Code.rangeFunc g ps assign body).wpIn F n P Q a w :=
 rf_enter hro h1 hg hFg eg fun fn WL hfn hE hS hl0 hD0 => h fn WL _ hfn rfl hE hS hl0 hD0
def ResSt (b2 b3 rc : Nat) (ps : List (List UInt8)) (rdy : Obj) (W : World) : Prop :=
 Ad.resAll ps = none ∧ Boxed W b2 97 (.slice none 0 0) ∧ Boxed W b3 4 (.bool false) ∧ W.heap[rc]? = some (doneOf .ret rdy)
theorem resolve_seq (c : UInt8) (bs bsep bsv : Nat) (s : ByteArray) (w : World) (hs : s.size ≤ 900000) (hlen : (Ad.pieces c (bsT s)).length ≤ 900001)
  (hb1 : Boxed w bsep 9 (.string ⟨#[c]⟩)) (hb2 : Boxed w bs 9 (.string s)) (hb3 : Boxed w bsv 3 (.int .i64 0)) (hne : bsep ≠ bs ∧ bsv ≠ bs) :
  Calls Tryz.prog 218 #[.func (.func 289) #[] #[.pointer (some ⟨bsep, 0, none⟩), .pointer (some ⟨bs, 0, none⟩), .pointer (some ⟨bsv, 0, none⟩)]] w fun e w' =>
   RslIs (Ad.resAll (Ad.pieces c (bsT s))) w.heap.size e w' ∧ ButS (· = bs) w w' := by
 have HB1 := lh hb1
 have HB2 := lh hb2
 have HB3 := lh hb3
 have hl1 := hb1.lt
 have hl2 := hb2.lt
 have hl3 := hb3.lt
 clear hb1 hb2 hb3
 refine (callsIn_wide (n := 4)).1 ?_
 refine callsIn_of_wp_marks Tryz.func218 rfl trivial ?_ rfl
 simp only [Tryz.ntmps218, List.size_toArray, List.length_cons, List.length_nil, Nat.reduceAdd, Nat.reduceSub, Array.replicate_succ, Array.replicate_zero, List.push_toArray, List.append_toArray, List.nil_append, List.cons_append]
 gi_wp2
 have b1 : Boxed (((w.alloc (.cells #[.slice none 0 0] 97)).alloc (.cells #[.bool false] 4)).alloc (.cells #[.slice none 0 0] 97)) w.heap.size 97 (.slice none 0 0) := ((Boxed.new w 97 _).alloc _).alloc _
 have b2 : Boxed (((w.alloc (.cells #[.slice none 0 0] 97)).alloc (.cells #[.bool false] 4)).alloc (.cells #[.slice none 0 0] 97)) (w.heap.size + 1) 4 (.bool false) := by
  have := Boxed.new (w.alloc (.cells #[.slice none 0 0] 97)) 4 (.bool false); rw [World.size_alloc] at this; exact this.alloc _
 have b3 : Boxed (((w.alloc (.cells #[.slice none 0 0] 97)).alloc (.cells #[.bool false] 4)).alloc (.cells #[.slice none 0 0] 97)) (w.heap.size + 1 + 1) 97 (.slice none 0 0) := by
  have := Boxed.new ((w.alloc (.cells #[.slice none 0 0] 97)).alloc (.cells #[.bool false] 4)) 97 (.slice none 0 0); rw [World.size_alloc, World.size_alloc] at this; exact this
 have bs0 : (((w.alloc (.cells #[.slice none 0 0] 97)).alloc (.cells #[.bool false] 4)).alloc (.cells #[.slice none 0 0] 97)).heap.size = w.heap.size + 3 := by simp
 have bx : Ext w (((w.alloc (.cells #[.slice none 0 0] 97)).alloc (.cells #[.bool false] 4)).alloc (.cells #[.slice none 0 0] 97)) := (((eR _).alloc _).alloc _).alloc _
 generalize (((w.alloc (.cells #[.slice none 0 0] 97)).alloc (.cells #[.bool false] 4)).alloc (.cells #[.slice none 0 0] 97)) = W0 at b1 b2 b3 bs0 bx ⊢
 have hbs1 := Nat.le_of_eq bs0
 have hbs2 := Nat.le_of_eq bs0.symm
 clear bs0
 refine rf_enter2 rfl (by omega) (gf := 289) (lb := #[.pointer (some ⟨bsep, 0, none⟩), .pointer (some ⟨bs, 0, none⟩), .pointer (some ⟨bsv, 0, none⟩)]) rfl trivial (enters_of Tryz.func289 (by kernel_rfl) rfl) ?_
 intro fn WL rdy hfn hrdy hE hEs hl0 hD0
 have hEa := Nat.le_of_eq hEs
 have hEb := Nat.le_of_eq hEs.symm
 clear hEs
 refine CallsIn.mono (splitseq1_in c (4 - 1) (by omega) (W0.heap.size + 1) bs bsep bsv s WL hs (Boxed.ext HB1.out (bx.trans hE)) (Boxed.ext HB2.out (bx.trans hE)) (Boxed.ext HB3.out (bx.trans hE)) hne
  (fun k => (w.heap.size ≤ k ∧ k ≠ W0.heap.size) ) ⟨by omega, by omega, by omega⟩
  (ResJ (w.heap.size + 1 + 1) w.heap.size (w.heap.size + 1) (W0.heap.size + 1) WL.heap.size (Ad.pieces c (bsT s)) rdy)
  (ResSt w.heap.size (w.heap.size + 1) (W0.heap.size + 1) (Ad.pieces c (bsT s)) rdy)
  ⟨none, 0, [], lh rfl, Nat.le_refl _, Boxed.ext b3 hE, Owns.nil _ _ _ _ _, Boxed.ext b1 hE, Boxed.ext b2 hE, hl0⟩
  (fun k W1 W2 ⟨A', c', l', h1, h2, h3, h4, h5, h6, h7⟩ hx => ⟨A', c', l', h1, h2, hx.boxed h3 (by omega), h4.butS hx (fun j hj e => by omega), hx.boxed h5 (by omega), hx.boxed h6 (by omega), (hx.block _ (Array.getElem?_eq_some_iff.1 h7).1 (by omega)).trans h7⟩) ?hY) ?post
 case hY =>
  rintro k hk x W1 hx ⟨A', c', l', HL, hll, hbo, ho, hb2, hb3, hrec⟩ hBS
  have hsz1 := hBS.size
  have hlt := (Array.getElem?_eq_some_iff.1 hrec).1
  have HSt : Hid (Ad.resAll ((Ad.pieces c (bsT s)).take (k + 1)) = Ad.resIn (l'.map bsT) (bsT x)) := lh (by rw [res_take hk HL.out, hx])
  have HStop : Hid (Ad.resIn (l'.map bsT) (bsT x) = none → Ad.resAll (Ad.pieces c (bsT s)) = none) := lh (fun h => res_stop (HSt.out.trans h))
  have HRdy := lh hrdy
  rw [hrdy] at hrec
  clear hrdy hx HL
  refine rf_round hrec hfn rfl ?_
  have HREC := lh hrec
  clear hrec
  gi_wp2
  refine ⟨(Array.getElem?_eq_some_iff.1 HREC.out).2, ?_⟩
  intro W2 hbt hs2 hr2
  have hs2a : W2.heap.size ≤ W1.heap.size := Nat.le_of_eq hs2
  have hs2b : W1.heap.size ≤ W2.heap.size := Nat.le_of_eq hs2.symm
  have hbp2 : Boxed W2 (w.heap.size + 1 + 1) 97 (.slice A' l'.length c') := boxed_but hbo hbt (by omega)
  have hq2 : Boxed W2 w.heap.size 97 (.slice none 0 0) := boxed_but hb2 hbt (by omega)
  have hq3 : Boxed W2 (w.heap.size + 1) 4 (.bool false) := boxed_but hb3 hbt (by omega)
  have ho2 : OwnsStr WL.heap.size W2 A' c' l' := ho.but hbt (by omega)
  have c3 := hbp2.cell
  have c3f := hbp2.frozen
  have c4 := hq2.cell
  have c4f := hq2.frozen
  have c5 := hq3.cell
  have c5f := hq3.frozen
  have HBt := lh hbt
  have HR2 := lh hr2
  have HO2 := lh ho2
  have HP2 := lh hbp2
  have HQ2 := lh hq2
  have HQ3 := lh hq3
  have HE1 := lh (lit_walk x [46])
  have HE2 := lh (lit_walk x [46, 46])
  have HWd := lh (fun W => word_any x W)
  clear hbt hr2 hs2 ho hbo hb2 hb3 ho2 hbp2 hq2 hq3
  by_cases h1 : bsT x = [46]
  ·have e1 : (x.toList == [46]) = true := by rw [HE1.out]; simpa using h1
   have HN : Hid (Ad.resAll ((Ad.pieces c (bsT s)).take (k + 1)) = some (l'.map bsT)) := lh (by rw [HSt.out]; unfold Ad.resIn; rw [if_pos h1])
   clear h1 HStop HSt HE1 HE2
   gi_wp2
   refine ⟨HR2.out, ?_⟩
   intro W4 hb4 hr4
   refine ⟨.inl ⟨rfl, ?_⟩, ?_⟩
   ·exact ⟨A', c', l', HN, by omega, boxed_but HP2.out hb4 (by omega), HO2.out.but hb4 (by omega), boxed_but HQ2.out hb4 (by omega), boxed_but HQ3.out hb4 (by omega), by rw [HRdy.out]; exact hr4⟩
   ·exact (ButS.of_but HBt.out (.inr ⟨by omega, by omega⟩)).trans (ButS.of_but hb4 (.inr ⟨by omega, by omega⟩))
  have e1 : (x.toList == [46]) = false := by rw [HE1.out]; simpa using h1
  by_cases h2 : bsT x = [46, 46]
  ·have e2 : (x.toList == [46, 46]) = true := by rw [HE2.out]; simpa using h2
   by_cases h3 : 0 < l'.length
   ·have hdl : l'.dropLast.length = l'.length - 1 := List.length_dropLast
    have HN : Hid (Ad.resAll ((Ad.pieces c (bsT s)).take (k + 1)) = some (l'.dropLast.map bsT)) := lh (by
     rw [HSt.out]; unfold Ad.resIn
     rw [if_neg (by rw [h2]; decide), if_pos h2, if_neg (by intro e; rw [List.map_eq_nil_iff] at e; rw [e] at h3; simp at h3), List.map_dropLast])
    have HOd := lh (Owns.shorter sE HO2.out h3)
    rcases HO2.out.cases with ⟨_, _, e⟩ | ⟨g, cur, rfl, _, _, hcap, hcm, _, _⟩
    ·rw [e] at h3; simp at h3
    unfold maxLen at hcm
    have d3 : decide ((0 : Int) < (l'.length : Int)) = true := by simp; omega
    clear h2 HStop HSt HE1 HE2 HO2
    gi_wp2
    refine ⟨(Below.heap_setCell _ _ _ _ (by show _ ≠ w.heap.size + 1 + 1; omega)).trans HR2.out, ?_⟩
    intro W4 hb4 hr4
    obtain ⟨_, _, hod⟩ := HOd.out
    refine ⟨.inl ⟨rfl, some ⟨g, 0, none⟩, c', l'.dropLast, HN, by omega, ?_, ?_, ?_, ?_, by rw [HRdy.out]; exact hr4⟩, ?_⟩
    ·rw [hdl]; exact boxed_but (HP2.out.set _) hb4 (by omega)
    ·exact (hod.other (p := ⟨w.heap.size + 1 + 1, 0, none⟩) (by show w.heap.size + 1 + 1 < _; omega) _).but hb4 (by omega)
    ·exact boxed_but (HQ2.out.other (by omega) _) hb4 (by omega)
    ·exact boxed_but (HQ3.out.other (by omega) _) hb4 (by omega)
    ·exact (ButS.of_but HBt.out (.inr ⟨by omega, by omega⟩)).trans (((ButS.refl _ W2).setCell (p := ⟨w.heap.size + 1 + 1, 0, none⟩) (.inl ⟨by show _ ≤ w.heap.size + 1 + 1; omega, by show w.heap.size + 1 + 1 ≠ _; omega⟩) _).trans (ButS.of_but hb4 (.inr ⟨by omega, by omega⟩)))
   ·have hl0 : l' = [] := List.eq_nil_of_length_eq_zero (by omega)
    have d3 : decide ((0 : Int) < (l'.length : Int)) = false := by simp; omega
    have HFl := lh (HStop.out (by unfold Ad.resIn; rw [if_neg (by rw [h2]; decide), if_pos h2, if_pos (by rw [hl0]; rfl)]))
    have hw0 : Tg.wordB x.data.toList = false := by show Tg.wordB (bsT x) = false; rw [h2]; exact Ad.dots_not2
    rw [hw0] at HWd
    clear HStop HSt HE1 HE2 h1 h2 HO2 hl0 hw0
    gi_wp2_with (refine ⟨trivial, ?_⟩; gi_at_call 251; refine (CallsIn.inRound _ (callsIn_wide.2 (HWd.out _))).mono ?_; rintro e w' ⟨rfl, hxl⟩; obtain ⟨xl, rfl⟩ := hxl.asLater; clear hxl)
    refine ⟨?_, ?_⟩
    ·refine (Below.heap_setCell _ _ _ _ (by show _ ≠ w.heap.size + 1; omega)).trans ((Below.heap_setCell _ _ _ _ (by show _ ≠ w.heap.size; omega)).trans ?_)
     exact ((ext_later W2 xl).below.block _ (by omega)).trans HR2.out
    intro W4 hb4 hr4
    refine ⟨.inr ⟨rfl, HFl.out, ?_, ?_, by rw [HRdy.out]; exact hr4⟩, ?_⟩
    ·exact boxed_but (((Boxed.ext HQ2.out (ext_later W2 xl)).set _).other (by omega) _) hb4 (by omega)
    ·exact boxed_but ((((Boxed.ext HQ3.out (ext_later W2 xl)).other (by omega) _)).set _) hb4 (by omega)
    ·refine (ButS.of_but HBt.out (.inr ⟨by omega, by omega⟩)).trans ((ButS.of_ext (ext_later W2 xl)).trans ?_)
     exact (((ButS.refl _ (later W2 xl)).setCell (p := ⟨w.heap.size, 0, none⟩) (.inl ⟨by show w.heap.size ≤ w.heap.size; omega, by show w.heap.size ≠ _; omega⟩) _).setCell (p := ⟨w.heap.size + 1, 0, none⟩) (.inl ⟨by show _ ≤ w.heap.size + 1; omega, by show w.heap.size + 1 ≠ _; omega⟩) _).trans (ButS.of_but hb4 (.inr ⟨by omega, by omega⟩))
  ·have e2 : (x.toList == [46, 46]) = false := by rw [HE2.out]; simpa using h2
   cases h3 : Tg.wordB (bsT x) with
   | true =>
    have hw0 : Tg.wordB x.data.toList = true := h3
    rw [hw0] at HWd
    have HN : Hid (Ad.resAll ((Ad.pieces c (bsT s)).take (k + 1)) = some ((l' ++ [x]).map bsT)) := lh (by
     rw [HSt.out]; unfold Ad.resIn
     rw [if_neg h1, if_neg h2, if_pos h3]
     simp)
    clear HStop HSt HE1 HE2 h1 h2 h3 hw0
    gi_wp2_with (first
     | (refine ⟨trivial, ?_⟩; gi_at_call 251; refine (CallsIn.inRound _ (callsIn_wide.2 (HWd.out _))).mono ?_; rintro e w' ⟨rfl, hxl⟩; obtain ⟨xl, rfl⟩ := hxl.asLater; clear hxl)
     | (gi_at_builtin; refine app_fromIn strT sE rfl _ _ rfl WL.heap.size _ _ l' rfl ((HO2.out.later xl).alloc _) _ 1 _ [x] rfl rfl (new_cellsAt (later_size _ _).symm _ _) (by omega) (by omega) (by simp [later_size]; omega) ?_; intro A3 c3' l3 w3 HL3 HO3 hB hl1 hl2 hG; have HO3' := lh HO3; have HB3 := lh hB; have HG3 := lh hG; have hbp3 : Boxed w3 (w.heap.size + 1 + 1) 97 (.slice A' l'.length c') := (hB.block _ (by omega)).trans ((Boxed.ext HP2.out (ext_later W2 xl)).alloc _); have hbq2 : Boxed w3 w.heap.size 97 (.slice none 0 0) := (hB.block _ (by omega)).trans ((Boxed.ext HQ2.out (ext_later W2 xl)).alloc _); have hbq3 : Boxed w3 (w.heap.size + 1) 4 (.bool false) := (hB.block _ (by omega)).trans ((Boxed.ext HQ3.out (ext_later W2 xl)).alloc _); have hc3 := hbp3.cell; have hf3 := hbp3.frozen; have HP3 := lh hbp3; have HQ23 := lh hbq2; have HQ33 := lh hbq3; have hsz3 := hB.size; clear HO3 hB hG hbp3 hbq2 hbq3))
    refine ⟨?_, ?_⟩
    ·refine (Below.heap_setCell _ _ _ _ (by show _ ≠ w.heap.size + 1 + 1; omega)).trans ?_
     exact (HB3.out.block _ (by omega)).trans ((Below.heap_alloc _ _ _ (by rw [later_size]; omega)).trans (((ext_later W2 xl).below.block _ (by omega)).trans HR2.out))
    intro W4 hb4 hr4
    refine ⟨.inl ⟨rfl, A3, c3', l3, lh (by rw [HL3.out]; exact HN.out), by (try simp at hl1); omega, boxed_but (HP3.out.set _) hb4 (by omega), (HO3'.out.other (p := ⟨w.heap.size + 1 + 1, 0, none⟩) (by show w.heap.size + 1 + 1 < _; omega) _).but hb4 (by omega), boxed_but (HQ23.out.other (by omega) _) hb4 (by omega), boxed_but (HQ33.out.other (by omega) _) hb4 (by omega), by rw [HRdy.out]; exact hr4⟩, ?_⟩
    refine (ButS.of_but HBt.out (.inr ⟨by omega, by omega⟩)).trans ((ButS.of_ext (ext_later W2 xl)).trans ?_)
    refine ButS.trans (b := w3) (ButS.trans (ButS.of_ext ((Ext.refl (later W2 xl)).alloc _)) (ButS.of_grownBy HG3.out (fun k e => (by have := HO2.out.blk k e; exact ⟨by omega, by omega⟩)))) ?_
    exact ((ButS.refl _ w3).setCell (p := ⟨w.heap.size + 1 + 1, 0, none⟩) (.inl ⟨by show _ ≤ w.heap.size + 1 + 1; omega, by show w.heap.size + 1 + 1 ≠ _; omega⟩) _).trans (ButS.of_but hb4 (.inr ⟨by omega, by omega⟩))
   | false =>
    have hw0 : Tg.wordB x.data.toList = false := h3
    rw [hw0] at HWd
    have HFl := lh (HStop.out (by unfold Ad.resIn; rw [if_neg h1, if_neg h2, if_neg (by rw [h3]; decide)]))
    clear HStop HSt HE1 HE2 h1 h2 h3 HO2 hw0
    gi_wp2_with (refine ⟨trivial, ?_⟩; gi_at_call 251; refine (CallsIn.inRound _ (callsIn_wide.2 (HWd.out _))).mono ?_; rintro e w' ⟨rfl, hxl⟩; obtain ⟨xl, rfl⟩ := hxl.asLater; clear hxl)
    refine ⟨?_, ?_⟩
    ·refine (Below.heap_setCell _ _ _ _ (by show _ ≠ w.heap.size + 1; omega)).trans ((Below.heap_setCell _ _ _ _ (by show _ ≠ w.heap.size; omega)).trans ?_)
     exact ((ext_later W2 xl).below.block _ (by omega)).trans HR2.out
    intro W4 hb4 hr4
    refine ⟨.inr ⟨rfl, HFl.out, ?_, ?_, by rw [HRdy.out]; exact hr4⟩, ?_⟩
    ·exact boxed_but (((Boxed.ext HQ2.out (ext_later W2 xl)).set _).other (by omega) _) hb4 (by omega)
    ·exact boxed_but ((((Boxed.ext HQ3.out (ext_later W2 xl)).other (by omega) _)).set _) hb4 (by omega)
    ·refine (ButS.of_but HBt.out (.inr ⟨by omega, by omega⟩)).trans ((ButS.of_ext (ext_later W2 xl)).trans ?_)
     exact (((ButS.refl _ (later W2 xl)).setCell (p := ⟨w.heap.size, 0, none⟩) (.inl ⟨by show w.heap.size ≤ w.heap.size; omega, by show w.heap.size ≠ _; omega⟩) _).setCell (p := ⟨w.heap.size + 1, 0, none⟩) (.inl ⟨by show _ ≤ w.heap.size + 1; omega, by show w.heap.size + 1 ≠ _; omega⟩) _).trans (ButS.of_but hb4 (.inr ⟨by omega, by omega⟩))
 case post =>
  rintro e W' ⟨⟨v', rfl⟩, hJS, hB⟩
  have HOut : ButS (fun k => k = bs ∨ w.heap.size ≤ k) w W' := (ButS.of_ext (bx.trans hE)).trans (hB.mono (fun k _ e => by omega))
  have HO1 := lh HOut
  have hszB := hB.size
  have hD1 : W'.heap[W0.heap.size]? = some (.deferred (some [])) := (hB.block _ (by omega) (by omega)).trans hD0
  refine ⟨⟨_, rfl⟩, ?_⟩
  rcases hJS with ⟨A', c', l', HL, hll, hbo, ho, hb2, hb3, hrec⟩ | ⟨hno, hb2, hb3, hrec⟩
  ·refine .inl ⟨hrec, ?_⟩
   intro W'' hBut
   have HK : Hid (W''.heap[W0.heap.size]? = some (.deferred (some []))) := lh ((hBut.block _ (by omega) (fun e => by injection e; omega)).trans hD1)
   have hc := (boxed_but hbo hBut (by omega)).cell
   have hq2 := boxed_but hb2 hBut (by omega)
   have hq3 := boxed_but hb3 hBut (by omega)
   have k2 := hq2.cell
   have k2f := hq2.frozen
   have k3 := hq3.cell
   have k3f := hq3.frozen
   have HQ2 := lh hq2
   have HQ3 := lh hq3
   have HO2 : Hid (OwnsStr WL.heap.size W'' A' c' l') := lh (ho.but hBut (by omega))
   have HBu : Hid (ButS (fun k => k = bs ∨ w.heap.size ≤ k) w W'') := lh (HO1.out.trans (ButS.of_but hBut (.inr (.inr (by omega)))))
   have HR : Hid (Ad.resAll (Ad.pieces c (bsT s)) = some (l'.map bsT)) := lh (by rw [← HL.out, List.take_of_length_le (Nat.le_refl _)])
   clear hbo ho hb2 hb3 hrec hBut HL hq2 hq3 hD1 hD0 hB HOut hl0 b1 b2 b3 HO1
   gi_wp2
   have hK2 : ((W''.setCell ⟨w.heap.size, 0, none⟩ (.slice A' l'.length c')).setCell ⟨w.heap.size + 1, 0, none⟩ (.bool true)).heap[W0.heap.size]? = some (.deferred (some [])) := (Below.heap_setCell _ _ _ _ (by show _ ≠ w.heap.size + 1; omega)).trans ((Below.heap_setCell _ _ _ _ (by show _ ≠ w.heap.size; omega)).trans HK.out)
   refine ⟨by simp, .inl ⟨_, _, rfl, run_takeDeferred hK2, ?_⟩⟩
   have hgb := grownBy_putObj' ((W''.setCell ⟨w.heap.size, 0, none⟩ (.slice A' l'.length c')).setCell ⟨w.heap.size + 1, 0, none⟩ (.bool true)) W0.heap.size (.deferred none)
   refine ⟨.tuple #[.slice A' l'.length c', .bool true], results_two Tryz.results218 ⟨_, rfl, load_strs (boxed_but ((HQ2.out.set _).other (by omega) _) hgb (by omega))⟩ ⟨_, rfl, load_bool (boxed_but ((HQ3.out.other (by omega) _).set _) hgb (by omega))⟩, ?_, ?_⟩
   ·rw [HR.out]
    exact ⟨A', c', l', rfl, rfl, (((HO2.out.other (p := ⟨w.heap.size, 0, none⟩) (by show w.heap.size < _; omega) _).other (p := ⟨w.heap.size + 1, 0, none⟩) (by show w.heap.size + 1 < _; omega) _).but hgb (by omega)).lower (by omega)⟩
   ·have h1 : ButS (fun k => k = bs ∨ w.heap.size ≤ k) w ((W''.setCell ⟨w.heap.size, 0, none⟩ (.slice A' l'.length c')).setCell ⟨w.heap.size + 1, 0, none⟩ (.bool true)) := (HBu.out.setCell (p := ⟨w.heap.size, 0, none⟩) (.inr (Nat.le_refl _)) _).setCell (p := ⟨w.heap.size + 1, 0, none⟩) (.inr (by show _ ≤ w.heap.size + 1; omega)) _
    exact (h1.trans (ButS.of_but hgb (.inr (.inr (by omega))))).mono (fun k hk h => by omega)
  ·refine .inr ⟨_, hrec, ?_⟩
   intro W'' hBut
   have HK : Hid (W''.heap[W0.heap.size]? = some (.deferred (some []))) := lh ((hBut.block _ (by omega) (fun e => by injection e; omega)).trans hD1)
   have hq2 := boxed_but hb2 hBut (by omega)
   have hq3 := boxed_but hb3 hBut (by omega)
   have k2 := hq2.cell
   have k3 := hq3.cell
   have HQ2 := lh hq2
   have HQ3 := lh hq3
   have HBu : Hid (ButS (fun k => k = bs ∨ w.heap.size ≤ k) w W'') := lh (HO1.out.trans (ButS.of_but hBut (.inr (.inr (by omega)))))
   have HR := lh hno
   clear hb2 hb3 hrec hBut hno hq2 hq3 hD1 hD0 hB HOut hl0 b1 b2 b3 HO1
   gi_wp2
   refine ⟨by simp, .inl ⟨_, _, rfl, run_takeDeferred HK.out, ?_⟩⟩
   have hgb := grownBy_putObj' W'' W0.heap.size (.deferred none)
   refine ⟨.tuple #[.slice none 0 0, .bool false], results_two Tryz.results218 ⟨_, rfl, load_strs (boxed_but HQ2.out hgb (by omega))⟩ ⟨_, rfl, load_bool (boxed_but HQ3.out hgb (by omega))⟩, ?_, ?_⟩
   ·rw [HR.out]
    exact rfl
   ·exact (HBu.out.trans (ButS.of_but hgb (.inr (.inr (by omega))))).mono (fun k hk h => by omega)
end
end Go.Proofs.YtpojnhikgjcgmaaGreatDoor