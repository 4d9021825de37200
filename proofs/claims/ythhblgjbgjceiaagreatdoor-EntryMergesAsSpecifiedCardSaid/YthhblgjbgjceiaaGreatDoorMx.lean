/- Walk of law 35: EntryMergesAsSpecified. -/
import Derived.Test.YthhblgjbgjceiaaGreatDoorProg
import Derived.Test.YthhblgjbgjceiaaGreatDoorExt
import Derived.WalkKit
import Derived.WalkSpells
import Derived.WalkLawsBesides
import Derived.Deep.QuietTactic
import Derived.BigQuiet
import Derived.Test.YthhblgjbgjceiaaGreatDoorMi
import Derived.Test.YthhblgjbgjceiaaGreatDoorMm
import Derived.Test.YthhblgjbgjceiaaGreatDoorEt
import Derived.Test.YthhblgjbgjceiaaGreatDoorMu
set_option linter.unusedVariables false
set_option linter.unusedSimpArgs false
namespace Go.Proofs.YthhblgjbgjceiaaGreatDoor
open Go.RowKit Go.Shelf
open Go.Proofs
open Go.Proofs.Sp (Sp)

def HitIs (e2 : Value → En) (l : List Sp) (ok : Bool) (w : World) (e' : Ending) (w' : World) : Prop := ∃ A' c', e' = .returned (.tuple #[.agg (entC (e2 (.slice A' l.length c'))), .bool ok]) ∧ OwnsSp w.heap.size w' A' c' l ∧ Ext w w'
def partN (e : En) (s1 s2 : Int) : ByteArray × Int :=
  if e.whole = false then (⟨#[]⟩, 4) else if s1 < 0 ∨ s2 < s1 ∨ e.st.size < s2 then (⟨#[]⟩, 70) else (e.bytes.extract s1.toNat s2.toNat, 0)
theorem dg_self (a0 a1 a2 a3 a4 a5 a6 a7 a8 a9 a10 a11 a12 a13 a14 a15 : Int) (W : World) : (Op.equalIn 9999 23 (.agg #[.int .u8 a0, .int .u8 a1, .int .u8 a2, .int .u8 a3, .int .u8 a4, .int .u8 a5, .int .u8 a6, .int .u8 a7, .int .u8 a8, .int .u8 a9, .int .u8 a10, .int .u8 a11, .int .u8 a12, .int .u8 a13, .int .u8 a14, .int .u8 a15]) (.agg #[.int .u8 a0, .int .u8 a1, .int .u8 a2, .int .u8 a3, .int .u8 a4, .int .u8 a5, .int .u8 a6, .int .u8 a7, .int .u8 a8, .int .u8 a9, .int .u8 a10, .int .u8 a11, .int .u8 a12, .int .u8 a13, .int .u8 a14, .int .u8 a15])).run Tryz.prog W = .ok true W := by
  have hc : Tryz.prog.cellsOf 5 = 1 := by kernel_rfl
  have hr : List.range 16 = [0, 1, 2, 3, 4, 5, 6, 7, 8, 9, 10, 11, 12, 13, 14, 15] := by decide
  have hinf : (Tryz.prog.info? 5).map (fun i => (i.zero, i.size, i.bytes)) = some (some (.int .u8 0), 1, 1) := by kernel_rfl
  obtain ⟨i, hi, _, _, _⟩ := info_parts hinf
  rw [run_equalIn_array W 9998 (t := 23) (e := 5) (n := 16) _ _ (by kernel_rfl) hi, hc, hr]
  simp [Op.eqItems, go_sem]
theorem sl_self (a0 a1 a2 a3 a4 a5 a6 a7 a8 a9 a10 a11 a12 a13 a14 a15 : Int) (W : World) : (Op.equalIn 9999 26 (.agg #[.int .u8 a0, .int .u8 a1, .int .u8 a2, .int .u8 a3, .int .u8 a4, .int .u8 a5, .int .u8 a6, .int .u8 a7, .int .u8 a8, .int .u8 a9, .int .u8 a10, .int .u8 a11, .int .u8 a12, .int .u8 a13, .int .u8 a14, .int .u8 a15]) (.agg #[.int .u8 a0, .int .u8 a1, .int .u8 a2, .int .u8 a3, .int .u8 a4, .int .u8 a5, .int .u8 a6, .int .u8 a7, .int .u8 a8, .int .u8 a9, .int .u8 a10, .int .u8 a11, .int .u8 a12, .int .u8 a13, .int .u8 a14, .int .u8 a15])).run Tryz.prog W = .ok true W := by
  have hc : Tryz.prog.cellsOf 5 = 1 := by kernel_rfl
  have hr : List.range 16 = [0, 1, 2, 3, 4, 5, 6, 7, 8, 9, 10, 11, 12, 13, 14, 15] := by decide
  have hinf : (Tryz.prog.info? 5).map (fun i => (i.zero, i.size, i.bytes)) = some (some (.int .u8 0), 1, 1) := by kernel_rfl
  obtain ⟨i, hi, _, _, _⟩ := info_parts hinf
  rw [run_equalIn_array W 9998 (t := 26) (e := 5) (n := 16) _ _ (by kernel_rfl) hi, hc, hr]
  simp [Op.eqItems, go_sem]
theorem stm_self (s : St) (W : World) : (binOp .neq 28 (.agg (stmC s)) (.agg (stmC s))).run Tryz.prog W = .ok (.bool false) W := by
  rw [run_neq_struct]
  simp [go_sem, stmC, stmL, dgC, dg_self, sl_self]
attribute [go_sem ↓] stm_self
set_option maxRecDepth 100000 in
set_option maxHeartbeats 1000000 in
theorem same_any (e : En) (A B : Option Addr) (c d : Nat) (l : List Sp) (w : World) (hv : e.hv = .slice A l.length c) (hm : l.length ≤ 140737488355328) (hr1 : ReadsSp w w.heap.size A l) (hr2 : ReadsSp w w.heap.size B l) :
    Calls Tryz.prog 13 #[.agg (entC e), .agg (entC { e with hv := .slice B l.length d })] w fun e' w' => e' = .returned (.bool true) ∧ Ext w w' := by
  have hc42 : (entC e)[42]? = some (.slice A l.length c) := by rw [ent_g42, hv]
  have HR1 := Lib.hid hr1
  have HR2 := Lib.hid hr2
  clear hr1 hr2
  have hc42b : (entC { e with hv := .slice B l.length d })[42]? = some (.slice B l.length d) := ent_g42 _
  go_enter Tryz.func13, Tryz.ntmps13
  go_wp2
  refine wp_world (fun W => Ext w W ∧ RowAt W w.heap.size (entC e) ∧ RowAt W (w.heap.size + 1) (entC { e with hv := .slice B l.length d })) ⟨(by (repeat (first | with_reducible exact Ext.refl _ | with_reducible exact Ext.refl _ | with_reducible refine Ext.drew ?_ | with_reducible refine Ext.drewN ?_ _ | with_reducible refine Ext.alloc ?_ _ | with_reducible refine Ext.onto ?_ _ | (with_reducible refine Ext.setCells ?_ ?_ _ _; rotate_left; focus (first | omega | (simp; done) | (simp; omega))) | (with_reducible refine Ext.setCell ?_ ?_ _; rotate_left; focus (first | omega | (simp; done) | (simp; omega)))))), (RowAt.new _ _ _).alloc _, RowAt.newAt (by simp)⟩ ?_
  rintro W ⟨hx0, h1, h2⟩
  have HX0 := Lib.hid hx0
  have H1 := Lib.hid h1
  have H2 := Lib.hid h2
  clear hx0 h1 h2
  go_loopw [5] (fun i wr => ∃ k : Nat, k ≤ l.length ∧ i = .int .i64 k ∧ Ext W wr) (fun i _ => l.length - (intOf i).toNat)
  case atStart => exact ⟨0, Nat.zero_le _, rfl, Ext.refl _⟩
  case round =>
    obtain ⟨k, hk, rfl, hx⟩ := hrel
    have HX := Lib.hid hx
    have c1 : wr.cell? ⟨w.heap.size, 42, none⟩ = some (.slice A l.length c) := ((H1.out.ext hx).cell 42).trans hc42
    have c2 : wr.cell? ⟨w.heap.size + 1, 42, none⟩ = some (.slice B l.length d) := ((H2.out.ext hx).cell 42).trans hc42b
    have hl2 := (H2.out.ext hx).lt
    by_cases hlt : k < l.length
    · obtain ⟨b1, o1, rfl, hb1, y1, y2⟩ := ReadsSp.cell (HR1.out.on (HX0.out.trans hx)) k hlt
      obtain ⟨b2, o2, rfl, hb2, z1, z2⟩ := ReadsSp.cell (HR2.out.on (HX0.out.trans hx)) k hlt
      generalize l[k] = s at *
      obtain ⟨s1, s2⟩ := s
      simp only [] at y1 y2 z1 z2
      clear hx
      go_wp2
      refine wp_region_later (by kernel_rfl) (by kernel_rfl) ?_
      repeat (first | go_big_quiet_step (fail) | quiet_step (fail))
      refine wpQuiet_nil ?_
      rintro _ ⟨xq, rfl⟩
      go_wp2
      go_roundw
      case rel => exact ⟨k + 1, by omega, by go_num, (by (repeat (first | with_reducible exact HX.out | with_reducible exact Ext.refl _ | with_reducible refine Ext.drew ?_ | with_reducible refine Ext.drewN ?_ _ | with_reducible refine Ext.alloc ?_ _ | with_reducible refine Ext.onto ?_ _ | (with_reducible refine Ext.setCells ?_ ?_ _ _; rotate_left; focus (first | omega | (simp; done) | (simp; omega))) | (with_reducible refine Ext.setCell ?_ ?_ _; rotate_left; focus (first | omega | (simp; done) | (simp; omega))))))⟩
      case measure => simp [intOf]; omega
    · clear hx
      go_wp2
      go_ret
      exact ⟨rfl, HX0.out.trans HX.out⟩
end Go.Proofs.YthhblgjbgjceiaaGreatDoor

namespace Go.Proofs.YthhblgjbgjceiaaGreatDoor
open Go.RowKit Go.Shelf
open Go.Proofs
open Go.Proofs.Sp (Sp)

structure StIn (s : St) : Prop where
  h1 : s.addr.size ≤ 9223372036854775807
  h2 : s.var.size ≤ 9223372036854775807
  h3 : s.tags.size ≤ 9223372036854775807
  hb : s.body.length = 16
  hby : Byt s.body
theorem begin_hv (s : St) : (beginN s).1.hv = .slice none 0 0 := by
  unfold beginN
  split
  · rfl
  · split
    · rfl
    · split <;> rfl
theorem begin_val {s : St} (h : (beginN s).2 = 0) : validB (beginN s).1 [] = true := by
  unfold beginN at h ⊢
  split at h
  · exact absurd h (by decide)
  · rename_i h1
    rw [if_neg h1]
    split at h
    · exact absurd h (by decide)
    · rename_i h2
      rw [if_neg h2]
      split at h
      · exact absurd h (by decide)
      · rename_i h3
        rw [if_neg h3]
        refine val_iff.2 (empty_val s false (by simpa using h1) (by omega) (fun e => ?_))
        by_cases hh : s.body = Wire.digest 34 [[]]
        · exact hh.symm
        · exact absurd ⟨e, hh⟩ h3
theorem begin_st (s : St) : (beginN s).1.st = s ∨ (beginN s).1 = noEn := by
  unfold beginN
  split
  · exact .inr rfl
  · split
    · exact .inr rfl
    · split
      · exact .inr rfl
      · exact .inl rfl
theorem zeros16 : Byt (zeros32 16) := fun x hx => by
  have := List.eq_of_mem_replicate hx
  omega
theorem begin_in {s : St} (h : StIn s) : StIn (beginN s).1.st := by
  rcases begin_st s with k | k
  · rw [k]; exact h
  · rw [k]; exact ⟨by decide, by decide, by decide, by decide, zeros16⟩
theorem begin_bytes {s : St} (h : (beginN s).2 = 0) : (beginN s).1.bytes.size ≤ 65536 := by
  have hv := val_iff.1 (begin_val h)
  have h1 := hv.bs
  have h2 := hv.sz
  omega
theorem alloc_setCells_cell (w : World) (c cs : Array Value) (t : TypeId) (b m j : Nat) : ((w.alloc (.cells c t)).setCells b 0 cs.toList).cell? ⟨m, j, none⟩ = if m = b then (if b = w.heap.size then (if cs.size = c.size then cs[j]? else lostCell ((w.alloc (.cells c t)).setCells b 0 cs.toList) m j) else lostCell ((w.alloc (.cells c t)).setCells b 0 cs.toList) m j) else (w.alloc (.cells c t)).cell? ⟨m, j, none⟩ := by
  by_cases h : m = b
  · rw [if_pos h]
    by_cases hb : b = w.heap.size
    · rw [if_pos hb]
      by_cases hs : cs.size = c.size
      · rw [if_pos hs, h]
        exact ((RowAt.newAt hb).store hs).cell j
      · rw [if_neg hs]; rfl
    · rw [if_neg hb]; rfl
  · rw [if_neg h, setCells_cell_if, if_neg (fun k => h k.1)]
attribute [local go_sem ↓] setCells_cell_or
attribute [local go_sem ↓ 2000] alloc_setCells_cell
def putsSoft (e : En) (m : List Sp) (s1 s2 : Int) (base : Nat) : Nat → Soft
  | 0 => .eq (.agg (entC e))
  | 1 => .eq (.agg #[.int .i64 s1, .int .i64 s2])
  | 2 => ownSoft m base
  | 3 => .eq (.agg (entC e))
  | 4 => .eq (.agg #[.int .i64 s1, .int .i64 s2])
  | 5 => ownSoft m base
  | _ => .eq (.bool true)
theorem missN_len (e : En) (l : List Sp) (s1 s2 : Int) (h0 : 0 ≤ e.st.size) (h1 : e.st.size ≤ 65536) : (missN e l s1 s2).length ≤ 65536 := by
  unfold missN
  split
  · simp
  · have h := rMissing_spec l (max s1 0, min s2 e.st.size)
    have h2 : SetIn (rMissing l (max s1 0, min s2 e.st.size)) e.st.size := SetIn.of_mem h.1 (fun x hx => by
      have k1 : max s1 0 ≤ x := ((h.2 x).1 hx).1.1
      have k2 : x < min s2 e.st.size := ((h.2 x).1 hx).1.2
      omega)
    have := h2.len h0
    omega
def smallD (s : St) (more : ByteArray) : Prop := decide (5000 < (s.addr.size : Int)) = false ∧ decide (5000 < (s.var.size : Int)) = false ∧ decide (5000 < (s.tags.size : Int)) = false ∧ decide (3000 < (more.size : Int)) = false
end Go.Proofs.YthhblgjbgjceiaaGreatDoor

namespace Go.Proofs.YthhblgjbgjceiaaGreatDoor
open Go.RowKit Go.Shelf
open Go.Proofs
open Go.Proofs.Sp (Sp)

theorem fine_val {e : En} {l : List Sp} (h : fineB e l = true) : Val e l := by
  simp only [fineB, Bool.and_eq_true] at h
  exact val_iff.1 h.2
theorem vin_of {e : En} {A : Option Addr} {c : Nat} {l : List Sp} {w : World} (h : EntIn e A c l w) (hf : fineB e l = true) : VIn e A c l w := ⟨h.hv, fine_val hf, h.hb, h.hby, h.hs, h.hA, h.z, h.hr⟩
theorem merge_st (a b : En) (la lb : List Sp) (hn : (mergeN a b la lb).n = 0) : (mergeN a b la lb).e.st = a.st ∨ (mergeN a b la lb).e.st = b.st := by
  have hb := best_is a b la lb
  unfold mergeN at hn ⊢
  split at hn
  · exact absurd hn (by decide)
  · rename_i h1
    rw [if_neg h1]
    split
    · exact hb.imp (·.1) (·.1)
    · split
      · exact hb.imp (·.1) (·.1)
      · split
        · exact hb.imp (·.1) (·.1)
        · have := (settle_st (bestN a b la lb).e (addAll la lb) (mrgB b.bytes lb a.bytes)).1
          exact hb.imp (fun k => this.trans k.1) (fun k => this.trans k.1)
theorem merge_n (a b : En) (la lb : List Sp) : ((mergeN a b la lb).n = 5 ∧ (mergeN a b la lb).l = [] ∧ (mergeN a b la lb).e = noEn) ∨ (mergeN a b la lb).n = 0 := by
  have hb : (bestN a b la lb).n = 0 := by
    unfold bestN
    split
    · split <;> rfl
    · split <;> rfl
  unfold mergeN
  split
  · exact .inl ⟨rfl, rfl, rfl⟩
  · split
    · exact .inr hb
    · split
      · exact .inr rfl
      · split
        · exact .inr rfl
        · exact .inr rfl
theorem cmp_pos (a b : St) : (decide (0 < cmpN a b) == decide (0 < rcmpN a b)) = true := by
  have h := (cmp_alike a b).2
  rw [beq_iff_eq, decide_eq_decide]
  exact h.symm
set_option maxRecDepth 100000 in
set_option maxHeartbeats 1000000 in
theorem merges_ok (a b : En) (A B : Option Addr) (ca cb : Nat) (la lb : List Sp) (w : World) (ha : EntIn a A ca la w) (hb : EntIn b B cb lb w) (hk : Konst 2 w) (hrk : RKonst w) :
    Calls Tryz.prog 3 #[.agg (entC a), .agg (entC b)] w fun e' w' => e' = .returned (.bool true) ∧ Ext w w' := by
  have HK := Lib.hid hk
  have HRK := Lib.hid hrk
  have HA := Lib.hid ha
  have HB := Lib.hid hb
  have hfa : fitsRow 45 (entC a) = true := ent_fits_of ha.hv
  have hfb : fitsRow 45 (entC b) = true := ent_fits_of hb.hv
  obtain ⟨fa, ha'⟩ : ∃ v, fineB a la = v := ⟨_, rfl⟩
  obtain ⟨fb, hb'⟩ : ∃ v, fineB b lb = v := ⟨_, rfl⟩
  have HFa := Lib.hid (fun W (hx : Ext w W) => fine_any a A ca la W ha.hv ha.hl ha.h1 ha.h2 ha.h3 ha.h4 ha.hb ha.hby (RowAt.ext hrk hx) (ha.hr.on hx))
  have HFb := Lib.hid (fun W (hx : Ext w W) => fine_any b B cb lb W hb.hv hb.hl hb.h1 hb.h2 hb.h3 hb.h4 hb.hb hb.hby (RowAt.ext hrk hx) (hb.hr.on hx))
  have HSan := Lib.hid (fun W (hx : Ext w W) => sanity_ok W (RowAt.ext hk hx) (RowAt.ext hrk hx))
  rw [ha'] at HFa
  rw [hb'] at HFb
  have HF1 := Lib.hid ha'
  have HF2 := Lib.hid hb'
  clear ha hb hk hrk ha' hb'
  go_enter Tryz.func3, Tryz.ntmps3
  go_wp2_with (first
    | (go_at_call 9; refine (show Hid _ from ?_).out)
    | (go_at_call 11; refine (show Hid _ from ?_).out)
    | (go_at_call 12; refine (show Hid _ from ?_).out)
    | (go_at_call 13; refine (show Hid _ from ?_).out)
    | (go_at_call 14; refine (show Hid _ from ?_).out)
    | (go_at_call 10; refine (show Hid _ from ?_).out))
  refine Lib.hid ?_
  refine calls_world (fun W => Ext w W ∧ RowAt W w.heap.size (entC a) ∧ RowAt W (w.heap.size + 1) (entC b)) ⟨(by (repeat (first | with_reducible exact Ext.refl _ | with_reducible exact Ext.refl _ | with_reducible refine Ext.drew ?_ | with_reducible refine Ext.drewN ?_ _ | with_reducible refine Ext.alloc ?_ _ | with_reducible refine Ext.onto ?_ _ | (with_reducible refine Ext.setCells ?_ ?_ _ _; rotate_left; focus (first | omega | (simp; done) | (simp; omega))) | (with_reducible refine Ext.setCell ?_ ?_ _; rotate_left; focus (first | omega | (simp; done) | (simp; omega)))))), (RowAt.new _ _ _).alloc _, RowAt.newAt (by simp)⟩ ?_
  rintro W0 ⟨x0, r0, r1⟩
  have HX0 := Lib.hid x0
  have HR0 := Lib.hid r0
  have HR1 := Lib.hid r1
  have hl0 := r0.lt
  have hl1 := r1.lt
  have row0 : rowOf W0 w.heap.size 0 45 = some (entC a) := r0.all (ent_size _).symm (by omega)
  have row1 : rowOf W0 (w.heap.size + 1) 0 45 = some (entC b) := r1.all (ent_size _).symm (by omega)
  clear x0 r0 r1
  refine (HFa.out _ HX0.out).mono ?_
  rintro e' w' ⟨rfl, hxl⟩; obtain ⟨xa, rfl⟩ := hxl.asLater; clear hxl
  go_wp2_with (first
    | (go_at_call 9; refine (show Hid _ from ?_).out)
    | (go_at_call 11; refine (show Hid _ from ?_).out)
    | (go_at_call 12; refine (show Hid _ from ?_).out)
    | (go_at_call 13; refine (show Hid _ from ?_).out)
    | (go_at_call 14; refine (show Hid _ from ?_).out)
    | (go_at_call 10; refine (show Hid _ from ?_).out))
  refine Lib.hid ?_
  refine (HFb.out _ (HX0.out.onto _)).mono ?_
  rintro e' w' ⟨rfl, hxl⟩; obtain ⟨xb, rfl⟩ := hxl.asLater; clear hxl
  cases fa with
  | false =>
    go_wp2_with (first
      | (go_at_call 9; refine (show Hid _ from ?_).out)
      | (go_at_call 11; refine (show Hid _ from ?_).out)
      | (go_at_call 12; refine (show Hid _ from ?_).out)
      | (go_at_call 13; refine (show Hid _ from ?_).out)
      | (go_at_call 14; refine (show Hid _ from ?_).out)
      | (go_at_call 10; refine (show Hid _ from ?_).out))
    refine Lib.hid ?_
    refine (HSan.out _ (HX0.out.onto _)).mono ?_
    rintro e' w' ⟨rfl, hxl⟩; obtain ⟨xc, rfl⟩ := hxl.asLater; clear hxl
    go_wp2
    go_ret
    exact ⟨rfl, HX0.out.onto _⟩
  | true =>
    cases fb with
    | false =>
      go_wp2_with (first
        | (go_at_call 9; refine (show Hid _ from ?_).out)
        | (go_at_call 11; refine (show Hid _ from ?_).out)
        | (go_at_call 12; refine (show Hid _ from ?_).out)
        | (go_at_call 13; refine (show Hid _ from ?_).out)
        | (go_at_call 14; refine (show Hid _ from ?_).out)
        | (go_at_call 10; refine (show Hid _ from ?_).out))
      refine Lib.hid ?_
      refine (HSan.out _ (HX0.out.onto _)).mono ?_
      rintro e' w' ⟨rfl, hxl⟩; obtain ⟨xc, rfl⟩ := hxl.asLater; clear hxl
      go_wp2
      go_ret
      exact ⟨rfl, HX0.out.onto _⟩
    | true =>
      have HVa := Lib.hid (vin_of HA.out HF1.out)
      have HVb := Lib.hid (vin_of HB.out HF2.out)
      obtain ⟨r, hr⟩ : ∃ r, mergeN a b la lb = r := ⟨_, rfl⟩
      have hst := merge_st a b la lb
      have hmn := merge_n a b la lb
      have hmv := merge_val (la := la) (lb := lb) HVa.out.val HVb.out.val
      have HPa := Lib.hid (fun W (hx : Ext w W) => emerge_any a b A B ca cb la lb W (HVa.out.on hx) (HVb.out.on hx) (RowAt.ext HK.out hx))
      have HPb := Lib.hid (fun W (hx : Ext w W) => rmerge_any a b A B ca cb la lb W (HVa.out.on hx) (HVb.out.on hx) (RowAt.ext HRK.out hx))
      rw [hr] at hst hmn hmv HPa HPb
      obtain ⟨re, rl, rn⟩ := r
      have hrlen : rl.length ≤ 65536 := by
        rcases hmn with ⟨_, k, _⟩ | k
        · simp only [] at k; rw [k]; decide
        · exact (hmv k).len
      have HRV : Hid (rn = 0 → validB re rl = true ∧ (re.bytes.size : Int) = re.st.size ∧ re.st.size ≤ 65536) := Lib.hid (fun k => ⟨val_iff.2 (hmv k), (hmv k).bs, (hmv k).sz⟩)
      have HST : Hid (rn = 0 → re.st = a.st ∨ re.st = b.st) := Lib.hid hst
      clear hst hmn hmv hr
      go_wp2_with (first
        | (go_at_call 9; refine (show Hid _ from ?_).out)
        | (go_at_call 11; refine (show Hid _ from ?_).out)
        | (go_at_call 12; refine (show Hid _ from ?_).out)
        | (go_at_call 13; refine (show Hid _ from ?_).out)
        | (go_at_call 14; refine (show Hid _ from ?_).out)
        | (go_at_call 10; refine (show Hid _ from ?_).out))
      refine Lib.hid ?_
      refine (HPa.out _ (HX0.out.onto _)).mono ?_
      rintro e' w' ⟨A1, c1, rfl, _, _, hr1, hx1⟩
      have HQ1 := Lib.hid hr1
      obtain ⟨xh, rfl⟩ := hx1.asLater
      obtain ⟨y, hy⟩ : ∃ y, ({ re with hv := .slice A1 rl.length c1 } : En) = y := ⟨_, rfl⟩
      have hvy : y.hv = .slice A1 rl.length c1 := by rw [← hy]
      have hfy : fitsRow 45 (entC y) = true := ent_fits_of hvy
      have HY := Lib.hid hy
      simp only [hy]
      clear hr1 hx1 hy HPa
      go_wp2_with (first
        | (go_at_call 9; refine (show Hid _ from ?_).out)
        | (go_at_call 11; refine (show Hid _ from ?_).out)
        | (go_at_call 12; refine (show Hid _ from ?_).out)
        | (go_at_call 13; refine (show Hid _ from ?_).out)
        | (go_at_call 14; refine (show Hid _ from ?_).out)
        | (go_at_call 10; refine (show Hid _ from ?_).out))
      refine Lib.hid ?_
      refine calls_world (fun W => Ext w W ∧ RowAt W w.heap.size (entC a) ∧ RowAt W (w.heap.size + 1) (entC b) ∧ RowAt W (W0.heap.size + ((xa.comp xb).comp xh).n) (entC y) ∧ ReadsSp W W.heap.size A1 rl) ⟨Ext.setCells ((HX0.out.onto _).alloc _) (by have := HX0.out.size; simp only [later_size, Later.comp_n]; omega) _ _, RowAt.others ((HR0.out.later _).alloc _) (by simp only [later_size, Later.comp_n]; omega) _ _, RowAt.others ((HR1.out.later _).alloc _) (by simp only [later_size, Later.comp_n]; omega) _ _, (RowAt.newAt (cs := entC noEn) (t := 31) (by simp [later_size])).store (by rw [ent_size, ent_size]), HQ1.out.on (Ext.setCells ((Ext.refl _).alloc _) (by simp only [later_size, Later.comp_n] <;> omega) _ _)⟩ ?_
      generalize W0.heap.size + ((xa.comp xb).comp xh).n = B5
      rintro W4 ⟨x4, r4a, r4b, r4, q4⟩
      have HX4 := Lib.hid x4
      have HR4a := Lib.hid r4a
      have HR4b := Lib.hid r4b
      have HR4 := Lib.hid r4
      have HQ4 := Lib.hid q4
      have hl4 := r4.lt
      have hl4a := r4a.lt
      have hl4b := r4b.lt
      clear x4 r4a r4b r4 q4 HQ1 HX0 HR0 HR1 hl0 hl1 row0 row1
      refine (HPb.out _ HX4.out).mono ?_
      rintro e' w' ⟨A2, c2, rfl, _, _, hr2, hx2⟩
      have HQ2 := Lib.hid hr2
      obtain ⟨xj, rfl⟩ := hx2.asLater
      obtain ⟨z, hzz⟩ : ∃ z, ({ re with hv := .slice A2 rl.length c2 } : En) = z := ⟨_, rfl⟩
      have hvz : z.hv = .slice A2 rl.length c2 := by rw [← hzz]
      have hfz : fitsRow 46 (gotC z rn) = true := got_fits_of rn hvz
      have HZz := Lib.hid hzz
      simp only [hzz]
      clear hr2 hx2 hzz HPb
      go_upto_region 7 with (fail)
      refine wp_world (fun W => Ext W4 W ∧ RowAt W (W4.heap.size + xj.n) (gotC z rn) ∧ ReadsSp W W.heap.size A2 rl) ⟨(by (repeat (first | with_reducible exact Ext.refl _ | with_reducible exact Ext.refl _ | with_reducible refine Ext.drew ?_ | with_reducible refine Ext.drewN ?_ _ | with_reducible refine Ext.alloc ?_ _ | with_reducible refine Ext.onto ?_ _ | (with_reducible refine Ext.setCells ?_ ?_ _ _; rotate_left; focus (first | omega | (simp; done) | (simp; omega))) | (with_reducible refine Ext.setCell ?_ ?_ _; rotate_left; focus (first | omega | (simp; done) | (simp; omega)))))), RowAt.store (RowAt.newAt (cs := gotC noEn 0) (t := 38) (by simp [later_size])) (by rw [got_size, got_size]), HQ2.out.on (Ext.setCells ((Ext.refl _).alloc _) (by simp only [later_size, Later.comp_n] <;> omega) _ _)⟩ ?_
      generalize W4.heap.size + xj.n = B6
      rintro W5 ⟨x5, r5, q5⟩
      have HX5 := Lib.hid x5
      have HQ5 := Lib.hid q5
      have HXa : Hid (Ext w W5) := Lib.hid (HX4.out.trans x5)
      have hra := HR4a.out.ext x5
      have hrb := HR4b.out.ext x5
      have hry := HR4.out.ext x5
      have row0 : rowOf W5 w.heap.size 0 41 = some (stmC a.st) := by rw [hra.row, if_neg (by omega), ent_stm]
      have row1 : rowOf W5 (w.heap.size + 1) 0 41 = some (stmC b.st) := by rw [hrb.row, if_neg (by omega), ent_stm]
      have rowy : rowOf W5 B5 0 45 = some (entC y) := hry.all (ent_size _).symm (by omega)
      have rowz : rowOf W5 B6 0 45 = some (entC z) := by rw [r5.row, if_neg (by omega), got_ent]
      have c45 : W5.cell? ⟨B6, 45, none⟩ = some (.int .i64 rn) := r5.cell 45
      have hl0 := hra.lt
      have hl1 := hrb.lt
      have hly := hry.lt
      have hlz := r5.lt
      have HQy : Hid (ReadsSp W5 W5.heap.size A1 rl) := Lib.hid (HQ4.out.on x5)
      clear x5 r5 q5 HQ2 hra hrb hry HQ4 HR4a HR4b HR4 hl4 hl4a hl4b
      go_wp2_with (first
        | (go_at_call 9; refine (show Hid _ from ?_).out)
        | (go_at_call 11; refine (show Hid _ from ?_).out)
        | (go_at_call 12; refine (show Hid _ from ?_).out)
        | (go_at_call 13; refine (show Hid _ from ?_).out)
        | (go_at_call 14; refine (show Hid _ from ?_).out)
        | (go_at_call 10; refine (show Hid _ from ?_).out))
      refine Lib.hid ?_
      have hsm := same_any y A1 A2 c1 c2 rl W5 hvy (by omega) HQy.out HQ5.out
      rw [show ({ y with hv := .slice A2 rl.length c2 } : En) = z by rw [← HY.out, ← HZz.out]] at hsm
      refine hsm.mono ?_
      clear hsm
      rintro e' w' ⟨rfl, hxl⟩; obtain ⟨xm, rfl⟩ := hxl.asLater; clear hxl
      have HBt := Lib.hid (fun W => better_any a.st b.st W HA.out.hb HA.out.hs HB.out.hb HB.out.hs)
      have HCt := Lib.hid (fun W => rcompare_any a.st b.st W HVa.out.mild HVb.out.mild)
      have HCP := cmp_pos a.st b.st
      by_cases hz : rn = 0
      · subst hz
        go_wp2_with (first
          | (go_at_call 9; refine (show Hid _ from ?_).out)
          | (go_at_call 11; refine (show Hid _ from ?_).out)
          | (go_at_call 12; refine (show Hid _ from ?_).out)
          | (go_at_call 13; refine (show Hid _ from ?_).out)
          | (go_at_call 14; refine (show Hid _ from ?_).out)
          | (go_at_call 10; refine (show Hid _ from ?_).out))
        refine Lib.hid ?_
        have hyst : y.st = a.st ∨ y.st = b.st := by rw [← HY.out]; exact HST.out (by simp)
        have hyby : y.bytes.size = re.bytes.size := by rw [← HY.out]
        have hyv : validB y rl = true := by rw [← HY.out]; exact (HRV.out (by simp)).1
        have hyin : y.st.addr.size ≤ 9223372036854775807 ∧ y.st.var.size ≤ 9223372036854775807 ∧ y.st.tags.size ≤ 9223372036854775807 ∧ y.st.body.length = 16 ∧ Byt y.st.body := by
          rcases hyst with k | k
          · rw [k]; exact ⟨HA.out.h1, HA.out.h2, HA.out.h3, HA.out.hb, HA.out.hby⟩
          · rw [k]; exact ⟨HB.out.h1, HB.out.h2, HB.out.h3, HB.out.hb, HB.out.hby⟩
        have hbs := HRV.out (by simp)
        refine (rvalidE_any y A1 c1 rl _ hvy (by omega) hyin.1 hyin.2.1 hyin.2.2.1 (by omega) hyin.2.2.2.1 hyin.2.2.2.2 (RowAt.ext HRK.out (HXa.out.onto _)) (HQy.out.on (ext_later _ _))).mono ?_
        rw [hyv]
        clear hyst hyby hyv hyin hbs
        rintro e' w' ⟨rfl, hxl⟩; obtain ⟨xo, rfl⟩ := hxl.asLater; clear hxl
        go_upto_region 9 with (fail)
        refine wp_region_later (by kernel_rfl) (by kernel_rfl) ?_
        repeat (first | go_big_quiet_step ((first | (go_at_call 10; exact quietE (HSan.out _ ((HXa.out.onto _).onto _))) | (go_at_call 15; exact quietE (HBt.out _)) | (go_at_call 16; exact quietE (HCt.out _)))) | quiet_step ((first | (go_at_call 10; exact quietE (HSan.out _ ((HXa.out.onto _).onto _))) | (go_at_call 15; exact quietE (HBt.out _)) | (go_at_call 16; exact quietE (HCt.out _)))))
        refine wpQuiet_nil ?_
        rintro _ ⟨xq, rfl⟩
        go_wp2
        go_ret
        exact ⟨rfl, (HXa.out.onto _).onto _⟩
      · have d0 : (rn == 0) = false := by simpa using hz
        clear hz
        go_upto_region 9 with (fail)
        refine wp_region_later (by kernel_rfl) (by kernel_rfl) ?_
        repeat (first | go_big_quiet_step ((first | (go_at_call 10; exact quietE (HSan.out _ ((HXa.out.onto _).onto _))) | (go_at_call 15; exact quietE (HBt.out _)) | (go_at_call 16; exact quietE (HCt.out _)))) | quiet_step ((first | (go_at_call 10; exact quietE (HSan.out _ ((HXa.out.onto _).onto _))) | (go_at_call 15; exact quietE (HBt.out _)) | (go_at_call 16; exact quietE (HCt.out _)))))
        refine wpQuiet_nil ?_
        rintro _ ⟨xq, rfl⟩
        go_wp2
        go_ret
        exact ⟨rfl, (HXa.out.onto _).onto _⟩
end Go.Proofs.YthhblgjbgjceiaaGreatDoor
