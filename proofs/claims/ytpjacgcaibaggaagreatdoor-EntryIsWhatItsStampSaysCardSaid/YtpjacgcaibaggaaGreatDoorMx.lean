/- Walk of law 35: EntryMergesAsSpecified. -/
import Derived.Test.YtpjacgcaibaggaaGreatDoorProg
import Derived.Test.YtpjacgcaibaggaaGreatDoorExt
import Derived.WalkKit
import Derived.WalkSpells
import Derived.WalkLawsBesides
import Derived.Deep.QuietTactic
import Derived.BigQuiet
import Derived.Test.YtpjacgcaibaggaaGreatDoorMi
import Derived.Test.YtpjacgcaibaggaaGreatDoorMm
import Derived.Test.YtpjacgcaibaggaaGreatDoorEt
import Derived.Test.YtpjacgcaibaggaaGreatDoorMu
set_option linter.unusedVariables false
set_option linter.unusedSimpArgs false
namespace Go.Proofs.YtpjacgcaibaggaaGreatDoor
open Go.RowKit Go.Shelf
open Go.Proofs
open Go.Proofs.Sp (Sp)

def HitIs (e2 : Value → En) (l : List Sp) (ok : Bool) (w : World) (e' : Ending) (w' : World) : Prop := ∃ A' c', e' = .returned (.tuple #[.agg (entC (e2 (.slice A' l.length c'))), .bool ok]) ∧ OwnsSp w.heap.size w' A' c' l ∧ Ext w w'
def partN (e : En) (s1 s2 : Int) : ByteArray × Int :=
  if e.whole = false then (⟨#[]⟩, 4) else if s1 < 0 ∨ s2 < s1 ∨ e.st.size < s2 then (⟨#[]⟩, 70) else (e.bytes.extract s1.toNat s2.toNat, 0)
theorem dg_self (a0 a1 a2 a3 a4 a5 a6 a7 a8 a9 a10 a11 a12 a13 a14 a15 : Int) (W : World) : (Op.equalIn 9999 24 (.agg #[.int .u8 a0, .int .u8 a1, .int .u8 a2, .int .u8 a3, .int .u8 a4, .int .u8 a5, .int .u8 a6, .int .u8 a7, .int .u8 a8, .int .u8 a9, .int .u8 a10, .int .u8 a11, .int .u8 a12, .int .u8 a13, .int .u8 a14, .int .u8 a15]) (.agg #[.int .u8 a0, .int .u8 a1, .int .u8 a2, .int .u8 a3, .int .u8 a4, .int .u8 a5, .int .u8 a6, .int .u8 a7, .int .u8 a8, .int .u8 a9, .int .u8 a10, .int .u8 a11, .int .u8 a12, .int .u8 a13, .int .u8 a14, .int .u8 a15])).run Tryz.prog W = .ok true W := by
  have hc : Tryz.prog.cellsOf 5 = 1 := by kernel_rfl
  have hr : List.range 16 = [0, 1, 2, 3, 4, 5, 6, 7, 8, 9, 10, 11, 12, 13, 14, 15] := by decide
  have hinf : (Tryz.prog.info? 5).map (fun i => (i.zero, i.size, i.bytes)) = some (some (.int .u8 0), 1, 1) := by kernel_rfl
  obtain ⟨i, hi, _, _, _⟩ := info_parts hinf
  rw [run_equalIn_array W 9998 (t := 24) (e := 5) (n := 16) _ _ (by kernel_rfl) hi, hc, hr]
  simp [Op.eqItems, go_sem]
theorem sl_self (a0 a1 a2 a3 a4 a5 a6 a7 a8 a9 a10 a11 a12 a13 a14 a15 : Int) (W : World) : (Op.equalIn 9999 46 (.agg #[.int .u8 a0, .int .u8 a1, .int .u8 a2, .int .u8 a3, .int .u8 a4, .int .u8 a5, .int .u8 a6, .int .u8 a7, .int .u8 a8, .int .u8 a9, .int .u8 a10, .int .u8 a11, .int .u8 a12, .int .u8 a13, .int .u8 a14, .int .u8 a15]) (.agg #[.int .u8 a0, .int .u8 a1, .int .u8 a2, .int .u8 a3, .int .u8 a4, .int .u8 a5, .int .u8 a6, .int .u8 a7, .int .u8 a8, .int .u8 a9, .int .u8 a10, .int .u8 a11, .int .u8 a12, .int .u8 a13, .int .u8 a14, .int .u8 a15])).run Tryz.prog W = .ok true W := by
  have hc : Tryz.prog.cellsOf 5 = 1 := by kernel_rfl
  have hr : List.range 16 = [0, 1, 2, 3, 4, 5, 6, 7, 8, 9, 10, 11, 12, 13, 14, 15] := by decide
  have hinf : (Tryz.prog.info? 5).map (fun i => (i.zero, i.size, i.bytes)) = some (some (.int .u8 0), 1, 1) := by kernel_rfl
  obtain ⟨i, hi, _, _, _⟩ := info_parts hinf
  rw [run_equalIn_array W 9998 (t := 46) (e := 5) (n := 16) _ _ (by kernel_rfl) hi, hc, hr]
  simp [Op.eqItems, go_sem]
theorem stm_self (s : St) (W : World) : (binOp .neq 48 (.agg (stmC s)) (.agg (stmC s))).run Tryz.prog W = .ok (.bool false) W := by
  rw [run_neq_struct]
  simp [go_sem, stmC, stmL, dgC, dg_self, sl_self]
attribute [go_sem ↓] stm_self
end Go.Proofs.YtpjacgcaibaggaaGreatDoor

namespace Go.Proofs.YtpjacgcaibaggaaGreatDoor
open Go.RowKit Go.Shelf
open Go.Proofs
open Go.Proofs.Sp (Sp)

structure StIn (s : St) : Prop where
  h1 : s.addr.size ≤ 9223372036854775807
  h2 : s.var.size ≤ 9223372036854775807
  h3 : s.tags.size ≤ 9223372036854775807
  hb : s.body.length = 16
  hby : Byt s.body
theorem begin_hv (s : St) : (beginN s).1.hv = .slice none 0 0 := by
  unfold beginN
  split
  · rfl
  · split
    · rfl
    · split <;> rfl
theorem begin_val {s : St} (h : (beginN s).2 = 0) : validB (beginN s).1 [] = true := by
  unfold beginN at h ⊢
  split at h
  · exact absurd h (by decide)
  · rename_i h1
    rw [if_neg h1]
    split at h
    · exact absurd h (by decide)
    · rename_i h2
      rw [if_neg h2]
      split at h
      · exact absurd h (by decide)
      · rename_i h3
        rw [if_neg h3]
        refine val_iff.2 (empty_val s false (by simpa using h1) (by omega) (fun e => ?_))
        by_cases hh : s.body = Wire.digest 34 [[]]
        · exact hh.symm
        · exact absurd ⟨e, hh⟩ h3
theorem begin_st (s : St) : (beginN s).1.st = s ∨ (beginN s).1 = noEn := by
  unfold beginN
  split
  · exact .inr rfl
  · split
    · exact .inr rfl
    · split
      · exact .inr rfl
      · exact .inl rfl
theorem zeros16 : Byt (zeros32 16) := fun x hx => by
  have := List.eq_of_mem_replicate hx
  omega
theorem begin_in {s : St} (h : StIn s) : StIn (beginN s).1.st := by
  rcases begin_st s with k | k
  · rw [k]; exact h
  · rw [k]; exact ⟨by decide, by decide, by decide, by decide, zeros16⟩
theorem begin_bytes {s : St} (h : (beginN s).2 = 0) : (beginN s).1.bytes.size ≤ 65536 := by
  have hv := val_iff.1 (begin_val h)
  have h1 := hv.bs
  have h2 := hv.sz
  omega
theorem alloc_setCells_cell (w : World) (c cs : Array Value) (t : TypeId) (b m j : Nat) : ((w.alloc (.cells c t)).setCells b 0 cs.toList).cell? ⟨m, j, none⟩ = if m = b then (if b = w.heap.size then (if cs.size = c.size then cs[j]? else lostCell ((w.alloc (.cells c t)).setCells b 0 cs.toList) m j) else lostCell ((w.alloc (.cells c t)).setCells b 0 cs.toList) m j) else (w.alloc (.cells c t)).cell? ⟨m, j, none⟩ := by
  by_cases h : m = b
  · rw [if_pos h]
    by_cases hb : b = w.heap.size
    · rw [if_pos hb]
      by_cases hs : cs.size = c.size
      · rw [if_pos hs, h]
        exact ((RowAt.newAt hb).store hs).cell j
      · rw [if_neg hs]; rfl
    · rw [if_neg hb]; rfl
  · rw [if_neg h, setCells_cell_if, if_neg (fun k => h k.1)]
attribute [local go_sem ↓] setCells_cell_or
attribute [local go_sem ↓ 2000] alloc_setCells_cell
def putsSoft (e : En) (m : List Sp) (s1 s2 : Int) (base : Nat) : Nat → Soft
  | 0 => .eq (.agg (entC e))
  | 1 => .eq (.agg #[.int .i64 s1, .int .i64 s2])
  | 2 => ownSoft m base
  | 3 => .eq (.agg (entC e))
  | 4 => .eq (.agg #[.int .i64 s1, .int .i64 s2])
  | 5 => ownSoft m base
  | _ => .eq (.bool true)
theorem missN_len (e : En) (l : List Sp) (s1 s2 : Int) (h0 : 0 ≤ e.st.size) (h1 : e.st.size ≤ 65536) : (missN e l s1 s2).length ≤ 65536 := by
  unfold missN
  split
  · simp
  · have h := rMissing_spec l (max s1 0, min s2 e.st.size)
    have h2 : SetIn (rMissing l (max s1 0, min s2 e.st.size)) e.st.size := SetIn.of_mem h.1 (fun x hx => by
      have k1 : max s1 0 ≤ x := ((h.2 x).1 hx).1.1
      have k2 : x < min s2 e.st.size := ((h.2 x).1 hx).1.2
      omega)
    have := h2.len h0
    omega
def smallD (s : St) (more : ByteArray) : Prop := decide (5000 < (s.addr.size : Int)) = false ∧ decide (5000 < (s.var.size : Int)) = false ∧ decide (5000 < (s.tags.size : Int)) = false ∧ decide (3000 < (more.size : Int)) = false
end Go.Proofs.YtpjacgcaibaggaaGreatDoor

namespace Go.Proofs.YtpjacgcaibaggaaGreatDoor
open Go.RowKit Go.Shelf
open Go.Proofs
open Go.Proofs.Sp (Sp)

theorem fine_val {e : En} {l : List Sp} (h : fineB e l = true) : Val e l := by
  simp only [fineB, Bool.and_eq_true] at h
  exact val_iff.1 h.2
theorem vin_of {e : En} {A : Option Addr} {c : Nat} {l : List Sp} {w : World} (h : EntIn e A c l w) (hf : fineB e l = true) : VIn e A c l w := ⟨h.hv, fine_val hf, h.hb, h.hby, h.hs, h.hA, h.z, h.hr⟩
theorem merge_st (a b : En) (la lb : List Sp) (hn : (mergeN a b la lb).n = 0) : (mergeN a b la lb).e.st = a.st ∨ (mergeN a b la lb).e.st = b.st := by
  have hb := best_is a b la lb
  unfold mergeN at hn ⊢
  split at hn
  · exact absurd hn (by decide)
  · rename_i h1
    rw [if_neg h1]
    split
    · exact hb.imp (·.1) (·.1)
    · split
      · exact hb.imp (·.1) (·.1)
      · split
        · exact hb.imp (·.1) (·.1)
        · have := (settle_st (bestN a b la lb).e (addAll la lb) (mrgB b.bytes lb a.bytes)).1
          exact hb.imp (fun k => this.trans k.1) (fun k => this.trans k.1)
theorem merge_n (a b : En) (la lb : List Sp) : ((mergeN a b la lb).n = 5 ∧ (mergeN a b la lb).l = [] ∧ (mergeN a b la lb).e = noEn) ∨ (mergeN a b la lb).n = 0 := by
  have hb : (bestN a b la lb).n = 0 := by
    unfold bestN
    split
    · split <;> rfl
    · split <;> rfl
  unfold mergeN
  split
  · exact .inl ⟨rfl, rfl, rfl⟩
  · split
    · exact .inr hb
    · split
      · exact .inr rfl
      · split
        · exact .inr rfl
        · exact .inr rfl
theorem cmp_pos (a b : St) : (decide (0 < cmpN a b) == decide (0 < rcmpN a b)) = true := by
  have h := (cmp_alike a b).2
  rw [beq_iff_eq, decide_eq_decide]
  exact h.symm
end Go.Proofs.YtpjacgcaibaggaaGreatDoor
