/- CheckConfirm of both sides. -/
import Derived.WalkKit
import Derived.WalkSpells
import Derived.WalkLawsBesides
import Derived.Deep.QuietTactic
import Derived.BigQuiet
import Derived.Test.YtpojnhikgjcgmaaGreatDoorEOz
set_option linter.unusedVariables false
set_option linter.unusedSimpArgs false
namespace Go.Proofs.YtpojnhikgjcgmaaGreatDoor
open Go.RowKit Go.Shelf
open Go.Proofs
theorem arr_reads {w : World} {b o : Nat} {l : List Int} (h : rowOf w b o 16 = some (dgC l)) (h16 : l.length = 16) (hb : b < w.heap.size) : ReadsB w w.heap.size (some ⟨b, o, none⟩) l := by
 intro _
 refine ⟨b, o, rfl, hb, fun i hi j v hv => ?_⟩
 have hj : j = 0 := by
  have := (List.getElem?_eq_some_iff.1 hv).1
  simp [encB] at this
  omega
 subst hj
 simp only [encB, List.getElem?_cons_zero, Option.some.injEq] at hv
 subst hv
 rw [dgC_cells h16] at h
 have hc := rowOf_cell h (i := i) (by omega)
 rw [cells8_get, h16, if_pos (by omega)] at hc
 rw [Nat.mul_one, Nat.add_zero, hc]
 simp [hi]
theorem reads_freshB {α : Type} {size : Nat} {enc : α → List Value} (E : EncTy enc size) (l : List α) (W : World) (cs : Array Value) (t : TypeId) (h : cs.toList = l.flatMap enc) (b : Nat) (hb : b = W.heap.size) : Reads size enc (W.alloc (.cells cs t)) (W.alloc (.cells cs t)).heap.size (some ⟨b, 0, none⟩) l := by
 subst hb
 exact reads_fresh E l W cs t h
def ringAt (l : List Ky) (i : Nat) : Bool := okKy (l.getD i noKy) && (decide (i = 0) || befK (l.getD (i - 1) noKy) (l.getD i noKy))
def ringB (l : List Ky) : Bool := (List.range l.length).all (ringAt l) && decide ((l.length : Int) ≤ 1000)
theorem ringB_is {l : List Ky} (h : ringB l = true) : RingOk l := by
 simp only [ringB, Bool.and_eq_true, List.all_eq_true, List.mem_range, decide_eq_true_eq] at h
 obtain ⟨h1, h2⟩ := h
 refine ⟨fun k hk => ?_, fun i hi => ?_, by omega⟩
 ·obtain ⟨i, hi, rfl⟩ := List.getElem_of_mem hk
  have := h1 i hi
  simp only [ringAt, Bool.and_eq_true, List.getD_eq_getElem?_getD, List.getElem?_eq_getElem hi, Option.getD_some] at this
  exact this.1
 ·have := h1 (i + 1) hi
  simp only [ringAt, Bool.and_eq_true, Bool.or_eq_true, decide_eq_true_eq, List.getD_eq_getElem?_getD, List.getElem?_eq_getElem hi, Option.getD_some, Nat.add_sub_cancel, List.getElem?_eq_getElem (show i < l.length by omega)] at this
  rcases this.2 with h | h
  ·omega
  ·exact h
theorem fnd_ty : RowTy Tryz.prog 236 6 := ⟨by kernel_rfl, by kernel_rfl⟩
theorem fnd_ld (w : World) (b o : Nat) : (rowLoad 236 6 (.pointer (some ⟨b, o, none⟩))).run Tryz.prog w = rowLoadR Tryz.prog w 236 6 b o (rowOf w b o 6) := run_rowLoad fnd_ty w b o
theorem fnd_st (w : World) (b o : Nat) (cells : Array Value) : (rowStore 236 6 (.pointer (some ⟨b, o, none⟩)) (.agg cells)).run Tryz.prog w = rowStoreR Tryz.prog w 236 6 b o cells (roomOf w b o 6 && fitsRow 6 cells) := run_rowStore fnd_ty w b o cells
theorem fnd_xl (ρ : Operand → Value) (dst : Option Tmp) (x : Operand) (t : TypeId) (pos : String) (after : Array Edge) (guard : Option (Nat × Bool)) : execOp ρ { dst, op := .load 236 x, type := t, pos, after, guard } = rowLoad 236 6 (ρ x) := rfl
theorem fnd_xs (ρ : Operand → Value) (dst : Option Tmp) (x y : Operand) (t : TypeId) (pos : String) (after : Array Edge) (guard : Option (Nat × Bool)) : execOp ρ { dst, op := .store 236 x y, type := t, pos, after, guard } = rowStore 236 6 (ρ x) (ρ y) := rfl
theorem fnd_xa (ρ : Operand → Value) (dst : Option Tmp) (t : TypeId) (pos : String) (after : Array Edge) (guard : Option (Nat × Bool)) : execOp ρ { dst, op := .alloc 236, type := t, pos, after, guard } = rowAlloc 236 := rfl
attribute [go_sem ↓] fnd_xl fnd_xs fnd_xa
attribute [go_sem] fnd_ld fnd_st
def fndB1 (x : Value) : Sem Next := do pure (.value (← Instr.build 236 #[(1, x)]))
theorem fndB1_x (ρ : Operand → Value) (dst : Option Tmp) (x : Operand) (t : TypeId) (pos : String) (after : Array Edge) (guard : Option (Nat × Bool)) : execOp ρ { dst, op := .build 236 #[(1, x)], type := t, pos, after, guard } = fndB1 (ρ x) := by kernel_rfl
def fndB0 (x : Value) : Sem Next := do pure (.value (← Instr.build 236 #[(0, x)]))
theorem fndB0_x (ρ : Operand → Value) (dst : Option Tmp) (x : Operand) (t : TypeId) (pos : String) (after : Array Edge) (guard : Option (Nat × Bool)) : execOp ρ { dst, op := .build 236 #[(0, x)], type := t, pos, after, guard } = fndB0 (ρ x) := by kernel_rfl
attribute [go_sem ↓] fndB1_x fndB0_x
noncomputable def checkR (l : List Ky) (p s tag : Int) (parts : List ByteArray) (sel : List Int) (lo hi : Int) : Int := checkOut (keyF l p s) (keyE l p s) tag parts sel lo hi
theorem keyF_secret {l : List Ky} (h : RingOk l) {p s : Int} (h0 : keyE l p s = 0) : (keyF l p s).secret.size ≤ 64 := by
 unfold keyE at h0
 unfold keyF
 cases hk : keyN l p s with
 | none => rw [hk] at h0; simp at h0
 | some k => exact (okKy_lims (h.ok k (keyN_zero hk).1)).2.2.2.2.2.1
theorem lens_key {k : Ky} {parts : List ByteArray} (hs : k.secret.size ≤ 64) (hl : lens parts ≤ 1000000000000) : lens ([k.secret] ++ parts ++ [k.secret]) < 8796093022208 := by
 rw [lens_append, lens_append, lens_one]
 omega
theorem scheck_ring (Ar : Option Addr) (cr : Nat) (l : List Ky) (p s tag : Int) (A : Option Addr) (c : Nat) (parts : List ByteArray) (sel : List Int) (lo hi : Int) (w : World) (hg : RingOk l) (hrk : ReadsKy w w.heap.size Ar l) (hp : small40 p) (hs : i64 s) (hd : DgOk sel) (hr : ReadsStr w w.heap.size A parts) (hz : A = none → c = 0) (hl : lens parts ≤ 1000000000000) (hk : Konst 0 w) :
  Calls Tryz.prog 131 #[.slice Ar l.length cr, .int .i64 p, .int .i64 s, .int .i64 tag, .slice A parts.length c, .agg (dgC sel), .agg #[.int .i64 lo, .int .i64 hi]] w fun e w' => e = .returned (.int .i64 (checkR l p s tag parts sel lo hi)) ∧ Ext w w' :=
 scheck_any Ar l.length cr p s tag A c parts sel lo hi (keyF l p s) (keyE l p s) w hd.len hd.byt hr hz (fun h0 => lens_key (keyF_secret hg h0) hl) hk (fun W hx => kfind_ring Ar cr l p s W hg (hrk.on hx) hp hs)
abbrev KonstP (w : World) : Prop := Konst 0 w
end Go.Proofs.YtpojnhikgjcgmaaGreatDoor