/- Light words: lists of texts, fresh slices, soft relations of slices that are read; weirgateref01.Ints. -/
import Derived.WalkKit
import Derived.WalkSpells
import Derived.WalkLawsBesides
import Derived.Deep.QuietTactic
import Derived.BigQuiet
import Derived.Lib.ConvBytes
import Derived.Test.YtmgekdggahoboaaGreatDoorVSla
import Derived.Test.YtmgekdggahoboaaGreatDoorVSoF
set_option maxRecDepth 100000
set_option maxHeartbeats 64000000
set_option linter.unusedVariables false
set_option linter.unusedSimpArgs false
namespace Go.Proofs.YtmgekdggahoboaaGreatDoor
open Go.RowKit Go.Shelf
open Go.Proofs
def ByteAt (w : World) (b : Nat) (l : List Int) : Prop := b < w.heap.size ∧ ∀ j, j < l.length → w.cell? ⟨b, j, none⟩ = some (.int .u8 (l.getD j 0)) ∧ w.frozen? ⟨b, j, none⟩ = false
theorem ByteAt.ext {w w' : World} {b : Nat} {l : List Int} (h : ByteAt w b l) (hx : Ext w w') : ByteAt w' b l :=
 ⟨Nat.lt_of_lt_of_le h.1 hx.size, fun j hj => ⟨(hx.cell (p := ⟨b, j, none⟩) h.1).trans (h.2 j hj).1, (hx.frozen (p := ⟨b, j, none⟩) h.1).trans (h.2 j hj).2⟩⟩
theorem ByteAt.room {w : World} {b : Nat} {l : List Int} (h : ByteAt w b l) (o n : Nat) (hn : o + n ≤ l.length) : roomOf w b o n = true := by
 unfold roomOf
 rw [decide_eq_true_iff]
 intro i hi
 have := h.2 (o + i) (by omega)
 rw [this.1, this.2]
 exact ⟨rfl, rfl⟩
theorem ByteAt.reads {w : World} {b : Nat} {l : List Int} (h : ByteAt w b l) : ReadsB w w.heap.size (some ⟨b, 0, none⟩) l := by
 intro h0
 refine ⟨b, 0, rfl, h.1, fun i hi j v hv => ?_⟩
 have hj : j = 0 := by
  have := (List.getElem?_eq_some_iff.1 hv).1
  simp [encB] at this; omega
 subst hj
 simp only [encB, List.getElem?_cons_zero, Option.some.injEq] at hv
 subst hv
 have := (h.2 i hi).1
 rw [Nat.mul_one, Nat.zero_add, Nat.add_zero, this]
 simp [hi]
theorem ext_bytes (w : World) (e : TypeId) (s : ByteArray) : Ext w (Lib.bytesWorld w e s) := ⟨rfl, rfl, rfl, by rw [Lib.bytesWorld_size]; omega, fun k hk => Lib.bytesWorld_at_old w e s k hk⟩
theorem bytes_at (w : World) (e : TypeId) (s : ByteArray) : ByteAt (Lib.bytesWorld w e s) w.heap.size (bts s) := by
 refine ⟨by rw [Lib.bytesWorld_size]; omega, fun j hj => ?_⟩
 rw [bts_length] at hj
 refine ⟨?_, ?_⟩
 ·rw [Lib.bytesWorld_cell w e s j hj, bts_get s j hj]
  simp [hj]
  rfl
 ·simp only [World.frozen?, Lib.bytesWorld_at_new]
  have hc : s.size ≤ (Lib.bytesCells w e s).size := by simp [Lib.bytesCells]
  simp
  omega
theorem strConv (w : World) (s : ByteArray) : (convert 9 154 (.string s)).run Tryz.prog w = .ok (.slice (some ⟨w.heap.size, 0, none⟩) s.size (grownCap w s.size 0 5)) (Lib.bytesWorld w 5 s) := Lib.run_convert_string_bytes w _ _ _ s (u := .string) (by kernel_rfl) (by kernel_rfl) (by kernel_rfl)
end Go.Proofs.YtmgekdggahoboaaGreatDoor

namespace Go.Proofs.YtmgekdggahoboaaGreatDoor
open Go.RowKit
open Go.Proofs
abbrev ReadsStr (w : World) (B : Nat) (A : Option Addr) (l : List ByteArray) : Prop := Reads 1 encStr w B A l
theorem strT : ElemTy Tryz.prog 44 9 1 16 := ⟨by kernel_rfl, by kernel_rfl, by omega⟩
def softsL (L : List Soft) (i : Nat) : Soft := L.getD i Soft.any
def readI (ls : List Int) : Soft := ⟨fun v w => ∃ A c, v = .slice A ls.length c ∧ ReadsInt w w.heap.size A ls, fun v w w' ⟨A, c, h1, h2⟩ hx => ⟨A, c, h1, h2.on hx⟩⟩
theorem reads_fresh {α : Type} {size : Nat} {enc : α → List Value} (E : EncTy enc size) (l : List α) (W : World) (cs : Array Value) (t : TypeId) (h : cs.toList = l.flatMap enc) : Reads size enc (W.alloc (.cells cs t)) (W.alloc (.cells cs t)).heap.size (some ⟨W.heap.size, 0, none⟩) l := by
 intro _
 refine ⟨W.heap.size, 0, rfl, by simp, fun i hi j v hv => ?_⟩
 rw [World.cell?_alloc_at _ _ _ _ rfl]
 have hj : j < size := by
  have := (List.getElem?_eq_some_iff.1 hv).1
  rwa [E.len] at this
 have k := E.flat_get l i hi j hj
 rw [hv, ← h] at k
 simpa using k
def readS (ls : List ByteArray) : Soft := ⟨fun v w => ∃ A c, v = .slice A ls.length c ∧ ReadsStr w w.heap.size A ls ∧ (A = none → c = 0), fun v w w' ⟨A, c, h1, h2, h3⟩ hx => ⟨A, c, h1, h2.on hx, h3⟩⟩
def readBy (ls : List Int) : Soft := ⟨fun v w => ∃ A c, v = .slice A ls.length c ∧ ReadsB w w.heap.size A ls, fun v w w' ⟨A, c, h1, h2⟩ hx => ⟨A, c, h1, h2.on hx⟩⟩
theorem rwints_ok (A : Option Addr) (c : Nat) (l : List Int) (w : World) (hl : l.length ≤ 100000) (hr : ReadsInt w w.heap.size A l) (hi : ∀ x ∈ l, i64 x) :
  Calls Tryz.prog 87 #[.slice A l.length c] w (BytesIs (encInts l) w) := by
 have HR := lh hr
 have HI := lh hi
 clear hr hi
 have HE : Hid (intsTo l.length l = encInts l) := lh rfl
 go_enter Tryz.func87, Tryz.ntmps87
 go_wp2_with (go_at_call 138; refine (rint_ok _ _ (by omega) (by omega)).mono ?_; rintro e w1 ⟨A1, c1, rfl, ho, hx⟩; have HO1 := lh ho; have HX1 := lh hx; clear ho hx)
 go_loopw [3, 4] (fun o i wr => ∃ (A2 : Option Addr) (c2 : Nat) (out : List Int) (k : Nat), o = .slice A2 out.length c2 ∧ i = .int .i64 k ∧ k ≤ l.length ∧ Hid (out = intsTo l.length (l.take k)) ∧ Hid (OwnsB w.heap.size wr A2 c2 out) ∧ Hid (Ext w wr)) (fun _ i _ => l.length - (intOf i).toNat)
 case atStart => exact ⟨A1, c1, Wire.enc l.length, 0, rfl, rfl, Nat.zero_le _, lh (by unfold intsTo; simp), HO1, HX1⟩
 case round =>
  obtain ⟨A2, c2, out, k, rfl, rfl, hk, HOu, HO, HX⟩ := hrel
  have hsz := HX.out.size
  have hol : out.length ≤ 1000010 := by
   have h1 := intsTo_len l.length (l.take k)
   rw [← HOu.out, List.length_take] at h1
   omega
  by_cases hlt : k < l.length
  ·obtain ⟨b, off, rfl, hb, c1⟩ := ReadsInt.cell (HR.out.ext HX.out (Nat.le_refl _)) k hlt
   obtain ⟨i1, i2⟩ := HI.out _ (List.getElem_mem hlt)
   have HN := lh (intsTo_succ l.length l k hlt)
   generalize l[k] = x at *
   have hxl := Wire.enc_length x
   go_wp2_with (first
    | (go_at_call 138; refine (rint_ok _ _ i1 i2).mono ?_; rintro e w3 ⟨A3, c3, rfl, ho, hx⟩; have HO3 := lh ho; have HX3 := lh hx; have hs3 := hx.size; clear ho hx)
    | (at_builtin; refine app_reads bT bE rfl _ _ rfl w.heap.size _ _ out rfl (HO.out.ext HX3.out) w3.heap.size _ _ (Wire.enc x) rfl (HO3.out.reads bE) HO3.out.none0 (by omega) (by omega) (by omega) ?_; intro A4 c4 l4 w4 HL HO4 hB hl1 hl2 _; have HO4' := lh HO4; have HB4 := lh hB; clear HO4 hB))
   go_roundw
   case rel => exact ⟨A4, c4, l4, k + 1, rfl, by go_num, by omega, lh (by rw [HL.out, HOu.out, HN.out]), HO4', lh ((HX.out.trans HX3.out).grown HB4.out (Nat.le_refl _))⟩
   case measure => simp [intOf]; omega
  ·have HF : Hid (out = encInts l) := lh (by rw [HOu.out, List.take_of_length_le (by omega), HE.out])
   go_wp2
   go_ret
   obtain rfl := HF.out
   exact ⟨A2, c2, rfl, HO.out, HX.out⟩
end Go.Proofs.YtmgekdggahoboaaGreatDoor