/- Walks of entries: Put. -/
import Derived.Test.YtmjdnkeloolmdaaGreatDoorProg
import Derived.Test.YtmjdnkeloolmdaaGreatDoorExt
import Derived.WalkKit
import Derived.WalkSpells
import Derived.WalkLawsBesides
import Derived.Deep.QuietTactic
import Derived.BigQuiet
import Derived.Test.YtmjdnkeloolmdaaGreatDoorEz
import Derived.Lib.ConvBytes
set_option linter.unusedVariables false
set_option linter.unusedSimpArgs false
namespace Go.Proofs.YtmjdnkeloolmdaaGreatDoor
open Go.RowKit Go.Shelf
open Go.Proofs
open Go.Proofs.Sp (Sp)

/-- The bytes of a block. -/
def ByteAt (w : World) (b : Nat) (l : List Int) : Prop := b < w.heap.size ∧ ∀ j, j < l.length → w.cell? ⟨b, j, none⟩ = some (.int .u8 (l.getD j 0)) ∧ w.frozen? ⟨b, j, none⟩ = false
theorem ByteAt.ext {w w' : World} {b : Nat} {l : List Int} (h : ByteAt w b l) (hx : Ext w w') : ByteAt w' b l :=
  ⟨Nat.lt_of_lt_of_le h.1 hx.size, fun j hj => ⟨(hx.cell (p := ⟨b, j, none⟩) h.1).trans (h.2 j hj).1, (hx.frozen (p := ⟨b, j, none⟩) h.1).trans (h.2 j hj).2⟩⟩
theorem ByteAt.room {w : World} {b : Nat} {l : List Int} (h : ByteAt w b l) (o n : Nat) (hn : o + n ≤ l.length) : roomOf w b o n = true := by
  unfold roomOf
  rw [decide_eq_true_iff]
  intro i hi
  have := h.2 (o + i) (by omega)
  rw [this.1, this.2]
  exact ⟨rfl, rfl⟩
theorem ByteAt.reads {w : World} {b : Nat} {l : List Int} (h : ByteAt w b l) : ReadsB w w.heap.size (some ⟨b, 0, none⟩) l := by
  intro h0
  refine ⟨b, 0, rfl, h.1, fun i hi j v hv => ?_⟩
  have hj : j = 0 := by
    have := (List.getElem?_eq_some_iff.1 hv).1
    simp [encB] at this; omega
  subst hj
  simp only [encB, List.getElem?_cons_zero, Option.some.injEq] at hv
  subst hv
  have := (h.2 i hi).1
  rw [Nat.mul_one, Nat.zero_add, Nat.add_zero, this]
  simp [hi]
theorem over_len {blk x : List Int} {p : Nat} (h : p + x.length ≤ blk.length) : (Sha.over blk p x).length = blk.length := by
  simp [Sha.over]; omega
theorem over_getD {blk x : List Int} {p j : Nat} (h : p + x.length ≤ blk.length) (hj : j < blk.length) : (Sha.over blk p x).getD j 0 = if p ≤ j ∧ j < p + x.length then x.getD (j - p) 0 else blk.getD j 0 := by
  unfold Sha.over
  simp only [List.getD_eq_getElem?_getD]
  by_cases h1 : j < p
  · rw [List.append_assoc, List.getElem?_append_left (by rw [List.length_take]; omega), List.getElem?_take, if_pos h1, if_neg (by omega)]
  · rw [List.append_assoc, List.getElem?_append_right (by rw [List.length_take]; omega), List.length_take, Nat.min_eq_left (by omega)]
    by_cases h2 : j < p + x.length
    · rw [List.getElem?_append_left (by omega), if_pos (by omega)]
    · rw [List.getElem?_append_right (by omega), if_neg (by omega), List.getElem?_drop, show p + x.length + (j - p - x.length) = j by omega]
theorem ByteAt.copied {w : World} {b : Nat} {l x : List Int} {p : Nat} (h : ByteAt w b l) (hp : p + x.length ≤ l.length) : ByteAt (w.setCells b p (cells8 x).toList) b (Sha.over l p x) := by
  have hx : (cells8 x).toList.length = x.length := by simp [cells8]
  refine ⟨by rw [setCells_size]; exact h.1, fun j hj => ?_⟩
  rw [over_len hp] at hj
  obtain ⟨k1, k2⟩ := h.2 j hj
  refine ⟨?_, by rw [setCells_frozen]; exact k2⟩
  rw [setCells_cell_if, over_getD hp hj, hx, k1]
  by_cases hc : p ≤ j ∧ j < p + x.length
  · rw [if_pos ⟨rfl, hc⟩, if_pos hc]
    have : j - p < x.length := by omega
    simp [cells8, this]
  · rw [if_neg (by intro hh; exact hc hh.2), if_neg hc]
theorem ext_bytes (w : World) (e : TypeId) (s : ByteArray) : Ext w (Lib.bytesWorld w e s) := ⟨rfl, rfl, rfl, by rw [Lib.bytesWorld_size]; omega, fun k hk => Lib.bytesWorld_at_old w e s k hk⟩
theorem bytes_at (w : World) (e : TypeId) (s : ByteArray) : ByteAt (Lib.bytesWorld w e s) w.heap.size (bts s) := by
  refine ⟨by rw [Lib.bytesWorld_size]; omega, fun j hj => ?_⟩
  rw [bts_length] at hj
  refine ⟨?_, ?_⟩
  · rw [Lib.bytesWorld_cell w e s j hj, bts_get s j hj]
    simp [hj]
    rfl
  · simp only [World.frozen?, Lib.bytesWorld_at_new]
    have hc : s.size ≤ (Lib.bytesCells w e s).size := by simp [Lib.bytesCells]
    simp
    omega
theorem strConv (w : World) (s : ByteArray) : (convert 9 107 (.string s)).run Tryz.prog w = .ok (.slice (some ⟨w.heap.size, 0, none⟩) s.size (grownCap w s.size 0 5)) (Lib.bytesWorld w 5 s) := Lib.run_convert_string_bytes w _ _ _ s (u := .string) (by kernel_rfl) (by kernel_rfl) (by kernel_rfl)

def putSoft (e : En) (A : Option Addr) (c : Nat) (l : List Sp) (f : Int) (more : ByteArray) (t : Int) (base : Nat) (bb : Value) (P : List Sp → Prop) (RS : Soft) (N : Int) : Nat → Soft
  | 0 => .eq (.agg (entC e))
  | 1 => .eq (.pointer (some ⟨base, 42, none⟩))
  | 5 => .eq (.string more)
  | 2 => .eq (.slice A l.length c)
  | 3 => .eq (.int .i64 f)
  | 4 => .eq (.int .i64 f)
  | 6 => .eq (.int .i64 more.size)
  | 7 => .eq (.int .i64 t)
  | 8 => .eq (.agg #[.int .i64 f, .int .i64 t])
  | 9 => ⟨fun v w => ∃ (A' : Option Addr) (c' : Nat) (out : List Sp), v = .slice A' out.length c' ∧ P out ∧ OwnsSp (base + 2) w A' c' out, fun v w w' ⟨A', c', out, h1, h2, h3⟩ hx => ⟨A', c', out, h1, h2, h3.ext hx⟩⟩
  | 10 => .eq bb
  | 11 => ⟨fun v w => ∃ u, v = .tuple #[u, .int .i64 N] ∧ RS.S u w, fun v w w' ⟨u, h1, h2⟩ hx => ⟨u, h1, RS.on _ _ _ h2 hx⟩⟩
  | 12 => RS
  | 13 => .eq (.int .i64 N)
  | _ => .any

set_option maxRecDepth 100000 in
set_option maxHeartbeats 2000000 in
theorem put_any (e : En) (A : Option Addr) (c : Nat) (l : List Sp) (f : Nat) (more : ByteArray) (w : World) (RS : Soft) (N : Int) (hv : e.hv = .slice A l.length c) (hw : e.whole = false) (hm0 : 0 < more.size) (h2 : (f : Int) + more.size ≤ e.st.size) (h3 : e.st.size ≤ 65536) (hb : (e.bytes.size : Int) = e.st.size)
    (hA : plainA A) (hbd : bdSp l) (hlen : l.length * 16 ≤ 140737488350000) (hr : ReadsSp w w.heap.size A l) (hRS2 : ∀ v W m vs, m < w.heap.size + 2 → RS.S v W → RS.S v (W.setCells m 0 vs)) (hRS : ∀ v W, RS.S v W → ∃ x, v = .agg (entC x) ∧ fitsRow 45 (entC x) = true)
    (HSet : ∀ (A' : Option Addr) (c' : Nat) (out : List Sp) (Ab : Option Addr) (cb : Nat) (W : World), Ext w W → (∃ srt, SortedOf (l ++ [((f : Int), (f : Int) + more.size)]) srt ∧ out = Sp.joined srt) → out.length ≤ l.length + 1 → OwnsSp (w.heap.size + 2) W A' c' out → ReadsB W W.heap.size Ab (Sha.over (bts e.bytes) f (bts more)) →
      Calls Tryz.prog 61 #[.agg (entC e), .slice A' out.length c', .slice Ab (Sha.over (bts e.bytes) f (bts more)).length cb] W fun e' w' => ∃ v, e' = .returned (.tuple #[v, .int .i64 N]) ∧ RS.S v w' ∧ Ext W w') :
    Calls Tryz.prog 39 #[.agg (entC e), .int .i64 f, .string more] w fun e' w' => ∃ v, e' = .returned (.tuple #[v, .int .i64 N]) ∧ RS.S v w' ∧ Ext w w' := by
  have hc44 : (entC e)[44]? = some (.bool false) := by rw [ent_g44, hw]
  have hc42 : (entC e)[42]? = some (.slice A l.length c) := by rw [ent_g42, hv]
  have HA := Lib.hid hA
  have HBd := Lib.hid hbd
  have HR := Lib.hid hr
  have HRS := Lib.hid hRS
  have HRS2 := Lib.hid hRS2
  have HS := Lib.hid HSet
  have HV := Lib.hid hv
  have d1 : decide ((f : Int) < 0) = false := by simp <;> omega
  have d2 : decide (e.st.size < (f : Int)) = false := by simp <;> omega
  have d3 : decide (e.st.size - (f : Int) < (more.size : Int)) = false := by simp <;> omega
  clear hA hbd hr hRS hRS2 HSet hv hw
  go_enter Tryz.func39, Tryz.ntmps39
  go_wp2
  rw [strConv]
  have hx0 : Ext w (Lib.bytesWorld ((w.alloc (.cells (entC e) 31)).alloc (.cells (entC noEn) 31)) 5 e.bytes) := (((Ext.refl w).alloc _).alloc _).trans (ext_bytes _ _ _)
  have hba : ByteAt (Lib.bytesWorld ((w.alloc (.cells (entC e) 31)).alloc (.cells (entC noEn) 31)) 5 e.bytes) (w.heap.size + 2) (bts e.bytes) := by
    have := bytes_at ((w.alloc (.cells (entC e) 31)).alloc (.cells (entC noEn) 31)) 5 e.bytes
    rw [World.size_alloc, World.size_alloc] at this
    exact this
  have hr1 : RowAt (Lib.bytesWorld ((w.alloc (.cells (entC e) 31)).alloc (.cells (entC noEn) 31)) 5 e.bytes) w.heap.size (entC e) := ((RowAt.new w (entC e) 31).alloc _).ext (ext_bytes _ _ _)
  have hr2 : RowAt (Lib.bytesWorld ((w.alloc (.cells (entC e) 31)).alloc (.cells (entC noEn) 31)) 5 e.bytes) (w.heap.size + 1) (entC noEn) := (RowAt.newAt (w := w.alloc (.cells (entC e) 31)) (by simp)).ext (ext_bytes _ _ _)
  have hge := grownCap_ge ((w.alloc (.cells (entC e) 31)).alloc (.cells (entC noEn) 31)) e.bytes.size 0 5
  generalize grownCap ((w.alloc (.cells (entC e) 31)).alloc (.cells (entC noEn) 31)) e.bytes.size 0 5 = cap at *
  generalize Lib.bytesWorld ((w.alloc (.cells (entC e) 31)).alloc (.cells (entC noEn) 31)) 5 e.bytes = W at *
  have hbl : (bts e.bytes).length = e.bytes.size := bts_length _
  have hml : (bts more).length = more.size := bts_length _
  have hroom : roomOf W (w.heap.size + 2) f more.size = true := hba.room f more.size (by omega)
  have HX0 := Lib.hid hx0
  have HBA := Lib.hid hba
  have HR1 := Lib.hid hr1
  have HR2 := Lib.hid hr2
  have hq1 : f + more.size ≤ cap := by omega
  have hq2 : f < cap := by omega
  have hq3 : more.size ≠ 0 := by omega
  have hq4 : more.toList.isEmpty = false := str_some more hm0
  clear hx0 hba hr1 hr2 d1 d2 d3
  go_wp2
  rw [run_copy_str (P := Tryz.prog) W 107 9 3 5 (w.heap.size + 1 + 1) f more.size more.size more (by kernel_rfl) u8_size (by rw [Nat.min_self]; exact hroom), Nat.min_self, List.take_of_length_le (by simp [cells8, bts_length])]
  have hxa : Ext w (W.setCells (w.heap.size + 1 + 1) f (cells8 (bts more)).toList) := HX0.out.setCells (by omega) _ _
  have hbb : ByteAt (W.setCells (w.heap.size + 1 + 1) f (cells8 (bts more)).toList) (w.heap.size + 2) (Sha.over (bts e.bytes) f (bts more)) := HBA.out.copied (by omega)
  have hra : RowAt (W.setCells (w.heap.size + 1 + 1) f (cells8 (bts more)).toList) w.heap.size (entC e) := HR1.out.others (by omega) _ _
  have hrb : RowAt (W.setCells (w.heap.size + 1 + 1) f (cells8 (bts more)).toList) (w.heap.size + 1) (entC noEn) := HR2.out.others (by omega) _ _
  generalize W.setCells (w.heap.size + 1 + 1) f (cells8 (bts more)).toList = W2 at *
  have hol : (Sha.over (bts e.bytes) f (bts more)).length = e.bytes.size := by rw [over_len (by omega), bts_length]
  have HOl := Lib.hid hol
  have hrow : rowOf W2 w.heap.size 0 45 = some (entC e) := hra.all (ent_size e).symm (by omega)
  have hroom2 : roomOf W2 (w.heap.size + 1) 0 45 = true := by rw [hrb.room]; rfl
  have hca : W2.cell? ⟨w.heap.size, 42, none⟩ = some (.slice A l.length c) := (hra.cell 42).trans hc42
  have hl1 := hra.lt
  have hl2 := hrb.lt
  have HX := Lib.hid hxa
  have HBB := Lib.hid hbb
  have HRb := Lib.hid hrb
  clear hxa hbb hra hrb HX0 HBA HR1 HR2 hroom hol hc42 hc44
  go_wp2
  refine wp_region_soft 14 (putSoft e A c l f more (f + more.size) w.heap.size (.slice (some ⟨w.heap.size + 1 + 1, 0, none⟩) e.bytes.size cap) (fun out => (∃ srt, SortedOf (l ++ [((f : Int), (f : Int) + more.size)]) srt ∧ out = Sp.joined srt) ∧ out.length ≤ l.length + 1) RS N) (by kernel_rfl) (by kernel_rfl) (lt_cons ?_ (lt_cons ?_ (lt_cons ?_ (lt_cons ?_ (lt_cons ?_ (lt_cons ?_ (lt_cons ?_ (lt_cons ?_ (lt_cons ?_ (lt_cons ?_ (lt_cons ?_ (lt_cons ?_ (lt_cons ?_ (lt_cons ?_ lt_none)))))))))))))) ?_
  · intro o ho xs W hW hd Q' hQ; obtain rfl := Option.some.inj ho; clear ho; simp only [fillAt, dstOf, List.getElem?_cons_zero, List.getElem?_cons_succ, Option.bind_some, Act.put, List.setIfInBounds_toArray, List.set_cons_zero, List.set_cons_succ, Nat.zero_add, Nat.reduceAdd] at hQ ⊢; have HQ := Lib.hid hQ; have HD := Lib.hid hd; have HW := Lib.hid hW; have hsW := hW.size; clear hQ hd hW
    have hrow0 : rowOf W w.heap.size 0 45 = some (entC e) := by rw [rowOf_congr (w := W2) (fun i _ => HW.out.cell (p := ⟨w.heap.size, 0 + i, none⟩) hl1)]; exact hrow
    go_wp2
    exact HQ.out _ _ (Ext.refl _) rfl
  · intro o ho xs W hW hd Q' hQ; obtain rfl := Option.some.inj ho; clear ho; simp only [fillAt, dstOf, List.getElem?_cons_zero, List.getElem?_cons_succ, Option.bind_some, Act.put, List.setIfInBounds_toArray, List.set_cons_zero, List.set_cons_succ, Nat.zero_add, Nat.reduceAdd] at hQ ⊢; have HQ := Lib.hid hQ; have HD := Lib.hid hd; have HW := Lib.hid hW; have hsW := hW.size; clear hQ hd hW
    go_wp2
    exact HQ.out _ _ (Ext.refl _) rfl
  · intro o ho xs W hW hd Q' hQ; obtain rfl := Option.some.inj ho; clear ho; simp only [fillAt, dstOf, List.getElem?_cons_zero, List.getElem?_cons_succ, Option.bind_some, Act.put, List.setIfInBounds_toArray, List.set_cons_zero, List.set_cons_succ, Nat.zero_add, Nat.reduceAdd] at hQ ⊢; have HQ := Lib.hid hQ; have HD := Lib.hid hd; have HW := Lib.hid hW; have hsW := hW.size; clear hQ hd hW
    have h1 : xs 1 = .pointer (some ⟨w.heap.size, 42, none⟩) := (HD.out 1 (of_decide_eq_true (by kernel_rfl)))
    generalize xs 1 = x1 at h1 HQ ⊢; subst h1
    have hca0 : W.cell? ⟨w.heap.size, 42, none⟩ = some (.slice A l.length c) := (HW.out.cell (p := ⟨w.heap.size, 42, none⟩) hl1).trans hca
    go_wp2
    exact HQ.out _ _ (Ext.refl _) rfl
  · intro o ho xs W hW hd Q' hQ; obtain rfl := Option.some.inj ho; clear ho; simp only [fillAt, dstOf, List.getElem?_cons_zero, List.getElem?_cons_succ, Option.bind_some, Act.put, List.setIfInBounds_toArray, List.set_cons_zero, List.set_cons_succ, Nat.zero_add, Nat.reduceAdd] at hQ ⊢; have HQ := Lib.hid hQ; have HD := Lib.hid hd; have HW := Lib.hid hW; have hsW := hW.size; clear hQ hd hW
    go_wp2
    exact HQ.out _ _ (Ext.refl _) rfl
  · intro o ho xs W hW hd Q' hQ; obtain rfl := Option.some.inj ho; clear ho; simp only [fillAt, dstOf, List.getElem?_cons_zero, List.getElem?_cons_succ, Option.bind_some, Act.put, List.setIfInBounds_toArray, List.set_cons_zero, List.set_cons_succ, Nat.zero_add, Nat.reduceAdd] at hQ ⊢; have HQ := Lib.hid hQ; have HD := Lib.hid hd; have HW := Lib.hid hW; have hsW := hW.size; clear hQ hd hW
    go_wp2
    exact HQ.out _ _ (Ext.refl _) rfl
  · intro o ho xs W hW hd Q' hQ; obtain rfl := Option.some.inj ho; clear ho; simp only [fillAt, dstOf, List.getElem?_cons_zero, List.getElem?_cons_succ, Option.bind_some, Act.put, List.setIfInBounds_toArray, List.set_cons_zero, List.set_cons_succ, Nat.zero_add, Nat.reduceAdd] at hQ ⊢; have HQ := Lib.hid hQ; have HD := Lib.hid hd; have HW := Lib.hid hW; have hsW := hW.size; clear hQ hd hW
    go_wp2
    exact HQ.out _ _ (Ext.refl _) rfl
  · intro o ho xs W hW hd Q' hQ; obtain rfl := Option.some.inj ho; clear ho; simp only [fillAt, dstOf, List.getElem?_cons_zero, List.getElem?_cons_succ, Option.bind_some, Act.put, List.setIfInBounds_toArray, List.set_cons_zero, List.set_cons_succ, Nat.zero_add, Nat.reduceAdd] at hQ ⊢; have HQ := Lib.hid hQ; have HD := Lib.hid hd; have HW := Lib.hid hW; have hsW := hW.size; clear hQ hd hW
    have h5 : xs 5 = .string more := (HD.out 5 (of_decide_eq_true (by kernel_rfl)))
    generalize xs 5 = x5 at h5 HQ ⊢; subst h5
    go_wp2
    exact HQ.out _ _ (Ext.refl _) rfl
  · intro o ho xs W hW hd Q' hQ; obtain rfl := Option.some.inj ho; clear ho; simp only [fillAt, dstOf, List.getElem?_cons_zero, List.getElem?_cons_succ, Option.bind_some, Act.put, List.setIfInBounds_toArray, List.set_cons_zero, List.set_cons_succ, Nat.zero_add, Nat.reduceAdd] at hQ ⊢; have HQ := Lib.hid hQ; have HD := Lib.hid hd; have HW := Lib.hid hW; have hsW := hW.size; clear hQ hd hW
    have h4 : xs 4 = .int .i64 (f : Int) := (HD.out 4 (of_decide_eq_true (by kernel_rfl)))
    generalize xs 4 = x4 at h4 HQ ⊢; subst h4
    have h6 : xs 6 = .int .i64 (more.size : Int) := (HD.out 6 (of_decide_eq_true (by kernel_rfl)))
    generalize xs 6 = x6 at h6 HQ ⊢; subst h6
    go_wp2
    exact HQ.out _ _ (Ext.refl _) rfl
  · intro o ho xs W hW hd Q' hQ; obtain rfl := Option.some.inj ho; clear ho; simp only [fillAt, dstOf, List.getElem?_cons_zero, List.getElem?_cons_succ, Option.bind_some, Act.put, List.setIfInBounds_toArray, List.set_cons_zero, List.set_cons_succ, Nat.zero_add, Nat.reduceAdd] at hQ ⊢; have HQ := Lib.hid hQ; have HD := Lib.hid hd; have HW := Lib.hid hW; have hsW := hW.size; clear hQ hd hW
    have h3 : xs 3 = .int .i64 (f : Int) := (HD.out 3 (of_decide_eq_true (by kernel_rfl)))
    generalize xs 3 = x3 at h3 HQ ⊢; subst h3
    have h7 : xs 7 = .int .i64 ((f : Int) + more.size) := (HD.out 7 (of_decide_eq_true (by kernel_rfl)))
    generalize xs 7 = x7 at h7 HQ ⊢; subst h7
    go_wp2
    exact HQ.out _ _ (Ext.refl _) rfl
  · intro o ho xs W hW hd Q' hQ; obtain rfl := Option.some.inj ho; clear ho; simp only [fillAt, dstOf, List.getElem?_cons_zero, List.getElem?_cons_succ, Option.bind_some, Act.put, List.setIfInBounds_toArray, List.set_cons_zero, List.set_cons_succ, Nat.zero_add, Nat.reduceAdd] at hQ ⊢; have HQ := Lib.hid hQ; have HD := Lib.hid hd; have HW := Lib.hid hW; have hsW := hW.size; clear hQ hd hW
    have h2 : xs 2 = .slice A l.length c := (HD.out 2 (of_decide_eq_true (by kernel_rfl)))
    generalize xs 2 = x2 at h2 HQ ⊢; subst h2
    have h8 : xs 8 = .agg #[.int .i64 (f : Int), .int .i64 ((f : Int) + more.size)] := (HD.out 8 (of_decide_eq_true (by kernel_rfl)))
    generalize xs 8 = x8 at h8 HQ ⊢; subst h8
    go_wp2_with (go_at_call 62; refine (add_any A c l ((f : Int), (f : Int) + more.size) _ HA.out (fun s hs => by
        rcases List.mem_append.1 hs with hs | hs
        · exact HBd.out s hs
        · simp at hs; subst hs; exact ⟨by show (-4611686018427387904 : Int) ≤ f; omega, by show (f : Int) ≤ _; omega⟩) (by omega) (HR.out.on (HX.out.trans HW.out))).mono ?_; rintro e' w1 ⟨A', c', out, rfl, HSo, hol', ho, hx⟩)
    exact HQ.out _ _ hx ⟨A', c', out, rfl, ⟨HSo.out, hol'⟩, ho.lower (by have := HBB.out.1; have := HW.out.size; omega)⟩
  · intro o ho xs W hW hd Q' hQ; obtain rfl := Option.some.inj ho; clear ho; simp only [fillAt, dstOf, List.getElem?_cons_zero, List.getElem?_cons_succ, Option.bind_some, Act.put, List.setIfInBounds_toArray, List.set_cons_zero, List.set_cons_succ, Nat.zero_add, Nat.reduceAdd] at hQ ⊢; have HQ := Lib.hid hQ; have HD := Lib.hid hd; have HW := Lib.hid hW; have hsW := hW.size; clear hQ hd hW
    go_wp2
    exact HQ.out _ _ (Ext.refl _) rfl
  · intro o ho xs W hW hd Q' hQ; obtain rfl := Option.some.inj ho; clear ho; simp only [fillAt, dstOf, List.getElem?_cons_zero, List.getElem?_cons_succ, Option.bind_some, Act.put, List.setIfInBounds_toArray, List.set_cons_zero, List.set_cons_succ, Nat.zero_add, Nat.reduceAdd] at hQ ⊢; have HQ := Lib.hid hQ; have HD := Lib.hid hd; have HW := Lib.hid hW; have hsW := hW.size; clear hQ hd hW
    have h0 : xs 0 = .agg (entC e) := (HD.out 0 (of_decide_eq_true (by kernel_rfl)))
    obtain ⟨A', c', out, h9, ⟨hp1, hp2⟩, ho⟩ : ∃ (A' : Option Addr) (c' : Nat) (out : List Sp), xs 9 = .slice A' out.length c' ∧ ((∃ srt, SortedOf (l ++ [((f : Int), (f : Int) + more.size)]) srt ∧ out = Sp.joined srt) ∧ out.length ≤ l.length + 1) ∧ OwnsSp (w.heap.size + 2) W A' c' out := (HD.out 9 (of_decide_eq_true (by kernel_rfl)))
    have h10 : xs 10 = .slice (some ⟨w.heap.size + 1 + 1, 0, none⟩) e.bytes.size cap := (HD.out 10 (of_decide_eq_true (by kernel_rfl)))
    generalize xs 0 = x0 at h0 HQ ⊢; subst h0
    generalize xs 9 = x9 at h9 HQ ⊢; subst h9
    generalize xs 10 = x10 at h10 HQ ⊢; subst h10
    have HP1 := Lib.hid hp1
    have HO := Lib.hid ho
    clear hp1 ho
    go_wp2_with (go_at_call 61; rw [← HOl.out]; refine (HS.out A' c' out (some ⟨w.heap.size + 1 + 1, 0, none⟩) cap _ (HX.out.trans HW.out) HP1.out hp2 HO.out ((HBB.out.ext HW.out).reads)).mono ?_; rintro e' w1 ⟨v, rfl, hrs, hx⟩)
    rw [HOl.out]
    exact HQ.out _ _ hx ⟨v, rfl, hrs⟩
  · intro o ho xs W hW hd Q' hQ; obtain rfl := Option.some.inj ho; clear ho; simp only [fillAt, dstOf, List.getElem?_cons_zero, List.getElem?_cons_succ, Option.bind_some, Act.put, List.setIfInBounds_toArray, List.set_cons_zero, List.set_cons_succ, Nat.zero_add, Nat.reduceAdd] at hQ ⊢; have HQ := Lib.hid hQ; have HD := Lib.hid hd; have HW := Lib.hid hW; have hsW := hW.size; clear hQ hd hW
    obtain ⟨u, h11, hu⟩ : ∃ u, xs 11 = .tuple #[u, .int .i64 N] ∧ RS.S u W := (HD.out 11 (of_decide_eq_true (by kernel_rfl)))
    generalize xs 11 = x11 at h11 HQ ⊢; subst h11
    go_wp2
    exact HQ.out _ _ (Ext.refl _) hu
  · intro o ho xs W hW hd Q' hQ; obtain rfl := Option.some.inj ho; clear ho; simp only [fillAt, dstOf, List.getElem?_cons_zero, List.getElem?_cons_succ, Option.bind_some, Act.put, List.setIfInBounds_toArray, List.set_cons_zero, List.set_cons_succ, Nat.zero_add, Nat.reduceAdd] at hQ ⊢; have HQ := Lib.hid hQ; have HD := Lib.hid hd; have HW := Lib.hid hW; have hsW := hW.size; clear hQ hd hW
    obtain ⟨u, h11, hu⟩ : ∃ u, xs 11 = .tuple #[u, .int .i64 N] ∧ RS.S u W := (HD.out 11 (of_decide_eq_true (by kernel_rfl)))
    generalize xs 11 = x11 at h11 HQ ⊢; subst h11
    go_wp2
    exact HQ.out _ _ (Ext.refl _) rfl
  · intro xs W hW hS
    have h12 : RS.S (xs 12) W := hS 12 (by omega)
    have h13 : xs 13 = .int .i64 N := hS 13 (by omega)
    obtain ⟨x, hx, hf⟩ := HRS.out _ _ h12
    simp only [fillAt, dstOf, List.getElem?_cons_zero, List.getElem?_cons_succ, Option.bind_some, Act.put, List.setIfInBounds_toArray, List.set_cons_zero, List.set_cons_succ, Nat.zero_add, Nat.reduceAdd, List.drop_succ_cons, List.drop_zero]
    generalize xs 12 = x12 at *; subst hx
    generalize xs 13 = x13 at *; subst h13
    have H12 := Lib.hid h12
    have HW := Lib.hid hW
    have hrr : RowAt W (w.heap.size + 1) (entC noEn) := HRb.out.ext hW
    have hroom3 : roomOf W (w.heap.size + 1) 0 45 = true := by rw [hrr.room]; rfl
    have HRR := Lib.hid hrr
    clear h12 hW hS hrr
    go_wp2
    refine post_two (v1 := .agg (entC x)) (v2 := .int .i64 N) Tryz.results39 rfl ⟨_, rfl, ent_loaded (row_stored HRR.out (ent_size _) (ent_size _))⟩ rfl ⟨_, rfl, HRS2.out _ _ _ _ (by omega) H12.out, (HX.out.trans HW.out).setCells (by omega) _ _⟩
end Go.Proofs.YtmjdnkeloolmdaaGreatDoor
