/- Walks of the specification's entries: Merge. -/
import Derived.Test.YthhblgjbgjceiaaGreatDoorProg
import Derived.Test.YthhblgjbgjceiaaGreatDoorExt
import Derived.WalkKit
import Derived.WalkSpells
import Derived.WalkLawsBesides
import Derived.Deep.QuietTactic
import Derived.BigQuiet
import Derived.Test.YthhblgjbgjceiaaGreatDoorMc
import Derived.Test.YthhblgjbgjceiaaGreatDoorCw
import Derived.Lib.Bytealg
import Derived.Lib.BytesEntry
import Derived.Lib.Small
import Derived.Test.YthhblgjbgjceiaaGreatDoorMi
set_option linter.unusedVariables false
set_option linter.unusedSimpArgs false
namespace Go.Proofs.YthhblgjbgjceiaaGreatDoor
open Go.RowKit Go.Shelf
open Go.Proofs
open Go.Proofs.Sp (Sp)

theorem cmp_any (a b : Int) (w : World) : Calls Tryz.prog 82 #[.int .i64 a, .int .i64 b] w fun e w' => e = .returned (.int .i64 (Lib.compareInt a b)) ∧ Ext w w' := by
  go_enter Tryz.func82, Tryz.ntmps82
  go_wp2
  all_goals
    go_ret
    refine ⟨ret_int ?_, (by (repeat (first | with_reducible exact Ext.refl _ | with_reducible exact Ext.refl _ | with_reducible refine Ext.drew ?_ | with_reducible refine Ext.drewN ?_ _ | with_reducible refine Ext.alloc ?_ _ | with_reducible refine Ext.onto ?_ _ | (with_reducible refine Ext.setCells ?_ ?_ _ _; rotate_left; focus (first | omega | (simp; done) | (simp; omega))) | (with_reducible refine Ext.setCell ?_ ?_ _; rotate_left; focus (first | omega | (simp; done) | (simp; omega))))))⟩
    unfold Lib.compareInt
    first
      | (rw [if_pos (by omega)]; done)
      | (rw [if_neg (by omega), if_pos (by omega)]; done)
      | (rw [if_neg (by omega), if_neg (by omega)]; done)
theorem bytesOf_u8s (x : List Int) : Lib.bytesOf x = u8s x := rfl
theorem run_load_row {P : Program} (x : List Int) (b o : Nat) (w : World) (h : ∀ i, i < x.length → w.cell? ⟨b, o + i, none⟩ = some (.int .u8 (x.getD i 0))) :
    (Extern.Bytes.loadBytes ⟨b, o, none⟩ x.length .empty).run P w = .ok ⟨(u8s x).toArray⟩ w := by
  have hl := Lib.run_loadBytesX (P := P) w x ⟨b, o, none⟩ .empty (fun j y hj => by
    have hjl : j < x.length := (List.getElem?_eq_some_iff.1 hj).1
    have e : (⟨b, o, none⟩ : Addr).add j = ⟨b, o + j, none⟩ := by unfold Addr.add; split <;> simp_all
    rw [e, h j hjl, List.getD_eq_getElem?_getD, hj]
    rfl)
  rw [hl]
  congr 1
  apply ByteArray.ext
  show (#[] : Array UInt8) ++ (Lib.bytesOf x).toArray = _
  simp [bytesOf_u8s]
theorem run_cmp_rows {P : Program} (x y : List Int) (bx ox by_ oy c d : Nat) (w : World) (hx : ∀ i, i < x.length → w.cell? ⟨bx, ox + i, none⟩ = some (.int .u8 (x.getD i 0))) (hy : ∀ i, i < y.length → w.cell? ⟨by_, oy + i, none⟩ = some (.int .u8 (y.getD i 0))) :
    (Extern.BytealgCompare.compare #[.slice (some ⟨bx, ox, none⟩) x.length c, .slice (some ⟨by_, oy, none⟩) y.length d]).run P w = .ok (.int .i64 (ordL x y)) w := by
  change Sem.run P (do pure (goInt (Extern.BytealgCompare.cmp (← Extern.Bytes.loadBytes ⟨bx, ox, none⟩ x.length .empty) (← Extern.Bytes.loadBytes ⟨by_, oy, none⟩ y.length .empty)))) w = _
  simp only [Sem.run_bind, Sem.run_pure, run_load_row x bx ox w hx, run_load_row y by_ oy w hy, Result.andThen]
  rw [Lib.cmp_eq]
  rfl
set_option maxRecDepth 100000 in
theorem bcmp_any (x y : List Int) (n m : Nat) (hn : x.length = n) (hm : y.length = m) (bx ox by_ oy c d : Nat) (w : World) (hx : ∀ i, i < x.length → w.cell? ⟨bx, ox + i, none⟩ = some (.int .u8 (x.getD i 0))) (hy : ∀ i, i < y.length → w.cell? ⟨by_, oy + i, none⟩ = some (.int .u8 (y.getD i 0))) :
    Calls Tryz.prog 83 #[.slice (some ⟨bx, ox, none⟩) n c, .slice (some ⟨by_, oy, none⟩) m d] w fun e w' => e = .returned (.int .i64 (ordL x y)) ∧ Ext w w' := by
  subst hn hm
  go_enter Tryz.func83, Tryz.ntmps83
  go_wp2
  rw [run_callFunc_extern Tryz.func111 (by kernel_rfl) (by kernel_rfl) (by kernel_rfl) (e := Extern.BytealgCompare.compare) (by kernel_rfl), run_cmp_rows x y bx ox by_ oy c d w hx hy]
  simp only [Result.andThen]
  rw [Oper.upon_value]
  go_wp2
  go_ret
  exact ⟨rfl, Ext.refl _⟩
set_option maxRecDepth 100000 in
theorem scmp_any (a b : ByteArray) (w : World) : Calls Tryz.prog 84 #[.string a, .string b] w fun e w' => e = .returned (.int .i64 (ordB a b)) ∧ Ext w w' := by
  go_enter Tryz.func84, Tryz.ntmps84
  go_wp2
  rw [run_callFunc_extern Tryz.func145 (by kernel_rfl) (by kernel_rfl) (by kernel_rfl) (e := Extern.BytealgCompare.compare) (by kernel_rfl), Lib.run_compareString]
  simp only [Result.andThen]
  rw [Oper.upon_value]
  go_wp2
  go_ret
  exact ⟨rfl, Ext.refl _⟩

theorem first_any (A : Option Addr) (c : Nat) (l : List Int) (w : World) (hl : l.length ≤ 140737488355328) (hr : ReadsI w w.heap.size A l) :
    Calls Tryz.prog 81 #[.slice A l.length c] w fun e w' => e = .returned (.int .i64 (firstN l)) ∧ Ext w w' := by
  have HR := Lib.hid hr
  clear hr
  go_enter Tryz.func81, Tryz.ntmps81
  go_wp2
  go_loopw [7] (fun i wr => ∃ k : Nat, k ≤ l.length ∧ i = .int .i64 k ∧ w = wr ∧ Hid (firstN (l.drop k) = firstN l)) (fun i _ => l.length - (intOf i).toNat)
  case atStart => exact ⟨0, Nat.zero_le _, rfl, rfl, Lib.hid rfl⟩
  case round =>
    obtain ⟨k, hk, rfl, rfl, HN⟩ := hrel
    by_cases hlt : k < l.length
    · obtain ⟨b, off, rfl, hb, c1⟩ := ReadsI.cell HR.out k hlt
      have hd : firstN (l.drop k) = if l[k] = 0 then firstN (l.drop (k + 1)) else l[k] := by
        rw [List.drop_eq_getElem_cons hlt]; rfl
      rw [hd] at HN
      generalize l[k] = n at *
      by_cases h0 : n = 0
      · have HN2 : Hid (firstN (l.drop (k + 1)) = firstN l) := Lib.hid (by have := HN.out; rwa [if_pos h0] at this)
        have hne : (n != 0) = false := by simp [h0]
        clear hd HN
        go_wp2
        go_roundw
        case rel => exact ⟨k + 1, by omega, by go_num, (by first | rfl | trivial), HN2⟩
        case measure => simp [intOf]; omega
      · have HN2 : Hid (n = firstN l) := Lib.hid (by have := HN.out; rwa [if_neg h0] at this)
        have hne : (n != 0) = true := by simp [h0]
        clear hd HN
        go_wp2
        go_ret
        exact ⟨ret_int HN2.out, Ext.refl _⟩
    · have e : k = l.length := by omega
      subst e
      rw [List.drop_length] at HN
      go_wp2
      go_ret
      exact ⟨ret_int HN.out, Ext.refl _⟩
theorem reads_new {w : World} {b : Nat} {cs : Array Value} (t : TypeId) (l : List Int) (hb : b = w.heap.size) (h : cs = (l.map (Value.int .i64)).toArray) : ReadsI (w.alloc (.cells cs t)) (w.alloc (.cells cs t)).heap.size (some ⟨b, 0, none⟩) l := by
  subst hb h
  intro h0
  refine ⟨w.heap.size, 0, rfl, by simp, fun i hi j v hv => ?_⟩
  have hj : j = 0 := by
    have := (List.getElem?_eq_some_iff.1 hv).1
    simp [encI] at this; omega
  subst hj
  simp only [encI, List.getElem?_cons_zero, Option.some.injEq] at hv
  subst hv
  rw [alloc_cell_if, if_pos rfl]
  simp [hi]
def at16 (s : St) (o : Nat) : List Int := if o = 4 then s.body else s.seal_
theorem stm_byte {W : World} {b : Nat} {s : St} (h : RowAt W b (stmC s)) (hb : s.body.length = 16) (hs : s.seal_.length = 16) {o : Nat} (ho : o = 4 ∨ o = 25) : ∀ i, i < (at16 s o).length → W.cell? ⟨b, o + i, none⟩ = some (.int .u8 ((at16 s o).getD i 0)) := by
  intro i hi
  rw [h.cell]
  rcases ho with rfl | rfl
  · have e : at16 s 4 = s.body := rfl
    rw [e] at hi ⊢
    have := rowSub_get (stm_body s) (i := i) (by omega)
    rw [this, dgC_cells hb, cells8_get, if_pos hi]
  · have e : at16 s 25 = s.seal_ := rfl
    rw [e] at hi ⊢
    have := rowSub_get (stm_seal s) (i := i) (by omega)
    rw [this, dgC_cells hs, cells8_get, if_pos hi]
theorem bcmp_stm (a b : St) (p q o : Nat) (ho : o = 4 ∨ o = 25) (W : World) (ha : a.body.length = 16) (ha2 : a.seal_.length = 16) (hb : b.body.length = 16) (hb2 : b.seal_.length = 16) (h1 : RowAt W p (stmC a)) (h2 : RowAt W q (stmC b)) :
    Calls Tryz.prog 83 #[.slice (some ⟨p, o, none⟩) 16 16, .slice (some ⟨q, o, none⟩) 16 16] W fun e w' => e = .returned (.int .i64 (ordL (at16 a o) (at16 b o))) ∧ Ext W w' :=
  bcmp_any (at16 a o) (at16 b o) 16 16 (by unfold at16; split <;> assumption) (by unfold at16; split <;> assumption) p o q o 16 16 W (stm_byte h1 ha ha2 ho) (stm_byte h2 hb hb2 ho)
set_option maxRecDepth 100000 in
set_option maxHeartbeats 2000000 in
theorem compare_any (a b : St) (w : World) (ha : a.body.length = 16) (ha2 : a.seal_.length = 16) (hb : b.body.length = 16) (hb2 : b.seal_.length = 16) :
    Calls Tryz.prog 51 #[.agg (stmC a), .agg (stmC b)] w fun e w' => e = .returned (.int .i64 (cmpN a b)) ∧ Ext w w' := by
  have HA := Lib.hid ha
  have HA2 := Lib.hid ha2
  have HB := Lib.hid hb
  have HB2 := Lib.hid hb2
  clear ha ha2 hb hb2
  go_enter Tryz.func51, Tryz.ntmps51
  go_wp2
  refine wp_world (fun W => Ext w W ∧ RowAt W w.heap.size (stmC a) ∧ RowAt W (w.heap.size + 1) (stmC b)) ⟨(by (repeat (first | with_reducible exact Ext.refl _ | with_reducible exact Ext.refl _ | with_reducible refine Ext.drew ?_ | with_reducible refine Ext.drewN ?_ _ | with_reducible refine Ext.alloc ?_ _ | with_reducible refine Ext.onto ?_ _ | (with_reducible refine Ext.setCells ?_ ?_ _ _; rotate_left; focus (first | omega | (simp; done) | (simp; omega))) | (with_reducible refine Ext.setCell ?_ ?_ _; rotate_left; focus (first | omega | (simp; done) | (simp; omega)))))), (RowAt.new _ _ _).alloc _, RowAt.newAt (by simp)⟩ ?_
  rintro W ⟨hx0, h1, h2⟩
  have HX0 := Lib.hid hx0
  have H1 := Lib.hid h1
  have H2 := Lib.hid h2
  have a0 := fun i => h1.cell i
  have b0 := fun i => h2.cell i
  have hl1 := h1.lt
  have hl2 := h2.lt
  clear hx0 h1 h2
  refine wp_region_later_tail 49 (by kernel_rfl) (by kernel_rfl) ?_
  simp only [List.take_succ_cons, List.take_zero, List.drop_succ_cons, List.drop_zero]
  repeat (first | go_big_quiet_step ((first | (go_at_call 82; exact quietE (cmp_any _ _ _)) | (go_at_call 84; exact quietE (scmp_any _ _ _)) | (go_at_call 83; exact quietE (bcmp_stm a b _ _ _ (by first | exact .inl rfl | exact .inr rfl) _ HA.out HA2.out HB.out HB2.out (H1.out.later _) (H2.out.later _))))) | quiet_step ((first | (go_at_call 82; exact quietE (cmp_any _ _ _)) | (go_at_call 84; exact quietE (scmp_any _ _ _)) | (go_at_call 83; exact quietE (bcmp_stm a b _ _ _ (by first | exact .inl rfl | exact .inr rfl) _ HA.out HA2.out HB.out HB2.out (H1.out.later _) (H2.out.later _))))))
  refine wpQuiet_nil ?_
  rintro _ ⟨xq, rfl⟩
  go_wp2_with (go_at_call 81; refine (first_any _ _ (cmpL a b) _ (of_decide_eq_true rfl) (reads_new _ _ (by simp [later_size]) rfl)).mono ?_; rintro e w' ⟨rfl, hxl⟩; obtain ⟨xl, rfl⟩ := hxl.asLater; clear hxl)
  go_ret
  exact ⟨rfl, (by (repeat (first | with_reducible exact HX0.out | with_reducible exact Ext.refl _ | with_reducible refine Ext.drew ?_ | with_reducible refine Ext.drewN ?_ _ | with_reducible refine Ext.alloc ?_ _ | with_reducible refine Ext.onto ?_ _ | (with_reducible refine Ext.setCells ?_ ?_ _ _; rotate_left; focus (first | omega | (simp; done) | (simp; omega))) | (with_reducible refine Ext.setCell ?_ ?_ _; rotate_left; focus (first | omega | (simp; done) | (simp; omega))))))⟩
theorem order_any (a b : ByteArray) (w : World) : Calls Tryz.prog 57 #[.string a, .string b] w fun e w' => e = .returned (.int .i64 (ordB a b)) ∧ Ext w w' := by
  have h1 : Op.bytesLess a.toList b.toList = decide (ordB a b < 0) := by rw [Lib.toList_data, Lib.toList_data]; exact cmp_less _ _
  have h2 : (a.toList == b.toList) = decide (ordB a b = 0) := by 
    rw [Lib.toList_data, Lib.toList_data, Bool.eq_iff_iff, beq_iff_eq, decide_eq_true_eq]
    exact ⟨fun h => by rw [ordB, h]; exact cmp_self _, fun h => cmp_zero h⟩
  have h3 : ordB a b = -1 ∨ ordB a b = 0 ∨ ordB a b = 1 := cmp_three _ _
  generalize ordB a b = o at *
  go_enter Tryz.func57, Tryz.ntmps57
  rcases h3 with rfl | rfl | rfl
  · have e1 : Op.bytesLess a.toList b.toList = true := h1
    clear h1 h2
    go_wp2
    go_ret
    exact ⟨rfl, Ext.refl _⟩
  · have e1 : Op.bytesLess a.toList b.toList = false := h1
    have e2 : (a.toList == b.toList) = true := h2
    clear h1 h2
    go_wp2
    go_ret
    exact ⟨rfl, Ext.refl _⟩
  · have e1 : Op.bytesLess a.toList b.toList = false := h1
    have e2 : (a.toList == b.toList) = false := h2
    clear h1 h2
    go_wp2
    go_ret
    exact ⟨rfl, Ext.refl _⟩
set_option maxHeartbeats 1000000 in
theorem better_any (a b : St) (w : World) (ha : a.body.length = 16) (ha2 : a.seal_.length = 16) (hb : b.body.length = 16) (hb2 : b.seal_.length = 16) :
    Calls Tryz.prog 15 #[.agg (stmC a), .agg (stmC b)] w fun e w' => e = .returned (.bool (decide (0 < cmpN a b))) ∧ Ext w w' := by
  have HA := Lib.hid ha
  have HA2 := Lib.hid ha2
  have HB := Lib.hid hb
  have HB2 := Lib.hid hb2
  clear ha ha2 hb hb2
  go_enter Tryz.func15, Tryz.ntmps15
  go_wp2_with (go_at_call 51; refine (compare_any a b _ HA.out HA2.out HB.out HB2.out).mono ?_; rintro e w' ⟨rfl, hxl⟩; obtain ⟨xl, rfl⟩ := hxl.asLater; clear hxl)
  go_ret
  exact ⟨rfl, (by (repeat (first | with_reducible exact Ext.refl _ | with_reducible exact Ext.refl _ | with_reducible refine Ext.drew ?_ | with_reducible refine Ext.drewN ?_ _ | with_reducible refine Ext.alloc ?_ _ | with_reducible refine Ext.onto ?_ _ | (with_reducible refine Ext.setCells ?_ ?_ _ _; rotate_left; focus (first | omega | (simp; done) | (simp; omega))) | (with_reducible refine Ext.setCell ?_ ?_ _; rotate_left; focus (first | omega | (simp; done) | (simp; omega))))))⟩
theorem str_beq (a b : ByteArray) : (a.toList == b.toList) = decide (a = b) := by
  rw [Lib.toList_data, Lib.toList_data, Bool.eq_iff_iff, beq_iff_eq, decide_eq_true_eq]
  constructor
  · intro h
    apply ByteArray.ext
    exact Array.toList_inj.1 h
  · intro h; rw [h]
theorem sameN_lists (a b : St) : sameN a b = ((a.addr.toList == b.addr.toList) && (a.var.toList == b.var.toList) && (a.status == b.status) && (a.size == b.size) && decide (a.body = b.body) && (a.tags.toList == b.tags.toList)) := by
  rw [str_beq, str_beq, str_beq]; rfl
theorem eq_dgc {a b : List Int} (ha : a.length = 16) (hb : b.length = 16) (ba : Byt a) (bb : Byt b) (W : World) : (binOp .eql 23 (.agg (dgC a)) (.agg (dgC b))).run Tryz.prog W = .ok (.bool (decide (a = b))) W := by
  rw [dgC_cells ha]; exact eq_dig ha hb ba bb W
set_option maxRecDepth 100000 in
set_option maxHeartbeats 2000000 in
theorem same_is (a b : St) (w : World) (ha : a.body.length = 16) (hb : b.body.length = 16) (ba : Byt a.body) (bb : Byt b.body) :
    Calls Tryz.prog 52 #[.agg (stmC a), .agg (stmC b)] w fun e w' => e = .returned (.bool (sameN a b)) ∧ Ext w w' := by
  have hq := eq_dgc ha hb ba bb
  clear ha hb ba bb
  go_enter Tryz.func52, Tryz.ntmps52
  go_wp2
  all_goals
    go_ret
    refine ⟨ret_bool ?_, (by (repeat (first | with_reducible exact Ext.refl _ | with_reducible exact Ext.refl _ | with_reducible refine Ext.drew ?_ | with_reducible refine Ext.drewN ?_ _ | with_reducible refine Ext.alloc ?_ _ | with_reducible refine Ext.onto ?_ _ | (with_reducible refine Ext.setCells ?_ ?_ _ _; rotate_left; focus (first | omega | (simp; done) | (simp; omega))) | (with_reducible refine Ext.setCell ?_ ?_ _; rotate_left; focus (first | omega | (simp; done) | (simp; omega))))))⟩
    rw [sameN_lists]
    simp_all
set_option maxRecDepth 100000 in
set_option maxHeartbeats 2000000 in
theorem rsame_is (a b : St) (w : World) (ha : a.body.length = 16) (hb : b.body.length = 16) (ba : Byt a.body) (bb : Byt b.body) :
    Calls Tryz.prog 54 #[.agg (stmC a), .agg (stmC b)] w fun e w' => e = .returned (.bool (sameN a b)) ∧ Ext w w' := by
  have hq := eq_dgc ha hb ba bb
  clear ha hb ba bb
  go_enter Tryz.func54, Tryz.ntmps54
  go_wp2
  all_goals
    go_ret
    refine ⟨ret_bool ?_, (by (repeat (first | with_reducible exact Ext.refl _ | with_reducible exact Ext.refl _ | with_reducible refine Ext.drew ?_ | with_reducible refine Ext.drewN ?_ _ | with_reducible refine Ext.alloc ?_ _ | with_reducible refine Ext.onto ?_ _ | (with_reducible refine Ext.setCells ?_ ?_ _ _; rotate_left; focus (first | omega | (simp; done) | (simp; omega))) | (with_reducible refine Ext.setCell ?_ ?_ _; rotate_left; focus (first | omega | (simp; done) | (simp; omega))))))⟩
    rw [sameN_lists]
    simp_all
structure Mild (s : St) : Prop where
  b1 : 0 ≤ s.lo ∧ s.lo ≤ 1099511627776
  b2 : 0 ≤ s.hi ∧ s.hi ≤ 1099511627776
  b3 : 0 ≤ s.size ∧ s.size ≤ 1099511627776
  b4 : 0 ≤ s.status ∧ s.status ≤ 1099511627776
  b5 : 0 ≤ s.gate ∧ s.gate ≤ 1099511627776
  b6 : 0 ≤ s.serial ∧ s.serial ≤ 1099511627776
  l1 : s.body.length = 16
  l2 : s.seal_.length = 16
theorem ordL_str {a b : List Int} : ordB (strOfNums a) (strOfNums b) = ordL a b := by
  unfold ordB ordL
  rw [strOfNums_data, strOfNums_data]
  rfl
theorem conv_stm {W : World} {b : Nat} {s : St} (h : RowAt W b (stmC s)) (hb : s.body.length = 16) (hs : s.seal_.length = 16) {o : Nat} (ho : o = 4 ∨ o = 25) (x : Later) :
    (convert 83 9 (.slice (some ⟨b, o, none⟩) 16 16)).run Tryz.prog (later W x) = .ok (.string (strOfNums (at16 s o))) (later W x) := by
  have hl : (at16 s o).length = 16 := by unfold at16; split <;> assumption
  have hr : ReadsB (later W x) (later W x).heap.size (some ⟨b, o, none⟩) (at16 s o) := by
    intro h0
    have hx := h.later x
    refine ⟨b, o, rfl, hx.lt, fun i hi j v hv => ?_⟩
    have hj : j = 0 := by
      have := (List.getElem?_eq_some_iff.1 hv).1
      simp [encB] at this; omega
    subst hj
    simp only [encB, List.getElem?_cons_zero, Option.some.injEq] at hv
    subst hv
    rw [Nat.mul_one, Nat.add_zero, stm_byte hx hb hs ho i hi]
    simp [hi]
  have := conv_bytes 16 hr (by omega)
  rwa [hl] at this
theorem firstN_0 {x : Int} {l : List Int} (h : x = 0) : firstN (x :: l) = firstN l := by rw [firstN, if_pos h]
theorem firstN_1 {x : Int} {l : List Int} (h : x ≠ 0) : firstN (x :: l) = x := by rw [firstN, if_neg h]
set_option maxRecDepth 100000 in
set_option maxHeartbeats 4000000 in
theorem rcompare_any (a b : St) (w : World) (ha : Mild a) (hb : Mild b) :
    Calls Tryz.prog 16 #[.agg (stmC a), .agg (stmC b)] w fun e w' => e = .returned (.int .i64 (rcmpN a b)) ∧ Ext w w' := by
  obtain ⟨p1, p2, p3, p4, p5, p6, p7, p8⟩ := ha
  obtain ⟨q1, q2, q3, q4, q5, q6, q7, q8⟩ := hb
  have HP := Lib.hid p7
  have HP2 := Lib.hid p8
  have HQ := Lib.hid q7
  have HQ2 := Lib.hid q8
  obtain ⟨rr, hrr⟩ : ∃ rr, rcmpN a b = rr := ⟨_, rfl⟩
  rw [hrr]
  have HR := Lib.hid hrr
  clear hrr p7 p8 q7 q8
  by_cases c1 : a.lo ≠ b.lo
  · have HV : Hid (a.lo - b.lo = rr) := Lib.hid (by rw [← HR.out, rcmpN, rcmpL, firstN_1 (by omega)])
    have e1 : (a.lo != b.lo) = true := by simpa using c1
    clear c1
    go_enter Tryz.func16, Tryz.ntmps16
    go_wp2
    go_ret
    exact ⟨ret_int HV.out, (by (repeat (first | with_reducible exact Ext.refl _ | with_reducible exact Ext.refl _ | with_reducible refine Ext.drew ?_ | with_reducible refine Ext.drewN ?_ _ | with_reducible refine Ext.alloc ?_ _ | with_reducible refine Ext.onto ?_ _ | (with_reducible refine Ext.setCells ?_ ?_ _ _; rotate_left; focus (first | omega | (simp; done) | (simp; omega))) | (with_reducible refine Ext.setCell ?_ ?_ _; rotate_left; focus (first | omega | (simp; done) | (simp; omega))))))⟩
  by_cases c2 : a.hi ≠ b.hi
  · have HV : Hid (a.hi - b.hi = rr) := Lib.hid (by rw [← HR.out, rcmpN, rcmpL, firstN_0 (by omega), firstN_1 (by omega)])
    have e1 : (a.lo != b.lo) = false := by simpa using c1
    have e2 : (a.hi != b.hi) = true := by simpa using c2
    clear c1 c2
    go_enter Tryz.func16, Tryz.ntmps16
    go_wp2
    go_ret
    exact ⟨ret_int HV.out, (by (repeat (first | with_reducible exact Ext.refl _ | with_reducible exact Ext.refl _ | with_reducible refine Ext.drew ?_ | with_reducible refine Ext.drewN ?_ _ | with_reducible refine Ext.alloc ?_ _ | with_reducible refine Ext.onto ?_ _ | (with_reducible refine Ext.setCells ?_ ?_ _ _; rotate_left; focus (first | omega | (simp; done) | (simp; omega))) | (with_reducible refine Ext.setCell ?_ ?_ _; rotate_left; focus (first | omega | (simp; done) | (simp; omega))))))⟩
  have HR2 : Hid (firstN [ordB (strOfNums a.body) (strOfNums b.body), a.size - b.size, a.status - b.status, ordB a.tags b.tags, a.gate - b.gate, a.serial - b.serial, ordB (strOfNums a.seal_) (strOfNums b.seal_)] = rr) := Lib.hid (by rw [← HR.out, ordL_str, ordL_str]; exact ((firstN_0 (by omega)).trans (firstN_0 (by omega))).symm)
  have e1 : (a.lo != b.lo) = false := by simpa using c1
  have e2 : (a.hi != b.hi) = false := by simpa using c2
  clear c1 c2 HR
  go_enter Tryz.func16, Tryz.ntmps16
  go_wp2
  refine wp_world (fun W => Ext w W ∧ RowAt W w.heap.size (stmC a) ∧ RowAt W (w.heap.size + 1) (stmC b)) ⟨(by (repeat (first | with_reducible exact Ext.refl _ | with_reducible exact Ext.refl _ | with_reducible refine Ext.drew ?_ | with_reducible refine Ext.drewN ?_ _ | with_reducible refine Ext.alloc ?_ _ | with_reducible refine Ext.onto ?_ _ | (with_reducible refine Ext.setCells ?_ ?_ _ _; rotate_left; focus (first | omega | (simp; done) | (simp; omega))) | (with_reducible refine Ext.setCell ?_ ?_ _; rotate_left; focus (first | omega | (simp; done) | (simp; omega)))))), (RowAt.new _ _ _).alloc _, RowAt.newAt (by simp)⟩ ?_
  rintro W ⟨hx0, h1, h2⟩
  have HX0 := Lib.hid hx0
  have H1 := Lib.hid h1
  have H2 := Lib.hid h2
  have a0 := fun i => h1.cell i
  have b0 := fun i => h2.cell i
  have hl1 := h1.lt
  have hl2 := h2.lt
  have v1 : ∀ x, (convert 83 9 (.slice (some ⟨w.heap.size, 4, none⟩) 16 16)).run Tryz.prog (later W x) = .ok (.string (strOfNums a.body)) (later W x) := conv_stm h1 HP.out HP2.out (.inl rfl)
  have v2 : ∀ x, (convert 83 9 (.slice (some ⟨w.heap.size + 1, 4, none⟩) 16 16)).run Tryz.prog (later W x) = .ok (.string (strOfNums b.body)) (later W x) := conv_stm h2 HQ.out HQ2.out (.inl rfl)
  have v3 : ∀ x, (convert 83 9 (.slice (some ⟨w.heap.size, 25, none⟩) 16 16)).run Tryz.prog (later W x) = .ok (.string (strOfNums a.seal_)) (later W x) := conv_stm h1 HP.out HP2.out (.inr rfl)
  have v4 : ∀ x, (convert 83 9 (.slice (some ⟨w.heap.size + 1, 25, none⟩) 16 16)).run Tryz.prog (later W x) = .ok (.string (strOfNums b.seal_)) (later W x) := conv_stm h2 HQ.out HQ2.out (.inr rfl)
  clear hx0 h1 h2 e1 e2
  refine wp_region_later (by kernel_rfl) (by kernel_rfl) ?_
  repeat (first | go_big_quiet_step ((go_at_call 57; exact quietE (order_any _ _ _))) | quiet_step ((go_at_call 57; exact quietE (order_any _ _ _))))
  refine wpQuiet_nil ?_
  rintro _ ⟨xq, rfl⟩
  generalize ordB (strOfNums a.body) (strOfNums b.body) = o1 at *
  by_cases c3 : o1 ≠ 0
  · have HV : Hid (o1 = rr) := Lib.hid (by rw [← HR2.out, firstN_1 c3])
    have e3 : (o1 != 0) = true := by simpa using c3
    clear c3
    go_wp2
    go_ret
    exact ⟨ret_int HV.out, (by (repeat (first | with_reducible exact HX0.out | with_reducible exact Ext.refl _ | with_reducible refine Ext.drew ?_ | with_reducible refine Ext.drewN ?_ _ | with_reducible refine Ext.alloc ?_ _ | with_reducible refine Ext.onto ?_ _ | (with_reducible refine Ext.setCells ?_ ?_ _ _; rotate_left; focus (first | omega | (simp; done) | (simp; omega))) | (with_reducible refine Ext.setCell ?_ ?_ _; rotate_left; focus (first | omega | (simp; done) | (simp; omega))))))⟩
  have HR3 := Lib.hid ((firstN_0 (by omega)).symm.trans HR2.out)
  have e3 : (o1 != 0) = false := by simpa using c3
  clear c3 HR2
  by_cases c4 : a.size ≠ b.size
  · have HV : Hid (a.size - b.size = rr) := Lib.hid (by rw [← HR3.out, firstN_1 (by omega)])
    have e4 : (a.size != b.size) = true := by simpa using c4
    clear c4
    go_wp2
    go_ret
    exact ⟨ret_int HV.out, (by (repeat (first | with_reducible exact HX0.out | with_reducible exact Ext.refl _ | with_reducible refine Ext.drew ?_ | with_reducible refine Ext.drewN ?_ _ | with_reducible refine Ext.alloc ?_ _ | with_reducible refine Ext.onto ?_ _ | (with_reducible refine Ext.setCells ?_ ?_ _ _; rotate_left; focus (first | omega | (simp; done) | (simp; omega))) | (with_reducible refine Ext.setCell ?_ ?_ _; rotate_left; focus (first | omega | (simp; done) | (simp; omega))))))⟩
  have HR4 := Lib.hid ((firstN_0 (by omega)).symm.trans HR3.out)
  have e4 : (a.size != b.size) = false := by simpa using c4
  clear c4 HR3
  by_cases c5 : a.status ≠ b.status
  · have HV : Hid (a.status - b.status = rr) := Lib.hid (by rw [← HR4.out, firstN_1 (by omega)])
    have e5 : (a.status != b.status) = true := by simpa using c5
    clear c5
    go_wp2
    go_ret
    exact ⟨ret_int HV.out, (by (repeat (first | with_reducible exact HX0.out | with_reducible exact Ext.refl _ | with_reducible refine Ext.drew ?_ | with_reducible refine Ext.drewN ?_ _ | with_reducible refine Ext.alloc ?_ _ | with_reducible refine Ext.onto ?_ _ | (with_reducible refine Ext.setCells ?_ ?_ _ _; rotate_left; focus (first | omega | (simp; done) | (simp; omega))) | (with_reducible refine Ext.setCell ?_ ?_ _; rotate_left; focus (first | omega | (simp; done) | (simp; omega))))))⟩
  have HR5 := Lib.hid ((firstN_0 (by omega)).symm.trans HR4.out)
  have e5 : (a.status != b.status) = false := by simpa using c5
  have HT := Lib.hid (fun W => order_any a.tags b.tags W)
  clear c5 HR4
  generalize ordB a.tags b.tags = o2 at *
  by_cases c6 : o2 ≠ 0
  · have HV : Hid (o2 = rr) := Lib.hid (by rw [← HR5.out, firstN_1 c6])
    have e6 : (o2 != 0) = true := by simpa using c6
    clear c6
    go_wp2_with (go_at_call 57; refine (HT.out _).mono ?_; rintro e w' ⟨rfl, hxl⟩; obtain ⟨xl, rfl⟩ := hxl.asLater; clear hxl)
    go_ret
    exact ⟨ret_int HV.out, (by (repeat (first | with_reducible exact HX0.out | with_reducible exact Ext.refl _ | with_reducible refine Ext.drew ?_ | with_reducible refine Ext.drewN ?_ _ | with_reducible refine Ext.alloc ?_ _ | with_reducible refine Ext.onto ?_ _ | (with_reducible refine Ext.setCells ?_ ?_ _ _; rotate_left; focus (first | omega | (simp; done) | (simp; omega))) | (with_reducible refine Ext.setCell ?_ ?_ _; rotate_left; focus (first | omega | (simp; done) | (simp; omega))))))⟩
  have HR6 := Lib.hid ((firstN_0 (by omega)).symm.trans HR5.out)
  have e6 : (o2 != 0) = false := by simpa using c6
  clear c6 HR5
  by_cases c7 : a.gate ≠ b.gate
  · have HV : Hid (a.gate - b.gate = rr) := Lib.hid (by rw [← HR6.out, firstN_1 (by omega)])
    have e7 : (a.gate != b.gate) = true := by simpa using c7
    clear c7
    go_wp2_with (go_at_call 57; refine (HT.out _).mono ?_; rintro e w' ⟨rfl, hxl⟩; obtain ⟨xl, rfl⟩ := hxl.asLater; clear hxl)
    go_ret
    exact ⟨ret_int HV.out, (by (repeat (first | with_reducible exact HX0.out | with_reducible exact Ext.refl _ | with_reducible refine Ext.drew ?_ | with_reducible refine Ext.drewN ?_ _ | with_reducible refine Ext.alloc ?_ _ | with_reducible refine Ext.onto ?_ _ | (with_reducible refine Ext.setCells ?_ ?_ _ _; rotate_left; focus (first | omega | (simp; done) | (simp; omega))) | (with_reducible refine Ext.setCell ?_ ?_ _; rotate_left; focus (first | omega | (simp; done) | (simp; omega))))))⟩
  have HR7 := Lib.hid ((firstN_0 (by omega)).symm.trans HR6.out)
  have e7 : (a.gate != b.gate) = false := by simpa using c7
  clear c7 HR6
  by_cases c8 : a.serial ≠ b.serial
  · have HV : Hid (a.serial - b.serial = rr) := Lib.hid (by rw [← HR7.out, firstN_1 (by omega)])
    have e8 : (a.serial != b.serial) = true := by simpa using c8
    clear c8
    go_wp2_with (go_at_call 57; refine (HT.out _).mono ?_; rintro e w' ⟨rfl, hxl⟩; obtain ⟨xl, rfl⟩ := hxl.asLater; clear hxl)
    go_ret
    exact ⟨ret_int HV.out, (by (repeat (first | with_reducible exact HX0.out | with_reducible exact Ext.refl _ | with_reducible refine Ext.drew ?_ | with_reducible refine Ext.drewN ?_ _ | with_reducible refine Ext.alloc ?_ _ | with_reducible refine Ext.onto ?_ _ | (with_reducible refine Ext.setCells ?_ ?_ _ _; rotate_left; focus (first | omega | (simp; done) | (simp; omega))) | (with_reducible refine Ext.setCell ?_ ?_ _; rotate_left; focus (first | omega | (simp; done) | (simp; omega))))))⟩
  have HR8 := Lib.hid ((firstN_0 (by omega)).symm.trans HR7.out)
  have e8 : (a.serial != b.serial) = false := by simpa using c8
  clear c8 HR7
  have HV : Hid (ordB (strOfNums a.seal_) (strOfNums b.seal_) = rr) := Lib.hid (by
    rw [← HR8.out]
    by_cases h : ordB (strOfNums a.seal_) (strOfNums b.seal_) = 0
    · rw [firstN_0 h, h]; rfl
    · rw [firstN_1 h])
  clear HR8
  go_wp2_with (go_at_call 57; refine (HT.out _).mono ?_; rintro e w' ⟨rfl, hxl⟩; obtain ⟨xl, rfl⟩ := hxl.asLater; clear hxl)
  refine wp_region_later (by kernel_rfl) (by kernel_rfl) ?_
  repeat (first | go_big_quiet_step ((go_at_call 57; exact quietE (order_any _ _ _))) | quiet_step ((go_at_call 57; exact quietE (order_any _ _ _))))
  refine wpQuiet_nil ?_
  rintro _ ⟨xq, rfl⟩
  go_wp2
  go_ret
  exact ⟨ret_int HV.out, (by (repeat (first | with_reducible exact HX0.out | with_reducible exact Ext.refl _ | with_reducible refine Ext.drew ?_ | with_reducible refine Ext.drewN ?_ _ | with_reducible refine Ext.alloc ?_ _ | with_reducible refine Ext.onto ?_ _ | (with_reducible refine Ext.setCells ?_ ?_ _ _; rotate_left; focus (first | omega | (simp; done) | (simp; omega))) | (with_reducible refine Ext.setCell ?_ ?_ _; rotate_left; focus (first | omega | (simp; done) | (simp; omega))))))⟩
end Go.Proofs.YthhblgjbgjceiaaGreatDoor

namespace Go.Proofs.YthhblgjbgjceiaaGreatDoor
open Go.RowKit Go.Shelf
open Go.Proofs
open Go.Proofs.Sp (Sp)

def gotFld (v : Value) : Sem Next := do pure (.value (← Instr.field 38 v 0))
theorem gotFld_x (ρ : Operand → Value) (dst : Option Tmp) (x : Operand) (t : TypeId) (pos : String) (after : Array Edge) (guard : Option (Nat × Bool)) : execOp ρ { dst, op := .field 38 x 0, type := t, pos, after, guard } = gotFld (ρ x) := by kernel_rfl
theorem gotFld_run (e : En) (n : Int) (W : World) : (gotFld (.agg (gotC e n))).run Tryz.prog W = .ok (.value (.agg (entC e))) W := by kernel_rfl
attribute [go_sem ↓] gotFld_x
attribute [go_sem] gotFld_run
/-- What comes in with an entry that is valid. -/
structure VIn (e : En) (A : Option Addr) (c : Nat) (l : List Sp) (w : World) : Prop where
  hv : e.hv = .slice A l.length c
  val : Val e l
  hb : e.st.body.length = 16
  hby : Byt e.st.body
  hs : e.st.seal_.length = 16
  hA : plainA A
  z : A = none → c = 0
  hr : ReadsSp w w.heap.size A l
theorem VIn.on {e : En} {A : Option Addr} {c : Nat} {l : List Sp} {w w' : World} (h : VIn e A c l w) (hx : Ext w w') : VIn e A c l w' := ⟨h.hv, h.val, h.hb, h.hby, h.hs, h.hA, h.z, h.hr.on hx⟩
theorem VIn.mild {e : En} {A : Option Addr} {c : Nat} {l : List Sp} {w : World} (h : VIn e A c l w) : Mild e.st := by
  have hr := h.val.rt
  simp only [rightB, Bool.and_eq_true, decide_eq_true_eq] at hr
  exact ⟨by omega, by omega, by omega, by omega, by omega, by omega, h.hb, h.hs⟩
theorem rcmp_lt (a b : St) : decide (rcmpN a b < 0) = decide (cmpN a b < 0) := by
  have := (cmp_alike a b).1
  simp [this]
theorem rcmp_eq (a b : St) : (rcmpN a b == 0) = decide (cmpN a b = 0) := by
  have h := cmp_alike a b
  unfold alike at h
  rw [Bool.eq_iff_iff, beq_iff_eq, decide_eq_true_eq]
  omega
set_option maxRecDepth 100000 in
set_option maxHeartbeats 400000 in
theorem rmerge_name (a b : En) (A B : Option Addr) (ca cb : Nat) (la lb : List Sp) (w : World) (ha : VIn a A ca la w) (hb : VIn b B cb lb w) (h : ¬ (a.st.addr = b.st.addr ∧ a.st.var = b.st.var)) :
    Calls Tryz.prog 12 #[.agg (entC a), .agg (entC b)] w fun e' w' => e' = .returned (.agg (gotC noEn 5)) ∧ Ext w w' := by
  have hf : fitsRow 46 (gotC noEn 5) = true := got_fits_of 5 rfl
  have hfa : fitsRow 45 (entC a) = true := ent_fits_of ha.hv
  have hfb : fitsRow 45 (entC b) = true := ent_fits_of hb.hv
  clear ha hb
  cases h1 : (a.st.addr.toList == b.st.addr.toList) with
  | false =>
    clear h
    go_enter Tryz.func12, Tryz.ntmps12
    go_wp2
    refine post_row got_ty Tryz.results12 rfl rfl (got_stored (RowAt.newAt (cs := gotC noEn 0) (t := 38) (by simp)) (got_size _ _)) ⟨rfl, Ext.setCells ((((Ext.refl w).alloc _).alloc _).alloc _) (by omega) _ _⟩
  | true =>
    have h2 : (a.st.var.toList == b.st.var.toList) = false := by
      rw [str_beq] at h1 ⊢
      simp only [decide_eq_true_eq] at h1
      simp only [decide_eq_false_iff_not]
      exact fun k => h ⟨h1, k⟩
    clear h
    go_enter Tryz.func12, Tryz.ntmps12
    go_wp2
    refine post_row got_ty Tryz.results12 rfl rfl (got_stored (RowAt.newAt (cs := gotC noEn 0) (t := 38) (by simp)) (got_size _ _)) ⟨rfl, Ext.setCells ((((Ext.refl w).alloc _).alloc _).alloc _) (by omega) _ _⟩
/-- A slice that came in, or one of the call's own: the blocks between are the call's. -/
def Keep (n0 base : Nat) (w : World) (A : Option Addr) (c : Nat) (l : List Sp) : Prop := ((A = none → c = 0) ∧ plainA A ∧ ReadsSp w n0 A l ∧ n0 ≤ w.heap.size) ∨ OwnsSp base w A c l
theorem Keep.none0 {n0 base : Nat} {w : World} {A : Option Addr} {c : Nat} {l : List Sp} (h : Keep n0 base w A c l) : A = none → c = 0 := h.elim (fun k => k.1) (fun k => Owns.none0 k)
theorem Keep.plain {n0 base : Nat} {w : World} {A : Option Addr} {c : Nat} {l : List Sp} (h : Keep n0 base w A c l) : plainA A := h.elim (fun k => k.2.1) (fun k => OwnsSp.plain k)
theorem Keep.reads {n0 base : Nat} {w : World} {A : Option Addr} {c : Nat} {l : List Sp} (h : Keep n0 base w A c l) : ReadsSp w w.heap.size A l := h.elim (fun k => k.2.2.1.up k.2.2.2) (fun k => Owns.reads spE k)
theorem Keep.ext {n0 base : Nat} {w w' : World} {A : Option Addr} {c : Nat} {l : List Sp} (h : Keep n0 base w A c l) (hx : Ext w w') : Keep n0 base w' A c l :=
  h.imp (fun k => ⟨k.1, k.2.1, k.2.2.1.ext hx k.2.2.2, Nat.le_trans k.2.2.2 hx.size⟩) (fun k => Owns.ext k hx)
theorem Keep.set {n0 base : Nat} {w : World} {A : Option Addr} {c : Nat} {l : List Sp} (h : Keep n0 base w A c l) {p : Addr} (h1 : n0 ≤ p.block) (h2 : p.block < base) (v : Value) : Keep n0 base (w.setCell p v) A c l := by
  refine h.imp (fun k => ⟨k.1, k.2.1, ?_, by simpa [World.setCell] using k.2.2.2⟩) (fun k => Owns.other k h2 v)
  exact k.2.2.1.below (Below.setCell (Below.refl n0 w) h1 v)
theorem Keep.sets {n0 base : Nat} {A : Option Addr} {c : Nat} {l : List Sp} {m : Nat} (h1 : n0 ≤ m) (h2 : m < base) (vs : List Value) : ∀ {w : World} (o : Nat), Keep n0 base w A c l → Keep n0 base (w.setCells m o vs) A c l := by
  induction vs with
  | nil => intro w o h; exact h
  | cons v r ih => intro w o h; exact ih (o + 1) (h.set (p := ⟨m, o, none⟩) h1 h2 v)
theorem VIn.keep {e : En} {A : Option Addr} {c : Nat} {l : List Sp} {w : World} (h : VIn e A c l w) (base : Nat) : Keep w.heap.size base w A c l := .inl ⟨h.z, h.hA, h.hr, Nat.le_refl _⟩
def RMrgRel (w : World) (X a b : En) (A B : Option Addr) (ca : Nat) (la lb : List Sp) (i : Value) (wr : World) : Prop := ∃ (k : Nat) (A' : Option Addr) (c' : Nat) (out : List Sp), k ≤ lb.length ∧ i = .int .i64 k ∧ Hid (out = addAll la (lb.take k)) ∧ Hid (Keep w.heap.size (w.heap.size + 1 + 1 + 1 + 1) wr A' c' out) ∧ Hid (Ext w wr) ∧
  Hid (RowAt wr (w.heap.size + 1 + 1 + 1) (entC { X with hv := .slice A' out.length c', bytes := mrgB b.bytes (lb.take k) a.bytes })) ∧ Hid (RowAt wr (w.heap.size + 1) (entC b)) ∧ Hid (RowAt wr (w.heap.size + 1 + 1) (gotC noEn 0))
set_option maxRecDepth 100000 in
set_option maxHeartbeats 400000 in
theorem rmerge_lt (a b : En) (A B : Option Addr) (ca cb : Nat) (la lb : List Sp) (w : World) (ha : VIn a A ca la w) (hb : VIn b B cb lb w) (h : a.st.addr = b.st.addr ∧ a.st.var = b.st.var) (hk : RKonst w) (hc : cmpN a.st b.st < 0) :
    Calls Tryz.prog 12 #[.agg (entC a), .agg (entC b)] w fun e' w' => GotIs (mergeN a b la lb) (mergeN a b la lb).n e' w w' := by
  have e1 : decide (cmpN a.st b.st < 0) = true := by simpa using hc
  have e2 : decide (cmpN a.st b.st = 0) = false := by simp; omega
  have hfa : fitsRow 45 (entC a) = true := ent_fits_of ha.hv
  have hfb : fitsRow 45 (entC b) = true := ent_fits_of hb.hv
  have HA := Lib.hid ha
  have HB := Lib.hid hb
  have HC := Lib.hid (fun W => rcompare_any a.st b.st W ha.mild hb.mild)
  have HSm := Lib.hid (fun W => rsame_is a.st b.st W ha.hb hb.hb ha.hby hb.hby)
  have n1 : (a.st.addr.toList == b.st.addr.toList) = true := by rw [str_beq]; simpa using h.1
  have n2 : (a.st.var.toList == b.st.var.toList) = true := by rw [str_beq]; simpa using h.2
  have q1 := rcmp_lt a.st b.st
  have q2 := rcmp_eq a.st b.st
  generalize rcmpN a.st b.st = rc at *
  have HN := Lib.hid h
  clear ha hb h
  go_enter Tryz.func12, Tryz.ntmps12
  go_wp2_with (first
    | (go_at_call 16; refine (show Hid _ from ?_).out)
    | (go_at_call 54; refine (show Hid _ from ?_).out)
    | (go_at_call 21; refine (show Hid _ from ?_).out)
    | (go_at_call 55; refine (show Hid _ from ?_).out))
  refine Lib.hid ?_
  refine calls_world (fun W => Ext w W ∧ RowAt W w.heap.size (entC a) ∧ RowAt W (w.heap.size + 1) (entC b) ∧ RowAt W (w.heap.size + 1 + 1) (gotC noEn 0) ∧ RowAt W (w.heap.size + 1 + 1 + 1) (entC a)) ⟨(by (repeat (first | with_reducible exact Ext.refl _ | with_reducible exact Ext.refl _ | with_reducible refine Ext.drew ?_ | with_reducible refine Ext.drewN ?_ _ | with_reducible refine Ext.alloc ?_ _ | with_reducible refine Ext.onto ?_ _ | (with_reducible refine Ext.setCells ?_ ?_ _ _; rotate_left; focus (first | omega | (simp; done) | (simp; omega))) | (with_reducible refine Ext.setCell ?_ ?_ _; rotate_left; focus (first | omega | (simp; done) | (simp; omega)))))), (by (repeat (first | with_reducible exact RowAt.new _ _ _ | with_reducible refine RowAt.drew ?_ | with_reducible refine RowAt.later ?_ _ | with_reducible exact RowAt.newAt (by first | rfl | omega | (simp [later_size, setCells_size]; done) | (simp [later_size, setCells_size]; omega)) | with_reducible refine RowAt.alloc ?_ _ | with_reducible apply RowAt.store | with_reducible refine RowAt.others ?_ ?_ _ _ | with_reducible refine RowAt.other ?_ ?_ _)); all_goals first | omega | (simp; done) | (simp; omega) | (simp [go_sem]; done)), (by (repeat (first | with_reducible exact RowAt.new _ _ _ | with_reducible refine RowAt.drew ?_ | with_reducible refine RowAt.later ?_ _ | with_reducible exact RowAt.newAt (by first | rfl | omega | (simp [later_size, setCells_size]; done) | (simp [later_size, setCells_size]; omega)) | with_reducible refine RowAt.alloc ?_ _ | with_reducible apply RowAt.store | with_reducible refine RowAt.others ?_ ?_ _ _ | with_reducible refine RowAt.other ?_ ?_ _)); all_goals first | omega | (simp; done) | (simp; omega) | (simp [go_sem]; done)), (by (repeat (first | with_reducible exact RowAt.new _ _ _ | with_reducible refine RowAt.drew ?_ | with_reducible refine RowAt.later ?_ _ | with_reducible exact RowAt.newAt (by first | rfl | omega | (simp [later_size, setCells_size]; done) | (simp [later_size, setCells_size]; omega)) | with_reducible refine RowAt.alloc ?_ _ | with_reducible apply RowAt.store | with_reducible refine RowAt.others ?_ ?_ _ _ | with_reducible refine RowAt.other ?_ ?_ _)); all_goals first | omega | (simp; done) | (simp; omega) | (simp [go_sem]; done)), (RowAt.newAt (cs := entC noEn) (t := 31) (by simp)).store (by rw [ent_size, ent_size])⟩ ?_
  rintro W0 ⟨x0, r0, r1, r2, r3⟩
  have HX0 := Lib.hid x0
  have HR0 := Lib.hid r0
  have HR1 := Lib.hid r1
  have HR2 := Lib.hid r2
  have HR3 := Lib.hid r3
  have hl0 := r0.lt
  have hl1 := r1.lt
  have hl2 := r2.lt
  have hl3 := r3.lt
  have row0 : rowOf W0 w.heap.size 0 41 = some (stmC a.st) := by rw [r0.row, if_neg (by omega), ent_stm]
  have row1 : rowOf W0 (w.heap.size + 1) 0 41 = some (stmC b.st) := by rw [r1.row, if_neg (by omega), ent_stm]
  have row1e : rowOf W0 (w.heap.size + 1) 0 45 = some (entC b) := r1.all (ent_size _).symm (by omega)
  have room3 : roomOf W0 (w.heap.size + 1 + 1 + 1) 0 45 = true := by rw [r3.room, ent_size]; rfl
  have s0 : W0.cell? ⟨w.heap.size, 41, none⟩ = some (.bool a.soft) := (r0.cell 41).trans (ent_g41 a)
  have s1 : W0.cell? ⟨w.heap.size + 1, 41, none⟩ = some (.bool b.soft) := (r1.cell 41).trans (ent_g41 b)
  have s3 : W0.cell? ⟨w.heap.size + 1 + 1 + 1, 41, none⟩ = some (.bool a.soft) := (r3.cell 41).trans (ent_g41 a)
  have f3 : W0.frozen? ⟨w.heap.size + 1 + 1 + 1, 41, none⟩ = false := r3.free 41
  clear x0 r0 r1 r2 r3 n1 n2
  refine (HC.out _).mono ?_
  rintro e' w' ⟨rfl, hxl⟩; obtain ⟨xa, rfl⟩ := hxl.asLater; clear hxl
  go_wp2_with (first
    | (go_at_call 16; refine (show Hid _ from ?_).out)
    | (go_at_call 54; refine (show Hid _ from ?_).out)
    | (go_at_call 21; refine (show Hid _ from ?_).out)
    | (go_at_call 55; refine (show Hid _ from ?_).out))
  refine Lib.hid ?_
  refine calls_world (fun W => Ext w W ∧ RowAt W w.heap.size (entC a) ∧ RowAt W (w.heap.size + 1) (entC b) ∧ RowAt W (w.heap.size + 1 + 1) (gotC noEn 0) ∧ RowAt W (w.heap.size + 1 + 1 + 1) (entC b)) ⟨(HX0.out.onto _).setCells (by omega) _ _, (HR0.out.later _).others (by omega) _ _, (HR1.out.later _).others (by omega) _ _, (HR2.out.later _).others (by omega) _ _, (HR3.out.later _).store (by rw [ent_size, ent_size])⟩ ?_
  clear hl0 hl1 hl2 hl3 row0 row1 row1e room3 s0 s1 s3 f3 HX0 HR0 HR1 HR2 HR3
  rintro W1 ⟨x1, r0, r1, r2, r3⟩
  have HBest : Hid (bestN a b la lb = ⟨b, lb, 0⟩) := Lib.hid (by unfold bestN; rw [if_pos hc, if_neg (by omega)])
  clear hc e1 e2 q1 q2
  have HX1 := Lib.hid x1
  have HR0 := Lib.hid r0
  have HR1 := Lib.hid r1
  have HR2 := Lib.hid r2
  have HR3 := Lib.hid r3
  have hl0 := r0.lt
  have hl1 := r1.lt
  have hl2 := r2.lt
  have hl3 := r3.lt
  have room2 : roomOf W1 (w.heap.size + 1 + 1) 0 46 = true := by rw [r2.room, got_size]; rfl
  have rowX : rowOf W1 (w.heap.size + 1 + 1 + 1) 0 45 = some (entC b) := r3.all (ent_size _).symm (by omega)
  have wh0 : W1.cell? ⟨w.heap.size, 44, none⟩ = some (.bool a.whole) := (r0.cell 44).trans (ent_g44 a)
  have wh1 : W1.cell? ⟨w.heap.size + 1, 44, none⟩ = some (.bool b.whole) := (r1.cell 44).trans (ent_g44 b)
  have ha42 : W1.cell? ⟨w.heap.size, 42, none⟩ = some (.slice A la.length ca) := by rw [← HA.out.hv]; exact (r0.cell 42).trans (ent_g42 a)
  have ha43 : W1.cell? ⟨w.heap.size, 43, none⟩ = some (.string a.bytes) := (r0.cell 43).trans (ent_g43 a)
  have hb42 : W1.cell? ⟨w.heap.size + 1, 42, none⟩ = some (.slice B lb.length cb) := by rw [← HB.out.hv]; exact (r1.cell 42).trans (ent_g42 b)
  have hb43 : W1.cell? ⟨w.heap.size + 1, 43, none⟩ = some (.string b.bytes) := (r1.cell 43).trans (ent_g43 b)
  have rowa : rowOf W1 w.heap.size 0 45 = some (entC a) := r0.all (ent_size _).symm (by omega)
  have rowb : rowOf W1 (w.heap.size + 1) 0 45 = some (entC b) := r1.all (ent_size _).symm (by omega)
  have hx42 : W1.cell? ⟨w.heap.size + 1 + 1 + 1, 42, none⟩ = some (b).hv := (r3.cell 42).trans (ent_g42 b)
  have hx43 : W1.cell? ⟨w.heap.size + 1 + 1 + 1, 43, none⟩ = some (.string (b).bytes) := (r3.cell 43).trans (ent_g43 b)
  have hx44 : W1.cell? ⟨w.heap.size + 1 + 1 + 1, 44, none⟩ = some (.bool (b).whole) := (r3.cell 44).trans (ent_g44 b)
  have fx42 : W1.frozen? ⟨w.heap.size + 1 + 1 + 1, 42, none⟩ = false := r3.free 42
  have fx43 : W1.frozen? ⟨w.heap.size + 1 + 1 + 1, 43, none⟩ = false := r3.free 43
  have fx44 : W1.frozen? ⟨w.heap.size + 1 + 1 + 1, 44, none⟩ = false := r3.free 44
  clear x1 r0 r1 r2 r3
  refine (HSm.out _).mono ?_
  rintro e' w' ⟨rfl, hxl⟩; obtain ⟨xs, rfl⟩ := hxl.asLater; clear hxl
  cases hsm : sameN a.st b.st with
  | false =>
    have hf0 : fitsRow 46 (gotC b 0) = true := got_fits_of (e := b) 0 HB.out.hv
    have HM : Hid (mergeN a b la lb = ⟨b, lb, 0⟩) := Lib.hid (by rw [mergeN, if_neg (fun k => k HN.out), if_pos hsm, HBest.out])
    go_wp2
    have hext : Ext w ((later W1 xs).setCells (w.heap.size + 1 + 1) 0 (gotC b 0).toList) := (HX1.out.onto _).setCells (by omega) _ _
    exact post_row got_ty Tryz.results12 rfl rfl (got_stored (HR2.out.later _) (got_size _ _)) ⟨B, cb, by rw [HM.out, hv_same (e := b) HB.out.hv], HB.out.hA, HB.out.z, by rw [HM.out]; exact HB.out.hr.on hext, hext⟩
  | true =>
    cases hwa : a.whole with
    | true =>
      rw [hwa] at wh0
      have hva : a.hv = .slice A la.length ca := HA.out.hv
      have HM : Hid (mergeN a b la lb = ⟨{ b with bytes := a.bytes, whole := true }, la, 0⟩) := Lib.hid (by rw [mergeN, if_neg (fun k => k HN.out), if_neg (by rw [hsm]; decide), if_pos hwa, HBest.out])
      clear hwa hsm
      go_wp2
      have ht3 : w.heap.size ≤ w.heap.size + 1 + 1 + 1 := by omega
      have hne : w.heap.size + 1 + 1 ≠ w.heap.size + 1 + 1 + 1 := by omega
      refine post_row got_ty Tryz.results12 rfl rfl (got_stored (((((((HR2.out.later _).alloc _).others (by omega) _ _)).other (p := ⟨w.heap.size + 1 + 1 + 1, 42, none⟩) hne _).other (p := ⟨w.heap.size + 1 + 1 + 1, 43, none⟩) hne _).other (p := ⟨w.heap.size + 1 + 1 + 1, 44, none⟩) hne _) (got_size _ _)) ⟨A, ca, by rw [HM.out], HA.out.hA, HA.out.z, ?_, ?_⟩
      · rw [HM.out]
        exact HA.out.hr.on ((((((((HX1.out.onto _).alloc _).setCells (by omega) _ _).setCell (p := ⟨w.heap.size + 1 + 1 + 1, 42, none⟩) ht3 _).setCell (p := ⟨w.heap.size + 1 + 1 + 1, 43, none⟩) ht3 _).setCell (p := ⟨w.heap.size + 1 + 1 + 1, 44, none⟩) ht3 _)).setCells (by omega) _ _)
      · exact ((((((((HX1.out.onto _).alloc _).setCells (by omega) _ _).setCell (p := ⟨w.heap.size + 1 + 1 + 1, 42, none⟩) ht3 _).setCell (p := ⟨w.heap.size + 1 + 1 + 1, 43, none⟩) ht3 _).setCell (p := ⟨w.heap.size + 1 + 1 + 1, 44, none⟩) ht3 _)).setCells (by omega) _ _)
    | false =>
      rw [hwa] at wh0
      cases hwb : b.whole with
      | true =>
        rw [hwb] at wh1
        have hvb : b.hv = .slice B lb.length cb := HB.out.hv
        have HM : Hid (mergeN a b la lb = ⟨{ b with bytes := b.bytes, whole := true }, lb, 0⟩) := Lib.hid (by rw [mergeN, if_neg (fun k => k HN.out), if_neg (by rw [hsm]; decide), if_neg (by rw [hwa]; decide), if_pos hwb, HBest.out])
        clear hwa hwb hsm
        go_wp2
        have ht3 : w.heap.size ≤ w.heap.size + 1 + 1 + 1 := by omega
        have hne : w.heap.size + 1 + 1 ≠ w.heap.size + 1 + 1 + 1 := by omega
        refine post_row got_ty Tryz.results12 rfl rfl (got_stored ((((((((HR2.out.later _).alloc _).others (by omega) _ _).others (by omega) _ _)).other (p := ⟨w.heap.size + 1 + 1 + 1, 42, none⟩) hne _).other (p := ⟨w.heap.size + 1 + 1 + 1, 43, none⟩) hne _).other (p := ⟨w.heap.size + 1 + 1 + 1, 44, none⟩) hne _) (got_size _ _)) ⟨B, cb, by rw [HM.out], HB.out.hA, HB.out.z, ?_, ?_⟩
        · rw [HM.out]
          exact HB.out.hr.on (((((((((HX1.out.onto _).alloc _).setCells (by omega) _ _).setCells (by omega) _ _).setCell (p := ⟨w.heap.size + 1 + 1 + 1, 42, none⟩) ht3 _).setCell (p := ⟨w.heap.size + 1 + 1 + 1, 43, none⟩) ht3 _).setCell (p := ⟨w.heap.size + 1 + 1 + 1, 44, none⟩) ht3 _)).setCells (by omega) _ _)
        · exact (((((((((HX1.out.onto _).alloc _).setCells (by omega) _ _).setCells (by omega) _ _).setCell (p := ⟨w.heap.size + 1 + 1 + 1, 42, none⟩) ht3 _).setCell (p := ⟨w.heap.size + 1 + 1 + 1, 43, none⟩) ht3 _).setCell (p := ⟨w.heap.size + 1 + 1 + 1, 44, none⟩) ht3 _)).setCells (by omega) _ _)
      | false =>
        rw [hwb] at wh1
        have HM : Hid (mergeN a b la lb = { settleN b (addAll la lb) (mrgB b.bytes lb a.bytes) with n := 0 }) := Lib.hid (by rw [mergeN, if_neg (fun k => k HN.out), if_neg (by rw [hsm]; decide), if_neg (by rw [hwa]; decide), if_neg (by rw [hwb]; decide), HBest.out])
        have HSz := Lib.hid (sameN_iff hsm).1
        have HWX : Hid ((b).whole = false) := Lib.hid (by first | exact hwb | exact hwa | exact HXW.out.symm.trans hwa)
        clear hwa hwb hsm
        go_wp2
        go_loopw [8] (RMrgRel w b a b A B ca la lb) (fun i _ => lb.length - (intOf i).toNat)
        case atStart =>
          have ht3 : w.heap.size ≤ w.heap.size + 1 + 1 + 1 := by omega
          have hx : Ext w (((later W1 xs).setCell ⟨w.heap.size + 1 + 1 + 1, 42, none⟩ (.slice A la.length ca)).setCell ⟨w.heap.size + 1 + 1 + 1, 43, none⟩ (.string a.bytes)) := ((HX1.out.onto _).setCell (p := ⟨w.heap.size + 1 + 1 + 1, 42, none⟩) ht3 _).setCell (p := ⟨w.heap.size + 1 + 1 + 1, 43, none⟩) ht3 _
          refine ⟨0, A, ca, la, Nat.zero_le _, by go_num, Lib.hid rfl, Lib.hid (.inl ⟨HA.out.z, HA.out.hA, HA.out.hr.ext hx (Nat.le_refl _), hx.size⟩), Lib.hid hx, Lib.hid ?_, Lib.hid ?_, Lib.hid ?_⟩
          · have q := (HR3.out.later xs).set 42 (.slice A la.length ca)
            rw [ent_set42] at q
            have q2 := q.set 43 (.string a.bytes)
            rw [ent_set43] at q2
            exact q2
          · exact ((HR1.out.later _).other (p := ⟨w.heap.size + 1 + 1 + 1, 42, none⟩) (by show w.heap.size + 1 ≠ w.heap.size + 1 + 1 + 1; omega) _).other (p := ⟨w.heap.size + 1 + 1 + 1, 43, none⟩) (by show w.heap.size + 1 ≠ w.heap.size + 1 + 1 + 1; omega) _
          · exact ((HR2.out.later _).other (p := ⟨w.heap.size + 1 + 1 + 1, 42, none⟩) (by show w.heap.size + 1 + 1 ≠ w.heap.size + 1 + 1 + 1; omega) _).other (p := ⟨w.heap.size + 1 + 1 + 1, 43, none⟩) (by show w.heap.size + 1 + 1 ≠ w.heap.size + 1 + 1 + 1; omega) _
        case round =>
          obtain ⟨k, A', c', out, hk', rfl, HO, HKp, HX, HRx, HRb, HRg⟩ := hrel
          have hsz := HX.out.size
          clear hl0 hl1 hl2 hl3 rowX room2 wh0 wh1 ha42 ha43 hb42 hb43 rowa rowb hx42 hx43 hx44 fx42 fx43 fx44
          have hl1 := HRb.out.lt
          have hl2 := HRg.out.lt
          have hl3 := HRx.out.lt
          have z42 : wr.cell? ⟨w.heap.size + 1, 42, none⟩ = some (.slice B lb.length cb) := by rw [← HB.out.hv]; exact (HRb.out.cell 42).trans (ent_g42 b)
          have z43 : wr.cell? ⟨w.heap.size + 1, 43, none⟩ = some (.string b.bytes) := (HRb.out.cell 43).trans (ent_g43 b)
          have x42 : wr.cell? ⟨w.heap.size + 1 + 1 + 1, 42, none⟩ = some (.slice A' out.length c') := (HRx.out.cell 42).trans (ent_g42 _)
          have x43 : wr.cell? ⟨w.heap.size + 1 + 1 + 1, 43, none⟩ = some (.string (mrgB b.bytes (lb.take k) a.bytes)) := (HRx.out.cell 43).trans (ent_g43 _)
          have f42 : wr.frozen? ⟨w.heap.size + 1 + 1 + 1, 42, none⟩ = false := HRx.out.free 42
          have f43 : wr.frozen? ⟨w.heap.size + 1 + 1 + 1, 43, none⟩ = false := HRx.out.free 43
          by_cases hlt : k < lb.length
          · obtain ⟨bb, off, rfl, hb, y1, y2⟩ := ReadsSp.cell (HB.out.hr.ext HX.out (Nat.le_refl _)) k hlt
            have hin := List.getElem_mem hlt
            have i1 := HB.out.val.si.1.2 _ hin
            have i2 := HB.out.val.si.2 _ hin
            have i3 := HB.out.val.bs
            have HJ := Lib.hid (addAll_snoc la lb k hlt)
            have HJB := Lib.hid (mrgB_snoc b.bytes lb a.bytes k hlt)
            generalize lb[k] = s at *
            obtain ⟨s1, s2⟩ := s
            simp only [] at y1 y2 i1 i2
            obtain ⟨f, rfl⟩ : ∃ f : Nat, s1 = f := ⟨s1.toNat, by omega⟩
            obtain ⟨t, rfl⟩ : ∃ t : Nat, s2 = t := ⟨s2.toNat, by omega⟩
            have hxf : (b.bytes.extract f t).size = t - f := extract_sz (by omega)
            have hbd : ∀ s ∈ lb, 0 ≤ s.1 ∧ s.1 < s.2 ∧ s.2 ≤ b.bytes.size := fun s hs => by
              have h1 := HB.out.val.si.1.2 s hs
              have h2 := HB.out.val.si.2 s hs
              omega
            have hD : (mrgB b.bytes (lb.take k) a.bytes).size = b.bytes.size := (mrg_get b.bytes (lb.take k) a.bytes (fun s hs => hbd s (List.mem_of_mem_take hs)) (by have h1 := HA.out.val.bs; have h2 := HSz.out; omega)).1
            have hlen := SetIn.len (addAll_in (lb.take k) HA.out.val.si (fun s hs => by have h1 := hbd s (List.mem_of_mem_take hs); have h2 := HSz.out; omega)).1 HA.out.val.z0
            rw [← HO.out] at hlen
            have hsz2 := HA.out.val.sz
            generalize mrgB b.bytes (lb.take k) a.bytes = D at *
            have hcat := cat_over (b := D) (x := b.bytes.extract f t) (p := f) (by omega)
            rw [hxf, show f + (t - f) = t by omega] at hcat
            have HC := Lib.hid hcat
            have hDb : D.size ≤ 1000000 := by have h2 := HSz.out; omega
            have hlb : lb.length ≤ 1000000 := by have h1 := HB.out.val.len; have h2 := HB.out.val.sz; omega
            clear hin hbd hcat
            go_wp2_with (first
              | (go_at_call 16; refine (show Hid _ from ?_).out)
              | (go_at_call 54; refine (show Hid _ from ?_).out)
              | (go_at_call 21; refine (show Hid _ from ?_).out)
              | (go_at_call 55; refine (show Hid _ from ?_).out))
            refine Lib.hid ?_
            refine (radd_any A' c' out ((f : Int), (t : Int)) _ (by omega) (HKp.out.ext ((Ext.refl _).alloc _)).reads HKp.out.none0).mono ?_
            rintro e' w' ⟨A2, c2, out2, rfl, HO2, ho, hx⟩
            have HO3 := Lib.hid ho
            obtain ⟨x2, rfl⟩ := hx.asLater
            clear ho hx hlen hsz2
            have hDs : t ≤ D.size := by omega
            go_wp2
            have hcl : (D.extract 0 f ++ b.bytes.extract f t).size = t := by rw [cat_len (by omega), hxf]; omega
            have hxl : (D.extract 0 f).size = f := by rw [extract_sz (by omega)]; omega
            have hxr : (D.extract t D.size).size = D.size - t := extract_sz (Nat.le_refl _)
            have hcat2 := HC.out
            refine wp_region_later_tail 20 (by kernel_rfl) (by kernel_rfl) ?_
            simp only [List.take_succ_cons, List.take_zero, List.drop_succ_cons, List.drop_zero]
            repeat (first | go_big_quiet_step (fail) | quiet_step (fail))
            refine wpQuiet_nil ?_
            rintro _ ⟨xq, rfl⟩
            go_wp2
            go_roundw
            case rel =>
              have ht3 : w.heap.size ≤ w.heap.size + 1 + 1 + 1 := by omega
              have ht4 : w.heap.size + 1 + 1 + 1 < w.heap.size + 1 + 1 + 1 + 1 := by omega
              refine ⟨k + 1, A2, c2, out2, by omega, by go_num, Lib.hid (by rw [HO2.out, HO.out]; exact HJ.out.symm), Lib.hid (.inr ?_), Lib.hid ?_, Lib.hid ?_, Lib.hid ?_, Lib.hid ?_⟩
              · have hO4 : OwnsSp (w.heap.size + 1 + 1 + 1 + 1) _ A2 c2 out2 := HO3.out.lower (by first | omega | (simp; omega) | (simp [World.alloc]; omega))
                exact (((hO4.other (p := ⟨w.heap.size + 1 + 1 + 1, 42, none⟩) ht4 _).later xq).other (p := ⟨w.heap.size + 1 + 1 + 1, 43, none⟩) ht4 _)
              · exact ((((HX.out.alloc _).onto x2).setCell (p := ⟨w.heap.size + 1 + 1 + 1, 42, none⟩) ht3 _).onto xq).setCell (p := ⟨w.heap.size + 1 + 1 + 1, 43, none⟩) ht3 _
              · have q := ((HRx.out.alloc (.cells #[.int .i64 (f : Int), .int .i64 (t : Int)] 52)).later x2).set 42 (.slice A2 out2.length c2)
                rw [ent_set42] at q
                have q2 := (q.later xq).set 43 (.string (D.extract 0 f ++ b.bytes.extract f t ++ D.extract t b.bytes.size))
                have hov : D.extract 0 f ++ b.bytes.extract f t ++ D.extract t b.bytes.size = overB D f (b.bytes.extract f t) := by rw [← hD]; exact HC.out
                rw [ent_set43] at q2
                have hj := HJB.out
                simp only [Int.toNat_natCast] at hj
                rw [hj, ← hov]
                exact q2
              · exact ((((HRb.out.alloc _).later _).other (p := ⟨w.heap.size + 1 + 1 + 1, 42, none⟩) (by show w.heap.size + 1 ≠ w.heap.size + 1 + 1 + 1; omega) _).later _).other (p := ⟨w.heap.size + 1 + 1 + 1, 43, none⟩) (by show w.heap.size + 1 ≠ w.heap.size + 1 + 1 + 1; omega) _
              · exact ((((HRg.out.alloc _).later _).other (p := ⟨w.heap.size + 1 + 1 + 1, 42, none⟩) (by show w.heap.size + 1 + 1 ≠ w.heap.size + 1 + 1 + 1; omega) _).later _).other (p := ⟨w.heap.size + 1 + 1 + 1, 43, none⟩) (by show w.heap.size + 1 + 1 ≠ w.heap.size + 1 + 1 + 1; omega) _
            case measure =>
              simp [intOf]
              omega
          · have e : k = lb.length := by omega
            subst e
            rw [List.take_length] at HO HRx x43
            clear x42 x43 z43
            have i3 := HB.out.val.bs
            have hbd : ∀ s ∈ lb, 0 ≤ s.1 ∧ s.1 < s.2 ∧ s.2 ≤ b.bytes.size := fun s hs => by
              have h1 := HB.out.val.si.1.2 s hs
              have h2 := HB.out.val.si.2 s hs
              omega
            have hD : (mrgB b.bytes lb a.bytes).size = b.bytes.size := (mrg_get b.bytes lb a.bytes hbd (by have h1 := HA.out.val.bs; have h2 := HSz.out; omega)).1
            have hlen := SetIn.len (addAll_in lb HA.out.val.si (fun s hs => by have h1 := hbd s hs; have h2 := HSz.out; omega)).1 HA.out.val.z0
            rw [← HO.out] at hlen
            have hsz2 := HA.out.val.sz
            have hszb := HB.out.val.sz
            generalize mrgB b.bytes lb a.bytes = D at *
            have rowX := HRx.out.all (ent_size _).symm (by omega)
            clear hbd
            go_wp2_with (first
              | (go_at_call 16; refine (show Hid _ from ?_).out)
              | (go_at_call 54; refine (show Hid _ from ?_).out)
              | (go_at_call 21; refine (show Hid _ from ?_).out)
              | (go_at_call 55; refine (show Hid _ from ?_).out))
            refine Lib.hid ?_
            refine (rsettled_any ⟨(b).st, (b).soft, .slice A' out.length c', D, (b).whole⟩ A' c' out D wr rfl HWX.out HB.out.val.z0 HB.out.val.sz (by omega) (by omega) HB.out.hb HB.out.hby (RowAt.ext hk HX.out) HKp.out.reads).mono ?_
            rintro e' w' ⟨A4, c4, rfl, hor, hx4⟩
            obtain ⟨s1, s2, s3⟩ := settle_same b (.slice A' out.length c') D D out
            rw [s1] at hor
            rw [s1, s2, s3]
            have hMr : mergeN a b la lb = { settleN b out D with n := 0 } := by rw [HM.out, HO.out]
            generalize settleN b out D = r at *
            have HMr := Lib.hid hMr
            have HOr := Lib.hid hor
            obtain ⟨x4, rfl⟩ := hx4.asLater
            have hf4 : fitsRow 46 (gotC { r.e with hv := .slice A4 r.l.length c4 } 0) = true := got_fits_of 0 rfl
            have room2 : roomOf wr (w.heap.size + 1 + 1) 0 46 = true := by rw [HRg.out.room, got_size]; rfl
            clear hor hx4 s1 s2 s3 HM hMr rowX hlen hsz2 hszb hD
            go_wp2
            refine post_row got_ty Tryz.results12 rfl rfl (got_stored (HRg.out.later _) (got_size _ _)) ⟨A4, c4, by rw [HMr.out], ?_, ?_, ?_, Ext.setCells (HX.out.onto _) (by omega) _ _⟩
            · rcases HOr.out with ⟨q, _⟩ | ⟨q, _⟩
              · subst q; exact plainA_none
              · subst q; exact HKp.out.plain
            · rcases HOr.out with ⟨_, q, _⟩ | ⟨q, q2, _⟩
              · exact fun _ => q
              · subst q q2; exact HKp.out.none0
            · rw [HMr.out]
              rcases HOr.out with ⟨_, _, q⟩ | ⟨q, q2, q3⟩
              · rw [q]; exact Reads.nil _ _ _ _ _
              · subst q; rw [q3]; exact (Keep.sets (by omega) (by omega) _ 0 (HKp.out.ext (ext_later wr x4))).reads
set_option maxRecDepth 100000 in
set_option maxHeartbeats 400000 in
theorem rmerge_gt (a b : En) (A B : Option Addr) (ca cb : Nat) (la lb : List Sp) (w : World) (ha : VIn a A ca la w) (hb : VIn b B cb lb w) (h : a.st.addr = b.st.addr ∧ a.st.var = b.st.var) (hk : RKonst w) (hc : 0 < cmpN a.st b.st) :
    Calls Tryz.prog 12 #[.agg (entC a), .agg (entC b)] w fun e' w' => GotIs (mergeN a b la lb) (mergeN a b la lb).n e' w w' := by
  have e1 : decide (cmpN a.st b.st < 0) = false := by simp; omega
  have e2 : decide (cmpN a.st b.st = 0) = false := by simp; omega
  have hfa : fitsRow 45 (entC a) = true := ent_fits_of ha.hv
  have hfb : fitsRow 45 (entC b) = true := ent_fits_of hb.hv
  have HA := Lib.hid ha
  have HB := Lib.hid hb
  have HC := Lib.hid (fun W => rcompare_any a.st b.st W ha.mild hb.mild)
  have HSm := Lib.hid (fun W => rsame_is a.st b.st W ha.hb hb.hb ha.hby hb.hby)
  have n1 : (a.st.addr.toList == b.st.addr.toList) = true := by rw [str_beq]; simpa using h.1
  have n2 : (a.st.var.toList == b.st.var.toList) = true := by rw [str_beq]; simpa using h.2
  have q1 := rcmp_lt a.st b.st
  have q2 := rcmp_eq a.st b.st
  generalize rcmpN a.st b.st = rc at *
  have HN := Lib.hid h
  clear ha hb h
  go_enter Tryz.func12, Tryz.ntmps12
  go_wp2_with (first
    | (go_at_call 16; refine (show Hid _ from ?_).out)
    | (go_at_call 54; refine (show Hid _ from ?_).out)
    | (go_at_call 21; refine (show Hid _ from ?_).out)
    | (go_at_call 55; refine (show Hid _ from ?_).out))
  refine Lib.hid ?_
  refine calls_world (fun W => Ext w W ∧ RowAt W w.heap.size (entC a) ∧ RowAt W (w.heap.size + 1) (entC b) ∧ RowAt W (w.heap.size + 1 + 1) (gotC noEn 0) ∧ RowAt W (w.heap.size + 1 + 1 + 1) (entC a)) ⟨(by (repeat (first | with_reducible exact Ext.refl _ | with_reducible exact Ext.refl _ | with_reducible refine Ext.drew ?_ | with_reducible refine Ext.drewN ?_ _ | with_reducible refine Ext.alloc ?_ _ | with_reducible refine Ext.onto ?_ _ | (with_reducible refine Ext.setCells ?_ ?_ _ _; rotate_left; focus (first | omega | (simp; done) | (simp; omega))) | (with_reducible refine Ext.setCell ?_ ?_ _; rotate_left; focus (first | omega | (simp; done) | (simp; omega)))))), (by (repeat (first | with_reducible exact RowAt.new _ _ _ | with_reducible refine RowAt.drew ?_ | with_reducible refine RowAt.later ?_ _ | with_reducible exact RowAt.newAt (by first | rfl | omega | (simp [later_size, setCells_size]; done) | (simp [later_size, setCells_size]; omega)) | with_reducible refine RowAt.alloc ?_ _ | with_reducible apply RowAt.store | with_reducible refine RowAt.others ?_ ?_ _ _ | with_reducible refine RowAt.other ?_ ?_ _)); all_goals first | omega | (simp; done) | (simp; omega) | (simp [go_sem]; done)), (by (repeat (first | with_reducible exact RowAt.new _ _ _ | with_reducible refine RowAt.drew ?_ | with_reducible refine RowAt.later ?_ _ | with_reducible exact RowAt.newAt (by first | rfl | omega | (simp [later_size, setCells_size]; done) | (simp [later_size, setCells_size]; omega)) | with_reducible refine RowAt.alloc ?_ _ | with_reducible apply RowAt.store | with_reducible refine RowAt.others ?_ ?_ _ _ | with_reducible refine RowAt.other ?_ ?_ _)); all_goals first | omega | (simp; done) | (simp; omega) | (simp [go_sem]; done)), (by (repeat (first | with_reducible exact RowAt.new _ _ _ | with_reducible refine RowAt.drew ?_ | with_reducible refine RowAt.later ?_ _ | with_reducible exact RowAt.newAt (by first | rfl | omega | (simp [later_size, setCells_size]; done) | (simp [later_size, setCells_size]; omega)) | with_reducible refine RowAt.alloc ?_ _ | with_reducible apply RowAt.store | with_reducible refine RowAt.others ?_ ?_ _ _ | with_reducible refine RowAt.other ?_ ?_ _)); all_goals first | omega | (simp; done) | (simp; omega) | (simp [go_sem]; done)), (RowAt.newAt (cs := entC noEn) (t := 31) (by simp)).store (by rw [ent_size, ent_size])⟩ ?_
  rintro W0 ⟨x0, r0, r1, r2, r3⟩
  have HX0 := Lib.hid x0
  have HR0 := Lib.hid r0
  have HR1 := Lib.hid r1
  have HR2 := Lib.hid r2
  have HR3 := Lib.hid r3
  have hl0 := r0.lt
  have hl1 := r1.lt
  have hl2 := r2.lt
  have hl3 := r3.lt
  have row0 : rowOf W0 w.heap.size 0 41 = some (stmC a.st) := by rw [r0.row, if_neg (by omega), ent_stm]
  have row1 : rowOf W0 (w.heap.size + 1) 0 41 = some (stmC b.st) := by rw [r1.row, if_neg (by omega), ent_stm]
  have row1e : rowOf W0 (w.heap.size + 1) 0 45 = some (entC b) := r1.all (ent_size _).symm (by omega)
  have room3 : roomOf W0 (w.heap.size + 1 + 1 + 1) 0 45 = true := by rw [r3.room, ent_size]; rfl
  have s0 : W0.cell? ⟨w.heap.size, 41, none⟩ = some (.bool a.soft) := (r0.cell 41).trans (ent_g41 a)
  have s1 : W0.cell? ⟨w.heap.size + 1, 41, none⟩ = some (.bool b.soft) := (r1.cell 41).trans (ent_g41 b)
  have s3 : W0.cell? ⟨w.heap.size + 1 + 1 + 1, 41, none⟩ = some (.bool a.soft) := (r3.cell 41).trans (ent_g41 a)
  have f3 : W0.frozen? ⟨w.heap.size + 1 + 1 + 1, 41, none⟩ = false := r3.free 41
  clear x0 r0 r1 r2 r3 n1 n2
  refine (HC.out _).mono ?_
  rintro e' w' ⟨rfl, hxl⟩; obtain ⟨xa, rfl⟩ := hxl.asLater; clear hxl
  go_wp2_with (first
    | (go_at_call 16; refine (show Hid _ from ?_).out)
    | (go_at_call 54; refine (show Hid _ from ?_).out)
    | (go_at_call 21; refine (show Hid _ from ?_).out)
    | (go_at_call 55; refine (show Hid _ from ?_).out))
  refine Lib.hid ?_
  refine calls_world (fun W => Ext w W ∧ RowAt W w.heap.size (entC a) ∧ RowAt W (w.heap.size + 1) (entC b) ∧ RowAt W (w.heap.size + 1 + 1) (gotC noEn 0) ∧ RowAt W (w.heap.size + 1 + 1 + 1) (entC a)) ⟨HX0.out.onto _, HR0.out.later _, HR1.out.later _, HR2.out.later _, HR3.out.later _⟩ ?_
  clear hl0 hl1 hl2 hl3 row0 row1 row1e room3 s0 s1 s3 f3 HX0 HR0 HR1 HR2 HR3
  rintro W1 ⟨x1, r0, r1, r2, r3⟩
  have HBest : Hid (bestN a b la lb = ⟨a, la, 0⟩) := Lib.hid (by unfold bestN; rw [if_neg (by omega), if_neg (by omega)])
  clear hc e1 e2 q1 q2
  have HX1 := Lib.hid x1
  have HR0 := Lib.hid r0
  have HR1 := Lib.hid r1
  have HR2 := Lib.hid r2
  have HR3 := Lib.hid r3
  have hl0 := r0.lt
  have hl1 := r1.lt
  have hl2 := r2.lt
  have hl3 := r3.lt
  have room2 : roomOf W1 (w.heap.size + 1 + 1) 0 46 = true := by rw [r2.room, got_size]; rfl
  have rowX : rowOf W1 (w.heap.size + 1 + 1 + 1) 0 45 = some (entC a) := r3.all (ent_size _).symm (by omega)
  have wh0 : W1.cell? ⟨w.heap.size, 44, none⟩ = some (.bool a.whole) := (r0.cell 44).trans (ent_g44 a)
  have wh1 : W1.cell? ⟨w.heap.size + 1, 44, none⟩ = some (.bool b.whole) := (r1.cell 44).trans (ent_g44 b)
  have ha42 : W1.cell? ⟨w.heap.size, 42, none⟩ = some (.slice A la.length ca) := by rw [← HA.out.hv]; exact (r0.cell 42).trans (ent_g42 a)
  have ha43 : W1.cell? ⟨w.heap.size, 43, none⟩ = some (.string a.bytes) := (r0.cell 43).trans (ent_g43 a)
  have hb42 : W1.cell? ⟨w.heap.size + 1, 42, none⟩ = some (.slice B lb.length cb) := by rw [← HB.out.hv]; exact (r1.cell 42).trans (ent_g42 b)
  have hb43 : W1.cell? ⟨w.heap.size + 1, 43, none⟩ = some (.string b.bytes) := (r1.cell 43).trans (ent_g43 b)
  have rowa : rowOf W1 w.heap.size 0 45 = some (entC a) := r0.all (ent_size _).symm (by omega)
  have rowb : rowOf W1 (w.heap.size + 1) 0 45 = some (entC b) := r1.all (ent_size _).symm (by omega)
  have hx42 : W1.cell? ⟨w.heap.size + 1 + 1 + 1, 42, none⟩ = some (a).hv := (r3.cell 42).trans (ent_g42 a)
  have hx43 : W1.cell? ⟨w.heap.size + 1 + 1 + 1, 43, none⟩ = some (.string (a).bytes) := (r3.cell 43).trans (ent_g43 a)
  have hx44 : W1.cell? ⟨w.heap.size + 1 + 1 + 1, 44, none⟩ = some (.bool (a).whole) := (r3.cell 44).trans (ent_g44 a)
  have fx42 : W1.frozen? ⟨w.heap.size + 1 + 1 + 1, 42, none⟩ = false := r3.free 42
  have fx43 : W1.frozen? ⟨w.heap.size + 1 + 1 + 1, 43, none⟩ = false := r3.free 43
  have fx44 : W1.frozen? ⟨w.heap.size + 1 + 1 + 1, 44, none⟩ = false := r3.free 44
  clear x1 r0 r1 r2 r3
  refine (HSm.out _).mono ?_
  rintro e' w' ⟨rfl, hxl⟩; obtain ⟨xs, rfl⟩ := hxl.asLater; clear hxl
  cases hsm : sameN a.st b.st with
  | false =>
    have hf0 : fitsRow 46 (gotC a 0) = true := got_fits_of (e := a) 0 HA.out.hv
    have HM : Hid (mergeN a b la lb = ⟨a, la, 0⟩) := Lib.hid (by rw [mergeN, if_neg (fun k => k HN.out), if_pos hsm, HBest.out])
    go_wp2
    have hext : Ext w ((later W1 xs).setCells (w.heap.size + 1 + 1) 0 (gotC a 0).toList) := (HX1.out.onto _).setCells (by omega) _ _
    exact post_row got_ty Tryz.results12 rfl rfl (got_stored (HR2.out.later _) (got_size _ _)) ⟨A, ca, by rw [HM.out, hv_same (e := a) HA.out.hv], HA.out.hA, HA.out.z, by rw [HM.out]; exact HA.out.hr.on hext, hext⟩
  | true =>
    cases hwa : a.whole with
    | true =>
      rw [hwa] at wh0
      have hva : a.hv = .slice A la.length ca := HA.out.hv
      have HM : Hid (mergeN a b la lb = ⟨{ a with bytes := a.bytes, whole := true }, la, 0⟩) := Lib.hid (by rw [mergeN, if_neg (fun k => k HN.out), if_neg (by rw [hsm]; decide), if_pos hwa, HBest.out])
      clear hwa hsm
      go_wp2
      have ht3 : w.heap.size ≤ w.heap.size + 1 + 1 + 1 := by omega
      have hne : w.heap.size + 1 + 1 ≠ w.heap.size + 1 + 1 + 1 := by omega
      refine post_row got_ty Tryz.results12 rfl rfl (got_stored (((((((HR2.out.later _).alloc _).others (by omega) _ _)).other (p := ⟨w.heap.size + 1 + 1 + 1, 42, none⟩) hne _).other (p := ⟨w.heap.size + 1 + 1 + 1, 43, none⟩) hne _).other (p := ⟨w.heap.size + 1 + 1 + 1, 44, none⟩) hne _) (got_size _ _)) ⟨A, ca, by rw [HM.out], HA.out.hA, HA.out.z, ?_, ?_⟩
      · rw [HM.out]
        exact HA.out.hr.on ((((((((HX1.out.onto _).alloc _).setCells (by omega) _ _).setCell (p := ⟨w.heap.size + 1 + 1 + 1, 42, none⟩) ht3 _).setCell (p := ⟨w.heap.size + 1 + 1 + 1, 43, none⟩) ht3 _).setCell (p := ⟨w.heap.size + 1 + 1 + 1, 44, none⟩) ht3 _)).setCells (by omega) _ _)
      · exact ((((((((HX1.out.onto _).alloc _).setCells (by omega) _ _).setCell (p := ⟨w.heap.size + 1 + 1 + 1, 42, none⟩) ht3 _).setCell (p := ⟨w.heap.size + 1 + 1 + 1, 43, none⟩) ht3 _).setCell (p := ⟨w.heap.size + 1 + 1 + 1, 44, none⟩) ht3 _)).setCells (by omega) _ _)
    | false =>
      rw [hwa] at wh0
      cases hwb : b.whole with
      | true =>
        rw [hwb] at wh1
        have hvb : b.hv = .slice B lb.length cb := HB.out.hv
        have HM : Hid (mergeN a b la lb = ⟨{ a with bytes := b.bytes, whole := true }, lb, 0⟩) := Lib.hid (by rw [mergeN, if_neg (fun k => k HN.out), if_neg (by rw [hsm]; decide), if_neg (by rw [hwa]; decide), if_pos hwb, HBest.out])
        clear hwa hwb hsm
        go_wp2
        have ht3 : w.heap.size ≤ w.heap.size + 1 + 1 + 1 := by omega
        have hne : w.heap.size + 1 + 1 ≠ w.heap.size + 1 + 1 + 1 := by omega
        refine post_row got_ty Tryz.results12 rfl rfl (got_stored ((((((((HR2.out.later _).alloc _).others (by omega) _ _).others (by omega) _ _)).other (p := ⟨w.heap.size + 1 + 1 + 1, 42, none⟩) hne _).other (p := ⟨w.heap.size + 1 + 1 + 1, 43, none⟩) hne _).other (p := ⟨w.heap.size + 1 + 1 + 1, 44, none⟩) hne _) (got_size _ _)) ⟨B, cb, by rw [HM.out], HB.out.hA, HB.out.z, ?_, ?_⟩
        · rw [HM.out]
          exact HB.out.hr.on (((((((((HX1.out.onto _).alloc _).setCells (by omega) _ _).setCells (by omega) _ _).setCell (p := ⟨w.heap.size + 1 + 1 + 1, 42, none⟩) ht3 _).setCell (p := ⟨w.heap.size + 1 + 1 + 1, 43, none⟩) ht3 _).setCell (p := ⟨w.heap.size + 1 + 1 + 1, 44, none⟩) ht3 _)).setCells (by omega) _ _)
        · exact (((((((((HX1.out.onto _).alloc _).setCells (by omega) _ _).setCells (by omega) _ _).setCell (p := ⟨w.heap.size + 1 + 1 + 1, 42, none⟩) ht3 _).setCell (p := ⟨w.heap.size + 1 + 1 + 1, 43, none⟩) ht3 _).setCell (p := ⟨w.heap.size + 1 + 1 + 1, 44, none⟩) ht3 _)).setCells (by omega) _ _)
      | false =>
        rw [hwb] at wh1
        have HM : Hid (mergeN a b la lb = { settleN a (addAll la lb) (mrgB b.bytes lb a.bytes) with n := 0 }) := Lib.hid (by rw [mergeN, if_neg (fun k => k HN.out), if_neg (by rw [hsm]; decide), if_neg (by rw [hwa]; decide), if_neg (by rw [hwb]; decide), HBest.out])
        have HSz := Lib.hid (sameN_iff hsm).1
        have HWX : Hid ((a).whole = false) := Lib.hid (by first | exact hwb | exact hwa | exact HXW.out.symm.trans hwa)
        clear hwa hwb hsm
        go_wp2
        go_loopw [8] (RMrgRel w a a b A B ca la lb) (fun i _ => lb.length - (intOf i).toNat)
        case atStart =>
          have ht3 : w.heap.size ≤ w.heap.size + 1 + 1 + 1 := by omega
          have hx : Ext w (((later W1 xs).setCell ⟨w.heap.size + 1 + 1 + 1, 42, none⟩ (.slice A la.length ca)).setCell ⟨w.heap.size + 1 + 1 + 1, 43, none⟩ (.string a.bytes)) := ((HX1.out.onto _).setCell (p := ⟨w.heap.size + 1 + 1 + 1, 42, none⟩) ht3 _).setCell (p := ⟨w.heap.size + 1 + 1 + 1, 43, none⟩) ht3 _
          refine ⟨0, A, ca, la, Nat.zero_le _, by go_num, Lib.hid rfl, Lib.hid (.inl ⟨HA.out.z, HA.out.hA, HA.out.hr.ext hx (Nat.le_refl _), hx.size⟩), Lib.hid hx, Lib.hid ?_, Lib.hid ?_, Lib.hid ?_⟩
          · have q := (HR3.out.later xs).set 42 (.slice A la.length ca)
            rw [ent_set42] at q
            have q2 := q.set 43 (.string a.bytes)
            rw [ent_set43] at q2
            exact q2
          · exact ((HR1.out.later _).other (p := ⟨w.heap.size + 1 + 1 + 1, 42, none⟩) (by show w.heap.size + 1 ≠ w.heap.size + 1 + 1 + 1; omega) _).other (p := ⟨w.heap.size + 1 + 1 + 1, 43, none⟩) (by show w.heap.size + 1 ≠ w.heap.size + 1 + 1 + 1; omega) _
          · exact ((HR2.out.later _).other (p := ⟨w.heap.size + 1 + 1 + 1, 42, none⟩) (by show w.heap.size + 1 + 1 ≠ w.heap.size + 1 + 1 + 1; omega) _).other (p := ⟨w.heap.size + 1 + 1 + 1, 43, none⟩) (by show w.heap.size + 1 + 1 ≠ w.heap.size + 1 + 1 + 1; omega) _
        case round =>
          obtain ⟨k, A', c', out, hk', rfl, HO, HKp, HX, HRx, HRb, HRg⟩ := hrel
          have hsz := HX.out.size
          clear hl0 hl1 hl2 hl3 rowX room2 wh0 wh1 ha42 ha43 hb42 hb43 rowa rowb hx42 hx43 hx44 fx42 fx43 fx44
          have hl1 := HRb.out.lt
          have hl2 := HRg.out.lt
          have hl3 := HRx.out.lt
          have z42 : wr.cell? ⟨w.heap.size + 1, 42, none⟩ = some (.slice B lb.length cb) := by rw [← HB.out.hv]; exact (HRb.out.cell 42).trans (ent_g42 b)
          have z43 : wr.cell? ⟨w.heap.size + 1, 43, none⟩ = some (.string b.bytes) := (HRb.out.cell 43).trans (ent_g43 b)
          have x42 : wr.cell? ⟨w.heap.size + 1 + 1 + 1, 42, none⟩ = some (.slice A' out.length c') := (HRx.out.cell 42).trans (ent_g42 _)
          have x43 : wr.cell? ⟨w.heap.size + 1 + 1 + 1, 43, none⟩ = some (.string (mrgB b.bytes (lb.take k) a.bytes)) := (HRx.out.cell 43).trans (ent_g43 _)
          have f42 : wr.frozen? ⟨w.heap.size + 1 + 1 + 1, 42, none⟩ = false := HRx.out.free 42
          have f43 : wr.frozen? ⟨w.heap.size + 1 + 1 + 1, 43, none⟩ = false := HRx.out.free 43
          by_cases hlt : k < lb.length
          · obtain ⟨bb, off, rfl, hb, y1, y2⟩ := ReadsSp.cell (HB.out.hr.ext HX.out (Nat.le_refl _)) k hlt
            have hin := List.getElem_mem hlt
            have i1 := HB.out.val.si.1.2 _ hin
            have i2 := HB.out.val.si.2 _ hin
            have i3 := HB.out.val.bs
            have HJ := Lib.hid (addAll_snoc la lb k hlt)
            have HJB := Lib.hid (mrgB_snoc b.bytes lb a.bytes k hlt)
            generalize lb[k] = s at *
            obtain ⟨s1, s2⟩ := s
            simp only [] at y1 y2 i1 i2
            obtain ⟨f, rfl⟩ : ∃ f : Nat, s1 = f := ⟨s1.toNat, by omega⟩
            obtain ⟨t, rfl⟩ : ∃ t : Nat, s2 = t := ⟨s2.toNat, by omega⟩
            have hxf : (b.bytes.extract f t).size = t - f := extract_sz (by omega)
            have hbd : ∀ s ∈ lb, 0 ≤ s.1 ∧ s.1 < s.2 ∧ s.2 ≤ b.bytes.size := fun s hs => by
              have h1 := HB.out.val.si.1.2 s hs
              have h2 := HB.out.val.si.2 s hs
              omega
            have hD : (mrgB b.bytes (lb.take k) a.bytes).size = b.bytes.size := (mrg_get b.bytes (lb.take k) a.bytes (fun s hs => hbd s (List.mem_of_mem_take hs)) (by have h1 := HA.out.val.bs; have h2 := HSz.out; omega)).1
            have hlen := SetIn.len (addAll_in (lb.take k) HA.out.val.si (fun s hs => by have h1 := hbd s (List.mem_of_mem_take hs); have h2 := HSz.out; omega)).1 HA.out.val.z0
            rw [← HO.out] at hlen
            have hsz2 := HA.out.val.sz
            generalize mrgB b.bytes (lb.take k) a.bytes = D at *
            have hcat := cat_over (b := D) (x := b.bytes.extract f t) (p := f) (by omega)
            rw [hxf, show f + (t - f) = t by omega] at hcat
            have HC := Lib.hid hcat
            have hDb : D.size ≤ 1000000 := by have h2 := HSz.out; omega
            have hlb : lb.length ≤ 1000000 := by have h1 := HB.out.val.len; have h2 := HB.out.val.sz; omega
            clear hin hbd hcat
            go_wp2_with (first
              | (go_at_call 16; refine (show Hid _ from ?_).out)
              | (go_at_call 54; refine (show Hid _ from ?_).out)
              | (go_at_call 21; refine (show Hid _ from ?_).out)
              | (go_at_call 55; refine (show Hid _ from ?_).out))
            refine Lib.hid ?_
            refine (radd_any A' c' out ((f : Int), (t : Int)) _ (by omega) (HKp.out.ext ((Ext.refl _).alloc _)).reads HKp.out.none0).mono ?_
            rintro e' w' ⟨A2, c2, out2, rfl, HO2, ho, hx⟩
            have HO3 := Lib.hid ho
            obtain ⟨x2, rfl⟩ := hx.asLater
            clear ho hx hlen hsz2
            have hDs : t ≤ D.size := by omega
            go_wp2
            have hcl : (D.extract 0 f ++ b.bytes.extract f t).size = t := by rw [cat_len (by omega), hxf]; omega
            have hxl : (D.extract 0 f).size = f := by rw [extract_sz (by omega)]; omega
            have hxr : (D.extract t D.size).size = D.size - t := extract_sz (Nat.le_refl _)
            have hcat2 := HC.out
            refine wp_region_later_tail 20 (by kernel_rfl) (by kernel_rfl) ?_
            simp only [List.take_succ_cons, List.take_zero, List.drop_succ_cons, List.drop_zero]
            repeat (first | go_big_quiet_step (fail) | quiet_step (fail))
            refine wpQuiet_nil ?_
            rintro _ ⟨xq, rfl⟩
            go_wp2
            go_roundw
            case rel =>
              have ht3 : w.heap.size ≤ w.heap.size + 1 + 1 + 1 := by omega
              have ht4 : w.heap.size + 1 + 1 + 1 < w.heap.size + 1 + 1 + 1 + 1 := by omega
              refine ⟨k + 1, A2, c2, out2, by omega, by go_num, Lib.hid (by rw [HO2.out, HO.out]; exact HJ.out.symm), Lib.hid (.inr ?_), Lib.hid ?_, Lib.hid ?_, Lib.hid ?_, Lib.hid ?_⟩
              · have hO4 : OwnsSp (w.heap.size + 1 + 1 + 1 + 1) _ A2 c2 out2 := HO3.out.lower (by first | omega | (simp; omega) | (simp [World.alloc]; omega))
                exact (((hO4.other (p := ⟨w.heap.size + 1 + 1 + 1, 42, none⟩) ht4 _).later xq).other (p := ⟨w.heap.size + 1 + 1 + 1, 43, none⟩) ht4 _)
              · exact ((((HX.out.alloc _).onto x2).setCell (p := ⟨w.heap.size + 1 + 1 + 1, 42, none⟩) ht3 _).onto xq).setCell (p := ⟨w.heap.size + 1 + 1 + 1, 43, none⟩) ht3 _
              · have q := ((HRx.out.alloc (.cells #[.int .i64 (f : Int), .int .i64 (t : Int)] 52)).later x2).set 42 (.slice A2 out2.length c2)
                rw [ent_set42] at q
                have q2 := (q.later xq).set 43 (.string (D.extract 0 f ++ b.bytes.extract f t ++ D.extract t b.bytes.size))
                have hov : D.extract 0 f ++ b.bytes.extract f t ++ D.extract t b.bytes.size = overB D f (b.bytes.extract f t) := by rw [← hD]; exact HC.out
                rw [ent_set43] at q2
                have hj := HJB.out
                simp only [Int.toNat_natCast] at hj
                rw [hj, ← hov]
                exact q2
              · exact ((((HRb.out.alloc _).later _).other (p := ⟨w.heap.size + 1 + 1 + 1, 42, none⟩) (by show w.heap.size + 1 ≠ w.heap.size + 1 + 1 + 1; omega) _).later _).other (p := ⟨w.heap.size + 1 + 1 + 1, 43, none⟩) (by show w.heap.size + 1 ≠ w.heap.size + 1 + 1 + 1; omega) _
              · exact ((((HRg.out.alloc _).later _).other (p := ⟨w.heap.size + 1 + 1 + 1, 42, none⟩) (by show w.heap.size + 1 + 1 ≠ w.heap.size + 1 + 1 + 1; omega) _).later _).other (p := ⟨w.heap.size + 1 + 1 + 1, 43, none⟩) (by show w.heap.size + 1 + 1 ≠ w.heap.size + 1 + 1 + 1; omega) _
            case measure =>
              simp [intOf]
              omega
          · have e : k = lb.length := by omega
            subst e
            rw [List.take_length] at HO HRx x43
            clear x42 x43 z43
            have i3 := HB.out.val.bs
            have hbd : ∀ s ∈ lb, 0 ≤ s.1 ∧ s.1 < s.2 ∧ s.2 ≤ b.bytes.size := fun s hs => by
              have h1 := HB.out.val.si.1.2 s hs
              have h2 := HB.out.val.si.2 s hs
              omega
            have hD : (mrgB b.bytes lb a.bytes).size = b.bytes.size := (mrg_get b.bytes lb a.bytes hbd (by have h1 := HA.out.val.bs; have h2 := HSz.out; omega)).1
            have hlen := SetIn.len (addAll_in lb HA.out.val.si (fun s hs => by have h1 := hbd s hs; have h2 := HSz.out; omega)).1 HA.out.val.z0
            rw [← HO.out] at hlen
            have hsz2 := HA.out.val.sz
            have hszb := HB.out.val.sz
            generalize mrgB b.bytes lb a.bytes = D at *
            have rowX := HRx.out.all (ent_size _).symm (by omega)
            clear hbd
            go_wp2_with (first
              | (go_at_call 16; refine (show Hid _ from ?_).out)
              | (go_at_call 54; refine (show Hid _ from ?_).out)
              | (go_at_call 21; refine (show Hid _ from ?_).out)
              | (go_at_call 55; refine (show Hid _ from ?_).out))
            refine Lib.hid ?_
            refine (rsettled_any ⟨(a).st, (a).soft, .slice A' out.length c', D, (a).whole⟩ A' c' out D wr rfl HWX.out HA.out.val.z0 HA.out.val.sz (by omega) (by omega) HA.out.hb HA.out.hby (RowAt.ext hk HX.out) HKp.out.reads).mono ?_
            rintro e' w' ⟨A4, c4, rfl, hor, hx4⟩
            obtain ⟨s1, s2, s3⟩ := settle_same a (.slice A' out.length c') D D out
            rw [s1] at hor
            rw [s1, s2, s3]
            have hMr : mergeN a b la lb = { settleN a out D with n := 0 } := by rw [HM.out, HO.out]
            generalize settleN a out D = r at *
            have HMr := Lib.hid hMr
            have HOr := Lib.hid hor
            obtain ⟨x4, rfl⟩ := hx4.asLater
            have hf4 : fitsRow 46 (gotC { r.e with hv := .slice A4 r.l.length c4 } 0) = true := got_fits_of 0 rfl
            have room2 : roomOf wr (w.heap.size + 1 + 1) 0 46 = true := by rw [HRg.out.room, got_size]; rfl
            clear hor hx4 s1 s2 s3 HM hMr rowX hlen hsz2 hszb hD
            go_wp2
            refine post_row got_ty Tryz.results12 rfl rfl (got_stored (HRg.out.later _) (got_size _ _)) ⟨A4, c4, by rw [HMr.out], ?_, ?_, ?_, Ext.setCells (HX.out.onto _) (by omega) _ _⟩
            · rcases HOr.out with ⟨q, _⟩ | ⟨q, _⟩
              · subst q; exact plainA_none
              · subst q; exact HKp.out.plain
            · rcases HOr.out with ⟨_, q, _⟩ | ⟨q, q2, _⟩
              · exact fun _ => q
              · subst q q2; exact HKp.out.none0
            · rw [HMr.out]
              rcases HOr.out with ⟨_, _, q⟩ | ⟨q, q2, q3⟩
              · rw [q]; exact Reads.nil _ _ _ _ _
              · subst q; rw [q3]; exact (Keep.sets (by omega) (by omega) _ 0 (HKp.out.ext (ext_later wr x4))).reads
set_option maxRecDepth 100000 in
set_option maxHeartbeats 400000 in
theorem rmerge_eq (a b : En) (A B : Option Addr) (ca cb : Nat) (la lb : List Sp) (w : World) (ha : VIn a A ca la w) (hb : VIn b B cb lb w) (h : a.st.addr = b.st.addr ∧ a.st.var = b.st.var) (hk : RKonst w) (hc : cmpN a.st b.st = 0) :
    Calls Tryz.prog 12 #[.agg (entC a), .agg (entC b)] w fun e' w' => GotIs (mergeN a b la lb) (mergeN a b la lb).n e' w w' := by
  have e1 : decide (cmpN a.st b.st < 0) = false := by simp; omega
  have e2 : decide (cmpN a.st b.st = 0) = true := by simpa using hc
  obtain ⟨X, hX⟩ : ∃ X : En, X = { a with soft := a.soft || b.soft } := ⟨_, rfl⟩
  have HVX := Lib.hid (show VIn X A ca la w from by rw [hX]; exact ⟨ha.hv, val_of ha.val rfl rfl rfl, ha.hb, ha.hby, ha.hs, ha.hA, ha.z, ha.hr⟩)
  have HEX := Lib.hid hX
  have HBest : Hid (bestN a b la lb = ⟨X, la, 0⟩) := Lib.hid (by unfold bestN; rw [if_pos hc, if_neg (by omega), hX])
  have HXW : Hid (a.whole = X.whole) := Lib.hid (by rw [hX])
  clear hX
  have hfa : fitsRow 45 (entC a) = true := ent_fits_of ha.hv
  have hfb : fitsRow 45 (entC b) = true := ent_fits_of hb.hv
  have HA := Lib.hid ha
  have HB := Lib.hid hb
  have HC := Lib.hid (fun W => rcompare_any a.st b.st W ha.mild hb.mild)
  have HSm := Lib.hid (fun W => rsame_is a.st b.st W ha.hb hb.hb ha.hby hb.hby)
  have n1 : (a.st.addr.toList == b.st.addr.toList) = true := by rw [str_beq]; simpa using h.1
  have n2 : (a.st.var.toList == b.st.var.toList) = true := by rw [str_beq]; simpa using h.2
  have q1 := rcmp_lt a.st b.st
  have q2 := rcmp_eq a.st b.st
  generalize rcmpN a.st b.st = rc at *
  have HN := Lib.hid h
  clear ha hb h
  go_enter Tryz.func12, Tryz.ntmps12
  go_wp2_with (first
    | (go_at_call 16; refine (show Hid _ from ?_).out)
    | (go_at_call 54; refine (show Hid _ from ?_).out)
    | (go_at_call 21; refine (show Hid _ from ?_).out)
    | (go_at_call 55; refine (show Hid _ from ?_).out))
  refine Lib.hid ?_
  refine calls_world (fun W => Ext w W ∧ RowAt W w.heap.size (entC a) ∧ RowAt W (w.heap.size + 1) (entC b) ∧ RowAt W (w.heap.size + 1 + 1) (gotC noEn 0) ∧ RowAt W (w.heap.size + 1 + 1 + 1) (entC a)) ⟨(by (repeat (first | with_reducible exact Ext.refl _ | with_reducible exact Ext.refl _ | with_reducible refine Ext.drew ?_ | with_reducible refine Ext.drewN ?_ _ | with_reducible refine Ext.alloc ?_ _ | with_reducible refine Ext.onto ?_ _ | (with_reducible refine Ext.setCells ?_ ?_ _ _; rotate_left; focus (first | omega | (simp; done) | (simp; omega))) | (with_reducible refine Ext.setCell ?_ ?_ _; rotate_left; focus (first | omega | (simp; done) | (simp; omega)))))), (by (repeat (first | with_reducible exact RowAt.new _ _ _ | with_reducible refine RowAt.drew ?_ | with_reducible refine RowAt.later ?_ _ | with_reducible exact RowAt.newAt (by first | rfl | omega | (simp [later_size, setCells_size]; done) | (simp [later_size, setCells_size]; omega)) | with_reducible refine RowAt.alloc ?_ _ | with_reducible apply RowAt.store | with_reducible refine RowAt.others ?_ ?_ _ _ | with_reducible refine RowAt.other ?_ ?_ _)); all_goals first | omega | (simp; done) | (simp; omega) | (simp [go_sem]; done)), (by (repeat (first | with_reducible exact RowAt.new _ _ _ | with_reducible refine RowAt.drew ?_ | with_reducible refine RowAt.later ?_ _ | with_reducible exact RowAt.newAt (by first | rfl | omega | (simp [later_size, setCells_size]; done) | (simp [later_size, setCells_size]; omega)) | with_reducible refine RowAt.alloc ?_ _ | with_reducible apply RowAt.store | with_reducible refine RowAt.others ?_ ?_ _ _ | with_reducible refine RowAt.other ?_ ?_ _)); all_goals first | omega | (simp; done) | (simp; omega) | (simp [go_sem]; done)), (by (repeat (first | with_reducible exact RowAt.new _ _ _ | with_reducible refine RowAt.drew ?_ | with_reducible refine RowAt.later ?_ _ | with_reducible exact RowAt.newAt (by first | rfl | omega | (simp [later_size, setCells_size]; done) | (simp [later_size, setCells_size]; omega)) | with_reducible refine RowAt.alloc ?_ _ | with_reducible apply RowAt.store | with_reducible refine RowAt.others ?_ ?_ _ _ | with_reducible refine RowAt.other ?_ ?_ _)); all_goals first | omega | (simp; done) | (simp; omega) | (simp [go_sem]; done)), (RowAt.newAt (cs := entC noEn) (t := 31) (by simp)).store (by rw [ent_size, ent_size])⟩ ?_
  rintro W0 ⟨x0, r0, r1, r2, r3⟩
  have HX0 := Lib.hid x0
  have HR0 := Lib.hid r0
  have HR1 := Lib.hid r1
  have HR2 := Lib.hid r2
  have HR3 := Lib.hid r3
  have hl0 := r0.lt
  have hl1 := r1.lt
  have hl2 := r2.lt
  have hl3 := r3.lt
  have row0 : rowOf W0 w.heap.size 0 41 = some (stmC a.st) := by rw [r0.row, if_neg (by omega), ent_stm]
  have row1 : rowOf W0 (w.heap.size + 1) 0 41 = some (stmC b.st) := by rw [r1.row, if_neg (by omega), ent_stm]
  have row1e : rowOf W0 (w.heap.size + 1) 0 45 = some (entC b) := r1.all (ent_size _).symm (by omega)
  have room3 : roomOf W0 (w.heap.size + 1 + 1 + 1) 0 45 = true := by rw [r3.room, ent_size]; rfl
  have s0 : W0.cell? ⟨w.heap.size, 41, none⟩ = some (.bool a.soft) := (r0.cell 41).trans (ent_g41 a)
  have s1 : W0.cell? ⟨w.heap.size + 1, 41, none⟩ = some (.bool b.soft) := (r1.cell 41).trans (ent_g41 b)
  have s3 : W0.cell? ⟨w.heap.size + 1 + 1 + 1, 41, none⟩ = some (.bool a.soft) := (r3.cell 41).trans (ent_g41 a)
  have f3 : W0.frozen? ⟨w.heap.size + 1 + 1 + 1, 41, none⟩ = false := r3.free 41
  clear x0 r0 r1 r2 r3 n1 n2
  refine (HC.out _).mono ?_
  rintro e' w' ⟨rfl, hxl⟩; obtain ⟨xa, rfl⟩ := hxl.asLater; clear hxl
  go_wp2_with (first
    | (go_at_call 16; refine (show Hid _ from ?_).out)
    | (go_at_call 54; refine (show Hid _ from ?_).out)
    | (go_at_call 21; refine (show Hid _ from ?_).out)
    | (go_at_call 55; refine (show Hid _ from ?_).out))
  refine Lib.hid ?_
  all_goals try refine Lib.hid ?_
  all_goals
    refine calls_world (fun W => Ext w W ∧ RowAt W w.heap.size (entC a) ∧ RowAt W (w.heap.size + 1) (entC b) ∧ RowAt W (w.heap.size + 1 + 1) (gotC noEn 0) ∧ RowAt W (w.heap.size + 1 + 1 + 1) (entC X)) ⟨(HX0.out.onto _).setCell (p := ⟨w.heap.size + 1 + 1 + 1, 41, none⟩) (by show w.heap.size ≤ w.heap.size + 1 + 1 + 1; omega) _, (HR0.out.later _).other (p := ⟨w.heap.size + 1 + 1 + 1, 41, none⟩) (by show w.heap.size ≠ w.heap.size + 1 + 1 + 1; omega) _, (HR1.out.later _).other (p := ⟨w.heap.size + 1 + 1 + 1, 41, none⟩) (by show w.heap.size + 1 ≠ w.heap.size + 1 + 1 + 1; omega) _, (HR2.out.later _).other (p := ⟨w.heap.size + 1 + 1 + 1, 41, none⟩) (by show w.heap.size + 1 + 1 ≠ w.heap.size + 1 + 1 + 1; omega) _, by rw [HEX.out, ← ent_set41]; simp_all; exact (HR3.out.later _).set 41 _⟩ ?_
    clear hl0 hl1 hl2 hl3 row0 row1 row1e room3 s0 s1 s3 f3 HX0 HR0 HR1 HR2 HR3
    rintro W1 ⟨x1, r0, r1, r2, r3⟩
    clear hc e1 e2 q1 q2
    have HX1 := Lib.hid x1
    have HR0 := Lib.hid r0
    have HR1 := Lib.hid r1
    have HR2 := Lib.hid r2
    have HR3 := Lib.hid r3
    have hl0 := r0.lt
    have hl1 := r1.lt
    have hl2 := r2.lt
    have hl3 := r3.lt
    have room2 : roomOf W1 (w.heap.size + 1 + 1) 0 46 = true := by rw [r2.room, got_size]; rfl
    have rowX : rowOf W1 (w.heap.size + 1 + 1 + 1) 0 45 = some (entC X) := r3.all (ent_size _).symm (by omega)
    have wh0 : W1.cell? ⟨w.heap.size, 44, none⟩ = some (.bool a.whole) := (r0.cell 44).trans (ent_g44 a)
    have wh1 : W1.cell? ⟨w.heap.size + 1, 44, none⟩ = some (.bool b.whole) := (r1.cell 44).trans (ent_g44 b)
    have ha42 : W1.cell? ⟨w.heap.size, 42, none⟩ = some (.slice A la.length ca) := by rw [← HA.out.hv]; exact (r0.cell 42).trans (ent_g42 a)
    have ha43 : W1.cell? ⟨w.heap.size, 43, none⟩ = some (.string a.bytes) := (r0.cell 43).trans (ent_g43 a)
    have hb42 : W1.cell? ⟨w.heap.size + 1, 42, none⟩ = some (.slice B lb.length cb) := by rw [← HB.out.hv]; exact (r1.cell 42).trans (ent_g42 b)
    have hb43 : W1.cell? ⟨w.heap.size + 1, 43, none⟩ = some (.string b.bytes) := (r1.cell 43).trans (ent_g43 b)
    have rowa : rowOf W1 w.heap.size 0 45 = some (entC a) := r0.all (ent_size _).symm (by omega)
    have rowb : rowOf W1 (w.heap.size + 1) 0 45 = some (entC b) := r1.all (ent_size _).symm (by omega)
    have hx42 : W1.cell? ⟨w.heap.size + 1 + 1 + 1, 42, none⟩ = some (X).hv := (r3.cell 42).trans (ent_g42 X)
    have hx43 : W1.cell? ⟨w.heap.size + 1 + 1 + 1, 43, none⟩ = some (.string (X).bytes) := (r3.cell 43).trans (ent_g43 X)
    have hx44 : W1.cell? ⟨w.heap.size + 1 + 1 + 1, 44, none⟩ = some (.bool (X).whole) := (r3.cell 44).trans (ent_g44 X)
    have fx42 : W1.frozen? ⟨w.heap.size + 1 + 1 + 1, 42, none⟩ = false := r3.free 42
    have fx43 : W1.frozen? ⟨w.heap.size + 1 + 1 + 1, 43, none⟩ = false := r3.free 43
    have fx44 : W1.frozen? ⟨w.heap.size + 1 + 1 + 1, 44, none⟩ = false := r3.free 44
    clear x1 r0 r1 r2 r3
    refine (HSm.out _).mono ?_
    rintro e' w' ⟨rfl, hxl⟩; obtain ⟨xs, rfl⟩ := hxl.asLater; clear hxl
    cases hsm : sameN a.st b.st with
    | false =>
      have hf0 : fitsRow 46 (gotC X 0) = true := got_fits_of (e := X) 0 HVX.out.hv
      have HM : Hid (mergeN a b la lb = ⟨X, la, 0⟩) := Lib.hid (by rw [mergeN, if_neg (fun k => k HN.out), if_pos hsm, HBest.out])
      go_wp2
      have hext : Ext w ((later W1 xs).setCells (w.heap.size + 1 + 1) 0 (gotC X 0).toList) := (HX1.out.onto _).setCells (by omega) _ _
      exact post_row got_ty Tryz.results12 rfl rfl (got_stored (HR2.out.later _) (got_size _ _)) ⟨A, ca, by rw [HM.out, hv_same (e := X) HVX.out.hv], HVX.out.hA, HVX.out.z, by rw [HM.out]; exact HVX.out.hr.on hext, hext⟩
    | true =>
      cases hwa : a.whole with
      | true =>
        rw [hwa] at wh0
        have hva : a.hv = .slice A la.length ca := HA.out.hv
        have HM : Hid (mergeN a b la lb = ⟨{ X with bytes := a.bytes, whole := true }, la, 0⟩) := Lib.hid (by rw [mergeN, if_neg (fun k => k HN.out), if_neg (by rw [hsm]; decide), if_pos hwa, HBest.out])
        clear hwa hsm
        go_wp2
        have ht3 : w.heap.size ≤ w.heap.size + 1 + 1 + 1 := by omega
        have hne : w.heap.size + 1 + 1 ≠ w.heap.size + 1 + 1 + 1 := by omega
        refine post_row got_ty Tryz.results12 rfl rfl (got_stored (((((((HR2.out.later _).alloc _).others (by omega) _ _)).other (p := ⟨w.heap.size + 1 + 1 + 1, 42, none⟩) hne _).other (p := ⟨w.heap.size + 1 + 1 + 1, 43, none⟩) hne _).other (p := ⟨w.heap.size + 1 + 1 + 1, 44, none⟩) hne _) (got_size _ _)) ⟨A, ca, by rw [HM.out], HA.out.hA, HA.out.z, ?_, ?_⟩
        · rw [HM.out]
          exact HA.out.hr.on ((((((((HX1.out.onto _).alloc _).setCells (by omega) _ _).setCell (p := ⟨w.heap.size + 1 + 1 + 1, 42, none⟩) ht3 _).setCell (p := ⟨w.heap.size + 1 + 1 + 1, 43, none⟩) ht3 _).setCell (p := ⟨w.heap.size + 1 + 1 + 1, 44, none⟩) ht3 _)).setCells (by omega) _ _)
        · exact ((((((((HX1.out.onto _).alloc _).setCells (by omega) _ _).setCell (p := ⟨w.heap.size + 1 + 1 + 1, 42, none⟩) ht3 _).setCell (p := ⟨w.heap.size + 1 + 1 + 1, 43, none⟩) ht3 _).setCell (p := ⟨w.heap.size + 1 + 1 + 1, 44, none⟩) ht3 _)).setCells (by omega) _ _)
      | false =>
        rw [hwa] at wh0
        cases hwb : b.whole with
        | true =>
          rw [hwb] at wh1
          have hvb : b.hv = .slice B lb.length cb := HB.out.hv
          have HM : Hid (mergeN a b la lb = ⟨{ X with bytes := b.bytes, whole := true }, lb, 0⟩) := Lib.hid (by rw [mergeN, if_neg (fun k => k HN.out), if_neg (by rw [hsm]; decide), if_neg (by rw [hwa]; decide), if_pos hwb, HBest.out])
          clear hwa hwb hsm
          go_wp2
          have ht3 : w.heap.size ≤ w.heap.size + 1 + 1 + 1 := by omega
          have hne : w.heap.size + 1 + 1 ≠ w.heap.size + 1 + 1 + 1 := by omega
          refine post_row got_ty Tryz.results12 rfl rfl (got_stored ((((((((HR2.out.later _).alloc _).others (by omega) _ _).others (by omega) _ _)).other (p := ⟨w.heap.size + 1 + 1 + 1, 42, none⟩) hne _).other (p := ⟨w.heap.size + 1 + 1 + 1, 43, none⟩) hne _).other (p := ⟨w.heap.size + 1 + 1 + 1, 44, none⟩) hne _) (got_size _ _)) ⟨B, cb, by rw [HM.out], HB.out.hA, HB.out.z, ?_, ?_⟩
          · rw [HM.out]
            exact HB.out.hr.on (((((((((HX1.out.onto _).alloc _).setCells (by omega) _ _).setCells (by omega) _ _).setCell (p := ⟨w.heap.size + 1 + 1 + 1, 42, none⟩) ht3 _).setCell (p := ⟨w.heap.size + 1 + 1 + 1, 43, none⟩) ht3 _).setCell (p := ⟨w.heap.size + 1 + 1 + 1, 44, none⟩) ht3 _)).setCells (by omega) _ _)
          · exact (((((((((HX1.out.onto _).alloc _).setCells (by omega) _ _).setCells (by omega) _ _).setCell (p := ⟨w.heap.size + 1 + 1 + 1, 42, none⟩) ht3 _).setCell (p := ⟨w.heap.size + 1 + 1 + 1, 43, none⟩) ht3 _).setCell (p := ⟨w.heap.size + 1 + 1 + 1, 44, none⟩) ht3 _)).setCells (by omega) _ _)
        | false =>
          rw [hwb] at wh1
          have HM : Hid (mergeN a b la lb = { settleN X (addAll la lb) (mrgB b.bytes lb a.bytes) with n := 0 }) := Lib.hid (by rw [mergeN, if_neg (fun k => k HN.out), if_neg (by rw [hsm]; decide), if_neg (by rw [hwa]; decide), if_neg (by rw [hwb]; decide), HBest.out])
          have HSz := Lib.hid (sameN_iff hsm).1
          have HWX : Hid ((X).whole = false) := Lib.hid (by first | exact hwb | exact hwa | exact HXW.out.symm.trans hwa)
          clear hwa hwb hsm
          go_wp2
          go_loopw [8] (RMrgRel w X a b A B ca la lb) (fun i _ => lb.length - (intOf i).toNat)
          case atStart =>
            have ht3 : w.heap.size ≤ w.heap.size + 1 + 1 + 1 := by omega
            have hx : Ext w (((later W1 xs).setCell ⟨w.heap.size + 1 + 1 + 1, 42, none⟩ (.slice A la.length ca)).setCell ⟨w.heap.size + 1 + 1 + 1, 43, none⟩ (.string a.bytes)) := ((HX1.out.onto _).setCell (p := ⟨w.heap.size + 1 + 1 + 1, 42, none⟩) ht3 _).setCell (p := ⟨w.heap.size + 1 + 1 + 1, 43, none⟩) ht3 _
            refine ⟨0, A, ca, la, Nat.zero_le _, by go_num, Lib.hid rfl, Lib.hid (.inl ⟨HA.out.z, HA.out.hA, HA.out.hr.ext hx (Nat.le_refl _), hx.size⟩), Lib.hid hx, Lib.hid ?_, Lib.hid ?_, Lib.hid ?_⟩
            · have q := (HR3.out.later xs).set 42 (.slice A la.length ca)
              rw [ent_set42] at q
              have q2 := q.set 43 (.string a.bytes)
              rw [ent_set43] at q2
              exact q2
            · exact ((HR1.out.later _).other (p := ⟨w.heap.size + 1 + 1 + 1, 42, none⟩) (by show w.heap.size + 1 ≠ w.heap.size + 1 + 1 + 1; omega) _).other (p := ⟨w.heap.size + 1 + 1 + 1, 43, none⟩) (by show w.heap.size + 1 ≠ w.heap.size + 1 + 1 + 1; omega) _
            · exact ((HR2.out.later _).other (p := ⟨w.heap.size + 1 + 1 + 1, 42, none⟩) (by show w.heap.size + 1 + 1 ≠ w.heap.size + 1 + 1 + 1; omega) _).other (p := ⟨w.heap.size + 1 + 1 + 1, 43, none⟩) (by show w.heap.size + 1 + 1 ≠ w.heap.size + 1 + 1 + 1; omega) _
          case round =>
            obtain ⟨k, A', c', out, hk', rfl, HO, HKp, HX, HRx, HRb, HRg⟩ := hrel
            have hsz := HX.out.size
            clear hl0 hl1 hl2 hl3 rowX room2 wh0 wh1 ha42 ha43 hb42 hb43 rowa rowb hx42 hx43 hx44 fx42 fx43 fx44
            have hl1 := HRb.out.lt
            have hl2 := HRg.out.lt
            have hl3 := HRx.out.lt
            have z42 : wr.cell? ⟨w.heap.size + 1, 42, none⟩ = some (.slice B lb.length cb) := by rw [← HB.out.hv]; exact (HRb.out.cell 42).trans (ent_g42 b)
            have z43 : wr.cell? ⟨w.heap.size + 1, 43, none⟩ = some (.string b.bytes) := (HRb.out.cell 43).trans (ent_g43 b)
            have x42 : wr.cell? ⟨w.heap.size + 1 + 1 + 1, 42, none⟩ = some (.slice A' out.length c') := (HRx.out.cell 42).trans (ent_g42 _)
            have x43 : wr.cell? ⟨w.heap.size + 1 + 1 + 1, 43, none⟩ = some (.string (mrgB b.bytes (lb.take k) a.bytes)) := (HRx.out.cell 43).trans (ent_g43 _)
            have f42 : wr.frozen? ⟨w.heap.size + 1 + 1 + 1, 42, none⟩ = false := HRx.out.free 42
            have f43 : wr.frozen? ⟨w.heap.size + 1 + 1 + 1, 43, none⟩ = false := HRx.out.free 43
            by_cases hlt : k < lb.length
            · obtain ⟨bb, off, rfl, hb, y1, y2⟩ := ReadsSp.cell (HB.out.hr.ext HX.out (Nat.le_refl _)) k hlt
              have hin := List.getElem_mem hlt
              have i1 := HB.out.val.si.1.2 _ hin
              have i2 := HB.out.val.si.2 _ hin
              have i3 := HB.out.val.bs
              have HJ := Lib.hid (addAll_snoc la lb k hlt)
              have HJB := Lib.hid (mrgB_snoc b.bytes lb a.bytes k hlt)
              generalize lb[k] = s at *
              obtain ⟨s1, s2⟩ := s
              simp only [] at y1 y2 i1 i2
              obtain ⟨f, rfl⟩ : ∃ f : Nat, s1 = f := ⟨s1.toNat, by omega⟩
              obtain ⟨t, rfl⟩ : ∃ t : Nat, s2 = t := ⟨s2.toNat, by omega⟩
              have hxf : (b.bytes.extract f t).size = t - f := extract_sz (by omega)
              have hbd : ∀ s ∈ lb, 0 ≤ s.1 ∧ s.1 < s.2 ∧ s.2 ≤ b.bytes.size := fun s hs => by
                have h1 := HB.out.val.si.1.2 s hs
                have h2 := HB.out.val.si.2 s hs
                omega
              have hD : (mrgB b.bytes (lb.take k) a.bytes).size = b.bytes.size := (mrg_get b.bytes (lb.take k) a.bytes (fun s hs => hbd s (List.mem_of_mem_take hs)) (by have h1 := HA.out.val.bs; have h2 := HSz.out; omega)).1
              have hlen := SetIn.len (addAll_in (lb.take k) HA.out.val.si (fun s hs => by have h1 := hbd s (List.mem_of_mem_take hs); have h2 := HSz.out; omega)).1 HA.out.val.z0
              rw [← HO.out] at hlen
              have hsz2 := HA.out.val.sz
              generalize mrgB b.bytes (lb.take k) a.bytes = D at *
              have hcat := cat_over (b := D) (x := b.bytes.extract f t) (p := f) (by omega)
              rw [hxf, show f + (t - f) = t by omega] at hcat
              have HC := Lib.hid hcat
              have hDb : D.size ≤ 1000000 := by have h2 := HSz.out; omega
              have hlb : lb.length ≤ 1000000 := by have h1 := HB.out.val.len; have h2 := HB.out.val.sz; omega
              clear hin hbd hcat
              go_wp2_with (first
                | (go_at_call 16; refine (show Hid _ from ?_).out)
                | (go_at_call 54; refine (show Hid _ from ?_).out)
                | (go_at_call 21; refine (show Hid _ from ?_).out)
                | (go_at_call 55; refine (show Hid _ from ?_).out))
              refine Lib.hid ?_
              refine (radd_any A' c' out ((f : Int), (t : Int)) _ (by omega) (HKp.out.ext ((Ext.refl _).alloc _)).reads HKp.out.none0).mono ?_
              rintro e' w' ⟨A2, c2, out2, rfl, HO2, ho, hx⟩
              have HO3 := Lib.hid ho
              obtain ⟨x2, rfl⟩ := hx.asLater
              clear ho hx hlen hsz2
              have hDs : t ≤ D.size := by omega
              go_wp2
              have hcl : (D.extract 0 f ++ b.bytes.extract f t).size = t := by rw [cat_len (by omega), hxf]; omega
              have hxl : (D.extract 0 f).size = f := by rw [extract_sz (by omega)]; omega
              have hxr : (D.extract t D.size).size = D.size - t := extract_sz (Nat.le_refl _)
              have hcat2 := HC.out
              refine wp_region_later_tail 20 (by kernel_rfl) (by kernel_rfl) ?_
              simp only [List.take_succ_cons, List.take_zero, List.drop_succ_cons, List.drop_zero]
              repeat (first | go_big_quiet_step (fail) | quiet_step (fail))
              refine wpQuiet_nil ?_
              rintro _ ⟨xq, rfl⟩
              go_wp2
              go_roundw
              case rel =>
                have ht3 : w.heap.size ≤ w.heap.size + 1 + 1 + 1 := by omega
                have ht4 : w.heap.size + 1 + 1 + 1 < w.heap.size + 1 + 1 + 1 + 1 := by omega
                refine ⟨k + 1, A2, c2, out2, by omega, by go_num, Lib.hid (by rw [HO2.out, HO.out]; exact HJ.out.symm), Lib.hid (.inr ?_), Lib.hid ?_, Lib.hid ?_, Lib.hid ?_, Lib.hid ?_⟩
                · have hO4 : OwnsSp (w.heap.size + 1 + 1 + 1 + 1) _ A2 c2 out2 := HO3.out.lower (by first | omega | (simp; omega) | (simp [World.alloc]; omega))
                  exact (((hO4.other (p := ⟨w.heap.size + 1 + 1 + 1, 42, none⟩) ht4 _).later xq).other (p := ⟨w.heap.size + 1 + 1 + 1, 43, none⟩) ht4 _)
                · exact ((((HX.out.alloc _).onto x2).setCell (p := ⟨w.heap.size + 1 + 1 + 1, 42, none⟩) ht3 _).onto xq).setCell (p := ⟨w.heap.size + 1 + 1 + 1, 43, none⟩) ht3 _
                · have q := ((HRx.out.alloc (.cells #[.int .i64 (f : Int), .int .i64 (t : Int)] 52)).later x2).set 42 (.slice A2 out2.length c2)
                  rw [ent_set42] at q
                  have q2 := (q.later xq).set 43 (.string (D.extract 0 f ++ b.bytes.extract f t ++ D.extract t b.bytes.size))
                  have hov : D.extract 0 f ++ b.bytes.extract f t ++ D.extract t b.bytes.size = overB D f (b.bytes.extract f t) := by rw [← hD]; exact HC.out
                  rw [ent_set43] at q2
                  have hj := HJB.out
                  simp only [Int.toNat_natCast] at hj
                  rw [hj, ← hov]
                  exact q2
                · exact ((((HRb.out.alloc _).later _).other (p := ⟨w.heap.size + 1 + 1 + 1, 42, none⟩) (by show w.heap.size + 1 ≠ w.heap.size + 1 + 1 + 1; omega) _).later _).other (p := ⟨w.heap.size + 1 + 1 + 1, 43, none⟩) (by show w.heap.size + 1 ≠ w.heap.size + 1 + 1 + 1; omega) _
                · exact ((((HRg.out.alloc _).later _).other (p := ⟨w.heap.size + 1 + 1 + 1, 42, none⟩) (by show w.heap.size + 1 + 1 ≠ w.heap.size + 1 + 1 + 1; omega) _).later _).other (p := ⟨w.heap.size + 1 + 1 + 1, 43, none⟩) (by show w.heap.size + 1 + 1 ≠ w.heap.size + 1 + 1 + 1; omega) _
              case measure =>
                simp [intOf]
                omega
            · have e : k = lb.length := by omega
              subst e
              rw [List.take_length] at HO HRx x43
              clear x42 x43 z43
              have i3 := HB.out.val.bs
              have hbd : ∀ s ∈ lb, 0 ≤ s.1 ∧ s.1 < s.2 ∧ s.2 ≤ b.bytes.size := fun s hs => by
                have h1 := HB.out.val.si.1.2 s hs
                have h2 := HB.out.val.si.2 s hs
                omega
              have hD : (mrgB b.bytes lb a.bytes).size = b.bytes.size := (mrg_get b.bytes lb a.bytes hbd (by have h1 := HA.out.val.bs; have h2 := HSz.out; omega)).1
              have hlen := SetIn.len (addAll_in lb HA.out.val.si (fun s hs => by have h1 := hbd s hs; have h2 := HSz.out; omega)).1 HA.out.val.z0
              rw [← HO.out] at hlen
              have hsz2 := HA.out.val.sz
              have hszb := HB.out.val.sz
              generalize mrgB b.bytes lb a.bytes = D at *
              have rowX := HRx.out.all (ent_size _).symm (by omega)
              clear hbd
              go_wp2_with (first
                | (go_at_call 16; refine (show Hid _ from ?_).out)
                | (go_at_call 54; refine (show Hid _ from ?_).out)
                | (go_at_call 21; refine (show Hid _ from ?_).out)
                | (go_at_call 55; refine (show Hid _ from ?_).out))
              refine Lib.hid ?_
              refine (rsettled_any ⟨(X).st, (X).soft, .slice A' out.length c', D, (X).whole⟩ A' c' out D wr rfl HWX.out HVX.out.val.z0 HVX.out.val.sz (by omega) (by omega) HVX.out.hb HVX.out.hby (RowAt.ext hk HX.out) HKp.out.reads).mono ?_
              rintro e' w' ⟨A4, c4, rfl, hor, hx4⟩
              obtain ⟨s1, s2, s3⟩ := settle_same X (.slice A' out.length c') D D out
              rw [s1] at hor
              rw [s1, s2, s3]
              have hMr : mergeN a b la lb = { settleN X out D with n := 0 } := by rw [HM.out, HO.out]
              generalize settleN X out D = r at *
              have HMr := Lib.hid hMr
              have HOr := Lib.hid hor
              obtain ⟨x4, rfl⟩ := hx4.asLater
              have hf4 : fitsRow 46 (gotC { r.e with hv := .slice A4 r.l.length c4 } 0) = true := got_fits_of 0 rfl
              have room2 : roomOf wr (w.heap.size + 1 + 1) 0 46 = true := by rw [HRg.out.room, got_size]; rfl
              clear hor hx4 s1 s2 s3 HM hMr rowX hlen hsz2 hszb hD
              go_wp2
              refine post_row got_ty Tryz.results12 rfl rfl (got_stored (HRg.out.later _) (got_size _ _)) ⟨A4, c4, by rw [HMr.out], ?_, ?_, ?_, Ext.setCells (HX.out.onto _) (by omega) _ _⟩
              · rcases HOr.out with ⟨q, _⟩ | ⟨q, _⟩
                · subst q; exact plainA_none
                · subst q; exact HKp.out.plain
              · rcases HOr.out with ⟨_, q, _⟩ | ⟨q, q2, _⟩
                · exact fun _ => q
                · subst q q2; exact HKp.out.none0
              · rw [HMr.out]
                rcases HOr.out with ⟨_, _, q⟩ | ⟨q, q2, q3⟩
                · rw [q]; exact Reads.nil _ _ _ _ _
                · subst q; rw [q3]; exact (Keep.sets (by omega) (by omega) _ 0 (HKp.out.ext (ext_later wr x4))).reads
theorem rmerge_any (a b : En) (A B : Option Addr) (ca cb : Nat) (la lb : List Sp) (w : World) (ha : VIn a A ca la w) (hb : VIn b B cb lb w) (hk : RKonst w) :
    Calls Tryz.prog 12 #[.agg (entC a), .agg (entC b)] w fun e' w' => GotIs (mergeN a b la lb) (mergeN a b la lb).n e' w w' := by
  by_cases h : a.st.addr = b.st.addr ∧ a.st.var = b.st.var
  · by_cases h1 : cmpN a.st b.st < 0
    · exact rmerge_lt a b A B ca cb la lb w ha hb h hk h1
    · by_cases h2 : cmpN a.st b.st = 0
      · exact rmerge_eq a b A B ca cb la lb w ha hb h hk h2
      · exact rmerge_gt a b A B ca cb la lb w ha hb h hk (by omega)
  · refine (rmerge_name a b A B ca cb la lb w ha hb h).mono ?_
    rintro e' w' ⟨rfl, hx⟩
    have hm : mergeN a b la lb = ⟨noEn, [], 5⟩ := by rw [mergeN, if_pos h]
    rw [hm]
    exact ⟨none, 0, rfl, plainA_none, fun _ => rfl, Reads.nil _ _ _ _ _, hx⟩
end Go.Proofs.YthhblgjbgjceiaaGreatDoor
