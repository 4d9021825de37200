/- Walks of the specification's entries: Merge. -/
import Derived.Test.YtpjacgcaibaggaaGreatDoorProg
import Derived.Test.YtpjacgcaibaggaaGreatDoorExt
import Derived.WalkKit
import Derived.WalkSpells
import Derived.WalkLawsBesides
import Derived.Deep.QuietTactic
import Derived.BigQuiet
import Derived.Test.YtpjacgcaibaggaaGreatDoorMc
import Derived.Test.YtpjacgcaibaggaaGreatDoorCw
import Derived.Lib.Bytealg
import Derived.Lib.BytesEntry
import Derived.Lib.Small
import Derived.Test.YtpjacgcaibaggaaGreatDoorMi
set_option linter.unusedVariables false
set_option linter.unusedSimpArgs false
namespace Go.Proofs.YtpjacgcaibaggaaGreatDoor
open Go.RowKit Go.Shelf
open Go.Proofs
open Go.Proofs.Sp (Sp)

theorem cmp_any (a b : Int) (w : World) : Calls Tryz.prog 108 #[.int .i64 a, .int .i64 b] w fun e w' => e = .returned (.int .i64 (Lib.compareInt a b)) ∧ Ext w w' := by
  go_enter Tryz.func108, Tryz.ntmps108
  go_wp2
  all_goals
    go_ret
    refine ⟨ret_int ?_, (by (repeat (first | with_reducible exact Ext.refl _ | with_reducible exact Ext.refl _ | with_reducible refine Ext.drew ?_ | with_reducible refine Ext.drewN ?_ _ | with_reducible refine Ext.alloc ?_ _ | with_reducible refine Ext.onto ?_ _ | (with_reducible refine Ext.setCells ?_ ?_ _ _; rotate_left; focus (first | omega | (simp; done) | (simp; omega))) | (with_reducible refine Ext.setCell ?_ ?_ _; rotate_left; focus (first | omega | (simp; done) | (simp; omega))))))⟩
    unfold Lib.compareInt
    first
      | (rw [if_pos (by omega)]; done)
      | (rw [if_neg (by omega), if_pos (by omega)]; done)
      | (rw [if_neg (by omega), if_neg (by omega)]; done)
theorem bytesOf_u8s (x : List Int) : Lib.bytesOf x = u8s x := rfl
theorem run_load_row {P : Program} (x : List Int) (b o : Nat) (w : World) (h : ∀ i, i < x.length → w.cell? ⟨b, o + i, none⟩ = some (.int .u8 (x.getD i 0))) :
    (Extern.Bytes.loadBytes ⟨b, o, none⟩ x.length .empty).run P w = .ok ⟨(u8s x).toArray⟩ w := by
  have hl := Lib.run_loadBytesX (P := P) w x ⟨b, o, none⟩ .empty (fun j y hj => by
    have hjl : j < x.length := (List.getElem?_eq_some_iff.1 hj).1
    have e : (⟨b, o, none⟩ : Addr).add j = ⟨b, o + j, none⟩ := by unfold Addr.add; split <;> simp_all
    rw [e, h j hjl, List.getD_eq_getElem?_getD, hj]
    rfl)
  rw [hl]
  congr 1
  apply ByteArray.ext
  show (#[] : Array UInt8) ++ (Lib.bytesOf x).toArray = _
  simp [bytesOf_u8s]
theorem run_cmp_rows {P : Program} (x y : List Int) (bx ox by_ oy c d : Nat) (w : World) (hx : ∀ i, i < x.length → w.cell? ⟨bx, ox + i, none⟩ = some (.int .u8 (x.getD i 0))) (hy : ∀ i, i < y.length → w.cell? ⟨by_, oy + i, none⟩ = some (.int .u8 (y.getD i 0))) :
    (Extern.BytealgCompare.compare #[.slice (some ⟨bx, ox, none⟩) x.length c, .slice (some ⟨by_, oy, none⟩) y.length d]).run P w = .ok (.int .i64 (ordL x y)) w := by
  change Sem.run P (do pure (goInt (Extern.BytealgCompare.cmp (← Extern.Bytes.loadBytes ⟨bx, ox, none⟩ x.length .empty) (← Extern.Bytes.loadBytes ⟨by_, oy, none⟩ y.length .empty)))) w = _
  simp only [Sem.run_bind, Sem.run_pure, run_load_row x bx ox w hx, run_load_row y by_ oy w hy, Result.andThen]
  rw [Lib.cmp_eq]
  rfl
set_option maxRecDepth 100000 in
theorem bcmp_any (x y : List Int) (n m : Nat) (hn : x.length = n) (hm : y.length = m) (bx ox by_ oy c d : Nat) (w : World) (hx : ∀ i, i < x.length → w.cell? ⟨bx, ox + i, none⟩ = some (.int .u8 (x.getD i 0))) (hy : ∀ i, i < y.length → w.cell? ⟨by_, oy + i, none⟩ = some (.int .u8 (y.getD i 0))) :
    Calls Tryz.prog 109 #[.slice (some ⟨bx, ox, none⟩) n c, .slice (some ⟨by_, oy, none⟩) m d] w fun e w' => e = .returned (.int .i64 (ordL x y)) ∧ Ext w w' := by
  subst hn hm
  go_enter Tryz.func109, Tryz.ntmps109
  go_wp2
  rw [run_callFunc_extern Tryz.func140 (by kernel_rfl) (by kernel_rfl) (by kernel_rfl) (e := Extern.BytealgCompare.compare) (by kernel_rfl), run_cmp_rows x y bx ox by_ oy c d w hx hy]
  simp only [Result.andThen]
  rw [Oper.upon_value]
  go_wp2
  go_ret
  exact ⟨rfl, Ext.refl _⟩
set_option maxRecDepth 100000 in
theorem scmp_any (a b : ByteArray) (w : World) : Calls Tryz.prog 110 #[.string a, .string b] w fun e w' => e = .returned (.int .i64 (ordB a b)) ∧ Ext w w' := by
  go_enter Tryz.func110, Tryz.ntmps110
  go_wp2
  rw [run_callFunc_extern Tryz.func178 (by kernel_rfl) (by kernel_rfl) (by kernel_rfl) (e := Extern.BytealgCompare.compare) (by kernel_rfl), Lib.run_compareString]
  simp only [Result.andThen]
  rw [Oper.upon_value]
  go_wp2
  go_ret
  exact ⟨rfl, Ext.refl _⟩

theorem first_any (A : Option Addr) (c : Nat) (l : List Int) (w : World) (hl : l.length ≤ 140737488355328) (hr : ReadsI w w.heap.size A l) :
    Calls Tryz.prog 107 #[.slice A l.length c] w fun e w' => e = .returned (.int .i64 (firstN l)) ∧ Ext w w' := by
  have HR := Lib.hid hr
  clear hr
  go_enter Tryz.func107, Tryz.ntmps107
  go_wp2
  go_loopw [7] (fun i wr => ∃ k : Nat, k ≤ l.length ∧ i = .int .i64 k ∧ w = wr ∧ Hid (firstN (l.drop k) = firstN l)) (fun i _ => l.length - (intOf i).toNat)
  case atStart => exact ⟨0, Nat.zero_le _, rfl, rfl, Lib.hid rfl⟩
  case round =>
    obtain ⟨k, hk, rfl, rfl, HN⟩ := hrel
    by_cases hlt : k < l.length
    · obtain ⟨b, off, rfl, hb, c1⟩ := ReadsI.cell HR.out k hlt
      have hd : firstN (l.drop k) = if l[k] = 0 then firstN (l.drop (k + 1)) else l[k] := by
        rw [List.drop_eq_getElem_cons hlt]; rfl
      rw [hd] at HN
      generalize l[k] = n at *
      by_cases h0 : n = 0
      · have HN2 : Hid (firstN (l.drop (k + 1)) = firstN l) := Lib.hid (by have := HN.out; rwa [if_pos h0] at this)
        have hne : (n != 0) = false := by simp [h0]
        clear hd HN
        go_wp2
        go_roundw
        case rel => exact ⟨k + 1, by omega, by go_num, (by first | rfl | trivial), HN2⟩
        case measure => simp [intOf]; omega
      · have HN2 : Hid (n = firstN l) := Lib.hid (by have := HN.out; rwa [if_neg h0] at this)
        have hne : (n != 0) = true := by simp [h0]
        clear hd HN
        go_wp2
        go_ret
        exact ⟨ret_int HN2.out, Ext.refl _⟩
    · have e : k = l.length := by omega
      subst e
      rw [List.drop_length] at HN
      go_wp2
      go_ret
      exact ⟨ret_int HN.out, Ext.refl _⟩
theorem reads_new {w : World} {b : Nat} {cs : Array Value} (t : TypeId) (l : List Int) (hb : b = w.heap.size) (h : cs = (l.map (Value.int .i64)).toArray) : ReadsI (w.alloc (.cells cs t)) (w.alloc (.cells cs t)).heap.size (some ⟨b, 0, none⟩) l := by
  subst hb h
  intro h0
  refine ⟨w.heap.size, 0, rfl, by simp, fun i hi j v hv => ?_⟩
  have hj : j = 0 := by
    have := (List.getElem?_eq_some_iff.1 hv).1
    simp [encI] at this; omega
  subst hj
  simp only [encI, List.getElem?_cons_zero, Option.some.injEq] at hv
  subst hv
  rw [alloc_cell_if, if_pos rfl]
  simp [hi]
def at16 (s : St) (o : Nat) : List Int := if o = 4 then s.body else s.seal_
theorem stm_byte {W : World} {b : Nat} {s : St} (h : RowAt W b (stmC s)) (hb : s.body.length = 16) (hs : s.seal_.length = 16) {o : Nat} (ho : o = 4 ∨ o = 25) : ∀ i, i < (at16 s o).length → W.cell? ⟨b, o + i, none⟩ = some (.int .u8 ((at16 s o).getD i 0)) := by
  intro i hi
  rw [h.cell]
  rcases ho with rfl | rfl
  · have e : at16 s 4 = s.body := rfl
    rw [e] at hi ⊢
    have := rowSub_get (stm_body s) (i := i) (by omega)
    rw [this, dgC_cells hb, cells8_get, if_pos hi]
  · have e : at16 s 25 = s.seal_ := rfl
    rw [e] at hi ⊢
    have := rowSub_get (stm_seal s) (i := i) (by omega)
    rw [this, dgC_cells hs, cells8_get, if_pos hi]
theorem bcmp_stm (a b : St) (p q o : Nat) (ho : o = 4 ∨ o = 25) (W : World) (ha : a.body.length = 16) (ha2 : a.seal_.length = 16) (hb : b.body.length = 16) (hb2 : b.seal_.length = 16) (h1 : RowAt W p (stmC a)) (h2 : RowAt W q (stmC b)) :
    Calls Tryz.prog 109 #[.slice (some ⟨p, o, none⟩) 16 16, .slice (some ⟨q, o, none⟩) 16 16] W fun e w' => e = .returned (.int .i64 (ordL (at16 a o) (at16 b o))) ∧ Ext W w' :=
  bcmp_any (at16 a o) (at16 b o) 16 16 (by unfold at16; split <;> assumption) (by unfold at16; split <;> assumption) p o q o 16 16 W (stm_byte h1 ha ha2 ho) (stm_byte h2 hb hb2 ho)
set_option maxRecDepth 100000 in
set_option maxHeartbeats 2000000 in
theorem compare_any (a b : St) (w : World) (ha : a.body.length = 16) (ha2 : a.seal_.length = 16) (hb : b.body.length = 16) (hb2 : b.seal_.length = 16) :
    Calls Tryz.prog 68 #[.agg (stmC a), .agg (stmC b)] w fun e w' => e = .returned (.int .i64 (cmpN a b)) ∧ Ext w w' := by
  have HA := Lib.hid ha
  have HA2 := Lib.hid ha2
  have HB := Lib.hid hb
  have HB2 := Lib.hid hb2
  clear ha ha2 hb hb2
  go_enter Tryz.func68, Tryz.ntmps68
  go_wp2
  refine wp_world (fun W => Ext w W ∧ RowAt W w.heap.size (stmC a) ∧ RowAt W (w.heap.size + 1) (stmC b)) ⟨(by (repeat (first | with_reducible exact Ext.refl _ | with_reducible exact Ext.refl _ | with_reducible refine Ext.drew ?_ | with_reducible refine Ext.drewN ?_ _ | with_reducible refine Ext.alloc ?_ _ | with_reducible refine Ext.onto ?_ _ | (with_reducible refine Ext.setCells ?_ ?_ _ _; rotate_left; focus (first | omega | (simp; done) | (simp; omega))) | (with_reducible refine Ext.setCell ?_ ?_ _; rotate_left; focus (first | omega | (simp; done) | (simp; omega)))))), (RowAt.new _ _ _).alloc _, RowAt.newAt (by simp)⟩ ?_
  rintro W ⟨hx0, h1, h2⟩
  have HX0 := Lib.hid hx0
  have H1 := Lib.hid h1
  have H2 := Lib.hid h2
  have a0 := fun i => h1.cell i
  have b0 := fun i => h2.cell i
  have hl1 := h1.lt
  have hl2 := h2.lt
  clear hx0 h1 h2
  refine wp_region_later_tail 49 (by kernel_rfl) (by kernel_rfl) ?_
  simp only [List.take_succ_cons, List.take_zero, List.drop_succ_cons, List.drop_zero]
  repeat (first | go_big_quiet_step ((first | (go_at_call 108; exact quietE (cmp_any _ _ _)) | (go_at_call 110; exact quietE (scmp_any _ _ _)) | (go_at_call 109; exact quietE (bcmp_stm a b _ _ _ (by first | exact .inl rfl | exact .inr rfl) _ HA.out HA2.out HB.out HB2.out (H1.out.later _) (H2.out.later _))))) | quiet_step ((first | (go_at_call 108; exact quietE (cmp_any _ _ _)) | (go_at_call 110; exact quietE (scmp_any _ _ _)) | (go_at_call 109; exact quietE (bcmp_stm a b _ _ _ (by first | exact .inl rfl | exact .inr rfl) _ HA.out HA2.out HB.out HB2.out (H1.out.later _) (H2.out.later _))))))
  refine wpQuiet_nil ?_
  rintro _ ⟨xq, rfl⟩
  go_wp2_with (go_at_call 107; refine (first_any _ _ (cmpL a b) _ (of_decide_eq_true rfl) (reads_new _ _ (by simp [later_size]) rfl)).mono ?_; rintro e w' ⟨rfl, hxl⟩; obtain ⟨xl, rfl⟩ := hxl.asLater; clear hxl)
  go_ret
  exact ⟨rfl, (by (repeat (first | with_reducible exact HX0.out | with_reducible exact Ext.refl _ | with_reducible refine Ext.drew ?_ | with_reducible refine Ext.drewN ?_ _ | with_reducible refine Ext.alloc ?_ _ | with_reducible refine Ext.onto ?_ _ | (with_reducible refine Ext.setCells ?_ ?_ _ _; rotate_left; focus (first | omega | (simp; done) | (simp; omega))) | (with_reducible refine Ext.setCell ?_ ?_ _; rotate_left; focus (first | omega | (simp; done) | (simp; omega))))))⟩
set_option maxHeartbeats 1000000 in
theorem better_any (a b : St) (w : World) (ha : a.body.length = 16) (ha2 : a.seal_.length = 16) (hb : b.body.length = 16) (hb2 : b.seal_.length = 16) :
    Calls Tryz.prog 66 #[.agg (stmC a), .agg (stmC b)] w fun e w' => e = .returned (.bool (decide (0 < cmpN a b))) ∧ Ext w w' := by
  have HA := Lib.hid ha
  have HA2 := Lib.hid ha2
  have HB := Lib.hid hb
  have HB2 := Lib.hid hb2
  clear ha ha2 hb hb2
  go_enter Tryz.func66, Tryz.ntmps66
  go_wp2_with (go_at_call 68; refine (compare_any a b _ HA.out HA2.out HB.out HB2.out).mono ?_; rintro e w' ⟨rfl, hxl⟩; obtain ⟨xl, rfl⟩ := hxl.asLater; clear hxl)
  go_ret
  exact ⟨rfl, (by (repeat (first | with_reducible exact Ext.refl _ | with_reducible exact Ext.refl _ | with_reducible refine Ext.drew ?_ | with_reducible refine Ext.drewN ?_ _ | with_reducible refine Ext.alloc ?_ _ | with_reducible refine Ext.onto ?_ _ | (with_reducible refine Ext.setCells ?_ ?_ _ _; rotate_left; focus (first | omega | (simp; done) | (simp; omega))) | (with_reducible refine Ext.setCell ?_ ?_ _; rotate_left; focus (first | omega | (simp; done) | (simp; omega))))))⟩
theorem str_beq (a b : ByteArray) : (a.toList == b.toList) = decide (a = b) := by
  rw [Lib.toList_data, Lib.toList_data, Bool.eq_iff_iff, beq_iff_eq, decide_eq_true_eq]
  constructor
  · intro h
    apply ByteArray.ext
    exact Array.toList_inj.1 h
  · intro h; rw [h]
theorem sameN_lists (a b : St) : sameN a b = ((a.addr.toList == b.addr.toList) && (a.var.toList == b.var.toList) && (a.status == b.status) && (a.size == b.size) && decide (a.body = b.body) && (a.tags.toList == b.tags.toList)) := by
  rw [str_beq, str_beq, str_beq]; rfl
theorem eq_dgc {a b : List Int} (ha : a.length = 16) (hb : b.length = 16) (ba : Byt a) (bb : Byt b) (W : World) : (binOp .eql 24 (.agg (dgC a)) (.agg (dgC b))).run Tryz.prog W = .ok (.bool (decide (a = b))) W := by
  rw [dgC_cells ha]; exact eq_dig ha hb ba bb W
set_option maxRecDepth 100000 in
set_option maxHeartbeats 2000000 in
theorem same_is (a b : St) (w : World) (ha : a.body.length = 16) (hb : b.body.length = 16) (ba : Byt a.body) (bb : Byt b.body) :
    Calls Tryz.prog 69 #[.agg (stmC a), .agg (stmC b)] w fun e w' => e = .returned (.bool (sameN a b)) ∧ Ext w w' := by
  have hq := eq_dgc ha hb ba bb
  clear ha hb ba bb
  go_enter Tryz.func69, Tryz.ntmps69
  go_wp2
  all_goals
    go_ret
    refine ⟨ret_bool ?_, (by (repeat (first | with_reducible exact Ext.refl _ | with_reducible exact Ext.refl _ | with_reducible refine Ext.drew ?_ | with_reducible refine Ext.drewN ?_ _ | with_reducible refine Ext.alloc ?_ _ | with_reducible refine Ext.onto ?_ _ | (with_reducible refine Ext.setCells ?_ ?_ _ _; rotate_left; focus (first | omega | (simp; done) | (simp; omega))) | (with_reducible refine Ext.setCell ?_ ?_ _; rotate_left; focus (first | omega | (simp; done) | (simp; omega))))))⟩
    rw [sameN_lists]
    simp_all
structure Mild (s : St) : Prop where
  b1 : 0 ≤ s.lo ∧ s.lo ≤ 1099511627776
  b2 : 0 ≤ s.hi ∧ s.hi ≤ 1099511627776
  b3 : 0 ≤ s.size ∧ s.size ≤ 1099511627776
  b4 : 0 ≤ s.status ∧ s.status ≤ 1099511627776
  b5 : 0 ≤ s.gate ∧ s.gate ≤ 1099511627776
  b6 : 0 ≤ s.serial ∧ s.serial ≤ 1099511627776
  l1 : s.body.length = 16
  l2 : s.seal_.length = 16
theorem ordL_str {a b : List Int} : ordB (strOfNums a) (strOfNums b) = ordL a b := by
  unfold ordB ordL
  rw [strOfNums_data, strOfNums_data]
  rfl
theorem conv_stm {W : World} {b : Nat} {s : St} (h : RowAt W b (stmC s)) (hb : s.body.length = 16) (hs : s.seal_.length = 16) {o : Nat} (ho : o = 4 ∨ o = 25) (x : Later) :
    (convert 118 9 (.slice (some ⟨b, o, none⟩) 16 16)).run Tryz.prog (later W x) = .ok (.string (strOfNums (at16 s o))) (later W x) := by
  have hl : (at16 s o).length = 16 := by unfold at16; split <;> assumption
  have hr : ReadsB (later W x) (later W x).heap.size (some ⟨b, o, none⟩) (at16 s o) := by
    intro h0
    have hx := h.later x
    refine ⟨b, o, rfl, hx.lt, fun i hi j v hv => ?_⟩
    have hj : j = 0 := by
      have := (List.getElem?_eq_some_iff.1 hv).1
      simp [encB] at this; omega
    subst hj
    simp only [encB, List.getElem?_cons_zero, Option.some.injEq] at hv
    subst hv
    rw [Nat.mul_one, Nat.add_zero, stm_byte hx hb hs ho i hi]
    simp [hi]
  have := conv_bytes 16 hr (by omega)
  rwa [hl] at this
theorem firstN_0 {x : Int} {l : List Int} (h : x = 0) : firstN (x :: l) = firstN l := by rw [firstN, if_pos h]
theorem firstN_1 {x : Int} {l : List Int} (h : x ≠ 0) : firstN (x :: l) = x := by rw [firstN, if_neg h]
end Go.Proofs.YtpjacgcaibaggaaGreatDoor

namespace Go.Proofs.YtpjacgcaibaggaaGreatDoor
open Go.RowKit Go.Shelf
open Go.Proofs
open Go.Proofs.Sp (Sp)

/-- What comes in with an entry that is valid. -/
structure VIn (e : En) (A : Option Addr) (c : Nat) (l : List Sp) (w : World) : Prop where
  hv : e.hv = .slice A l.length c
  val : Val e l
  hb : e.st.body.length = 16
  hby : Byt e.st.body
  hs : e.st.seal_.length = 16
  hA : plainA A
  z : A = none → c = 0
  hr : ReadsSp w w.heap.size A l
theorem VIn.on {e : En} {A : Option Addr} {c : Nat} {l : List Sp} {w w' : World} (h : VIn e A c l w) (hx : Ext w w') : VIn e A c l w' := ⟨h.hv, h.val, h.hb, h.hby, h.hs, h.hA, h.z, h.hr.on hx⟩
theorem VIn.mild {e : En} {A : Option Addr} {c : Nat} {l : List Sp} {w : World} (h : VIn e A c l w) : Mild e.st := by
  have hr := h.val.rt
  simp only [rightB, Bool.and_eq_true, decide_eq_true_eq] at hr
  exact ⟨by omega, by omega, by omega, by omega, by omega, by omega, h.hb, h.hs⟩
theorem rcmp_lt (a b : St) : decide (rcmpN a b < 0) = decide (cmpN a b < 0) := by
  have := (cmp_alike a b).1
  simp [this]
theorem rcmp_eq (a b : St) : (rcmpN a b == 0) = decide (cmpN a b = 0) := by
  have h := cmp_alike a b
  unfold alike at h
  rw [Bool.eq_iff_iff, beq_iff_eq, decide_eq_true_eq]
  omega
/-- A slice that came in, or one of the call's own: the blocks between are the call's. -/
def Keep (n0 base : Nat) (w : World) (A : Option Addr) (c : Nat) (l : List Sp) : Prop := ((A = none → c = 0) ∧ plainA A ∧ ReadsSp w n0 A l ∧ n0 ≤ w.heap.size) ∨ OwnsSp base w A c l
theorem Keep.none0 {n0 base : Nat} {w : World} {A : Option Addr} {c : Nat} {l : List Sp} (h : Keep n0 base w A c l) : A = none → c = 0 := h.elim (fun k => k.1) (fun k => Owns.none0 k)
theorem Keep.plain {n0 base : Nat} {w : World} {A : Option Addr} {c : Nat} {l : List Sp} (h : Keep n0 base w A c l) : plainA A := h.elim (fun k => k.2.1) (fun k => OwnsSp.plain k)
theorem Keep.reads {n0 base : Nat} {w : World} {A : Option Addr} {c : Nat} {l : List Sp} (h : Keep n0 base w A c l) : ReadsSp w w.heap.size A l := h.elim (fun k => k.2.2.1.up k.2.2.2) (fun k => Owns.reads spE k)
theorem Keep.ext {n0 base : Nat} {w w' : World} {A : Option Addr} {c : Nat} {l : List Sp} (h : Keep n0 base w A c l) (hx : Ext w w') : Keep n0 base w' A c l :=
  h.imp (fun k => ⟨k.1, k.2.1, k.2.2.1.ext hx k.2.2.2, Nat.le_trans k.2.2.2 hx.size⟩) (fun k => Owns.ext k hx)
theorem Keep.set {n0 base : Nat} {w : World} {A : Option Addr} {c : Nat} {l : List Sp} (h : Keep n0 base w A c l) {p : Addr} (h1 : n0 ≤ p.block) (h2 : p.block < base) (v : Value) : Keep n0 base (w.setCell p v) A c l := by
  refine h.imp (fun k => ⟨k.1, k.2.1, ?_, by simpa [World.setCell] using k.2.2.2⟩) (fun k => Owns.other k h2 v)
  exact k.2.2.1.below (Below.setCell (Below.refl n0 w) h1 v)
theorem Keep.sets {n0 base : Nat} {A : Option Addr} {c : Nat} {l : List Sp} {m : Nat} (h1 : n0 ≤ m) (h2 : m < base) (vs : List Value) : ∀ {w : World} (o : Nat), Keep n0 base w A c l → Keep n0 base (w.setCells m o vs) A c l := by
  induction vs with
  | nil => intro w o h; exact h
  | cons v r ih => intro w o h; exact ih (o + 1) (h.set (p := ⟨m, o, none⟩) h1 h2 v)
theorem VIn.keep {e : En} {A : Option Addr} {c : Nat} {l : List Sp} {w : World} (h : VIn e A c l w) (base : Nat) : Keep w.heap.size base w A c l := .inl ⟨h.z, h.hA, h.hr, Nat.le_refl _⟩
def RMrgRel (w : World) (X a b : En) (A B : Option Addr) (ca : Nat) (la lb : List Sp) (i : Value) (wr : World) : Prop := ∃ (k : Nat) (A' : Option Addr) (c' : Nat) (out : List Sp), k ≤ lb.length ∧ i = .int .i64 k ∧ Hid (out = addAll la (lb.take k)) ∧ Hid (Keep w.heap.size (w.heap.size + 1 + 1 + 1 + 1) wr A' c' out) ∧ Hid (Ext w wr) ∧
  Hid (RowAt wr (w.heap.size + 1 + 1 + 1) (entC { X with hv := .slice A' out.length c', bytes := mrgB b.bytes (lb.take k) a.bytes })) ∧ Hid (RowAt wr (w.heap.size + 1) (entC b)) ∧ Hid (RowAt wr (w.heap.size + 1 + 1) (gotC noEn 0))
end Go.Proofs.YtpjacgcaibaggaaGreatDoor
