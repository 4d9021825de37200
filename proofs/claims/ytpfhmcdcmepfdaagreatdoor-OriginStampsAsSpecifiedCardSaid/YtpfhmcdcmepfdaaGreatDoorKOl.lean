/- What an argument of type api.Answer reads. -/
import Derived.Test.YtpfhmcdcmepfdaaGreatDoorProg
import Derived.Shelf.Spec.SlicesGrow
import Derived.Shelf.SlGeneric
import Derived.Ground.NamesProg
import Derived.Test.YtpfhmcdcmepfdaaGreatDoorKSpv
import Derived.WalkKit
import Derived.WalkSpells
import Derived.WalkLawsBesides
import Derived.Deep.QuietTactic
import Derived.BigQuiet
import Derived.Test.YtpfhmcdcmepfdaaGreatDoorKWa
import Derived.Lib.RowBridge
import Derived.Test.YtpfhmcdcmepfdaaGreatDoorKSla
import Derived.Test.YtpfhmcdcmepfdaaGreatDoorKBa
import Derived.Test.YtpfhmcdcmepfdaaGreatDoorKOs
namespace Go.Proofs
open Go.Shelf
def Tryz.growStr_ren : Go.Shelf.Ren := ⟨fun | 4 => 157 | n => n, fun | 22 => 34 | 25 => 9 | 3 => 3 | 4 => 4 | 9 => 9 | 20 => 20 | 0 => 0 | n => n, fun | n => n⟩
theorem Tryz.growStr : Go.Proofs.Lays8.n4 Tryz.prog Tryz.growStr_ren := {
  mixed := by kernel_rfl
  f4 := ⟨Tryz.f157.name, by decide, Tryz.func157.trans (congrArg some (by kernel_rfl))⟩
  t0 := Tryz.underlying0
  a0 := Tryz.isAgg0
  z0 := Tryz.sizeOf0
  v0 := Tryz.zeroValue0
  t3 := Tryz.underlying3
  a3 := Tryz.isAgg3
  z3 := Tryz.sizeOf3
  v3 := Tryz.zeroValue3
  t4 := Tryz.underlying4
  a4 := Tryz.isAgg4
  z4 := Tryz.sizeOf4
  v4 := Tryz.zeroValue4
  t9 := Tryz.underlying9
  a9 := Tryz.isAgg9
  z9 := Tryz.sizeOf9
  v9 := Tryz.zeroValue9
  t20 := Tryz.underlying20
  a20 := Tryz.isAgg20
  z20 := Tryz.sizeOf20
  v20 := Tryz.zeroValue20
  t22 := Tryz.underlying34
  a22 := Tryz.isAgg34
  z22 := Tryz.sizeOf34
  v22 := Tryz.zeroValue34 }
end Go.Proofs


set_option linter.unusedVariables false
set_option linter.unusedSimpArgs false
namespace Go.Proofs.YtpfhmcdcmepfdaaGreatDoor
open Go.RowKit Go.Shelf Go.Sort
open Go.Proofs

theorem strInfo : (Tryz.prog.info? 9).map (fun i => (i.zero, i.size, i.bytes)) = some (some (.string ByteArray.empty), 1, 16) := by kernel_rfl
set_option maxRecDepth 100000 in
theorem growS_any (n : Nat) (m : Int) (hm : m = n) (w : World) (hn : n * 16 ≤ 140737488355328) :
    Calls Tryz.prog 157 #[.slice none 0 0, .int .i64 m] w fun e w' => ∃ A' c', e = .returned (.slice A' 0 c') ∧ OwnsStr w.heap.size w' A' c' [] ∧ Ext w w' := by
  subst hm
  obtain ⟨i, hi, hz, h1, h2⟩ := info_parts strInfo
  by_cases h0 : n = 0
  · subst h0
    go_enter Tryz.func157, Tryz.ntmps157
    go_wp2
    go_ret
    exact ⟨none, 0, rfl, Owns.nil _ _ _ _ _, Ext.refl _⟩
  · have hcon := Any8.slices_Grow_grow Tryz.growStr i (.string ByteArray.empty) hi hz (by omega) none 0 0 n [] w (Nat.le_refl _) (by omega) (by rw [h2]; omega) (by omega) (by simp) (fun _ => rfl) (fun a h => by cases h)
    change Calls Tryz.prog 157 _ _ _ at hcon
    refine hcon.mono ?_
    rintro e w' ⟨rfl, rfl⟩
    refine ⟨some ⟨w.heap.size, 0, none⟩, _, rfl, Owns.mk sE (Nat.le_refl _) (heap_alloc_new w.drew _) (Nat.zero_le _) (grownCap_le_maxLen _ _ _ _ (by unfold maxLen; omega)) ?_ (by simp), ((Ext.refl w).drew).alloc _⟩
    have hge := grownCap_ge w (0 + n) 0 (Tryz.growStr_ren.t 25)
    show _ = grownCap w (0 + n) 0 (Tryz.growStr_ren.t 25) * 1
    generalize grownCap w (0 + n) 0 (Tryz.growStr_ren.t 25) = cc at *
    simp [size_zeroCells, Value.cells]
    omega
set_option maxRecDepth 100000 in
set_option maxHeartbeats 2000000 in
theorem concat3_any (b : Nat) (A1 A2 A3 : Option Addr) (c1 c2 c3 : Nat) (l1 l2 l3 : List ByteArray) (w : World) (hb : b < w.heap.size) (k1 : w.cell? ⟨b, 0, none⟩ = some (.slice A1 l1.length c1)) (k2 : w.cell? ⟨b, 1, none⟩ = some (.slice A2 l2.length c2)) (k3 : w.cell? ⟨b, 2, none⟩ = some (.slice A3 l3.length c3))
    (r1 : ReadsStr w w.heap.size A1 l1) (r2 : ReadsStr w w.heap.size A2 l2) (r3 : ReadsStr w w.heap.size A3 l3) (z1 : A1 = none → c1 = 0) (z2 : A2 = none → c2 = 0) (z3 : A3 = none → c3 = 0) (hlen : (l1.length + l2.length + l3.length) * 16 ≤ 140737488355328) :
    Calls Tryz.prog 118 #[.slice (some ⟨b, 0, none⟩) 3 3] w fun e w' => ∃ A' c' l', e = .returned (.slice A' l'.length c') ∧ Hid (l' = l1 ++ l2 ++ l3) ∧ OwnsStr w.heap.size w' A' c' l' ∧ Ext w w' := by
  have HR1 := Lib.hid r1
  have HR2 := Lib.hid r2
  have HR3 := Lib.hid r3
  have HZ1 := Lib.hid z1
  have HZ2 := Lib.hid z2
  have HZ3 := Lib.hid z3
  clear r1 r2 r3 z1 z2 z3
  go_enter Tryz.func118, Tryz.ntmps118
  go_wp2
  refine wp_loop_rounds 4 ?_
  rw [rounds_succ]
  go_wp2
  rw [rounds_succ]
  go_wp2
  rw [rounds_succ]
  go_wp2
  rw [rounds_succ]
  go_wp2_with (go_at_call 157; refine (growS_any (l1.length + l2.length + l3.length) _ (by simp) _ (by omega)).mono ?_; rintro e w1 ⟨A9, c9, rfl, ho, hx⟩; have HO := Lib.hid ho; have HX := Lib.hid hx; have hszx := hx.size; have k1' := (hx.cell (p := ⟨b, 0, none⟩) hb).trans k1; have k2' := (hx.cell (p := ⟨b, 1, none⟩) hb).trans k2; have k3' := (hx.cell (p := ⟨b, 2, none⟩) hb).trans k3; clear ho hx)
  refine wp_loop_rounds 4 ?_
  rw [rounds_succ]
  go_wp2_with (at_builtin; refine app_reads strT sE rfl _ _ rfl w.heap.size A9 c9 [] rfl HO.out w.heap.size A1 c1 l1 rfl (HR1.out.ext HX.out (Nat.le_refl _)) HZ1.out (by simp; omega) (by simp; omega) hszx ?_; intro A4 c4 l4 w4 HL4 HO4 hB4 hl1 hl2 _; have hl1' : l4.length ≤ l1.length := (by simpa using hl1); have HO4' := Lib.hid HO4; have HB4 := Lib.hid hB4; have k2'' := (hB4.cell (p := ⟨b, 1, none⟩) hb).trans k2'; have k3'' := (hB4.cell (p := ⟨b, 2, none⟩) hb).trans k3'; have hsz4 := hB4.size; clear HO4 hB4)
  rw [rounds_succ]
  go_wp2_with (at_builtin; refine app_reads strT sE rfl _ _ rfl w.heap.size A4 c4 l4 rfl HO4'.out w.heap.size A2 c2 l2 rfl ((HR2.out.ext HX.out (Nat.le_refl _)).below HB4.out) HZ2.out (by omega) (by omega) (by omega) ?_; intro A5 c5 l5 w5 HL5 HO5 hB5 hl3 hl4 _; have HO5' := Lib.hid HO5; have HB5 := Lib.hid hB5; have k3x := (hB5.cell (p := ⟨b, 2, none⟩) hb).trans k3''; have hsz5 := hB5.size; clear HO5 hB5)
  rw [rounds_succ]
  go_wp2_with (at_builtin; refine app_reads strT sE rfl _ _ rfl w.heap.size A5 c5 l5 rfl HO5'.out w.heap.size A3 c3 l3 rfl (((HR3.out.ext HX.out (Nat.le_refl _)).below HB4.out).below HB5.out) HZ3.out (by omega) (by omega) (by omega) ?_; intro A6 c6 l6 w6 HL6 HO6 hB6 hl5 hl6 _; have HO6' := Lib.hid HO6; have HB6 := Lib.hid hB6; clear HO6 hB6)
  rw [rounds_succ]
  go_wp2
  go_ret
  exact ⟨A6, c6, l6, rfl, Lib.hid (by rw [HL6.out, HL5.out, HL4.out, List.nil_append]), HO6'.out, ((HX.out.grown HB4.out (Nat.le_refl _)).grown HB5.out (Nat.le_refl _)).grown HB6.out (Nat.le_refl _)⟩
end Go.Proofs.YtpfhmcdcmepfdaaGreatDoor


set_option linter.unusedVariables false
set_option linter.unusedSimpArgs false
namespace Go.Proofs.YtpfhmcdcmepfdaaGreatDoor
open Go.RowKit Go.Shelf
open Go.Proofs

structure Ky where
  (party serial : Int)
  secret : ByteArray
  (fr upto : Int)
def kyC (k : Ky) : Array Value := #[.int .i64 k.party, .int .i64 k.serial, .string k.secret, .int .i64 k.fr, .int .i64 k.upto]
def kyL (k : Ky) : List Value := [.int .i64 k.party, .int .i64 k.serial, .string k.secret, .int .i64 k.fr, .int .i64 k.upto]
def noKy : Ky := ⟨0, 0, ByteArray.empty, 0, 0⟩
theorem ky_size (v : Ky) : (kyC v).size = 5 := rfl
theorem ky_all (v : Ky) : rowSub (kyC v) 0 5 = some (kyC v) := rowSub_all _ _ rfl
theorem ky_g0 (v : Ky) : (kyC v)[0]? = some (.int .i64 v.party) := rfl
theorem ky_g1 (v : Ky) : (kyC v)[1]? = some (.int .i64 v.serial) := rfl
theorem ky_g2 (v : Ky) : (kyC v)[2]? = some (.string v.secret) := rfl
theorem ky_g3 (v : Ky) : (kyC v)[3]? = some (.int .i64 v.fr) := rfl
theorem ky_g4 (v : Ky) : (kyC v)[4]? = some (.int .i64 v.upto) := rfl
theorem ky_fits (v : Ky) : fitsRow 5 (kyC v) = true := by simp [fitsRow, kyC, Value.oneCell']
attribute [go_sem] ky_size ky_all ky_g0 ky_g1 ky_g2 ky_g3 ky_g4 ky_fits
theorem ky_ty : RowTy Tryz.prog 23 5 := ⟨by kernel_rfl, by kernel_rfl⟩
theorem ky_ld (w : World) (b o : Nat) : (rowLoad 23 5 (.pointer (some ⟨b, o, none⟩))).run Tryz.prog w = rowLoadR Tryz.prog w 23 5 b o (rowOf w b o 5) := run_rowLoad ky_ty w b o
theorem ky_st (w : World) (b o : Nat) (cells : Array Value) : (rowStore 23 5 (.pointer (some ⟨b, o, none⟩)) (.agg cells)).run Tryz.prog w = rowStoreR Tryz.prog w 23 5 b o cells (roomOf w b o 5 && fitsRow 5 cells) := run_rowStore ky_ty w b o cells
theorem ky_lv (w : World) (b o : Nat) : (loadVar 23 ⟨b, o, none⟩).run Tryz.prog w = varRes Tryz.prog w 23 b o (rowOf w b o 5) := loadVar_row ky_ty w b o
theorem ky_al (w : World) : (rowAlloc 23).run Tryz.prog w = .ok (.value (.pointer (some ⟨w.heap.size, 0, none⟩))) (w.alloc (.cells (kyC noKy) 23)) := run_rowAlloc (by kernel_rfl) w
theorem ky_xl (ρ : Operand → Value) (dst : Option Tmp) (x : Operand) (t : TypeId) (pos : String) (after : Array Edge) (guard : Option (Nat × Bool)) : execOp ρ { dst, op := .load 23 x, type := t, pos, after, guard } = rowLoad 23 5 (ρ x) := rfl
theorem ky_xs (ρ : Operand → Value) (dst : Option Tmp) (x y : Operand) (t : TypeId) (pos : String) (after : Array Edge) (guard : Option (Nat × Bool)) : execOp ρ { dst, op := .store 23 x y, type := t, pos, after, guard } = rowStore 23 5 (ρ x) (ρ y) := rfl
theorem ky_xa (ρ : Operand → Value) (dst : Option Tmp) (t : TypeId) (pos : String) (after : Array Edge) (guard : Option (Nat × Bool)) : execOp ρ { dst, op := .alloc 23, type := t, pos, after, guard } = rowAlloc 23 := rfl
attribute [go_sem ↓] ky_xl ky_xs ky_xa
attribute [go_sem] ky_ld ky_st ky_al
theorem sel_ty : RowTy Tryz.prog 30 16 := ⟨by kernel_rfl, by kernel_rfl⟩
theorem sel_ld (w : World) (b o : Nat) : (rowLoad 30 16 (.pointer (some ⟨b, o, none⟩))).run Tryz.prog w = rowLoadR Tryz.prog w 30 16 b o (rowOf w b o 16) := run_rowLoad sel_ty w b o
theorem sel_st (w : World) (b o : Nat) (cells : Array Value) : (rowStore 30 16 (.pointer (some ⟨b, o, none⟩)) (.agg cells)).run Tryz.prog w = rowStoreR Tryz.prog w 30 16 b o cells (roomOf w b o 16 && fitsRow 16 cells) := run_rowStore sel_ty w b o cells
theorem sel_lv (w : World) (b o : Nat) : (loadVar 30 ⟨b, o, none⟩).run Tryz.prog w = varRes Tryz.prog w 30 b o (rowOf w b o 16) := loadVar_row sel_ty w b o
theorem sel_al (w : World) : (rowAlloc 30).run Tryz.prog w = .ok (.value (.pointer (some ⟨w.heap.size, 0, none⟩))) (w.alloc (.cells (cells8 (zeros32 16)) 30)) := run_rowAlloc (by kernel_rfl) w
theorem sel_xl (ρ : Operand → Value) (dst : Option Tmp) (x : Operand) (t : TypeId) (pos : String) (after : Array Edge) (guard : Option (Nat × Bool)) : execOp ρ { dst, op := .load 30 x, type := t, pos, after, guard } = rowLoad 30 16 (ρ x) := rfl
theorem sel_xs (ρ : Operand → Value) (dst : Option Tmp) (x y : Operand) (t : TypeId) (pos : String) (after : Array Edge) (guard : Option (Nat × Bool)) : execOp ρ { dst, op := .store 30 x y, type := t, pos, after, guard } = rowStore 30 16 (ρ x) (ρ y) := rfl
theorem sel_xa (ρ : Operand → Value) (dst : Option Tmp) (t : TypeId) (pos : String) (after : Array Edge) (guard : Option (Nat × Bool)) : execOp ρ { dst, op := .alloc 30, type := t, pos, after, guard } = rowAlloc 30 := rfl
attribute [go_sem ↓] sel_xl sel_xs sel_xa
attribute [go_sem] sel_ld sel_st sel_al
def stInts (s : St) : List Int := [s.status, s.size, s.lo, s.hi, s.gate, s.serial]
def stParts (s : St) : List ByteArray := [s.addr, s.var, strOfNums (encInts (stInts s)), strOfNums s.body, s.tags]
def readI (ls : List Int) : Soft := ⟨fun v w => ∃ A c, v = .slice A ls.length c ∧ ReadsInt w w.heap.size A ls, fun v w w' ⟨A, c, h1, h2⟩ hx => ⟨A, c, h1, h2.on hx⟩⟩
theorem reads_fresh {α : Type} {size : Nat} {enc : α → List Value} (E : EncTy enc size) (l : List α) (W : World) (cs : Array Value) (t : TypeId) (h : cs.toList = l.flatMap enc) : Reads size enc (W.alloc (.cells cs t)) (W.alloc (.cells cs t)).heap.size (some ⟨W.heap.size, 0, none⟩) l := by
  intro _
  refine ⟨W.heap.size, 0, rfl, by simp, fun i hi j v hv => ?_⟩
  rw [World.cell?_alloc_at _ _ _ _ rfl]
  have hj : j < size := by
    have := (List.getElem?_eq_some_iff.1 hv).1
    rwa [E.len] at this
  have k := E.flat_get l i hi j hj
  rw [hv, ← h] at k
  simpa using k
theorem body_reads {w : World} {B : Nat} {s : St} (h : RowAt w B (stmC s)) (h16 : s.body.length = 16) : ReadsB w w.heap.size (some ⟨B, 4, none⟩) s.body := by
  intro _
  refine ⟨B, 4, rfl, h.lt, fun i hi j v hv => ?_⟩
  have hj : j = 0 := by
    have := (List.getElem?_eq_some_iff.1 hv).1
    simp [encB] at this
    omega
  subst hj
  simp only [encB, List.getElem?_cons_zero, Option.some.injEq] at hv
  subst hv
  have hr := h.row 4 16
  rw [if_neg (by omega), stm_body, dgC_cells h16] at hr
  have hc := rowOf_cell hr (i := i) (by omega)
  rw [cells8_get, h16, if_pos (by omega)] at hc
  rw [Nat.mul_one, Nat.add_zero, hc]
  simp [hi]
set_option maxRecDepth 100000 in
set_option maxHeartbeats 4000000 in
theorem sparts_any (s : St) (w : World) (h16 : s.body.length = 16) (hi : ∀ x ∈ stInts s, i64 x) :
    Calls Tryz.prog 147 #[.agg (stmC s)] w fun e w' => ∃ A c, e = .returned (.slice A (stParts s).length c) ∧ ReadsStr w' w'.heap.size A (stParts s) ∧ (A = none → c = 0) ∧ Ext w w' := by
  have HI := Lib.hid (fun (A : Option Addr) (c : Nat) (W : World) (hr : ReadsInt W W.heap.size A (stInts s)) => sints_ok A c (stInts s) W (by show 6 ≤ 100000; decide) hr hi)
  have H16 := Lib.hid h16
  clear hi h16
  go_enter Tryz.func147, Tryz.ntmps147
  go_wp2
  refine wp_world (fun W => Ext w W ∧ RowAt W w.heap.size (stmC s)) ⟨(by (repeat (first | with_reducible exact Ext.refl _ | with_reducible exact Ext.refl _ | with_reducible refine Ext.drew ?_ | with_reducible refine Ext.drewN ?_ _ | with_reducible refine Ext.alloc ?_ _ | with_reducible refine Ext.onto ?_ _ | (with_reducible refine Ext.setCells ?_ ?_ _ _; rotate_left; focus (first | omega | (simp; done) | (simp; omega))) | (with_reducible refine Ext.setCell ?_ ?_ _; rotate_left; focus (first | omega | (simp; done) | (simp; omega)))))), RowAt.new _ _ _⟩ ?_
  obtain ⟨B, hB⟩ : ∃ B, w.heap.size = B := ⟨_, rfl⟩
  rw [hB]
  rintro W1 ⟨x1, u1⟩
  have HX1 := Lib.hid x1
  have HU1 := Lib.hid u1
  have c0 : W1.cell? ⟨B, 0, none⟩ = some (.string s.addr) := (u1.cell 0).trans (stm_g0 s)
  have c1 : W1.cell? ⟨B, 1, none⟩ = some (.string s.var) := (u1.cell 1).trans (stm_g1 s)
  have c2 : W1.cell? ⟨B, 2, none⟩ = some (.int .i64 s.status) := (u1.cell 2).trans (stm_g2 s)
  have c3 : W1.cell? ⟨B, 3, none⟩ = some (.int .i64 s.size) := (u1.cell 3).trans (stm_g3 s)
  have c20 : W1.cell? ⟨B, 20, none⟩ = some (.string s.tags) := (u1.cell 20).trans (stm_g20 s)
  have c21 : W1.cell? ⟨B, 21, none⟩ = some (.int .i64 s.lo) := (u1.cell 21).trans (stm_g21 s)
  have c22 : W1.cell? ⟨B, 22, none⟩ = some (.int .i64 s.hi) := (u1.cell 22).trans (stm_g22 s)
  have c23 : W1.cell? ⟨B, 23, none⟩ = some (.int .i64 s.gate) := (u1.cell 23).trans (stm_g23 s)
  have c24 : W1.cell? ⟨B, 24, none⟩ = some (.int .i64 s.serial) := (u1.cell 24).trans (stm_g24 s)
  have hlu := u1.lt
  clear x1 u1
  refine wp_region_soft 25 (softsL [.eq (.pointer (some ⟨B, 0, none⟩)), .eq (.string s.addr), .eq (.pointer (some ⟨B, 1, none⟩)), .eq (.string s.var), .eq (.pointer (some ⟨B, 2, none⟩)), .eq (.int .i64 s.status), .eq (.pointer (some ⟨B, 3, none⟩)), .eq (.int .i64 s.size), .eq (.pointer (some ⟨B, 21, none⟩)), .eq (.pointer (some ⟨B, 21, none⟩)), .eq (.int .i64 s.lo), .eq (.pointer (some ⟨B, 21, none⟩)), .eq (.pointer (some ⟨B, 22, none⟩)), .eq (.int .i64 s.hi), .eq (.pointer (some ⟨B, 23, none⟩)), .eq (.int .i64 s.gate), .eq (.pointer (some ⟨B, 24, none⟩)), .eq (.int .i64 s.serial), readI (stInts s), .eq (.string (strOfNums (encInts (stInts s)))), .eq (.pointer (some ⟨B, 4, none⟩)), .eq (.slice (some ⟨B, 4, none⟩) 16 16), .eq (.string (strOfNums s.body)), .eq (.pointer (some ⟨B, 20, none⟩)), .eq (.string s.tags)]) (by kernel_rfl) (by kernel_rfl) (lt_cons ?_ (lt_cons ?_ (lt_cons ?_ (lt_cons ?_ (lt_cons ?_ (lt_cons ?_ (lt_cons ?_ (lt_cons ?_ (lt_cons ?_ (lt_cons ?_ (lt_cons ?_ (lt_cons ?_ (lt_cons ?_ (lt_cons ?_ (lt_cons ?_ (lt_cons ?_ (lt_cons ?_ (lt_cons ?_ (lt_cons ?_ (lt_cons ?_ (lt_cons ?_ (lt_cons ?_ (lt_cons ?_ (lt_cons ?_ (lt_cons ?_ lt_none))))))))))))))))))))))))) ?_
  ·
    intro o ho xs W hW hd Q' hQ; obtain rfl := Option.some.inj ho; clear ho; simp only [fillAt, dstOf, List.getElem?_cons_zero, List.getElem?_cons_succ, Option.bind_some, Act.put, List.setIfInBounds_toArray, List.set_cons_zero, List.set_cons_succ, Nat.zero_add, Nat.reduceAdd] at hQ ⊢; have HQ := Lib.hid hQ; have HD := Lib.hid hd; have HW := Lib.hid hW; have hsW := hW.size; clear hQ hd hW
    go_wp2
    exact HQ.out _ _ (Ext.refl _) rfl
  ·
    intro o ho xs W hW hd Q' hQ; obtain rfl := Option.some.inj ho; clear ho; simp only [fillAt, dstOf, List.getElem?_cons_zero, List.getElem?_cons_succ, Option.bind_some, Act.put, List.setIfInBounds_toArray, List.set_cons_zero, List.set_cons_succ, Nat.zero_add, Nat.reduceAdd] at hQ ⊢; have HQ := Lib.hid hQ; have HD := Lib.hid hd; have HW := Lib.hid hW; have hsW := hW.size; clear hQ hd hW
    have hd0 : xs 0 = (.pointer (some ⟨B, 0, none⟩)) := (HD.out 0 (of_decide_eq_true (by kernel_rfl)))
    generalize xs 0 = x0 at hd0 HQ ⊢; subst hd0
    have hc : W.cell? ⟨B, 0, none⟩ = some (.string s.addr) := (HW.out.cell (p := ⟨B, 0, none⟩) (by show B < _; omega)).trans c0
    go_wp2
    exact HQ.out _ _ (Ext.refl _) rfl
  ·
    intro o ho xs W hW hd Q' hQ; obtain rfl := Option.some.inj ho; clear ho; simp only [fillAt, dstOf, List.getElem?_cons_zero, List.getElem?_cons_succ, Option.bind_some, Act.put, List.setIfInBounds_toArray, List.set_cons_zero, List.set_cons_succ, Nat.zero_add, Nat.reduceAdd] at hQ ⊢; have HQ := Lib.hid hQ; have HD := Lib.hid hd; have HW := Lib.hid hW; have hsW := hW.size; clear hQ hd hW
    go_wp2
    exact HQ.out _ _ (Ext.refl _) rfl
  ·
    intro o ho xs W hW hd Q' hQ; obtain rfl := Option.some.inj ho; clear ho; simp only [fillAt, dstOf, List.getElem?_cons_zero, List.getElem?_cons_succ, Option.bind_some, Act.put, List.setIfInBounds_toArray, List.set_cons_zero, List.set_cons_succ, Nat.zero_add, Nat.reduceAdd] at hQ ⊢; have HQ := Lib.hid hQ; have HD := Lib.hid hd; have HW := Lib.hid hW; have hsW := hW.size; clear hQ hd hW
    have hd2 : xs 2 = (.pointer (some ⟨B, 1, none⟩)) := (HD.out 2 (of_decide_eq_true (by kernel_rfl)))
    generalize xs 2 = x2 at hd2 HQ ⊢; subst hd2
    have hc : W.cell? ⟨B, 1, none⟩ = some (.string s.var) := (HW.out.cell (p := ⟨B, 1, none⟩) (by show B < _; omega)).trans c1
    go_wp2
    exact HQ.out _ _ (Ext.refl _) rfl
  ·
    intro o ho xs W hW hd Q' hQ; obtain rfl := Option.some.inj ho; clear ho; simp only [fillAt, dstOf, List.getElem?_cons_zero, List.getElem?_cons_succ, Option.bind_some, Act.put, List.setIfInBounds_toArray, List.set_cons_zero, List.set_cons_succ, Nat.zero_add, Nat.reduceAdd] at hQ ⊢; have HQ := Lib.hid hQ; have HD := Lib.hid hd; have HW := Lib.hid hW; have hsW := hW.size; clear hQ hd hW
    go_wp2
    exact HQ.out _ _ (Ext.refl _) rfl
  ·
    intro o ho xs W hW hd Q' hQ; obtain rfl := Option.some.inj ho; clear ho; simp only [fillAt, dstOf, List.getElem?_cons_zero, List.getElem?_cons_succ, Option.bind_some, Act.put, List.setIfInBounds_toArray, List.set_cons_zero, List.set_cons_succ, Nat.zero_add, Nat.reduceAdd] at hQ ⊢; have HQ := Lib.hid hQ; have HD := Lib.hid hd; have HW := Lib.hid hW; have hsW := hW.size; clear hQ hd hW
    have hd4 : xs 4 = (.pointer (some ⟨B, 2, none⟩)) := (HD.out 4 (of_decide_eq_true (by kernel_rfl)))
    generalize xs 4 = x4 at hd4 HQ ⊢; subst hd4
    have hc : W.cell? ⟨B, 2, none⟩ = some (.int .i64 s.status) := (HW.out.cell (p := ⟨B, 2, none⟩) (by show B < _; omega)).trans c2
    go_wp2
    exact HQ.out _ _ (Ext.refl _) rfl
  ·
    intro o ho xs W hW hd Q' hQ; obtain rfl := Option.some.inj ho; clear ho; simp only [fillAt, dstOf, List.getElem?_cons_zero, List.getElem?_cons_succ, Option.bind_some, Act.put, List.setIfInBounds_toArray, List.set_cons_zero, List.set_cons_succ, Nat.zero_add, Nat.reduceAdd] at hQ ⊢; have HQ := Lib.hid hQ; have HD := Lib.hid hd; have HW := Lib.hid hW; have hsW := hW.size; clear hQ hd hW
    go_wp2
    exact HQ.out _ _ (Ext.refl _) rfl
  ·
    intro o ho xs W hW hd Q' hQ; obtain rfl := Option.some.inj ho; clear ho; simp only [fillAt, dstOf, List.getElem?_cons_zero, List.getElem?_cons_succ, Option.bind_some, Act.put, List.setIfInBounds_toArray, List.set_cons_zero, List.set_cons_succ, Nat.zero_add, Nat.reduceAdd] at hQ ⊢; have HQ := Lib.hid hQ; have HD := Lib.hid hd; have HW := Lib.hid hW; have hsW := hW.size; clear hQ hd hW
    have hd6 : xs 6 = (.pointer (some ⟨B, 3, none⟩)) := (HD.out 6 (of_decide_eq_true (by kernel_rfl)))
    generalize xs 6 = x6 at hd6 HQ ⊢; subst hd6
    have hc : W.cell? ⟨B, 3, none⟩ = some (.int .i64 s.size) := (HW.out.cell (p := ⟨B, 3, none⟩) (by show B < _; omega)).trans c3
    go_wp2
    exact HQ.out _ _ (Ext.refl _) rfl
  ·
    intro o ho xs W hW hd Q' hQ; obtain rfl := Option.some.inj ho; clear ho; simp only [fillAt, dstOf, List.getElem?_cons_zero, List.getElem?_cons_succ, Option.bind_some, Act.put, List.setIfInBounds_toArray, List.set_cons_zero, List.set_cons_succ, Nat.zero_add, Nat.reduceAdd] at hQ ⊢; have HQ := Lib.hid hQ; have HD := Lib.hid hd; have HW := Lib.hid hW; have hsW := hW.size; clear hQ hd hW
    go_wp2
    exact HQ.out _ _ (Ext.refl _) rfl
  ·
    intro o ho xs W hW hd Q' hQ; obtain rfl := Option.some.inj ho; clear ho; simp only [fillAt, dstOf, List.getElem?_cons_zero, List.getElem?_cons_succ, Option.bind_some, Act.put, List.setIfInBounds_toArray, List.set_cons_zero, List.set_cons_succ, Nat.zero_add, Nat.reduceAdd] at hQ ⊢; have HQ := Lib.hid hQ; have HD := Lib.hid hd; have HW := Lib.hid hW; have hsW := hW.size; clear hQ hd hW
    have hd8 : xs 8 = (.pointer (some ⟨B, 21, none⟩)) := (HD.out 8 (of_decide_eq_true (by kernel_rfl)))
    generalize xs 8 = x8 at hd8 HQ ⊢; subst hd8
    go_wp2
    exact HQ.out _ _ (Ext.refl _) rfl
  ·
    intro o ho xs W hW hd Q' hQ; obtain rfl := Option.some.inj ho; clear ho; simp only [fillAt, dstOf, List.getElem?_cons_zero, List.getElem?_cons_succ, Option.bind_some, Act.put, List.setIfInBounds_toArray, List.set_cons_zero, List.set_cons_succ, Nat.zero_add, Nat.reduceAdd] at hQ ⊢; have HQ := Lib.hid hQ; have HD := Lib.hid hd; have HW := Lib.hid hW; have hsW := hW.size; clear hQ hd hW
    have hd9 : xs 9 = (.pointer (some ⟨B, 21, none⟩)) := (HD.out 9 (of_decide_eq_true (by kernel_rfl)))
    generalize xs 9 = x9 at hd9 HQ ⊢; subst hd9
    have hc : W.cell? ⟨B, 21, none⟩ = some (.int .i64 s.lo) := (HW.out.cell (p := ⟨B, 21, none⟩) (by show B < _; omega)).trans c21
    go_wp2
    exact HQ.out _ _ (Ext.refl _) rfl
  ·
    intro o ho xs W hW hd Q' hQ; obtain rfl := Option.some.inj ho; clear ho; simp only [fillAt, dstOf, List.getElem?_cons_zero, List.getElem?_cons_succ, Option.bind_some, Act.put, List.setIfInBounds_toArray, List.set_cons_zero, List.set_cons_succ, Nat.zero_add, Nat.reduceAdd] at hQ ⊢; have HQ := Lib.hid hQ; have HD := Lib.hid hd; have HW := Lib.hid hW; have hsW := hW.size; clear hQ hd hW
    go_wp2
    exact HQ.out _ _ (Ext.refl _) rfl
  ·
    intro o ho xs W hW hd Q' hQ; obtain rfl := Option.some.inj ho; clear ho; simp only [fillAt, dstOf, List.getElem?_cons_zero, List.getElem?_cons_succ, Option.bind_some, Act.put, List.setIfInBounds_toArray, List.set_cons_zero, List.set_cons_succ, Nat.zero_add, Nat.reduceAdd] at hQ ⊢; have HQ := Lib.hid hQ; have HD := Lib.hid hd; have HW := Lib.hid hW; have hsW := hW.size; clear hQ hd hW
    have hd11 : xs 11 = (.pointer (some ⟨B, 21, none⟩)) := (HD.out 11 (of_decide_eq_true (by kernel_rfl)))
    generalize xs 11 = x11 at hd11 HQ ⊢; subst hd11
    go_wp2
    exact HQ.out _ _ (Ext.refl _) rfl
  ·
    intro o ho xs W hW hd Q' hQ; obtain rfl := Option.some.inj ho; clear ho; simp only [fillAt, dstOf, List.getElem?_cons_zero, List.getElem?_cons_succ, Option.bind_some, Act.put, List.setIfInBounds_toArray, List.set_cons_zero, List.set_cons_succ, Nat.zero_add, Nat.reduceAdd] at hQ ⊢; have HQ := Lib.hid hQ; have HD := Lib.hid hd; have HW := Lib.hid hW; have hsW := hW.size; clear hQ hd hW
    have hd12 : xs 12 = (.pointer (some ⟨B, 22, none⟩)) := (HD.out 12 (of_decide_eq_true (by kernel_rfl)))
    generalize xs 12 = x12 at hd12 HQ ⊢; subst hd12
    have hc : W.cell? ⟨B, 22, none⟩ = some (.int .i64 s.hi) := (HW.out.cell (p := ⟨B, 22, none⟩) (by show B < _; omega)).trans c22
    go_wp2
    exact HQ.out _ _ (Ext.refl _) rfl
  ·
    intro o ho xs W hW hd Q' hQ; obtain rfl := Option.some.inj ho; clear ho; simp only [fillAt, dstOf, List.getElem?_cons_zero, List.getElem?_cons_succ, Option.bind_some, Act.put, List.setIfInBounds_toArray, List.set_cons_zero, List.set_cons_succ, Nat.zero_add, Nat.reduceAdd] at hQ ⊢; have HQ := Lib.hid hQ; have HD := Lib.hid hd; have HW := Lib.hid hW; have hsW := hW.size; clear hQ hd hW
    go_wp2
    exact HQ.out _ _ (Ext.refl _) rfl
  ·
    intro o ho xs W hW hd Q' hQ; obtain rfl := Option.some.inj ho; clear ho; simp only [fillAt, dstOf, List.getElem?_cons_zero, List.getElem?_cons_succ, Option.bind_some, Act.put, List.setIfInBounds_toArray, List.set_cons_zero, List.set_cons_succ, Nat.zero_add, Nat.reduceAdd] at hQ ⊢; have HQ := Lib.hid hQ; have HD := Lib.hid hd; have HW := Lib.hid hW; have hsW := hW.size; clear hQ hd hW
    have hd14 : xs 14 = (.pointer (some ⟨B, 23, none⟩)) := (HD.out 14 (of_decide_eq_true (by kernel_rfl)))
    generalize xs 14 = x14 at hd14 HQ ⊢; subst hd14
    have hc : W.cell? ⟨B, 23, none⟩ = some (.int .i64 s.gate) := (HW.out.cell (p := ⟨B, 23, none⟩) (by show B < _; omega)).trans c23
    go_wp2
    exact HQ.out _ _ (Ext.refl _) rfl
  ·
    intro o ho xs W hW hd Q' hQ; obtain rfl := Option.some.inj ho; clear ho; simp only [fillAt, dstOf, List.getElem?_cons_zero, List.getElem?_cons_succ, Option.bind_some, Act.put, List.setIfInBounds_toArray, List.set_cons_zero, List.set_cons_succ, Nat.zero_add, Nat.reduceAdd] at hQ ⊢; have HQ := Lib.hid hQ; have HD := Lib.hid hd; have HW := Lib.hid hW; have hsW := hW.size; clear hQ hd hW
    go_wp2
    exact HQ.out _ _ (Ext.refl _) rfl
  ·
    intro o ho xs W hW hd Q' hQ; obtain rfl := Option.some.inj ho; clear ho; simp only [fillAt, dstOf, List.getElem?_cons_zero, List.getElem?_cons_succ, Option.bind_some, Act.put, List.setIfInBounds_toArray, List.set_cons_zero, List.set_cons_succ, Nat.zero_add, Nat.reduceAdd] at hQ ⊢; have HQ := Lib.hid hQ; have HD := Lib.hid hd; have HW := Lib.hid hW; have hsW := hW.size; clear hQ hd hW
    have hd16 : xs 16 = (.pointer (some ⟨B, 24, none⟩)) := (HD.out 16 (of_decide_eq_true (by kernel_rfl)))
    generalize xs 16 = x16 at hd16 HQ ⊢; subst hd16
    have hc : W.cell? ⟨B, 24, none⟩ = some (.int .i64 s.serial) := (HW.out.cell (p := ⟨B, 24, none⟩) (by show B < _; omega)).trans c24
    go_wp2
    exact HQ.out _ _ (Ext.refl _) rfl
  ·
    intro o ho xs W hW hd Q' hQ; obtain rfl := Option.some.inj ho; clear ho; simp only [fillAt, dstOf, List.getElem?_cons_zero, List.getElem?_cons_succ, Option.bind_some, Act.put, List.setIfInBounds_toArray, List.set_cons_zero, List.set_cons_succ, Nat.zero_add, Nat.reduceAdd] at hQ ⊢; have HQ := Lib.hid hQ; have HD := Lib.hid hd; have HW := Lib.hid hW; have hsW := hW.size; clear hQ hd hW
    have hd5 : xs 5 = .int .i64 s.status := (HD.out 5 (of_decide_eq_true (by kernel_rfl)))
    generalize xs 5 = x5 at hd5 HQ ⊢; subst hd5
    have hd7 : xs 7 = .int .i64 s.size := (HD.out 7 (of_decide_eq_true (by kernel_rfl)))
    generalize xs 7 = x7 at hd7 HQ ⊢; subst hd7
    have hd10 : xs 10 = .int .i64 s.lo := (HD.out 10 (of_decide_eq_true (by kernel_rfl)))
    generalize xs 10 = x10 at hd10 HQ ⊢; subst hd10
    have hd13 : xs 13 = .int .i64 s.hi := (HD.out 13 (of_decide_eq_true (by kernel_rfl)))
    generalize xs 13 = x13 at hd13 HQ ⊢; subst hd13
    have hd15 : xs 15 = .int .i64 s.gate := (HD.out 15 (of_decide_eq_true (by kernel_rfl)))
    generalize xs 15 = x15 at hd15 HQ ⊢; subst hd15
    have hd17 : xs 17 = .int .i64 s.serial := (HD.out 17 (of_decide_eq_true (by kernel_rfl)))
    generalize xs 17 = x17 at hd17 HQ ⊢; subst hd17
    go_wp2
    exact HQ.out _ _ ((Ext.refl _).alloc _) ⟨_, _, rfl, reads_fresh zE (stInts s) W _ _ rfl⟩
  ·
    intro o ho xs W hW hd Q' hQ; obtain rfl := Option.some.inj ho; clear ho; simp only [fillAt, dstOf, List.getElem?_cons_zero, List.getElem?_cons_succ, Option.bind_some, Act.put, List.setIfInBounds_toArray, List.set_cons_zero, List.set_cons_succ, Nat.zero_add, Nat.reduceAdd] at hQ ⊢; have HQ := Lib.hid hQ; have HD := Lib.hid hd; have HW := Lib.hid hW; have hsW := hW.size; clear hQ hd hW
    obtain ⟨A9, c9, h18, hr18⟩ : (readI (stInts s)).S (xs 18) W := (HD.out 18 (of_decide_eq_true (by kernel_rfl)))
    generalize xs 18 = x18 at h18 HQ ⊢; subst h18
    go_wp2_with (go_at_call 156; refine (HI.out A9 c9 _ hr18).mono ?_; rintro e w1 ⟨rfl, hx⟩)
    exact HQ.out _ _ hx rfl
  ·
    intro o ho xs W hW hd Q' hQ; obtain rfl := Option.some.inj ho; clear ho; simp only [fillAt, dstOf, List.getElem?_cons_zero, List.getElem?_cons_succ, Option.bind_some, Act.put, List.setIfInBounds_toArray, List.set_cons_zero, List.set_cons_succ, Nat.zero_add, Nat.reduceAdd] at hQ ⊢; have HQ := Lib.hid hQ; have HD := Lib.hid hd; have HW := Lib.hid hW; have hsW := hW.size; clear hQ hd hW
    go_wp2
    exact HQ.out _ _ (Ext.refl _) rfl
  ·
    intro o ho xs W hW hd Q' hQ; obtain rfl := Option.some.inj ho; clear ho; simp only [fillAt, dstOf, List.getElem?_cons_zero, List.getElem?_cons_succ, Option.bind_some, Act.put, List.setIfInBounds_toArray, List.set_cons_zero, List.set_cons_succ, Nat.zero_add, Nat.reduceAdd] at hQ ⊢; have HQ := Lib.hid hQ; have HD := Lib.hid hd; have HW := Lib.hid hW; have hsW := hW.size; clear hQ hd hW
    have hd20 : xs 20 = (.pointer (some ⟨B, 4, none⟩)) := (HD.out 20 (of_decide_eq_true (by kernel_rfl)))
    generalize xs 20 = x20 at hd20 HQ ⊢; subst hd20
    go_wp2
    exact HQ.out _ _ (Ext.refl _) rfl
  ·
    intro o ho xs W hW hd Q' hQ; obtain rfl := Option.some.inj ho; clear ho; simp only [fillAt, dstOf, List.getElem?_cons_zero, List.getElem?_cons_succ, Option.bind_some, Act.put, List.setIfInBounds_toArray, List.set_cons_zero, List.set_cons_succ, Nat.zero_add, Nat.reduceAdd] at hQ ⊢; have HQ := Lib.hid hQ; have HD := Lib.hid hd; have HW := Lib.hid hW; have hsW := hW.size; clear hQ hd hW
    have hd21 : xs 21 = .slice (some ⟨B, 4, none⟩) 16 16 := (HD.out 21 (of_decide_eq_true (by kernel_rfl)))
    generalize xs 21 = x21 at hd21 HQ ⊢; subst hd21
    have hcv := conv_bytes 16 (body_reads (HU1.out.ext HW.out) H16.out) (by rw [H16.out]; omega)
    rw [H16.out] at hcv
    go_wp2
    exact HQ.out _ _ (Ext.refl _) rfl
  ·
    intro o ho xs W hW hd Q' hQ; obtain rfl := Option.some.inj ho; clear ho; simp only [fillAt, dstOf, List.getElem?_cons_zero, List.getElem?_cons_succ, Option.bind_some, Act.put, List.setIfInBounds_toArray, List.set_cons_zero, List.set_cons_succ, Nat.zero_add, Nat.reduceAdd] at hQ ⊢; have HQ := Lib.hid hQ; have HD := Lib.hid hd; have HW := Lib.hid hW; have hsW := hW.size; clear hQ hd hW
    go_wp2
    exact HQ.out _ _ (Ext.refl _) rfl
  ·
    intro o ho xs W hW hd Q' hQ; obtain rfl := Option.some.inj ho; clear ho; simp only [fillAt, dstOf, List.getElem?_cons_zero, List.getElem?_cons_succ, Option.bind_some, Act.put, List.setIfInBounds_toArray, List.set_cons_zero, List.set_cons_succ, Nat.zero_add, Nat.reduceAdd] at hQ ⊢; have HQ := Lib.hid hQ; have HD := Lib.hid hd; have HW := Lib.hid hW; have hsW := hW.size; clear hQ hd hW
    have hd23 : xs 23 = (.pointer (some ⟨B, 20, none⟩)) := (HD.out 23 (of_decide_eq_true (by kernel_rfl)))
    generalize xs 23 = x23 at hd23 HQ ⊢; subst hd23
    have hc : W.cell? ⟨B, 20, none⟩ = some (.string s.tags) := (HW.out.cell (p := ⟨B, 20, none⟩) (by show B < _; omega)).trans c20
    go_wp2
    exact HQ.out _ _ (Ext.refl _) rfl
  intro xs W3 hW hS
  have h1 : xs 1 = .string s.addr := hS 1 (by omega)
  have h3 : xs 3 = .string s.var := hS 3 (by omega)
  have h19 : xs 19 = .string (strOfNums (encInts (stInts s))) := hS 19 (by omega)
  have h22 : xs 22 = .string (strOfNums s.body) := hS 22 (by omega)
  have h24 : xs 24 = .string s.tags := hS 24 (by omega)
  simp only [fillAt, dstOf, List.getElem?_cons_zero, List.getElem?_cons_succ, Option.bind_some, Act.put, List.setIfInBounds_toArray, List.set_cons_zero, List.set_cons_succ, Nat.zero_add, Nat.reduceAdd, List.drop_succ_cons, List.drop_zero, List.drop_nil]
  generalize xs 1 = x1 at *; subst h1
  generalize xs 3 = x3 at *; subst h3
  generalize xs 19 = x19 at *; subst h19
  generalize xs 22 = x22 at *; subst h22
  generalize xs 24 = x24 at *; subst h24
  have HX3 := Lib.hid (HX1.out.trans hW)
  clear hS hW c0 c1 c2 c3 c20 c21 c22 c23 c24
  go_wp2
  go_ret
  exact ⟨_, _, rfl, reads_fresh sE (stParts s) W3 _ _ rfl, fun h => (by cases h), (by (repeat (first | with_reducible exact HX3.out | with_reducible exact Ext.refl _ | with_reducible refine Ext.drew ?_ | with_reducible refine Ext.drewN ?_ _ | with_reducible refine Ext.alloc ?_ _ | with_reducible refine Ext.onto ?_ _ | (with_reducible refine Ext.setCells ?_ ?_ _ _; rotate_left; focus (first | omega | (simp; done) | (simp; omega))) | (with_reducible refine Ext.setCell ?_ ?_ _; rotate_left; focus (first | omega | (simp; done) | (simp; omega))))))⟩
end Go.Proofs.YtpfhmcdcmepfdaaGreatDoor


set_option linter.unusedVariables false
set_option linter.unusedSimpArgs false
namespace Go.Proofs.YtpfhmcdcmepfdaaGreatDoor
open Go.ChangeShapes Go.WideShapes Go.ChangeAt Go.RowKit Go.Joins Go.Deep
open Go.Proofs

section
variable {H : Type} {enc : TypeId × Value → H} {w : World} {base : Nat} {spare : Nat → Bool} {held : Bool}
set_option maxRecDepth 100000 in
theorem ky_of_trod {m : Nat} {L : List Value} {x : DataW H × List MemPlace} (h : DataW.trod enc Tryz.prog w base spare held m 23 L = some x) : ∃ k : Ky, L = kyL k ∧ k.secret.size ≤ maxLen := by
  obtain ⟨xs, n, _, _, hlen, hxl, hg⟩ := DataW.trod_struct Tryz.underlying23 h
  have hC : Tryz.prog.cellsOf 23 = 5 := by kernel_rfl
  have ci : Tryz.prog.cellsOf 3 = 1 := by kernel_rfl
  have cs : Tryz.prog.cellsOf 9 = 1 := by kernel_rfl
  rw [hC] at hlen
  have hx9 : xs.length = 5 := hxl
  have g0 := hg 0 _ rfl
  have g1 := hg 1 _ rfl
  have g2 := hg 2 _ rfl
  have g3 := hg 3 _ rfl
  have g4 := hg 4 _ rfl
  simp only [List.getElem_toArray, List.getElem_cons_succ, List.getElem_cons_zero, ci, cs] at g0 g1 g2 g3 g4
  rw [List.getElem?_eq_getElem (by omega)] at g0 g1 g2 g3 g4
  obtain ⟨n0, e0, _, _⟩ := DataW.trod_int Tryz.underlying3 g0
  obtain ⟨n1, e1, _, _⟩ := DataW.trod_int Tryz.underlying3 g1
  obtain ⟨s2, e2, _, z2⟩ := DataW.trod_string Tryz.underlying9 g2
  obtain ⟨n3, e3, _, _⟩ := DataW.trod_int Tryz.underlying3 g3
  obtain ⟨n4, e4, _, _⟩ := DataW.trod_int Tryz.underlying3 g4
  refine ⟨⟨n0, n1, s2, n3, n4⟩, ?_, z2⟩
  have e : L = L.drop 0 := rfl
  rw [e, seg e0, seg e1, seg e2, seg e3, seg e4, List.drop_eq_nil_of_le (show L.length ≤ 4 + 1 by omega)]
  rfl
set_option maxRecDepth 100000 in
theorem open_key {r : Reach} {b0 : Nat} {v : Value} {d : DataW H} {p : List MemPlace} (hv : Value.okWide Tryz.prog w r b0 23 v) (h : DataW.Trod enc Tryz.prog w base spare held 23 v d p) :
    ∃ k : Ky, v = .agg (kyC k) ∧ k.secret.size ≤ maxLen := by
  obtain ⟨cs, rfl, hsz⟩ := okWide_struct Tryz.underlying23 hv
  obtain ⟨fuel, hf⟩ := h
  obtain ⟨k, e0, l1⟩ := ky_of_trod hf
  have hcs : cs = kyC k := by
    apply Array.toList_inj.1
    exact e0
  exact ⟨k, by rw [hcs], l1⟩
end
end Go.Proofs.YtpfhmcdcmepfdaaGreatDoor


set_option linter.unusedVariables false
set_option linter.unusedSimpArgs false
namespace Go.Proofs.YtpfhmcdcmepfdaaGreatDoor
open Go.ChangeShapes Go.WideShapes Go.ChangeAt Go.RowKit Go.Joins Go.Deep
open Go.Proofs

section
variable {H : Type} {enc : TypeId × Value → H} {w : World} {base : Nat} {spare : Nat → Bool} {held : Bool}
set_option maxRecDepth 100000 in
theorem an_of_trod {m : Nat} {L : List Value} {x : DataW H × List MemPlace} (h : DataW.trod enc Tryz.prog w base spare held m 27 L = some x) : ∃ a : An, L = (anC a).toList ∧ a.body.length = 16 ∧ Byt a.body ∧ a.bytes.size ≤ maxLen ∧ a.tags.size ≤ maxLen ∧ i64 a.status ∧ i64 a.size := by
  obtain ⟨xs, n, _, _, hlen, hxl, hg⟩ := DataW.trod_struct Tryz.underlying27 h
  have hC : Tryz.prog.cellsOf 27 = 21 := by kernel_rfl
  have ci : Tryz.prog.cellsOf 3 = 1 := by kernel_rfl
  have cs : Tryz.prog.cellsOf 9 = 1 := by kernel_rfl
  have cd : Tryz.prog.cellsOf 25 = 16 := by kernel_rfl
  have cb : Tryz.prog.cellsOf 4 = 1 := by kernel_rfl
  rw [hC] at hlen
  have hx9 : xs.length = 6 := hxl
  have g0 := hg 0 _ rfl
  have g1 := hg 1 _ rfl
  have g2 := hg 2 _ rfl
  have g3 := hg 3 _ rfl
  have g4 := hg 4 _ rfl
  have g5 := hg 5 _ rfl
  simp only [List.getElem_toArray, List.getElem_cons_succ, List.getElem_cons_zero, ci, cs, cd, cb] at g0 g1 g2 g3 g4 g5
  rw [List.getElem?_eq_getElem (by omega)] at g0 g1 g2 g3 g4 g5
  obtain ⟨n0, e0, _, w0⟩ := DataW.trod_int Tryz.underlying3 g0
  obtain ⟨n1, e1, _, w1⟩ := DataW.trod_int Tryz.underlying3 g1
  obtain ⟨b2, e2, l2, y2⟩ := dg_of_trod Tryz.underlying25 cd g2
  obtain ⟨s3, e3, _, z3⟩ := DataW.trod_string Tryz.underlying9 g3
  obtain ⟨s4, e4, _, z4⟩ := DataW.trod_string Tryz.underlying9 g4
  obtain ⟨b5, e5, _⟩ := DataW.trod_bool Tryz.underlying4 g5
  have i0 : i64 n0 := by simp [Lit.wf, IntKind.min, IntKind.max, IntKind.signed, IntKind.bits] at w0; unfold i64; constructor <;> omega
  have i1 : i64 n1 := by simp [Lit.wf, IntKind.min, IntKind.max, IntKind.signed, IntKind.bits] at w1; unfold i64; constructor <;> omega
  refine ⟨⟨n0, n1, b2, s3, s4, b5⟩, ?_, l2, y2, z3, z4, i0, i1⟩
  have e : L = L.drop 0 := rfl
  rw [e, seg e0, seg e1, seg e2, seg e3, seg e4, seg e5, List.drop_eq_nil_of_le (show L.length ≤ 20 + 1 by omega)]
  simp [anC]
set_option maxRecDepth 100000 in
theorem open_answer {r : Reach} {b0 : Nat} {v : Value} {d : DataW H} {p : List MemPlace} (hv : Value.okWide Tryz.prog w r b0 27 v) (h : DataW.Trod enc Tryz.prog w base spare held 27 v d p) :
    ∃ a : An, v = .agg (anC a) ∧ a.body.length = 16 ∧ Byt a.body ∧ a.bytes.size ≤ maxLen ∧ a.tags.size ≤ maxLen ∧ i64 a.status ∧ i64 a.size := by
  obtain ⟨cs, rfl, hsz⟩ := okWide_struct Tryz.underlying27 hv
  obtain ⟨fuel, hf⟩ := h
  obtain ⟨a, e0, l1⟩ := an_of_trod hf
  have hcs : cs = anC a := by
    apply Array.toList_inj.1
    exact e0
  exact ⟨a, by rw [hcs], l1⟩
end
end Go.Proofs.YtpfhmcdcmepfdaaGreatDoor
