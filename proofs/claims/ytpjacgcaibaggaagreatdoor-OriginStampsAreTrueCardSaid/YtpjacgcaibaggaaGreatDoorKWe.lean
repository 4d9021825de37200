/- Serve of the program. -/
import Derived.Test.YtpjacgcaibaggaaGreatDoorProg
import Derived.Shelf.Spec.SlicesGrow
import Derived.Shelf.SlGeneric
import Derived.Ground.NamesProg
import Derived.Test.YtpjacgcaibaggaaGreatDoorKSpv
import Derived.WalkKit
import Derived.WalkSpells
import Derived.WalkLawsBesides
import Derived.Deep.QuietTactic
import Derived.BigQuiet
import Derived.Test.YtpjacgcaibaggaaGreatDoorKOv
import Derived.Lib.RowBridge
import Derived.Test.YtpjacgcaibaggaaGreatDoorKSla
import Derived.Test.YtpjacgcaibaggaaGreatDoorKBa
import Derived.Test.YtpjacgcaibaggaaGreatDoorKVy
import Derived.Maps.Own
import Derived.Laws.EntriesVeiled
namespace Go.Proofs
open Go.Shelf
def Tryz.growStr_ren : Go.Shelf.Ren := ⟨fun | 4 => 195 | n => n, fun | 22 => 81 | 25 => 9 | 3 => 3 | 4 => 4 | 9 => 9 | 20 => 20 | 0 => 0 | n => n, fun | n => n⟩
theorem Tryz.growStr : Go.Proofs.Lays8.n4 Tryz.prog Tryz.growStr_ren := {
  mixed := by kernel_rfl
  f4 := ⟨Tryz.f195.name, by decide, Tryz.func195.trans (congrArg some (by kernel_rfl))⟩
  t0 := Tryz.underlying0
  a0 := Tryz.isAgg0
  z0 := Tryz.sizeOf0
  v0 := Tryz.zeroValue0
  t3 := Tryz.underlying3
  a3 := Tryz.isAgg3
  z3 := Tryz.sizeOf3
  v3 := Tryz.zeroValue3
  t4 := Tryz.underlying4
  a4 := Tryz.isAgg4
  z4 := Tryz.sizeOf4
  v4 := Tryz.zeroValue4
  t9 := Tryz.underlying9
  a9 := Tryz.isAgg9
  z9 := Tryz.sizeOf9
  v9 := Tryz.zeroValue9
  t20 := Tryz.underlying20
  a20 := Tryz.isAgg20
  z20 := Tryz.sizeOf20
  v20 := Tryz.zeroValue20
  t22 := Tryz.underlying81
  a22 := Tryz.isAgg81
  z22 := Tryz.sizeOf81
  v22 := Tryz.zeroValue81 }
end Go.Proofs


set_option linter.unusedVariables false
set_option linter.unusedSimpArgs false
namespace Go.Proofs.YtpjacgcaibaggaaGreatDoor
open Go.RowKit Go.Shelf Go.Sort
open Go.Proofs

theorem strInfo : (Tryz.prog.info? 9).map (fun i => (i.zero, i.size, i.bytes)) = some (some (.string ByteArray.empty), 1, 16) := by kernel_rfl
set_option maxRecDepth 100000 in
theorem growS_any (n : Nat) (m : Int) (hm : m = n) (w : World) (hn : n * 16 ≤ 140737488355328) :
    Calls Tryz.prog 195 #[.slice none 0 0, .int .i64 m] w fun e w' => ∃ A' c', e = .returned (.slice A' 0 c') ∧ OwnsStr w.heap.size w' A' c' [] ∧ Ext w w' := by
  subst hm
  obtain ⟨i, hi, hz, h1, h2⟩ := info_parts strInfo
  by_cases h0 : n = 0
  · subst h0
    go_enter Tryz.func195, Tryz.ntmps195
    go_wp2
    go_ret
    exact ⟨none, 0, rfl, Owns.nil _ _ _ _ _, Ext.refl _⟩
  · have hcon := Any8.slices_Grow_grow Tryz.growStr i (.string ByteArray.empty) hi hz (by omega) none 0 0 n [] w (Nat.le_refl _) (by omega) (by rw [h2]; omega) (by omega) (by simp) (fun _ => rfl) (fun a h => by cases h)
    change Calls Tryz.prog 195 _ _ _ at hcon
    refine hcon.mono ?_
    rintro e w' ⟨rfl, rfl⟩
    refine ⟨some ⟨w.heap.size, 0, none⟩, _, rfl, Owns.mk sE (Nat.le_refl _) (heap_alloc_new w.drew _) (Nat.zero_le _) (grownCap_le_maxLen _ _ _ _ (by unfold maxLen; omega)) ?_ (by simp), ((Ext.refl w).drew).alloc _⟩
    have hge := grownCap_ge w (0 + n) 0 (Tryz.growStr_ren.t 25)
    show _ = grownCap w (0 + n) 0 (Tryz.growStr_ren.t 25) * 1
    generalize grownCap w (0 + n) 0 (Tryz.growStr_ren.t 25) = cc at *
    simp [size_zeroCells, Value.cells]
    omega
set_option maxRecDepth 100000 in
set_option maxHeartbeats 2000000 in
theorem concat3_any (b : Nat) (A1 A2 A3 : Option Addr) (c1 c2 c3 : Nat) (l1 l2 l3 : List ByteArray) (w : World) (hb : b < w.heap.size) (k1 : w.cell? ⟨b, 0, none⟩ = some (.slice A1 l1.length c1)) (k2 : w.cell? ⟨b, 1, none⟩ = some (.slice A2 l2.length c2)) (k3 : w.cell? ⟨b, 2, none⟩ = some (.slice A3 l3.length c3))
    (r1 : ReadsStr w w.heap.size A1 l1) (r2 : ReadsStr w w.heap.size A2 l2) (r3 : ReadsStr w w.heap.size A3 l3) (z1 : A1 = none → c1 = 0) (z2 : A2 = none → c2 = 0) (z3 : A3 = none → c3 = 0) (hlen : (l1.length + l2.length + l3.length) * 16 ≤ 140737488355328) :
    Calls Tryz.prog 150 #[.slice (some ⟨b, 0, none⟩) 3 3] w fun e w' => ∃ A' c' l', e = .returned (.slice A' l'.length c') ∧ Hid (l' = l1 ++ l2 ++ l3) ∧ OwnsStr w.heap.size w' A' c' l' ∧ Ext w w' := by
  have HR1 := Lib.hid r1
  have HR2 := Lib.hid r2
  have HR3 := Lib.hid r3
  have HZ1 := Lib.hid z1
  have HZ2 := Lib.hid z2
  have HZ3 := Lib.hid z3
  clear r1 r2 r3 z1 z2 z3
  go_enter Tryz.func150, Tryz.ntmps150
  go_wp2
  refine wp_loop_rounds 4 ?_
  rw [rounds_succ]
  go_wp2
  rw [rounds_succ]
  go_wp2
  rw [rounds_succ]
  go_wp2
  rw [rounds_succ]
  go_wp2_with (go_at_call 195; refine (growS_any (l1.length + l2.length + l3.length) _ (by simp) _ (by omega)).mono ?_; rintro e w1 ⟨A9, c9, rfl, ho, hx⟩; have HO := Lib.hid ho; have HX := Lib.hid hx; have hszx := hx.size; have k1' := (hx.cell (p := ⟨b, 0, none⟩) hb).trans k1; have k2' := (hx.cell (p := ⟨b, 1, none⟩) hb).trans k2; have k3' := (hx.cell (p := ⟨b, 2, none⟩) hb).trans k3; clear ho hx)
  refine wp_loop_rounds 4 ?_
  rw [rounds_succ]
  go_wp2_with (at_builtin; refine app_reads strT sE rfl _ _ rfl w.heap.size A9 c9 [] rfl HO.out w.heap.size A1 c1 l1 rfl (HR1.out.ext HX.out (Nat.le_refl _)) HZ1.out (by simp; omega) (by simp; omega) hszx ?_; intro A4 c4 l4 w4 HL4 HO4 hB4 hl1 hl2 _; have hl1' : l4.length ≤ l1.length := (by simpa using hl1); have HO4' := Lib.hid HO4; have HB4 := Lib.hid hB4; have k2'' := (hB4.cell (p := ⟨b, 1, none⟩) hb).trans k2'; have k3'' := (hB4.cell (p := ⟨b, 2, none⟩) hb).trans k3'; have hsz4 := hB4.size; clear HO4 hB4)
  rw [rounds_succ]
  go_wp2_with (at_builtin; refine app_reads strT sE rfl _ _ rfl w.heap.size A4 c4 l4 rfl HO4'.out w.heap.size A2 c2 l2 rfl ((HR2.out.ext HX.out (Nat.le_refl _)).below HB4.out) HZ2.out (by omega) (by omega) (by omega) ?_; intro A5 c5 l5 w5 HL5 HO5 hB5 hl3 hl4 _; have HO5' := Lib.hid HO5; have HB5 := Lib.hid hB5; have k3x := (hB5.cell (p := ⟨b, 2, none⟩) hb).trans k3''; have hsz5 := hB5.size; clear HO5 hB5)
  rw [rounds_succ]
  go_wp2_with (at_builtin; refine app_reads strT sE rfl _ _ rfl w.heap.size A5 c5 l5 rfl HO5'.out w.heap.size A3 c3 l3 rfl (((HR3.out.ext HX.out (Nat.le_refl _)).below HB4.out).below HB5.out) HZ3.out (by omega) (by omega) (by omega) ?_; intro A6 c6 l6 w6 HL6 HO6 hB6 hl5 hl6 _; have HO6' := Lib.hid HO6; have HB6 := Lib.hid hB6; clear HO6 hB6)
  rw [rounds_succ]
  go_wp2
  go_ret
  exact ⟨A6, c6, l6, rfl, Lib.hid (by rw [HL6.out, HL5.out, HL4.out, List.nil_append]), HO6'.out, ((HX.out.grown HB4.out (Nat.le_refl _)).grown HB5.out (Nat.le_refl _)).grown HB6.out (Nat.le_refl _)⟩
end Go.Proofs.YtpjacgcaibaggaaGreatDoor


set_option linter.unusedVariables false
set_option linter.unusedSimpArgs false
namespace Go.Proofs.YtpjacgcaibaggaaGreatDoor
open Go.RowKit Go.Shelf
open Go.Proofs

structure Ky where
  (party serial : Int)
  secret : ByteArray
  (fr upto : Int)
def kyC (k : Ky) : Array Value := #[.int .i64 k.party, .int .i64 k.serial, .string k.secret, .int .i64 k.fr, .int .i64 k.upto]
def kyL (k : Ky) : List Value := [.int .i64 k.party, .int .i64 k.serial, .string k.secret, .int .i64 k.fr, .int .i64 k.upto]
def noKy : Ky := ⟨0, 0, ByteArray.empty, 0, 0⟩
theorem ky_size (v : Ky) : (kyC v).size = 5 := rfl
theorem ky_all (v : Ky) : rowSub (kyC v) 0 5 = some (kyC v) := rowSub_all _ _ rfl
theorem ky_g0 (v : Ky) : (kyC v)[0]? = some (.int .i64 v.party) := rfl
theorem ky_g1 (v : Ky) : (kyC v)[1]? = some (.int .i64 v.serial) := rfl
theorem ky_g2 (v : Ky) : (kyC v)[2]? = some (.string v.secret) := rfl
theorem ky_g3 (v : Ky) : (kyC v)[3]? = some (.int .i64 v.fr) := rfl
theorem ky_g4 (v : Ky) : (kyC v)[4]? = some (.int .i64 v.upto) := rfl
theorem ky_fits (v : Ky) : fitsRow 5 (kyC v) = true := by simp [fitsRow, kyC, Value.oneCell']
attribute [go_sem] ky_size ky_all ky_g0 ky_g1 ky_g2 ky_g3 ky_g4 ky_fits
theorem ky_ty : RowTy Tryz.prog 79 5 := ⟨by kernel_rfl, by kernel_rfl⟩
theorem ky_ld (w : World) (b o : Nat) : (rowLoad 79 5 (.pointer (some ⟨b, o, none⟩))).run Tryz.prog w = rowLoadR Tryz.prog w 79 5 b o (rowOf w b o 5) := run_rowLoad ky_ty w b o
theorem ky_st (w : World) (b o : Nat) (cells : Array Value) : (rowStore 79 5 (.pointer (some ⟨b, o, none⟩)) (.agg cells)).run Tryz.prog w = rowStoreR Tryz.prog w 79 5 b o cells (roomOf w b o 5 && fitsRow 5 cells) := run_rowStore ky_ty w b o cells
theorem ky_lv (w : World) (b o : Nat) : (loadVar 79 ⟨b, o, none⟩).run Tryz.prog w = varRes Tryz.prog w 79 b o (rowOf w b o 5) := loadVar_row ky_ty w b o
theorem ky_al (w : World) : (rowAlloc 79).run Tryz.prog w = .ok (.value (.pointer (some ⟨w.heap.size, 0, none⟩))) (w.alloc (.cells (kyC noKy) 79)) := run_rowAlloc (by kernel_rfl) w
theorem ky_xl (ρ : Operand → Value) (dst : Option Tmp) (x : Operand) (t : TypeId) (pos : String) (after : Array Edge) (guard : Option (Nat × Bool)) : execOp ρ { dst, op := .load 79 x, type := t, pos, after, guard } = rowLoad 79 5 (ρ x) := rfl
theorem ky_xs (ρ : Operand → Value) (dst : Option Tmp) (x y : Operand) (t : TypeId) (pos : String) (after : Array Edge) (guard : Option (Nat × Bool)) : execOp ρ { dst, op := .store 79 x y, type := t, pos, after, guard } = rowStore 79 5 (ρ x) (ρ y) := rfl
theorem ky_xa (ρ : Operand → Value) (dst : Option Tmp) (t : TypeId) (pos : String) (after : Array Edge) (guard : Option (Nat × Bool)) : execOp ρ { dst, op := .alloc 79, type := t, pos, after, guard } = rowAlloc 79 := rfl
attribute [go_sem ↓] ky_xl ky_xs ky_xa
attribute [go_sem] ky_ld ky_st ky_al
theorem sel_ty : RowTy Tryz.prog 46 16 := ⟨by kernel_rfl, by kernel_rfl⟩
theorem sel_ld (w : World) (b o : Nat) : (rowLoad 46 16 (.pointer (some ⟨b, o, none⟩))).run Tryz.prog w = rowLoadR Tryz.prog w 46 16 b o (rowOf w b o 16) := run_rowLoad sel_ty w b o
theorem sel_st (w : World) (b o : Nat) (cells : Array Value) : (rowStore 46 16 (.pointer (some ⟨b, o, none⟩)) (.agg cells)).run Tryz.prog w = rowStoreR Tryz.prog w 46 16 b o cells (roomOf w b o 16 && fitsRow 16 cells) := run_rowStore sel_ty w b o cells
theorem sel_lv (w : World) (b o : Nat) : (loadVar 46 ⟨b, o, none⟩).run Tryz.prog w = varRes Tryz.prog w 46 b o (rowOf w b o 16) := loadVar_row sel_ty w b o
theorem sel_al (w : World) : (rowAlloc 46).run Tryz.prog w = .ok (.value (.pointer (some ⟨w.heap.size, 0, none⟩))) (w.alloc (.cells (cells8 (zeros32 16)) 46)) := run_rowAlloc (by kernel_rfl) w
theorem sel_xl (ρ : Operand → Value) (dst : Option Tmp) (x : Operand) (t : TypeId) (pos : String) (after : Array Edge) (guard : Option (Nat × Bool)) : execOp ρ { dst, op := .load 46 x, type := t, pos, after, guard } = rowLoad 46 16 (ρ x) := rfl
theorem sel_xs (ρ : Operand → Value) (dst : Option Tmp) (x y : Operand) (t : TypeId) (pos : String) (after : Array Edge) (guard : Option (Nat × Bool)) : execOp ρ { dst, op := .store 46 x y, type := t, pos, after, guard } = rowStore 46 16 (ρ x) (ρ y) := rfl
theorem sel_xa (ρ : Operand → Value) (dst : Option Tmp) (t : TypeId) (pos : String) (after : Array Edge) (guard : Option (Nat × Bool)) : execOp ρ { dst, op := .alloc 46, type := t, pos, after, guard } = rowAlloc 46 := rfl
attribute [go_sem ↓] sel_xl sel_xs sel_xa
attribute [go_sem] sel_ld sel_st sel_al
def stInts (s : St) : List Int := [s.status, s.size, s.lo, s.hi, s.gate, s.serial]
def stParts (s : St) : List ByteArray := [s.addr, s.var, strOfNums (encInts (stInts s)), strOfNums s.body, s.tags]
def readI (ls : List Int) : Soft := ⟨fun v w => ∃ A c, v = .slice A ls.length c ∧ ReadsInt w w.heap.size A ls, fun v w w' ⟨A, c, h1, h2⟩ hx => ⟨A, c, h1, h2.on hx⟩⟩
theorem reads_fresh {α : Type} {size : Nat} {enc : α → List Value} (E : EncTy enc size) (l : List α) (W : World) (cs : Array Value) (t : TypeId) (h : cs.toList = l.flatMap enc) : Reads size enc (W.alloc (.cells cs t)) (W.alloc (.cells cs t)).heap.size (some ⟨W.heap.size, 0, none⟩) l := by
  intro _
  refine ⟨W.heap.size, 0, rfl, by simp, fun i hi j v hv => ?_⟩
  rw [World.cell?_alloc_at _ _ _ _ rfl]
  have hj : j < size := by
    have := (List.getElem?_eq_some_iff.1 hv).1
    rwa [E.len] at this
  have k := E.flat_get l i hi j hj
  rw [hv, ← h] at k
  simpa using k
theorem body_reads {w : World} {B : Nat} {s : St} (h : RowAt w B (stmC s)) (h16 : s.body.length = 16) : ReadsB w w.heap.size (some ⟨B, 4, none⟩) s.body := by
  intro _
  refine ⟨B, 4, rfl, h.lt, fun i hi j v hv => ?_⟩
  have hj : j = 0 := by
    have := (List.getElem?_eq_some_iff.1 hv).1
    simp [encB] at this
    omega
  subst hj
  simp only [encB, List.getElem?_cons_zero, Option.some.injEq] at hv
  subst hv
  have hr := h.row 4 16
  rw [if_neg (by omega), stm_body, dgC_cells h16] at hr
  have hc := rowOf_cell hr (i := i) (by omega)
  rw [cells8_get, h16, if_pos (by omega)] at hc
  rw [Nat.mul_one, Nat.add_zero, hc]
  simp [hi]
set_option maxRecDepth 100000 in
set_option maxHeartbeats 4000000 in
theorem sparts_any (s : St) (w : World) (h16 : s.body.length = 16) (hi : ∀ x ∈ stInts s, i64 x) :
    Calls Tryz.prog 89 #[.agg (stmC s)] w fun e w' => ∃ A c, e = .returned (.slice A (stParts s).length c) ∧ ReadsStr w' w'.heap.size A (stParts s) ∧ (A = none → c = 0) ∧ Ext w w' := by
  have HI := Lib.hid (fun (A : Option Addr) (c : Nat) (W : World) (hr : ReadsInt W W.heap.size A (stInts s)) => sints_ok A c (stInts s) W (by show 6 ≤ 100000; decide) hr hi)
  have H16 := Lib.hid h16
  clear hi h16
  go_enter Tryz.func89, Tryz.ntmps89
  go_wp2
  refine wp_world (fun W => Ext w W ∧ RowAt W w.heap.size (stmC s)) ⟨(by (repeat (first | with_reducible exact Ext.refl _ | with_reducible exact Ext.refl _ | with_reducible refine Ext.drew ?_ | with_reducible refine Ext.drewN ?_ _ | with_reducible refine Ext.alloc ?_ _ | with_reducible refine Ext.onto ?_ _ | (with_reducible refine Ext.setCells ?_ ?_ _ _; rotate_left; focus (first | omega | (simp; done) | (simp; omega))) | (with_reducible refine Ext.setCell ?_ ?_ _; rotate_left; focus (first | omega | (simp; done) | (simp; omega)))))), RowAt.new _ _ _⟩ ?_
  obtain ⟨B, hB⟩ : ∃ B, w.heap.size = B := ⟨_, rfl⟩
  rw [hB]
  rintro W1 ⟨x1, u1⟩
  have HX1 := Lib.hid x1
  have HU1 := Lib.hid u1
  have c0 : W1.cell? ⟨B, 0, none⟩ = some (.string s.addr) := (u1.cell 0).trans (stm_g0 s)
  have c1 : W1.cell? ⟨B, 1, none⟩ = some (.string s.var) := (u1.cell 1).trans (stm_g1 s)
  have c2 : W1.cell? ⟨B, 2, none⟩ = some (.int .i64 s.status) := (u1.cell 2).trans (stm_g2 s)
  have c3 : W1.cell? ⟨B, 3, none⟩ = some (.int .i64 s.size) := (u1.cell 3).trans (stm_g3 s)
  have c20 : W1.cell? ⟨B, 20, none⟩ = some (.string s.tags) := (u1.cell 20).trans (stm_g20 s)
  have c21 : W1.cell? ⟨B, 21, none⟩ = some (.int .i64 s.lo) := (u1.cell 21).trans (stm_g21 s)
  have c22 : W1.cell? ⟨B, 22, none⟩ = some (.int .i64 s.hi) := (u1.cell 22).trans (stm_g22 s)
  have c23 : W1.cell? ⟨B, 23, none⟩ = some (.int .i64 s.gate) := (u1.cell 23).trans (stm_g23 s)
  have c24 : W1.cell? ⟨B, 24, none⟩ = some (.int .i64 s.serial) := (u1.cell 24).trans (stm_g24 s)
  have hlu := u1.lt
  clear x1 u1
  refine wp_region_soft 25 (softsL [.eq (.pointer (some ⟨B, 0, none⟩)), .eq (.string s.addr), .eq (.pointer (some ⟨B, 1, none⟩)), .eq (.string s.var), .eq (.pointer (some ⟨B, 2, none⟩)), .eq (.int .i64 s.status), .eq (.pointer (some ⟨B, 3, none⟩)), .eq (.int .i64 s.size), .eq (.pointer (some ⟨B, 21, none⟩)), .eq (.pointer (some ⟨B, 21, none⟩)), .eq (.int .i64 s.lo), .eq (.pointer (some ⟨B, 21, none⟩)), .eq (.pointer (some ⟨B, 22, none⟩)), .eq (.int .i64 s.hi), .eq (.pointer (some ⟨B, 23, none⟩)), .eq (.int .i64 s.gate), .eq (.pointer (some ⟨B, 24, none⟩)), .eq (.int .i64 s.serial), readI (stInts s), .eq (.string (strOfNums (encInts (stInts s)))), .eq (.pointer (some ⟨B, 4, none⟩)), .eq (.slice (some ⟨B, 4, none⟩) 16 16), .eq (.string (strOfNums s.body)), .eq (.pointer (some ⟨B, 20, none⟩)), .eq (.string s.tags)]) (by kernel_rfl) (by kernel_rfl) (lt_cons ?_ (lt_cons ?_ (lt_cons ?_ (lt_cons ?_ (lt_cons ?_ (lt_cons ?_ (lt_cons ?_ (lt_cons ?_ (lt_cons ?_ (lt_cons ?_ (lt_cons ?_ (lt_cons ?_ (lt_cons ?_ (lt_cons ?_ (lt_cons ?_ (lt_cons ?_ (lt_cons ?_ (lt_cons ?_ (lt_cons ?_ (lt_cons ?_ (lt_cons ?_ (lt_cons ?_ (lt_cons ?_ (lt_cons ?_ (lt_cons ?_ lt_none))))))))))))))))))))))))) ?_
  ·
    intro o ho xs W hW hd Q' hQ; obtain rfl := Option.some.inj ho; clear ho; simp only [fillAt, dstOf, List.getElem?_cons_zero, List.getElem?_cons_succ, Option.bind_some, Act.put, List.setIfInBounds_toArray, List.set_cons_zero, List.set_cons_succ, Nat.zero_add, Nat.reduceAdd] at hQ ⊢; have HQ := Lib.hid hQ; have HD := Lib.hid hd; have HW := Lib.hid hW; have hsW := hW.size; clear hQ hd hW
    go_wp2
    exact HQ.out _ _ (Ext.refl _) rfl
  ·
    intro o ho xs W hW hd Q' hQ; obtain rfl := Option.some.inj ho; clear ho; simp only [fillAt, dstOf, List.getElem?_cons_zero, List.getElem?_cons_succ, Option.bind_some, Act.put, List.setIfInBounds_toArray, List.set_cons_zero, List.set_cons_succ, Nat.zero_add, Nat.reduceAdd] at hQ ⊢; have HQ := Lib.hid hQ; have HD := Lib.hid hd; have HW := Lib.hid hW; have hsW := hW.size; clear hQ hd hW
    have hd0 : xs 0 = (.pointer (some ⟨B, 0, none⟩)) := (HD.out 0 (of_decide_eq_true (by kernel_rfl)))
    generalize xs 0 = x0 at hd0 HQ ⊢; subst hd0
    have hc : W.cell? ⟨B, 0, none⟩ = some (.string s.addr) := (HW.out.cell (p := ⟨B, 0, none⟩) (by show B < _; omega)).trans c0
    go_wp2
    exact HQ.out _ _ (Ext.refl _) rfl
  ·
    intro o ho xs W hW hd Q' hQ; obtain rfl := Option.some.inj ho; clear ho; simp only [fillAt, dstOf, List.getElem?_cons_zero, List.getElem?_cons_succ, Option.bind_some, Act.put, List.setIfInBounds_toArray, List.set_cons_zero, List.set_cons_succ, Nat.zero_add, Nat.reduceAdd] at hQ ⊢; have HQ := Lib.hid hQ; have HD := Lib.hid hd; have HW := Lib.hid hW; have hsW := hW.size; clear hQ hd hW
    go_wp2
    exact HQ.out _ _ (Ext.refl _) rfl
  ·
    intro o ho xs W hW hd Q' hQ; obtain rfl := Option.some.inj ho; clear ho; simp only [fillAt, dstOf, List.getElem?_cons_zero, List.getElem?_cons_succ, Option.bind_some, Act.put, List.setIfInBounds_toArray, List.set_cons_zero, List.set_cons_succ, Nat.zero_add, Nat.reduceAdd] at hQ ⊢; have HQ := Lib.hid hQ; have HD := Lib.hid hd; have HW := Lib.hid hW; have hsW := hW.size; clear hQ hd hW
    have hd2 : xs 2 = (.pointer (some ⟨B, 1, none⟩)) := (HD.out 2 (of_decide_eq_true (by kernel_rfl)))
    generalize xs 2 = x2 at hd2 HQ ⊢; subst hd2
    have hc : W.cell? ⟨B, 1, none⟩ = some (.string s.var) := (HW.out.cell (p := ⟨B, 1, none⟩) (by show B < _; omega)).trans c1
    go_wp2
    exact HQ.out _ _ (Ext.refl _) rfl
  ·
    intro o ho xs W hW hd Q' hQ; obtain rfl := Option.some.inj ho; clear ho; simp only [fillAt, dstOf, List.getElem?_cons_zero, List.getElem?_cons_succ, Option.bind_some, Act.put, List.setIfInBounds_toArray, List.set_cons_zero, List.set_cons_succ, Nat.zero_add, Nat.reduceAdd] at hQ ⊢; have HQ := Lib.hid hQ; have HD := Lib.hid hd; have HW := Lib.hid hW; have hsW := hW.size; clear hQ hd hW
    go_wp2
    exact HQ.out _ _ (Ext.refl _) rfl
  ·
    intro o ho xs W hW hd Q' hQ; obtain rfl := Option.some.inj ho; clear ho; simp only [fillAt, dstOf, List.getElem?_cons_zero, List.getElem?_cons_succ, Option.bind_some, Act.put, List.setIfInBounds_toArray, List.set_cons_zero, List.set_cons_succ, Nat.zero_add, Nat.reduceAdd] at hQ ⊢; have HQ := Lib.hid hQ; have HD := Lib.hid hd; have HW := Lib.hid hW; have hsW := hW.size; clear hQ hd hW
    have hd4 : xs 4 = (.pointer (some ⟨B, 2, none⟩)) := (HD.out 4 (of_decide_eq_true (by kernel_rfl)))
    generalize xs 4 = x4 at hd4 HQ ⊢; subst hd4
    have hc : W.cell? ⟨B, 2, none⟩ = some (.int .i64 s.status) := (HW.out.cell (p := ⟨B, 2, none⟩) (by show B < _; omega)).trans c2
    go_wp2
    exact HQ.out _ _ (Ext.refl _) rfl
  ·
    intro o ho xs W hW hd Q' hQ; obtain rfl := Option.some.inj ho; clear ho; simp only [fillAt, dstOf, List.getElem?_cons_zero, List.getElem?_cons_succ, Option.bind_some, Act.put, List.setIfInBounds_toArray, List.set_cons_zero, List.set_cons_succ, Nat.zero_add, Nat.reduceAdd] at hQ ⊢; have HQ := Lib.hid hQ; have HD := Lib.hid hd; have HW := Lib.hid hW; have hsW := hW.size; clear hQ hd hW
    go_wp2
    exact HQ.out _ _ (Ext.refl _) rfl
  ·
    intro o ho xs W hW hd Q' hQ; obtain rfl := Option.some.inj ho; clear ho; simp only [fillAt, dstOf, List.getElem?_cons_zero, List.getElem?_cons_succ, Option.bind_some, Act.put, List.setIfInBounds_toArray, List.set_cons_zero, List.set_cons_succ, Nat.zero_add, Nat.reduceAdd] at hQ ⊢; have HQ := Lib.hid hQ; have HD := Lib.hid hd; have HW := Lib.hid hW; have hsW := hW.size; clear hQ hd hW
    have hd6 : xs 6 = (.pointer (some ⟨B, 3, none⟩)) := (HD.out 6 (of_decide_eq_true (by kernel_rfl)))
    generalize xs 6 = x6 at hd6 HQ ⊢; subst hd6
    have hc : W.cell? ⟨B, 3, none⟩ = some (.int .i64 s.size) := (HW.out.cell (p := ⟨B, 3, none⟩) (by show B < _; omega)).trans c3
    go_wp2
    exact HQ.out _ _ (Ext.refl _) rfl
  ·
    intro o ho xs W hW hd Q' hQ; obtain rfl := Option.some.inj ho; clear ho; simp only [fillAt, dstOf, List.getElem?_cons_zero, List.getElem?_cons_succ, Option.bind_some, Act.put, List.setIfInBounds_toArray, List.set_cons_zero, List.set_cons_succ, Nat.zero_add, Nat.reduceAdd] at hQ ⊢; have HQ := Lib.hid hQ; have HD := Lib.hid hd; have HW := Lib.hid hW; have hsW := hW.size; clear hQ hd hW
    go_wp2
    exact HQ.out _ _ (Ext.refl _) rfl
  ·
    intro o ho xs W hW hd Q' hQ; obtain rfl := Option.some.inj ho; clear ho; simp only [fillAt, dstOf, List.getElem?_cons_zero, List.getElem?_cons_succ, Option.bind_some, Act.put, List.setIfInBounds_toArray, List.set_cons_zero, List.set_cons_succ, Nat.zero_add, Nat.reduceAdd] at hQ ⊢; have HQ := Lib.hid hQ; have HD := Lib.hid hd; have HW := Lib.hid hW; have hsW := hW.size; clear hQ hd hW
    have hd8 : xs 8 = (.pointer (some ⟨B, 21, none⟩)) := (HD.out 8 (of_decide_eq_true (by kernel_rfl)))
    generalize xs 8 = x8 at hd8 HQ ⊢; subst hd8
    go_wp2
    exact HQ.out _ _ (Ext.refl _) rfl
  ·
    intro o ho xs W hW hd Q' hQ; obtain rfl := Option.some.inj ho; clear ho; simp only [fillAt, dstOf, List.getElem?_cons_zero, List.getElem?_cons_succ, Option.bind_some, Act.put, List.setIfInBounds_toArray, List.set_cons_zero, List.set_cons_succ, Nat.zero_add, Nat.reduceAdd] at hQ ⊢; have HQ := Lib.hid hQ; have HD := Lib.hid hd; have HW := Lib.hid hW; have hsW := hW.size; clear hQ hd hW
    have hd9 : xs 9 = (.pointer (some ⟨B, 21, none⟩)) := (HD.out 9 (of_decide_eq_true (by kernel_rfl)))
    generalize xs 9 = x9 at hd9 HQ ⊢; subst hd9
    have hc : W.cell? ⟨B, 21, none⟩ = some (.int .i64 s.lo) := (HW.out.cell (p := ⟨B, 21, none⟩) (by show B < _; omega)).trans c21
    go_wp2
    exact HQ.out _ _ (Ext.refl _) rfl
  ·
    intro o ho xs W hW hd Q' hQ; obtain rfl := Option.some.inj ho; clear ho; simp only [fillAt, dstOf, List.getElem?_cons_zero, List.getElem?_cons_succ, Option.bind_some, Act.put, List.setIfInBounds_toArray, List.set_cons_zero, List.set_cons_succ, Nat.zero_add, Nat.reduceAdd] at hQ ⊢; have HQ := Lib.hid hQ; have HD := Lib.hid hd; have HW := Lib.hid hW; have hsW := hW.size; clear hQ hd hW
    go_wp2
    exact HQ.out _ _ (Ext.refl _) rfl
  ·
    intro o ho xs W hW hd Q' hQ; obtain rfl := Option.some.inj ho; clear ho; simp only [fillAt, dstOf, List.getElem?_cons_zero, List.getElem?_cons_succ, Option.bind_some, Act.put, List.setIfInBounds_toArray, List.set_cons_zero, List.set_cons_succ, Nat.zero_add, Nat.reduceAdd] at hQ ⊢; have HQ := Lib.hid hQ; have HD := Lib.hid hd; have HW := Lib.hid hW; have hsW := hW.size; clear hQ hd hW
    have hd11 : xs 11 = (.pointer (some ⟨B, 21, none⟩)) := (HD.out 11 (of_decide_eq_true (by kernel_rfl)))
    generalize xs 11 = x11 at hd11 HQ ⊢; subst hd11
    go_wp2
    exact HQ.out _ _ (Ext.refl _) rfl
  ·
    intro o ho xs W hW hd Q' hQ; obtain rfl := Option.some.inj ho; clear ho; simp only [fillAt, dstOf, List.getElem?_cons_zero, List.getElem?_cons_succ, Option.bind_some, Act.put, List.setIfInBounds_toArray, List.set_cons_zero, List.set_cons_succ, Nat.zero_add, Nat.reduceAdd] at hQ ⊢; have HQ := Lib.hid hQ; have HD := Lib.hid hd; have HW := Lib.hid hW; have hsW := hW.size; clear hQ hd hW
    have hd12 : xs 12 = (.pointer (some ⟨B, 22, none⟩)) := (HD.out 12 (of_decide_eq_true (by kernel_rfl)))
    generalize xs 12 = x12 at hd12 HQ ⊢; subst hd12
    have hc : W.cell? ⟨B, 22, none⟩ = some (.int .i64 s.hi) := (HW.out.cell (p := ⟨B, 22, none⟩) (by show B < _; omega)).trans c22
    go_wp2
    exact HQ.out _ _ (Ext.refl _) rfl
  ·
    intro o ho xs W hW hd Q' hQ; obtain rfl := Option.some.inj ho; clear ho; simp only [fillAt, dstOf, List.getElem?_cons_zero, List.getElem?_cons_succ, Option.bind_some, Act.put, List.setIfInBounds_toArray, List.set_cons_zero, List.set_cons_succ, Nat.zero_add, Nat.reduceAdd] at hQ ⊢; have HQ := Lib.hid hQ; have HD := Lib.hid hd; have HW := Lib.hid hW; have hsW := hW.size; clear hQ hd hW
    go_wp2
    exact HQ.out _ _ (Ext.refl _) rfl
  ·
    intro o ho xs W hW hd Q' hQ; obtain rfl := Option.some.inj ho; clear ho; simp only [fillAt, dstOf, List.getElem?_cons_zero, List.getElem?_cons_succ, Option.bind_some, Act.put, List.setIfInBounds_toArray, List.set_cons_zero, List.set_cons_succ, Nat.zero_add, Nat.reduceAdd] at hQ ⊢; have HQ := Lib.hid hQ; have HD := Lib.hid hd; have HW := Lib.hid hW; have hsW := hW.size; clear hQ hd hW
    have hd14 : xs 14 = (.pointer (some ⟨B, 23, none⟩)) := (HD.out 14 (of_decide_eq_true (by kernel_rfl)))
    generalize xs 14 = x14 at hd14 HQ ⊢; subst hd14
    have hc : W.cell? ⟨B, 23, none⟩ = some (.int .i64 s.gate) := (HW.out.cell (p := ⟨B, 23, none⟩) (by show B < _; omega)).trans c23
    go_wp2
    exact HQ.out _ _ (Ext.refl _) rfl
  ·
    intro o ho xs W hW hd Q' hQ; obtain rfl := Option.some.inj ho; clear ho; simp only [fillAt, dstOf, List.getElem?_cons_zero, List.getElem?_cons_succ, Option.bind_some, Act.put, List.setIfInBounds_toArray, List.set_cons_zero, List.set_cons_succ, Nat.zero_add, Nat.reduceAdd] at hQ ⊢; have HQ := Lib.hid hQ; have HD := Lib.hid hd; have HW := Lib.hid hW; have hsW := hW.size; clear hQ hd hW
    go_wp2
    exact HQ.out _ _ (Ext.refl _) rfl
  ·
    intro o ho xs W hW hd Q' hQ; obtain rfl := Option.some.inj ho; clear ho; simp only [fillAt, dstOf, List.getElem?_cons_zero, List.getElem?_cons_succ, Option.bind_some, Act.put, List.setIfInBounds_toArray, List.set_cons_zero, List.set_cons_succ, Nat.zero_add, Nat.reduceAdd] at hQ ⊢; have HQ := Lib.hid hQ; have HD := Lib.hid hd; have HW := Lib.hid hW; have hsW := hW.size; clear hQ hd hW
    have hd16 : xs 16 = (.pointer (some ⟨B, 24, none⟩)) := (HD.out 16 (of_decide_eq_true (by kernel_rfl)))
    generalize xs 16 = x16 at hd16 HQ ⊢; subst hd16
    have hc : W.cell? ⟨B, 24, none⟩ = some (.int .i64 s.serial) := (HW.out.cell (p := ⟨B, 24, none⟩) (by show B < _; omega)).trans c24
    go_wp2
    exact HQ.out _ _ (Ext.refl _) rfl
  ·
    intro o ho xs W hW hd Q' hQ; obtain rfl := Option.some.inj ho; clear ho; simp only [fillAt, dstOf, List.getElem?_cons_zero, List.getElem?_cons_succ, Option.bind_some, Act.put, List.setIfInBounds_toArray, List.set_cons_zero, List.set_cons_succ, Nat.zero_add, Nat.reduceAdd] at hQ ⊢; have HQ := Lib.hid hQ; have HD := Lib.hid hd; have HW := Lib.hid hW; have hsW := hW.size; clear hQ hd hW
    have hd5 : xs 5 = .int .i64 s.status := (HD.out 5 (of_decide_eq_true (by kernel_rfl)))
    generalize xs 5 = x5 at hd5 HQ ⊢; subst hd5
    have hd7 : xs 7 = .int .i64 s.size := (HD.out 7 (of_decide_eq_true (by kernel_rfl)))
    generalize xs 7 = x7 at hd7 HQ ⊢; subst hd7
    have hd10 : xs 10 = .int .i64 s.lo := (HD.out 10 (of_decide_eq_true (by kernel_rfl)))
    generalize xs 10 = x10 at hd10 HQ ⊢; subst hd10
    have hd13 : xs 13 = .int .i64 s.hi := (HD.out 13 (of_decide_eq_true (by kernel_rfl)))
    generalize xs 13 = x13 at hd13 HQ ⊢; subst hd13
    have hd15 : xs 15 = .int .i64 s.gate := (HD.out 15 (of_decide_eq_true (by kernel_rfl)))
    generalize xs 15 = x15 at hd15 HQ ⊢; subst hd15
    have hd17 : xs 17 = .int .i64 s.serial := (HD.out 17 (of_decide_eq_true (by kernel_rfl)))
    generalize xs 17 = x17 at hd17 HQ ⊢; subst hd17
    go_wp2
    exact HQ.out _ _ ((Ext.refl _).alloc _) ⟨_, _, rfl, reads_fresh zE (stInts s) W _ _ rfl⟩
  ·
    intro o ho xs W hW hd Q' hQ; obtain rfl := Option.some.inj ho; clear ho; simp only [fillAt, dstOf, List.getElem?_cons_zero, List.getElem?_cons_succ, Option.bind_some, Act.put, List.setIfInBounds_toArray, List.set_cons_zero, List.set_cons_succ, Nat.zero_add, Nat.reduceAdd] at hQ ⊢; have HQ := Lib.hid hQ; have HD := Lib.hid hd; have HW := Lib.hid hW; have hsW := hW.size; clear hQ hd hW
    obtain ⟨A9, c9, h18, hr18⟩ : (readI (stInts s)).S (xs 18) W := (HD.out 18 (of_decide_eq_true (by kernel_rfl)))
    generalize xs 18 = x18 at h18 HQ ⊢; subst h18
    go_wp2_with (go_at_call 119; refine (HI.out A9 c9 _ hr18).mono ?_; rintro e w1 ⟨rfl, hx⟩)
    exact HQ.out _ _ hx rfl
  ·
    intro o ho xs W hW hd Q' hQ; obtain rfl := Option.some.inj ho; clear ho; simp only [fillAt, dstOf, List.getElem?_cons_zero, List.getElem?_cons_succ, Option.bind_some, Act.put, List.setIfInBounds_toArray, List.set_cons_zero, List.set_cons_succ, Nat.zero_add, Nat.reduceAdd] at hQ ⊢; have HQ := Lib.hid hQ; have HD := Lib.hid hd; have HW := Lib.hid hW; have hsW := hW.size; clear hQ hd hW
    go_wp2
    exact HQ.out _ _ (Ext.refl _) rfl
  ·
    intro o ho xs W hW hd Q' hQ; obtain rfl := Option.some.inj ho; clear ho; simp only [fillAt, dstOf, List.getElem?_cons_zero, List.getElem?_cons_succ, Option.bind_some, Act.put, List.setIfInBounds_toArray, List.set_cons_zero, List.set_cons_succ, Nat.zero_add, Nat.reduceAdd] at hQ ⊢; have HQ := Lib.hid hQ; have HD := Lib.hid hd; have HW := Lib.hid hW; have hsW := hW.size; clear hQ hd hW
    have hd20 : xs 20 = (.pointer (some ⟨B, 4, none⟩)) := (HD.out 20 (of_decide_eq_true (by kernel_rfl)))
    generalize xs 20 = x20 at hd20 HQ ⊢; subst hd20
    go_wp2
    exact HQ.out _ _ (Ext.refl _) rfl
  ·
    intro o ho xs W hW hd Q' hQ; obtain rfl := Option.some.inj ho; clear ho; simp only [fillAt, dstOf, List.getElem?_cons_zero, List.getElem?_cons_succ, Option.bind_some, Act.put, List.setIfInBounds_toArray, List.set_cons_zero, List.set_cons_succ, Nat.zero_add, Nat.reduceAdd] at hQ ⊢; have HQ := Lib.hid hQ; have HD := Lib.hid hd; have HW := Lib.hid hW; have hsW := hW.size; clear hQ hd hW
    have hd21 : xs 21 = .slice (some ⟨B, 4, none⟩) 16 16 := (HD.out 21 (of_decide_eq_true (by kernel_rfl)))
    generalize xs 21 = x21 at hd21 HQ ⊢; subst hd21
    have hcv := conv_bytes 16 (body_reads (HU1.out.ext HW.out) H16.out) (by rw [H16.out]; omega)
    rw [H16.out] at hcv
    go_wp2
    exact HQ.out _ _ (Ext.refl _) rfl
  ·
    intro o ho xs W hW hd Q' hQ; obtain rfl := Option.some.inj ho; clear ho; simp only [fillAt, dstOf, List.getElem?_cons_zero, List.getElem?_cons_succ, Option.bind_some, Act.put, List.setIfInBounds_toArray, List.set_cons_zero, List.set_cons_succ, Nat.zero_add, Nat.reduceAdd] at hQ ⊢; have HQ := Lib.hid hQ; have HD := Lib.hid hd; have HW := Lib.hid hW; have hsW := hW.size; clear hQ hd hW
    go_wp2
    exact HQ.out _ _ (Ext.refl _) rfl
  ·
    intro o ho xs W hW hd Q' hQ; obtain rfl := Option.some.inj ho; clear ho; simp only [fillAt, dstOf, List.getElem?_cons_zero, List.getElem?_cons_succ, Option.bind_some, Act.put, List.setIfInBounds_toArray, List.set_cons_zero, List.set_cons_succ, Nat.zero_add, Nat.reduceAdd] at hQ ⊢; have HQ := Lib.hid hQ; have HD := Lib.hid hd; have HW := Lib.hid hW; have hsW := hW.size; clear hQ hd hW
    have hd23 : xs 23 = (.pointer (some ⟨B, 20, none⟩)) := (HD.out 23 (of_decide_eq_true (by kernel_rfl)))
    generalize xs 23 = x23 at hd23 HQ ⊢; subst hd23
    have hc : W.cell? ⟨B, 20, none⟩ = some (.string s.tags) := (HW.out.cell (p := ⟨B, 20, none⟩) (by show B < _; omega)).trans c20
    go_wp2
    exact HQ.out _ _ (Ext.refl _) rfl
  intro xs W3 hW hS
  have h1 : xs 1 = .string s.addr := hS 1 (by omega)
  have h3 : xs 3 = .string s.var := hS 3 (by omega)
  have h19 : xs 19 = .string (strOfNums (encInts (stInts s))) := hS 19 (by omega)
  have h22 : xs 22 = .string (strOfNums s.body) := hS 22 (by omega)
  have h24 : xs 24 = .string s.tags := hS 24 (by omega)
  simp only [fillAt, dstOf, List.getElem?_cons_zero, List.getElem?_cons_succ, Option.bind_some, Act.put, List.setIfInBounds_toArray, List.set_cons_zero, List.set_cons_succ, Nat.zero_add, Nat.reduceAdd, List.drop_succ_cons, List.drop_zero, List.drop_nil]
  generalize xs 1 = x1 at *; subst h1
  generalize xs 3 = x3 at *; subst h3
  generalize xs 19 = x19 at *; subst h19
  generalize xs 22 = x22 at *; subst h22
  generalize xs 24 = x24 at *; subst h24
  have HX3 := Lib.hid (HX1.out.trans hW)
  clear hS hW c0 c1 c2 c3 c20 c21 c22 c23 c24
  go_wp2
  go_ret
  exact ⟨_, _, rfl, reads_fresh sE (stParts s) W3 _ _ rfl, fun h => (by cases h), (by (repeat (first | with_reducible exact HX3.out | with_reducible exact Ext.refl _ | with_reducible refine Ext.drew ?_ | with_reducible refine Ext.drewN ?_ _ | with_reducible refine Ext.alloc ?_ _ | with_reducible refine Ext.onto ?_ _ | (with_reducible refine Ext.setCells ?_ ?_ _ _; rotate_left; focus (first | omega | (simp; done) | (simp; omega))) | (with_reducible refine Ext.setCell ?_ ?_ _; rotate_left; focus (first | omega | (simp; done) | (simp; omega))))))⟩
end Go.Proofs.YtpjacgcaibaggaaGreatDoor


set_option linter.unusedVariables false
set_option linter.unusedSimpArgs false
namespace Go.Proofs.YtpjacgcaibaggaaGreatDoor
open Go.RowKit Go.Shelf
open Go.Proofs

/-- Below base all blocks but b are as they were. -/
structure Kept (base b : Nat) (w w' : World) : Prop where
  os : w'.os = w.os
  tape : w'.tape = w.tape
  output : w'.output = w.output
  size : w.heap.size ≤ w'.heap.size
  block : ∀ k, k < base → k ≠ b → w'.heap[k]? = w.heap[k]?
theorem Kept.refl (base b : Nat) (w : World) : Kept base b w w := ⟨rfl, rfl, rfl, Nat.le_refl _, fun _ _ _ => rfl⟩
theorem Kept.trans {base b : Nat} {x y z : World} (h : Kept base b x y) (k : Kept base b y z) : Kept base b x z :=
  ⟨k.os.trans h.os, k.tape.trans h.tape, k.output.trans h.output, Nat.le_trans h.size k.size, fun i hi hn => (k.block i hi hn).trans (h.block i hi hn)⟩
theorem Kept.of {base b : Nat} {x y : World} (h : Below base x y) : Kept base b x y := ⟨h.os, h.tape, h.output, h.size, fun k hk _ => h.block k hk⟩
theorem Kept.below {base b B : Nat} {x y : World} (h : Kept base b x y) (h1 : B ≤ base) (h2 : B ≤ b) : Below B x y := ⟨h.os, h.tape, h.output, h.size, fun k hk => h.block k (by omega) (by omega)⟩
theorem Kept.row {base b n : Nat} {x y : World} {cs : Array Value} (h : Kept base b x y) (hr : RowAt x n cs) (h1 : n < base) (h2 : n ≠ b) : RowAt y n cs := by
  obtain ⟨t, ht⟩ := hr
  exact ⟨t, (h.block n h1 h2).trans ht⟩
theorem Kept.set {base b : Nat} (w : World) (o : Nat) (v : Value) : Kept base b w (w.setCell ⟨b, o, none⟩ v) :=
  ⟨rfl, rfl, rfl, by simp [World.setCell], fun k _ hn => Below.heap_setCell _ _ _ _ hn⟩
abbrev OwnsGiv (base : Nat) (w : World) (A : Option Addr) (c : Nat) (l : List Giv) : Prop := Owns 92 22 gvL base w A c l
def readGiv (ls : List Giv) : Soft := ⟨fun v w => ∃ A c, v = .slice A ls.length c ∧ Reads 22 gvL w w.heap.size A ls ∧ (A = none → c = 0), fun v w w' ⟨A, c, h1, h2, h3⟩ hx => ⟨A, c, h1, h2.on hx, h3⟩⟩
def Gave (base b : Nat) (l : List Giv) (w w' : World) : Prop := ∃ A c, RowAt w' b #[.slice A l.length c] ∧ OwnsGiv base w' A c l ∧ Kept base b w w'
set_option maxRecDepth 100000 in
set_option maxHeartbeats 2000000 in
theorem serve2_any (B0 b12 b4 b7 base : Nat) (Av : Option Addr) (cv : Nat) (lv : List Ver) (known : List Int) (A : Option Addr) (c : Nat) (out : List Giv) (t : Int) (w : World)
    (hl : lv.length ≤ 100000) (hr : ReadsVer w B0 Av lv) (h4 : RowAt w b4 #[.slice Av lv.length cv]) (h7 : RowAt w b7 (dgC known)) (h12 : RowAt w b12 #[.slice A out.length c]) (ho : OwnsGiv base w A c out)
    (l4 : b4 < base) (l7 : b7 < base) (l12 : b12 < base) (hb : base ≤ w.heap.size) (hB0 : B0 ≤ b12) (hol : out.length ≤ 8) (h16 : known.length = 16) (hby : Byt known) (hv : VerIn (atN lv t)) (hk : Konst 0 w) :
    Calls Tryz.prog 76 #[.int .i64 t, .pointer (some ⟨b12, 0, none⟩), .pointer (some ⟨b4, 0, none⟩), .pointer (some ⟨b7, 0, none⟩)] w fun e w' => e = .returned (.tuple #[]) ∧ Gave base b12 (giveN lv known out t) w w' := by
  have HR := Lib.hid hr
  have HO := Lib.hid ho
  have H12 := Lib.hid h12
  have HAn := Lib.hid (fun (W : World) (hx : Ext w W) => oanswer_any Av cv lv t known W hl ((hr.ext hx (by omega)).up (by have := hx.size; omega)) h16 hby hv (hk.ext hx))
  have c12 : w.cell? ⟨b12, 0, none⟩ = some (.slice A out.length c) := h12.cell 0
  have f12 := h12.free 0
  have c4 : w.cell? ⟨b4, 0, none⟩ = some (.slice Av lv.length cv) := h4.cell 0
  have k7 : rowOf w b7 0 16 = some (dgC known) := h7.all rfl (by omega)
  obtain ⟨L, hL⟩ : ∃ L, giveN lv known out t = L := ⟨_, rfl⟩
  have HL : Hid (L = if t ≤ 1099511627776 then out ++ [(t, ansOf (atN lv t) known)] else out) := Lib.hid (by rw [← hL]; rfl)
  rw [hL]
  clear hr ho h12 h16 hby hv hk h4 h7 hL
  generalize ansOf (atN lv t) known = an at *
  by_cases ht : t ≤ 1099511627776
  · go_enter Tryz.func76, Tryz.ntmps76
    have HL' : Hid (L = out ++ [(t, an)]) := Lib.hid (HL.out.trans (if_pos ht))
    clear HL
    go_wp2
    refine wp_region_soft 8 (softsL [.eq (.slice A out.length c), .eq (.int .i64 t), .eq (.slice Av lv.length cv), .eq (.int .i64 t), .eq (.agg (dgC known)), .eq (.agg (anC an)), .eq (.agg (gvC (t, an))), readGiv [(t, an)]]) (by kernel_rfl) (by kernel_rfl) (lt_cons ?_ (lt_cons ?_ (lt_cons ?_ (lt_cons ?_ (lt_cons ?_ (lt_cons ?_ (lt_cons ?_ (lt_cons ?_ lt_none)))))))) ?_
    ·
      intro o ho xs W hW hd Q' hQ; obtain rfl := Option.some.inj ho; clear ho; simp only [fillAt, dstOf, List.getElem?_cons_zero, List.getElem?_cons_succ, Option.bind_some, Act.put, List.setIfInBounds_toArray, List.set_cons_zero, List.set_cons_succ, Nat.zero_add, Nat.reduceAdd] at hQ ⊢; have HQ := Lib.hid hQ; have HD := Lib.hid hd; have HW := Lib.hid hW; have hsW := hW.size; clear hQ hd hW
      have hc : W.cell? ⟨b12, 0, none⟩ = some (.slice A out.length c) := (HW.out.cell (p := ⟨b12, 0, none⟩) (by show b12 < _; omega)).trans c12
      go_wp2
      exact HQ.out _ _ (Ext.refl _) rfl
    ·
      intro o ho xs W hW hd Q' hQ; obtain rfl := Option.some.inj ho; clear ho; simp only [fillAt, dstOf, List.getElem?_cons_zero, List.getElem?_cons_succ, Option.bind_some, Act.put, List.setIfInBounds_toArray, List.set_cons_zero, List.set_cons_succ, Nat.zero_add, Nat.reduceAdd] at hQ ⊢; have HQ := Lib.hid hQ; have HD := Lib.hid hd; have HW := Lib.hid hW; have hsW := hW.size; clear hQ hd hW
      go_wp2
      exact HQ.out _ _ (Ext.refl _) rfl
    ·
      intro o ho xs W hW hd Q' hQ; obtain rfl := Option.some.inj ho; clear ho; simp only [fillAt, dstOf, List.getElem?_cons_zero, List.getElem?_cons_succ, Option.bind_some, Act.put, List.setIfInBounds_toArray, List.set_cons_zero, List.set_cons_succ, Nat.zero_add, Nat.reduceAdd] at hQ ⊢; have HQ := Lib.hid hQ; have HD := Lib.hid hd; have HW := Lib.hid hW; have hsW := hW.size; clear hQ hd hW
      have hc : W.cell? ⟨b4, 0, none⟩ = some (.slice Av lv.length cv) := (HW.out.cell (p := ⟨b4, 0, none⟩) (by show b4 < _; omega)).trans c4
      go_wp2
      exact HQ.out _ _ (Ext.refl _) rfl
    ·
      intro o ho xs W hW hd Q' hQ; obtain rfl := Option.some.inj ho; clear ho; simp only [fillAt, dstOf, List.getElem?_cons_zero, List.getElem?_cons_succ, Option.bind_some, Act.put, List.setIfInBounds_toArray, List.set_cons_zero, List.set_cons_succ, Nat.zero_add, Nat.reduceAdd] at hQ ⊢; have HQ := Lib.hid hQ; have HD := Lib.hid hd; have HW := Lib.hid hW; have hsW := hW.size; clear hQ hd hW
      go_wp2
      exact HQ.out _ _ (Ext.refl _) rfl
    ·
      intro o ho xs W hW hd Q' hQ; obtain rfl := Option.some.inj ho; clear ho; simp only [fillAt, dstOf, List.getElem?_cons_zero, List.getElem?_cons_succ, Option.bind_some, Act.put, List.setIfInBounds_toArray, List.set_cons_zero, List.set_cons_succ, Nat.zero_add, Nat.reduceAdd] at hQ ⊢; have HQ := Lib.hid hQ; have HD := Lib.hid hd; have HW := Lib.hid hW; have hsW := hW.size; clear hQ hd hW
      have hc := (row_extW HW.out (b := b7) (by omega) 0 16).trans k7
      go_wp2
      exact HQ.out _ _ (Ext.refl _) rfl
    ·
      intro o ho xs W hW hd Q' hQ; obtain rfl := Option.some.inj ho; clear ho; simp only [fillAt, dstOf, List.getElem?_cons_zero, List.getElem?_cons_succ, Option.bind_some, Act.put, List.setIfInBounds_toArray, List.set_cons_zero, List.set_cons_succ, Nat.zero_add, Nat.reduceAdd] at hQ ⊢; have HQ := Lib.hid hQ; have HD := Lib.hid hd; have HW := Lib.hid hW; have hsW := hW.size; clear hQ hd hW
      have hd2 : xs 2 = .slice Av lv.length cv := (HD.out 2 (of_decide_eq_true (by kernel_rfl)))
      generalize xs 2 = x2 at hd2 HQ ⊢; subst hd2
      have hd3 : xs 3 = .int .i64 t := (HD.out 3 (of_decide_eq_true (by kernel_rfl)))
      generalize xs 3 = x3 at hd3 HQ ⊢; subst hd3
      have hd4 : xs 4 = .agg (dgC known) := (HD.out 4 (of_decide_eq_true (by kernel_rfl)))
      generalize xs 4 = x4 at hd4 HQ ⊢; subst hd4
      go_wp2_with (go_at_call 19; refine (HAn.out _ HW.out).mono ?_; rintro e w1 ⟨rfl, hx⟩)
      exact HQ.out _ _ hx rfl
    ·
      intro o ho xs W hW hd Q' hQ; obtain rfl := Option.some.inj ho; clear ho; simp only [fillAt, dstOf, List.getElem?_cons_zero, List.getElem?_cons_succ, Option.bind_some, Act.put, List.setIfInBounds_toArray, List.set_cons_zero, List.set_cons_succ, Nat.zero_add, Nat.reduceAdd] at hQ ⊢; have HQ := Lib.hid hQ; have HD := Lib.hid hd; have HW := Lib.hid hW; have hsW := hW.size; clear hQ hd hW
      have hd1 : xs 1 = .int .i64 t := (HD.out 1 (of_decide_eq_true (by kernel_rfl)))
      generalize xs 1 = x1 at hd1 HQ ⊢; subst hd1
      have hd5 : xs 5 = .agg (anC an) := (HD.out 5 (of_decide_eq_true (by kernel_rfl)))
      generalize xs 5 = x5 at hd5 HQ ⊢; subst hd5
      go_wp2
      exact HQ.out _ _ (Ext.refl _) rfl
    ·
      intro o ho xs W hW hd Q' hQ; obtain rfl := Option.some.inj ho; clear ho; simp only [fillAt, dstOf, List.getElem?_cons_zero, List.getElem?_cons_succ, Option.bind_some, Act.put, List.setIfInBounds_toArray, List.set_cons_zero, List.set_cons_succ, Nat.zero_add, Nat.reduceAdd] at hQ ⊢; have HQ := Lib.hid hQ; have HD := Lib.hid hd; have HW := Lib.hid hW; have hsW := hW.size; clear hQ hd hW
      have hd6 : xs 6 = .agg (gvC (t, an)) := (HD.out 6 (of_decide_eq_true (by kernel_rfl)))
      generalize xs 6 = x6 at hd6 HQ ⊢; subst hd6
      go_wp2
      exact HQ.out _ _ ((Ext.refl _).alloc _) ⟨_, _, rfl, reads_fresh gvE [(t, an)] W _ _ (by simp [gvL]), fun h => by cases h⟩
    intro xs W3 hW hS
    have h0 : xs 0 = .slice A out.length c := hS 0 (by omega)
    obtain ⟨A7, c7, h7, hr7, hz7⟩ : (readGiv [(t, an)]).S (xs 7) W3 := hS 7 (by omega)
    simp only [fillAt, dstOf, List.getElem?_cons_zero, List.getElem?_cons_succ, Option.bind_some, Act.put, List.setIfInBounds_toArray, List.set_cons_zero, List.set_cons_succ, Nat.zero_add, Nat.reduceAdd, List.drop_succ_cons, List.drop_zero, List.drop_nil]
    generalize xs 0 = x0 at *; subst h0
    generalize xs 7 = x7 at *; subst h7
    have HW3 := Lib.hid hW
    have HR7 := Lib.hid hr7
    have HO3 := Lib.hid (HO.out.ext hW)
    have hsz3 := hW.size
    have c12' : W3.cell? ⟨b12, 0, none⟩ = some (.slice A out.length c) := (hW.cell (p := ⟨b12, 0, none⟩) (by show b12 < _; omega)).trans c12
    have H12' := Lib.hid (H12.out.ext hW)
    clear hS hW hr7
    go_wp2_with (at_builtin; refine app_reads gvT gvE rfl _ _ rfl base A c out rfl HO3.out _ A7 c7 [(t, an)] rfl HR7.out hz7 (by simp; omega) (by simp; omega) (by omega) ?_; intro A5 c5 l5 w5 HL5 HO5 hB5 hl1 hl2 _; have HO5' := Lib.hid HO5; have HB5 := Lib.hid hB5; have hsz5 := hB5.size; have c5' := (hB5.cell (p := ⟨b12, 0, none⟩) l12).trans c12'; have H5 := Lib.hid (RowAt.below H12'.out hB5 l12); have f5 := H5.out.free 0; clear HO5 hB5)
    refine bodyPost_end (v := .tuple #[]) (by simp [results, Tryz.results76, go_sem]) rfl ⟨rfl, ?_⟩
    rw [HL'.out, ← HL5.out]
    exact ⟨A5, c5, H5.out.set 0 _, HO5'.out.other (by show b12 < base; omega) _, ((Kept.of (HW3.out.mono hb)).trans (Kept.of HB5.out)).trans (Kept.set _ _ _)⟩
  · have HL' : Hid (L = out) := Lib.hid (HL.out.trans (if_neg ht))
    clear HL
    go_enter Tryz.func76, Tryz.ntmps76
    go_wp2
    refine bodyPost_end (v := .tuple #[]) (by simp [results, Tryz.results76, go_sem]) rfl ⟨rfl, ?_⟩
    rw [HL'.out]
    exact ⟨A, c, H12.out, HO.out, Kept.refl _ _ _⟩
end Go.Proofs.YtpjacgcaibaggaaGreatDoor


set_option linter.unusedVariables false
set_option linter.unusedSimpArgs false
namespace Go.Proofs.YtpjacgcaibaggaaGreatDoor
open Go.RowKit Go.Shelf
open Go.Proofs

/-- What Serve's closures stand on. -/
structure SEnv (B0 b12 b4 b7 b13 b6 b10 base : Nat) (Av : Option Addr) (cv : Nat) (lv : List Ver) (known : List Int) (t : Int) (x : Fau) (w : World) : Prop where
  r : ReadsVer w B0 Av lv
  h4 : RowAt w b4 #[.slice Av lv.length cv]
  h7 : RowAt w b7 (dgC known)
  h13 : RowAt w b13 #[.func (.func 76) #[] #[.pointer (some ⟨b12, 0, none⟩), .pointer (some ⟨b4, 0, none⟩), .pointer (some ⟨b7, 0, none⟩)]]
  h6 : RowAt w b6 #[.int .i64 t]
  h10 : RowAt w b10 (fauC x)
  k : Konst 0 w
  lb : base ≤ w.heap.size
  l12 : b12 < base
  l4 : b4 < base ∧ b4 ≠ b12
  l7 : b7 < base ∧ b7 ≠ b12
  l13 : b13 < base ∧ b13 ≠ b12
  l6 : b6 < base ∧ b6 ≠ b12
  l10 : b10 < base ∧ b10 ≠ b12
  l0 : 0 ≠ b12
  lB : B0 ≤ b12
theorem SEnv.kept {B0 b12 b4 b7 b13 b6 b10 base : Nat} {Av : Option Addr} {cv : Nat} {lv : List Ver} {known : List Int} {t : Int} {x : Fau} {w w' : World} (h : SEnv B0 b12 b4 b7 b13 b6 b10 base Av cv lv known t x w) (hk : Kept base b12 w w') : SEnv B0 b12 b4 b7 b13 b6 b10 base Av cv lv known t x w' where
  r := h.r.below (hk.below (by have := h.l12; have := h.lB; omega) h.lB)
  h4 := hk.row h.h4 h.l4.1 h.l4.2
  h7 := hk.row h.h7 h.l7.1 h.l7.2
  h13 := hk.row h.h13 h.l13.1 h.l13.2
  h6 := hk.row h.h6 h.l6.1 h.l6.2
  h10 := hk.row h.h10 h.l10.1 h.l10.2
  k := hk.row h.k (by have := h.l12; have := h.l0; omega) h.l0
  lb := Nat.le_trans h.lb hk.size
  l12 := h.l12
  l4 := h.l4
  l7 := h.l7
  l13 := h.l13
  l6 := h.l6
  l10 := h.l10
  l0 := h.l0
  lB := h.lB
def Out12 (base b12 : Nat) (out : List Giv) (w : World) : Prop := ∃ A c, RowAt w b12 #[.slice A out.length c] ∧ OwnsGiv base w A c out
theorem Gave.out {base b : Nat} {l : List Giv} {w w' : World} (h : Gave base b l w w') : Out12 base b l w' ∧ Kept base b w w' := by
  obtain ⟨A, c, h1, h2, h3⟩ := h
  exact ⟨⟨A, c, h1, h2⟩, h3⟩
theorem gives_any {B0 b12 b4 b7 b13 b6 b10 base : Nat} {Av : Option Addr} {cv : Nat} {lv : List Ver} {known : List Int} {t : Int} {x : Fau} {w : World} (h : SEnv B0 b12 b4 b7 b13 b6 b10 base Av cv lv known t x w) (out : List Giv) (u : Int) (ho : Out12 base b12 out w) (hl : lv.length ≤ 100000) (hol : out.length ≤ 8) (h16 : known.length = 16) (hby : Byt known) (hv : ∀ t, VerIn (atN lv t)) :
    Calls Tryz.prog 76 #[.int .i64 u, .pointer (some ⟨b12, 0, none⟩), .pointer (some ⟨b4, 0, none⟩), .pointer (some ⟨b7, 0, none⟩)] w fun e w' => e = .returned (.tuple #[]) ∧ Out12 base b12 (giveN lv known out u) w' ∧ Kept base b12 w w' := by
  obtain ⟨A, c, h1, h2⟩ := ho
  refine (serve2_any B0 b12 b4 b7 base Av cv lv known A c out u w hl h.r h.h4 h.h7 h1 h2 h.l4.1 h.l7.1 h.l12 h.lb h.lB hol h16 hby (hv u) h.k).mono ?_
  rintro e w' ⟨e1, e2⟩
  exact ⟨e1, e2.out⟩
set_option maxRecDepth 100000 in
set_option maxHeartbeats 1000000 in
theorem serve3_any {B0 b12 b4 b7 b13 b6 b10 base : Nat} {Av : Option Addr} {cv : Nat} {lv : List Ver} {known : List Int} {t : Int} {x : Fau} {w : World} (h : SEnv B0 b12 b4 b7 b13 b6 b10 base Av cv lv known t x w) (out : List Giv) (ho : Out12 base b12 out w) (hl : lv.length ≤ 100000) (hol : out.length ≤ 8) (h16 : known.length = 16) (hby : Byt known) (hv : ∀ t, VerIn (atN lv t)) :
    Calls Tryz.prog 77 #[.pointer (some ⟨b13, 0, none⟩), .pointer (some ⟨b6, 0, none⟩)] w fun e w' => e = .returned (.tuple #[]) ∧ Out12 base b12 (giveN lv known out t) w' ∧ Kept base b12 w w' := by
  have HG := Lib.hid (gives_any h out t ho hl hol h16 hby hv)
  have c13 := h.h13.cell 0
  have c6 := h.h6.cell 0
  simp only [List.getElem?_toArray, List.getElem?_cons_zero] at c13 c6
  clear h ho hl hol h16 hby hv
  generalize giveN lv known out t = L at *
  go_enter Tryz.func77, Tryz.ntmps77
  go_wp2_with (go_at_call 76; refine HG.out.mono ?_; rintro e w1 ⟨rfl, h1⟩; have H1 := Lib.hid h1; clear h1)
  exact bodyPost_end (v := .tuple #[]) (by simp [results, Tryz.results77, go_sem]) rfl ⟨rfl, H1.out⟩
theorem serve4_any (w : World) : Calls Tryz.prog 78 #[] w fun e w' => e = .returned (.tuple #[]) ∧ w' = w := by
  go_enter Tryz.func78, Tryz.ntmps78
  go_wp2
  exact bodyPost_end (v := .tuple #[]) (by simp [results, Tryz.results78, go_sem]) rfl ⟨rfl, rfl⟩
set_option maxRecDepth 100000 in
set_option maxHeartbeats 1000000 in
theorem serve5_any {B0 b12 b4 b7 b13 b6 b10 base : Nat} {Av : Option Addr} {cv : Nat} {lv : List Ver} {known : List Int} {t : Int} {x : Fau} {w : World} (h : SEnv B0 b12 b4 b7 b13 b6 b10 base Av cv lv known t x w) (out : List Giv) (ho : Out12 base b12 out w) (hl : lv.length ≤ 100000) (hol : out.length ≤ 8) (h16 : known.length = 16) (hby : Byt known) (hv : ∀ t, VerIn (atN lv t)) (hs : i64 (t + x.delay)) :
    Calls Tryz.prog 79 #[.pointer (some ⟨b13, 0, none⟩), .pointer (some ⟨b6, 0, none⟩), .pointer (some ⟨b10, 0, none⟩)] w fun e w' => e = .returned (.tuple #[]) ∧ Out12 base b12 (giveN lv known out (t + x.delay)) w' ∧ Kept base b12 w w' := by
  have HG := Lib.hid (gives_any h out (t + x.delay) ho hl hol h16 hby hv)
  have c13 := h.h13.cell 0
  have c6 := h.h6.cell 0
  have c10 : w.cell? ⟨b10, 3, none⟩ = some (.int .i64 x.delay) := h.h10.cell 3
  simp only [List.getElem?_toArray, List.getElem?_cons_zero] at c13 c6
  obtain ⟨s1, s2⟩ := hs
  clear h ho hl hol h16 hby hv
  generalize giveN lv known out (t + x.delay) = L at *
  go_enter Tryz.func79, Tryz.ntmps79
  go_wp2_with (go_at_call 76; refine HG.out.mono ?_; rintro e w1 ⟨rfl, h1⟩; have H1 := Lib.hid h1; clear h1)
  exact bodyPost_end (v := .tuple #[]) (by simp [results, Tryz.results79, go_sem]) rfl ⟨rfl, H1.out⟩
set_option maxRecDepth 100000 in
set_option maxHeartbeats 1000000 in
theorem serve6_any {B0 b12 b4 b7 b13 b6 b10 base : Nat} {Av : Option Addr} {cv : Nat} {lv : List Ver} {known : List Int} {t : Int} {x : Fau} {w : World} (h : SEnv B0 b12 b4 b7 b13 b6 b10 base Av cv lv known t x w) (ho : Out12 base b12 [] w) (hl : lv.length ≤ 100000) (h16 : known.length = 16) (hby : Byt known) (hv : ∀ t, VerIn (atN lv t)) (hs : i64 (t + x.delay)) :
    Calls Tryz.prog 80 #[.pointer (some ⟨b13, 0, none⟩), .pointer (some ⟨b6, 0, none⟩), .pointer (some ⟨b10, 0, none⟩)] w fun e w' => e = .returned (.tuple #[]) ∧ Out12 base b12 (giveN lv known (giveN lv known [] t) (t + x.delay)) w' ∧ Kept base b12 w w' := by
  have HG := Lib.hid (gives_any h [] t ho hl (by simp) h16 hby hv)
  have hol : (giveN lv known [] t).length ≤ 8 := by unfold giveN; split <;> simp
  have HG2 := Lib.hid (fun (W : World) (hk : Kept base b12 w W) (ho2 : Out12 base b12 (giveN lv known [] t) W) => gives_any (h.kept hk) (giveN lv known [] t) (t + x.delay) ho2 hl hol h16 hby hv)
  have HE := Lib.hid h
  have c13 := h.h13.cell 0
  have c6 := h.h6.cell 0
  simp only [List.getElem?_toArray, List.getElem?_cons_zero] at c13 c6
  obtain ⟨s1, s2⟩ := hs
  clear h ho hl hol h16 hby hv
  generalize giveN lv known [] t = L1 at *
  generalize giveN lv known L1 (t + x.delay) = L at *
  go_enter Tryz.func80, Tryz.ntmps80
  go_upto_region 1 with (go_at_call 76; refine HG.out.mono ?_; rintro e w1 ⟨rfl, ho1, hk1⟩; have HK1 := Lib.hid hk1; have HE1 := HE.out.kept hk1; have HO1 := Lib.hid ho1; have d13 := HE1.h13.cell 0; have d6 := HE1.h6.cell 0; have d10 : w1.cell? ⟨b10, 3, none⟩ = some (.int .i64 x.delay) := HE1.h10.cell 3; simp only [List.getElem?_toArray, List.getElem?_cons_zero] at d13 d6; clear HE1 hk1 ho1 c13 c6)
  go_wp2_with (go_at_call 76; refine (HG2.out _ HK1.out HO1.out).mono ?_; rintro e w2 ⟨rfl, h1⟩; have H1 := Lib.hid h1; clear h1)
  exact bodyPost_end (v := .tuple #[]) (by simp [results, Tryz.results80, go_sem]) rfl ⟨rfl, H1.out.1, HK1.out.trans H1.out.2⟩
end Go.Proofs.YtpjacgcaibaggaaGreatDoor


set_option linter.unusedVariables false
set_option linter.unusedSimpArgs false
namespace Go.Proofs.YtpjacgcaibaggaaGreatDoor
open Go.RowKit Go.Shelf
open Go.Proofs Go.Maps

def heldR (v : Value) : Option (DataW Value × List MemPlace) := some (.held v, [])
theorem heldR_inj {v : Value} {ps : List MemPlace} {d : DataW Value} {u : Value} (h : heldR v = some (d, ps)) (hd : d = .held u) : v = u := by
  subst hd
  simp [heldR] at h
  exact h.1
theorem int_key (k : Int) (h : (Lit.int .i64 k).wf = true) : keyOf Tryz.prog 3 (.int .i64 k) = some (.int .i64 k) := by
  have e : Tryz.prog.underlying 3 = some (.int .i64) := by kernel_rfl
  simp [keyOf, e, mapKey, h]
theorem int_keys : Keyed Tryz.prog 3 := int_keyed (q := .i64) (by kernel_rfl)
theorem func_zero (w : World) : (zeroValue 1).run Tryz.prog w = .ok .nilFunc w := by kernel_rfl
theorem func_map : Tryz.prog.underlying 130 = some (.map 3 1) := by kernel_rfl
theorem made_map (t : TypeId) (w : World) : (Instr.makeMap t none).run Tryz.prog w = .ok (.map (some w.heap.size)) (w.alloc (.map #[] 0)) := rfl
attribute [go_sem] made_map
theorem four_funcs (W : World) (f0 f1 f2 f3 : Value) : ∃ m1 m2 m3 m4 : World,
    (Instr.mapUpdate 130 (.map (some W.heap.size)) (.int .i64 0) f0).run Tryz.prog (W.alloc (.map #[] 0)) = .ok () m1 ∧
    (Instr.mapUpdate 130 (.map (some W.heap.size)) (.int .i64 1) f1).run Tryz.prog m1 = .ok () m2 ∧
    (Instr.mapUpdate 130 (.map (some W.heap.size)) (.int .i64 2) f2).run Tryz.prog m2 = .ok () m3 ∧
    (Instr.mapUpdate 130 (.map (some W.heap.size)) (.int .i64 3) f3).run Tryz.prog m3 = .ok () m4 ∧
    Ext W m4 ∧
    (Instr.lookup 130 (.map (some W.heap.size)) (.int .i64 0) false).run Tryz.prog m4 = .ok f0 m4 ∧
    (Instr.lookup 130 (.map (some W.heap.size)) (.int .i64 1) false).run Tryz.prog m4 = .ok f1 m4 ∧
    (Instr.lookup 130 (.map (some W.heap.size)) (.int .i64 2) false).run Tryz.prog m4 = .ok f2 m4 ∧
    (Instr.lookup 130 (.map (some W.heap.size)) (.int .i64 3) false).run Tryz.prog m4 = .ok f3 m4 := by
  have k0 := int_key 0 (by decide)
  have k1 := int_key 1 (by decide)
  have k2 := int_key 2 (by decide)
  have k3 := int_key 3 (by decide)
  have o0 := World.ownsMap_made (H := Value) W Tryz.prog 3 heldR
  obtain ⟨m1, r1, o1, g1⟩ := o0.update int_keys func_map (by unfold maxLen; omega) k0 (val := f0) rfl
  obtain ⟨m2, r2, o2, g2⟩ := o1.update int_keys func_map (by unfold maxLen; omega) k1 (val := f1) rfl
  obtain ⟨m3, r3, o3, g3⟩ := o2.update int_keys func_map (by unfold maxLen; omega) k2 (val := f2) rfl
  obtain ⟨m4, r4, o4, g4⟩ := o3.update int_keys func_map (by unfold maxLen; omega) k3 (val := f3) rfl
  have hb : ∀ k, some W.heap.size = some k → W.heap.size ≤ k := by rintro k ⟨rfl⟩; exact Nat.le_refl _
  have b0 : Below W.heap.size W (W.alloc (.map #[] 0)) := (Below.refl _ _).alloc (Nat.le_refl _) _
  have b1 := b0.grown g1 (by simp) hb
  have b2 := b1.grown g2 b1.size hb
  have b3 := b2.grown g3 b2.size hb
  have b4 := b3.grown g4 b3.size hb
  obtain ⟨v0, p0, q0, e0⟩ := o4.lookup int_keys func_map (func_zero m4) (zd := .held .nilFunc) rfl k0
  obtain ⟨v1, p1, q1, e1⟩ := o4.lookup int_keys func_map (func_zero m4) (zd := .held .nilFunc) rfl k1
  obtain ⟨v2, p2, q2, e2⟩ := o4.lookup int_keys func_map (func_zero m4) (zd := .held .nilFunc) rfl k2
  obtain ⟨v3, p3, q3, e3⟩ := o4.lookup int_keys func_map (func_zero m4) (zd := .held .nilFunc) rfl k3
  obtain rfl := heldR_inj e0 (u := f0) rfl
  obtain rfl := heldR_inj e1 (u := f1) rfl
  obtain rfl := heldR_inj e2 (u := f2) rfl
  obtain rfl := heldR_inj e3 (u := f3) rfl
  exact ⟨m1, m2, m3, m4, r1, r2, r3, r4, b4, q0, q1, q2, q3⟩
end Go.Proofs.YtpjacgcaibaggaaGreatDoor


set_option linter.unusedVariables false
set_option linter.unusedSimpArgs false
namespace Go.Proofs.YtpjacgcaibaggaaGreatDoor
open Go.RowKit Go.Shelf
open Go.Proofs

def servE (l : List Giv) : Int := if l = [] then 340 else 0
theorem serve4_out {base b : Nat} {w : World} (h : Out12 base b [] w) : Calls Tryz.prog 78 #[] w fun e w' => e = .returned (.tuple #[]) ∧ Out12 base b [] w' ∧ Kept base b w w' := by
  refine (serve4_any w).mono ?_
  rintro e w' ⟨rfl, rfl⟩
  exact ⟨rfl, h, Kept.refl _ _ _⟩
theorem findex_i (A : Option Addr) (c : Nat) (l : List Fau) (bt : Nat) (t : Int) (w : World) (hl : l.length ≤ 100000) (hr : ReadsFau w w.heap.size A l) (hb : w.cell? ⟨bt, 0, none⟩ = some (.int .i64 t)) (hlb : bt < w.heap.size) :
    Calls Tryz.prog 74 #[.slice A l.length c, .func (.func 75) #[] #[.pointer (some ⟨bt, 0, none⟩)]] w fun e w' =>
      (∃ i : Int, e = .returned (.int .i64 i) ∧ Hid ((∃ k : Nat, ∃ h : k < l.length, i = k ∧ faultN l t = l[k]) ∨ (i = -1 ∧ faultN l t = noFau))) ∧ Ext w w' := by
  refine (findex_any A c l bt t w hl hr hb hlb).mono ?_
  rintro e w' ⟨h | h, hx⟩
  · obtain ⟨k, hk, rfl, h2⟩ := h
    exact ⟨⟨_, rfl, Lib.hid (.inl ⟨k, hk, rfl, h2⟩)⟩, hx⟩
  · obtain ⟨rfl, h2⟩ := h
    exact ⟨⟨_, rfl, Lib.hid (.inr ⟨rfl, h2⟩)⟩, hx⟩
set_option maxRecDepth 100000 in
set_option maxHeartbeats 1000000 in
theorem oserve_any (Av Af : Option Addr) (cv cf : Nat) (lv : List Ver) (lf : List Fau) (t : Int) (known : List Int) (w : World) (hl : lv.length ≤ 100000) (hlf : lf.length ≤ 100000) (hr : ReadsVer w w.heap.size Av lv) (hrf : ReadsFau w w.heap.size Af lf) (h16 : known.length = 16) (hby : Byt known) (hv : ∀ t, VerIn (atN lv t)) (hs : i64 (t + (faultN lf t).delay)) (hkd : 0 ≤ (faultN lf t).kind ∧ (faultN lf t).kind ≤ 3) (hk : Konst 0 w) :
    Calls Tryz.prog 35 #[.slice Av lv.length cv, .slice Af lf.length cf, .int .i64 t, .agg (dgC known)] w fun e w' => ∃ A c, e = .returned (.tuple #[.slice A (servedN lv known t (faultN lf t)).length c, .int .i64 (servE (servedN lv known t (faultN lf t)))]) ∧ Reads 22 gvL w' w'.heap.size A (servedN lv known t (faultN lf t)) ∧ Ext w w' := by
  have HR := Lib.hid hr
  have HRF := Lib.hid hrf
  have HK := Lib.hid hk
  obtain ⟨x, hx⟩ : ∃ x, faultN lf t = x := ⟨_, rfl⟩
  have HF := Lib.hid (fun (W : World) (hx : Ext w W) (b : Nat) (hb : W.cell? ⟨b, 0, none⟩ = some (.int .i64 t)) (hlb : b < W.heap.size) => findex_i Af cf lf b t W hlf (hrf.on hx) hb hlb)
  rw [hx] at hs hkd HF ⊢
  obtain ⟨S, hS⟩ : ∃ S, servedN lv known t x = S := ⟨_, rfl⟩
  have HS := Lib.hid hS
  rw [hS]
  clear hr hrf hk hx hS
  go_enter Tryz.func35, Tryz.ntmps35
  go_upto_region 3 with (go_at_call 74; refine (HF.out _ (by (repeat (first | with_reducible exact Ext.refl _ | with_reducible exact Ext.refl _ | with_reducible refine Ext.drew ?_ | with_reducible refine Ext.drewN ?_ _ | with_reducible refine Ext.alloc ?_ _ | with_reducible refine Ext.onto ?_ _ | (with_reducible refine Ext.setCells ?_ ?_ _ _; rotate_left; focus (first | omega | (simp; done) | (simp; omega))) | (with_reducible refine Ext.setCell ?_ ?_ _; rotate_left; focus (first | omega | (simp; done) | (simp; omega)))))) _ (by simp [go_sem]) (by simp)).mono ?_; rintro e w' ⟨⟨i, rfl, HCase⟩, hxl⟩; obtain ⟨xl, rfl⟩ := hxl.asLater; clear hxl)
  refine wp_world (fun W => Ext w W ∧ RowAt W w.heap.size #[.slice Av lv.length cv] ∧ RowAt W (w.heap.size + 1) #[.int .i64 t] ∧ RowAt W (w.heap.size + 1 + 1) (dgC known) ∧ RowAt W (w.heap.size + 1 + 1 + 1) (fauC noFau)) ⟨(by (repeat (first | with_reducible exact Ext.refl _ | with_reducible exact Ext.refl _ | with_reducible refine Ext.drew ?_ | with_reducible refine Ext.drewN ?_ _ | with_reducible refine Ext.alloc ?_ _ | with_reducible refine Ext.onto ?_ _ | (with_reducible refine Ext.setCells ?_ ?_ _ _; rotate_left; focus (first | omega | (simp; done) | (simp; omega))) | (with_reducible refine Ext.setCell ?_ ?_ _; rotate_left; focus (first | omega | (simp; done) | (simp; omega)))))), RowAt.later ((((RowAt.new _ _ _).alloc _).alloc _).alloc _) _, RowAt.later (((RowAt.newAt (by simp)).alloc _).alloc _) _, RowAt.later ((RowAt.newAt (by simp)).alloc _) _, RowAt.later (RowAt.newAt (by simp)) _⟩ ?_
  clear HF
  obtain ⟨B, hB⟩ : ∃ B, w.heap.size = B := ⟨_, rfl⟩
  rw [hB] at HR HRF ⊢
  rintro W1 ⟨x1, u0, u1, u2, u3⟩
  have HX1 := Lib.hid x1
  have HU0 := Lib.hid u0
  have HU1 := Lib.hid u1
  have HU2 := Lib.hid u2
  have HU3 := Lib.hid u3
  have m3 : roomOf W1 (B + 1 + 1 + 1) 0 4 = true := by rw [u3.room]; rfl
  have hl3 := u3.lt
  clear x1 u0 u1 u2 u3
  rcases HCase.out with ⟨k, hk, rfl, hfk⟩ | ⟨rfl, hfk⟩
  · obtain ⟨bf, off, rfl, hbf, hrow, _, _⟩ := ReadsFau.cell (HRF.out.below (HX1.out.mono (by omega))) k hk
    have hff := fau_fits lf[k]
    have hfs := fau_size lf[k]
    rw [← hfk] at hrow hff hfs
    clear hfk HCase
    go_upto_region 5 with (fail)
    refine wp_world (fun W => Ext w W ∧ RowAt W B #[.slice Av lv.length cv] ∧ RowAt W (B + 1) #[.int .i64 t] ∧ RowAt W (B + 1 + 1) (dgC known) ∧ RowAt W (B + 1 + 1 + 1) (fauC x)) ⟨HX1.out.setCells (by omega) _ _, HU0.out.others (by omega) _ _, HU1.out.others (by omega) _ _, HU2.out.others (by omega) _ _, HU3.out.store rfl⟩ ?_
    clear hrow hff hfs
    clear HX1 HU0 HU1 HU2 HU3 m3 hl3 HRF
    rintro W1 ⟨x1, u0, u1, u2, u3⟩
    have HX1 := Lib.hid x1
    have HU0 := Lib.hid u0
    have HU1 := Lib.hid u1
    have HU2 := Lib.hid u2
    have HU3 := Lib.hid u3
    have hl3 := u3.lt
    clear x1 u0 u1 u2 u3
    go_upto_region 7 with (fail)
    refine wp_world (fun W => Ext W1 W ∧ W.heap.size = W1.heap.size + 1 + 1 ∧ RowAt W W1.heap.size #[.slice none 0 0] ∧ RowAt W (W1.heap.size + 1) #[.func (.func 76) #[] #[.pointer (some ⟨W1.heap.size, 0, none⟩), .pointer (some ⟨B, 0, none⟩), .pointer (some ⟨B + 1 + 1, 0, none⟩)]]) ⟨((Ext.refl _).alloc _).alloc _, by simp, RowAt.alloc (RowAt.new _ _ _) _, RowAt.newAt (by simp)⟩ ?_
    obtain ⟨n, hn⟩ : ∃ n, W1.heap.size = n := ⟨_, rfl⟩
    rw [hn] at hl3 ⊢
    rintro W2 ⟨x2, hs2, z0, z1⟩
    obtain ⟨m1, m2, m3, m4, r1, r2, r3, r4, hm4, q0, q1, q2, q3⟩ := four_funcs W2 (.func (.func 77) #[] #[.pointer (some ⟨n + 1, 0, none⟩), .pointer (some ⟨B + 1, 0, none⟩)]) (.func (.func 78) #[] #[]) (.func (.func 79) #[] #[.pointer (some ⟨n + 1, 0, none⟩), .pointer (some ⟨B + 1, 0, none⟩), .pointer (some ⟨B + 1 + 1 + 1, 0, none⟩)]) (.func (.func 80) #[] #[.pointer (some ⟨n + 1, 0, none⟩), .pointer (some ⟨B + 1, 0, none⟩), .pointer (some ⟨B + 1 + 1 + 1, 0, none⟩)])
    rw [hs2] at r1 r2 r3 r4 q0 q1 q2 q3
    have hsm := hm4.size
    have hkl := HK.out.lt
    have hx14 : Ext W1 m4 := x2.trans hm4
    have HX4 : Hid (Ext w m4) := Lib.hid (HX1.out.trans hx14)
    have HE : Hid (SEnv B n B (B + 1 + 1) (n + 1) (B + 1) (B + 1 + 1 + 1) m4.heap.size Av cv lv known t x m4) := Lib.hid ⟨HR.out.below (HX4.out.mono (by omega)), HU0.out.ext hx14, HU2.out.ext hx14, z1.ext hm4, HU1.out.ext hx14, HU3.out.ext hx14, HK.out.ext HX4.out, Nat.le_refl _, by omega, by omega, by omega, by omega, by omega, by omega, by omega, by omega⟩
    have HO : Hid (Out12 m4.heap.size n [] m4) := Lib.hid ⟨none, 0, z0.ext hm4, Owns.nil _ _ _ _ _⟩
    have c10 : m4.cell? ⟨B + 1 + 1 + 1, 2, none⟩ = some (.int .i64 x.kind) := HE.out.h10.cell 2
    have hnm : n < m4.heap.size := by omega
    have hwn : w.heap.size ≤ n := by omega
    clear HX1 HU0 HU1 HU2 HU3 x2 z0 z1 hm4 hx14 hkl HK HR
    obtain ⟨hk1, hk2⟩ := hkd
    have hk4 : x.kind = 0 ∨ x.kind = 1 ∨ x.kind = 2 ∨ x.kind = 3 := by omega
    clear hk1 hk2
    rcases hk4 with hk4 | hk4 | hk4 | hk4
    ·
      have hL : S = giveN lv known [] t := HS.out.symm.trans (by simp [servedN, hk4])
      have HC := Lib.hid (serve3_any HE.out [] HO.out hl (by simp) h16 hby hv)
      rw [← hL] at HC
      rw [hk4] at c10
      clear hL hk4 HE HO q1 q2 q3 hl h16 hby hv hs HS
      by_cases hS0 : S = []
      ·
        have hS1 : S.length = 0 := by rw [hS0]; rfl
        have hv1 : servE S = 340 := if_pos hS0
        go_wp2_with (go_at_call 77; refine HC.out.mono ?_; rintro e w5 ⟨rfl, ⟨A5, c5, h1, h2⟩, h3⟩; have H1 := Lib.hid h1; have H2 := Lib.hid h2; have H3 := Lib.hid h3; have d12 : w5.cell? ⟨n, 0, none⟩ = some (.slice A5 S.length c5) := h1.cell 0; clear h1 h2 h3)
        refine post_two (v1 := .slice none 0 0) (v2 := .int .i64 340) Tryz.results35 rfl rfl rfl ⟨none, 0, by rw [hS1, hv1], by rw [hS0]; exact fun h => absurd h (by simp), Below.trans HX4.out (Kept.below H3.out (by have := HX4.out.size; omega) hwn)⟩
      ·
        have hS1 : 0 < S.length := by rcases S with _ | ⟨a, S'⟩; exact absurd rfl hS0; simp
        have hv1 : servE S = 0 := if_neg hS0
        go_wp2_with (go_at_call 77; refine HC.out.mono ?_; rintro e w5 ⟨rfl, ⟨A5, c5, h1, h2⟩, h3⟩; have H1 := Lib.hid h1; have H2 := Lib.hid h2; have H3 := Lib.hid h3; have d12 : w5.cell? ⟨n, 0, none⟩ = some (.slice A5 S.length c5) := h1.cell 0; clear h1 h2 h3)
        refine post_two (v1 := .slice A5 S.length c5) (v2 := .int .i64 0) Tryz.results35 rfl rfl rfl ⟨A5, c5, by rw [hv1], H2.out.reads gvE, Below.trans HX4.out (Kept.below H3.out (by have := HX4.out.size; omega) hwn)⟩
    ·
      have hL : S = [] := HS.out.symm.trans (by simp [servedN, hk4])
      have HC := Lib.hid (serve4_out HO.out)
      rw [← hL] at HC
      rw [hk4] at c10
      clear hL hk4 HE HO q0 q2 q3 hl h16 hby hv hs HS
      by_cases hS0 : S = []
      ·
        have hS1 : S.length = 0 := by rw [hS0]; rfl
        have hv1 : servE S = 340 := if_pos hS0
        go_wp2_with (go_at_call 78; refine HC.out.mono ?_; rintro e w5 ⟨rfl, ⟨A5, c5, h1, h2⟩, h3⟩; have H1 := Lib.hid h1; have H2 := Lib.hid h2; have H3 := Lib.hid h3; have d12 : w5.cell? ⟨n, 0, none⟩ = some (.slice A5 S.length c5) := h1.cell 0; clear h1 h2 h3)
        refine post_two (v1 := .slice none 0 0) (v2 := .int .i64 340) Tryz.results35 rfl rfl rfl ⟨none, 0, by rw [hS1, hv1], by rw [hS0]; exact fun h => absurd h (by simp), Below.trans HX4.out (Kept.below H3.out (by have := HX4.out.size; omega) hwn)⟩
      ·
        have hS1 : 0 < S.length := by rcases S with _ | ⟨a, S'⟩; exact absurd rfl hS0; simp
        have hv1 : servE S = 0 := if_neg hS0
        go_wp2_with (go_at_call 78; refine HC.out.mono ?_; rintro e w5 ⟨rfl, ⟨A5, c5, h1, h2⟩, h3⟩; have H1 := Lib.hid h1; have H2 := Lib.hid h2; have H3 := Lib.hid h3; have d12 : w5.cell? ⟨n, 0, none⟩ = some (.slice A5 S.length c5) := h1.cell 0; clear h1 h2 h3)
        refine post_two (v1 := .slice A5 S.length c5) (v2 := .int .i64 0) Tryz.results35 rfl rfl rfl ⟨A5, c5, by rw [hv1], H2.out.reads gvE, Below.trans HX4.out (Kept.below H3.out (by have := HX4.out.size; omega) hwn)⟩
    ·
      have hL : S = giveN lv known [] (t + x.delay) := HS.out.symm.trans (by simp [servedN, hk4])
      have HC := Lib.hid (serve5_any HE.out [] HO.out hl (by simp) h16 hby hv hs)
      rw [← hL] at HC
      rw [hk4] at c10
      clear hL hk4 HE HO q0 q1 q3 hl h16 hby hv hs HS
      by_cases hS0 : S = []
      ·
        have hS1 : S.length = 0 := by rw [hS0]; rfl
        have hv1 : servE S = 340 := if_pos hS0
        go_wp2_with (go_at_call 79; refine HC.out.mono ?_; rintro e w5 ⟨rfl, ⟨A5, c5, h1, h2⟩, h3⟩; have H1 := Lib.hid h1; have H2 := Lib.hid h2; have H3 := Lib.hid h3; have d12 : w5.cell? ⟨n, 0, none⟩ = some (.slice A5 S.length c5) := h1.cell 0; clear h1 h2 h3)
        refine post_two (v1 := .slice none 0 0) (v2 := .int .i64 340) Tryz.results35 rfl rfl rfl ⟨none, 0, by rw [hS1, hv1], by rw [hS0]; exact fun h => absurd h (by simp), Below.trans HX4.out (Kept.below H3.out (by have := HX4.out.size; omega) hwn)⟩
      ·
        have hS1 : 0 < S.length := by rcases S with _ | ⟨a, S'⟩; exact absurd rfl hS0; simp
        have hv1 : servE S = 0 := if_neg hS0
        go_wp2_with (go_at_call 79; refine HC.out.mono ?_; rintro e w5 ⟨rfl, ⟨A5, c5, h1, h2⟩, h3⟩; have H1 := Lib.hid h1; have H2 := Lib.hid h2; have H3 := Lib.hid h3; have d12 : w5.cell? ⟨n, 0, none⟩ = some (.slice A5 S.length c5) := h1.cell 0; clear h1 h2 h3)
        refine post_two (v1 := .slice A5 S.length c5) (v2 := .int .i64 0) Tryz.results35 rfl rfl rfl ⟨A5, c5, by rw [hv1], H2.out.reads gvE, Below.trans HX4.out (Kept.below H3.out (by have := HX4.out.size; omega) hwn)⟩
    ·
      have hL : S = giveN lv known (giveN lv known [] t) (t + x.delay) := HS.out.symm.trans (by simp [servedN, hk4])
      have HC := Lib.hid (serve6_any HE.out HO.out hl h16 hby hv hs)
      rw [← hL] at HC
      rw [hk4] at c10
      clear hL hk4 HE HO q0 q1 q2 hl h16 hby hv hs HS
      by_cases hS0 : S = []
      ·
        have hS1 : S.length = 0 := by rw [hS0]; rfl
        have hv1 : servE S = 340 := if_pos hS0
        go_wp2_with (go_at_call 80; refine HC.out.mono ?_; rintro e w5 ⟨rfl, ⟨A5, c5, h1, h2⟩, h3⟩; have H1 := Lib.hid h1; have H2 := Lib.hid h2; have H3 := Lib.hid h3; have d12 : w5.cell? ⟨n, 0, none⟩ = some (.slice A5 S.length c5) := h1.cell 0; clear h1 h2 h3)
        refine post_two (v1 := .slice none 0 0) (v2 := .int .i64 340) Tryz.results35 rfl rfl rfl ⟨none, 0, by rw [hS1, hv1], by rw [hS0]; exact fun h => absurd h (by simp), Below.trans HX4.out (Kept.below H3.out (by have := HX4.out.size; omega) hwn)⟩
      ·
        have hS1 : 0 < S.length := by rcases S with _ | ⟨a, S'⟩; exact absurd rfl hS0; simp
        have hv1 : servE S = 0 := if_neg hS0
        go_wp2_with (go_at_call 80; refine HC.out.mono ?_; rintro e w5 ⟨rfl, ⟨A5, c5, h1, h2⟩, h3⟩; have H1 := Lib.hid h1; have H2 := Lib.hid h2; have H3 := Lib.hid h3; have d12 : w5.cell? ⟨n, 0, none⟩ = some (.slice A5 S.length c5) := h1.cell 0; clear h1 h2 h3)
        refine post_two (v1 := .slice A5 S.length c5) (v2 := .int .i64 0) Tryz.results35 rfl rfl rfl ⟨A5, c5, by rw [hv1], H2.out.reads gvE, Below.trans HX4.out (Kept.below H3.out (by have := HX4.out.size; omega) hwn)⟩
  · subst hfk
    clear HCase
    go_upto_region 5 with (fail)
    refine wp_world (fun W => Ext w W ∧ RowAt W B #[.slice Av lv.length cv] ∧ RowAt W (B + 1) #[.int .i64 t] ∧ RowAt W (B + 1 + 1) (dgC known) ∧ RowAt W (B + 1 + 1 + 1) (fauC noFau)) ⟨HX1.out, HU0.out, HU1.out, HU2.out, HU3.out⟩ ?_
    generalize noFau = x at *
    clear HX1 HU0 HU1 HU2 HU3 m3 hl3 HRF
    rintro W1 ⟨x1, u0, u1, u2, u3⟩
    have HX1 := Lib.hid x1
    have HU0 := Lib.hid u0
    have HU1 := Lib.hid u1
    have HU2 := Lib.hid u2
    have HU3 := Lib.hid u3
    have hl3 := u3.lt
    clear x1 u0 u1 u2 u3
    go_upto_region 7 with (fail)
    refine wp_world (fun W => Ext W1 W ∧ W.heap.size = W1.heap.size + 1 + 1 ∧ RowAt W W1.heap.size #[.slice none 0 0] ∧ RowAt W (W1.heap.size + 1) #[.func (.func 76) #[] #[.pointer (some ⟨W1.heap.size, 0, none⟩), .pointer (some ⟨B, 0, none⟩), .pointer (some ⟨B + 1 + 1, 0, none⟩)]]) ⟨((Ext.refl _).alloc _).alloc _, by simp, RowAt.alloc (RowAt.new _ _ _) _, RowAt.newAt (by simp)⟩ ?_
    obtain ⟨n, hn⟩ : ∃ n, W1.heap.size = n := ⟨_, rfl⟩
    rw [hn] at hl3 ⊢
    rintro W2 ⟨x2, hs2, z0, z1⟩
    obtain ⟨m1, m2, m3, m4, r1, r2, r3, r4, hm4, q0, q1, q2, q3⟩ := four_funcs W2 (.func (.func 77) #[] #[.pointer (some ⟨n + 1, 0, none⟩), .pointer (some ⟨B + 1, 0, none⟩)]) (.func (.func 78) #[] #[]) (.func (.func 79) #[] #[.pointer (some ⟨n + 1, 0, none⟩), .pointer (some ⟨B + 1, 0, none⟩), .pointer (some ⟨B + 1 + 1 + 1, 0, none⟩)]) (.func (.func 80) #[] #[.pointer (some ⟨n + 1, 0, none⟩), .pointer (some ⟨B + 1, 0, none⟩), .pointer (some ⟨B + 1 + 1 + 1, 0, none⟩)])
    rw [hs2] at r1 r2 r3 r4 q0 q1 q2 q3
    have hsm := hm4.size
    have hkl := HK.out.lt
    have hx14 : Ext W1 m4 := x2.trans hm4
    have HX4 : Hid (Ext w m4) := Lib.hid (HX1.out.trans hx14)
    have HE : Hid (SEnv B n B (B + 1 + 1) (n + 1) (B + 1) (B + 1 + 1 + 1) m4.heap.size Av cv lv known t x m4) := Lib.hid ⟨HR.out.below (HX4.out.mono (by omega)), HU0.out.ext hx14, HU2.out.ext hx14, z1.ext hm4, HU1.out.ext hx14, HU3.out.ext hx14, HK.out.ext HX4.out, Nat.le_refl _, by omega, by omega, by omega, by omega, by omega, by omega, by omega, by omega⟩
    have HO : Hid (Out12 m4.heap.size n [] m4) := Lib.hid ⟨none, 0, z0.ext hm4, Owns.nil _ _ _ _ _⟩
    have c10 : m4.cell? ⟨B + 1 + 1 + 1, 2, none⟩ = some (.int .i64 x.kind) := HE.out.h10.cell 2
    have hnm : n < m4.heap.size := by omega
    have hwn : w.heap.size ≤ n := by omega
    clear HX1 HU0 HU1 HU2 HU3 x2 z0 z1 hm4 hx14 hkl HK HR
    obtain ⟨hk1, hk2⟩ := hkd
    have hk4 : x.kind = 0 ∨ x.kind = 1 ∨ x.kind = 2 ∨ x.kind = 3 := by omega
    clear hk1 hk2
    rcases hk4 with hk4 | hk4 | hk4 | hk4
    ·
      have hL : S = giveN lv known [] t := HS.out.symm.trans (by simp [servedN, hk4])
      have HC := Lib.hid (serve3_any HE.out [] HO.out hl (by simp) h16 hby hv)
      rw [← hL] at HC
      rw [hk4] at c10
      clear hL hk4 HE HO q1 q2 q3 hl h16 hby hv hs HS
      by_cases hS0 : S = []
      ·
        have hS1 : S.length = 0 := by rw [hS0]; rfl
        have hv1 : servE S = 340 := if_pos hS0
        go_wp2_with (go_at_call 77; refine HC.out.mono ?_; rintro e w5 ⟨rfl, ⟨A5, c5, h1, h2⟩, h3⟩; have H1 := Lib.hid h1; have H2 := Lib.hid h2; have H3 := Lib.hid h3; have d12 : w5.cell? ⟨n, 0, none⟩ = some (.slice A5 S.length c5) := h1.cell 0; clear h1 h2 h3)
        refine post_two (v1 := .slice none 0 0) (v2 := .int .i64 340) Tryz.results35 rfl rfl rfl ⟨none, 0, by rw [hS1, hv1], by rw [hS0]; exact fun h => absurd h (by simp), Below.trans HX4.out (Kept.below H3.out (by have := HX4.out.size; omega) hwn)⟩
      ·
        have hS1 : 0 < S.length := by rcases S with _ | ⟨a, S'⟩; exact absurd rfl hS0; simp
        have hv1 : servE S = 0 := if_neg hS0
        go_wp2_with (go_at_call 77; refine HC.out.mono ?_; rintro e w5 ⟨rfl, ⟨A5, c5, h1, h2⟩, h3⟩; have H1 := Lib.hid h1; have H2 := Lib.hid h2; have H3 := Lib.hid h3; have d12 : w5.cell? ⟨n, 0, none⟩ = some (.slice A5 S.length c5) := h1.cell 0; clear h1 h2 h3)
        refine post_two (v1 := .slice A5 S.length c5) (v2 := .int .i64 0) Tryz.results35 rfl rfl rfl ⟨A5, c5, by rw [hv1], H2.out.reads gvE, Below.trans HX4.out (Kept.below H3.out (by have := HX4.out.size; omega) hwn)⟩
    ·
      have hL : S = [] := HS.out.symm.trans (by simp [servedN, hk4])
      have HC := Lib.hid (serve4_out HO.out)
      rw [← hL] at HC
      rw [hk4] at c10
      clear hL hk4 HE HO q0 q2 q3 hl h16 hby hv hs HS
      by_cases hS0 : S = []
      ·
        have hS1 : S.length = 0 := by rw [hS0]; rfl
        have hv1 : servE S = 340 := if_pos hS0
        go_wp2_with (go_at_call 78; refine HC.out.mono ?_; rintro e w5 ⟨rfl, ⟨A5, c5, h1, h2⟩, h3⟩; have H1 := Lib.hid h1; have H2 := Lib.hid h2; have H3 := Lib.hid h3; have d12 : w5.cell? ⟨n, 0, none⟩ = some (.slice A5 S.length c5) := h1.cell 0; clear h1 h2 h3)
        refine post_two (v1 := .slice none 0 0) (v2 := .int .i64 340) Tryz.results35 rfl rfl rfl ⟨none, 0, by rw [hS1, hv1], by rw [hS0]; exact fun h => absurd h (by simp), Below.trans HX4.out (Kept.below H3.out (by have := HX4.out.size; omega) hwn)⟩
      ·
        have hS1 : 0 < S.length := by rcases S with _ | ⟨a, S'⟩; exact absurd rfl hS0; simp
        have hv1 : servE S = 0 := if_neg hS0
        go_wp2_with (go_at_call 78; refine HC.out.mono ?_; rintro e w5 ⟨rfl, ⟨A5, c5, h1, h2⟩, h3⟩; have H1 := Lib.hid h1; have H2 := Lib.hid h2; have H3 := Lib.hid h3; have d12 : w5.cell? ⟨n, 0, none⟩ = some (.slice A5 S.length c5) := h1.cell 0; clear h1 h2 h3)
        refine post_two (v1 := .slice A5 S.length c5) (v2 := .int .i64 0) Tryz.results35 rfl rfl rfl ⟨A5, c5, by rw [hv1], H2.out.reads gvE, Below.trans HX4.out (Kept.below H3.out (by have := HX4.out.size; omega) hwn)⟩
    ·
      have hL : S = giveN lv known [] (t + x.delay) := HS.out.symm.trans (by simp [servedN, hk4])
      have HC := Lib.hid (serve5_any HE.out [] HO.out hl (by simp) h16 hby hv hs)
      rw [← hL] at HC
      rw [hk4] at c10
      clear hL hk4 HE HO q0 q1 q3 hl h16 hby hv hs HS
      by_cases hS0 : S = []
      ·
        have hS1 : S.length = 0 := by rw [hS0]; rfl
        have hv1 : servE S = 340 := if_pos hS0
        go_wp2_with (go_at_call 79; refine HC.out.mono ?_; rintro e w5 ⟨rfl, ⟨A5, c5, h1, h2⟩, h3⟩; have H1 := Lib.hid h1; have H2 := Lib.hid h2; have H3 := Lib.hid h3; have d12 : w5.cell? ⟨n, 0, none⟩ = some (.slice A5 S.length c5) := h1.cell 0; clear h1 h2 h3)
        refine post_two (v1 := .slice none 0 0) (v2 := .int .i64 340) Tryz.results35 rfl rfl rfl ⟨none, 0, by rw [hS1, hv1], by rw [hS0]; exact fun h => absurd h (by simp), Below.trans HX4.out (Kept.below H3.out (by have := HX4.out.size; omega) hwn)⟩
      ·
        have hS1 : 0 < S.length := by rcases S with _ | ⟨a, S'⟩; exact absurd rfl hS0; simp
        have hv1 : servE S = 0 := if_neg hS0
        go_wp2_with (go_at_call 79; refine HC.out.mono ?_; rintro e w5 ⟨rfl, ⟨A5, c5, h1, h2⟩, h3⟩; have H1 := Lib.hid h1; have H2 := Lib.hid h2; have H3 := Lib.hid h3; have d12 : w5.cell? ⟨n, 0, none⟩ = some (.slice A5 S.length c5) := h1.cell 0; clear h1 h2 h3)
        refine post_two (v1 := .slice A5 S.length c5) (v2 := .int .i64 0) Tryz.results35 rfl rfl rfl ⟨A5, c5, by rw [hv1], H2.out.reads gvE, Below.trans HX4.out (Kept.below H3.out (by have := HX4.out.size; omega) hwn)⟩
    ·
      have hL : S = giveN lv known (giveN lv known [] t) (t + x.delay) := HS.out.symm.trans (by simp [servedN, hk4])
      have HC := Lib.hid (serve6_any HE.out HO.out hl h16 hby hv hs)
      rw [← hL] at HC
      rw [hk4] at c10
      clear hL hk4 HE HO q0 q1 q2 hl h16 hby hv hs HS
      by_cases hS0 : S = []
      ·
        have hS1 : S.length = 0 := by rw [hS0]; rfl
        have hv1 : servE S = 340 := if_pos hS0
        go_wp2_with (go_at_call 80; refine HC.out.mono ?_; rintro e w5 ⟨rfl, ⟨A5, c5, h1, h2⟩, h3⟩; have H1 := Lib.hid h1; have H2 := Lib.hid h2; have H3 := Lib.hid h3; have d12 : w5.cell? ⟨n, 0, none⟩ = some (.slice A5 S.length c5) := h1.cell 0; clear h1 h2 h3)
        refine post_two (v1 := .slice none 0 0) (v2 := .int .i64 340) Tryz.results35 rfl rfl rfl ⟨none, 0, by rw [hS1, hv1], by rw [hS0]; exact fun h => absurd h (by simp), Below.trans HX4.out (Kept.below H3.out (by have := HX4.out.size; omega) hwn)⟩
      ·
        have hS1 : 0 < S.length := by rcases S with _ | ⟨a, S'⟩; exact absurd rfl hS0; simp
        have hv1 : servE S = 0 := if_neg hS0
        go_wp2_with (go_at_call 80; refine HC.out.mono ?_; rintro e w5 ⟨rfl, ⟨A5, c5, h1, h2⟩, h3⟩; have H1 := Lib.hid h1; have H2 := Lib.hid h2; have H3 := Lib.hid h3; have d12 : w5.cell? ⟨n, 0, none⟩ = some (.slice A5 S.length c5) := h1.cell 0; clear h1 h2 h3)
        refine post_two (v1 := .slice A5 S.length c5) (v2 := .int .i64 0) Tryz.results35 rfl rfl rfl ⟨A5, c5, by rw [hv1], H2.out.reads gvE, Below.trans HX4.out (Kept.below H3.out (by have := HX4.out.size; omega) hwn)⟩
end Go.Proofs.YtpjacgcaibaggaaGreatDoor
