/- Walks of the specification's entries: Put, Missing. -/
import Derived.Test.YtjdheaimjodcoaaGreatDoorProg
import Derived.Test.YtjdheaimjodcoaaGreatDoorExt
import Derived.WalkKit
import Derived.WalkSpells
import Derived.WalkLawsBesides
import Derived.Deep.QuietTactic
import Derived.BigQuiet
import Derived.Test.YtjdheaimjodcoaaGreatDoorMc
import Derived.Test.YtjdheaimjodcoaaGreatDoorFd
import Derived.Laws.MakeOwn
import Derived.Test.YtjdheaimjodcoaaGreatDoorMh
set_option linter.unusedVariables false
set_option linter.unusedSimpArgs false
namespace Go.Proofs.YtjdheaimjodcoaaGreatDoor
open Go.RowKit Go.Shelf
open Go.Proofs
open Go.Proofs.Sp (Sp)

/-! ### What the specification returns: an entry, and an error -/
def gotC (e : En) (n : Int) : Array Value := (stmL e.st ++ [.bool e.soft, e.hv, .string e.bytes, .bool e.whole, .int .i64 n]).toArray
theorem got_size (e : En) (n : Int) : (gotC e n).size = 46 := rfl
theorem got_all (e : En) (n : Int) : rowSub (gotC e n) 0 46 = some (gotC e n) := rowSub_all _ _ rfl
theorem got_ent (e : En) (n : Int) : rowSub (gotC e n) 0 45 = some (entC e) := by kernel_rfl
theorem got_g45 (e : En) (n : Int) : (gotC e n)[45]? = some (.int .i64 n) := rfl
theorem got_fits (s : St) (soft : Bool) (A : Option Addr) (k c : Nat) (b : ByteArray) (wh : Bool) (n : Int) : fitsRow 46 (gotC ⟨s, soft, .slice A k c, b, wh⟩ n) = true := by kernel_rfl
theorem got_fits_of {e : En} {A : Option Addr} {k c : Nat} (n : Int) (h : e.hv = .slice A k c) : fitsRow 46 (gotC e n) = true := by
  obtain ⟨a, b, v, d, f⟩ := e
  obtain rfl : v = .slice A k c := h
  exact got_fits _ _ _ _ _ _ _ _
attribute [go_sem] got_size got_all got_ent got_g45 got_fits
theorem got_ty : RowTy Tryz.prog 61 46 := ⟨by kernel_rfl, by kernel_rfl⟩
theorem got_ld (w : World) (b o : Nat) : (rowLoad 61 46 (.pointer (some ⟨b, o, none⟩))).run Tryz.prog w = rowLoadR Tryz.prog w 61 46 b o (rowOf w b o 46) := run_rowLoad got_ty w b o
theorem got_st (w : World) (b o : Nat) (cells : Array Value) : (rowStore 61 46 (.pointer (some ⟨b, o, none⟩)) (.agg cells)).run Tryz.prog w = rowStoreR Tryz.prog w 61 46 b o cells (roomOf w b o 46 && fitsRow 46 cells) := run_rowStore got_ty w b o cells
theorem got_lv (w : World) (b o : Nat) : (loadVar 61 ⟨b, o, none⟩).run Tryz.prog w = varRes Tryz.prog w 61 b o (rowOf w b o 46) := loadVar_row got_ty w b o
theorem got_al (w : World) : (rowAlloc 61).run Tryz.prog w = .ok (.value (.pointer (some ⟨w.heap.size, 0, none⟩))) (w.alloc (.cells (gotC noEn 0) 61)) := run_rowAlloc (by kernel_rfl) w
theorem got_xl (ρ : Operand → Value) (dst : Option Tmp) (x : Operand) (t : TypeId) (pos : String) (after : Array Edge) (guard : Option (Nat × Bool)) : execOp ρ { dst, op := .load 61 x, type := t, pos, after, guard } = rowLoad 61 46 (ρ x) := rfl
theorem got_xs (ρ : Operand → Value) (dst : Option Tmp) (x y : Operand) (t : TypeId) (pos : String) (after : Array Edge) (guard : Option (Nat × Bool)) : execOp ρ { dst, op := .store 61 x y, type := t, pos, after, guard } = rowStore 61 46 (ρ x) (ρ y) := rfl
theorem got_xa (ρ : Operand → Value) (dst : Option Tmp) (t : TypeId) (pos : String) (after : Array Edge) (guard : Option (Nat × Bool)) : execOp ρ { dst, op := .alloc 61, type := t, pos, after, guard } = rowAlloc 61 := rfl
attribute [go_sem ↓] got_xl got_xs got_xa
attribute [go_sem] got_ld got_st got_al
def gotB2 (x y : Value) : Sem Next := do pure (.value (← Instr.build 61 #[(0, x), (1, y)]))
def gotB1 (x : Value) : Sem Next := do pure (.value (← Instr.build 61 #[(0, x)]))
def gotB0 (y : Value) : Sem Next := do pure (.value (← Instr.build 61 #[(1, y)]))
theorem gotB2_x (ρ : Operand → Value) (dst : Option Tmp) (x y : Operand) (t : TypeId) (pos : String) (after : Array Edge) (guard : Option (Nat × Bool)) : execOp ρ { dst, op := .build 61 #[(0, x), (1, y)], type := t, pos, after, guard } = gotB2 (ρ x) (ρ y) := by kernel_rfl
theorem gotB1_x (ρ : Operand → Value) (dst : Option Tmp) (x : Operand) (t : TypeId) (pos : String) (after : Array Edge) (guard : Option (Nat × Bool)) : execOp ρ { dst, op := .build 61 #[(0, x)], type := t, pos, after, guard } = gotB1 (ρ x) := by kernel_rfl
theorem gotB0_x (ρ : Operand → Value) (dst : Option Tmp) (y : Operand) (t : TypeId) (pos : String) (after : Array Edge) (guard : Option (Nat × Bool)) : execOp ρ { dst, op := .build 61 #[(1, y)], type := t, pos, after, guard } = gotB0 (ρ y) := by kernel_rfl
theorem gotB2_run (e : En) (n : Int) (W : World) : (gotB2 (.agg (entC e)) (.int .i64 n)).run Tryz.prog W = .ok (.value (.agg (gotC e n))) W := by kernel_rfl
theorem gotB1_run (e : En) (W : World) : (gotB1 (.agg (entC e))).run Tryz.prog W = .ok (.value (.agg (gotC e 0))) W := by kernel_rfl
theorem gotB0_run (n : Int) (W : World) : (gotB0 (.int .i64 n)).run Tryz.prog W = .ok (.value (.agg (gotC noEn n))) W := by kernel_rfl
attribute [go_sem ↓] gotB2_x gotB1_x gotB0_x
attribute [go_sem] gotB2_run gotB1_run gotB0_run
theorem got_stored {w : World} {b : Nat} {cs : Array Value} {e : En} {n : Int} (h : RowAt w b cs) (hn : cs.size = 46) : rowOf (w.setCells b 0 (gotC e n).toList) b 0 46 = some (gotC e n) := h.stored (n := 46) (by rw [hn, got_size]) (got_size _ _).symm (by omega)

/-! ### Zeros, None -/
theorem reads_made (w : World) (n : Nat) : ReadsB (w.alloc (.cells (madeCells (Value.int .u8 0).cells n) 5)) (w.heap.size + 1) (some ⟨w.heap.size, 0, none⟩) (List.replicate n 0) := by
  intro h0
  refine ⟨w.heap.size, 0, rfl, by omega, fun i hi j v hv => ?_⟩
  have hj : j = 0 := by
    have := (List.getElem?_eq_some_iff.1 hv).1
    simp [encB] at this; omega
  subst hj
  rw [List.length_replicate] at hi
  simp only [encB, List.getElem_replicate, List.getElem?_cons_zero, Option.some.injEq] at hv
  subst hv
  rw [alloc_cell_if, if_pos rfl]
  simp [madeCells, hi, Value.cells, Nat.mod_one]
theorem zb_nums (n : Nat) : strOfNums (List.replicate n 0) = zb n := by
  apply bts_inj
  rw [bts_zb, bts_nums]
  intro x hx
  have := List.eq_of_mem_replicate hx
  omega
theorem conv_empty (a : Option Addr) (c : Nat) (W : World) : (convert 112 9 (.slice a 0 c)).run Tryz.prog W = .ok (.string (strOfNums (List.replicate 0 0))) W := by
  cases a <;> kernel_rfl
theorem u8info : (Tryz.prog.info? 5).map (fun i => (i.zero, i.size, i.bytes)) = some (some (.int .u8 0), 1, 1) := by kernel_rfl
set_option maxRecDepth 100000 in
set_option maxHeartbeats 1000000 in
theorem zeros_any (n : Nat) (m : Int) (hm : m = n) (w : World) (hn : n ≤ 140737488355328) : Calls Tryz.prog 114 #[.int .i64 m] w fun e w' => e = .returned (.string (zb n)) ∧ Ext w w' := by
  subst hm
  rw [← zb_nums]
  obtain ⟨i, hi, hz, h1, h2⟩ := info_parts u8info
  go_enter Tryz.func114, Tryz.ntmps114
  go_wp2
  rw [run_make w 112 5 i (.int .u8 0) (by kernel_rfl) hi hz .i64 .i64 n n (by omega) (by omega) (by rw [h2]; omega) (by omega), h1]
  go_wp2
  by_cases h0 : n = 0
  · subst h0
    rw [conv_empty]
    go_wp2
    go_ret
    exact ⟨rfl, (by (repeat (first | with_reducible exact Ext.refl _ | with_reducible exact Ext.refl _ | with_reducible refine Ext.drew ?_ | with_reducible refine Ext.drewN ?_ _ | with_reducible refine Ext.alloc ?_ _ | with_reducible refine Ext.onto ?_ _ | (with_reducible refine Ext.setCells ?_ ?_ _ _; rotate_left; focus (first | omega | (simp; done) | (simp; omega))) | (with_reducible refine Ext.setCell ?_ ?_ _; rotate_left; focus (first | omega | (simp; done) | (simp; omega))))))⟩
  · have hc := conv_bytes n (reads_made w n) (by rw [List.length_replicate]; omega)
    rw [List.length_replicate] at hc
    have hc' : (convert 112 9 (.slice (some ⟨w.heap.size, 0, none⟩) n n)).run Tryz.prog (w.alloc (.cells (madeCells #[.int .u8 0] n) 5)) = .ok (.string (strOfNums (List.replicate n 0))) (w.alloc (.cells (madeCells #[.int .u8 0] n) 5)) := hc
    rw [hc']
    go_wp2
    go_ret
    exact ⟨rfl, (by (repeat (first | with_reducible exact Ext.refl _ | with_reducible exact Ext.refl _ | with_reducible refine Ext.drew ?_ | with_reducible refine Ext.drewN ?_ _ | with_reducible refine Ext.alloc ?_ _ | with_reducible refine Ext.onto ?_ _ | (with_reducible refine Ext.setCells ?_ ?_ _ _; rotate_left; focus (first | omega | (simp; done) | (simp; omega))) | (with_reducible refine Ext.setCell ?_ ?_ _; rotate_left; focus (first | omega | (simp; done) | (simp; omega))))))⟩

theorem row46 {w : World} {b : Nat} {cs : Array Value} {e : En} {n : Int} (h : RowAt w b cs) (hn : cs.size = 46) : RowAt (w.setCells b 0 (gotC e n).toList) b (gotC e n) := h.store (by rw [hn, got_size])
set_option maxRecDepth 100000 in
set_option maxHeartbeats 400000 in
theorem none_any (s : St) (soft : Bool) (w : World) (h0 : 0 ≤ s.size) (h1 : s.size ≤ 65536) : Calls Tryz.prog 77 #[.agg (stmC s), .bool soft] w fun e' w' => e' = .returned (.agg (entC (emptyEn s soft))) ∧ Ext w w' := by
  obtain ⟨z, hz⟩ : ∃ z, zb s.size.toNat = z := ⟨_, rfl⟩
  have HZ := Lib.hid (fun W => zeros_any s.size.toNat s.size (by omega) W (by omega))
  rw [hz] at HZ
  have hE : emptyEn s soft = ⟨s, soft, .slice none 0 0, z, decide (s.size = 0)⟩ := by rw [← hz]; rfl
  rw [hE]
  have hd : decide (s.size = 0) = (s.size == 0) := rfl
  obtain ⟨q, hq⟩ : ∃ q, decide (s.size = 0) = q := ⟨_, rfl⟩
  rw [hq] at hd ⊢
  have hf : fitsRow 45 (entC ⟨s, soft, .slice none 0 0, z, q⟩) = true := ent_fits_of rfl
  have hdd := hd.symm
  clear hd hz hE hq
  go_enter Tryz.func77, Tryz.ntmps77
  go_wp2
  refine wp_world (fun W => Ext w W ∧ RowAt W w.heap.size (stmC s) ∧ RowAt W (w.heap.size + 1) (entC noEn)) ⟨(by (repeat (first | with_reducible exact Ext.refl _ | with_reducible exact Ext.refl _ | with_reducible refine Ext.drew ?_ | with_reducible refine Ext.drewN ?_ _ | with_reducible refine Ext.alloc ?_ _ | with_reducible refine Ext.onto ?_ _ | (with_reducible refine Ext.setCells ?_ ?_ _ _; rotate_left; focus (first | omega | (simp; done) | (simp; omega))) | (with_reducible refine Ext.setCell ?_ ?_ _; rotate_left; focus (first | omega | (simp; done) | (simp; omega)))))), (RowAt.new _ _ _).alloc _, RowAt.newAt (by simp)⟩ ?_
  rintro W ⟨hx0, r1, r2⟩
  have HX0 := Lib.hid hx0
  have HR2 := Lib.hid r2
  have a3 : W.cell? ⟨w.heap.size, 3, none⟩ = some (.int .i64 s.size) := (r1.cell 3).trans (stm_g3 s)
  have hrow : rowOf W w.heap.size 0 41 = some (stmC s) := r1.all (stm_size s).symm (by omega)
  have hroom : roomOf W (w.heap.size + 1) 0 45 = true := by rw [r2.room, ent_size]; rfl
  have hl1 := r1.lt
  have hl2 := r2.lt
  clear hx0 r1 r2
  refine wp_region_later_tail 9 (by kernel_rfl) (by kernel_rfl) ?_
  simp only [List.take_succ_cons, List.take_zero, List.drop_succ_cons, List.drop_zero]
  repeat (first | go_big_quiet_step ((go_at_call 114; exact quietE (HZ.out _))) | quiet_step ((go_at_call 114; exact quietE (HZ.out _))))
  refine wpQuiet_nil ?_
  rintro _ ⟨xq, rfl⟩
  go_wp2
  refine post_row ent_ty Tryz.results77 rfl rfl (row_stored (RowAt.later HR2.out _) (ent_size _) (ent_size _)) ⟨rfl, Ext.setCells (HX0.out.onto _) (by omega) _ _⟩
def beginN (s : St) : En × Int :=
  if rightB s = false then (noEn, 1) else if 65536 < s.size then (noEn, 2) else if s.size = 0 ∧ s.body ≠ Wire.digest 34 [[]] then (noEn, 8) else (emptyEn s false, 0)
theorem neq_dig2 {a b : List Int} (ha : a.length = 16) (hb : b.length = 16) (ba : Byt a) (bb : Byt b) (W : World) : (binOp .neq 24 (.agg (dgC a)) (.agg (cells8 b))).run Tryz.prog W = .ok (.bool (!(decide (a = b)))) W := by
  rw [dgC_cells ha, ← dgC_cells hb]; exact neq_dig ha hb ba bb W
theorem rdigest_e (D : List Int) (w : World) (hk : RKonst w) (h : Wire.digest 34 [[]] = D) :
    Calls Tryz.prog 35 #[.string ⟨#[]⟩] w fun e w' => e = .returned (.agg (cells8 D)) ∧ Ext w w' := rdigest_is ⟨#[]⟩ D w hk (by decide) h
theorem nofits : fitsRow 46 (gotC noEn 0) = true := got_fits_of 0 rfl
theorem nofits_n (n : Int) : fitsRow 46 (gotC noEn n) = true := got_fits_of n rfl
attribute [local go_sem] nofits_n
set_option maxRecDepth 100000 in
set_option maxHeartbeats 400000 in
theorem rbegin_any (s : St) (w : World) (h1 : s.addr.size ≤ 9223372036854775807) (h2 : s.var.size ≤ 9223372036854775807) (h3 : s.tags.size ≤ 9223372036854775807) (hb : s.body.length = 16) (hby : Byt s.body) (hk : RKonst w) :
    Calls Tryz.prog 38 #[.agg (stmC s)] w fun e' w' => e' = .returned (.agg (gotC (beginN s).1 (beginN s).2)) ∧ Ext w w' := by
  obtain ⟨D, hD⟩ : ∃ D, Wire.digest 34 [[]] = D := ⟨_, rfl⟩
  have hq := neq_dig2 hb (by rw [← hD]; exact digest_length _ _) hby (by rw [← hD]; exact digest_byt _ _) (b := D)
  obtain ⟨p, hp⟩ : ∃ p, beginN s = p := ⟨_, rfl⟩
  rw [hp]
  have HP := Lib.hid hp
  have HD := Lib.hid hD
  have HK := Lib.hid hk
  have HRt := Lib.hid (fun W => rright_any s W h1 h2 h3)
  clear hp hD hk hb hby h1 h2 h3
  cases hr : rightB s with
  | false =>
    have e : p = (noEn, 1) := by rw [← HP.out, beginN, if_pos hr]
    subst e
    rw [hr] at HRt
    clear hr hq
    go_enter Tryz.func38, Tryz.ntmps38
    go_wp2_with (go_at_call 32; refine (HRt.out _).mono ?_; rintro e w' ⟨rfl, hxl⟩; obtain ⟨xl, rfl⟩ := hxl.asLater; clear hxl)
    refine post_row got_ty Tryz.results38 rfl rfl (got_stored (by (repeat (first | with_reducible exact RowAt.newAt (cs := gotC noEn 0) (t := 61) (by simp) | with_reducible refine RowAt.drew ?_ | with_reducible refine RowAt.later ?_ _ | with_reducible exact RowAt.newAt (by first | rfl | omega | (simp [later_size, setCells_size]; done) | (simp [later_size, setCells_size]; omega)) | with_reducible refine RowAt.alloc ?_ _ | with_reducible apply RowAt.store | with_reducible refine RowAt.others ?_ ?_ _ _ | with_reducible refine RowAt.other ?_ ?_ _)); all_goals first | omega | (simp; done) | (simp; omega) | (simp [go_sem]; done)) (got_size _ _)) ⟨rfl, (by (repeat (first | with_reducible exact Ext.refl _ | with_reducible exact Ext.refl _ | with_reducible refine Ext.drew ?_ | with_reducible refine Ext.drewN ?_ _ | with_reducible refine Ext.alloc ?_ _ | with_reducible refine Ext.onto ?_ _ | (with_reducible refine Ext.setCells ?_ ?_ _ _; rotate_left; focus (first | omega | (simp; done) | (simp; omega))) | (with_reducible refine Ext.setCell ?_ ?_ _; rotate_left; focus (first | omega | (simp; done) | (simp; omega))))))⟩
  | true =>
    have hz := rightB_z hr
    have HR1 := Lib.hid hr
    rw [hr] at HRt
    clear hr
    by_cases c2 : 65536 < s.size
    · have e : p = (noEn, 2) := by rw [← HP.out, beginN, if_neg (by rw [HR1.out]; decide), if_pos c2]
      subst e
      clear hq
      go_enter Tryz.func38, Tryz.ntmps38
      go_wp2_with (go_at_call 32; refine (HRt.out _).mono ?_; rintro e w' ⟨rfl, hxl⟩; obtain ⟨xl, rfl⟩ := hxl.asLater; clear hxl)
      refine post_row got_ty Tryz.results38 rfl rfl (got_stored (by (repeat (first | with_reducible exact RowAt.newAt (cs := gotC noEn 0) (t := 61) (by simp) | with_reducible refine RowAt.drew ?_ | with_reducible refine RowAt.later ?_ _ | with_reducible exact RowAt.newAt (by first | rfl | omega | (simp [later_size, setCells_size]; done) | (simp [later_size, setCells_size]; omega)) | with_reducible refine RowAt.alloc ?_ _ | with_reducible apply RowAt.store | with_reducible refine RowAt.others ?_ ?_ _ _ | with_reducible refine RowAt.other ?_ ?_ _)); all_goals first | omega | (simp; done) | (simp; omega) | (simp [go_sem]; done)) (got_size _ _)) ⟨rfl, (by (repeat (first | with_reducible exact Ext.refl _ | with_reducible exact Ext.refl _ | with_reducible refine Ext.drew ?_ | with_reducible refine Ext.drewN ?_ _ | with_reducible refine Ext.alloc ?_ _ | with_reducible refine Ext.onto ?_ _ | (with_reducible refine Ext.setCells ?_ ?_ _ _; rotate_left; focus (first | omega | (simp; done) | (simp; omega))) | (with_reducible refine Ext.setCell ?_ ?_ _; rotate_left; focus (first | omega | (simp; done) | (simp; omega))))))⟩
    · by_cases c3 : s.size = 0
      · have e1 : (s.size == 0) = true := by simpa using c3
        by_cases c4 : s.body = D
        · have e : p = (emptyEn s false, 0) := by rw [← HP.out, beginN, if_neg (by rw [HR1.out]; decide), if_neg c2, if_neg (by rw [HD.out]; exact fun h => h.2 c4)]
          subst e
          have hd : decide (s.body = D) = true := by simpa using c4
          simp only [hd, Bool.not_true] at hq
          clear hd c4 c3
          go_enter Tryz.func38, Tryz.ntmps38
          go_wp2_with (go_at_call 32; refine (HRt.out _).mono ?_; rintro e w' ⟨rfl, hxl⟩; obtain ⟨xl, rfl⟩ := hxl.asLater; clear hxl)
          refine wp_region_later (by kernel_rfl) (by kernel_rfl) ?_
          repeat (first | go_big_quiet_step ((go_at_call 35; exact quietE (rdigest_e D _ (RowAt.ext HK.out (((((Ext.refl _).alloc _).alloc _).onto _).onto _)) HD.out))) | quiet_step ((go_at_call 35; exact quietE (rdigest_e D _ (RowAt.ext HK.out (((((Ext.refl _).alloc _).alloc _).onto _).onto _)) HD.out))))
          refine wpQuiet_nil ?_
          rintro _ ⟨xq, rfl⟩
          have hfn : fitsRow 46 (gotC (emptyEn s false) 0) = true := got_fits_of 0 rfl
          go_wp2_with (go_at_call 77; refine (none_any s false _ (by omega) (by omega)).mono ?_; rintro e w' ⟨rfl, hxl⟩; obtain ⟨xl, rfl⟩ := hxl.asLater; clear hxl)
          refine post_row got_ty Tryz.results38 rfl rfl (got_stored (by (repeat (first | with_reducible exact RowAt.newAt (cs := gotC noEn 0) (t := 61) (by simp) | with_reducible refine RowAt.drew ?_ | with_reducible refine RowAt.later ?_ _ | with_reducible exact RowAt.newAt (by first | rfl | omega | (simp [later_size, setCells_size]; done) | (simp [later_size, setCells_size]; omega)) | with_reducible refine RowAt.alloc ?_ _ | with_reducible apply RowAt.store | with_reducible refine RowAt.others ?_ ?_ _ _ | with_reducible refine RowAt.other ?_ ?_ _)); all_goals first | omega | (simp; done) | (simp; omega) | (simp [go_sem]; done)) (got_size _ _)) ⟨rfl, (by (repeat (first | with_reducible exact Ext.refl _ | with_reducible exact Ext.refl _ | with_reducible refine Ext.drew ?_ | with_reducible refine Ext.drewN ?_ _ | with_reducible refine Ext.alloc ?_ _ | with_reducible refine Ext.onto ?_ _ | (with_reducible refine Ext.setCells ?_ ?_ _ _; rotate_left; focus (first | omega | (simp; done) | (simp; omega))) | (with_reducible refine Ext.setCell ?_ ?_ _; rotate_left; focus (first | omega | (simp; done) | (simp; omega))))))⟩
        · have e : p = (noEn, 8) := by rw [← HP.out, beginN, if_neg (by rw [HR1.out]; decide), if_neg c2, if_pos (by rw [HD.out]; exact ⟨c3, c4⟩)]
          subst e
          have hd : decide (s.body = D) = false := by simpa using c4
          simp only [hd, Bool.not_false] at hq
          clear hd c4 c3
          go_enter Tryz.func38, Tryz.ntmps38
          go_wp2_with (go_at_call 32; refine (HRt.out _).mono ?_; rintro e w' ⟨rfl, hxl⟩; obtain ⟨xl, rfl⟩ := hxl.asLater; clear hxl)
          refine wp_region_later (by kernel_rfl) (by kernel_rfl) ?_
          repeat (first | go_big_quiet_step ((go_at_call 35; exact quietE (rdigest_e D _ (RowAt.ext HK.out (((((Ext.refl _).alloc _).alloc _).onto _).onto _)) HD.out))) | quiet_step ((go_at_call 35; exact quietE (rdigest_e D _ (RowAt.ext HK.out (((((Ext.refl _).alloc _).alloc _).onto _).onto _)) HD.out))))
          refine wpQuiet_nil ?_
          rintro _ ⟨xq, rfl⟩
          go_wp2
          refine post_row got_ty Tryz.results38 rfl rfl (got_stored (by (repeat (first | with_reducible exact RowAt.newAt (cs := gotC noEn 0) (t := 61) (by simp) | with_reducible refine RowAt.drew ?_ | with_reducible refine RowAt.later ?_ _ | with_reducible exact RowAt.newAt (by first | rfl | omega | (simp [later_size, setCells_size]; done) | (simp [later_size, setCells_size]; omega)) | with_reducible refine RowAt.alloc ?_ _ | with_reducible apply RowAt.store | with_reducible refine RowAt.others ?_ ?_ _ _ | with_reducible refine RowAt.other ?_ ?_ _)); all_goals first | omega | (simp; done) | (simp; omega) | (simp [go_sem]; done)) (got_size _ _)) ⟨rfl, (by (repeat (first | with_reducible exact Ext.refl _ | with_reducible exact Ext.refl _ | with_reducible refine Ext.drew ?_ | with_reducible refine Ext.drewN ?_ _ | with_reducible refine Ext.alloc ?_ _ | with_reducible refine Ext.onto ?_ _ | (with_reducible refine Ext.setCells ?_ ?_ _ _; rotate_left; focus (first | omega | (simp; done) | (simp; omega))) | (with_reducible refine Ext.setCell ?_ ?_ _; rotate_left; focus (first | omega | (simp; done) | (simp; omega))))))⟩
      · have e : p = (emptyEn s false, 0) := by rw [← HP.out, beginN, if_neg (by rw [HR1.out]; decide), if_neg c2, if_neg (fun h => c3 h.1)]
        subst e
        have e1 : (s.size == 0) = false := by simpa using c3
        clear c3
        go_enter Tryz.func38, Tryz.ntmps38
        go_wp2_with (go_at_call 32; refine (HRt.out _).mono ?_; rintro e w' ⟨rfl, hxl⟩; obtain ⟨xl, rfl⟩ := hxl.asLater; clear hxl)
        refine wp_region_later (by kernel_rfl) (by kernel_rfl) ?_
        repeat (first | go_big_quiet_step (fail) | quiet_step (fail))
        refine wpQuiet_nil ?_
        rintro _ ⟨xq, rfl⟩
        have hfn : fitsRow 46 (gotC (emptyEn s false) 0) = true := got_fits_of 0 rfl
        go_wp2_with (go_at_call 77; refine (none_any s false _ (by omega) (by omega)).mono ?_; rintro e w' ⟨rfl, hxl⟩; obtain ⟨xl, rfl⟩ := hxl.asLater; clear hxl)
        refine post_row got_ty Tryz.results38 rfl rfl (got_stored (by (repeat (first | with_reducible exact RowAt.newAt (cs := gotC noEn 0) (t := 61) (by simp) | with_reducible refine RowAt.drew ?_ | with_reducible refine RowAt.later ?_ _ | with_reducible exact RowAt.newAt (by first | rfl | omega | (simp [later_size, setCells_size]; done) | (simp [later_size, setCells_size]; omega)) | with_reducible refine RowAt.alloc ?_ _ | with_reducible apply RowAt.store | with_reducible refine RowAt.others ?_ ?_ _ _ | with_reducible refine RowAt.other ?_ ?_ _)); all_goals first | omega | (simp; done) | (simp; omega) | (simp [go_sem]; done)) (got_size _ _)) ⟨rfl, (by (repeat (first | with_reducible exact Ext.refl _ | with_reducible exact Ext.refl _ | with_reducible refine Ext.drew ?_ | with_reducible refine Ext.drewN ?_ _ | with_reducible refine Ext.alloc ?_ _ | with_reducible refine Ext.onto ?_ _ | (with_reducible refine Ext.setCells ?_ ?_ _ _; rotate_left; focus (first | omega | (simp; done) | (simp; omega))) | (with_reducible refine Ext.setCell ?_ ?_ _; rotate_left; focus (first | omega | (simp; done) | (simp; omega))))))⟩
theorem plainA_none : plainA none := fun a h => (by cases h)
/-- What settled returns: the slice that came in, or none. -/
def SetlIs (r : Res) (A : Option Addr) (c : Nat) (l : List Sp) (e' : Ending) (w w' : World) : Prop := ∃ A' c', e' = .returned (.agg (gotC { r.e with hv := .slice A' r.l.length c' } r.n)) ∧ (A' = none ∧ c' = 0 ∧ r.l = [] ∨ A' = A ∧ c' = c ∧ r.l = l) ∧ Ext w w'
/-- What Put returns. -/
def GotIs (r : Res) (n : Int) (e' : Ending) (w w' : World) : Prop := ∃ A c, e' = .returned (.agg (gotC { r.e with hv := .slice A r.l.length c } n)) ∧ plainA A ∧ (A = none → c = 0) ∧ ReadsSp w' w'.heap.size A r.l ∧ Ext w w'
set_option maxRecDepth 100000 in
set_option maxHeartbeats 400000 in
theorem rsettled_any (e : En) (A : Option Addr) (c : Nat) (l : List Sp) (b : ByteArray) (w : World) (he : e = { e with hv := .slice A l.length c, bytes := b }) (hw : e.whole = false) (h0 : 0 ≤ e.st.size) (h1 : e.st.size ≤ 65536) (hbz : b.size ≤ 140737488351200) (hl : l.length ≤ 140737488355328)
    (hb : e.st.body.length = 16) (hby : Byt e.st.body) (hk : RKonst w) (hr : ReadsSp w w.heap.size A l) :
    Calls Tryz.prog 67 #[.agg (entC e)] w fun e' w' => SetlIs (settleN e l b) A c l e' w w' := by
  have hv : e.hv = .slice A l.length c := by rw [he]
  have hbs : e.bytes = b := by rw [he]
  have HE := Lib.hid he
  have HK := Lib.hid hk
  have HR := Lib.hid hr
  have hf : fitsRow 45 (entC e) = true := ent_fits_of hv
  have hfg : fitsRow 46 (gotC e 0) = true := got_fits_of 0 hv
  obtain ⟨r, hr2⟩ : ∃ r, settleN e l b = r := ⟨_, rfl⟩
  rw [hr2]
  have HS := Lib.hid hr2
  have HV := Lib.hid hv
  clear hk hr hr2 he
  cases hfu : fullB l e.st.size with
  | false =>
    have e1 : r = ⟨{ e with bytes := b }, l, 0⟩ := by rw [← HS.out, settleN, if_neg (by rw [hfu]; decide)]
    subst e1
    have HF := Lib.hid hfu
    clear hfu hv hbs
    go_enter Tryz.func67, Tryz.ntmps67
    go_wp2_with (go_at_call 70; refine (rfull_any e A c l _ HV.out hl (by omega) (HR.out.on (by (repeat (first | with_reducible exact Ext.refl _ | with_reducible exact Ext.refl _ | with_reducible refine Ext.drew ?_ | with_reducible refine Ext.drewN ?_ _ | with_reducible refine Ext.alloc ?_ _ | with_reducible refine Ext.onto ?_ _ | (with_reducible refine Ext.setCells ?_ ?_ _ _; rotate_left; focus (first | omega | (simp; done) | (simp; omega))) | (with_reducible refine Ext.setCell ?_ ?_ _; rotate_left; focus (first | omega | (simp; done) | (simp; omega)))))))).mono ?_; rw [HF.out]; rintro e w' ⟨rfl, hxl⟩; obtain ⟨xl, rfl⟩ := hxl.asLater; clear hxl)
    refine post_row got_ty Tryz.results67 rfl rfl (got_stored (by (repeat (first | with_reducible exact RowAt.newAt (cs := gotC noEn 0) (t := 61) (by simp) | with_reducible refine RowAt.drew ?_ | with_reducible refine RowAt.later ?_ _ | with_reducible exact RowAt.newAt (by first | rfl | omega | (simp [later_size, setCells_size]; done) | (simp [later_size, setCells_size]; omega)) | with_reducible refine RowAt.alloc ?_ _ | with_reducible apply RowAt.store | with_reducible refine RowAt.others ?_ ?_ _ _ | with_reducible refine RowAt.other ?_ ?_ _)); all_goals first | omega | (simp; done) | (simp; omega) | (simp [go_sem]; done)) (got_size _ _)) ⟨A, c, by rw [show ({ e with bytes := b, hv := .slice A l.length c } : En) = e from HE.out.symm], .inr ⟨rfl, rfl, rfl⟩, (by (repeat (first | with_reducible exact Ext.refl _ | with_reducible exact Ext.refl _ | with_reducible refine Ext.drew ?_ | with_reducible refine Ext.drewN ?_ _ | with_reducible refine Ext.alloc ?_ _ | with_reducible refine Ext.onto ?_ _ | (with_reducible refine Ext.setCells ?_ ?_ _ _; rotate_left; focus (first | omega | (simp; done) | (simp; omega))) | (with_reducible refine Ext.setCell ?_ ?_ _; rotate_left; focus (first | omega | (simp; done) | (simp; omega))))))⟩
  | true =>
    have HF := Lib.hid hfu
    clear hfu
    obtain ⟨D, hD⟩ : ∃ D, Wire.digest 34 [bts b] = D := ⟨_, rfl⟩
    have hq := neq_dig (a := D) (by rw [← hD]; exact digest_length _ _) hb (by rw [← hD]; exact digest_byt _ _) hby
    have HDD := Lib.hid hD
    clear hD
    by_cases hd : D = e.st.body
    · have e1 : r = ⟨{ e with bytes := b, whole := true }, l, 0⟩ := by rw [← HS.out, settleN, if_pos HF.out, if_pos (HDD.out.trans hd)]
      subst e1
      have dd : decide (D = e.st.body) = true := by simpa using hd
      simp only [dd, Bool.not_true] at hq
      have hf2 : fitsRow 46 (gotC { e with whole := true } 0) = true := got_fits_of 0 hv
      have he3 : ({ e with bytes := b, whole := true, hv := .slice A l.length c } : En) = { e with whole := true } := by
        have := HE.out
        rw [this]
      clear dd hd hb hby hv
      go_enter Tryz.func67, Tryz.ntmps67
      go_wp2_with (go_at_call 70; refine (rfull_any e A c l _ HV.out hl (by omega) (HR.out.on (by (repeat (first | with_reducible exact Ext.refl _ | with_reducible exact Ext.refl _ | with_reducible refine Ext.drew ?_ | with_reducible refine Ext.drewN ?_ _ | with_reducible refine Ext.alloc ?_ _ | with_reducible refine Ext.onto ?_ _ | (with_reducible refine Ext.setCells ?_ ?_ _ _; rotate_left; focus (first | omega | (simp; done) | (simp; omega))) | (with_reducible refine Ext.setCell ?_ ?_ _; rotate_left; focus (first | omega | (simp; done) | (simp; omega)))))))).mono ?_; rw [HF.out]; rintro e w' ⟨rfl, hxl⟩; obtain ⟨xl, rfl⟩ := hxl.asLater; clear hxl)
      refine wp_world (fun W => Ext w W ∧ RowAt W w.heap.size (entC e) ∧ RowAt W (w.heap.size + 1) (gotC noEn 0)) ⟨(by (repeat (first | with_reducible exact Ext.refl _ | with_reducible exact Ext.refl _ | with_reducible refine Ext.drew ?_ | with_reducible refine Ext.drewN ?_ _ | with_reducible refine Ext.alloc ?_ _ | with_reducible refine Ext.onto ?_ _ | (with_reducible refine Ext.setCells ?_ ?_ _ _; rotate_left; focus (first | omega | (simp; done) | (simp; omega))) | (with_reducible refine Ext.setCell ?_ ?_ _; rotate_left; focus (first | omega | (simp; done) | (simp; omega)))))), (by (repeat (first | with_reducible exact RowAt.new _ _ _ | with_reducible refine RowAt.drew ?_ | with_reducible refine RowAt.later ?_ _ | with_reducible exact RowAt.newAt (by first | rfl | omega | (simp [later_size, setCells_size]; done) | (simp [later_size, setCells_size]; omega)) | with_reducible refine RowAt.alloc ?_ _ | with_reducible apply RowAt.store | with_reducible refine RowAt.others ?_ ?_ _ _ | with_reducible refine RowAt.other ?_ ?_ _)); all_goals first | omega | (simp; done) | (simp; omega) | (simp [go_sem]; done)), RowAt.later (RowAt.newAt (by simp)) _⟩ ?_
      rintro W ⟨hx0, r1, r2⟩
      have HX0 := Lib.hid hx0
      have HR1 := Lib.hid r1
      have HR2 := Lib.hid r2
      have c43 : W.cell? ⟨w.heap.size, 43, none⟩ = some (.string b) := (r1.cell 43).trans (by rw [ent_g43, hbs])
      have c41 : W.cell? ⟨w.heap.size, 41, none⟩ = some (.bool e.soft) := (r1.cell 41).trans (ent_g41 e)
      have r41 : rowOf W w.heap.size 0 41 = some (stmC e.st) := by rw [r1.row, if_neg (by omega), ent_stm]
      have hbd : rowOf W w.heap.size 4 16 = some (dgC e.st.body) := by rw [r1.row, if_neg (by omega), ent_body]
      have f44 : W.frozen? ⟨w.heap.size, 44, none⟩ = false := r1.free 44
      have c44 : W.cell? ⟨w.heap.size, 44, none⟩ = some (.bool e.whole) := (r1.cell 44).trans (ent_g44 e)
      have hroom : roomOf W (w.heap.size + 1) 0 46 = true := by rw [r2.room, got_size]; rfl
      have hl1 := r1.lt
      have hrow : rowOf W w.heap.size 0 45 = some (entC e) := r1.all (ent_size e).symm (by omega)
      have hl2 := r2.lt
      clear hx0 r1 r2 hbs hfg hf
      refine wp_region_later (by kernel_rfl) (by kernel_rfl) ?_
      repeat (first | go_big_quiet_step ((go_at_call 35; exact quietE (rdigest_is b D _ (RowAt.ext HK.out (HX0.out.onto _)) hbz HDD.out))) | quiet_step ((go_at_call 35; exact quietE (rdigest_is b D _ (RowAt.ext HK.out (HX0.out.onto _)) hbz HDD.out))))
      refine wpQuiet_nil ?_
      rintro _ ⟨xq, rfl⟩
      go_wp2
      refine post_row got_ty Tryz.results67 rfl rfl (got_stored (RowAt.other (RowAt.later HR2.out _) (p := ⟨w.heap.size, 44, none⟩) (by show w.heap.size + 1 ≠ w.heap.size; omega) _) (got_size _ _)) ⟨A, c, by rw [he3], .inr ⟨rfl, rfl, rfl⟩, ?_⟩
      exact ((HX0.out.onto _).setCell (p := ⟨w.heap.size, 44, none⟩) (Nat.le_refl _) _).setCells (by omega) _ _
    · have e1 : r = ⟨emptyEn e.st e.soft, [], 8⟩ := by rw [← HS.out, settleN, if_pos HF.out, if_neg (by rw [HDD.out]; exact hd)]
      subst e1
      have dd : decide (D = e.st.body) = false := by simpa using hd
      simp only [dd, Bool.not_false] at hq
      have hf2 : fitsRow 46 (gotC (emptyEn e.st e.soft) 8) = true := got_fits_of 8 rfl
      clear dd hd hb hby hv
      go_enter Tryz.func67, Tryz.ntmps67
      go_wp2_with (go_at_call 70; refine (rfull_any e A c l _ HV.out hl (by omega) (HR.out.on (by (repeat (first | with_reducible exact Ext.refl _ | with_reducible exact Ext.refl _ | with_reducible refine Ext.drew ?_ | with_reducible refine Ext.drewN ?_ _ | with_reducible refine Ext.alloc ?_ _ | with_reducible refine Ext.onto ?_ _ | (with_reducible refine Ext.setCells ?_ ?_ _ _; rotate_left; focus (first | omega | (simp; done) | (simp; omega))) | (with_reducible refine Ext.setCell ?_ ?_ _; rotate_left; focus (first | omega | (simp; done) | (simp; omega)))))))).mono ?_; rw [HF.out]; rintro e w' ⟨rfl, hxl⟩; obtain ⟨xl, rfl⟩ := hxl.asLater; clear hxl)
      refine wp_world (fun W => Ext w W ∧ RowAt W w.heap.size (entC e) ∧ RowAt W (w.heap.size + 1) (gotC noEn 0)) ⟨(by (repeat (first | with_reducible exact Ext.refl _ | with_reducible exact Ext.refl _ | with_reducible refine Ext.drew ?_ | with_reducible refine Ext.drewN ?_ _ | with_reducible refine Ext.alloc ?_ _ | with_reducible refine Ext.onto ?_ _ | (with_reducible refine Ext.setCells ?_ ?_ _ _; rotate_left; focus (first | omega | (simp; done) | (simp; omega))) | (with_reducible refine Ext.setCell ?_ ?_ _; rotate_left; focus (first | omega | (simp; done) | (simp; omega)))))), (by (repeat (first | with_reducible exact RowAt.new _ _ _ | with_reducible refine RowAt.drew ?_ | with_reducible refine RowAt.later ?_ _ | with_reducible exact RowAt.newAt (by first | rfl | omega | (simp [later_size, setCells_size]; done) | (simp [later_size, setCells_size]; omega)) | with_reducible refine RowAt.alloc ?_ _ | with_reducible apply RowAt.store | with_reducible refine RowAt.others ?_ ?_ _ _ | with_reducible refine RowAt.other ?_ ?_ _)); all_goals first | omega | (simp; done) | (simp; omega) | (simp [go_sem]; done)), RowAt.later (RowAt.newAt (by simp)) _⟩ ?_
      rintro W ⟨hx0, r1, r2⟩
      have HX0 := Lib.hid hx0
      have HR1 := Lib.hid r1
      have HR2 := Lib.hid r2
      have c43 : W.cell? ⟨w.heap.size, 43, none⟩ = some (.string b) := (r1.cell 43).trans (by rw [ent_g43, hbs])
      have c41 : W.cell? ⟨w.heap.size, 41, none⟩ = some (.bool e.soft) := (r1.cell 41).trans (ent_g41 e)
      have r41 : rowOf W w.heap.size 0 41 = some (stmC e.st) := by rw [r1.row, if_neg (by omega), ent_stm]
      have hbd : rowOf W w.heap.size 4 16 = some (dgC e.st.body) := by rw [r1.row, if_neg (by omega), ent_body]
      have f44 : W.frozen? ⟨w.heap.size, 44, none⟩ = false := r1.free 44
      have c44 : W.cell? ⟨w.heap.size, 44, none⟩ = some (.bool e.whole) := (r1.cell 44).trans (ent_g44 e)
      have hroom : roomOf W (w.heap.size + 1) 0 46 = true := by rw [r2.room, got_size]; rfl
      have hl1 := r1.lt
      have hrow : rowOf W w.heap.size 0 45 = some (entC e) := r1.all (ent_size e).symm (by omega)
      have hl2 := r2.lt
      clear hx0 r1 r2 hbs hfg hf
      refine wp_region_later (by kernel_rfl) (by kernel_rfl) ?_
      repeat (first | go_big_quiet_step ((go_at_call 35; exact quietE (rdigest_is b D _ (RowAt.ext HK.out (HX0.out.onto _)) hbz HDD.out))) | quiet_step ((go_at_call 35; exact quietE (rdigest_is b D _ (RowAt.ext HK.out (HX0.out.onto _)) hbz HDD.out))))
      refine wpQuiet_nil ?_
      rintro _ ⟨xq, rfl⟩
      go_wp2_with (go_at_call 77; refine (none_any e.st e.soft _ h0 h1).mono ?_; rintro e w' ⟨rfl, hxl⟩; obtain ⟨xl, rfl⟩ := hxl.asLater; clear hxl)
      refine post_row got_ty Tryz.results67 rfl rfl (got_stored (by (repeat (first | with_reducible exact HR2.out | with_reducible refine RowAt.drew ?_ | with_reducible refine RowAt.later ?_ _ | with_reducible exact RowAt.newAt (by first | rfl | omega | (simp [later_size, setCells_size]; done) | (simp [later_size, setCells_size]; omega)) | with_reducible refine RowAt.alloc ?_ _ | with_reducible apply RowAt.store | with_reducible refine RowAt.others ?_ ?_ _ _ | with_reducible refine RowAt.other ?_ ?_ _)); all_goals first | omega | (simp; done) | (simp; omega) | (simp [go_sem]; done)) (got_size _ _)) ⟨none, 0, rfl, .inl ⟨rfl, rfl, rfl⟩, (by (repeat (first | with_reducible exact HX0.out | with_reducible exact Ext.refl _ | with_reducible refine Ext.drew ?_ | with_reducible refine Ext.drewN ?_ _ | with_reducible refine Ext.alloc ?_ _ | with_reducible refine Ext.onto ?_ _ | (with_reducible refine Ext.setCells ?_ ?_ _ _; rotate_left; focus (first | omega | (simp; done) | (simp; omega))) | (with_reducible refine Ext.setCell ?_ ?_ _; rotate_left; focus (first | omega | (simp; done) | (simp; omega))))))⟩
end Go.Proofs.YtjdheaimjodcoaaGreatDoor

namespace Go.Proofs.YtjdheaimjodcoaaGreatDoor
open Go.RowKit Go.Shelf
open Go.Proofs
open Go.Proofs.Sp (Sp)

theorem got_row {w : World} {b : Nat} {e : En} {n : Int} (h : RowAt w b (gotC e n)) : rowOf w b 0 46 = some (gotC e n) := h.all (got_size _ _).symm (by omega)
theorem settle_same (e : En) (v : Value) (b' b : ByteArray) (l : List Sp) : (settleN ⟨e.st, e.soft, v, b', e.whole⟩ l b).l = (settleN e l b).l ∧ (settleN ⟨e.st, e.soft, v, b', e.whole⟩ l b).n = (settleN e l b).n ∧ ∀ u, ({ (settleN ⟨e.st, e.soft, v, b', e.whole⟩ l b).e with hv := u } : En) = { (settleN e l b).e with hv := u } := by
  unfold settleN
  split
  · split
    · exact ⟨rfl, rfl, fun _ => rfl⟩
    · exact ⟨rfl, rfl, fun _ => rfl⟩
  · exact ⟨rfl, rfl, fun _ => rfl⟩
theorem hv_same {e : En} {v : Value} (h : e.hv = v) : ({ e with hv := v } : En) = e := by subst h; rfl
theorem cat_len {b x : ByteArray} {p : Nat} (h : p + x.size ≤ b.size) : (b.extract 0 p ++ x).size = p + x.size := by
  rw [ByteArray.size_append, extract_sz (by omega)]; omega
set_option maxRecDepth 100000 in
set_option maxHeartbeats 400000 in
theorem rput_any (e : En) (A : Option Addr) (c : Nat) (l : List Sp) (f : Int) (more : ByteArray) (w : World) (hv : e.hv = .slice A l.length c) (hval : Val e l) (hf63 : -9223372036854775808 ≤ f ∧ f ≤ 9223372036854775807) (hm : more.size ≤ 140737488355328)
    (hb : e.st.body.length = 16) (hby : Byt e.st.body) (hk : RKonst w) (hA : plainA A) (hz : A = none → c = 0) (hr : ReadsSp w w.heap.size A l) :
    Calls Tryz.prog 41 #[.agg (entC e), .int .i64 f, .string more] w fun e' w' => GotIs (putN e l f more) (putN e l f more).n e' w w' := by
  have hfit : fitsRow 45 (entC e) = true := ent_fits_of hv
  have h44 : (entC e)[44]? = some (.bool e.whole) := ent_g44 e
  have HA := Lib.hid hA
  have HZ := Lib.hid hz
  have HR := Lib.hid hr
  have HK := Lib.hid hk
  have HVal := Lib.hid hval
  have HB := Lib.hid hb
  have HBy := Lib.hid hby
  have hz0 := hval.z0
  have hz1 := hval.sz
  have hbs := hval.bs
  have hll := hval.len
  have hvs := hv_same hv
  obtain ⟨r, hr2⟩ : ∃ r, putN e l f more = r := ⟨_, rfl⟩
  rw [hr2]
  have HP := Lib.hid hr2
  have HV := Lib.hid hv
  clear hA hz hr hk hval hb hby hr2
  cases hw : e.whole with
  | true =>
    have e1 : r = ⟨e, l, 4⟩ := by rw [← HP.out, putN, if_pos hw]
    subst e1
    rw [hw] at h44
    have hf4 : fitsRow 46 (gotC e 4) = true := got_fits_of 4 hv
    clear hw hv
    go_enter Tryz.func41, Tryz.ntmps41
    go_wp2
    refine post_row got_ty Tryz.results41 rfl rfl (got_stored (RowAt.newAt (cs := gotC noEn 0) (t := 61) (by simp)) (got_size _ _)) ⟨A, c, by rw [hvs], HA.out, HZ.out, HR.out.on (Ext.setCells (((Ext.refl w).alloc _).alloc _) (by omega) _ _), Ext.setCells (((Ext.refl w).alloc _).alloc _) (by omega) _ _⟩
  | false =>
    rw [hw] at h44
    by_cases hc : f < 0 ∨ e.st.size < f ∨ e.st.size < f + more.size
    · have e1 : r = ⟨e, l, 1⟩ := by rw [← HP.out, putN, if_neg (by rw [hw]; decide), if_pos hc]
      subst e1
      have hf4 : fitsRow 46 (gotC e 1) = true := got_fits_of 1 hv
      clear hw hv
      by_cases hc1 : f < 0
      · have d1 : decide (f < 0) = true := by simpa using hc1
        clear hc hc1
        go_enter Tryz.func41, Tryz.ntmps41
        go_wp2
        refine post_row got_ty Tryz.results41 rfl rfl (got_stored (RowAt.newAt (cs := gotC noEn 0) (t := 61) (by simp)) (got_size _ _)) ⟨A, c, by rw [hvs], HA.out, HZ.out, HR.out.on (Ext.setCells (((Ext.refl w).alloc _).alloc _) (by omega) _ _), Ext.setCells (((Ext.refl w).alloc _).alloc _) (by omega) _ _⟩
      · have d1 : decide (f < 0) = false := by simpa using hc1
        by_cases hc2 : e.st.size < f
        · have d2 : decide (e.st.size < f) = true := by simpa using hc2
          clear hc hc1 hc2
          go_enter Tryz.func41, Tryz.ntmps41
          go_wp2
          refine post_row got_ty Tryz.results41 rfl rfl (got_stored (RowAt.newAt (cs := gotC noEn 0) (t := 61) (by simp)) (got_size _ _)) ⟨A, c, by rw [hvs], HA.out, HZ.out, HR.out.on (Ext.setCells (((Ext.refl w).alloc _).alloc _) (by omega) _ _), Ext.setCells (((Ext.refl w).alloc _).alloc _) (by omega) _ _⟩
        · have d2 : decide (e.st.size < f) = false := by simpa using hc2
          have d3 : decide (e.st.size < f + more.size) = true := by simp; omega
          clear hc
          go_enter Tryz.func41, Tryz.ntmps41
          go_wp2
          refine post_row got_ty Tryz.results41 rfl rfl (got_stored (RowAt.newAt (cs := gotC noEn 0) (t := 61) (by simp)) (got_size _ _)) ⟨A, c, by rw [hvs], HA.out, HZ.out, HR.out.on (Ext.setCells (((Ext.refl w).alloc _).alloc _) (by omega) _ _), Ext.setCells (((Ext.refl w).alloc _).alloc _) (by omega) _ _⟩
    · obtain ⟨p, rfl⟩ : ∃ p : Nat, f = p := ⟨f.toNat, by omega⟩
      have hpm : p + more.size ≤ e.bytes.size := by omega
      have e1 : r = settleN e (Sp.rAdd l ((p : Int), (p : Int) + more.size)) (overB e.bytes p more) := by rw [← HP.out, putN, if_neg (by rw [hw]; decide), if_neg hc, Int.toNat_natCast]
      have HRr := Lib.hid e1
      clear e1
      have d1 : decide ((p : Int) < 0) = false := by simp <;> omega
      have d2 : decide (e.st.size < (p : Int)) = false := by simp <;> omega
      have d3 : decide (e.st.size < (p : Int) + more.size) = false := by simp <;> omega
      have hps : (p : Int) + more.size ≤ e.st.size := by omega
      have hcat := cat_over hpm
      have hcl := cat_len hpm
      have hxl : (e.bytes.extract 0 p).size = p := by rw [extract_sz (by omega)]; omega
      have hxr : (e.bytes.extract (p + more.size) e.bytes.size).size = e.bytes.size - (p + more.size) := extract_sz (Nat.le_refl _)
      clear hc HP
      go_enter Tryz.func41, Tryz.ntmps41
      go_wp2
      clear d1 d2 d3
      refine wp_region_later_tail 15 (by kernel_rfl) (by kernel_rfl) ?_
      simp only [List.take_succ_cons, List.take_zero, List.drop_succ_cons, List.drop_zero]
      repeat (first | go_big_quiet_step (fail) | quiet_step (fail))
      refine wpQuiet_nil ?_
      rintro _ ⟨xq, rfl⟩
      go_wp2_with (go_at_call 36; refine (show Hid _ from ?_).out)
      refine Lib.hid ?_
      refine calls_world (fun W => Ext w W ∧ RowAt W w.heap.size (entC { e with bytes := overB e.bytes p more }) ∧ RowAt W (w.heap.size + 1) (gotC noEn 0)) ⟨Ext.setCell ((((Ext.refl w).alloc _).alloc _).onto _) (p := ⟨w.heap.size, 43, none⟩) (Nat.le_refl _) _, by rw [← ent_set43 e]; exact (((RowAt.new w _ _).alloc _).later _).set 43 _, RowAt.other (RowAt.later (RowAt.newAt (cs := gotC noEn 0) (t := 61) (by simp)) _) (p := ⟨w.heap.size, 43, none⟩) (by show w.heap.size + 1 ≠ w.heap.size; omega) _⟩ ?_
      rintro W ⟨hx0, r1, r2⟩
      have HX0 := Lib.hid hx0
      have HR1 := Lib.hid r1
      have HR2 := Lib.hid r2
      have hl1 := r1.lt
      have hl2 := r2.lt
      have f42 : W.frozen? ⟨w.heap.size, 42, none⟩ = false := r1.free 42
      have c42 : W.cell? ⟨w.heap.size, 42, none⟩ = some e.hv := (r1.cell 42).trans (ent_g42 _)
      have hrow : rowOf W w.heap.size 0 45 = some (entC { e with bytes := overB e.bytes p more }) := r1.all (ent_size _).symm (by omega)
      have hroom : roomOf W (w.heap.size + 1) 0 46 = true := by rw [r2.room, got_size]; rfl
      clear hx0 r1 r2 hcat hcl hxl hxr hfit h44
      refine (radd_any A c l ((p : Int), (p : Int) + more.size) _ (by omega) (HR.out.on HX0.out) HZ.out).mono ?_
      rintro e' w' ⟨A2, c2, out, rfl, HO, ho, hx⟩
      have HOo := Lib.hid ho
      obtain ⟨x2, rfl⟩ := hx.asLater
      clear ho hx
      have hb2 : (overB e.bytes p more).size = e.bytes.size := overB_size hpm
      have hsn := SetIn.len (rAdd_in (f := (p : Int)) (t := (p : Int) + more.size) HVal.out.si (by omega) hps).1 hz0
      rw [← HO.out] at hsn
      go_wp2_with (go_at_call 67; refine (show Hid _ from ?_).out)
      refine Lib.hid ?_
      have hsame := settle_same e (.slice A2 out.length c2) (overB e.bytes p more) (overB e.bytes p more) out
      rw [hw] at hsame
      have er : settleN e out (overB e.bytes p more) = r := by rw [HO.out]; exact HRr.out.symm
      rw [er] at hsame
      clear er
      refine calls_world (fun W' => Ext w W' ∧ OwnsSp W.heap.size W' A2 c2 out ∧ RowAt W' (w.heap.size + 1) (gotC noEn 0)) ⟨Ext.setCell (HX0.out.onto _) (p := ⟨w.heap.size, 42, none⟩) (Nat.le_refl _) _, HOo.out.other (p := ⟨w.heap.size, 42, none⟩) hl1 _, RowAt.other (HR2.out.later _) (p := ⟨w.heap.size, 42, none⟩) (by show w.heap.size + 1 ≠ w.heap.size; omega) _⟩ ?_
      rintro W3 ⟨hx3, ho3, r3⟩
      have HX3 := Lib.hid hx3
      have HR3 := Lib.hid r3
      have hl3 := r3.lt
      have hroom3 : roomOf W3 (w.heap.size + 1) 0 46 = true := by rw [r3.room, got_size]; rfl
      have HO3 := Lib.hid ho3
      refine (rsettled_any ⟨e.st, e.soft, .slice A2 out.length c2, overB e.bytes p more, false⟩ A2 c2 out (overB e.bytes p more) W3 rfl rfl hz0 hz1 (by omega) (by omega) HB.out HBy.out (RowAt.ext HK.out hx3) (ho3.reads spE)).mono ?_
      clear hx3 ho3 r3 hroom hrow c42 f42 HR1 HR2 HOo
      rintro e' w' ⟨A4, c4, rfl, hor, hx4⟩
      obtain ⟨s1, s2, s3⟩ := hsame
      rw [s1] at hor
      rw [s1, s2, s3]
      have HOr := Lib.hid hor
      obtain ⟨x4, rfl⟩ := hx4.asLater
      have hf4 : fitsRow 46 (gotC { r.e with hv := .slice A4 r.l.length c4 } r.n) = true := got_fits_of r.n rfl
      clear hor hx4 s1 s2 s3
      go_wp2
      refine post_row got_ty Tryz.results41 rfl rfl (got_stored (HR3.out.later _) (got_size _ _)) ⟨A4, c4, rfl, ?_, ?_, ?_, Ext.setCells (HX3.out.onto _) (by omega) _ _⟩
      · rcases HOr.out with ⟨q, _⟩ | ⟨q, _⟩
        · subst q; exact plainA_none
        · subst q; exact HO3.out.plain
      · rcases HOr.out with ⟨_, q, _⟩ | ⟨q, q2, _⟩
        · exact fun _ => q
        · subst q q2; exact HO3.out.none0
      · rcases HOr.out with ⟨_, _, q⟩ | ⟨q, q2, q3⟩
        · rw [q]; exact Reads.nil _ _ _ _ _
        · subst q; rw [q3]; exact ((HO3.out.later x4).others (by omega) _ _).reads spE
end Go.Proofs.YtjdheaimjodcoaaGreatDoor
