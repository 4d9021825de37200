/- seal.Check (given what Find answers). -/
import Derived.Test.YtpfhmcdcmepfdaaGreatDoorProg
import Derived.Test.YtpfhmcdcmepfdaaGreatDoorKSpv
import Derived.WalkKit
import Derived.WalkSpells
import Derived.WalkLawsBesides
import Derived.Deep.QuietTactic
import Derived.BigQuiet
import Derived.Test.YtpfhmcdcmepfdaaGreatDoorKXa
import Derived.Test.YtpfhmcdcmepfdaaGreatDoorKWa
set_option linter.unusedVariables false
set_option linter.unusedSimpArgs false
namespace Go.Proofs.YtpfhmcdcmepfdaaGreatDoor
open Go.RowKit Go.Shelf
open Go.Proofs

def fromAn (addr var : ByteArray) (a : An) (lo hi : Int) : St := ⟨addr, var, a.status, a.size, a.body, a.tags, lo, hi, 0, 0, zeros32 16⟩
noncomputable def stampIn (k : Ky) (addr var : ByteArray) (a : An) (n v : Clk) (cs : ByteArray) (ce : Int) : St × Int :=
  if ce = 0 then if cs = addr then if listedB a.tags = true then if v.hi < n.lo then (noSt, 9) else (sealedSt k (fromAn addr var a n.lo v.hi), 0) else (noSt, 3) else (noSt, 3) else (noSt, 3)
theorem stm_loaded {w : World} {b : Nat} {s : St} (h : rowOf w b 0 41 = some (stmC s)) : (loadVar 32 ⟨b, 0, none⟩).run Tryz.prog w = .ok (.agg (stmC s)) w := run_loadVar_row stm_ty h
def stmB7 (x0 x1 x2 x3 x4 x5 x6 : Value) : Sem Next := do pure (.value (← Instr.build 32 #[(0, x0), (1, x1), (2, x2), (3, x3), (4, x4), (5, x5), (6, x6)]))
theorem stmB7_x (ρ : Operand → Value) (dst : Option Tmp) (x0 x1 x2 x3 x4 x5 x6 : Operand) (t : TypeId) (pos : String) (after : Array Edge) (guard : Option (Nat × Bool)) : execOp ρ { dst, op := .build 32 #[(0, x0), (1, x1), (2, x2), (3, x3), (4, x4), (5, x5), (6, x6)], type := t, pos, after, guard } = stmB7 (ρ x0) (ρ x1) (ρ x2) (ρ x3) (ρ x4) (ρ x5) (ρ x6) := by kernel_rfl
theorem stmB7_run (addr var : ByteArray) (a : An) (lo hi : Int) (W : World) : (stmB7 (.string addr) (.string var) (.int .i64 a.status) (.int .i64 a.size) (.agg (dgC a.body)) (.string a.tags) (.agg #[.int .i64 lo, .int .i64 hi])).run Tryz.prog W = .ok (.value (.agg (stmC (fromAn addr var a lo hi)))) W := by kernel_rfl
def stmB0 : Sem Next := do pure (.value (← Instr.build 32 #[]))
theorem stmB0_x (ρ : Operand → Value) (dst : Option Tmp) (t : TypeId) (pos : String) (after : Array Edge) (guard : Option (Nat × Bool)) : execOp ρ { dst, op := .build 32 #[], type := t, pos, after, guard } = stmB0 := by kernel_rfl
theorem stmB0_run (W : World) : stmB0.run Tryz.prog W = .ok (.value (.agg (stmC noSt))) W := by kernel_rfl
attribute [go_sem ↓] stmB7_x stmB0_x
attribute [go_sem] stmB7_run stmB0_run
set_option maxRecDepth 100000 in
set_option maxHeartbeats 2000000 in
theorem ostampi_any (k : Ky) (addr var : ByteArray) (a : An) (n v : Clk) (cs : ByteArray) (ce : Int) (w : World) (h16 : a.body.length = 16) (hi : ∀ x ∈ stInts (named k (fromAn addr var a n.lo v.hi)), i64 x) (hl : lens ([k.secret] ++ stParts (named k (fromAn addr var a n.lo v.hi)) ++ [k.secret]) < 8796093022208) (ht : a.tags.size ≤ 900000) (hk : Konst 1 w)
    (hc : ∀ W, Ext w W → Calls Tryz.prog 108 #[.string addr] W fun e w' => e = .returned (.tuple #[.string cs, .int .i64 ce]) ∧ Ext W w') :
    Calls Tryz.prog 50 #[.agg (kyC k), .string addr, .string var, .agg (anC a), .agg (clkC n), .agg (clkC v)] w fun e w' => e = .returned (.tuple #[.agg (stmC (stampIn k addr var a n v cs ce).1), .int .i64 (stampIn k addr var a n v cs ce).2]) ∧ Ext w w' := by
  have HI := Lib.hid (fun (W : World) (h3 : Konst 1 W) => sealStamp_any k (fromAn addr var a n.lo v.hi) W h16 hi hl h3)
  have HC := Lib.hid hc
  have HT := Lib.hid (fun W : World => olisted_any a.tags W ht)
  have HK := Lib.hid hk
  obtain ⟨R, hR⟩ : ∃ R, stampIn k addr var a n v cs ce = R := ⟨_, rfl⟩
  have HR := Lib.hid hR
  rw [hR]
  have hft0 := stm_fits noSt
  have hsi := str_is cs addr
  generalize hT : sealedSt k (fromAn addr var a n.lo v.hi) = T at *
  have hft := stm_fits T
  clear h16 hi hl ht hk hc hR
  go_enter Tryz.func50, Tryz.ntmps50
  go_upto_region 2 with (go_at_call 108; refine (HC.out _ (by (repeat (first | with_reducible exact Ext.refl _ | with_reducible exact Ext.refl _ | with_reducible refine Ext.drew ?_ | with_reducible refine Ext.drewN ?_ _ | with_reducible refine Ext.alloc ?_ _ | with_reducible refine Ext.onto ?_ _ | (with_reducible refine Ext.setCells ?_ ?_ _ _; rotate_left; focus (first | omega | (simp; done) | (simp; omega))) | (with_reducible refine Ext.setCell ?_ ?_ _; rotate_left; focus (first | omega | (simp; done) | (simp; omega))))))).mono ?_; rintro e w' ⟨rfl, hxl⟩; obtain ⟨xl, rfl⟩ := hxl.asLater; clear hxl)
  refine wp_world (fun W => Ext w W ∧ RowAt W w.heap.size (kyC k) ∧ RowAt W (w.heap.size + 1) (anC a) ∧ RowAt W (w.heap.size + 1 + 1) (clkC n) ∧ RowAt W (w.heap.size + 1 + 1 + 1) (clkC v) ∧ RowAt W (w.heap.size + 1 + 1 + 1 + 1) (stmC noSt)) ⟨(by (repeat (first | with_reducible exact Ext.refl _ | with_reducible exact Ext.refl _ | with_reducible refine Ext.drew ?_ | with_reducible refine Ext.drewN ?_ _ | with_reducible refine Ext.alloc ?_ _ | with_reducible refine Ext.onto ?_ _ | (with_reducible refine Ext.setCells ?_ ?_ _ _; rotate_left; focus (first | omega | (simp; done) | (simp; omega))) | (with_reducible refine Ext.setCell ?_ ?_ _; rotate_left; focus (first | omega | (simp; done) | (simp; omega)))))), ?_, ?_, ?_, ?_, ?_⟩ ?_
  · exact RowAt.later (((((RowAt.new _ _ _).alloc _).alloc _).alloc _).alloc _) _
  · exact RowAt.later ((((RowAt.newAt (by simp)).alloc _).alloc _).alloc _) _
  · exact RowAt.later (((RowAt.newAt (by simp)).alloc _).alloc _) _
  · exact RowAt.later ((RowAt.newAt (by simp)).alloc _) _
  · exact RowAt.later (RowAt.newAt (by simp)) _
  obtain ⟨B, hB⟩ : ∃ B, w.heap.size = B := ⟨_, rfl⟩
  rw [hB]
  rintro W1 ⟨x1, u0, u1, u2, u3, u4⟩
  have HX1 := Lib.hid x1
  have HU4 := Lib.hid u4
  have k0 : rowOf W1 B 0 5 = some (kyC k) := u0.all rfl (by omega)
  have a0 : W1.cell? ⟨B + 1, 0, none⟩ = some (.int .i64 a.status) := u1.cell 0
  have a1 : W1.cell? ⟨B + 1, 1, none⟩ = some (.int .i64 a.size) := u1.cell 1
  have a2 : rowOf W1 (B + 1) 2 16 = some (dgC a.body) := by rw [u1.row, if_neg (by omega), an_body]
  have a3 : W1.cell? ⟨B + 1, 19, none⟩ = some (.string a.tags) := u1.cell 19
  have n0 : W1.cell? ⟨B + 1 + 1, 0, none⟩ = some (.int .i64 n.lo) := u2.cell 0
  have v1 : W1.cell? ⟨B + 1 + 1 + 1, 1, none⟩ = some (.int .i64 v.hi) := u3.cell 1
  have m4 : roomOf W1 (B + 1 + 1 + 1 + 1) 0 41 = true := by rw [u4.room]; rfl
  have hlu := u4.lt
  clear x1 u0 u1 u2 u3 u4
  by_cases b0 : ce = 0
  · subst b0
    by_cases b1 : cs = addr
    · subst b1
      by_cases b2 : listedB a.tags = true
      · by_cases b3 : v.hi < n.lo
        · have HR' : Hid (R = (noSt, 9)) := Lib.hid (by rw [← HR.out]; simp only [stampIn, b2, if_true]; rw [if_pos b3])
          rw [b2] at HT
          clear b2 HR hT HI hsi
          go_wp2_with (go_at_call 96; refine (HT.out _).mono ?_; rintro e w' ⟨rfl, hxl⟩; obtain ⟨xl, rfl⟩ := hxl.asLater; clear hxl)
          rw [HR'.out]
          refine post_two (v1 := .agg (stmC noSt)) (v2 := .int .i64 9) Tryz.results50 rfl ⟨_, rfl, stm_loaded (RowAt.stored (n := 41) (HU4.out.later _) rfl rfl (by omega))⟩ rfl ⟨rfl, Ext.setCells (HX1.out.onto _) (by omega) _ _⟩
        · have HR' : Hid (R = (T, 0)) := Lib.hid (by rw [← HR.out, ← hT]; simp only [stampIn, b2, if_true]; rw [if_neg b3])
          rw [b2] at HT
          clear b2 HR hT hsi
          go_wp2_with (first | (go_at_call 96; refine (HT.out _).mono ?_; rintro e w' ⟨rfl, hxl⟩; obtain ⟨xl, rfl⟩ := hxl.asLater; clear hxl) | (go_at_call 109; refine (HI.out _ (HK.out.ext (HX1.out.onto _))).mono ?_; rintro e w' ⟨rfl, hxl⟩; obtain ⟨xl, rfl⟩ := hxl.asLater; clear hxl))
          rw [HR'.out]
          refine post_two (v1 := .agg (stmC T)) (v2 := .int .i64 0) Tryz.results50 rfl ⟨_, rfl, stm_loaded (RowAt.stored (n := 41) (HU4.out.later _) rfl rfl (by omega))⟩ rfl ⟨rfl, Ext.setCells (HX1.out.onto _) (by omega) _ _⟩
      · have e2 : listedB a.tags = false := by simpa using b2
        have HR' : Hid (R = (noSt, 3)) := Lib.hid (by rw [← HR.out]; simp only [stampIn, e2, if_true]; rfl)
        rw [e2] at HT
        clear b2 e2 HR hT HI hsi
        go_wp2_with (go_at_call 96; refine (HT.out _).mono ?_; rintro e w' ⟨rfl, hxl⟩; obtain ⟨xl, rfl⟩ := hxl.asLater; clear hxl)
        rw [HR'.out]
        refine post_two (v1 := .agg (stmC noSt)) (v2 := .int .i64 3) Tryz.results50 rfl ⟨_, rfl, stm_loaded (RowAt.stored (n := 41) (HU4.out.later _) rfl rfl (by omega))⟩ rfl ⟨rfl, Ext.setCells (HX1.out.onto _) (by omega) _ _⟩
    · have HR' : Hid (R = (noSt, 3)) := Lib.hid (by rw [← HR.out]; simp only [stampIn, if_true]; rw [if_neg b1])
      have e1 : (cs.toList == addr.toList) = false := by rw [hsi]; simpa using b1
      clear HR hT HI HT b1 hsi
      go_wp2
      rw [HR'.out]
      refine post_two (v1 := .agg (stmC noSt)) (v2 := .int .i64 3) Tryz.results50 rfl ⟨_, rfl, stm_loaded (RowAt.stored (n := 41) HU4.out rfl rfl (by omega))⟩ rfl ⟨rfl, Ext.setCells HX1.out (by omega) _ _⟩
  · have HR' : Hid (R = (noSt, 3)) := Lib.hid (by rw [← HR.out]; simp only [stampIn]; rw [if_neg b0])
    clear HR hT HI HT hsi
    go_wp2
    rw [HR'.out]
    refine post_two (v1 := .agg (stmC noSt)) (v2 := .int .i64 3) Tryz.results50 rfl ⟨_, rfl, stm_loaded (RowAt.stored (n := 41) HU4.out rfl rfl (by omega))⟩ rfl ⟨rfl, Ext.setCells HX1.out (by omega) _ _⟩
end Go.Proofs.YtpfhmcdcmepfdaaGreatDoor


set_option linter.unusedVariables false
set_option linter.unusedSimpArgs false
namespace Go.Proofs.YtpfhmcdcmepfdaaGreatDoor
open Go.RowKit Go.Shelf
open Go.Proofs

def goodS (k : Ky) (a : An) (n v : Clk) : Bool := okKy k && okClk n && okClk v && !a.same && (a.size == (a.bytes.size : Int)) && decide (a.body = dgN a.bytes)
noncomputable def stampOut (k : Ky) (addr var : ByteArray) (a : An) (n v : Clk) (cs : ByteArray) (ce : Int) : St × Int :=
  if goodS k a n v = true then stampIn k addr var a n v cs ce else (noSt, 1)
set_option maxRecDepth 100000 in
set_option maxHeartbeats 2000000 in
theorem ostamp_any (k : Ky) (addr var : ByteArray) (a : An) (n v : Clk) (cs : ByteArray) (ce : Int) (w : World) (h16 : a.body.length = 16) (hby : Byt a.body) (hsc : k.secret.size < 9223372036854775808) (hab : a.bytes.size ≤ 140737488351200)
    (hg : goodS k a n v = true → (∀ x ∈ stInts (named k (fromAn addr var a n.lo v.hi)), i64 x) ∧ lens ([k.secret] ++ stParts (named k (fromAn addr var a n.lo v.hi)) ++ [k.secret]) < 8796093022208 ∧ a.tags.size ≤ 900000) (hk : Konst 1 w)
    (hc : ∀ W, Ext w W → Calls Tryz.prog 108 #[.string addr] W fun e w' => e = .returned (.tuple #[.string cs, .int .i64 ce]) ∧ Ext W w') :
    Calls Tryz.prog 11 #[.agg (kyC k), .string addr, .string var, .agg (anC a), .agg (clkC n), .agg (clkC v)] w fun e w' => e = .returned (.tuple #[.agg (stmC (stampOut k addr var a n v cs ce).1), .int .i64 (stampOut k addr var a n v cs ce).2]) ∧ Ext w w' := by
  have HK := Lib.hid hk
  obtain ⟨D, hD⟩ : ∃ D, dgN a.bytes = D := ⟨_, rfl⟩
  have HDg := Lib.hid (fun (W : World) (hx : Ext w W) => odig_d a.bytes D W (RowAt.ext HK.out hx) hab hD)
  have heq := eq_dd (a := a.body) (b := D) h16 (by rw [← hD]; exact dgN_len _) hby (by rw [← hD]; exact dgN_byt _)
  have HG : Hid (goodS k a n v = (okKy k && okClk ⟨n.lo, n.hi⟩ && okClk ⟨v.lo, v.hi⟩ && !a.same && (a.size == (a.bytes.size : Int)) && decide (a.body = D))) := Lib.hid (by rw [← hD]; rfl)
  have HC := Lib.hid (fun (W : World) (hx : Ext w W) (h : goodS k a n v = true) => ostampi_any k addr var a n v cs ce W h16 (hg h).1 (hg h).2.1 (hg h).2.2 (RowAt.ext HK.out hx) (fun W' hx' => hc W' (hx.trans hx')))
  have HV := Lib.hid (fun W : World => kvalid_any k W hsc)
  have HVc : Hid (∀ (lo hi : Int) (W : World), Calls Tryz.prog 49 #[.agg #[.int .i64 lo, .int .i64 hi]] W fun e w' => e = .returned (.bool (okClk ⟨lo, hi⟩)) ∧ Ext W w') := Lib.hid (fun lo hi W => cvalid_any ⟨lo, hi⟩ W)
  have hft0 := stm_fits noSt
  obtain ⟨R, hR⟩ : ∃ R, stampIn k addr var a n v cs ce = R := ⟨_, rfl⟩
  have HO : Hid (stampOut k addr var a n v cs ce = if goodS k a n v = true then R else (noSt, 1)) := Lib.hid (by rw [← hR]; rfl)
  rw [hR] at HC
  replace HC : Hid (∀ (W : World) (hx : Ext w W) (h : goodS k a n v = true), Calls Tryz.prog 50 #[.agg (kyC k), .string addr, .string var, .agg (anC a), .agg #[.int .i64 n.lo, .int .i64 n.hi], .agg #[.int .i64 v.lo, .int .i64 v.hi]] W fun e w' => e = .returned (.tuple #[.agg (stmC R.1), .int .i64 R.2]) ∧ Ext W w') := HC
  generalize stampOut k addr var a n v cs ce = O at *
  generalize goodS k a n v = G at *
  have hft := stm_fits R.1
  clear hR
  clear h16 hby hg hk hc hD hsc
  go_enter Tryz.func11, Tryz.ntmps11
  go_wp2
  refine wp_world (fun W => Ext w W ∧ RowAt W w.heap.size (kyC k) ∧ RowAt W (w.heap.size + 1) (anC a) ∧ RowAt W (w.heap.size + 1 + 1) (clkC n) ∧ RowAt W (w.heap.size + 1 + 1 + 1) (clkC v) ∧ RowAt W (w.heap.size + 1 + 1 + 1 + 1) (stmC noSt)) ⟨(by (repeat (first | with_reducible exact Ext.refl _ | with_reducible exact Ext.refl _ | with_reducible refine Ext.drew ?_ | with_reducible refine Ext.drewN ?_ _ | with_reducible refine Ext.alloc ?_ _ | with_reducible refine Ext.onto ?_ _ | (with_reducible refine Ext.setCells ?_ ?_ _ _; rotate_left; focus (first | omega | (simp; done) | (simp; omega))) | (with_reducible refine Ext.setCell ?_ ?_ _; rotate_left; focus (first | omega | (simp; done) | (simp; omega)))))), ?_, ?_, ?_, ?_, ?_⟩ ?_
  · exact (((((RowAt.new _ _ _).alloc _).alloc _).alloc _).alloc _)
  · exact ((((RowAt.newAt (by simp)).alloc _).alloc _).alloc _)
  · exact (((RowAt.newAt (by simp)).alloc _).alloc _)
  · exact ((RowAt.newAt (by simp)).alloc _)
  · exact (RowAt.newAt (by simp))
  obtain ⟨B, hB⟩ : ∃ B, w.heap.size = B := ⟨_, rfl⟩
  rw [hB]
  rintro W1 ⟨x1, u0, u1, u2, u3, u4⟩
  have HX1 := Lib.hid x1
  have HU4 := Lib.hid u4
  have k0 : rowOf W1 B 0 5 = some (kyC k) := u0.all rfl (by omega)
  have a0 : rowOf W1 (B + 1) 0 21 = some (anC a) := u1.all rfl (by omega)
  have a1 : W1.cell? ⟨B + 1, 1, none⟩ = some (.int .i64 a.size) := u1.cell 1
  have a2 : rowOf W1 (B + 1) 2 16 = some (dgC a.body) := by rw [u1.row, if_neg (by omega), an_body]
  have a3 : W1.cell? ⟨B + 1, 18, none⟩ = some (.string a.bytes) := u1.cell 18
  have a4 : W1.cell? ⟨B + 1, 20, none⟩ = some (.bool a.same) := u1.cell 20
  have n0 : W1.cell? ⟨B + 1 + 1, 0, none⟩ = some (.int .i64 n.lo) := u2.cell 0
  have n1 : W1.cell? ⟨B + 1 + 1, 1, none⟩ = some (.int .i64 n.hi) := u2.cell 1
  have v0 : W1.cell? ⟨B + 1 + 1 + 1, 0, none⟩ = some (.int .i64 v.lo) := u3.cell 0
  have v1 : W1.cell? ⟨B + 1 + 1 + 1, 1, none⟩ = some (.int .i64 v.hi) := u3.cell 1
  have m4 : roomOf W1 (B + 1 + 1 + 1 + 1) 0 41 = true := by rw [u4.room]; rfl
  have hlu := u4.lt
  clear x1 u0 u1 u2 u3 u4
  refine wp_region_later_tail 21 (by kernel_rfl) (by kernel_rfl) ?_
  simp only [List.take_succ_cons, List.take_zero, List.drop_succ_cons, List.drop_zero]
  repeat (first | go_big_quiet_step ((first | (go_at_call 40; exact quietE (HDg.out _ (HX1.out.onto _))) | (go_at_call 48; exact quietE (HV.out _)) | (go_at_call 49; exact quietE (HVc.out _ _ _)))) | quiet_step ((first | (go_at_call 40; exact quietE (HDg.out _ (HX1.out.onto _))) | (go_at_call 48; exact quietE (HV.out _)) | (go_at_call 49; exact quietE (HVc.out _ _ _)))))
  refine wpQuiet_nil ?_
  rintro _ ⟨xq, rfl⟩
  have m4' : roomOf (later W1 xq) (B + 1 + 1 + 1 + 1) 0 41 = true := by rw [(HU4.out.later xq).room]; rfl
  cases G with
  | false =>
    have HO' : Hid (O = (noSt, 1)) := Lib.hid HO.out
    clear HO HC
    go_wp2_with (go_at_call 47; refine (oall6 _ _ _ _ _ _ _ _ _ (later_size _ _).symm).mono ?_; rw [← HG.out]; rintro e w' ⟨rfl, hxl⟩; obtain ⟨xl, rfl⟩ := hxl.asLater; clear hxl)
    rw [HO'.out]
    refine post_two (v1 := .agg (stmC noSt)) (v2 := .int .i64 1) Tryz.results11 rfl ⟨_, rfl, stm_loaded (RowAt.stored (n := 41) (HU4.out.later _) rfl rfl (by omega))⟩ rfl ⟨rfl, Ext.setCells (HX1.out.onto _) (by omega) _ _⟩
  | true =>
    have HO' : Hid (O = R) := Lib.hid HO.out
    clear HO
    go_wp2_with (first | (go_at_call 47; refine (oall6 _ _ _ _ _ _ _ _ _ (later_size _ _).symm).mono ?_; rw [← HG.out]; rintro e w' ⟨rfl, hxl⟩; obtain ⟨xl, rfl⟩ := hxl.asLater; clear hxl))
    refine (HC.out _ (HX1.out.onto _) (by trivial)).mono ?_
    rintro e w' ⟨rfl, hxl⟩; obtain ⟨xl, rfl⟩ := hxl.asLater; clear hxl
    go_wp2
    rw [HO'.out]
    refine post_two (v1 := .agg (stmC R.1)) (v2 := .int .i64 R.2) Tryz.results11 rfl ⟨_, rfl, stm_loaded (RowAt.stored (n := 41) (HU4.out.later _) rfl rfl (by omega))⟩ rfl ⟨rfl, Ext.setCells (HX1.out.onto _) (by omega) _ _⟩
end Go.Proofs.YtpfhmcdcmepfdaaGreatDoor


set_option linter.unusedVariables false
set_option linter.unusedSimpArgs false
namespace Go.Proofs.YtpfhmcdcmepfdaaGreatDoor
open Go.RowKit Go.Shelf
open Go.Proofs

set_option maxRecDepth 100000 in
set_option maxHeartbeats 2000000 in
theorem rkvalid_any (k : Ky) (w : World) (hs : k.secret.size < 9223372036854775808) : Calls Tryz.prog 62 #[.agg (kyC k)] w fun e w' => e = .returned (.bool (okKy k)) ∧ Ext w w' := by
  have HF : Hid (okKy k = (decide (min k.party k.serial ≥ 1) && decide (max k.party k.serial ≤ 1073741824) && decide ((k.secret.size : Int) ≥ 1) && decide ((k.secret.size : Int) ≤ 64) && decide (k.fr ≥ 0) && decide (k.fr < k.upto) && decide (k.upto ≤ 1099511627776))) := Lib.hid rfl
  generalize okKy k = R at HF ⊢
  go_enter Tryz.func62, Tryz.ntmps62
  go_wp2
  all_goals
    go_ret
    exact ⟨ret_bool (by rw [HF.out]; clear HF; simp [*] <;> omega), (by (repeat (first | with_reducible exact Ext.refl _ | with_reducible exact Ext.refl _ | with_reducible refine Ext.drew ?_ | with_reducible refine Ext.drewN ?_ _ | with_reducible refine Ext.alloc ?_ _ | with_reducible refine Ext.onto ?_ _ | (with_reducible refine Ext.setCells ?_ ?_ _ _; rotate_left; focus (first | omega | (simp; done) | (simp; omega))) | (with_reducible refine Ext.setCell ?_ ?_ _; rotate_left; focus (first | omega | (simp; done) | (simp; omega))))))⟩
def goodR (k : Ky) (a : An) (n v : Clk) : Bool := okKy k && okClk n && okClk v && a.same
noncomputable def renewOut (k : Ky) (s : St) (a : An) (n v : Clk) (cs : ByteArray) (ce : Int) : St × Int :=
  if goodR k a n v = true then if a.body = s.body then if a.size = s.size then stampIn k s.addr s.var a n v cs ce else (noSt, 341) else (noSt, 341) else (noSt, 1)
set_option maxRecDepth 100000 in
set_option maxHeartbeats 2000000 in
theorem orenew_any (k : Ky) (s : St) (a : An) (n v : Clk) (cs : ByteArray) (ce : Int) (w : World) (h16 : a.body.length = 16) (hby : Byt a.body) (h16s : s.body.length = 16) (hbys : Byt s.body) (hsc : k.secret.size < 9223372036854775808)
    (hg : goodR k a n v = true → a.body = s.body → a.size = s.size → (∀ x ∈ stInts (named k (fromAn s.addr s.var a n.lo v.hi)), i64 x) ∧ lens ([k.secret] ++ stParts (named k (fromAn s.addr s.var a n.lo v.hi)) ++ [k.secret]) < 8796093022208 ∧ a.tags.size ≤ 900000) (hk : Konst 1 w)
    (hc : ∀ W, Ext w W → Calls Tryz.prog 108 #[.string s.addr] W fun e w' => e = .returned (.tuple #[.string cs, .int .i64 ce]) ∧ Ext W w') :
    Calls Tryz.prog 12 #[.agg (kyC k), .agg (stmC s), .agg (anC a), .agg (clkC n), .agg (clkC v)] w fun e w' => e = .returned (.tuple #[.agg (stmC (renewOut k s a n v cs ce).1), .int .i64 (renewOut k s a n v cs ce).2]) ∧ Ext w w' := by
  have HK := Lib.hid hk
  have hneq := neq_dd (a := a.body) (b := s.body) h16 h16s hby hbys
  have HG : Hid (goodR k a n v = (okKy k && okClk ⟨n.lo, n.hi⟩ && okClk ⟨v.lo, v.hi⟩ && a.same)) := Lib.hid rfl
  have HC := Lib.hid (fun (W : World) (hx : Ext w W) (h : goodR k a n v = true) (h2 : a.body = s.body) (h3 : a.size = s.size) => ostampi_any k s.addr s.var a n v cs ce W h16 (hg h h2 h3).1 (hg h h2 h3).2.1 (hg h h2 h3).2.2 (RowAt.ext HK.out hx) (fun W' hx' => hc W' (hx.trans hx')))
  have HV := Lib.hid (fun W : World => kvalid_any k W hsc)
  have HVc : Hid (∀ (lo hi : Int) (W : World), Calls Tryz.prog 49 #[.agg #[.int .i64 lo, .int .i64 hi]] W fun e w' => e = .returned (.bool (okClk ⟨lo, hi⟩)) ∧ Ext W w') := Lib.hid (fun lo hi W => cvalid_any ⟨lo, hi⟩ W)
  have hft0 := stm_fits noSt
  obtain ⟨R, hR⟩ : ∃ R, stampIn k s.addr s.var a n v cs ce = R := ⟨_, rfl⟩
  have HO : Hid (renewOut k s a n v cs ce = if goodR k a n v = true then if a.body = s.body then if a.size = s.size then R else (noSt, 341) else (noSt, 341) else (noSt, 1)) := Lib.hid (by rw [← hR]; rfl)
  rw [hR] at HC
  replace HC : Hid (∀ (W : World) (hx : Ext w W) (h : goodR k a n v = true) (h2 : a.body = s.body) (h3 : a.size = s.size), Calls Tryz.prog 50 #[.agg (kyC k), .string s.addr, .string s.var, .agg (anC a), .agg #[.int .i64 n.lo, .int .i64 n.hi], .agg #[.int .i64 v.lo, .int .i64 v.hi]] W fun e w' => e = .returned (.tuple #[.agg (stmC R.1), .int .i64 R.2]) ∧ Ext W w') := HC
  generalize renewOut k s a n v cs ce = O at *
  generalize goodR k a n v = G at *
  have hft := stm_fits R.1
  clear hR
  clear h16 hby hg hk hc hsc h16s hbys
  go_enter Tryz.func12, Tryz.ntmps12
  go_wp2
  refine wp_world (fun W => Ext w W ∧ RowAt W w.heap.size (kyC k) ∧ RowAt W (w.heap.size + 1) (stmC s) ∧ RowAt W (w.heap.size + 1 + 1) (anC a) ∧ RowAt W (w.heap.size + 1 + 1 + 1) (clkC n) ∧ RowAt W (w.heap.size + 1 + 1 + 1 + 1) (clkC v) ∧ RowAt W (w.heap.size + 1 + 1 + 1 + 1 + 1) (stmC noSt)) ⟨(by (repeat (first | with_reducible exact Ext.refl _ | with_reducible exact Ext.refl _ | with_reducible refine Ext.drew ?_ | with_reducible refine Ext.drewN ?_ _ | with_reducible refine Ext.alloc ?_ _ | with_reducible refine Ext.onto ?_ _ | (with_reducible refine Ext.setCells ?_ ?_ _ _; rotate_left; focus (first | omega | (simp; done) | (simp; omega))) | (with_reducible refine Ext.setCell ?_ ?_ _; rotate_left; focus (first | omega | (simp; done) | (simp; omega)))))), ?_, ?_, ?_, ?_, ?_, ?_⟩ ?_
  · exact ((((((RowAt.new _ _ _).alloc _).alloc _).alloc _).alloc _).alloc _)
  · exact (((((RowAt.newAt (by simp)).alloc _).alloc _).alloc _).alloc _)
  · exact ((((RowAt.newAt (by simp)).alloc _).alloc _).alloc _)
  · exact (((RowAt.newAt (by simp)).alloc _).alloc _)
  · exact ((RowAt.newAt (by simp)).alloc _)
  · exact (RowAt.newAt (by simp))
  obtain ⟨B, hB⟩ : ∃ B, w.heap.size = B := ⟨_, rfl⟩
  rw [hB]
  rintro W1 ⟨x1, u0, us, u1, u2, u3, u4⟩
  have HX1 := Lib.hid x1
  have HU4 := Lib.hid u4
  have k0 : rowOf W1 B 0 5 = some (kyC k) := u0.all rfl (by omega)
  have s0 : W1.cell? ⟨B + 1, 0, none⟩ = some (.string s.addr) := us.cell 0
  have s1 : W1.cell? ⟨B + 1, 1, none⟩ = some (.string s.var) := us.cell 1
  have s3 : W1.cell? ⟨B + 1, 3, none⟩ = some (.int .i64 s.size) := us.cell 3
  have s4 : rowOf W1 (B + 1) 4 16 = some (dgC s.body) := by rw [us.row, if_neg (by omega), stm_body]
  have a0 : rowOf W1 (B + 1 + 1) 0 21 = some (anC a) := u1.all rfl (by omega)
  have a1 : W1.cell? ⟨B + 1 + 1, 1, none⟩ = some (.int .i64 a.size) := u1.cell 1
  have a2 : rowOf W1 (B + 1 + 1) 2 16 = some (dgC a.body) := by rw [u1.row, if_neg (by omega), an_body]
  have a4 : W1.cell? ⟨B + 1 + 1, 20, none⟩ = some (.bool a.same) := u1.cell 20
  have n0 : W1.cell? ⟨B + 1 + 1 + 1, 0, none⟩ = some (.int .i64 n.lo) := u2.cell 0
  have n1 : W1.cell? ⟨B + 1 + 1 + 1, 1, none⟩ = some (.int .i64 n.hi) := u2.cell 1
  have v0 : W1.cell? ⟨B + 1 + 1 + 1 + 1, 0, none⟩ = some (.int .i64 v.lo) := u3.cell 0
  have v1 : W1.cell? ⟨B + 1 + 1 + 1 + 1, 1, none⟩ = some (.int .i64 v.hi) := u3.cell 1
  have m4 : roomOf W1 (B + 1 + 1 + 1 + 1 + 1) 0 41 = true := by rw [u4.room]; rfl
  have hlu := u4.lt
  clear x1 u0 us u1 u2 u3 u4
  refine wp_region_later_tail 8 (by kernel_rfl) (by kernel_rfl) ?_
  simp only [List.take_succ_cons, List.take_zero, List.drop_succ_cons, List.drop_zero]
  repeat (first | go_big_quiet_step ((first | (go_at_call 48; exact quietE (HV.out _)) | (go_at_call 49; exact quietE (HVc.out _ _ _)))) | quiet_step ((first | (go_at_call 48; exact quietE (HV.out _)) | (go_at_call 49; exact quietE (HVc.out _ _ _)))))
  refine wpQuiet_nil ?_
  rintro _ ⟨xq, rfl⟩
  have m4' : roomOf (later W1 xq) (B + 1 + 1 + 1 + 1 + 1) 0 41 = true := by rw [(HU4.out.later xq).room]; rfl
  cases G with
  | false =>
    have HO' : Hid (O = (noSt, 1)) := Lib.hid HO.out
    clear HO HC
    go_wp2_with (go_at_call 47; refine (oall4 _ _ _ _ _ _ _ (later_size _ _).symm).mono ?_; rw [← HG.out]; rintro e w' ⟨rfl, hxl⟩; obtain ⟨xl, rfl⟩ := hxl.asLater; clear hxl)
    rw [HO'.out]
    refine post_two (v1 := .agg (stmC noSt)) (v2 := .int .i64 1) Tryz.results12 rfl ⟨_, rfl, stm_loaded (RowAt.stored (n := 41) (HU4.out.later _) rfl rfl (by omega))⟩ rfl ⟨rfl, Ext.setCells (HX1.out.onto _) (by omega) _ _⟩
  | true =>
    by_cases hb : a.body = s.body
    · by_cases hz : a.size = s.size
      · have HO' : Hid (O = R) := Lib.hid (by rw [HO.out, if_pos rfl, if_pos hb, if_pos hz])
        have HC' := Lib.hid (fun W hx => HC.out W hx rfl hb hz)
        have db : decide (a.body = s.body) = true := by simpa using hb
        have dz : (a.size != s.size) = false := by simpa using hz
        clear HO HC hb
        go_wp2_with (first
          | (go_at_call 47; refine (oall4 _ _ _ _ _ _ _ (later_size _ _).symm).mono ?_; rw [← HG.out]; rintro e w' ⟨rfl, hxl⟩; obtain ⟨xl, rfl⟩ := hxl.asLater; clear hxl)
          | (go_at_call 50; refine (HC'.out _ (HX1.out.onto _)).mono ?_; rintro e w' ⟨rfl, hxl⟩; obtain ⟨xl, rfl⟩ := hxl.asLater; clear hxl))
        rw [HO'.out]
        refine post_two (v1 := .agg (stmC R.1)) (v2 := .int .i64 R.2) Tryz.results12 rfl ⟨_, rfl, stm_loaded (RowAt.stored (n := 41) (HU4.out.later _) rfl rfl (by omega))⟩ rfl ⟨rfl, Ext.setCells (HX1.out.onto _) (by omega) _ _⟩
      · have HO' : Hid (O = (noSt, 341)) := Lib.hid (by rw [HO.out, if_pos rfl, if_pos hb, if_neg hz])
        have db : decide (a.body = s.body) = true := by simpa using hb
        have dz : (a.size != s.size) = true := by simpa using hz
        clear HO HC hb
        go_wp2_with (go_at_call 47; refine (oall4 _ _ _ _ _ _ _ (later_size _ _).symm).mono ?_; rw [← HG.out]; rintro e w' ⟨rfl, hxl⟩; obtain ⟨xl, rfl⟩ := hxl.asLater; clear hxl)
        rw [HO'.out]
        refine post_two (v1 := .agg (stmC noSt)) (v2 := .int .i64 341) Tryz.results12 rfl ⟨_, rfl, stm_loaded (RowAt.stored (n := 41) (HU4.out.later _) rfl rfl (by omega))⟩ rfl ⟨rfl, Ext.setCells (HX1.out.onto _) (by omega) _ _⟩
    · have HO' : Hid (O = (noSt, 341)) := Lib.hid (by rw [HO.out, if_pos rfl, if_neg hb])
      have db : decide (a.body = s.body) = false := by simpa using hb
      clear HO HC hb
      go_wp2_with (go_at_call 47; refine (oall4 _ _ _ _ _ _ _ (later_size _ _).symm).mono ?_; rw [← HG.out]; rintro e w' ⟨rfl, hxl⟩; obtain ⟨xl, rfl⟩ := hxl.asLater; clear hxl)
      rw [HO'.out]
      refine post_two (v1 := .agg (stmC noSt)) (v2 := .int .i64 341) Tryz.results12 rfl ⟨_, rfl, stm_loaded (RowAt.stored (n := 41) (HU4.out.later _) rfl rfl (by omega))⟩ rfl ⟨rfl, Ext.setCells (HX1.out.onto _) (by omega) _ _⟩
end Go.Proofs.YtpfhmcdcmepfdaaGreatDoor


set_option linter.unusedVariables false
set_option linter.unusedSimpArgs false
namespace Go.Proofs.YtpfhmcdcmepfdaaGreatDoor
open Go.RowKit Go.Shelf
open Go.Proofs

theorem neq_sel {a b : List Int} (ha : a.length = 16) (hb : b.length = 16) (ba : Byt a) (bb : Byt b) (W : World) : (binOp .neq 30 (.agg (dgC a)) (.agg (dgC b))).run Tryz.prog W = .ok (.bool (!(decide (a = b)))) W := by
  have h := run_equalIn_bytes (P := Tryz.prog) W 9998 30 5 16 (by kernel_rfl) (by kernel_rfl) u8_size (u8s a) (u8s b) (by simp [u8s, ha]) (by simp [u8s, hb])
  rw [u8s_cells ba, u8s_cells bb, u8s_beq ba bb] at h
  rw [dgC_cells ha, dgC_cells hb, run_neq_struct, h]
  rfl
noncomputable def checkOut (kf : Ky) (ef tag : Int) (parts : List ByteArray) (sel : List Int) (lo hi : Int) : Int := if ef = 0 then if countB kf lo hi = true then if makeN kf tag parts = sel then 0 else 8 else 9 else ef
set_option maxRecDepth 100000 in
set_option maxHeartbeats 2000000 in
theorem scheck_any (Ar : Option Addr) (nr cr : Nat) (p s tag : Int) (A : Option Addr) (c : Nat) (parts : List ByteArray) (sel : List Int) (lo hi : Int) (kf : Ky) (ef : Int) (w : World) (hs : sel.length = 16) (hb : Byt sel) (hr : ReadsStr w w.heap.size A parts) (hz : A = none → c = 0) (hl : ef = 0 → lens ([kf.secret] ++ parts ++ [kf.secret]) < 8796093022208) (hk : Konst 1 w)
    (hf : ∀ W, Ext w W → Calls Tryz.prog 122 #[.slice Ar nr cr, .int .i64 p, .int .i64 s] W fun e w' => e = .returned (.tuple #[.agg (kyC kf), .int .i64 ef]) ∧ Ext W w') :
    Calls Tryz.prog 65 #[.slice Ar nr cr, .int .i64 p, .int .i64 s, .int .i64 tag, .slice A parts.length c, .agg (dgC sel), .agg #[.int .i64 lo, .int .i64 hi]] w fun e w' => e = .returned (.int .i64 (checkOut kf ef tag parts sel lo hi)) ∧ Ext w w' := by
  have HF := Lib.hid hf
  have HR := Lib.hid hr
  have HK := Lib.hid hk
  have HC := Lib.hid (fun W => counts_any kf lo hi W)
  have HM := Lib.hid (fun (W : World) (hx : Ext w W) (h0 : ef = 0) => smake_any kf tag A c parts W (hr.on hx) hz (hl h0) (RowAt.ext hk hx))
  obtain ⟨D, hD⟩ : ∃ D, makeN kf tag parts = D := ⟨_, rfl⟩
  have h16 : D.length = 16 := by rw [← hD]; exact makeN_len _ _ _
  have hneq := neq_sel (a := D) (b := sel) h16 hs (by rw [← hD]; exact makeN_byt _ _ _) hb
  have HO : Hid (checkOut kf ef tag parts sel lo hi = if ef = 0 then if countB kf lo hi = true then if D = sel then 0 else 8 else 9 else ef) := Lib.hid (by rw [← hD]; rfl)
  rw [hD] at HM
  have hft := ky_fits kf
  have hfs : fitsRow 16 (dgC sel) = true := by simp [fitsRow, dgC, Value.oneCell']
  generalize checkOut kf ef tag parts sel lo hi = O at *
  clear hD h16 hs hb hr hz hl hk hf
  go_enter Tryz.func65, Tryz.ntmps65
  go_upto_region 2 with (go_at_call 122; refine (HF.out _ (by (repeat (first | with_reducible exact Ext.refl _ | with_reducible exact Ext.refl _ | with_reducible refine Ext.drew ?_ | with_reducible refine Ext.drewN ?_ _ | with_reducible refine Ext.alloc ?_ _ | with_reducible refine Ext.onto ?_ _ | (with_reducible refine Ext.setCells ?_ ?_ _ _; rotate_left; focus (first | omega | (simp; done) | (simp; omega))) | (with_reducible refine Ext.setCell ?_ ?_ _; rotate_left; focus (first | omega | (simp; done) | (simp; omega))))))).mono ?_; rintro e w' ⟨rfl, hxl⟩; obtain ⟨xl, rfl⟩ := hxl.asLater; clear hxl)
  refine wp_world (fun W => Ext w W ∧ RowAt W w.heap.size (dgC sel) ∧ RowAt W (w.heap.size + 1) #[.int .i64 lo, .int .i64 hi] ∧ RowAt W (w.heap.size + 1 + 1 + xl.n) (kyC kf)) ⟨Ext.setCells ((by (repeat (first | with_reducible exact Ext.refl _ | with_reducible exact Ext.refl _ | with_reducible refine Ext.drew ?_ | with_reducible refine Ext.drewN ?_ _ | with_reducible refine Ext.alloc ?_ _ | with_reducible refine Ext.onto ?_ _ | (with_reducible refine Ext.setCells ?_ ?_ _ _; rotate_left; focus (first | omega | (simp; done) | (simp; omega))) | (with_reducible refine Ext.setCell ?_ ?_ _; rotate_left; focus (first | omega | (simp; done) | (simp; omega))))))) (by omega) _ _, ?_, ?_, ?_⟩ ?_
  · exact RowAt.others ((((RowAt.new _ _ _).alloc _).later _).alloc _) (by omega) _ _
  · exact RowAt.others (((RowAt.newAt (by simp)).later _).alloc _) (by omega) _ _
  · exact RowAt.store (RowAt.newAt (by simp [later_size])) rfl
  obtain ⟨B, hB⟩ : ∃ B, w.heap.size = B := ⟨_, rfl⟩
  obtain ⟨g, hg⟩ : ∃ g, w.heap.size + 1 + 1 + xl.n = g := ⟨_, rfl⟩
  rw [hg, hB]
  rintro W1 ⟨x1, u0, u1, u2⟩
  have HX1 := Lib.hid x1
  have s0 : rowOf W1 B 0 16 = some (dgC sel) := u0.all rfl (by omega)
  have p0 : W1.cell? ⟨B + 1, 0, none⟩ = some (.int .i64 lo) := u1.cell 0
  have p1 : W1.cell? ⟨B + 1, 1, none⟩ = some (.int .i64 hi) := u1.cell 1
  have k0 : rowOf W1 g 0 5 = some (kyC kf) := u2.all rfl (by omega)
  have hlu := u2.lt
  have hls := x1.size
  have hl0 := u1.lt
  clear x1 u0 u1 u2 hg
  by_cases b0 : ef = 0
  · subst b0
    cases b1 : countB kf lo hi with
    | true =>
      rw [b1] at HC HO
      have HM' := Lib.hid (fun W hx => HM.out W hx rfl)
      by_cases b2 : D = sel
      · have HO' : Hid (O = 0) := Lib.hid (by rw [HO.out, if_pos rfl, if_pos rfl, if_pos b2])
        have d2 : decide (D = sel) = true := by simpa using b2
        clear HO b1 b2 HM
        go_wp2_with (first | (go_at_call 123; refine (HC.out _).mono ?_; rintro e w' ⟨rfl, hxl⟩; obtain ⟨xl, rfl⟩ := hxl.asLater; clear hxl))
        refine wp_region_later (by kernel_rfl) (by kernel_rfl) ?_
        repeat (first | go_big_quiet_step ((go_at_call 59; exact quietE (HM'.out _ (by first | exact ((HX1.out.onto _).onto _) | exact HX1.out.onto _ | exact (by (repeat (first | with_reducible exact HX1.out | with_reducible exact Ext.refl _ | with_reducible refine Ext.drew ?_ | with_reducible refine Ext.drewN ?_ _ | with_reducible refine Ext.alloc ?_ _ | with_reducible refine Ext.onto ?_ _ | (with_reducible refine Ext.setCells ?_ ?_ _ _; rotate_left; focus (first | omega | (simp; done) | (simp; omega))) | (with_reducible refine Ext.setCell ?_ ?_ _; rotate_left; focus (first | omega | (simp; done) | (simp; omega)))))))))) | quiet_step ((go_at_call 59; exact quietE (HM'.out _ (by first | exact ((HX1.out.onto _).onto _) | exact HX1.out.onto _ | exact (by (repeat (first | with_reducible exact HX1.out | with_reducible exact Ext.refl _ | with_reducible refine Ext.drew ?_ | with_reducible refine Ext.drewN ?_ _ | with_reducible refine Ext.alloc ?_ _ | with_reducible refine Ext.onto ?_ _ | (with_reducible refine Ext.setCells ?_ ?_ _ _; rotate_left; focus (first | omega | (simp; done) | (simp; omega))) | (with_reducible refine Ext.setCell ?_ ?_ _; rotate_left; focus (first | omega | (simp; done) | (simp; omega)))))))))))
        refine wpQuiet_nil ?_
        rintro _ ⟨xq, rfl⟩
        go_wp2
        go_ret
        exact ⟨ret_int HO'.out.symm, (by (repeat (first | with_reducible exact HX1.out | with_reducible exact Ext.refl _ | with_reducible refine Ext.drew ?_ | with_reducible refine Ext.drewN ?_ _ | with_reducible refine Ext.alloc ?_ _ | with_reducible refine Ext.onto ?_ _ | (with_reducible refine Ext.setCells ?_ ?_ _ _; rotate_left; focus (first | omega | (simp; done) | (simp; omega))) | (with_reducible refine Ext.setCell ?_ ?_ _; rotate_left; focus (first | omega | (simp; done) | (simp; omega))))))⟩
      · have HO' : Hid (O = 8) := Lib.hid (by rw [HO.out, if_pos rfl, if_pos rfl, if_neg b2])
        have d2 : decide (D = sel) = false := by simpa using b2
        clear HO b1 b2 HM
        go_wp2_with (first | (go_at_call 123; refine (HC.out _).mono ?_; rintro e w' ⟨rfl, hxl⟩; obtain ⟨xl, rfl⟩ := hxl.asLater; clear hxl))
        refine wp_region_later (by kernel_rfl) (by kernel_rfl) ?_
        repeat (first | go_big_quiet_step ((go_at_call 59; exact quietE (HM'.out _ (by first | exact ((HX1.out.onto _).onto _) | exact HX1.out.onto _ | exact (by (repeat (first | with_reducible exact HX1.out | with_reducible exact Ext.refl _ | with_reducible refine Ext.drew ?_ | with_reducible refine Ext.drewN ?_ _ | with_reducible refine Ext.alloc ?_ _ | with_reducible refine Ext.onto ?_ _ | (with_reducible refine Ext.setCells ?_ ?_ _ _; rotate_left; focus (first | omega | (simp; done) | (simp; omega))) | (with_reducible refine Ext.setCell ?_ ?_ _; rotate_left; focus (first | omega | (simp; done) | (simp; omega)))))))))) | quiet_step ((go_at_call 59; exact quietE (HM'.out _ (by first | exact ((HX1.out.onto _).onto _) | exact HX1.out.onto _ | exact (by (repeat (first | with_reducible exact HX1.out | with_reducible exact Ext.refl _ | with_reducible refine Ext.drew ?_ | with_reducible refine Ext.drewN ?_ _ | with_reducible refine Ext.alloc ?_ _ | with_reducible refine Ext.onto ?_ _ | (with_reducible refine Ext.setCells ?_ ?_ _ _; rotate_left; focus (first | omega | (simp; done) | (simp; omega))) | (with_reducible refine Ext.setCell ?_ ?_ _; rotate_left; focus (first | omega | (simp; done) | (simp; omega)))))))))))
        refine wpQuiet_nil ?_
        rintro _ ⟨xq, rfl⟩
        go_wp2
        go_ret
        exact ⟨ret_int HO'.out.symm, (by (repeat (first | with_reducible exact HX1.out | with_reducible exact Ext.refl _ | with_reducible refine Ext.drew ?_ | with_reducible refine Ext.drewN ?_ _ | with_reducible refine Ext.alloc ?_ _ | with_reducible refine Ext.onto ?_ _ | (with_reducible refine Ext.setCells ?_ ?_ _ _; rotate_left; focus (first | omega | (simp; done) | (simp; omega))) | (with_reducible refine Ext.setCell ?_ ?_ _; rotate_left; focus (first | omega | (simp; done) | (simp; omega))))))⟩
    | false =>
      rw [b1] at HC HO
      have HO' : Hid (O = 9) := Lib.hid (by rw [HO.out, if_pos rfl, if_neg (by simp)])
      clear HO b1 HM
      go_wp2_with (first | (go_at_call 123; refine (HC.out _).mono ?_; rintro e w' ⟨rfl, hxl⟩; obtain ⟨xl, rfl⟩ := hxl.asLater; clear hxl))
      go_ret
      exact ⟨ret_int HO'.out.symm, (by (repeat (first | with_reducible exact HX1.out | with_reducible exact Ext.refl _ | with_reducible refine Ext.drew ?_ | with_reducible refine Ext.drewN ?_ _ | with_reducible refine Ext.alloc ?_ _ | with_reducible refine Ext.onto ?_ _ | (with_reducible refine Ext.setCells ?_ ?_ _ _; rotate_left; focus (first | omega | (simp; done) | (simp; omega))) | (with_reducible refine Ext.setCell ?_ ?_ _; rotate_left; focus (first | omega | (simp; done) | (simp; omega))))))⟩
  · have HO' : Hid (O = ef) := Lib.hid (by rw [HO.out, if_neg b0])
    have e0 : (ef != 0) = true := by simpa using b0
    clear HO HM HC b0
    go_wp2
    go_ret
    exact ⟨ret_int HO'.out.symm, (by (repeat (first | with_reducible exact HX1.out | with_reducible exact Ext.refl _ | with_reducible refine Ext.drew ?_ | with_reducible refine Ext.drewN ?_ _ | with_reducible refine Ext.alloc ?_ _ | with_reducible refine Ext.onto ?_ _ | (with_reducible refine Ext.setCells ?_ ?_ _ _; rotate_left; focus (first | omega | (simp; done) | (simp; omega))) | (with_reducible refine Ext.setCell ?_ ?_ _; rotate_left; focus (first | omega | (simp; done) | (simp; omega))))))⟩
/-! ### A ring of one key -/
theorem find_one (b c : Nat) (k : Ky) (w : World) (hr : RowAt w b (kyC k)) (h1 : small40 k.party) (h2 : small40 k.serial) :
    Calls Tryz.prog 122 #[.slice (some ⟨b, 0, none⟩) 1 c, .int .i64 k.party, .int .i64 k.serial] w fun e w' => e = .returned (.tuple #[.agg (kyC k), .int .i64 0]) ∧ Ext w w' := by
  have hR : ReadsKy w w.heap.size (some ⟨b, 0, none⟩) [k] := by
    intro _
    refine ⟨b, 0, rfl, hr.lt, fun i hi j v hv => ?_⟩
    have h0 : i = 0 := by simp at hi; omega
    subst h0
    have e : (kyC k)[j]? = (kyL k)[j]? := by simp [kyC, kyL]
    have := hr.cell j
    rw [show 0 + 0 * 5 + j = j by omega, this, e]
    exact hv
  have hc : cmpK k.party k.serial k = 0 := by unfold cmpK; rw [if_pos rfl]; omega
  refine (kfind_hit (some ⟨b, 0, none⟩) c [k] k.party k.serial w (by simp) hR (fun a b ha hb h => by simp at ha hb; omega) (fun x hx => by rw [List.mem_singleton] at hx; subst hx; exact ⟨h1, h2⟩) h1 h2).mono ?_
  rintro e w' ⟨i, ha, h | h, hx⟩
  · obtain ⟨hi, _, rfl⟩ := h
    have h0 : i = 0 := by simp at hi; omega
    subst h0
    exact ⟨rfl, hx⟩
  · exfalso
    refine h.1 ?_
    have hi : i = 0 := by
      rcases Nat.eq_zero_or_pos i with q | q
      · exact q
      · have := ha.2.1 0 (by simp) q
        simp only [List.getElem_cons_zero] at this
        omega
    subst hi
    exact ⟨by simp, hc⟩
set_option maxRecDepth 100000 in
set_option maxHeartbeats 2000000 in
theorem rcounts_any (k : Ky) (lo hi : Int) (w : World) : Calls Tryz.prog 124 #[.agg (kyC k), .agg #[.int .i64 lo, .int .i64 hi]] w fun e w' => e = .returned (.bool (countB k lo hi)) ∧ Ext w w' := by
  have HF : Hid (countB k lo hi = (decide (0 ≤ lo) && decide (lo ≤ hi) && decide (hi ≤ 1099511627776) && decide (k.fr ≤ lo) && decide (hi < k.upto))) := Lib.hid rfl
  generalize countB k lo hi = R at HF ⊢
  go_enter Tryz.func124, Tryz.ntmps124
  go_wp2
  all_goals
    go_ret
    exact ⟨ret_bool (by rw [HF.out]; clear HF; simp [*] <;> omega), (by (repeat (first | with_reducible exact Ext.refl _ | with_reducible exact Ext.refl _ | with_reducible refine Ext.drew ?_ | with_reducible refine Ext.drewN ?_ _ | with_reducible refine Ext.alloc ?_ _ | with_reducible refine Ext.onto ?_ _ | (with_reducible refine Ext.setCells ?_ ?_ _ _; rotate_left; focus (first | omega | (simp; done) | (simp; omega))) | (with_reducible refine Ext.setCell ?_ ?_ _; rotate_left; focus (first | omega | (simp; done) | (simp; omega))))))⟩
end Go.Proofs.YtpfhmcdcmepfdaaGreatDoor
