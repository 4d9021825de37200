/- The example of law 35. -/
import Derived.Test.YtiacnoejlmaplaaGreatDoorProg
import Derived.Test.YtiacnoejlmaplaaGreatDoorExt
import Derived.WalkKit
import Derived.WalkSpells
import Derived.WalkLawsBesides
import Derived.Deep.QuietTactic
import Derived.BigQuiet
import Derived.Test.YtiacnoejlmaplaaGreatDoorFa
import Derived.Test.YtiacnoejlmaplaaGreatDoorWi
set_option linter.unusedVariables false
set_option linter.unusedSimpArgs false
namespace Go.Proofs.YtiacnoejlmaplaaGreatDoor
open Go.RowKit Go.Shelf
open Go.Proofs
open Go.Proofs.Sp (Sp)

set_option maxHeartbeats 1000000 in
theorem put_whole (e : En) (A : Option Addr) (n c : Nat) (f : Int) (more : ByteArray) (w : World) (hv : e.hv = .slice A n c) (hw : e.whole = true) :
    Calls Tryz.prog 23 #[.agg (entC e), .int .i64 f, .string more] w fun e' w' => e' = .returned (.tuple #[.agg (entC e), .int .i64 4]) ∧ Ext w w' := by
  have hc44 : (entC e)[44]? = some (.bool true) := by rw [ent_g44, hw]
  have hf : fitsRow 45 (entC e) = true := ent_fits_of hv
  go_enter Tryz.func23, Tryz.ntmps23
  go_wp2
  refine post_two (v1 := .agg (entC e)) (v2 := .int .i64 4) Tryz.results23 rfl ⟨_, rfl, ent_loaded (row_stored (RowAt.newAt (cs := entC noEn) (t := 31) (by simp)) (ent_size _) (ent_size _))⟩ rfl ⟨rfl, (by (repeat (first | with_reducible exact Ext.refl _ | with_reducible exact Ext.refl _ | with_reducible refine Ext.drew ?_ | with_reducible refine Ext.drewN ?_ _ | with_reducible refine Ext.alloc ?_ _ | with_reducible refine Ext.onto ?_ _ | (with_reducible refine Ext.setCells ?_ ?_ _ _; rotate_left; focus (first | omega | (simp; done) | (simp; omega))) | (with_reducible refine Ext.setCell ?_ ?_ _; rotate_left; focus (first | omega | (simp; done) | (simp; omega))))))⟩
set_option maxHeartbeats 1000000 in
theorem begin_any (s : St) (w : World) (h1 : s.addr.size ≤ 4096) (h2 : s.var.size ≤ 4096) (h3 : s.tags.size ≤ 4096) (h : rightB s = true) (h4 : 0 < s.size) (h5 : s.size ≤ 65536) :
    Calls Tryz.prog 18 #[.agg (stmC s)] w fun e' w' => e' = .returned (.tuple #[.agg (entC (emptyEn s false)), .int .i64 0]) ∧ Ext w w' := by
  have H := Lib.hid h
  have hne : (s.size == 0) = false := by rw [beq_eq_false_iff_ne]; omega
  have d1 : decide (65536 < s.size) = false := by simp <;> omega
  have hf : fitsRow 45 (entC (emptyEn s false)) = true := ent_fits_of rfl
  clear h
  go_enter Tryz.func18, Tryz.ntmps18
  go_wp2_with (go_at_call 31; refine (right_ok s _ h1 h2 h3 H.out).mono ?_; rintro e w' ⟨rfl, hxl⟩; obtain ⟨xl, rfl⟩ := hxl.asLater; clear hxl)
  refine wp_region_later (by kernel_rfl) (by kernel_rfl) ?_
  repeat (first | go_big_quiet_step (fail) | quiet_step (fail))
  refine wpQuiet_nil ?_
  rintro _ ⟨xq, rfl⟩
  go_wp2_with (go_at_call 33; refine (empty_any s false _ (by omega) h5).mono ?_; rintro e w' ⟨rfl, hxl⟩; obtain ⟨xl, rfl⟩ := hxl.asLater; clear hxl)
  refine post_two (v1 := .agg (entC (emptyEn s false))) (v2 := .int .i64 0) Tryz.results18 rfl ⟨_, rfl, ent_loaded (row_stored ((by (repeat (first | with_reducible exact RowAt.newAt (cs := entC noEn) (t := 31) (by simp) | with_reducible refine RowAt.drew ?_ | with_reducible refine RowAt.later ?_ _ | with_reducible exact RowAt.newAt (by first | rfl | omega | (simp [later_size, setCells_size]; done) | (simp [later_size, setCells_size]; omega)) | with_reducible refine RowAt.alloc ?_ _ | with_reducible apply RowAt.store | with_reducible refine RowAt.others ?_ ?_ _ _ | with_reducible refine RowAt.other ?_ ?_ _)); all_goals first | omega | (simp; done) | (simp; omega) | (simp [go_sem]; done))) (ent_size _) (ent_size _))⟩ rfl ⟨rfl, (by (repeat (first | with_reducible exact Ext.refl _ | with_reducible exact Ext.refl _ | with_reducible refine Ext.drew ?_ | with_reducible refine Ext.drewN ?_ _ | with_reducible refine Ext.alloc ?_ _ | with_reducible refine Ext.onto ?_ _ | (with_reducible refine Ext.setCells ?_ ?_ _ _; rotate_left; focus (first | omega | (simp; done) | (simp; omega))) | (with_reducible refine Ext.setCell ?_ ?_ _; rotate_left; focus (first | omega | (simp; done) | (simp; omega))))))⟩
set_option maxHeartbeats 1000000 in
theorem emissing_any (e : En) (A : Option Addr) (c : Nat) (l : List Sp) (s1 s2 : Int) (w : World) (hv : e.hv = .slice A l.length c) (h0 : 0 ≤ s1) (h1 : s1 < e.st.size) (h2 : e.st.size ≤ s2) (h3 : e.st.size ≤ 65536)
    (hs : Sp.IsSet l) (hb : bd2 l) (hlen : l.length * 32 ≤ 140737488340000) (hr : ReadsSp w w.heap.size A l) (z : A = none → c = 0) :
    Calls Tryz.prog 26 #[.agg (entC e), .agg #[.int .i64 s1, .int .i64 s2]] w fun e' w' => ∃ A' c' out, e' = .returned (.slice A' out.length c') ∧ Hid (SetOf (fun x => (s1 ≤ x ∧ x < e.st.size) ∧ ¬ Sp.mem l x) out) ∧ OwnsSp w.heap.size w' A' c' out ∧ Ext w w' := by
  have hc42 : (entC e)[42]? = some (.slice A l.length c) := by rw [ent_g42, hv]
  have HR := Lib.hid hr
  have HZ := Lib.hid z
  have HS := Lib.hid hs
  have HB := Lib.hid hb
  have hmx : max s1 0 = s1 := by omega
  have hmn : min s2 e.st.size = e.st.size := by omega
  clear hr z hs hb
  go_enter Tryz.func26, Tryz.ntmps26
  go_wp2
  go_region
  all_goals
    go_wp2_with (go_at_call 41; refine (missing_any A c l (s1, e.st.size) _ HS.out HB.out ⟨⟨by show _ ≤ s1; omega, by show s1 ≤ _; omega⟩, by show _ ≤ e.st.size; omega, by show e.st.size ≤ _; omega⟩ (by omega) (HR.out.on (by (repeat (first | with_reducible exact Ext.refl _ | with_reducible exact Ext.refl _ | with_reducible refine Ext.drew ?_ | with_reducible refine Ext.drewN ?_ _ | with_reducible refine Ext.alloc ?_ _ | with_reducible refine Ext.onto ?_ _ | (with_reducible refine Ext.setCells ?_ ?_ _ _; rotate_left; focus (first | omega | (simp; done) | (simp; omega))) | (with_reducible refine Ext.setCell ?_ ?_ _; rotate_left; focus (first | omega | (simp; done) | (simp; omega))))))) HZ.out).mono ?_; rintro e' w2 ⟨A2, c2, out, rfl, HS2, hol2, ho2, hx2⟩; have HO2 := Lib.hid ho2; have HX2 := Lib.hid hx2; clear ho2 hx2)
    go_ret
    exact ⟨A2, c2, out, rfl, HS2, HO2.out.lower (by simp <;> omega), Ext.trans (by (repeat (first | with_reducible exact Ext.refl _ | with_reducible exact Ext.refl _ | with_reducible refine Ext.drew ?_ | with_reducible refine Ext.drewN ?_ _ | with_reducible refine Ext.alloc ?_ _ | with_reducible refine Ext.onto ?_ _ | (with_reducible refine Ext.setCells ?_ ?_ _ _; rotate_left; focus (first | omega | (simp; done) | (simp; omega))) | (with_reducible refine Ext.setCell ?_ ?_ _; rotate_left; focus (first | omega | (simp; done) | (simp; omega)))))) HX2.out⟩
def stmBuild (a b c d p g s : Value) : Sem Next := do pure (.value (← Instr.build 28 #[(0, a), (2, b), (3, c), (4, d), (6, p), (7, g), (8, s)]))
theorem stmBuild_x (ρ : Operand → Value) (dst : Option Tmp) (x0 x2 x3 x4 x6 x7 x8 : Operand) (t : TypeId) (pos : String) (after : Array Edge) (guard : Option (Nat × Bool)) : execOp ρ { dst, op := .build 28 #[(0, x0), (2, x2), (3, x3), (4, x4), (6, x6), (7, x7), (8, x8)], type := t, pos, after, guard } = stmBuild (ρ x0) (ρ x2) (ρ x3) (ρ x4) (ρ x6) (ρ x7) (ρ x8) := by kernel_rfl
theorem stmBuild_run (a : ByteArray) (st sz : Int) (D : List Int) (lo hi g s : Int) (W : World) : (stmBuild (.string a) (.int .i64 st) (.int .i64 sz) (.agg (dgC D)) (.agg #[.int .i64 lo, .int .i64 hi]) (.int .i64 g) (.int .i64 s)).run Tryz.prog W = .ok (.value (.agg (stmC ⟨a, ByteArray.empty, st, sz, D, ByteArray.empty, lo, hi, g, s, zeros32 16⟩))) W := by kernel_rfl
attribute [go_sem ↓] stmBuild_x
attribute [go_sem] stmBuild_run
def abcdef : ByteArray := ⟨#[97, 98, 99, 100, 101, 102]⟩
def theSt (D : List Int) : St := ⟨⟨#[47, 97]⟩, ByteArray.empty, 200, 6, D, ByteArray.empty, 100, 110, 7, 1, zeros32 16⟩
theorem rdigest_d (s : ByteArray) (D : List Int) (w : World) (hk : RKonst w) (hl : s.size ≤ 140737488351200) (h : Wire.digest 34 [bts s] = D) (h16 : D.length = 16) :
    Calls Tryz.prog 35 #[.string s] w fun e w' => e = .returned (.agg (dgC D)) ∧ Ext w w' := by
  rw [dgC_cells h16]; exact rdigest_is s D w hk hl h
set_option maxHeartbeats 1000000 in
theorem stamp_ok (D : List Int) (w : World) (hk : RKonst w) (hD : Wire.digest 34 [bts abcdef] = D) (h16 : D.length = 16) : Calls Tryz.prog 29 #[] w fun e' w' => e' = .returned (.agg (stmC (theSt D))) ∧ Ext w w' := by
  have HK := Lib.hid hk
  have HD : Hid (Wire.digest 34 [bts ⟨#[97, 98, 99, 100, 101, 102]⟩] = D) := Lib.hid hD
  have H16 := Lib.hid h16
  clear hk hD h16
  go_enter Tryz.func29, Tryz.ntmps29
  go_wp2_with (go_at_call 35; refine (rdigest_d ⟨#[97, 98, 99, 100, 101, 102]⟩ D _ (HK.out.alloc _) (by decide) HD.out H16.out).mono ?_; rintro e w' ⟨rfl, hxl⟩; obtain ⟨xl, rfl⟩ := hxl.asLater; clear hxl)
  have h1 : RowAt (later (w.alloc (.cells (stmC noSt) 28)) xl) w.heap.size (stmC noSt) := RowAt.later (RowAt.new _ _ _) _
  refine post_row stm_ty Tryz.results29 rfl rfl (h1.stored (n := 41) rfl rfl (by omega)) ⟨rfl, (by (repeat (first | with_reducible exact Ext.refl _ | with_reducible exact Ext.refl _ | with_reducible refine Ext.drew ?_ | with_reducible refine Ext.drewN ?_ _ | with_reducible refine Ext.alloc ?_ _ | with_reducible refine Ext.onto ?_ _ | (with_reducible refine Ext.setCells ?_ ?_ _ _; rotate_left; focus (first | omega | (simp; done) | (simp; omega))) | (with_reducible refine Ext.setCell ?_ ?_ _; rotate_left; focus (first | omega | (simp; done) | (simp; omega))))))⟩
end Go.Proofs.YtiacnoejlmaplaaGreatDoor

namespace Go.Proofs.YtiacnoejlmaplaaGreatDoor
set_option maxRecDepth 100000 in
theorem dig_ne : Wire.digest 34 [[97, 98, 99, 100, 101, 103]] ≠ Wire.digest 34 [[97, 98, 99, 100, 101, 102]] := by decide +kernel
end Go.Proofs.YtiacnoejlmaplaaGreatDoor

namespace Go.Proofs.YtiacnoejlmaplaaGreatDoor
open Go.RowKit Go.Shelf
open Go.Proofs
open Go.Proofs.Sp (Sp)

def abc : ByteArray := ⟨#[97, 98, 99]⟩
def def_ : ByteArray := ⟨#[100, 101, 102]⟩
def deg : ByteArray := ⟨#[100, 101, 103]⟩
def E0 (D : List Int) : En := emptyEn (theSt D) false
def E1 (D : List Int) (A : Option Addr) (c : Nat) : En := { E0 D with hv := .slice A 1 c, bytes := strOfNums [97, 98, 99, 0, 0, 0] }
def E2 (D : List Int) (A : Option Addr) (c : Nat) : En := { E1 D A c with hv := .slice A 1 c, bytes := strOfNums [97, 98, 99, 100, 101, 102], whole := true }
structure IsD (D : List Int) : Prop where
  len : D.length = 16
  byt : Byt D
  yes : Wire.digest 34 [[97, 98, 99, 100, 101, 102]] = D
  no : Wire.digest 34 [[97, 98, 99, 100, 101, 103]] ≠ D
theorem set_one {out : List Sp} {p : Int → Prop} (h : SetOf p out) {a b : Int} (hab : a < b) (hp : ∀ x, p x ↔ a ≤ x ∧ x < b) : out = [(a, b)] :=
  Sp.IsSet.ext h.1 (Sp.IsSet.one hab) (fun x => (h.2 x).trans ((hp x).trans (Sp.mem_one (a, b) x).symm))
theorem bd_one {a b : Int} (h0 : 0 ≤ a) (h1 : a ≤ 1000) (h2 : 0 ≤ b) (h3 : b ≤ 1000) : bd2 [(a, b)] := fun s hs => by
  simp at hs; subst hs
  exact ⟨⟨by show _ ≤ a; omega, by show a ≤ _; omega⟩, by show _ ≤ b; omega, by show b ≤ _; omega⟩
theorem bdSp_of {l : List Sp} (h : bd2 l) : bdSp l := fun s hs => (h s hs).1
def S1 (D : List Int) (base : Nat) (v : Value) (W : World) : Prop := ∃ A c, v = .agg (entC (E1 D A c)) ∧ OwnsSp base W A c [(0, 3)]
def S2 (D : List Int) (base : Nat) (v : Value) (W : World) : Prop := ∃ A c, v = .agg (entC (E2 D A c)) ∧ OwnsSp base W A c [(0, 6)]
theorem fits_E (e : En) (A : Option Addr) (n c : Nat) (h : e.hv = .slice A n c) : fitsRow 45 (entC e) = true := ent_fits_of h

set_option maxRecDepth 100000 in
set_option maxHeartbeats 1000000 in
theorem put1 (D : List Int) (w : World) (hk : Konst 0 w) : Calls Tryz.prog 23 #[.agg (entC (E0 D)), .int .i64 0, .string abc] w fun e' w' => ∃ v, e' = .returned (.tuple #[v, .int .i64 0]) ∧ S1 D (w.heap.size + 2) v w' ∧ Ext w w' := by
  refine put_any (E0 D) none 0 [] 0 abc w ⟨S1 D (w.heap.size + 2), fun v W W' ⟨A, c, h1, h2⟩ hx => ⟨A, c, h1, h2.ext hx⟩⟩ 0 rfl rfl (by decide) (by show (0 : Int) + 3 ≤ 6; decide) (by show (6 : Int) ≤ 65536; decide) (by show (6 : Int) = 6; rfl) (fun a h => by cases h) (fun s hs => by cases hs) (by decide) (Reads.nil _ _ _ _ _)
    (fun v W m vs hm ⟨A, c, h1, h2⟩ => ⟨A, c, h1, h2.others hm 0 vs⟩) (fun v W ⟨A, c, h1, _⟩ => ⟨_, h1, fits_E _ A 1 c rfl⟩) ?_
  intro A c out Ab cb W hx hsrt hol ho hrb
  have hset := of_set hsrt
  have e1 : out = [(0, 3)] := set_one hset (by decide) (fun x => by
    show Sp.mem [(0, 3)] x ↔ _
    exact Sp.mem_one (0, 3) x)
  subst e1
  have e2 : Sha.over (bts (E0 D).bytes) 0 (bts abc) = [97, 98, 99, 0, 0, 0] := by show Sha.over (bts (zb 6)) 0 (bts abc) = _; decide
  rw [e2] at hrb ⊢
  refine (settle_no (E0 D) none 0 0 A c [(0, 3)] Ab cb [97, 98, 99, 0, 0, 0] W rfl (by show (0 : Int) ≤ 6; decide) (by show (6 : Int) ≤ 65536; decide) (Sp.IsSet.one (by decide)) (bd_one (by decide) (by decide) (by decide) (by decide)) (by decide) (ho.reads spE) ho.none0 (by decide) (by decide) hrb (hk.ext hx) ⟨fun h => (by cases h), fun h => ?_⟩).mono ?_
  · have := h 5 (by show (0 : Int) ≤ 5; decide) (by show (5 : Int) < 6; decide)
    rw [Sp.mem_one] at this
    exact absurd this.2 (by decide)
  · rintro e' w' ⟨rfl, hx'⟩
    exact ⟨_, rfl, ⟨A, c, rfl, ho.ext hx'⟩, hx'⟩
theorem two_join (x : Int) : Sp.mem ([((0 : Int), (3 : Int))] ++ [((3 : Int), (6 : Int))]) x ↔ 0 ≤ x ∧ x < 6 := by
  rw [Sp.mem_append, Sp.mem_one, Sp.mem_one]
  show (0 ≤ x ∧ x < 3) ∨ (3 ≤ x ∧ x < 6) ↔ _
  omega
theorem cov6 : coversB [(0, 6)] (0, 6) true := ⟨fun _ x h1 h2 => (Sp.mem_one (0, 6) x).2 ⟨h1, h2⟩, fun _ => rfl⟩
theorem bts1 : bts (strOfNums [97, 98, 99, 0, 0, 0]) = [97, 98, 99, 0, 0, 0] := bts_nums (by decide)
set_option maxRecDepth 100000 in
set_option maxHeartbeats 1000000 in
theorem put2 (D : List Int) (hD : IsD D) (A : Option Addr) (c : Nat) (base : Nat) (w : World) (hk : Konst 0 w) (ho0 : OwnsSp base w A c [(0, 3)]) : Calls Tryz.prog 23 #[.agg (entC (E1 D A c)), .int .i64 3, .string deg] w fun e' w' => ∃ v, e' = .returned (.tuple #[v, .int .i64 8]) ∧ v = .agg (entC (E0 D)) ∧ Ext w w' := by
  refine put_any (E1 D A c) A c [(0, 3)] 3 deg w (.eq (.agg (entC (E0 D)))) 8 rfl rfl (by decide) (by show (3 : Int) + 3 ≤ 6; decide) (by show (6 : Int) ≤ 65536; decide) (by show ((strOfNums [97, 98, 99, 0, 0, 0]).size : Int) = 6; rw [strOfNums_size]; decide) ho0.plain (bdSp_of (bd_one (by decide) (by decide) (by decide) (by decide))) (by decide) (ho0.reads spE)
    (fun v W m vs hm h => h) (fun v W h => ⟨_, h, fits_E _ none 0 0 rfl⟩) ?_
  intro A' c' out Ab cb W hx hsrt hol ho hrb
  have hset := of_set hsrt
  have e1 : out = [(0, 6)] := set_one hset (by decide) two_join
  subst e1
  have e2 : Sha.over (bts (E1 D A c).bytes) 3 (bts deg) = [97, 98, 99, 100, 101, 103] := by show Sha.over (bts (strOfNums [97, 98, 99, 0, 0, 0])) 3 (bts deg) = _; rw [bts1]; decide
  rw [e2] at hrb ⊢
  refine (settle_bad (E1 D A c) A 1 c A' c' [(0, 6)] Ab cb [97, 98, 99, 100, 101, 103] W rfl (by show (0 : Int) ≤ 6; decide) (by show (6 : Int) ≤ 65536; decide) (Sp.IsSet.one (by decide)) (bd_one (by decide) (by decide) (by decide) (by decide)) (by decide) (ho.reads spE) ho.none0 (by decide) (by decide) hrb (hk.ext hx) cov6 hD.len hD.byt ?_).mono ?_
  · rw [bts_nums (by decide)]
    exact hD.no
  · rintro e' w' ⟨rfl, hx'⟩
    exact ⟨_, rfl, rfl, hx'⟩
set_option maxRecDepth 100000 in
set_option maxHeartbeats 1000000 in
theorem put3 (D : List Int) (hD : IsD D) (A : Option Addr) (c : Nat) (base : Nat) (w : World) (hk : Konst 0 w) (ho0 : OwnsSp base w A c [(0, 3)]) : Calls Tryz.prog 23 #[.agg (entC (E1 D A c)), .int .i64 3, .string def_] w fun e' w' => ∃ v, e' = .returned (.tuple #[v, .int .i64 0]) ∧ S2 D (w.heap.size + 2) v w' ∧ Ext w w' := by
  refine put_any (E1 D A c) A c [(0, 3)] 3 def_ w ⟨S2 D (w.heap.size + 2), fun v W W' ⟨A, c, h1, h2⟩ hx => ⟨A, c, h1, h2.ext hx⟩⟩ 0 rfl rfl (by decide) (by show (3 : Int) + 3 ≤ 6; decide) (by show (6 : Int) ≤ 65536; decide) (by show ((strOfNums [97, 98, 99, 0, 0, 0]).size : Int) = 6; rw [strOfNums_size]; decide) ho0.plain (bdSp_of (bd_one (by decide) (by decide) (by decide) (by decide))) (by decide) (ho0.reads spE)
    (fun v W m vs hm ⟨A, c, h1, h2⟩ => ⟨A, c, h1, h2.others hm 0 vs⟩) (fun v W ⟨A, c, h1, _⟩ => ⟨_, h1, fits_E _ A 1 c rfl⟩) ?_
  intro A' c' out Ab cb W hx hsrt hol ho hrb
  have hset := of_set hsrt
  have e1 : out = [(0, 6)] := set_one hset (by decide) two_join
  subst e1
  have e2 : Sha.over (bts (E1 D A c).bytes) 3 (bts def_) = [97, 98, 99, 100, 101, 102] := by show Sha.over (bts (strOfNums [97, 98, 99, 0, 0, 0])) 3 (bts def_) = _; rw [bts1]; decide
  rw [e2] at hrb ⊢
  refine (settle_ok (E1 D A c) A 1 c A' c' [(0, 6)] Ab cb [97, 98, 99, 100, 101, 102] W rfl (by show (0 : Int) ≤ 6; decide) (by show (6 : Int) ≤ 65536; decide) (Sp.IsSet.one (by decide)) (bd_one (by decide) (by decide) (by decide) (by decide)) (by decide) (ho.reads spE) ho.none0 (by decide) (by decide) hrb (hk.ext hx) cov6 hD.len hD.byt ?_).mono ?_
  · rw [bts_nums (by decide)]
    exact hD.yes
  · rintro e' w' ⟨rfl, hx'⟩
    exact ⟨_, rfl, ⟨A', c', rfl, ho.ext hx'⟩, hx'⟩
end Go.Proofs.YtiacnoejlmaplaaGreatDoor

namespace Go.Proofs.YtiacnoejlmaplaaGreatDoor
open Go.RowKit Go.Shelf
open Go.Proofs
open Go.Proofs.Sp (Sp)

theorem age_is (D : List Int) (A : Option Addr) (c : Nat) (lo hi n : Int) (w : World) (h2 : 0 ≤ hi) (h3 : hi ≤ 1099511627776) (h : max (hi - 100) 0 = n) : Calls Tryz.prog 14 #[.agg (entC (E2 D A c)), .agg #[.int .i64 lo, .int .i64 hi]] w fun e' w' => e' = .returned (.int .i64 n) ∧ Ext w w' := by
  subst h
  exact age_any (E2 D A c) lo hi w (by show (0 : Int) ≤ 100; decide) (by show (100 : Int) ≤ _; decide) h2 h3
theorem state_is (D : List Int) (A : Option Addr) (c : Nat) (r : Ru) (lo hi mode n : Int) (w : World) (h2 : 0 ≤ hi) (h3 : hi ≤ 1099511627776) (hr : RuR r) (h : stateN (E2 D A c) r (max (hi - 100) 0) mode = n) : Calls Tryz.prog 10 #[.agg (entC (E2 D A c)), .agg (ruC r), .agg #[.int .i64 lo, .int .i64 hi], .int .i64 mode] w fun e' w' => e' = .returned (.int .i64 n) ∧ Ext w w' := by
  subst h
  exact state_any (E2 D A c) r lo hi mode w (by show (0 : Int) ≤ 100; decide) (by show (100 : Int) ≤ _; decide) h2 h3 hr
def noRu : Ru := ⟨0, 0, 0, 0, .string ⟨#[]⟩, .string ⟨#[]⟩, .slice none 0 0, [.slice none 0 0, .int .i64 0, .int .i64 0, .string ⟨#[]⟩, .slice none 0 0, .slice none 0 0, .slice none 0 0, .int .i64 0, .bool false, .int .i64 0, .string ⟨#[]⟩]⟩
def theRu : Ru := { noRu with fresh := 50, stale := 20, down := 100, neg := 10 }
theorem rul_ty : RowTy Tryz.prog 38 18 := ⟨by kernel_rfl, by kernel_rfl⟩
theorem rul_ld (w : World) (b o : Nat) : (rowLoad 38 18 (.pointer (some ⟨b, o, none⟩))).run Tryz.prog w = rowLoadR Tryz.prog w 38 18 b o (rowOf w b o 18) := run_rowLoad rul_ty w b o
theorem rul_st (w : World) (b o : Nat) (cells : Array Value) : (rowStore 38 18 (.pointer (some ⟨b, o, none⟩)) (.agg cells)).run Tryz.prog w = rowStoreR Tryz.prog w 38 18 b o cells (roomOf w b o 18 && fitsRow 18 cells) := run_rowStore rul_ty w b o cells
theorem rul_lv (w : World) (b o : Nat) : (loadVar 38 ⟨b, o, none⟩).run Tryz.prog w = varRes Tryz.prog w 38 b o (rowOf w b o 18) := loadVar_row rul_ty w b o
theorem rul_al (w : World) : (rowAlloc 38).run Tryz.prog w = .ok (.value (.pointer (some ⟨w.heap.size, 0, none⟩))) (w.alloc (.cells (ruC noRu) 38)) := run_rowAlloc (by kernel_rfl) w
theorem rul_xl (ρ : Operand → Value) (dst : Option Tmp) (x : Operand) (t : TypeId) (pos : String) (after : Array Edge) (guard : Option (Nat × Bool)) : execOp ρ { dst, op := .load 38 x, type := t, pos, after, guard } = rowLoad 38 18 (ρ x) := rfl
theorem rul_xs (ρ : Operand → Value) (dst : Option Tmp) (x y : Operand) (t : TypeId) (pos : String) (after : Array Edge) (guard : Option (Nat × Bool)) : execOp ρ { dst, op := .store 38 x y, type := t, pos, after, guard } = rowStore 38 18 (ρ x) (ρ y) := rfl
theorem rul_xa (ρ : Operand → Value) (dst : Option Tmp) (t : TypeId) (pos : String) (after : Array Edge) (guard : Option (Nat × Bool)) : execOp ρ { dst, op := .alloc 38, type := t, pos, after, guard } = rowAlloc 38 := rfl
attribute [go_sem ↓] rul_xl rul_xs rul_xa
attribute [go_sem] rul_ld rul_st rul_al
def rulBuild (a b c d : Value) : Sem Next := do pure (.value (← Instr.build 38 #[(3, a), (4, b), (5, c), (6, d)]))
theorem rulBuild_x (ρ : Operand → Value) (dst : Option Tmp) (x3 x4 x5 x6 : Operand) (t : TypeId) (pos : String) (after : Array Edge) (guard : Option (Nat × Bool)) : execOp ρ { dst, op := .build 38 #[(3, x3), (4, x4), (5, x5), (6, x6)], type := t, pos, after, guard } = rulBuild (ρ x3) (ρ x4) (ρ x5) (ρ x6) := by kernel_rfl
theorem rulBuild_run (W : World) : (rulBuild (.int .i64 50) (.int .i64 20) (.int .i64 100) (.int .i64 10)).run Tryz.prog W = .ok (.value (.agg (ruC theRu))) W := by kernel_rfl
attribute [go_sem ↓] rulBuild_x
attribute [go_sem] rulBuild_run
theorem ruR_ex : RuR theRu := ⟨by show (0 : Int) ≤ 50; decide, by show (50 : Int) ≤ _; decide, by show (0 : Int) ≤ 20; decide, by show (20 : Int) ≤ _; decide, by show (0 : Int) ≤ 100; decide, by show (100 : Int) ≤ _; decide, by show (0 : Int) ≤ 10; decide, by show (10 : Int) ≤ _; decide⟩
theorem fits_ru : fitsRow 18 (ruC theRu) = true := by kernel_rfl
theorem ru_size : (ruC theRu).size = 18 := rfl
theorem noRu_size : (ruC noRu).size = 18 := rfl
theorem noru_all : rowSub (ruC noRu) 0 18 = some (ruC noRu) := rowSub_all _ _ rfl
attribute [local go_sem] fits_ru ru_size noRu_size noru_all
theorem fitsE0 (D : List Int) : fitsRow 45 (entC (E0 D)) = true := fits_E _ none 0 0 rfl
theorem fitsE1 (D : List Int) (A : Option Addr) (c : Nat) : fitsRow 45 (entC (E1 D A c)) = true := fits_E _ A 1 c rfl
theorem fitsE2 (D : List Int) (A : Option Addr) (c : Nat) : fitsRow 45 (entC (E2 D A c)) = true := fits_E _ A 1 c rfl
theorem E1_44 (D : List Int) (A : Option Addr) (c : Nat) : (entC (E1 D A c))[44]? = some (.bool false) := rfl
theorem E2_44 (D : List Int) (A : Option Addr) (c : Nat) : (entC (E2 D A c))[44]? = some (.bool true) := rfl
attribute [local go_sem] fitsE0 fitsE1 fitsE2
attribute [local go_sem ↓] E1_44 E2_44
theorem begin0 (D : List Int) (w : World) : Calls Tryz.prog 18 #[.agg (stmC (theSt D))] w fun e' w' => e' = .returned (.tuple #[.agg (entC (E0 D)), .int .i64 0]) ∧ Ext w w' :=
  begin_any (theSt D) w (by show 2 ≤ _; decide) (by show 0 ≤ _; decide) (by show 0 ≤ _; decide) (by rfl) (by show (0 : Int) < 6; decide) (by show (6 : Int) ≤ _; decide)
theorem miss1 (D : List Int) (A : Option Addr) (c base : Nat) (w : World) (ho : OwnsSp base w A c [(0, 3)]) : Calls Tryz.prog 26 #[.agg (entC (E1 D A c)), .agg #[.int .i64 0, .int .i64 9]] w fun e' w' => ∃ A' c', e' = .returned (.slice A' 1 c') ∧ OwnsSp w.heap.size w' A' c' [(3, 6)] ∧ Ext w w' := by
  refine (emissing_any (E1 D A c) A c [(0, 3)] 0 9 w rfl (by decide) (by show (0 : Int) < 6; decide) (by show (6 : Int) ≤ 9; decide) (by show (6 : Int) ≤ 65536; decide) (Sp.IsSet.one (by decide)) (bd_one (by decide) (by decide) (by decide) (by decide)) (by decide) (ho.reads spE) ho.none0).mono ?_
  rintro e' w' ⟨A', c', out, rfl, HS, ho', hx⟩
  have e1 : out = [(3, 6)] := set_one HS.out (by decide) (fun x => by
    rw [Sp.mem_one]
    show (0 ≤ x ∧ x < 6) ∧ ¬ (0 ≤ x ∧ x < 3) ↔ _
    omega)
  subst e1
  exact ⟨A', c', rfl, ho', hx⟩
theorem put4 (D : List Int) (A : Option Addr) (c : Nat) (w : World) : Calls Tryz.prog 23 #[.agg (entC (E2 D A c)), .int .i64 0, .string ⟨#[120]⟩] w fun e' w' => e' = .returned (.tuple #[.agg (entC (E2 D A c)), .int .i64 4]) ∧ Ext w w' := put_whole (E2 D A c) A 1 c 0 _ w rfl rfl

def lostCell (w : World) (m j : Nat) : Option Value := w.cell? ⟨m, j, none⟩
theorem setCells_cell_or (w : World) (b o : Nat) (vs : List Value) (m j : Nat) : (w.setCells b o vs).cell? ⟨m, j, none⟩ = if m = b then lostCell (w.setCells b o vs) m j else w.cell? ⟨m, j, none⟩ := by
  by_cases h : m = b
  · rw [if_pos h]; rfl
  · rw [if_neg h, setCells_cell_if, if_neg (fun k => h k.1)]
attribute [local go_sem ↓] setCells_cell_or
set_option maxRecDepth 100000 in
set_option maxHeartbeats 4000000 in
theorem sanity_ok (w : World) (hk : Konst 0 w) (hrk : RKonst w) : Calls Tryz.prog 9 #[] w fun e' w' => e' = .returned (.bool true) ∧ Ext w w' := by
  obtain ⟨D, hDe⟩ : ∃ D, Wire.digest 34 [[97, 98, 99, 100, 101, 102]] = D := ⟨_, rfl⟩
  have HDD : Hid (IsD D) := Lib.hid ⟨by rw [← hDe]; exact digest_length _ _, by rw [← hDe]; exact digest_byt _ _, hDe, by rw [← hDe]; exact dig_ne⟩
  have HK := Lib.hid hk
  have HRK := Lib.hid hrk
  clear hk hrk hDe
  go_enter Tryz.func9, Tryz.ntmps9
  go_wp2_with (first
    | (go_at_call 29; refine (show Hid _ from ?_).out)
    | (go_at_call 18; refine (show Hid _ from ?_).out)
    | (go_at_call 23; refine (show Hid _ from ?_).out)
    | (go_at_call 26; refine (show Hid _ from ?_).out)
    | (go_at_call 14; refine (show Hid _ from ?_).out)
    | (go_at_call 10; refine (show Hid _ from ?_).out))
  refine Lib.hid ?_
  refine (stamp_ok D _ (RowAt.ext HRK.out (by (repeat (first | with_reducible exact Ext.refl _ | with_reducible exact Ext.refl _ | with_reducible refine Ext.drew ?_ | with_reducible refine Ext.drewN ?_ _ | with_reducible refine Ext.alloc ?_ _ | with_reducible refine Ext.onto ?_ _ | (with_reducible refine Ext.setCells ?_ ?_ _ _; rotate_left; focus (first | omega | (simp; done) | (simp; omega))) | (with_reducible refine Ext.setCell ?_ ?_ _; rotate_left; focus (first | omega | (simp; done) | (simp; omega))))))) HDD.out.yes HDD.out.len).mono ?_
  rintro e' w' ⟨rfl, hxl⟩
  obtain ⟨xa, rfl⟩ := hxl.asLater
  clear hxl
  go_wp2_with (first
    | (go_at_call 29; refine (show Hid _ from ?_).out)
    | (go_at_call 18; refine (show Hid _ from ?_).out)
    | (go_at_call 23; refine (show Hid _ from ?_).out)
    | (go_at_call 26; refine (show Hid _ from ?_).out)
    | (go_at_call 14; refine (show Hid _ from ?_).out)
    | (go_at_call 10; refine (show Hid _ from ?_).out))
  refine Lib.hid ?_
  refine (begin0 D _).mono ?_
  rintro e' w' ⟨rfl, hxl⟩
  obtain ⟨xb, rfl⟩ := hxl.asLater
  clear hxl
  go_wp2_with (first
    | (go_at_call 29; refine (show Hid _ from ?_).out)
    | (go_at_call 18; refine (show Hid _ from ?_).out)
    | (go_at_call 23; refine (show Hid _ from ?_).out)
    | (go_at_call 26; refine (show Hid _ from ?_).out)
    | (go_at_call 14; refine (show Hid _ from ?_).out)
    | (go_at_call 10; refine (show Hid _ from ?_).out))
  refine Lib.hid ?_
  have hB : w.heap.size < w.heap.size + 1 + (xa.comp xb).n := by omega
  refine calls_world (fun W => Ext w W ∧ RowAt W w.heap.size (ruC theRu) ∧ RowAt W (w.heap.size + 1 + (xa.comp xb).n) (entC (E0 D))) ⟨(by (repeat (first | with_reducible exact Ext.refl _ | with_reducible exact Ext.refl _ | with_reducible refine Ext.drew ?_ | with_reducible refine Ext.drewN ?_ _ | with_reducible refine Ext.alloc ?_ _ | with_reducible refine Ext.onto ?_ _ | (with_reducible refine Ext.setCells ?_ ?_ _ _; rotate_left; focus (first | omega | (simp; done) | (simp; omega))) | (with_reducible refine Ext.setCell ?_ ?_ _; rotate_left; focus (first | omega | (simp; done) | (simp; omega)))))), RowAt.others (RowAt.alloc (RowAt.later ((RowAt.new w (ruC noRu) 38).store (by rw [ru_size, noRu_size])) _) _) (by omega) _ _, (RowAt.newAt (cs := entC noEn) (t := 31) (by simp [later_size])).store (by rw [ent_size, ent_size])⟩ ?_
  rintro W0 ⟨hx0, hu0, he0⟩
  generalize w.heap.size + 1 + (xa.comp xb).n = B at *
  have HX0 := Lib.hid hx0
  have HU0 := Lib.hid hu0
  have HE0 := Lib.hid he0
  have hl0 := he0.lt
  have hroom0 : roomOf W0 B 0 45 = true := by rw [he0.room, ent_size]; rfl
  have hrow0 : rowOf W0 B 0 45 = some (entC (E0 D)) := he0.all (ent_size _).symm (by omega)
  clear hx0 hu0 he0
  refine (put1 D _ (RowAt.ext HK.out HX0.out)).mono ?_
  rintro e' w' ⟨v, rfl, ⟨A1, c1, rfl, ho⟩, hxl⟩
  obtain ⟨xc, rfl⟩ := hxl.asLater
  have HO1 := Lib.hid ho
  clear hxl ho
  go_wp2_with (first
    | (go_at_call 29; refine (show Hid _ from ?_).out)
    | (go_at_call 18; refine (show Hid _ from ?_).out)
    | (go_at_call 23; refine (show Hid _ from ?_).out)
    | (go_at_call 26; refine (show Hid _ from ?_).out)
    | (go_at_call 14; refine (show Hid _ from ?_).out)
    | (go_at_call 10; refine (show Hid _ from ?_).out))
  refine Lib.hid ?_
  refine calls_world (fun W => Ext w W ∧ RowAt W w.heap.size (ruC theRu) ∧ RowAt W B (entC (E1 D A1 c1)) ∧ OwnsSp (W0.heap.size + 2) W A1 c1 [(0, 3)] ∧ W0.heap.size ≤ W.heap.size) ⟨(HX0.out.onto _).setCells (by omega) _ _, RowAt.others (RowAt.later HU0.out _) (by omega) _ _, RowAt.store (RowAt.later HE0.out _) (by rw [ent_size, ent_size]), HO1.out.others (by omega) _ _, by rw [setCells_size, later_size]; omega⟩ ?_
  rintro W1 ⟨hx1, hu1, he1, ho1, hs1⟩
  have HX1 := Lib.hid hx1
  have HU1 := Lib.hid hu1
  have HE1 := Lib.hid he1
  have HO1' := Lib.hid ho1
  have hl1 := he1.lt
  have hrow1 : rowOf W1 B 0 45 = some (entC (E1 D A1 c1)) := he1.all (ent_size _).symm (by omega)
  clear hx1 hu1 he1 ho1 hroom0 hrow0 HO1
  refine (miss1 D A1 c1 _ _ HO1'.out).mono ?_
  rintro e' w' ⟨A2, c2, rfl, ho, hxl⟩
  obtain ⟨b2, off2, rfl, hb2, y1, y2⟩ := ReadsSp.cell (ho.reads spE) 0 (by decide)
  obtain ⟨xd, rfl⟩ := hxl.asLater
  clear hxl ho
  go_wp2_with (first
    | (go_at_call 29; refine (show Hid _ from ?_).out)
    | (go_at_call 18; refine (show Hid _ from ?_).out)
    | (go_at_call 23; refine (show Hid _ from ?_).out)
    | (go_at_call 26; refine (show Hid _ from ?_).out)
    | (go_at_call 14; refine (show Hid _ from ?_).out)
    | (go_at_call 10; refine (show Hid _ from ?_).out))
  refine Lib.hid ?_
  refine (put2 D HDD.out A1 c1 _ _ (RowAt.ext HK.out (HX1.out.onto _)) (HO1'.out.later _)).mono ?_
  rintro e' w' ⟨v, rfl, rfl, hxl⟩
  obtain ⟨xe, rfl⟩ := hxl.asLater
  clear hxl
  go_wp2_with (first
    | (go_at_call 29; refine (show Hid _ from ?_).out)
    | (go_at_call 18; refine (show Hid _ from ?_).out)
    | (go_at_call 23; refine (show Hid _ from ?_).out)
    | (go_at_call 26; refine (show Hid _ from ?_).out)
    | (go_at_call 14; refine (show Hid _ from ?_).out)
    | (go_at_call 10; refine (show Hid _ from ?_).out))
  refine Lib.hid ?_
  have hE2 : Ext (later W1 xd) (later W1 (xd.comp xe)) := ext_later (later W1 xd) xe
  refine calls_world (fun W => Ext w W ∧ RowAt W w.heap.size (ruC theRu) ∧ RowAt W B (entC (E1 D A1 c1)) ∧ OwnsSp (W0.heap.size + 2) W A1 c1 [(0, 3)] ∧ W.cell? ⟨b2, off2 + 0 * 2, none⟩ = some (.int .i64 3) ∧ W.cell? ⟨b2, off2 + 0 * 2 + 1, none⟩ = some (.int .i64 6) ∧ b2 < W.heap.size)
    ⟨Ext.setCells ((HX1.out.onto _).alloc _) (by have := HX1.out.size; omega) _ _, RowAt.others (RowAt.alloc (RowAt.later HU1.out _) _) (by have := HU1.out.lt; omega) _ _, RowAt.others (RowAt.alloc (RowAt.later HE1.out _) _) (by omega) _ _, HO1'.out.ext (Ext.setCells ((ext_later W1 _).alloc _) (by omega) _ _), (Ext.cell (p := ⟨b2, off2 + 0 * 2, none⟩) (Ext.setCells (hE2.alloc _) (by simp only [later_size, Later.comp_n]; omega) _ _) hb2).trans y1, (Ext.cell (p := ⟨b2, off2 + 0 * 2 + 1, none⟩) (Ext.setCells (hE2.alloc _) (by simp only [later_size, Later.comp_n]; omega) _ _) hb2).trans y2, Nat.lt_of_lt_of_le hb2 (Ext.size (Ext.setCells (hE2.alloc _) (by simp only [later_size, Later.comp_n]; omega) _ _))⟩ ?_
  rintro W2 ⟨hx2, hu2, he2, ho2, z1, z2, hb3⟩
  have HX2 := Lib.hid hx2
  have HU2 := Lib.hid hu2
  have HE2 := Lib.hid he2
  have HO2 := Lib.hid ho2
  have hl2 := he2.lt
  have hlu2 := hu2.lt
  have hrow2 : rowOf W2 B 0 45 = some (entC (E1 D A1 c1)) := he2.all (ent_size _).symm (by omega)
  clear hx2 hu2 he2 ho2 hrow1 HO1' y1 y2 hb2 HX1 HU1 HE1 HX0 HU0 HE0
  refine (put3 D HDD.out A1 c1 _ _ (RowAt.ext HK.out HX2.out) HO2.out).mono ?_
  rintro e' w' ⟨v, rfl, ⟨A3, c3, rfl, _⟩, hxl⟩
  obtain ⟨xf, rfl⟩ := hxl.asLater
  clear hxl
  go_wp2_with (first
    | (go_at_call 29; refine (show Hid _ from ?_).out)
    | (go_at_call 18; refine (show Hid _ from ?_).out)
    | (go_at_call 23; refine (show Hid _ from ?_).out)
    | (go_at_call 26; refine (show Hid _ from ?_).out)
    | (go_at_call 14; refine (show Hid _ from ?_).out)
    | (go_at_call 10; refine (show Hid _ from ?_).out))
  refine Lib.hid ?_
  have hB8 : W2.heap.size ≤ W2.heap.size + xf.n := by omega
  refine calls_world (fun W => Ext w W ∧ RowAt W w.heap.size (ruC theRu) ∧ RowAt W B (entC (E1 D A1 c1)) ∧ RowAt W (W2.heap.size + xf.n) (entC (E2 D A3 c3)) ∧ W.cell? ⟨b2, off2 + 0 * 2, none⟩ = some (.int .i64 3) ∧ W.cell? ⟨b2, off2 + 0 * 2 + 1, none⟩ = some (.int .i64 6) ∧ b2 < W.heap.size)
    ⟨Ext.setCells ((HX2.out.onto _).alloc _) (by have := HX2.out.size; omega) _ _, RowAt.others (RowAt.alloc (RowAt.later HU2.out _) _) (by omega) _ _, RowAt.others (RowAt.alloc (RowAt.later HE2.out _) _) (by omega) _ _, (RowAt.newAt (cs := entC noEn) (t := 31) (by simp [later_size])).store (by rw [ent_size, ent_size]), (Ext.cell (p := ⟨b2, off2 + 0 * 2, none⟩) (Ext.setCells ((ext_later W2 _).alloc _) (by omega) _ _) hb3).trans z1, (Ext.cell (p := ⟨b2, off2 + 0 * 2 + 1, none⟩) (Ext.setCells ((ext_later W2 _).alloc _) (by omega) _ _) hb3).trans z2, Nat.lt_of_lt_of_le hb3 (Ext.size (Ext.setCells ((ext_later W2 _).alloc _) (by omega) _ _))⟩ ?_
  rintro W3 ⟨hx3, hu3, he3, h83, q1, q2, hb4⟩
  generalize W2.heap.size + xf.n = B8 at *
  have HX3 := Lib.hid hx3
  have q1' : W3.cell? ⟨b2, off2, none⟩ = some (.int .i64 3) := by rw [Nat.zero_mul, Nat.add_zero] at q1; exact q1
  have q2' : W3.cell? ⟨b2, off2 + 1, none⟩ = some (.int .i64 6) := by rw [Nat.zero_mul, Nat.add_zero] at q2; exact q2
  clear q1 q2
  have hl3 := he3.lt
  have hl8 := h83.lt
  have hlu3 := hu3.lt
  have hrow3 : rowOf W3 B8 0 45 = some (entC (E2 D A3 c3)) := h83.all (ent_size _).symm (by omega)
  have k44 : W3.cell? ⟨B8, 44, none⟩ = some (.bool true) := (h83.cell 44).trans (E2_44 _ _ _)
  have j44 : W3.cell? ⟨B, 44, none⟩ = some (.bool false) := (he3.cell 44).trans (E1_44 _ _ _)
  have hrowU : rowOf W3 w.heap.size 0 18 = some (ruC theRu) := hu3.all ru_size.symm (by omega)
  clear hx3 hu3 he3 h83 hrow2 z1 z2 hb3 HX2 HU2 HE2 HO2 hl2 hlu2 hB8
  refine (put4 D A3 c3 _).mono ?_
  rintro e w' ⟨rfl, hxl⟩; obtain ⟨xl, rfl⟩ := hxl.asLater; clear hxl
  go_wp2_with (first
    | (go_at_call 29; refine (show Hid _ from ?_).out)
    | (go_at_call 18; refine (show Hid _ from ?_).out)
    | (go_at_call 23; refine (show Hid _ from ?_).out)
    | (go_at_call 26; refine (show Hid _ from ?_).out)
    | (go_at_call 14; refine (show Hid _ from ?_).out)
    | (go_at_call 10; refine (show Hid _ from ?_).out))
  refine Lib.hid ?_
  refine (age_is D A3 c3 140 150 50 _ (by decide) (by decide) (by decide)).mono ?_
  rintro e w' ⟨rfl, hxl⟩; obtain ⟨xl, rfl⟩ := hxl.asLater; clear hxl
  go_wp2_with (first
    | (go_at_call 29; refine (show Hid _ from ?_).out)
    | (go_at_call 18; refine (show Hid _ from ?_).out)
    | (go_at_call 23; refine (show Hid _ from ?_).out)
    | (go_at_call 26; refine (show Hid _ from ?_).out)
    | (go_at_call 14; refine (show Hid _ from ?_).out)
    | (go_at_call 10; refine (show Hid _ from ?_).out))
  refine Lib.hid ?_
  refine (state_is D A3 c3 theRu 140 150 0 1 _ (by decide) (by decide) ruR_ex (by rfl)).mono ?_
  rintro e w' ⟨rfl, hxl⟩; obtain ⟨xl, rfl⟩ := hxl.asLater; clear hxl
  go_wp2_with (first
    | (go_at_call 29; refine (show Hid _ from ?_).out)
    | (go_at_call 18; refine (show Hid _ from ?_).out)
    | (go_at_call 23; refine (show Hid _ from ?_).out)
    | (go_at_call 26; refine (show Hid _ from ?_).out)
    | (go_at_call 14; refine (show Hid _ from ?_).out)
    | (go_at_call 10; refine (show Hid _ from ?_).out))
  refine Lib.hid ?_
  refine (state_is D A3 c3 theRu 150 151 0 0 _ (by decide) (by decide) ruR_ex (by rfl)).mono ?_
  rintro e w' ⟨rfl, hxl⟩; obtain ⟨xl, rfl⟩ := hxl.asLater; clear hxl
  go_wp2_with (first
    | (go_at_call 29; refine (show Hid _ from ?_).out)
    | (go_at_call 18; refine (show Hid _ from ?_).out)
    | (go_at_call 23; refine (show Hid _ from ?_).out)
    | (go_at_call 26; refine (show Hid _ from ?_).out)
    | (go_at_call 14; refine (show Hid _ from ?_).out)
    | (go_at_call 10; refine (show Hid _ from ?_).out))
  refine Lib.hid ?_
  refine (state_is D A3 c3 theRu 150 151 1 2 _ (by decide) (by decide) ruR_ex (by rfl)).mono ?_
  rintro e w' ⟨rfl, hxl⟩; obtain ⟨xl, rfl⟩ := hxl.asLater; clear hxl
  go_wp2_with (first
    | (go_at_call 29; refine (show Hid _ from ?_).out)
    | (go_at_call 18; refine (show Hid _ from ?_).out)
    | (go_at_call 23; refine (show Hid _ from ?_).out)
    | (go_at_call 26; refine (show Hid _ from ?_).out)
    | (go_at_call 14; refine (show Hid _ from ?_).out)
    | (go_at_call 10; refine (show Hid _ from ?_).out))
  refine Lib.hid ?_
  refine (state_is D A3 c3 theRu 250 251 2 0 _ (by decide) (by decide) ruR_ex (by rfl)).mono ?_
  rintro e w' ⟨rfl, hxl⟩; obtain ⟨xl, rfl⟩ := hxl.asLater; clear hxl
  go_wp2_with (first
    | (go_at_call 29; refine (show Hid _ from ?_).out)
    | (go_at_call 18; refine (show Hid _ from ?_).out)
    | (go_at_call 23; refine (show Hid _ from ?_).out)
    | (go_at_call 26; refine (show Hid _ from ?_).out)
    | (go_at_call 14; refine (show Hid _ from ?_).out)
    | (go_at_call 10; refine (show Hid _ from ?_).out))
  refine Lib.hid ?_
  refine (state_is D A3 c3 theRu 250 251 1 0 _ (by decide) (by decide) ruR_ex (by rfl)).mono ?_
  rintro e w' ⟨rfl, hxl⟩; obtain ⟨xl, rfl⟩ := hxl.asLater; clear hxl
  go_wp2_with (first
    | (go_at_call 29; refine (show Hid _ from ?_).out)
    | (go_at_call 18; refine (show Hid _ from ?_).out)
    | (go_at_call 23; refine (show Hid _ from ?_).out)
    | (go_at_call 26; refine (show Hid _ from ?_).out)
    | (go_at_call 14; refine (show Hid _ from ?_).out)
    | (go_at_call 10; refine (show Hid _ from ?_).out))
  refine Lib.hid ?_
  refine (state_is D A3 c3 theRu 250 250 2 2 _ (by decide) (by decide) ruR_ex (by rfl)).mono ?_
  rintro e w' ⟨rfl, hxl⟩; obtain ⟨xl, rfl⟩ := hxl.asLater; clear hxl
  go_wp2
  go_ret
  exact ⟨rfl, (by (repeat (first | with_reducible exact HX3.out | with_reducible exact Ext.refl _ | with_reducible refine Ext.drew ?_ | with_reducible refine Ext.drewN ?_ _ | with_reducible refine Ext.alloc ?_ _ | with_reducible refine Ext.onto ?_ _ | (with_reducible refine Ext.setCells ?_ ?_ _ _; rotate_left; focus (first | omega | (simp; done) | (simp; omega))) | (with_reducible refine Ext.setCell ?_ ?_ _; rotate_left; focus (first | omega | (simp; done) | (simp; omega))))))⟩
end Go.Proofs.YtiacnoejlmaplaaGreatDoor
