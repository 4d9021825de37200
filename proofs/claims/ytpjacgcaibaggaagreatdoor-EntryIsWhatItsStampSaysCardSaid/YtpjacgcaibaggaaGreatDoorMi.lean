/- Walks of the specification's entries: Put, Missing. -/
import Derived.Test.YtpjacgcaibaggaaGreatDoorProg
import Derived.Test.YtpjacgcaibaggaaGreatDoorExt
import Derived.WalkKit
import Derived.WalkSpells
import Derived.WalkLawsBesides
import Derived.Deep.QuietTactic
import Derived.BigQuiet
import Derived.Test.YtpjacgcaibaggaaGreatDoorMc
import Derived.Test.YtpjacgcaibaggaaGreatDoorWire
import Derived.Test.YtpjacgcaibaggaaGreatDoorMs
import Derived.Test.YtpjacgcaibaggaaGreatDoorOj
import Derived.BigRegion
import Derived.Laws.MakeOwn
set_option linter.unusedVariables false
set_option linter.unusedSimpArgs false
namespace Go.Proofs.YtpjacgcaibaggaaGreatDoor
open Go.RowKit Go.Shelf
open Go.Proofs
open Go.Proofs.Sp (Sp)

set_option maxHeartbeats 1000000 in
theorem put_whole (e : En) (A : Option Addr) (n c : Nat) (f : Int) (more : ByteArray) (w : World) (hv : e.hv = .slice A n c) (hw : e.whole = true) :
    Calls Tryz.prog 28 #[.agg (entC e), .int .i64 f, .string more] w fun e' w' => e' = .returned (.tuple #[.agg (entC e), .int .i64 4]) ∧ Ext w w' := by
  have hc44 : (entC e)[44]? = some (.bool true) := by rw [ent_g44, hw]
  have hf : fitsRow 45 (entC e) = true := ent_fits_of hv
  go_enter Tryz.func28, Tryz.ntmps28
  go_wp2
  refine post_two (v1 := .agg (entC e)) (v2 := .int .i64 4) Tryz.results28 rfl ⟨_, rfl, ent_loaded (row_stored (RowAt.newAt (cs := entC noEn) (t := 58) (by simp)) (ent_size _) (ent_size _))⟩ rfl ⟨rfl, (by (repeat (first | with_reducible exact Ext.refl _ | with_reducible exact Ext.refl _ | with_reducible refine Ext.drew ?_ | with_reducible refine Ext.drewN ?_ _ | with_reducible refine Ext.alloc ?_ _ | with_reducible refine Ext.onto ?_ _ | (with_reducible refine Ext.setCells ?_ ?_ _ _; rotate_left; focus (first | omega | (simp; done) | (simp; omega))) | (with_reducible refine Ext.setCell ?_ ?_ _; rotate_left; focus (first | omega | (simp; done) | (simp; omega))))))⟩
set_option maxHeartbeats 1000000 in
theorem begin_any (s : St) (w : World) (h1 : s.addr.size ≤ 4096) (h2 : s.var.size ≤ 4096) (h3 : s.tags.size ≤ 4096) (h : rightB s = true) (h4 : 0 < s.size) (h5 : s.size ≤ 65536) :
    Calls Tryz.prog 27 #[.agg (stmC s)] w fun e' w' => e' = .returned (.tuple #[.agg (entC (emptyEn s false)), .int .i64 0]) ∧ Ext w w' := by
  have H := Lib.hid h
  have hne : (s.size == 0) = false := by rw [beq_eq_false_iff_ne]; omega
  have d1 : decide (65536 < s.size) = false := by simp <;> omega
  have hf : fitsRow 45 (entC (emptyEn s false)) = true := ent_fits_of rfl
  clear h
  go_enter Tryz.func27, Tryz.ntmps27
  go_wp2_with (go_at_call 61; refine (right_ok s _ h1 h2 h3 H.out).mono ?_; rintro e w' ⟨rfl, hxl⟩; obtain ⟨xl, rfl⟩ := hxl.asLater; clear hxl)
  refine wp_region_later (by kernel_rfl) (by kernel_rfl) ?_
  repeat (first | go_big_quiet_step (fail) | quiet_step (fail))
  refine wpQuiet_nil ?_
  rintro _ ⟨xq, rfl⟩
  go_wp2_with (go_at_call 62; refine (empty_any s false _ (by omega) h5).mono ?_; rintro e w' ⟨rfl, hxl⟩; obtain ⟨xl, rfl⟩ := hxl.asLater; clear hxl)
  refine post_two (v1 := .agg (entC (emptyEn s false))) (v2 := .int .i64 0) Tryz.results27 rfl ⟨_, rfl, ent_loaded (row_stored ((by (repeat (first | with_reducible exact RowAt.newAt (cs := entC noEn) (t := 58) (by simp) | with_reducible refine RowAt.drew ?_ | with_reducible refine RowAt.later ?_ _ | with_reducible exact RowAt.newAt (by first | rfl | omega | (simp [later_size, setCells_size]; done) | (simp [later_size, setCells_size]; omega)) | with_reducible refine RowAt.alloc ?_ _ | with_reducible apply RowAt.store | with_reducible refine RowAt.others ?_ ?_ _ _ | with_reducible refine RowAt.other ?_ ?_ _)); all_goals first | omega | (simp; done) | (simp; omega) | (simp [go_sem]; done))) (ent_size _) (ent_size _))⟩ rfl ⟨rfl, (by (repeat (first | with_reducible exact Ext.refl _ | with_reducible exact Ext.refl _ | with_reducible refine Ext.drew ?_ | with_reducible refine Ext.drewN ?_ _ | with_reducible refine Ext.alloc ?_ _ | with_reducible refine Ext.onto ?_ _ | (with_reducible refine Ext.setCells ?_ ?_ _ _; rotate_left; focus (first | omega | (simp; done) | (simp; omega))) | (with_reducible refine Ext.setCell ?_ ?_ _; rotate_left; focus (first | omega | (simp; done) | (simp; omega))))))⟩
set_option maxHeartbeats 1000000 in
theorem emissing_any (e : En) (A : Option Addr) (c : Nat) (l : List Sp) (s1 s2 : Int) (w : World) (hv : e.hv = .slice A l.length c) (h0 : 0 ≤ s1) (h1 : s1 < e.st.size) (h2 : e.st.size ≤ s2) (h3 : e.st.size ≤ 65536)
    (hs : Sp.IsSet l) (hb : bd2 l) (hlen : l.length * 32 ≤ 140737488340000) (hr : ReadsSp w w.heap.size A l) (z : A = none → c = 0) :
    Calls Tryz.prog 58 #[.agg (entC e), .agg #[.int .i64 s1, .int .i64 s2]] w fun e' w' => ∃ A' c' out, e' = .returned (.slice A' out.length c') ∧ Hid (SetOf (fun x => (s1 ≤ x ∧ x < e.st.size) ∧ ¬ Sp.mem l x) out) ∧ OwnsSp w.heap.size w' A' c' out ∧ Ext w w' := by
  have hc42 : (entC e)[42]? = some (.slice A l.length c) := by rw [ent_g42, hv]
  have HR := Lib.hid hr
  have HZ := Lib.hid z
  have HS := Lib.hid hs
  have HB := Lib.hid hb
  have hmx : max s1 0 = s1 := by omega
  have hmn : min s2 e.st.size = e.st.size := by omega
  clear hr z hs hb
  go_enter Tryz.func58, Tryz.ntmps58
  go_wp2
  go_region
  all_goals
    go_wp2_with (go_at_call 99; refine (missing_any A c l (s1, e.st.size) _ HS.out HB.out ⟨⟨by show _ ≤ s1; omega, by show s1 ≤ _; omega⟩, by show _ ≤ e.st.size; omega, by show e.st.size ≤ _; omega⟩ (by omega) (HR.out.on (by (repeat (first | with_reducible exact Ext.refl _ | with_reducible exact Ext.refl _ | with_reducible refine Ext.drew ?_ | with_reducible refine Ext.drewN ?_ _ | with_reducible refine Ext.alloc ?_ _ | with_reducible refine Ext.onto ?_ _ | (with_reducible refine Ext.setCells ?_ ?_ _ _; rotate_left; focus (first | omega | (simp; done) | (simp; omega))) | (with_reducible refine Ext.setCell ?_ ?_ _; rotate_left; focus (first | omega | (simp; done) | (simp; omega))))))) HZ.out).mono ?_; rintro e' w2 ⟨A2, c2, out, rfl, HS2, hol2, ho2, hx2⟩; have HO2 := Lib.hid ho2; have HX2 := Lib.hid hx2; clear ho2 hx2)
    go_ret
    exact ⟨A2, c2, out, rfl, HS2, HO2.out.lower (by simp <;> omega), Ext.trans (by (repeat (first | with_reducible exact Ext.refl _ | with_reducible exact Ext.refl _ | with_reducible refine Ext.drew ?_ | with_reducible refine Ext.drewN ?_ _ | with_reducible refine Ext.alloc ?_ _ | with_reducible refine Ext.onto ?_ _ | (with_reducible refine Ext.setCells ?_ ?_ _ _; rotate_left; focus (first | omega | (simp; done) | (simp; omega))) | (with_reducible refine Ext.setCell ?_ ?_ _; rotate_left; focus (first | omega | (simp; done) | (simp; omega)))))) HX2.out⟩
def stmBuild (a b c d p g s : Value) : Sem Next := do pure (.value (← Instr.build 48 #[(0, a), (2, b), (3, c), (4, d), (6, p), (7, g), (8, s)]))
theorem stmBuild_x (ρ : Operand → Value) (dst : Option Tmp) (x0 x2 x3 x4 x6 x7 x8 : Operand) (t : TypeId) (pos : String) (after : Array Edge) (guard : Option (Nat × Bool)) : execOp ρ { dst, op := .build 48 #[(0, x0), (2, x2), (3, x3), (4, x4), (6, x6), (7, x7), (8, x8)], type := t, pos, after, guard } = stmBuild (ρ x0) (ρ x2) (ρ x3) (ρ x4) (ρ x6) (ρ x7) (ρ x8) := by kernel_rfl
theorem stmBuild_run (a : ByteArray) (st sz : Int) (D : List Int) (lo hi g s : Int) (W : World) : (stmBuild (.string a) (.int .i64 st) (.int .i64 sz) (.agg (dgC D)) (.agg #[.int .i64 lo, .int .i64 hi]) (.int .i64 g) (.int .i64 s)).run Tryz.prog W = .ok (.value (.agg (stmC ⟨a, ByteArray.empty, st, sz, D, ByteArray.empty, lo, hi, g, s, zeros32 16⟩))) W := by kernel_rfl
attribute [go_sem ↓] stmBuild_x
attribute [go_sem] stmBuild_run
def abcdef : ByteArray := ⟨#[97, 98, 99, 100, 101, 102]⟩
def theSt (D : List Int) : St := ⟨⟨#[47, 97]⟩, ByteArray.empty, 200, 6, D, ByteArray.empty, 100, 110, 7, 1, zeros32 16⟩
theorem rdigest_d (s : ByteArray) (D : List Int) (w : World) (hk : RKonst w) (hl : s.size ≤ 140737488351200) (h : Wire.digest 34 [bts s] = D) (h16 : D.length = 16) :
    Calls Tryz.prog 29 #[.string s] w fun e w' => e = .returned (.agg (dgC D)) ∧ Ext w w' := by
  rw [dgC_cells h16]; exact rdigest_is s D w hk hl h
set_option maxHeartbeats 1000000 in
theorem stamp_ok (D : List Int) (w : World) (hk : RKonst w) (hD : Wire.digest 34 [bts abcdef] = D) (h16 : D.length = 16) : Calls Tryz.prog 57 #[] w fun e' w' => e' = .returned (.agg (stmC (theSt D))) ∧ Ext w w' := by
  have HK := Lib.hid hk
  have HD : Hid (Wire.digest 34 [bts ⟨#[97, 98, 99, 100, 101, 102]⟩] = D) := Lib.hid hD
  have H16 := Lib.hid h16
  clear hk hD h16
  go_enter Tryz.func57, Tryz.ntmps57
  go_wp2_with (go_at_call 29; refine (rdigest_d ⟨#[97, 98, 99, 100, 101, 102]⟩ D _ (HK.out.alloc _) (by decide) HD.out H16.out).mono ?_; rintro e w' ⟨rfl, hxl⟩; obtain ⟨xl, rfl⟩ := hxl.asLater; clear hxl)
  have h1 : RowAt (later (w.alloc (.cells (stmC noSt) 48)) xl) w.heap.size (stmC noSt) := RowAt.later (RowAt.new _ _ _) _
  refine post_row stm_ty Tryz.results57 rfl rfl (h1.stored (n := 41) rfl rfl (by omega)) ⟨rfl, (by (repeat (first | with_reducible exact Ext.refl _ | with_reducible exact Ext.refl _ | with_reducible refine Ext.drew ?_ | with_reducible refine Ext.drewN ?_ _ | with_reducible refine Ext.alloc ?_ _ | with_reducible refine Ext.onto ?_ _ | (with_reducible refine Ext.setCells ?_ ?_ _ _; rotate_left; focus (first | omega | (simp; done) | (simp; omega))) | (with_reducible refine Ext.setCell ?_ ?_ _; rotate_left; focus (first | omega | (simp; done) | (simp; omega))))))⟩
end Go.Proofs.YtpjacgcaibaggaaGreatDoor

namespace Go.Proofs.YtpjacgcaibaggaaGreatDoor
set_option maxRecDepth 100000 in
theorem dig_ne : Wire.digest 34 [[97, 98, 99, 100, 101, 103]] ≠ Wire.digest 34 [[97, 98, 99, 100, 101, 102]] := by decide +kernel
end Go.Proofs.YtpjacgcaibaggaaGreatDoor

namespace Go.Proofs.YtpjacgcaibaggaaGreatDoor
open Go.RowKit Go.Shelf
open Go.Proofs
open Go.Proofs.Sp (Sp)

def abc : ByteArray := ⟨#[97, 98, 99]⟩
def def_ : ByteArray := ⟨#[100, 101, 102]⟩
def deg : ByteArray := ⟨#[100, 101, 103]⟩
def E0 (D : List Int) : En := emptyEn (theSt D) false
def E1 (D : List Int) (A : Option Addr) (c : Nat) : En := { E0 D with hv := .slice A 1 c, bytes := strOfNums [97, 98, 99, 0, 0, 0] }
def E2 (D : List Int) (A : Option Addr) (c : Nat) : En := { E1 D A c with hv := .slice A 1 c, bytes := strOfNums [97, 98, 99, 100, 101, 102], whole := true }
structure IsD (D : List Int) : Prop where
  len : D.length = 16
  byt : Byt D
  yes : Wire.digest 34 [[97, 98, 99, 100, 101, 102]] = D
  no : Wire.digest 34 [[97, 98, 99, 100, 101, 103]] ≠ D
theorem set_one {out : List Sp} {p : Int → Prop} (h : SetOf p out) {a b : Int} (hab : a < b) (hp : ∀ x, p x ↔ a ≤ x ∧ x < b) : out = [(a, b)] :=
  Sp.IsSet.ext h.1 (Sp.IsSet.one hab) (fun x => (h.2 x).trans ((hp x).trans (Sp.mem_one (a, b) x).symm))
theorem bd_one {a b : Int} (h0 : 0 ≤ a) (h1 : a ≤ 1000) (h2 : 0 ≤ b) (h3 : b ≤ 1000) : bd2 [(a, b)] := fun s hs => by
  simp at hs; subst hs
  exact ⟨⟨by show _ ≤ a; omega, by show a ≤ _; omega⟩, by show _ ≤ b; omega, by show b ≤ _; omega⟩
theorem bdSp_of {l : List Sp} (h : bd2 l) : bdSp l := fun s hs => (h s hs).1
def S1 (D : List Int) (base : Nat) (v : Value) (W : World) : Prop := ∃ A c, v = .agg (entC (E1 D A c)) ∧ OwnsSp base W A c [(0, 3)]
def S2 (D : List Int) (base : Nat) (v : Value) (W : World) : Prop := ∃ A c, v = .agg (entC (E2 D A c)) ∧ OwnsSp base W A c [(0, 6)]
theorem fits_E (e : En) (A : Option Addr) (n c : Nat) (h : e.hv = .slice A n c) : fitsRow 45 (entC e) = true := ent_fits_of h

set_option maxRecDepth 100000 in
set_option maxHeartbeats 1000000 in
theorem put1 (D : List Int) (w : World) (hk : Konst 0 w) : Calls Tryz.prog 28 #[.agg (entC (E0 D)), .int .i64 0, .string abc] w fun e' w' => ∃ v, e' = .returned (.tuple #[v, .int .i64 0]) ∧ S1 D (w.heap.size + 2) v w' ∧ Ext w w' := by
  refine put_any (E0 D) none 0 [] 0 abc w ⟨S1 D (w.heap.size + 2), fun v W W' ⟨A, c, h1, h2⟩ hx => ⟨A, c, h1, h2.ext hx⟩⟩ 0 rfl rfl (by decide) (by show (0 : Int) + 3 ≤ 6; decide) (by show (6 : Int) ≤ 65536; decide) (by show (6 : Int) = 6; rfl) (fun a h => by cases h) (fun s hs => by cases hs) (by decide) (Reads.nil _ _ _ _ _)
    (fun v W m vs hm ⟨A, c, h1, h2⟩ => ⟨A, c, h1, h2.others hm 0 vs⟩) (fun v W ⟨A, c, h1, _⟩ => ⟨_, h1, fits_E _ A 1 c rfl⟩) ?_
  intro A c out Ab cb W hx hsrt hol ho hrb
  have hset := of_set hsrt
  have e1 : out = [(0, 3)] := set_one hset (by decide) (fun x => by
    show Sp.mem [(0, 3)] x ↔ _
    exact Sp.mem_one (0, 3) x)
  subst e1
  have e2 : Sha.over (bts (E0 D).bytes) 0 (bts abc) = [97, 98, 99, 0, 0, 0] := by show Sha.over (bts (zb 6)) 0 (bts abc) = _; decide
  rw [e2] at hrb ⊢
  refine (settle_no (E0 D) none 0 0 A c [(0, 3)] Ab cb [97, 98, 99, 0, 0, 0] W rfl (by show (0 : Int) ≤ 6; decide) (by show (6 : Int) ≤ 65536; decide) (Sp.IsSet.one (by decide)) (bd_one (by decide) (by decide) (by decide) (by decide)) (by decide) (ho.reads spE) ho.none0 (by decide) (by decide) hrb (hk.ext hx) ⟨fun h => (by cases h), fun h => ?_⟩).mono ?_
  · have := h 5 (by show (0 : Int) ≤ 5; decide) (by show (5 : Int) < 6; decide)
    rw [Sp.mem_one] at this
    exact absurd this.2 (by decide)
  · rintro e' w' ⟨rfl, hx'⟩
    exact ⟨_, rfl, ⟨A, c, rfl, ho.ext hx'⟩, hx'⟩
theorem two_join (x : Int) : Sp.mem ([((0 : Int), (3 : Int))] ++ [((3 : Int), (6 : Int))]) x ↔ 0 ≤ x ∧ x < 6 := by
  rw [Sp.mem_append, Sp.mem_one, Sp.mem_one]
  show (0 ≤ x ∧ x < 3) ∨ (3 ≤ x ∧ x < 6) ↔ _
  omega
theorem cov6 : coversB [(0, 6)] (0, 6) true := ⟨fun _ x h1 h2 => (Sp.mem_one (0, 6) x).2 ⟨h1, h2⟩, fun _ => rfl⟩
theorem bts1 : bts (strOfNums [97, 98, 99, 0, 0, 0]) = [97, 98, 99, 0, 0, 0] := bts_nums (by decide)
set_option maxRecDepth 100000 in
set_option maxHeartbeats 1000000 in
theorem put2 (D : List Int) (hD : IsD D) (A : Option Addr) (c : Nat) (base : Nat) (w : World) (hk : Konst 0 w) (ho0 : OwnsSp base w A c [(0, 3)]) : Calls Tryz.prog 28 #[.agg (entC (E1 D A c)), .int .i64 3, .string deg] w fun e' w' => ∃ v, e' = .returned (.tuple #[v, .int .i64 8]) ∧ v = .agg (entC (E0 D)) ∧ Ext w w' := by
  refine put_any (E1 D A c) A c [(0, 3)] 3 deg w (.eq (.agg (entC (E0 D)))) 8 rfl rfl (by decide) (by show (3 : Int) + 3 ≤ 6; decide) (by show (6 : Int) ≤ 65536; decide) (by show ((strOfNums [97, 98, 99, 0, 0, 0]).size : Int) = 6; rw [strOfNums_size]; decide) ho0.plain (bdSp_of (bd_one (by decide) (by decide) (by decide) (by decide))) (by decide) (ho0.reads spE)
    (fun v W m vs hm h => h) (fun v W h => ⟨_, h, fits_E _ none 0 0 rfl⟩) ?_
  intro A' c' out Ab cb W hx hsrt hol ho hrb
  have hset := of_set hsrt
  have e1 : out = [(0, 6)] := set_one hset (by decide) two_join
  subst e1
  have e2 : Sha.over (bts (E1 D A c).bytes) 3 (bts deg) = [97, 98, 99, 100, 101, 103] := by show Sha.over (bts (strOfNums [97, 98, 99, 0, 0, 0])) 3 (bts deg) = _; rw [bts1]; decide
  rw [e2] at hrb ⊢
  refine (settle_bad (E1 D A c) A 1 c A' c' [(0, 6)] Ab cb [97, 98, 99, 100, 101, 103] W rfl (by show (0 : Int) ≤ 6; decide) (by show (6 : Int) ≤ 65536; decide) (Sp.IsSet.one (by decide)) (bd_one (by decide) (by decide) (by decide) (by decide)) (by decide) (ho.reads spE) ho.none0 (by decide) (by decide) hrb (hk.ext hx) cov6 hD.len hD.byt ?_).mono ?_
  · rw [bts_nums (by decide)]
    exact hD.no
  · rintro e' w' ⟨rfl, hx'⟩
    exact ⟨_, rfl, rfl, hx'⟩
set_option maxRecDepth 100000 in
set_option maxHeartbeats 1000000 in
theorem put3 (D : List Int) (hD : IsD D) (A : Option Addr) (c : Nat) (base : Nat) (w : World) (hk : Konst 0 w) (ho0 : OwnsSp base w A c [(0, 3)]) : Calls Tryz.prog 28 #[.agg (entC (E1 D A c)), .int .i64 3, .string def_] w fun e' w' => ∃ v, e' = .returned (.tuple #[v, .int .i64 0]) ∧ S2 D (w.heap.size + 2) v w' ∧ Ext w w' := by
  refine put_any (E1 D A c) A c [(0, 3)] 3 def_ w ⟨S2 D (w.heap.size + 2), fun v W W' ⟨A, c, h1, h2⟩ hx => ⟨A, c, h1, h2.ext hx⟩⟩ 0 rfl rfl (by decide) (by show (3 : Int) + 3 ≤ 6; decide) (by show (6 : Int) ≤ 65536; decide) (by show ((strOfNums [97, 98, 99, 0, 0, 0]).size : Int) = 6; rw [strOfNums_size]; decide) ho0.plain (bdSp_of (bd_one (by decide) (by decide) (by decide) (by decide))) (by decide) (ho0.reads spE)
    (fun v W m vs hm ⟨A, c, h1, h2⟩ => ⟨A, c, h1, h2.others hm 0 vs⟩) (fun v W ⟨A, c, h1, _⟩ => ⟨_, h1, fits_E _ A 1 c rfl⟩) ?_
  intro A' c' out Ab cb W hx hsrt hol ho hrb
  have hset := of_set hsrt
  have e1 : out = [(0, 6)] := set_one hset (by decide) two_join
  subst e1
  have e2 : Sha.over (bts (E1 D A c).bytes) 3 (bts def_) = [97, 98, 99, 100, 101, 102] := by show Sha.over (bts (strOfNums [97, 98, 99, 0, 0, 0])) 3 (bts def_) = _; rw [bts1]; decide
  rw [e2] at hrb ⊢
  refine (settle_ok (E1 D A c) A 1 c A' c' [(0, 6)] Ab cb [97, 98, 99, 100, 101, 102] W rfl (by show (0 : Int) ≤ 6; decide) (by show (6 : Int) ≤ 65536; decide) (Sp.IsSet.one (by decide)) (bd_one (by decide) (by decide) (by decide) (by decide)) (by decide) (ho.reads spE) ho.none0 (by decide) (by decide) hrb (hk.ext hx) cov6 hD.len hD.byt ?_).mono ?_
  · rw [bts_nums (by decide)]
    exact hD.yes
  · rintro e' w' ⟨rfl, hx'⟩
    exact ⟨_, rfl, ⟨A', c', rfl, ho.ext hx'⟩, hx'⟩
end Go.Proofs.YtpjacgcaibaggaaGreatDoor

namespace Go.Proofs.YtpjacgcaibaggaaGreatDoor
open Go.RowKit Go.Shelf
open Go.Proofs
open Go.Proofs.Sp (Sp)

theorem age_is (D : List Int) (A : Option Addr) (c : Nat) (lo hi n : Int) (w : World) (h2 : 0 ≤ hi) (h3 : hi ≤ 1099511627776) (h : max (hi - 100) 0 = n) : Calls Tryz.prog 59 #[.agg (entC (E2 D A c)), .agg #[.int .i64 lo, .int .i64 hi]] w fun e' w' => e' = .returned (.int .i64 n) ∧ Ext w w' := by
  subst h
  exact age_any (E2 D A c) lo hi w (by show (0 : Int) ≤ 100; decide) (by show (100 : Int) ≤ _; decide) h2 h3
theorem state_is (D : List Int) (A : Option Addr) (c : Nat) (r : Ru) (lo hi mode n : Int) (w : World) (h2 : 0 ≤ hi) (h3 : hi ≤ 1099511627776) (hr : RuR r) (h : stateN (E2 D A c) r (max (hi - 100) 0) mode = n) : Calls Tryz.prog 60 #[.agg (entC (E2 D A c)), .agg (ruC r), .agg #[.int .i64 lo, .int .i64 hi], .int .i64 mode] w fun e' w' => e' = .returned (.int .i64 n) ∧ Ext w w' := by
  subst h
  exact state_any (E2 D A c) r lo hi mode w (by show (0 : Int) ≤ 100; decide) (by show (100 : Int) ≤ _; decide) h2 h3 hr
def noRu : Ru := ⟨0, 0, 0, 0, .string ⟨#[]⟩, .string ⟨#[]⟩, .slice none 0 0, [.slice none 0 0, .int .i64 0, .int .i64 0, .string ⟨#[]⟩, .slice none 0 0, .slice none 0 0, .slice none 0 0, .int .i64 0, .bool false, .int .i64 0, .string ⟨#[]⟩]⟩
def theRu : Ru := { noRu with fresh := 50, stale := 20, down := 100, neg := 10 }
theorem rul_ty : RowTy Tryz.prog 112 18 := ⟨by kernel_rfl, by kernel_rfl⟩
theorem rul_ld (w : World) (b o : Nat) : (rowLoad 112 18 (.pointer (some ⟨b, o, none⟩))).run Tryz.prog w = rowLoadR Tryz.prog w 112 18 b o (rowOf w b o 18) := run_rowLoad rul_ty w b o
theorem rul_st (w : World) (b o : Nat) (cells : Array Value) : (rowStore 112 18 (.pointer (some ⟨b, o, none⟩)) (.agg cells)).run Tryz.prog w = rowStoreR Tryz.prog w 112 18 b o cells (roomOf w b o 18 && fitsRow 18 cells) := run_rowStore rul_ty w b o cells
theorem rul_lv (w : World) (b o : Nat) : (loadVar 112 ⟨b, o, none⟩).run Tryz.prog w = varRes Tryz.prog w 112 b o (rowOf w b o 18) := loadVar_row rul_ty w b o
theorem rul_al (w : World) : (rowAlloc 112).run Tryz.prog w = .ok (.value (.pointer (some ⟨w.heap.size, 0, none⟩))) (w.alloc (.cells (ruC noRu) 112)) := run_rowAlloc (by kernel_rfl) w
theorem rul_xl (ρ : Operand → Value) (dst : Option Tmp) (x : Operand) (t : TypeId) (pos : String) (after : Array Edge) (guard : Option (Nat × Bool)) : execOp ρ { dst, op := .load 112 x, type := t, pos, after, guard } = rowLoad 112 18 (ρ x) := rfl
theorem rul_xs (ρ : Operand → Value) (dst : Option Tmp) (x y : Operand) (t : TypeId) (pos : String) (after : Array Edge) (guard : Option (Nat × Bool)) : execOp ρ { dst, op := .store 112 x y, type := t, pos, after, guard } = rowStore 112 18 (ρ x) (ρ y) := rfl
theorem rul_xa (ρ : Operand → Value) (dst : Option Tmp) (t : TypeId) (pos : String) (after : Array Edge) (guard : Option (Nat × Bool)) : execOp ρ { dst, op := .alloc 112, type := t, pos, after, guard } = rowAlloc 112 := rfl
attribute [go_sem ↓] rul_xl rul_xs rul_xa
attribute [go_sem] rul_ld rul_st rul_al
def rulBuild (a b c d : Value) : Sem Next := do pure (.value (← Instr.build 112 #[(3, a), (4, b), (5, c), (6, d)]))
theorem rulBuild_x (ρ : Operand → Value) (dst : Option Tmp) (x3 x4 x5 x6 : Operand) (t : TypeId) (pos : String) (after : Array Edge) (guard : Option (Nat × Bool)) : execOp ρ { dst, op := .build 112 #[(3, x3), (4, x4), (5, x5), (6, x6)], type := t, pos, after, guard } = rulBuild (ρ x3) (ρ x4) (ρ x5) (ρ x6) := by kernel_rfl
theorem rulBuild_run (W : World) : (rulBuild (.int .i64 50) (.int .i64 20) (.int .i64 100) (.int .i64 10)).run Tryz.prog W = .ok (.value (.agg (ruC theRu))) W := by kernel_rfl
attribute [go_sem ↓] rulBuild_x
attribute [go_sem] rulBuild_run
theorem ruR_ex : RuR theRu := ⟨by show (0 : Int) ≤ 50; decide, by show (50 : Int) ≤ _; decide, by show (0 : Int) ≤ 20; decide, by show (20 : Int) ≤ _; decide, by show (0 : Int) ≤ 100; decide, by show (100 : Int) ≤ _; decide, by show (0 : Int) ≤ 10; decide, by show (10 : Int) ≤ _; decide⟩
theorem fits_ru : fitsRow 18 (ruC theRu) = true := by kernel_rfl
theorem ru_size : (ruC theRu).size = 18 := rfl
theorem noRu_size : (ruC noRu).size = 18 := rfl
theorem noru_all : rowSub (ruC noRu) 0 18 = some (ruC noRu) := rowSub_all _ _ rfl
attribute [local go_sem] fits_ru ru_size noRu_size noru_all
theorem fitsE0 (D : List Int) : fitsRow 45 (entC (E0 D)) = true := fits_E _ none 0 0 rfl
theorem fitsE1 (D : List Int) (A : Option Addr) (c : Nat) : fitsRow 45 (entC (E1 D A c)) = true := fits_E _ A 1 c rfl
theorem fitsE2 (D : List Int) (A : Option Addr) (c : Nat) : fitsRow 45 (entC (E2 D A c)) = true := fits_E _ A 1 c rfl
theorem E1_44 (D : List Int) (A : Option Addr) (c : Nat) : (entC (E1 D A c))[44]? = some (.bool false) := rfl
theorem E2_44 (D : List Int) (A : Option Addr) (c : Nat) : (entC (E2 D A c))[44]? = some (.bool true) := rfl
attribute [local go_sem] fitsE0 fitsE1 fitsE2
attribute [local go_sem ↓] E1_44 E2_44
theorem begin0 (D : List Int) (w : World) : Calls Tryz.prog 27 #[.agg (stmC (theSt D))] w fun e' w' => e' = .returned (.tuple #[.agg (entC (E0 D)), .int .i64 0]) ∧ Ext w w' :=
  begin_any (theSt D) w (by show 2 ≤ _; decide) (by show 0 ≤ _; decide) (by show 0 ≤ _; decide) (by rfl) (by show (0 : Int) < 6; decide) (by show (6 : Int) ≤ _; decide)
theorem miss1 (D : List Int) (A : Option Addr) (c base : Nat) (w : World) (ho : OwnsSp base w A c [(0, 3)]) : Calls Tryz.prog 58 #[.agg (entC (E1 D A c)), .agg #[.int .i64 0, .int .i64 9]] w fun e' w' => ∃ A' c', e' = .returned (.slice A' 1 c') ∧ OwnsSp w.heap.size w' A' c' [(3, 6)] ∧ Ext w w' := by
  refine (emissing_any (E1 D A c) A c [(0, 3)] 0 9 w rfl (by decide) (by show (0 : Int) < 6; decide) (by show (6 : Int) ≤ 9; decide) (by show (6 : Int) ≤ 65536; decide) (Sp.IsSet.one (by decide)) (bd_one (by decide) (by decide) (by decide) (by decide)) (by decide) (ho.reads spE) ho.none0).mono ?_
  rintro e' w' ⟨A', c', out, rfl, HS, ho', hx⟩
  have e1 : out = [(3, 6)] := set_one HS.out (by decide) (fun x => by
    rw [Sp.mem_one]
    show (0 ≤ x ∧ x < 6) ∧ ¬ (0 ≤ x ∧ x < 3) ↔ _
    omega)
  subst e1
  exact ⟨A', c', rfl, ho', hx⟩
theorem put4 (D : List Int) (A : Option Addr) (c : Nat) (w : World) : Calls Tryz.prog 28 #[.agg (entC (E2 D A c)), .int .i64 0, .string ⟨#[120]⟩] w fun e' w' => e' = .returned (.tuple #[.agg (entC (E2 D A c)), .int .i64 4]) ∧ Ext w w' := put_whole (E2 D A c) A 1 c 0 _ w rfl rfl

def lostCell (w : World) (m j : Nat) : Option Value := w.cell? ⟨m, j, none⟩
theorem setCells_cell_or (w : World) (b o : Nat) (vs : List Value) (m j : Nat) : (w.setCells b o vs).cell? ⟨m, j, none⟩ = if m = b then lostCell (w.setCells b o vs) m j else w.cell? ⟨m, j, none⟩ := by
  by_cases h : m = b
  · rw [if_pos h]; rfl
  · rw [if_neg h, setCells_cell_if, if_neg (fun k => h k.1)]
attribute [local go_sem ↓] setCells_cell_or
set_option maxRecDepth 100000 in
set_option maxHeartbeats 4000000 in
theorem sanity_ok (w : World) (hk : Konst 0 w) (hrk : RKonst w) : Calls Tryz.prog 26 #[] w fun e' w' => e' = .returned (.bool true) ∧ Ext w w' := by
  obtain ⟨D, hDe⟩ : ∃ D, Wire.digest 34 [[97, 98, 99, 100, 101, 102]] = D := ⟨_, rfl⟩
  have HDD : Hid (IsD D) := Lib.hid ⟨by rw [← hDe]; exact digest_length _ _, by rw [← hDe]; exact digest_byt _ _, hDe, by rw [← hDe]; exact dig_ne⟩
  have HK := Lib.hid hk
  have HRK := Lib.hid hrk
  clear hk hrk hDe
  go_enter Tryz.func26, Tryz.ntmps26
  go_wp2_with (first
    | (go_at_call 57; refine (show Hid _ from ?_).out)
    | (go_at_call 27; refine (show Hid _ from ?_).out)
    | (go_at_call 28; refine (show Hid _ from ?_).out)
    | (go_at_call 58; refine (show Hid _ from ?_).out)
    | (go_at_call 59; refine (show Hid _ from ?_).out)
    | (go_at_call 60; refine (show Hid _ from ?_).out))
  refine Lib.hid ?_
  refine (stamp_ok D _ (RowAt.ext HRK.out (by (repeat (first | with_reducible exact Ext.refl _ | with_reducible exact Ext.refl _ | with_reducible refine Ext.drew ?_ | with_reducible refine Ext.drewN ?_ _ | with_reducible refine Ext.alloc ?_ _ | with_reducible refine Ext.onto ?_ _ | (with_reducible refine Ext.setCells ?_ ?_ _ _; rotate_left; focus (first | omega | (simp; done) | (simp; omega))) | (with_reducible refine Ext.setCell ?_ ?_ _; rotate_left; focus (first | omega | (simp; done) | (simp; omega))))))) HDD.out.yes HDD.out.len).mono ?_
  rintro e' w' ⟨rfl, hxl⟩
  obtain ⟨xa, rfl⟩ := hxl.asLater
  clear hxl
  go_wp2_with (first
    | (go_at_call 57; refine (show Hid _ from ?_).out)
    | (go_at_call 27; refine (show Hid _ from ?_).out)
    | (go_at_call 28; refine (show Hid _ from ?_).out)
    | (go_at_call 58; refine (show Hid _ from ?_).out)
    | (go_at_call 59; refine (show Hid _ from ?_).out)
    | (go_at_call 60; refine (show Hid _ from ?_).out))
  refine Lib.hid ?_
  refine (begin0 D _).mono ?_
  rintro e' w' ⟨rfl, hxl⟩
  obtain ⟨xb, rfl⟩ := hxl.asLater
  clear hxl
  go_wp2_with (first
    | (go_at_call 57; refine (show Hid _ from ?_).out)
    | (go_at_call 27; refine (show Hid _ from ?_).out)
    | (go_at_call 28; refine (show Hid _ from ?_).out)
    | (go_at_call 58; refine (show Hid _ from ?_).out)
    | (go_at_call 59; refine (show Hid _ from ?_).out)
    | (go_at_call 60; refine (show Hid _ from ?_).out))
  refine Lib.hid ?_
  have hB : w.heap.size < w.heap.size + 1 + (xa.comp xb).n := by omega
  refine calls_world (fun W => Ext w W ∧ RowAt W w.heap.size (ruC theRu) ∧ RowAt W (w.heap.size + 1 + (xa.comp xb).n) (entC (E0 D))) ⟨(by (repeat (first | with_reducible exact Ext.refl _ | with_reducible exact Ext.refl _ | with_reducible refine Ext.drew ?_ | with_reducible refine Ext.drewN ?_ _ | with_reducible refine Ext.alloc ?_ _ | with_reducible refine Ext.onto ?_ _ | (with_reducible refine Ext.setCells ?_ ?_ _ _; rotate_left; focus (first | omega | (simp; done) | (simp; omega))) | (with_reducible refine Ext.setCell ?_ ?_ _; rotate_left; focus (first | omega | (simp; done) | (simp; omega)))))), RowAt.others (RowAt.alloc (RowAt.later ((RowAt.new w (ruC noRu) 112).store (by rw [ru_size, noRu_size])) _) _) (by omega) _ _, (RowAt.newAt (cs := entC noEn) (t := 58) (by simp [later_size])).store (by rw [ent_size, ent_size])⟩ ?_
  rintro W0 ⟨hx0, hu0, he0⟩
  generalize w.heap.size + 1 + (xa.comp xb).n = B at *
  have HX0 := Lib.hid hx0
  have HU0 := Lib.hid hu0
  have HE0 := Lib.hid he0
  have hl0 := he0.lt
  have hroom0 : roomOf W0 B 0 45 = true := by rw [he0.room, ent_size]; rfl
  have hrow0 : rowOf W0 B 0 45 = some (entC (E0 D)) := he0.all (ent_size _).symm (by omega)
  clear hx0 hu0 he0
  refine (put1 D _ (RowAt.ext HK.out HX0.out)).mono ?_
  rintro e' w' ⟨v, rfl, ⟨A1, c1, rfl, ho⟩, hxl⟩
  obtain ⟨xc, rfl⟩ := hxl.asLater
  have HO1 := Lib.hid ho
  clear hxl ho
  go_wp2_with (first
    | (go_at_call 57; refine (show Hid _ from ?_).out)
    | (go_at_call 27; refine (show Hid _ from ?_).out)
    | (go_at_call 28; refine (show Hid _ from ?_).out)
    | (go_at_call 58; refine (show Hid _ from ?_).out)
    | (go_at_call 59; refine (show Hid _ from ?_).out)
    | (go_at_call 60; refine (show Hid _ from ?_).out))
  refine Lib.hid ?_
  refine calls_world (fun W => Ext w W ∧ RowAt W w.heap.size (ruC theRu) ∧ RowAt W B (entC (E1 D A1 c1)) ∧ OwnsSp (W0.heap.size + 2) W A1 c1 [(0, 3)] ∧ W0.heap.size ≤ W.heap.size) ⟨(HX0.out.onto _).setCells (by omega) _ _, RowAt.others (RowAt.later HU0.out _) (by omega) _ _, RowAt.store (RowAt.later HE0.out _) (by rw [ent_size, ent_size]), HO1.out.others (by omega) _ _, by rw [setCells_size, later_size]; omega⟩ ?_
  rintro W1 ⟨hx1, hu1, he1, ho1, hs1⟩
  have HX1 := Lib.hid hx1
  have HU1 := Lib.hid hu1
  have HE1 := Lib.hid he1
  have HO1' := Lib.hid ho1
  have hl1 := he1.lt
  have hrow1 : rowOf W1 B 0 45 = some (entC (E1 D A1 c1)) := he1.all (ent_size _).symm (by omega)
  clear hx1 hu1 he1 ho1 hroom0 hrow0 HO1
  refine (miss1 D A1 c1 _ _ HO1'.out).mono ?_
  rintro e' w' ⟨A2, c2, rfl, ho, hxl⟩
  obtain ⟨b2, off2, rfl, hb2, y1, y2⟩ := ReadsSp.cell (ho.reads spE) 0 (by decide)
  obtain ⟨xd, rfl⟩ := hxl.asLater
  clear hxl ho
  go_wp2_with (first
    | (go_at_call 57; refine (show Hid _ from ?_).out)
    | (go_at_call 27; refine (show Hid _ from ?_).out)
    | (go_at_call 28; refine (show Hid _ from ?_).out)
    | (go_at_call 58; refine (show Hid _ from ?_).out)
    | (go_at_call 59; refine (show Hid _ from ?_).out)
    | (go_at_call 60; refine (show Hid _ from ?_).out))
  refine Lib.hid ?_
  refine (put2 D HDD.out A1 c1 _ _ (RowAt.ext HK.out (HX1.out.onto _)) (HO1'.out.later _)).mono ?_
  rintro e' w' ⟨v, rfl, rfl, hxl⟩
  obtain ⟨xe, rfl⟩ := hxl.asLater
  clear hxl
  go_wp2_with (first
    | (go_at_call 57; refine (show Hid _ from ?_).out)
    | (go_at_call 27; refine (show Hid _ from ?_).out)
    | (go_at_call 28; refine (show Hid _ from ?_).out)
    | (go_at_call 58; refine (show Hid _ from ?_).out)
    | (go_at_call 59; refine (show Hid _ from ?_).out)
    | (go_at_call 60; refine (show Hid _ from ?_).out))
  refine Lib.hid ?_
  have hE2 : Ext (later W1 xd) (later W1 (xd.comp xe)) := ext_later (later W1 xd) xe
  refine calls_world (fun W => Ext w W ∧ RowAt W w.heap.size (ruC theRu) ∧ RowAt W B (entC (E1 D A1 c1)) ∧ OwnsSp (W0.heap.size + 2) W A1 c1 [(0, 3)] ∧ W.cell? ⟨b2, off2 + 0 * 2, none⟩ = some (.int .i64 3) ∧ W.cell? ⟨b2, off2 + 0 * 2 + 1, none⟩ = some (.int .i64 6) ∧ b2 < W.heap.size)
    ⟨Ext.setCells ((HX1.out.onto _).alloc _) (by have := HX1.out.size; omega) _ _, RowAt.others (RowAt.alloc (RowAt.later HU1.out _) _) (by have := HU1.out.lt; omega) _ _, RowAt.others (RowAt.alloc (RowAt.later HE1.out _) _) (by omega) _ _, HO1'.out.ext (Ext.setCells ((ext_later W1 _).alloc _) (by omega) _ _), (Ext.cell (p := ⟨b2, off2 + 0 * 2, none⟩) (Ext.setCells (hE2.alloc _) (by simp only [later_size, Later.comp_n]; omega) _ _) hb2).trans y1, (Ext.cell (p := ⟨b2, off2 + 0 * 2 + 1, none⟩) (Ext.setCells (hE2.alloc _) (by simp only [later_size, Later.comp_n]; omega) _ _) hb2).trans y2, Nat.lt_of_lt_of_le hb2 (Ext.size (Ext.setCells (hE2.alloc _) (by simp only [later_size, Later.comp_n]; omega) _ _))⟩ ?_
  rintro W2 ⟨hx2, hu2, he2, ho2, z1, z2, hb3⟩
  have HX2 := Lib.hid hx2
  have HU2 := Lib.hid hu2
  have HE2 := Lib.hid he2
  have HO2 := Lib.hid ho2
  have hl2 := he2.lt
  have hlu2 := hu2.lt
  have hrow2 : rowOf W2 B 0 45 = some (entC (E1 D A1 c1)) := he2.all (ent_size _).symm (by omega)
  clear hx2 hu2 he2 ho2 hrow1 HO1' y1 y2 hb2 HX1 HU1 HE1 HX0 HU0 HE0
  refine (put3 D HDD.out A1 c1 _ _ (RowAt.ext HK.out HX2.out) HO2.out).mono ?_
  rintro e' w' ⟨v, rfl, ⟨A3, c3, rfl, _⟩, hxl⟩
  obtain ⟨xf, rfl⟩ := hxl.asLater
  clear hxl
  go_wp2_with (first
    | (go_at_call 57; refine (show Hid _ from ?_).out)
    | (go_at_call 27; refine (show Hid _ from ?_).out)
    | (go_at_call 28; refine (show Hid _ from ?_).out)
    | (go_at_call 58; refine (show Hid _ from ?_).out)
    | (go_at_call 59; refine (show Hid _ from ?_).out)
    | (go_at_call 60; refine (show Hid _ from ?_).out))
  refine Lib.hid ?_
  have hB8 : W2.heap.size ≤ W2.heap.size + xf.n := by omega
  refine calls_world (fun W => Ext w W ∧ RowAt W w.heap.size (ruC theRu) ∧ RowAt W B (entC (E1 D A1 c1)) ∧ RowAt W (W2.heap.size + xf.n) (entC (E2 D A3 c3)) ∧ W.cell? ⟨b2, off2 + 0 * 2, none⟩ = some (.int .i64 3) ∧ W.cell? ⟨b2, off2 + 0 * 2 + 1, none⟩ = some (.int .i64 6) ∧ b2 < W.heap.size)
    ⟨Ext.setCells ((HX2.out.onto _).alloc _) (by have := HX2.out.size; omega) _ _, RowAt.others (RowAt.alloc (RowAt.later HU2.out _) _) (by omega) _ _, RowAt.others (RowAt.alloc (RowAt.later HE2.out _) _) (by omega) _ _, (RowAt.newAt (cs := entC noEn) (t := 58) (by simp [later_size])).store (by rw [ent_size, ent_size]), (Ext.cell (p := ⟨b2, off2 + 0 * 2, none⟩) (Ext.setCells ((ext_later W2 _).alloc _) (by omega) _ _) hb3).trans z1, (Ext.cell (p := ⟨b2, off2 + 0 * 2 + 1, none⟩) (Ext.setCells ((ext_later W2 _).alloc _) (by omega) _ _) hb3).trans z2, Nat.lt_of_lt_of_le hb3 (Ext.size (Ext.setCells ((ext_later W2 _).alloc _) (by omega) _ _))⟩ ?_
  rintro W3 ⟨hx3, hu3, he3, h83, q1, q2, hb4⟩
  generalize W2.heap.size + xf.n = B8 at *
  have HX3 := Lib.hid hx3
  have q1' : W3.cell? ⟨b2, off2, none⟩ = some (.int .i64 3) := by rw [Nat.zero_mul, Nat.add_zero] at q1; exact q1
  have q2' : W3.cell? ⟨b2, off2 + 1, none⟩ = some (.int .i64 6) := by rw [Nat.zero_mul, Nat.add_zero] at q2; exact q2
  clear q1 q2
  have hl3 := he3.lt
  have hl8 := h83.lt
  have hlu3 := hu3.lt
  have hrow3 : rowOf W3 B8 0 45 = some (entC (E2 D A3 c3)) := h83.all (ent_size _).symm (by omega)
  have k44 : W3.cell? ⟨B8, 44, none⟩ = some (.bool true) := (h83.cell 44).trans (E2_44 _ _ _)
  have j44 : W3.cell? ⟨B, 44, none⟩ = some (.bool false) := (he3.cell 44).trans (E1_44 _ _ _)
  have hrowU : rowOf W3 w.heap.size 0 18 = some (ruC theRu) := hu3.all ru_size.symm (by omega)
  clear hx3 hu3 he3 h83 hrow2 z1 z2 hb3 HX2 HU2 HE2 HO2 hl2 hlu2 hB8
  refine (put4 D A3 c3 _).mono ?_
  rintro e w' ⟨rfl, hxl⟩; obtain ⟨xl, rfl⟩ := hxl.asLater; clear hxl
  go_wp2_with (first
    | (go_at_call 57; refine (show Hid _ from ?_).out)
    | (go_at_call 27; refine (show Hid _ from ?_).out)
    | (go_at_call 28; refine (show Hid _ from ?_).out)
    | (go_at_call 58; refine (show Hid _ from ?_).out)
    | (go_at_call 59; refine (show Hid _ from ?_).out)
    | (go_at_call 60; refine (show Hid _ from ?_).out))
  refine Lib.hid ?_
  refine (age_is D A3 c3 140 150 50 _ (by decide) (by decide) (by decide)).mono ?_
  rintro e w' ⟨rfl, hxl⟩; obtain ⟨xl, rfl⟩ := hxl.asLater; clear hxl
  go_wp2_with (first
    | (go_at_call 57; refine (show Hid _ from ?_).out)
    | (go_at_call 27; refine (show Hid _ from ?_).out)
    | (go_at_call 28; refine (show Hid _ from ?_).out)
    | (go_at_call 58; refine (show Hid _ from ?_).out)
    | (go_at_call 59; refine (show Hid _ from ?_).out)
    | (go_at_call 60; refine (show Hid _ from ?_).out))
  refine Lib.hid ?_
  refine (state_is D A3 c3 theRu 140 150 0 1 _ (by decide) (by decide) ruR_ex (by rfl)).mono ?_
  rintro e w' ⟨rfl, hxl⟩; obtain ⟨xl, rfl⟩ := hxl.asLater; clear hxl
  go_wp2_with (first
    | (go_at_call 57; refine (show Hid _ from ?_).out)
    | (go_at_call 27; refine (show Hid _ from ?_).out)
    | (go_at_call 28; refine (show Hid _ from ?_).out)
    | (go_at_call 58; refine (show Hid _ from ?_).out)
    | (go_at_call 59; refine (show Hid _ from ?_).out)
    | (go_at_call 60; refine (show Hid _ from ?_).out))
  refine Lib.hid ?_
  refine (state_is D A3 c3 theRu 150 151 0 0 _ (by decide) (by decide) ruR_ex (by rfl)).mono ?_
  rintro e w' ⟨rfl, hxl⟩; obtain ⟨xl, rfl⟩ := hxl.asLater; clear hxl
  go_wp2_with (first
    | (go_at_call 57; refine (show Hid _ from ?_).out)
    | (go_at_call 27; refine (show Hid _ from ?_).out)
    | (go_at_call 28; refine (show Hid _ from ?_).out)
    | (go_at_call 58; refine (show Hid _ from ?_).out)
    | (go_at_call 59; refine (show Hid _ from ?_).out)
    | (go_at_call 60; refine (show Hid _ from ?_).out))
  refine Lib.hid ?_
  refine (state_is D A3 c3 theRu 150 151 1 2 _ (by decide) (by decide) ruR_ex (by rfl)).mono ?_
  rintro e w' ⟨rfl, hxl⟩; obtain ⟨xl, rfl⟩ := hxl.asLater; clear hxl
  go_wp2_with (first
    | (go_at_call 57; refine (show Hid _ from ?_).out)
    | (go_at_call 27; refine (show Hid _ from ?_).out)
    | (go_at_call 28; refine (show Hid _ from ?_).out)
    | (go_at_call 58; refine (show Hid _ from ?_).out)
    | (go_at_call 59; refine (show Hid _ from ?_).out)
    | (go_at_call 60; refine (show Hid _ from ?_).out))
  refine Lib.hid ?_
  refine (state_is D A3 c3 theRu 250 251 2 0 _ (by decide) (by decide) ruR_ex (by rfl)).mono ?_
  rintro e w' ⟨rfl, hxl⟩; obtain ⟨xl, rfl⟩ := hxl.asLater; clear hxl
  go_wp2_with (first
    | (go_at_call 57; refine (show Hid _ from ?_).out)
    | (go_at_call 27; refine (show Hid _ from ?_).out)
    | (go_at_call 28; refine (show Hid _ from ?_).out)
    | (go_at_call 58; refine (show Hid _ from ?_).out)
    | (go_at_call 59; refine (show Hid _ from ?_).out)
    | (go_at_call 60; refine (show Hid _ from ?_).out))
  refine Lib.hid ?_
  refine (state_is D A3 c3 theRu 250 251 1 0 _ (by decide) (by decide) ruR_ex (by rfl)).mono ?_
  rintro e w' ⟨rfl, hxl⟩; obtain ⟨xl, rfl⟩ := hxl.asLater; clear hxl
  go_wp2_with (first
    | (go_at_call 57; refine (show Hid _ from ?_).out)
    | (go_at_call 27; refine (show Hid _ from ?_).out)
    | (go_at_call 28; refine (show Hid _ from ?_).out)
    | (go_at_call 58; refine (show Hid _ from ?_).out)
    | (go_at_call 59; refine (show Hid _ from ?_).out)
    | (go_at_call 60; refine (show Hid _ from ?_).out))
  refine Lib.hid ?_
  refine (state_is D A3 c3 theRu 250 250 2 2 _ (by decide) (by decide) ruR_ex (by rfl)).mono ?_
  rintro e w' ⟨rfl, hxl⟩; obtain ⟨xl, rfl⟩ := hxl.asLater; clear hxl
  go_wp2
  go_ret
  exact ⟨rfl, (by (repeat (first | with_reducible exact HX3.out | with_reducible exact Ext.refl _ | with_reducible refine Ext.drew ?_ | with_reducible refine Ext.drewN ?_ _ | with_reducible refine Ext.alloc ?_ _ | with_reducible refine Ext.onto ?_ _ | (with_reducible refine Ext.setCells ?_ ?_ _ _; rotate_left; focus (first | omega | (simp; done) | (simp; omega))) | (with_reducible refine Ext.setCell ?_ ?_ _; rotate_left; focus (first | omega | (simp; done) | (simp; omega))))))⟩
end Go.Proofs.YtpjacgcaibaggaaGreatDoor

namespace Go.Proofs.YtpjacgcaibaggaaGreatDoor
open Go.RowKit Go.Shelf
open Go.Proofs
open Go.Proofs.Sp (Sp)

/-- A slice literal with nothing in it. -/
theorem own_lit0 (w : World) (base b : Nat) (hb : base ≤ b) (hw : b = w.heap.size) : OwnsSp base (w.alloc (.cells #[] 26)) (some ⟨b, 0, none⟩) 0 [] := by
  subst hw
  exact Owns.mk spE hb (World.alloc_heap_new w _) (Nat.le_refl _) (Nat.zero_le _) rfl rfl
theorem own_lit1 (w : World) (base b : Nat) (s : Sp) (hb : base ≤ b) (hw : b = w.heap.size) : OwnsSp base (w.alloc (.cells #[.int .i64 s.1, .int .i64 s.2] 26)) (some ⟨b, 0, none⟩) 1 [s] := by
  subst hw
  exact Owns.mk spE hb (World.alloc_heap_new w _) (Nat.le_refl _) (by unfold maxLen; omega) rfl rfl

def newSp (base : Nat) : Soft := ⟨fun v w => ∃ b, v = .pointer (some ⟨b, 0, none⟩) ∧ base ≤ b ∧ RowAt w b #[.int .i64 0, .int .i64 0], fun v w w' ⟨b, h1, h2, h3⟩ hx => ⟨b, h1, h2, h3.ext hx⟩⟩
def softL (vs : List Value) (base : Nat) (i : Nat) : Soft := if i < vs.length then .eq (vs.getD i undef) else newSp base
def RCutRel (w : World) (s : Sp) (l : List Sp) (i v : Value) (wr : World) : Prop := ∃ (k : Nat) (A' : Option Addr) (c' : Nat) (out : List Sp), k ≤ l.length ∧ i = .int .i64 k ∧ v = .slice A' out.length c' ∧ out.length ≤ k * 2 ∧ Hid (out = (l.take k).flatMap (Sp.cutOne · s)) ∧ Hid (OwnsSp (w.heap.size + 1) wr A' c' out) ∧ Hid (Ext w wr) ∧ Hid (RowAt wr w.heap.size #[.int .i64 s.1, .int .i64 s.2])
theorem cut_snoc (s : Sp) (l : List Sp) (k : Nat) (h : k < l.length) : (l.take (k + 1)).flatMap (Sp.cutOne · s) = (l.take k).flatMap (Sp.cutOne · s) ++ Sp.cutOne l[k] s := by
  rw [List.take_succ_eq_append_getElem h, List.flatMap_append]
  simp
theorem app_keep {w w' : World} {A : Option Addr} {n c B : Nat} (h : w.grownBy w' (Value.slice A n c).ownBlock) (hA : ∀ a, A = some a → a.block < B) {p : Addr} (hp : B ≤ p.block) (hp2 : p.block < w.heap.size) : w'.cell? p = w.cell? p := by
  refine World.cell?_of_block (w := w) (h.block p.block hp2 fun e => ?_)
  cases A with
  | none => simp [Value.ownBlock] at e
  | some a =>
    simp [Value.ownBlock] at e
    have := hA a rfl
    omega
theorem cutOne_is {a s : Sp} {p q : Bool} (h1 : decide (min a.2 s.1 ≤ a.1) = p) (h2 : decide (a.2 ≤ max a.1 s.2) = q) : Sp.cutOne a s = (if p = true then [] else [(a.1, min a.2 s.1)]) ++ (if q = true then [] else [(max a.1 s.2, a.2)]) := by
  subst h1 h2
  unfold Sp.cutOne
  simp only [decide_eq_true_eq]
theorem cutOne_eq (a s : Sp) : Sp.cutOne a s = (if emptyB (a.1, min a.2 s.1) = true then [] else [(a.1, min a.2 s.1)]) ++ (if emptyB (max a.1 s.2, a.2) = true then [] else [(max a.1 s.2, a.2)]) := by
  unfold Sp.cutOne emptyB
  simp only [decide_eq_true_eq]
theorem emptyB_is {a b : Int} {q : Bool} (h : decide (b ≤ a) = q) : emptyB (a, b) = q := h

set_option maxRecDepth 100000 in
set_option maxHeartbeats 2000000 in
theorem rcut_any (A : Option Addr) (c : Nat) (l : List Sp) (s : Sp) (w : World) (hlen : l.length * 32 ≤ 140737488350000) (hr : ReadsSp w w.heap.size A l) (z : A = none → c = 0) :
    Calls Tryz.prog 142 #[.slice A l.length c, .agg #[.int .i64 s.1, .int .i64 s.2]] w fun e' w' => ∃ A' c' out, e' = .returned (.slice A' out.length c') ∧ Hid (out = Sp.rCut l s) ∧ out.length ≤ l.length * 2 ∧ OwnsSp w.heap.size w' A' c' out ∧ Ext w w' := by
  have HR := Lib.hid hr
  have HZ := Lib.hid z
  clear hr z
  by_cases he : s.2 ≤ s.1
  · have HE : Hid (emptyB s = true) := Lib.hid (by simpa [emptyB] using he)
    have HL : Hid (Sp.rCut l s = l) := Lib.hid (by unfold Sp.rCut; rw [if_pos he])
    clear he
    go_enter Tryz.func142, Tryz.ntmps142
    go_wp2_with (first
      | (go_at_call 70; refine (rempty_is s true _ HE.out).mono ?_; rintro e w' ⟨rfl, hxl⟩; obtain ⟨xl, rfl⟩ := hxl.asLater; clear hxl)
      | (at_builtin; refine app_reads spT spE rfl _ _ rfl (w.heap.size + 1) _ _ [] rfl (own_lit0 _ _ _ (by first | omega | (simp [later_size, setCells_size]; done) | (simp [later_size, setCells_size]; omega)) (by first | omega | (simp [later_size, setCells_size]; done) | (simp [later_size, setCells_size]; omega))) w.heap.size A c l rfl (HR.out.ext (by (repeat (first | with_reducible exact Ext.refl _ | with_reducible exact Ext.refl _ | with_reducible refine Ext.drew ?_ | with_reducible refine Ext.drewN ?_ _ | with_reducible refine Ext.alloc ?_ _ | with_reducible refine Ext.onto ?_ _ | (with_reducible refine Ext.setCells ?_ ?_ _ _; rotate_left; focus (first | omega | (simp; done) | (simp; omega))) | (with_reducible refine Ext.setCell ?_ ?_ _; rotate_left; focus (first | omega | (simp; done) | (simp; omega)))))) (Nat.le_refl _)) HZ.out (by simp; omega) (by simp; omega) (by first | omega | (simp [later_size, setCells_size]; done) | (simp [later_size, setCells_size]; omega)) ?_; intro A2 c2 l2 w2 HL2 HO2 hB hl1 hl2 _; have HO2' := Lib.hid HO2; have HB2 := Lib.hid hB; clear HO2 hB))
    go_ret
    exact ⟨A2, c2, l2, rfl, Lib.hid (by rw [HL2.out, HL.out, List.nil_append]), by simp at hl1; omega, HO2'.out.lower (by omega), (show Ext w _ from (by (repeat (first | with_reducible exact Ext.refl _ | with_reducible exact Ext.refl _ | with_reducible refine Ext.drew ?_ | with_reducible refine Ext.drewN ?_ _ | with_reducible refine Ext.alloc ?_ _ | with_reducible refine Ext.onto ?_ _ | (with_reducible refine Ext.setCells ?_ ?_ _ _; rotate_left; focus (first | omega | (simp; done) | (simp; omega))) | (with_reducible refine Ext.setCell ?_ ?_ _; rotate_left; focus (first | omega | (simp; done) | (simp; omega))))))).grown HB2.out (by omega)⟩
  · have HE : Hid (emptyB s = false) := Lib.hid (by simp [emptyB]; omega)
    have HL : Hid (Sp.rCut l s = l.flatMap (Sp.cutOne · s)) := Lib.hid (by unfold Sp.rCut; rw [if_neg he])
    clear he
    obtain ⟨s1, s2⟩ := s
    go_enter Tryz.func142, Tryz.ntmps142
    go_wp2_with (go_at_call 70; refine (rempty_is (s1, s2) false _ HE.out).mono ?_; rintro e w' ⟨rfl, hxl⟩; obtain ⟨xl, rfl⟩ := hxl.asLater; clear hxl)
    go_loopw [6, 5] (RCutRel w (s1, s2) l) (fun i _ _ => l.length - (intOf i).toNat)
    case atStart => exact ⟨0, none, 0, [], Nat.zero_le _, rfl, rfl, Nat.le_refl _, Lib.hid rfl, Lib.hid (Owns.nil _ _ _ _ _), Lib.hid (by (repeat (first | with_reducible exact Ext.refl _ | with_reducible exact Ext.refl _ | with_reducible refine Ext.drew ?_ | with_reducible refine Ext.drewN ?_ _ | with_reducible refine Ext.alloc ?_ _ | with_reducible refine Ext.onto ?_ _ | (with_reducible refine Ext.setCells ?_ ?_ _ _; rotate_left; focus (first | omega | (simp; done) | (simp; omega))) | (with_reducible refine Ext.setCell ?_ ?_ _; rotate_left; focus (first | omega | (simp; done) | (simp; omega)))))), Lib.hid (by (repeat (first | with_reducible exact RowAt.new _ _ _ | with_reducible refine RowAt.drew ?_ | with_reducible refine RowAt.later ?_ _ | with_reducible exact RowAt.newAt (by first | rfl | omega | (simp [later_size, setCells_size]; done) | (simp [later_size, setCells_size]; omega)) | with_reducible refine RowAt.alloc ?_ _ | with_reducible apply RowAt.store | with_reducible refine RowAt.others ?_ ?_ _ _ | with_reducible refine RowAt.other ?_ ?_ _)); all_goals first | omega | (simp; done) | (simp; omega) | (simp [go_sem]; done))⟩
    case round =>
      obtain ⟨k, A', c', out, hk, rfl, rfl, hol, HO, HOw, HX, HRow⟩ := hrel
      have hsz := HX.out.size
      have hlw := HRow.out.lt
      by_cases hlt : k < l.length
      · obtain ⟨b, off, rfl, hb, y1, y2⟩ := ReadsSp.cell (HR.out.ext HX.out (Nat.le_refl _)) k hlt
        have HJ := Lib.hid (cut_snoc (s1, s2) l k hlt)
        rw [← HO.out] at HJ
        generalize l[k] = t at *
        obtain ⟨t1, t2⟩ := t
        simp only [] at y1 y2
        have z1 : wr.cell? ⟨w.heap.size, 0, none⟩ = some (.int .i64 s1) := HRow.out.cell 0
        have z2 : wr.cell? ⟨w.heap.size, 1, none⟩ = some (.int .i64 s2) := HRow.out.cell 1
        have hm1 : (if s1 < t2 then s1 else t2) = min t2 s1 := by split <;> omega
        have hm2 : (if t1 < s2 then s2 else t1) = max t1 s2 := by split <;> omega
        have HC := Lib.hid (cutOne_eq (t1, t2) (s1, s2))
        simp only [] at HC
        go_wp2
        refine wp_region_soft 15 (softL [(.slice (some ⟨b, off, none⟩) l.length c), (.int .i64 (k : Int)), (.pointer (some ⟨b, off + k * 2, none⟩)), (.pointer (some ⟨b, off + k * 2, none⟩)), (.int .i64 t1), (.slice (some ⟨b, off, none⟩) l.length c), (.int .i64 (k : Int)), (.pointer (some ⟨b, off + k * 2, none⟩)), (.pointer (some ⟨b, off + k * 2 + 1, none⟩)), (.int .i64 t2), (.pointer (some ⟨w.heap.size, 0, none⟩)), (.int .i64 s1), (.int .i64 (min t2 s1)), (.agg #[(.int .i64 t1), (.int .i64 (min t2 s1))])] wr.heap.size) (by kernel_rfl) (by kernel_rfl) (lt_cons ?_ (lt_cons ?_ (lt_cons ?_ (lt_cons ?_ (lt_cons ?_ (lt_cons ?_ (lt_cons ?_ (lt_cons ?_ (lt_cons ?_ (lt_cons ?_ (lt_cons ?_ (lt_cons ?_ (lt_cons ?_ (lt_cons ?_ (lt_cons ?_ lt_none))))))))))))))) ?_
        ·
          intro o ho xs W hW hd Q' hQ; obtain rfl := Option.some.inj ho; clear ho; simp only [fillAt, dstOf, List.getElem?_cons_zero, List.getElem?_cons_succ, Option.bind_some, Act.put, List.setIfInBounds_toArray, List.set_cons_zero, List.set_cons_succ, Nat.zero_add, Nat.reduceAdd] at hQ ⊢; have HQ := Lib.hid hQ; have HD := Lib.hid hd; have HW := Lib.hid hW; have hsW := hW.size; clear hQ hd hW
          go_wp2
          exact HQ.out _ _ (Ext.refl _) rfl
        ·
          intro o ho xs W hW hd Q' hQ; obtain rfl := Option.some.inj ho; clear ho; simp only [fillAt, dstOf, List.getElem?_cons_zero, List.getElem?_cons_succ, Option.bind_some, Act.put, List.setIfInBounds_toArray, List.set_cons_zero, List.set_cons_succ, Nat.zero_add, Nat.reduceAdd] at hQ ⊢; have HQ := Lib.hid hQ; have HD := Lib.hid hd; have HW := Lib.hid hW; have hsW := hW.size; clear hQ hd hW
          go_wp2
          exact HQ.out _ _ (Ext.refl _) rfl
        ·
          intro o ho xs W hW hd Q' hQ; obtain rfl := Option.some.inj ho; clear ho; simp only [fillAt, dstOf, List.getElem?_cons_zero, List.getElem?_cons_succ, Option.bind_some, Act.put, List.setIfInBounds_toArray, List.set_cons_zero, List.set_cons_succ, Nat.zero_add, Nat.reduceAdd] at hQ ⊢; have HQ := Lib.hid hQ; have HD := Lib.hid hd; have HW := Lib.hid hW; have hsW := hW.size; clear hQ hd hW
          have hd0 : xs 0 = (.slice (some ⟨b, off, none⟩) l.length c) := (HD.out 0 (of_decide_eq_true (by kernel_rfl)))
          generalize xs 0 = x0 at hd0 HQ ⊢; subst hd0
          have hd1 : xs 1 = (.int .i64 (k : Int)) := (HD.out 1 (of_decide_eq_true (by kernel_rfl)))
          generalize xs 1 = x1 at hd1 HQ ⊢; subst hd1
          go_wp2
          exact HQ.out _ _ (Ext.refl _) rfl
        ·
          intro o ho xs W hW hd Q' hQ; obtain rfl := Option.some.inj ho; clear ho; simp only [fillAt, dstOf, List.getElem?_cons_zero, List.getElem?_cons_succ, Option.bind_some, Act.put, List.setIfInBounds_toArray, List.set_cons_zero, List.set_cons_succ, Nat.zero_add, Nat.reduceAdd] at hQ ⊢; have HQ := Lib.hid hQ; have HD := Lib.hid hd; have HW := Lib.hid hW; have hsW := hW.size; clear hQ hd hW
          have hd2 : xs 2 = (.pointer (some ⟨b, off + k * 2, none⟩)) := (HD.out 2 (of_decide_eq_true (by kernel_rfl)))
          generalize xs 2 = x2 at hd2 HQ ⊢; subst hd2
          go_wp2
          exact HQ.out _ _ (Ext.refl _) rfl
        ·
          intro o ho xs W hW hd Q' hQ; obtain rfl := Option.some.inj ho; clear ho; simp only [fillAt, dstOf, List.getElem?_cons_zero, List.getElem?_cons_succ, Option.bind_some, Act.put, List.setIfInBounds_toArray, List.set_cons_zero, List.set_cons_succ, Nat.zero_add, Nat.reduceAdd] at hQ ⊢; have HQ := Lib.hid hQ; have HD := Lib.hid hd; have HW := Lib.hid hW; have hsW := hW.size; clear hQ hd hW
          have hd3 : xs 3 = (.pointer (some ⟨b, off + k * 2, none⟩)) := (HD.out 3 (of_decide_eq_true (by kernel_rfl)))
          generalize xs 3 = x3 at hd3 HQ ⊢; subst hd3
          have hc : W.cell? ⟨b, off + k * 2, none⟩ = some ((.int .i64 t1)) := (HW.out.cell (p := ⟨b, off + k * 2, none⟩) (by show b < _; omega)).trans y1
          go_wp2
          exact HQ.out _ _ (Ext.refl _) rfl
        ·
          intro o ho xs W hW hd Q' hQ; obtain rfl := Option.some.inj ho; clear ho; simp only [fillAt, dstOf, List.getElem?_cons_zero, List.getElem?_cons_succ, Option.bind_some, Act.put, List.setIfInBounds_toArray, List.set_cons_zero, List.set_cons_succ, Nat.zero_add, Nat.reduceAdd] at hQ ⊢; have HQ := Lib.hid hQ; have HD := Lib.hid hd; have HW := Lib.hid hW; have hsW := hW.size; clear hQ hd hW
          go_wp2
          exact HQ.out _ _ (Ext.refl _) rfl
        ·
          intro o ho xs W hW hd Q' hQ; obtain rfl := Option.some.inj ho; clear ho; simp only [fillAt, dstOf, List.getElem?_cons_zero, List.getElem?_cons_succ, Option.bind_some, Act.put, List.setIfInBounds_toArray, List.set_cons_zero, List.set_cons_succ, Nat.zero_add, Nat.reduceAdd] at hQ ⊢; have HQ := Lib.hid hQ; have HD := Lib.hid hd; have HW := Lib.hid hW; have hsW := hW.size; clear hQ hd hW
          go_wp2
          exact HQ.out _ _ (Ext.refl _) rfl
        ·
          intro o ho xs W hW hd Q' hQ; obtain rfl := Option.some.inj ho; clear ho; simp only [fillAt, dstOf, List.getElem?_cons_zero, List.getElem?_cons_succ, Option.bind_some, Act.put, List.setIfInBounds_toArray, List.set_cons_zero, List.set_cons_succ, Nat.zero_add, Nat.reduceAdd] at hQ ⊢; have HQ := Lib.hid hQ; have HD := Lib.hid hd; have HW := Lib.hid hW; have hsW := hW.size; clear hQ hd hW
          have hd5 : xs 5 = (.slice (some ⟨b, off, none⟩) l.length c) := (HD.out 5 (of_decide_eq_true (by kernel_rfl)))
          generalize xs 5 = x5 at hd5 HQ ⊢; subst hd5
          have hd6 : xs 6 = (.int .i64 (k : Int)) := (HD.out 6 (of_decide_eq_true (by kernel_rfl)))
          generalize xs 6 = x6 at hd6 HQ ⊢; subst hd6
          go_wp2
          exact HQ.out _ _ (Ext.refl _) rfl
        ·
          intro o ho xs W hW hd Q' hQ; obtain rfl := Option.some.inj ho; clear ho; simp only [fillAt, dstOf, List.getElem?_cons_zero, List.getElem?_cons_succ, Option.bind_some, Act.put, List.setIfInBounds_toArray, List.set_cons_zero, List.set_cons_succ, Nat.zero_add, Nat.reduceAdd] at hQ ⊢; have HQ := Lib.hid hQ; have HD := Lib.hid hd; have HW := Lib.hid hW; have hsW := hW.size; clear hQ hd hW
          have hd7 : xs 7 = (.pointer (some ⟨b, off + k * 2, none⟩)) := (HD.out 7 (of_decide_eq_true (by kernel_rfl)))
          generalize xs 7 = x7 at hd7 HQ ⊢; subst hd7
          go_wp2
          exact HQ.out _ _ (Ext.refl _) rfl
        ·
          intro o ho xs W hW hd Q' hQ; obtain rfl := Option.some.inj ho; clear ho; simp only [fillAt, dstOf, List.getElem?_cons_zero, List.getElem?_cons_succ, Option.bind_some, Act.put, List.setIfInBounds_toArray, List.set_cons_zero, List.set_cons_succ, Nat.zero_add, Nat.reduceAdd] at hQ ⊢; have HQ := Lib.hid hQ; have HD := Lib.hid hd; have HW := Lib.hid hW; have hsW := hW.size; clear hQ hd hW
          have hd8 : xs 8 = (.pointer (some ⟨b, off + k * 2 + 1, none⟩)) := (HD.out 8 (of_decide_eq_true (by kernel_rfl)))
          generalize xs 8 = x8 at hd8 HQ ⊢; subst hd8
          have hc : W.cell? ⟨b, off + k * 2 + 1, none⟩ = some ((.int .i64 t2)) := (HW.out.cell (p := ⟨b, off + k * 2 + 1, none⟩) (by show b < _; omega)).trans y2
          go_wp2
          exact HQ.out _ _ (Ext.refl _) rfl
        ·
          intro o ho xs W hW hd Q' hQ; obtain rfl := Option.some.inj ho; clear ho; simp only [fillAt, dstOf, List.getElem?_cons_zero, List.getElem?_cons_succ, Option.bind_some, Act.put, List.setIfInBounds_toArray, List.set_cons_zero, List.set_cons_succ, Nat.zero_add, Nat.reduceAdd] at hQ ⊢; have HQ := Lib.hid hQ; have HD := Lib.hid hd; have HW := Lib.hid hW; have hsW := hW.size; clear hQ hd hW
          go_wp2
          exact HQ.out _ _ (Ext.refl _) rfl
        ·
          intro o ho xs W hW hd Q' hQ; obtain rfl := Option.some.inj ho; clear ho; simp only [fillAt, dstOf, List.getElem?_cons_zero, List.getElem?_cons_succ, Option.bind_some, Act.put, List.setIfInBounds_toArray, List.set_cons_zero, List.set_cons_succ, Nat.zero_add, Nat.reduceAdd] at hQ ⊢; have HQ := Lib.hid hQ; have HD := Lib.hid hd; have HW := Lib.hid hW; have hsW := hW.size; clear hQ hd hW
          have hd10 : xs 10 = (.pointer (some ⟨w.heap.size, 0, none⟩)) := (HD.out 10 (of_decide_eq_true (by kernel_rfl)))
          generalize xs 10 = x10 at hd10 HQ ⊢; subst hd10
          have hc : W.cell? ⟨w.heap.size, 0, none⟩ = some ((.int .i64 s1)) := (HW.out.cell (p := ⟨w.heap.size, 0, none⟩) (by show w.heap.size < _; omega)).trans z1
          go_wp2
          exact HQ.out _ _ (Ext.refl _) rfl
        ·
          intro o ho xs W hW hd Q' hQ; obtain rfl := Option.some.inj ho; clear ho; simp only [fillAt, dstOf, List.getElem?_cons_zero, List.getElem?_cons_succ, Option.bind_some, Act.put, List.setIfInBounds_toArray, List.set_cons_zero, List.set_cons_succ, Nat.zero_add, Nat.reduceAdd] at hQ ⊢; have HQ := Lib.hid hQ; have HD := Lib.hid hd; have HW := Lib.hid hW; have hsW := hW.size; clear hQ hd hW
          have hd9 : xs 9 = (.int .i64 t2) := (HD.out 9 (of_decide_eq_true (by kernel_rfl)))
          generalize xs 9 = x9 at hd9 HQ ⊢; subst hd9
          have hd11 : xs 11 = (.int .i64 s1) := (HD.out 11 (of_decide_eq_true (by kernel_rfl)))
          generalize xs 11 = x11 at hd11 HQ ⊢; subst hd11
          go_wp2
          exact HQ.out _ _ (Ext.refl _) rfl
        ·
          intro o ho xs W hW hd Q' hQ; obtain rfl := Option.some.inj ho; clear ho; simp only [fillAt, dstOf, List.getElem?_cons_zero, List.getElem?_cons_succ, Option.bind_some, Act.put, List.setIfInBounds_toArray, List.set_cons_zero, List.set_cons_succ, Nat.zero_add, Nat.reduceAdd] at hQ ⊢; have HQ := Lib.hid hQ; have HD := Lib.hid hd; have HW := Lib.hid hW; have hsW := hW.size; clear hQ hd hW
          have hd4 : xs 4 = (.int .i64 t1) := (HD.out 4 (of_decide_eq_true (by kernel_rfl)))
          generalize xs 4 = x4 at hd4 HQ ⊢; subst hd4
          have hd12 : xs 12 = (.int .i64 (min t2 s1)) := (HD.out 12 (of_decide_eq_true (by kernel_rfl)))
          generalize xs 12 = x12 at hd12 HQ ⊢; subst hd12
          go_wp2
          exact HQ.out _ _ (Ext.refl _) rfl
        ·
          intro o ho xs W hW hd Q' hQ; obtain rfl := Option.some.inj ho; clear ho; simp only [fillAt, dstOf, List.getElem?_cons_zero, List.getElem?_cons_succ, Option.bind_some, Act.put, List.setIfInBounds_toArray, List.set_cons_zero, List.set_cons_succ, Nat.zero_add, Nat.reduceAdd] at hQ ⊢; have HQ := Lib.hid hQ; have HD := Lib.hid hd; have HW := Lib.hid hW; have hsW := hW.size; clear hQ hd hW
          go_wp2
          exact HQ.out _ _ ((Ext.refl _).alloc _) ⟨W.heap.size, rfl, by omega, RowAt.new _ _ _⟩
        ·
          intro xs W hW hS
          have h13 : xs 13 = (.agg #[(.int .i64 t1), (.int .i64 (min t2 s1))]) := hS 13 (by omega)
          obtain ⟨B1, h14, hB1, hRB⟩ : (newSp wr.heap.size).S (xs 14) W := hS 14 (by omega)
          simp only [fillAt, dstOf, List.getElem?_cons_zero, List.getElem?_cons_succ, Option.bind_some, Act.put, List.setIfInBounds_toArray, List.set_cons_zero, List.set_cons_succ, Nat.zero_add, Nat.reduceAdd, List.drop_succ_cons, List.drop_zero]
          generalize xs 13 = x13 at *; subst h13
          generalize xs 14 = x14 at *; subst h14
          clear hS
          have hk0 : W.cell? ⟨B1, 0, none⟩ = some (.int .i64 0) := hRB.cell 0
          have hk1 : W.cell? ⟨B1, 1, none⟩ = some (.int .i64 0) := hRB.cell 1
          have hf0 : W.frozen? ⟨B1, 0, none⟩ = false := hRB.free 0
          have hf1 : W.frozen? ⟨B1, 1, none⟩ = false := hRB.free 1
          have hlB := hRB.lt
          go_wp2
          refine wp_world (fun W' => Ext wr W' ∧ RowAt W' B1 #[.int .i64 t1, .int .i64 (min t2 s1)]) ⟨Ext.setCell (Ext.setCell hW (p := ⟨B1, 0, none⟩) hB1 _) (p := ⟨B1, 1, none⟩) hB1 _, (hRB.set 0 _).set 1 _⟩ ?_
          clear hk0 hk1 hf0 hf1 hlB hRB hW
          rintro W1 ⟨hxW, hrW⟩
          have HXW := Lib.hid hxW
          have HRA := Lib.hid hrW
          have hlW := hrW.lt
          have hsW := hxW.size
          have a1 : W1.cell? ⟨B1, 0, none⟩ = some (.int .i64 t1) := hrW.cell 0
          have a2 : W1.cell? ⟨B1, 1, none⟩ = some (.int .i64 (min t2 s1)) := hrW.cell 1
          replace y1 := (hxW.cell (p := ⟨b, off + k * 2, none⟩) (by show b < _; omega)).trans y1
          replace y2 := (hxW.cell (p := ⟨b, off + k * 2 + 1, none⟩) (by show b < _; omega)).trans y2
          replace z1 := (hxW.cell (p := ⟨w.heap.size, 0, none⟩) hlw).trans z1
          replace z2 := (hxW.cell (p := ⟨w.heap.size, 1, none⟩) hlw).trans z2
          clear hxW hrW
          refine wp_region_soft 15 (softL [(.slice (some ⟨b, off, none⟩) l.length c), (.int .i64 (k : Int)), (.pointer (some ⟨b, off + k * 2, none⟩)), (.pointer (some ⟨b, off + k * 2, none⟩)), (.int .i64 t1), (.pointer (some ⟨w.heap.size, 1, none⟩)), (.int .i64 s2), (.int .i64 (max t1 s2)), (.slice (some ⟨b, off, none⟩) l.length c), (.int .i64 (k : Int)), (.pointer (some ⟨b, off + k * 2, none⟩)), (.pointer (some ⟨b, off + k * 2 + 1, none⟩)), (.int .i64 t2), (.agg #[(.int .i64 (max t1 s2)), (.int .i64 t2)])] W1.heap.size) (by kernel_rfl) (by kernel_rfl) (lt_cons ?_ (lt_cons ?_ (lt_cons ?_ (lt_cons ?_ (lt_cons ?_ (lt_cons ?_ (lt_cons ?_ (lt_cons ?_ (lt_cons ?_ (lt_cons ?_ (lt_cons ?_ (lt_cons ?_ (lt_cons ?_ (lt_cons ?_ (lt_cons ?_ lt_none))))))))))))))) ?_
          ·
            intro o ho xs W hW hd Q' hQ; obtain rfl := Option.some.inj ho; clear ho; simp only [fillAt, dstOf, List.getElem?_cons_zero, List.getElem?_cons_succ, Option.bind_some, Act.put, List.setIfInBounds_toArray, List.set_cons_zero, List.set_cons_succ, Nat.zero_add, Nat.reduceAdd] at hQ ⊢; have HQ := Lib.hid hQ; have HD := Lib.hid hd; have HW := Lib.hid hW; have hsW := hW.size; clear hQ hd hW
            go_wp2
            exact HQ.out _ _ (Ext.refl _) rfl
          ·
            intro o ho xs W hW hd Q' hQ; obtain rfl := Option.some.inj ho; clear ho; simp only [fillAt, dstOf, List.getElem?_cons_zero, List.getElem?_cons_succ, Option.bind_some, Act.put, List.setIfInBounds_toArray, List.set_cons_zero, List.set_cons_succ, Nat.zero_add, Nat.reduceAdd] at hQ ⊢; have HQ := Lib.hid hQ; have HD := Lib.hid hd; have HW := Lib.hid hW; have hsW := hW.size; clear hQ hd hW
            go_wp2
            exact HQ.out _ _ (Ext.refl _) rfl
          ·
            intro o ho xs W hW hd Q' hQ; obtain rfl := Option.some.inj ho; clear ho; simp only [fillAt, dstOf, List.getElem?_cons_zero, List.getElem?_cons_succ, Option.bind_some, Act.put, List.setIfInBounds_toArray, List.set_cons_zero, List.set_cons_succ, Nat.zero_add, Nat.reduceAdd] at hQ ⊢; have HQ := Lib.hid hQ; have HD := Lib.hid hd; have HW := Lib.hid hW; have hsW := hW.size; clear hQ hd hW
            have hd0 : xs 0 = (.slice (some ⟨b, off, none⟩) l.length c) := (HD.out 0 (of_decide_eq_true (by kernel_rfl)))
            generalize xs 0 = x0 at hd0 HQ ⊢; subst hd0
            have hd1 : xs 1 = (.int .i64 (k : Int)) := (HD.out 1 (of_decide_eq_true (by kernel_rfl)))
            generalize xs 1 = x1 at hd1 HQ ⊢; subst hd1
            go_wp2
            exact HQ.out _ _ (Ext.refl _) rfl
          ·
            intro o ho xs W hW hd Q' hQ; obtain rfl := Option.some.inj ho; clear ho; simp only [fillAt, dstOf, List.getElem?_cons_zero, List.getElem?_cons_succ, Option.bind_some, Act.put, List.setIfInBounds_toArray, List.set_cons_zero, List.set_cons_succ, Nat.zero_add, Nat.reduceAdd] at hQ ⊢; have HQ := Lib.hid hQ; have HD := Lib.hid hd; have HW := Lib.hid hW; have hsW := hW.size; clear hQ hd hW
            have hd2 : xs 2 = (.pointer (some ⟨b, off + k * 2, none⟩)) := (HD.out 2 (of_decide_eq_true (by kernel_rfl)))
            generalize xs 2 = x2 at hd2 HQ ⊢; subst hd2
            go_wp2
            exact HQ.out _ _ (Ext.refl _) rfl
          ·
            intro o ho xs W hW hd Q' hQ; obtain rfl := Option.some.inj ho; clear ho; simp only [fillAt, dstOf, List.getElem?_cons_zero, List.getElem?_cons_succ, Option.bind_some, Act.put, List.setIfInBounds_toArray, List.set_cons_zero, List.set_cons_succ, Nat.zero_add, Nat.reduceAdd] at hQ ⊢; have HQ := Lib.hid hQ; have HD := Lib.hid hd; have HW := Lib.hid hW; have hsW := hW.size; clear hQ hd hW
            have hd3 : xs 3 = (.pointer (some ⟨b, off + k * 2, none⟩)) := (HD.out 3 (of_decide_eq_true (by kernel_rfl)))
            generalize xs 3 = x3 at hd3 HQ ⊢; subst hd3
            have hc : W.cell? ⟨b, off + k * 2, none⟩ = some ((.int .i64 t1)) := (HW.out.cell (p := ⟨b, off + k * 2, none⟩) (by show b < _; omega)).trans y1
            go_wp2
            exact HQ.out _ _ (Ext.refl _) rfl
          ·
            intro o ho xs W hW hd Q' hQ; obtain rfl := Option.some.inj ho; clear ho; simp only [fillAt, dstOf, List.getElem?_cons_zero, List.getElem?_cons_succ, Option.bind_some, Act.put, List.setIfInBounds_toArray, List.set_cons_zero, List.set_cons_succ, Nat.zero_add, Nat.reduceAdd] at hQ ⊢; have HQ := Lib.hid hQ; have HD := Lib.hid hd; have HW := Lib.hid hW; have hsW := hW.size; clear hQ hd hW
            go_wp2
            exact HQ.out _ _ (Ext.refl _) rfl
          ·
            intro o ho xs W hW hd Q' hQ; obtain rfl := Option.some.inj ho; clear ho; simp only [fillAt, dstOf, List.getElem?_cons_zero, List.getElem?_cons_succ, Option.bind_some, Act.put, List.setIfInBounds_toArray, List.set_cons_zero, List.set_cons_succ, Nat.zero_add, Nat.reduceAdd] at hQ ⊢; have HQ := Lib.hid hQ; have HD := Lib.hid hd; have HW := Lib.hid hW; have hsW := hW.size; clear hQ hd hW
            have hd5 : xs 5 = (.pointer (some ⟨w.heap.size, 1, none⟩)) := (HD.out 5 (of_decide_eq_true (by kernel_rfl)))
            generalize xs 5 = x5 at hd5 HQ ⊢; subst hd5
            have hc : W.cell? ⟨w.heap.size, 1, none⟩ = some ((.int .i64 s2)) := (HW.out.cell (p := ⟨w.heap.size, 1, none⟩) (by show w.heap.size < _; omega)).trans z2
            go_wp2
            exact HQ.out _ _ (Ext.refl _) rfl
          ·
            intro o ho xs W hW hd Q' hQ; obtain rfl := Option.some.inj ho; clear ho; simp only [fillAt, dstOf, List.getElem?_cons_zero, List.getElem?_cons_succ, Option.bind_some, Act.put, List.setIfInBounds_toArray, List.set_cons_zero, List.set_cons_succ, Nat.zero_add, Nat.reduceAdd] at hQ ⊢; have HQ := Lib.hid hQ; have HD := Lib.hid hd; have HW := Lib.hid hW; have hsW := hW.size; clear hQ hd hW
            have hd4 : xs 4 = (.int .i64 t1) := (HD.out 4 (of_decide_eq_true (by kernel_rfl)))
            generalize xs 4 = x4 at hd4 HQ ⊢; subst hd4
            have hd6 : xs 6 = (.int .i64 s2) := (HD.out 6 (of_decide_eq_true (by kernel_rfl)))
            generalize xs 6 = x6 at hd6 HQ ⊢; subst hd6
            go_wp2
            exact HQ.out _ _ (Ext.refl _) rfl
          ·
            intro o ho xs W hW hd Q' hQ; obtain rfl := Option.some.inj ho; clear ho; simp only [fillAt, dstOf, List.getElem?_cons_zero, List.getElem?_cons_succ, Option.bind_some, Act.put, List.setIfInBounds_toArray, List.set_cons_zero, List.set_cons_succ, Nat.zero_add, Nat.reduceAdd] at hQ ⊢; have HQ := Lib.hid hQ; have HD := Lib.hid hd; have HW := Lib.hid hW; have hsW := hW.size; clear hQ hd hW
            go_wp2
            exact HQ.out _ _ (Ext.refl _) rfl
          ·
            intro o ho xs W hW hd Q' hQ; obtain rfl := Option.some.inj ho; clear ho; simp only [fillAt, dstOf, List.getElem?_cons_zero, List.getElem?_cons_succ, Option.bind_some, Act.put, List.setIfInBounds_toArray, List.set_cons_zero, List.set_cons_succ, Nat.zero_add, Nat.reduceAdd] at hQ ⊢; have HQ := Lib.hid hQ; have HD := Lib.hid hd; have HW := Lib.hid hW; have hsW := hW.size; clear hQ hd hW
            go_wp2
            exact HQ.out _ _ (Ext.refl _) rfl
          ·
            intro o ho xs W hW hd Q' hQ; obtain rfl := Option.some.inj ho; clear ho; simp only [fillAt, dstOf, List.getElem?_cons_zero, List.getElem?_cons_succ, Option.bind_some, Act.put, List.setIfInBounds_toArray, List.set_cons_zero, List.set_cons_succ, Nat.zero_add, Nat.reduceAdd] at hQ ⊢; have HQ := Lib.hid hQ; have HD := Lib.hid hd; have HW := Lib.hid hW; have hsW := hW.size; clear hQ hd hW
            have hd8 : xs 8 = (.slice (some ⟨b, off, none⟩) l.length c) := (HD.out 8 (of_decide_eq_true (by kernel_rfl)))
            generalize xs 8 = x8 at hd8 HQ ⊢; subst hd8
            have hd9 : xs 9 = (.int .i64 (k : Int)) := (HD.out 9 (of_decide_eq_true (by kernel_rfl)))
            generalize xs 9 = x9 at hd9 HQ ⊢; subst hd9
            go_wp2
            exact HQ.out _ _ (Ext.refl _) rfl
          ·
            intro o ho xs W hW hd Q' hQ; obtain rfl := Option.some.inj ho; clear ho; simp only [fillAt, dstOf, List.getElem?_cons_zero, List.getElem?_cons_succ, Option.bind_some, Act.put, List.setIfInBounds_toArray, List.set_cons_zero, List.set_cons_succ, Nat.zero_add, Nat.reduceAdd] at hQ ⊢; have HQ := Lib.hid hQ; have HD := Lib.hid hd; have HW := Lib.hid hW; have hsW := hW.size; clear hQ hd hW
            have hd10 : xs 10 = (.pointer (some ⟨b, off + k * 2, none⟩)) := (HD.out 10 (of_decide_eq_true (by kernel_rfl)))
            generalize xs 10 = x10 at hd10 HQ ⊢; subst hd10
            go_wp2
            exact HQ.out _ _ (Ext.refl _) rfl
          ·
            intro o ho xs W hW hd Q' hQ; obtain rfl := Option.some.inj ho; clear ho; simp only [fillAt, dstOf, List.getElem?_cons_zero, List.getElem?_cons_succ, Option.bind_some, Act.put, List.setIfInBounds_toArray, List.set_cons_zero, List.set_cons_succ, Nat.zero_add, Nat.reduceAdd] at hQ ⊢; have HQ := Lib.hid hQ; have HD := Lib.hid hd; have HW := Lib.hid hW; have hsW := hW.size; clear hQ hd hW
            have hd11 : xs 11 = (.pointer (some ⟨b, off + k * 2 + 1, none⟩)) := (HD.out 11 (of_decide_eq_true (by kernel_rfl)))
            generalize xs 11 = x11 at hd11 HQ ⊢; subst hd11
            have hc : W.cell? ⟨b, off + k * 2 + 1, none⟩ = some ((.int .i64 t2)) := (HW.out.cell (p := ⟨b, off + k * 2 + 1, none⟩) (by show b < _; omega)).trans y2
            go_wp2
            exact HQ.out _ _ (Ext.refl _) rfl
          ·
            intro o ho xs W hW hd Q' hQ; obtain rfl := Option.some.inj ho; clear ho; simp only [fillAt, dstOf, List.getElem?_cons_zero, List.getElem?_cons_succ, Option.bind_some, Act.put, List.setIfInBounds_toArray, List.set_cons_zero, List.set_cons_succ, Nat.zero_add, Nat.reduceAdd] at hQ ⊢; have HQ := Lib.hid hQ; have HD := Lib.hid hd; have HW := Lib.hid hW; have hsW := hW.size; clear hQ hd hW
            have hd7 : xs 7 = (.int .i64 (max t1 s2)) := (HD.out 7 (of_decide_eq_true (by kernel_rfl)))
            generalize xs 7 = x7 at hd7 HQ ⊢; subst hd7
            have hd12 : xs 12 = (.int .i64 t2) := (HD.out 12 (of_decide_eq_true (by kernel_rfl)))
            generalize xs 12 = x12 at hd12 HQ ⊢; subst hd12
            go_wp2
            exact HQ.out _ _ (Ext.refl _) rfl
          ·
            intro o ho xs W hW hd Q' hQ; obtain rfl := Option.some.inj ho; clear ho; simp only [fillAt, dstOf, List.getElem?_cons_zero, List.getElem?_cons_succ, Option.bind_some, Act.put, List.setIfInBounds_toArray, List.set_cons_zero, List.set_cons_succ, Nat.zero_add, Nat.reduceAdd] at hQ ⊢; have HQ := Lib.hid hQ; have HD := Lib.hid hd; have HW := Lib.hid hW; have hsW := hW.size; clear hQ hd hW
            go_wp2
            exact HQ.out _ _ ((Ext.refl _).alloc _) ⟨W.heap.size, rfl, by omega, RowAt.new _ _ _⟩
          ·
            intro xs W hW hS
            have h13 : xs 13 = (.agg #[(.int .i64 (max t1 s2)), (.int .i64 t2)]) := hS 13 (by omega)
            obtain ⟨B2, h14, hB2, hRB⟩ : (newSp W1.heap.size).S (xs 14) W := hS 14 (by omega)
            simp only [fillAt, dstOf, List.getElem?_cons_zero, List.getElem?_cons_succ, Option.bind_some, Act.put, List.setIfInBounds_toArray, List.set_cons_zero, List.set_cons_succ, Nat.zero_add, Nat.reduceAdd, List.drop_succ_cons, List.drop_zero]
            generalize xs 13 = x13 at *; subst h13
            generalize xs 14 = x14 at *; subst h14
            clear hS
            have hk0 : W.cell? ⟨B2, 0, none⟩ = some (.int .i64 0) := hRB.cell 0
            have hk1 : W.cell? ⟨B2, 1, none⟩ = some (.int .i64 0) := hRB.cell 1
            have hf0 : W.frozen? ⟨B2, 0, none⟩ = false := hRB.free 0
            have hf1 : W.frozen? ⟨B2, 1, none⟩ = false := hRB.free 1
            have hlB := hRB.lt
            have hW2 := HXW.out.trans hW
            have hRA2 := HRA.out.ext hW
            replace a1 := (hW.cell (p := ⟨B1, 0, none⟩) hlW).trans a1
            replace a2 := (hW.cell (p := ⟨B1, 1, none⟩) hlW).trans a2
            clear hm1 hm2 y1 y2 z1 z2
            generalize min t2 s1 = m1 at *
            generalize max t1 s2 = m2 at *
            go_wp2_with (go_at_call 70; refine (show Hid _ from ?_).out)
            refine Lib.hid ?_
            refine calls_world (fun W' => Ext wr W' ∧ RowAt W' B1 #[.int .i64 t1, .int .i64 m1] ∧ RowAt W' B2 #[.int .i64 m2, .int .i64 t2]) ⟨Ext.setCell (Ext.setCell hW2 (p := ⟨B2, 0, none⟩) (by show wr.heap.size ≤ B2; omega) _) (p := ⟨B2, 1, none⟩) (by show wr.heap.size ≤ B2; omega) _, RowAt.other (RowAt.other hRA2 (p := ⟨B2, 0, none⟩) (by show B1 ≠ B2; omega) _) (p := ⟨B2, 1, none⟩) (by show B1 ≠ B2; omega) _, (hRB.set 0 _).set 1 _⟩ ?_
            clear hk0 hk1 hf0 hf1 hlB hRB hW hW2 hRA2 a1 a2 HXW HRA hlW
            rintro W2 ⟨hxW, hrA, hrB⟩
            have HX2 := Lib.hid hxW
            have HRB := Lib.hid hrB
            have b1 : W2.cell? ⟨B2, 0, none⟩ = some (.int .i64 m2) := hrB.cell 0
            have b2 : W2.cell? ⟨B2, 1, none⟩ = some (.int .i64 t2) := hrB.cell 1
            have a1 : W2.cell? ⟨B1, 0, none⟩ = some (.int .i64 t1) := hrA.cell 0
            have a2 : W2.cell? ⟨B1, 1, none⟩ = some (.int .i64 m1) := hrA.cell 1
            have hlA := hrA.lt
            have hlB := hrB.lt
            have hs2 := hxW.size
            clear hxW hrA hrB
            have hBB : wr.heap.size ≤ B2 := by omega
            rw [HC.out] at HJ
            clear HC
            cases q1 : emptyB (t1, m1) with
            | true =>
              cases q2 : emptyB (m2, t2) with
              | true =>
                have HJ2 : Hid ((l.take (k + 1)).flatMap (Sp.cutOne · (s1, s2)) = out) := Lib.hid (by rw [HJ.out, q1, q2]; simp)
                have Q1 := Lib.hid q1
                have Q2 := Lib.hid q2
                clear q1 q2
                refine (rempty_is (t1, m1) true _ Q1.out).mono ?_
                rintro e w' ⟨rfl, hx⟩
                obtain ⟨x1, rfl⟩ := hx.asLater
                clear hx
                go_wp2_with (go_at_call 70; refine (rempty_is (m2, t2) true _ Q2.out).mono ?_; rintro e w' ⟨rfl, hx⟩; obtain ⟨x2, rfl⟩ := hx.asLater; clear hx)
                go_roundw
                case rel => exact ⟨k + 1, A', c', out, by omega, by go_num, rfl, by omega, Lib.hid HJ2.out.symm, Lib.hid ((HOw.out.ext HX2.out).later _), Lib.hid ((HX.out.trans HX2.out).onto _), Lib.hid ((HRow.out.ext HX2.out).later _)⟩
                case measure => simp [intOf]; omega
              | false =>
                have HJ2 : Hid ((l.take (k + 1)).flatMap (Sp.cutOne · (s1, s2)) = out ++ [(m2, t2)]) := Lib.hid (by rw [HJ.out, q1, q2]; simp)
                have Q1 := Lib.hid q1
                have Q2 := Lib.hid q2
                clear q1 q2
                refine (rempty_is (t1, m1) true _ Q1.out).mono ?_
                rintro e w' ⟨rfl, hx⟩
                obtain ⟨x1, rfl⟩ := hx.asLater
                clear hx
                go_wp2_with (first
                  | (go_at_call 70; refine (rempty_is (m2, t2) false _ Q2.out).mono ?_; rintro e w' ⟨rfl, hx⟩; obtain ⟨x2, rfl⟩ := hx.asLater; clear hx)
                  | (at_builtin; refine app_from spT spE rfl _ _ rfl (w.heap.size + 1) A' c' out rfl (((HOw.out.ext HX2.out).later _).alloc _) _ 1 _ [(m2, t2)] rfl rfl (new_cellsAt (by first | omega | (simp [later_size, setCells_size]; done) | (simp [later_size, setCells_size]; omega)) _ _) (by omega) (by omega) (by first | omega | (simp [later_size, setCells_size]; done) | (simp [later_size, setCells_size]; omega)) ?_; intro A2 c2 l2 w2 HLl2 HOl2 hBl2 hlal2 hlbl2 hgbl2; have HOOl2 := Lib.hid HOl2; have HBBl2 := Lib.hid hBl2; have hszl2 := hBl2.size; skip; clear HOl2 hBl2 hgbl2))
                go_roundw
                case rel => exact ⟨k + 1, A2, c2, l2, by omega, by go_num, rfl, by omega, Lib.hid (HLl2.out.trans HJ2.out.symm), HOOl2, Lib.hid ((show Ext w _ from (((HX.out.trans HX2.out).onto _).alloc _)).grown HBBl2.out (by omega)), Lib.hid ((((HRow.out.ext HX2.out).later _).alloc _).below HBBl2.out (by omega))⟩
                case measure => simp [intOf]; omega
            | false =>
              cases q2 : emptyB (m2, t2) with
              | true =>
                have HJ2 : Hid ((l.take (k + 1)).flatMap (Sp.cutOne · (s1, s2)) = out ++ [(t1, m1)]) := Lib.hid (by rw [HJ.out, q1, q2]; simp)
                have Q1 := Lib.hid q1
                have Q2 := Lib.hid q2
                clear q1 q2
                refine (rempty_is (t1, m1) false _ Q1.out).mono ?_
                rintro e w' ⟨rfl, hx⟩
                obtain ⟨x1, rfl⟩ := hx.asLater
                clear hx
                go_wp2_with (first
                  | (go_at_call 70; refine (rempty_is (m2, t2) true _ Q2.out).mono ?_; rintro e w' ⟨rfl, hx⟩; obtain ⟨x2, rfl⟩ := hx.asLater; clear hx)
                  | (at_builtin; refine app_from spT spE rfl _ _ rfl (w.heap.size + 1) A' c' out rfl (((HOw.out.ext HX2.out).later _).alloc _) _ 1 _ [(t1, m1)] rfl rfl (new_cellsAt (by first | omega | (simp [later_size, setCells_size]; done) | (simp [later_size, setCells_size]; omega)) _ _) (by omega) (by omega) (by first | omega | (simp [later_size, setCells_size]; done) | (simp [later_size, setCells_size]; omega)) ?_; intro A2 c2 l2 w2 HLl2 HOl2 hBl2 hlal2 hlbl2 hgbl2; have HOOl2 := Lib.hid HOl2; have HBBl2 := Lib.hid hBl2; have hszl2 := hBl2.size; have u0 : w2.cell? ⟨B2, 0, none⟩ = some (.int .i64 m2) := (app_keep hgbl2 (fun a ha => (HOw.out.lt a ha).2) (p := ⟨B2, 0, none⟩) hBB (by first | omega | (simp [later_size, setCells_size]; done) | (simp [later_size, setCells_size]; omega))).trans (((HRB.out.later _).alloc _).cell 0); have u1 : w2.cell? ⟨B2, 1, none⟩ = some (.int .i64 t2) := (app_keep hgbl2 (fun a ha => (HOw.out.lt a ha).2) (p := ⟨B2, 1, none⟩) hBB (by first | omega | (simp [later_size, setCells_size]; done) | (simp [later_size, setCells_size]; omega))).trans (((HRB.out.later _).alloc _).cell 1); have hB2w : B2 < w2.heap.size := Nat.lt_of_lt_of_le (show B2 < ((later W2 x1).alloc (.cells #[.int .i64 t1, .int .i64 m1] 26)).heap.size from (by first | omega | (simp [later_size, setCells_size]; done) | (simp [later_size, setCells_size]; omega))) hBl2.size; clear HOl2 hBl2 hgbl2))
                go_roundw
                case rel => exact ⟨k + 1, A2, c2, l2, by omega, by go_num, rfl, by omega, Lib.hid (HLl2.out.trans HJ2.out.symm), Lib.hid (HOOl2.out.later _), Lib.hid (((show Ext w _ from (((HX.out.trans HX2.out).onto _).alloc _)).grown HBBl2.out (by omega)).onto _), Lib.hid (((((HRow.out.ext HX2.out).later _).alloc _).below HBBl2.out (by omega)).later _)⟩
                case measure => simp [intOf]; omega
              | false =>
                have HJ2 : Hid ((l.take (k + 1)).flatMap (Sp.cutOne · (s1, s2)) = (out ++ [(t1, m1)]) ++ [(m2, t2)]) := Lib.hid (by rw [HJ.out, q1, q2]; simp)
                have Q1 := Lib.hid q1
                have Q2 := Lib.hid q2
                clear q1 q2
                refine (rempty_is (t1, m1) false _ Q1.out).mono ?_
                rintro e w' ⟨rfl, hx⟩
                obtain ⟨x1, rfl⟩ := hx.asLater
                clear hx
                go_wp2_with (first
                  | (go_at_call 70; refine (rempty_is (m2, t2) false _ Q2.out).mono ?_; rintro e w' ⟨rfl, hx⟩; obtain ⟨x2, rfl⟩ := hx.asLater; clear hx)
                  | (at_builtin; refine app_from spT spE rfl _ _ rfl (w.heap.size + 1) A2 c2 l2 rfl ((HOOl2.out.later _).alloc _) _ 1 _ [(m2, t2)] rfl rfl (new_cellsAt (by first | omega | (simp [later_size, setCells_size]; done) | (simp [later_size, setCells_size]; omega)) _ _) (by omega) (by omega) (by first | omega | (simp [later_size, setCells_size]; done) | (simp [later_size, setCells_size]; omega)) ?_; intro A3 c3 l3 w3 HLl3 HOl3 hBl3 hlal3 hlbl3 hgbl3; have HOOl3 := Lib.hid HOl3; have HBBl3 := Lib.hid hBl3; have hszl3 := hBl3.size; skip; clear HOl3 hBl3 hgbl3)
                  | (at_builtin; refine app_from spT spE rfl _ _ rfl (w.heap.size + 1) A' c' out rfl (((HOw.out.ext HX2.out).later _).alloc _) _ 1 _ [(t1, m1)] rfl rfl (new_cellsAt (by first | omega | (simp [later_size, setCells_size]; done) | (simp [later_size, setCells_size]; omega)) _ _) (by omega) (by omega) (by first | omega | (simp [later_size, setCells_size]; done) | (simp [later_size, setCells_size]; omega)) ?_; intro A2 c2 l2 w2 HLl2 HOl2 hBl2 hlal2 hlbl2 hgbl2; have HOOl2 := Lib.hid HOl2; have HBBl2 := Lib.hid hBl2; have hszl2 := hBl2.size; have u0 : w2.cell? ⟨B2, 0, none⟩ = some (.int .i64 m2) := (app_keep hgbl2 (fun a ha => (HOw.out.lt a ha).2) (p := ⟨B2, 0, none⟩) hBB (by first | omega | (simp [later_size, setCells_size]; done) | (simp [later_size, setCells_size]; omega))).trans (((HRB.out.later _).alloc _).cell 0); have u1 : w2.cell? ⟨B2, 1, none⟩ = some (.int .i64 t2) := (app_keep hgbl2 (fun a ha => (HOw.out.lt a ha).2) (p := ⟨B2, 1, none⟩) hBB (by first | omega | (simp [later_size, setCells_size]; done) | (simp [later_size, setCells_size]; omega))).trans (((HRB.out.later _).alloc _).cell 1); have hB2w : B2 < w2.heap.size := Nat.lt_of_lt_of_le (show B2 < ((later W2 x1).alloc (.cells #[.int .i64 t1, .int .i64 m1] 26)).heap.size from (by first | omega | (simp [later_size, setCells_size]; done) | (simp [later_size, setCells_size]; omega))) hBl2.size; clear HOl2 hBl2 hgbl2))
                go_roundw
                case rel => exact ⟨k + 1, A3, c3, l3, by omega, by go_num, rfl, by omega, Lib.hid (by rw [HJ2.out, ← HLl2.out]; exact HLl3.out), HOOl3, Lib.hid ((show Ext w _ from ((((show Ext w _ from (((HX.out.trans HX2.out).onto _).alloc _)).grown HBBl2.out (by omega)).onto _).alloc _)).grown HBBl3.out (by omega)), Lib.hid ((((((((HRow.out.ext HX2.out).later _).alloc _).below HBBl2.out (by omega)).later _).alloc _)).below HBBl3.out (by omega))⟩
                case measure => simp [intOf]; omega
      · have e : k = l.length := by omega
        subst e
        rw [List.take_length] at HO
        go_wp2
        go_ret
        exact ⟨A', c', out, rfl, Lib.hid (by rw [HL.out]; exact HO.out), hol, HOw.out.lower (by omega), HX.out⟩
theorem rCut_in {l : List Sp} {n : Int} (h : SetIn l n) (s : Sp) : SetIn (Sp.rCut l s) n := by
  obtain ⟨k1, k2⟩ := Sp.rCut_spec h.1 s
  exact SetIn.of_mem k1 fun x hx => h.mem ((k2 x).1 hx).1
theorem rMinus_in {n : Int} : ∀ (b : List Sp) {a : List Sp}, SetIn a n → SetIn (Sp.rMinus a b) n
  | [], a, h => h
  | s :: b, a, h => rMinus_in b (rCut_in h s)
theorem minus_snoc (a b : List Sp) (k : Nat) (h : k < b.length) : Sp.rMinus a (b.take (k + 1)) = Sp.rCut (Sp.rMinus a (b.take k)) b[k] := by
  unfold Sp.rMinus
  rw [List.take_succ_eq_append_getElem h, List.foldl_append]
  rfl
theorem SetIn.small {l : List Sp} (h : SetIn l 1099511627776) : l.length * 32 ≤ 140737488340000 := by
  have := h.len (by decide)
  omega
def RMinusRel (w : World) (a b : List Sp) (i v : Value) (wr : World) : Prop := ∃ (k : Nat) (A' : Option Addr) (c' : Nat) (out : List Sp), k ≤ b.length ∧ i = .int .i64 k ∧ v = .slice A' out.length c' ∧ Hid (out = Sp.rMinus a (b.take k)) ∧ Hid (OwnsSp w.heap.size wr A' c' out) ∧ Hid (Ext w wr)
theorem none_of_own {base : Nat} {w : World} {A : Option Addr} {c : Nat} {l : List Sp} (h : OwnsSp base w A c l) : A = none → c = 0 := h.none0
set_option maxRecDepth 100000 in
set_option maxHeartbeats 400000 in
theorem rminus_any (A1 : Option Addr) (c1 : Nat) (a : List Sp) (A2 : Option Addr) (c2 : Nat) (b : List Sp) (w : World) (ha : SetIn a 1099511627776) (hlb : b.length ≤ 140737488340000) (hr1 : ReadsSp w w.heap.size A1 a) (hr2 : ReadsSp w w.heap.size A2 b) (z1 : A1 = none → c1 = 0) :
    Calls Tryz.prog 111 #[.slice A1 a.length c1, .slice A2 b.length c2] w fun e' w' => ∃ A' c' out, e' = .returned (.slice A' out.length c') ∧ Hid (out = Sp.rMinus a b) ∧ OwnsSp w.heap.size w' A' c' out ∧ Ext w w' := by
  have HR1 := Lib.hid hr1
  have HR2 := Lib.hid hr2
  have HZ1 := Lib.hid z1
  have HA := Lib.hid ha
  have hla := ha.small
  clear hr1 hr2 z1 ha
  go_enter Tryz.func111, Tryz.ntmps111
  go_wp2_with (at_builtin; refine app_reads spT spE rfl _ _ rfl w.heap.size _ _ [] rfl (own_lit0 _ _ _ (by first | omega | (simp [later_size, setCells_size]; done) | (simp [later_size, setCells_size]; omega)) (by first | omega | (simp [later_size, setCells_size]; done) | (simp [later_size, setCells_size]; omega))) w.heap.size A1 c1 a rfl (HR1.out.ext (by (repeat (first | with_reducible exact Ext.refl _ | with_reducible exact Ext.refl _ | with_reducible refine Ext.drew ?_ | with_reducible refine Ext.drewN ?_ _ | with_reducible refine Ext.alloc ?_ _ | with_reducible refine Ext.onto ?_ _ | (with_reducible refine Ext.setCells ?_ ?_ _ _; rotate_left; focus (first | omega | (simp; done) | (simp; omega))) | (with_reducible refine Ext.setCell ?_ ?_ _; rotate_left; focus (first | omega | (simp; done) | (simp; omega)))))) (Nat.le_refl _)) HZ1.out (by simp; omega) (by simp; omega) (by first | omega | (simp [later_size, setCells_size]; done) | (simp [later_size, setCells_size]; omega)) ?_; intro A3 c3 l3 w3 HL3 HO3 hB hl1 hl2 _; have HO3' := Lib.hid HO3; have HX3 : Hid (Ext w w3) := Lib.hid ((show Ext w _ from (by (repeat (first | with_reducible exact Ext.refl _ | with_reducible exact Ext.refl _ | with_reducible refine Ext.drew ?_ | with_reducible refine Ext.drewN ?_ _ | with_reducible refine Ext.alloc ?_ _ | with_reducible refine Ext.onto ?_ _ | (with_reducible refine Ext.setCells ?_ ?_ _ _; rotate_left; focus (first | omega | (simp; done) | (simp; omega))) | (with_reducible refine Ext.setCell ?_ ?_ _; rotate_left; focus (first | omega | (simp; done) | (simp; omega))))))).grown hB (Nat.le_refl _)); clear HO3 hB)
  have HL3' : Hid (l3 = a) := Lib.hid (by rw [HL3.out, List.nil_append])
  clear HL3
  go_loopw [6, 5] (RMinusRel w a b) (fun i _ _ => b.length - (intOf i).toNat)
  case atStart => exact ⟨0, A3, c3, l3, Nat.zero_le _, rfl, rfl, Lib.hid (by rw [HL3'.out]; rfl), HO3', HX3⟩
  case round =>
    obtain ⟨k, A', c', out, hk, rfl, rfl, HO, HOw, HX⟩ := hrel
    by_cases hlt : k < b.length
    · obtain ⟨bb, off, rfl, hb, y1, y2⟩ := ReadsSp.cell (HR2.out.ext HX.out (Nat.le_refl _)) k hlt
      have HJ := Lib.hid (minus_snoc a b k hlt)
      rw [← HO.out] at HJ
      have hol : out.length * 32 ≤ 140737488340000 := by rw [HO.out]; exact (rMinus_in _ HA.out).small
      generalize b[k] = t at *
      obtain ⟨t1, t2⟩ := t
      simp only [] at y1 y2
      have hsz := HX.out.size
      go_wp2_with (go_at_call 142; refine (rcut_any A' c' out (t1, t2) _ (by omega) (HOw.out.reads spE) (none_of_own HOw.out)).mono ?_; rintro e w4 ⟨A4, c4, l4, rfl, HL4, hl4, ho4, hx4⟩; have HO4 := Lib.hid ho4; have HX4 := Lib.hid hx4; clear ho4 hx4 hl4)
      go_roundw
      case rel => exact ⟨k + 1, A4, c4, l4, by omega, by go_num, rfl, Lib.hid (HL4.out.trans HJ.out.symm), Lib.hid (HO4.out.lower hsz), Lib.hid (HX.out.trans HX4.out)⟩
      case measure => simp [intOf]; omega
    · have e : k = b.length := by omega
      subst e
      rw [List.take_length] at HO
      go_wp2
      go_ret
      exact ⟨A', c', out, rfl, HO, HOw.out, HX.out⟩
/-- A span lies in what can be. -/
def OkSp (s : Sp) : Prop := s.1 < s.2 → 0 ≤ s.1 ∧ s.2 ≤ 1099511627776
theorem one_in {s : Sp} (h : s.1 < s.2) (k : OkSp s) : SetIn [s] 1099511627776 := ⟨Sp.IsSet.one h, fun t ht => by simp at ht; subst ht; exact k h⟩
set_option maxRecDepth 100000 in
set_option maxHeartbeats 400000 in
theorem rmissing_any (A : Option Addr) (c : Nat) (l : List Sp) (s : Sp) (w : World) (hs : OkSp s) (hll : l.length ≤ 140737488340000) (hr : ReadsSp w w.heap.size A l) :
    Calls Tryz.prog 71 #[.slice A l.length c, .agg #[.int .i64 s.1, .int .i64 s.2]] w fun e' w' => ∃ A' c' out, e' = .returned (.slice A' out.length c') ∧ Hid (out = rMissing l s) ∧ OwnsSp w.heap.size w' A' c' out ∧ Ext w w' := by
  have HR := Lib.hid hr
  clear hr
  by_cases he : s.2 ≤ s.1
  · have HE : Hid (emptyB s = true) := Lib.hid (by simpa [emptyB] using he)
    have HL : Hid (rMissing l s = []) := Lib.hid (by unfold rMissing; rw [if_pos he])
    clear he
    go_enter Tryz.func71, Tryz.ntmps71
    go_wp2_with (go_at_call 70; refine (rempty_is s true _ HE.out).mono ?_; rintro e w' ⟨rfl, hxl⟩; obtain ⟨xl, rfl⟩ := hxl.asLater; clear hxl)
    go_ret
    exact ⟨none, 0, [], rfl, Lib.hid HL.out.symm, Owns.nil _ _ _ _ _, (by (repeat (first | with_reducible exact Ext.refl _ | with_reducible exact Ext.refl _ | with_reducible refine Ext.drew ?_ | with_reducible refine Ext.drewN ?_ _ | with_reducible refine Ext.alloc ?_ _ | with_reducible refine Ext.onto ?_ _ | (with_reducible refine Ext.setCells ?_ ?_ _ _; rotate_left; focus (first | omega | (simp; done) | (simp; omega))) | (with_reducible refine Ext.setCell ?_ ?_ _; rotate_left; focus (first | omega | (simp; done) | (simp; omega))))))⟩
  · have HE : Hid (emptyB s = false) := Lib.hid (by simp [emptyB]; omega)
    have HL : Hid (rMissing l s = Sp.rMinus [s] l) := Lib.hid (by unfold rMissing; rw [if_neg he])
    have HI := Lib.hid (one_in (by omega) hs)
    clear he hs
    go_enter Tryz.func71, Tryz.ntmps71
    go_wp2_with (first
      | (go_at_call 70; refine (rempty_is s false _ HE.out).mono ?_; rintro e w' ⟨rfl, hxl⟩; obtain ⟨xl, rfl⟩ := hxl.asLater; clear hxl)
      | (go_at_call 111; refine (rminus_any _ _ [s] A c l _ HI.out hll ((own_lit1 _ (w.heap.size + 1) _ s (by first | omega | (simp [later_size, setCells_size]; done) | (simp [later_size, setCells_size]; omega)) (by first | omega | (simp [later_size, setCells_size]; done) | (simp [later_size, setCells_size]; omega))).reads spE) (HR.out.on (by (repeat (first | with_reducible exact Ext.refl _ | with_reducible exact Ext.refl _ | with_reducible refine Ext.drew ?_ | with_reducible refine Ext.drewN ?_ _ | with_reducible refine Ext.alloc ?_ _ | with_reducible refine Ext.onto ?_ _ | (with_reducible refine Ext.setCells ?_ ?_ _ _; rotate_left; focus (first | omega | (simp; done) | (simp; omega))) | (with_reducible refine Ext.setCell ?_ ?_ _; rotate_left; focus (first | omega | (simp; done) | (simp; omega))))))) (fun h => by cases h)).mono ?_; rintro e w4 ⟨A4, c4, l4, rfl, HL4, ho4, hx4⟩; have HO4 := Lib.hid ho4; have HX4 := Lib.hid hx4; clear ho4 hx4))
    go_ret
    exact ⟨A4, c4, l4, rfl, Lib.hid (HL4.out.trans HL.out.symm), HO4.out.lower (by first | omega | (simp [later_size, setCells_size]; done) | (simp [later_size, setCells_size]; omega)), (show Ext w _ from (by (repeat (first | with_reducible exact Ext.refl _ | with_reducible exact Ext.refl _ | with_reducible refine Ext.drew ?_ | with_reducible refine Ext.drewN ?_ _ | with_reducible refine Ext.alloc ?_ _ | with_reducible refine Ext.onto ?_ _ | (with_reducible refine Ext.setCells ?_ ?_ _ _; rotate_left; focus (first | omega | (simp; done) | (simp; omega))) | (with_reducible refine Ext.setCell ?_ ?_ _; rotate_left; focus (first | omega | (simp; done) | (simp; omega))))))).trans HX4.out⟩
def rCoversB (l : List Sp) (s : Sp) : Bool := decide ((rMissing l s).length = 0)
theorem rcovers_any (A : Option Addr) (c : Nat) (l : List Sp) (s : Sp) (w : World) (hs : OkSp s) (hll : l.length ≤ 140737488340000) (hr : ReadsSp w w.heap.size A l) :
    Calls Tryz.prog 32 #[.slice A l.length c, .agg #[.int .i64 s.1, .int .i64 s.2]] w fun e' w' => e' = .returned (.bool (rCoversB l s)) ∧ Ext w w' := by
  have HR := Lib.hid hr
  have HS := Lib.hid hs
  clear hr hs
  go_enter Tryz.func32, Tryz.ntmps32
  go_wp2_with (go_at_call 71; refine (rmissing_any A c l s _ HS.out hll (HR.out.on (by (repeat (first | with_reducible exact Ext.refl _ | with_reducible exact Ext.refl _ | with_reducible refine Ext.drew ?_ | with_reducible refine Ext.drewN ?_ _ | with_reducible refine Ext.alloc ?_ _ | with_reducible refine Ext.onto ?_ _ | (with_reducible refine Ext.setCells ?_ ?_ _ _; rotate_left; focus (first | omega | (simp; done) | (simp; omega))) | (with_reducible refine Ext.setCell ?_ ?_ _; rotate_left; focus (first | omega | (simp; done) | (simp; omega)))))))).mono ?_; rintro e w4 ⟨A4, c4, l4, rfl, HL4, ho4, hx4⟩; obtain ⟨x4, rfl⟩ := hx4.asLater; clear ho4 hx4)
  go_ret
  refine ⟨ret_bool ?_, (by (repeat (first | with_reducible exact Ext.refl _ | with_reducible exact Ext.refl _ | with_reducible refine Ext.drew ?_ | with_reducible refine Ext.drewN ?_ _ | with_reducible refine Ext.alloc ?_ _ | with_reducible refine Ext.onto ?_ _ | (with_reducible refine Ext.setCells ?_ ?_ _ _; rotate_left; focus (first | omega | (simp; done) | (simp; omega))) | (with_reducible refine Ext.setCell ?_ ?_ _; rotate_left; focus (first | omega | (simp; done) | (simp; omega))))))⟩
  rw [rCoversB, ← HL4.out, Bool.eq_iff_iff, beq_iff_eq, decide_eq_true_eq]
  omega
theorem rCovers_spec (l : List Sp) (s : Sp) : coversB l s (rCoversB l s) := empty_covers (rMissing_spec l s)
end Go.Proofs.YtpjacgcaibaggaaGreatDoor

namespace Go.Proofs.YtpjacgcaibaggaaGreatDoor
open Go.RowKit Go.Shelf
open Go.Proofs
open Go.Proofs.Sp (Sp)

theorem fold_snoc (l : List Sp) (s : Sp) (k : Nat) (h : k < l.length) : (l.take (k + 1)).foldl Sp.addStep ⟨[], s, false⟩ = Sp.addStep ((l.take k).foldl Sp.addStep ⟨[], s, false⟩) l[k] := by
  rw [List.take_succ_eq_append_getElem h, List.foldl_append]
  rfl
def RAddRel (w : World) (s : Sp) (l : List Sp) (i v p : Value) (wr : World) : Prop := ∃ (k : Nat) (A' : Option Addr) (c' : Nat) (out : List Sp) (a b : Int) (put : Bool), k ≤ l.length ∧ i = .int .i64 k ∧ v = .slice A' out.length c' ∧ p = .bool put ∧ out.length ≤ k * 2 ∧ Hid ((l.take k).foldl Sp.addStep ⟨[], s, false⟩ = ⟨out, (a, b), put⟩) ∧ Hid (OwnsSp (w.heap.size + 1) wr A' c' out) ∧ Hid (Ext w wr) ∧ Hid (RowAt wr w.heap.size #[.int .i64 a, .int .i64 b])
set_option maxRecDepth 100000 in
set_option maxHeartbeats 1000000 in
theorem radd_any (A : Option Addr) (c : Nat) (l : List Sp) (s : Sp) (w : World) (hlen : l.length * 32 ≤ 140737488350000) (hr : ReadsSp w w.heap.size A l) (z : A = none → c = 0) :
    Calls Tryz.prog 31 #[.slice A l.length c, .agg #[.int .i64 s.1, .int .i64 s.2]] w fun e' w' => ∃ A' c' out, e' = .returned (.slice A' out.length c') ∧ Hid (out = Sp.rAdd l s) ∧ OwnsSp w.heap.size w' A' c' out ∧ Ext w w' := by
  have HR := Lib.hid hr
  have HZ := Lib.hid z
  clear hr z
  by_cases he : s.2 ≤ s.1
  · have HE : Hid (emptyB s = true) := Lib.hid (by simpa [emptyB] using he)
    have HL : Hid (Sp.rAdd l s = l) := Lib.hid (by unfold Sp.rAdd; rw [if_pos he])
    clear he
    go_enter Tryz.func31, Tryz.ntmps31
    go_wp2_with (first
      | (go_at_call 70; refine (rempty_is s true _ HE.out).mono ?_; rintro e w' ⟨rfl, hxl⟩; obtain ⟨xl, rfl⟩ := hxl.asLater; clear hxl)
      | (at_builtin; refine app_reads spT spE rfl _ _ rfl (w.heap.size + 1) _ _ [] rfl (own_lit0 _ _ _ (by first | omega | (simp [later_size, setCells_size]; done) | (simp [later_size, setCells_size]; omega)) (by first | omega | (simp [later_size, setCells_size]; done) | (simp [later_size, setCells_size]; omega))) w.heap.size A c l rfl (HR.out.ext (by (repeat (first | with_reducible exact Ext.refl _ | with_reducible exact Ext.refl _ | with_reducible refine Ext.drew ?_ | with_reducible refine Ext.drewN ?_ _ | with_reducible refine Ext.alloc ?_ _ | with_reducible refine Ext.onto ?_ _ | (with_reducible refine Ext.setCells ?_ ?_ _ _; rotate_left; focus (first | omega | (simp; done) | (simp; omega))) | (with_reducible refine Ext.setCell ?_ ?_ _; rotate_left; focus (first | omega | (simp; done) | (simp; omega)))))) (Nat.le_refl _)) HZ.out (by simp; omega) (by simp; omega) (by first | omega | (simp [later_size, setCells_size]; done) | (simp [later_size, setCells_size]; omega)) ?_; intro A2 c2 l2 w2 HL2 HO2 hB hl1 hl2 _; have HO2' := Lib.hid HO2; have HB2 := Lib.hid hB; clear HO2 hB))
    go_ret
    exact ⟨A2, c2, l2, rfl, Lib.hid (by rw [HL2.out, HL.out, List.nil_append]), HO2'.out.lower (by omega), (show Ext w _ from (by (repeat (first | with_reducible exact Ext.refl _ | with_reducible exact Ext.refl _ | with_reducible refine Ext.drew ?_ | with_reducible refine Ext.drewN ?_ _ | with_reducible refine Ext.alloc ?_ _ | with_reducible refine Ext.onto ?_ _ | (with_reducible refine Ext.setCells ?_ ?_ _ _; rotate_left; focus (first | omega | (simp; done) | (simp; omega))) | (with_reducible refine Ext.setCell ?_ ?_ _; rotate_left; focus (first | omega | (simp; done) | (simp; omega))))))).grown HB2.out (by omega)⟩
  · have HE : Hid (emptyB s = false) := Lib.hid (by simp [emptyB]; omega)
    have HL : Hid (Sp.rAdd l s = Sp.addEnd (l.foldl Sp.addStep ⟨[], s, false⟩)) := Lib.hid (by unfold Sp.rAdd; rw [if_neg he])
    clear he
    obtain ⟨s1, s2⟩ := s
    go_enter Tryz.func31, Tryz.ntmps31
    go_wp2_with (go_at_call 70; refine (rempty_is (s1, s2) false _ HE.out).mono ?_; rintro e w' ⟨rfl, hxl⟩; obtain ⟨xl, rfl⟩ := hxl.asLater; clear hxl)
    go_loopw [7, 5, 6] (RAddRel w (s1, s2) l) (fun i _ _ _ => l.length - (intOf i).toNat)
    case atStart => exact ⟨0, none, 0, [], s1, s2, false, Nat.zero_le _, rfl, rfl, rfl, Nat.le_refl _, Lib.hid rfl, Lib.hid (Owns.nil _ _ _ _ _), Lib.hid (by (repeat (first | with_reducible exact Ext.refl _ | with_reducible exact Ext.refl _ | with_reducible refine Ext.drew ?_ | with_reducible refine Ext.drewN ?_ _ | with_reducible refine Ext.alloc ?_ _ | with_reducible refine Ext.onto ?_ _ | (with_reducible refine Ext.setCells ?_ ?_ _ _; rotate_left; focus (first | omega | (simp; done) | (simp; omega))) | (with_reducible refine Ext.setCell ?_ ?_ _; rotate_left; focus (first | omega | (simp; done) | (simp; omega)))))), Lib.hid (by (repeat (first | with_reducible exact RowAt.new _ _ _ | with_reducible refine RowAt.drew ?_ | with_reducible refine RowAt.later ?_ _ | with_reducible exact RowAt.newAt (by first | rfl | omega | (simp [later_size, setCells_size]; done) | (simp [later_size, setCells_size]; omega)) | with_reducible refine RowAt.alloc ?_ _ | with_reducible apply RowAt.store | with_reducible refine RowAt.others ?_ ?_ _ _ | with_reducible refine RowAt.other ?_ ?_ _)); all_goals first | omega | (simp; done) | (simp; omega) | (simp [go_sem]; done))⟩
    case round =>
      obtain ⟨k, A', c', out, a, b, put, hk, rfl, rfl, rfl, hol, HO, HOw, HX, HRow⟩ := hrel
      have hsz := HX.out.size
      have hlw := HRow.out.lt
      have z1 : wr.cell? ⟨w.heap.size, 0, none⟩ = some (.int .i64 a) := HRow.out.cell 0
      have z2 : wr.cell? ⟨w.heap.size, 1, none⟩ = some (.int .i64 b) := HRow.out.cell 1
      have f1 : wr.frozen? ⟨w.heap.size, 0, none⟩ = false := HRow.out.free 0
      have f2 : wr.frozen? ⟨w.heap.size, 1, none⟩ = false := HRow.out.free 1
      by_cases hlt : k < l.length
      · obtain ⟨bb, off, rfl, hb, y1, y2⟩ := ReadsSp.cell (HR.out.ext HX.out (Nat.le_refl _)) k hlt
        have HJ := Lib.hid (fold_snoc l (s1, s2) k hlt)
        rw [HO.out] at HJ
        generalize l[k] = t at *
        obtain ⟨t1, t2⟩ := t
        simp only [] at y1 y2
        by_cases c1 : t2 < a
        · have HJ2 : Hid ((l.take (k + 1)).foldl Sp.addStep ⟨[], (s1, s2), false⟩ = ⟨out ++ [(t1, t2)], (a, b), put⟩) := Lib.hid (by rw [HJ.out, Sp.addStep, if_pos c1])
          have d1 : decide (t2 < a) = true := by simpa using c1
          clear c1
          go_wp2
          refine wp_region_later (by kernel_rfl) (by kernel_rfl) ?_
          repeat (first | go_big_quiet_step (fail) | quiet_step (fail))
          refine wpQuiet_nil ?_
          rintro _ ⟨xq, rfl⟩
          go_wp2_with (first
            | (at_builtin; refine app_from spT spE rfl _ _ rfl (w.heap.size + 1) A' c' out rfl ((HOw.out.later _).alloc _) _ 1 _ [(t1, t2)] rfl rfl (new_cellsAt (by first | omega | (simp [later_size, setCells_size]; done) | (simp [later_size, setCells_size]; omega)) _ _) (by omega) (by omega) (by first | omega | (simp [later_size, setCells_size]; done) | (simp [later_size, setCells_size]; omega)) ?_; intro A2 c2 l2 w2 HLl2 HOl2 hBl2 hlal2 hlbl2 hgbl2; have HOOl2 := Lib.hid HOl2; have HBBl2 := Lib.hid hBl2; have hszl2 := hBl2.size; skip; clear HOl2 hBl2 hgbl2))
          go_roundw
          case rel => exact ⟨k + 1, A2, c2, l2, a, b, put, by omega, by go_num, rfl, rfl, by omega, Lib.hid (by rw [HLl2.out]; exact HJ2.out), HOOl2, Lib.hid ((show Ext w _ from ((HX.out.onto _).alloc _)).grown HBBl2.out (by omega)), Lib.hid (((HRow.out.later _).alloc _).below HBBl2.out (by omega))⟩
          case measure => simp [intOf]; omega
        · have d1 : decide (t2 < a) = false := by simpa using c1
          by_cases c2 : b < t1
          · have d2 : decide (b < t1) = true := by simpa using c2
            cases put with
            | true =>
              have HJ2 : Hid ((l.take (k + 1)).foldl Sp.addStep ⟨[], (s1, s2), false⟩ = ⟨out ++ [(t1, t2)], (a, b), true⟩) := Lib.hid (by rw [HJ.out, Sp.addStep, if_neg c1, if_pos c2]; rfl)
              clear c1 c2
              go_wp2
              refine wp_region_later (by kernel_rfl) (by kernel_rfl) ?_
              repeat (first | go_big_quiet_step (fail) | quiet_step (fail))
              refine wpQuiet_nil ?_
              rintro _ ⟨xq, rfl⟩
              go_wp2
              refine wp_region_later (by kernel_rfl) (by kernel_rfl) ?_
              repeat (first | go_big_quiet_step (fail) | quiet_step (fail))
              refine wpQuiet_nil ?_
              rintro _ ⟨xq, rfl⟩
              go_wp2_with (first
                | (at_builtin; refine app_from spT spE rfl _ _ rfl (w.heap.size + 1) A' c' out rfl ((HOw.out.later _).alloc _) _ 1 _ [(t1, t2)] rfl rfl (new_cellsAt (by first | omega | (simp [later_size, setCells_size]; done) | (simp [later_size, setCells_size]; omega)) _ _) (by omega) (by omega) (by first | omega | (simp [later_size, setCells_size]; done) | (simp [later_size, setCells_size]; omega)) ?_; intro A2 c2 l2 w2 HLl2 HOl2 hBl2 hlal2 hlbl2 hgbl2; have HOOl2 := Lib.hid HOl2; have HBBl2 := Lib.hid hBl2; have hszl2 := hBl2.size; skip; clear HOl2 hBl2 hgbl2))
              go_roundw
              case rel => exact ⟨k + 1, A2, c2, l2, a, b, true, by omega, by go_num, rfl, rfl, by omega, Lib.hid (by rw [HLl2.out]; exact HJ2.out), HOOl2, Lib.hid ((show Ext w _ from ((HX.out.onto _).alloc _)).grown HBBl2.out (by omega)), Lib.hid (((HRow.out.later _).alloc _).below HBBl2.out (by omega))⟩
              case measure => simp [intOf]; omega
            | false =>
              have HJ2 : Hid ((l.take (k + 1)).foldl Sp.addStep ⟨[], (s1, s2), false⟩ = ⟨(out ++ [(a, b)]) ++ [(t1, t2)], (a, b), true⟩) := Lib.hid (by rw [HJ.out, Sp.addStep, if_neg c1, if_pos c2]; rfl)
              clear c1 c2
              go_wp2
              refine wp_region_later (by kernel_rfl) (by kernel_rfl) ?_
              repeat (first | go_big_quiet_step (fail) | quiet_step (fail))
              refine wpQuiet_nil ?_
              rintro _ ⟨xq, rfl⟩
              go_wp2
              refine wp_region_later (by kernel_rfl) (by kernel_rfl) ?_
              repeat (first | go_big_quiet_step (fail) | quiet_step (fail))
              refine wpQuiet_nil ?_
              rintro _ ⟨xq, rfl⟩
              go_wp2_with (first
                | (at_builtin; refine app_from spT spE rfl _ _ rfl (w.heap.size + 1) A2 c2 l2 rfl (HOOl2.out.alloc _) _ 1 _ [(t1, t2)] rfl rfl (new_cellsAt (by first | omega | (simp [later_size, setCells_size]; done) | (simp [later_size, setCells_size]; omega)) _ _) (by omega) (by omega) (by first | omega | (simp [later_size, setCells_size]; done) | (simp [later_size, setCells_size]; omega)) ?_; intro A3 c3 l3 w3 HLl3 HOl3 hBl3 hlal3 hlbl3 hgbl3; have HOOl3 := Lib.hid HOl3; have HBBl3 := Lib.hid hBl3; have hszl3 := hBl3.size; skip; clear HOl3 hBl3 hgbl3)
                | (at_builtin; refine app_from spT spE rfl _ _ rfl (w.heap.size + 1) A' c' out rfl ((HOw.out.later _).alloc _) _ 1 _ [(a, b)] rfl rfl (new_cellsAt (by first | omega | (simp [later_size, setCells_size]; done) | (simp [later_size, setCells_size]; omega)) _ _) (by omega) (by omega) (by first | omega | (simp [later_size, setCells_size]; done) | (simp [later_size, setCells_size]; omega)) ?_; intro A2 c2 l2 w2 HLl2 HOl2 hBl2 hlal2 hlbl2 hgbl2; have HOOl2 := Lib.hid HOl2; have HBBl2 := Lib.hid hBl2; have hszl2 := hBl2.size; have v1 : w2.cell? ⟨bb, off + k * 2, none⟩ = some (.int .i64 t1) := (hBl2.cell (p := ⟨bb, off + k * 2, none⟩) (by show bb < w.heap.size + 1; omega)).trans (((((ext_later wr _).alloc _)).cell (p := ⟨bb, off + k * 2, none⟩) (by show bb < wr.heap.size; omega)).trans y1); have v2 : w2.cell? ⟨bb, off + k * 2 + 1, none⟩ = some (.int .i64 t2) := (hBl2.cell (p := ⟨bb, off + k * 2 + 1, none⟩) (by show bb < w.heap.size + 1; omega)).trans (((((ext_later wr _).alloc _)).cell (p := ⟨bb, off + k * 2 + 1, none⟩) (by show bb < wr.heap.size; omega)).trans y2); have hw2s : w.heap.size + 1 ≤ w2.heap.size := Nat.le_trans (by first | omega | (simp [later_size, setCells_size]; done) | (simp [later_size, setCells_size]; omega)) hBl2.size; clear HOl2 hBl2 hgbl2))
              go_roundw
              case rel => exact ⟨k + 1, A3, c3, l3, a, b, true, by omega, by go_num, rfl, rfl, by omega, Lib.hid (by rw [HLl3.out, HLl2.out]; exact HJ2.out), HOOl3, Lib.hid ((show Ext w _ from (((show Ext w _ from ((HX.out.onto _).alloc _)).grown HBBl2.out (by omega)).alloc _)).grown HBBl3.out (by omega)), Lib.hid (((((HRow.out.later _).alloc _).below HBBl2.out (by omega)).alloc _).below HBBl3.out (by omega))⟩
              case measure => simp [intOf]; omega
          · have d2 : decide (b < t1) = false := by simpa using c2
            have HJ2 : Hid ((l.take (k + 1)).foldl Sp.addStep ⟨[], (s1, s2), false⟩ = ⟨out, (min a t1, max b t2), put⟩) := Lib.hid (by rw [HJ.out, Sp.addStep, if_neg c1, if_neg c2])
            have hm1 : (if t1 < a then t1 else a) = min a t1 := by split <;> omega
            have hm2 : (if b < t2 then t2 else b) = max b t2 := by split <;> omega
            clear c1 c2
            go_wp2
            refine wp_region_later (by kernel_rfl) (by kernel_rfl) ?_
            repeat (first | go_big_quiet_step (fail) | quiet_step (fail))
            refine wpQuiet_nil ?_
            rintro _ ⟨xq, rfl⟩
            go_wp2
            refine wp_region_later (by kernel_rfl) (by kernel_rfl) ?_
            repeat (first | go_big_quiet_step (fail) | quiet_step (fail))
            refine wpQuiet_nil ?_
            rintro _ ⟨xq, rfl⟩
            go_wp2
            refine wp_region_later_tail 9 (by kernel_rfl) (by kernel_rfl) ?_
            simp only [List.take_succ_cons, List.take_zero, List.drop_succ_cons, List.drop_zero]
            repeat (first | go_big_quiet_step (fail) | quiet_step (fail))
            refine wpQuiet_nil ?_
            rintro _ ⟨xq, rfl⟩
            go_wp2
            refine wp_world (fun W => Ext w W ∧ RowAt W w.heap.size #[.int .i64 (min a t1), .int .i64 b] ∧ OwnsSp (w.heap.size + 1) W A' c' out ∧ wr.heap.size ≤ W.heap.size ∧ W.cell? ⟨bb, off + k * 2, none⟩ = some (.int .i64 t1) ∧ W.cell? ⟨bb, off + k * 2 + 1, none⟩ = some (.int .i64 t2)) ⟨Ext.setCell (((HX.out.onto _).onto _).onto _) (p := ⟨w.heap.size, 0, none⟩) (Nat.le_refl _) _, (((HRow.out.later _).later _).later _).set 0 _, ((((HOw.out.later _).later _).later _)).other (p := ⟨w.heap.size, 0, none⟩) (by show w.heap.size < w.heap.size + 1; omega) _, by simp [World.setCell, later_size] <;> omega, by simp [go_sem, ↓IntWalk.iteOmega, y1], by simp [go_sem, ↓IntWalk.iteOmega, y2]⟩ ?_
            rintro W ⟨hxW, hrW, hoW, hsW, y1', y2'⟩
            have HXW := Lib.hid hxW
            have HRW := Lib.hid hrW
            have HOW := Lib.hid hoW
            have z1' : W.cell? ⟨w.heap.size, 0, none⟩ = some (.int .i64 (min a t1)) := hrW.cell 0
            have z2' : W.cell? ⟨w.heap.size, 1, none⟩ = some (.int .i64 b) := hrW.cell 1
            have f1' : W.frozen? ⟨w.heap.size, 0, none⟩ = false := hrW.free 0
            have f2' : W.frozen? ⟨w.heap.size, 1, none⟩ = false := hrW.free 1
            clear hxW hrW hoW y1 y2 z1 z2 f1 f2
            refine wp_region_later_tail 9 (by kernel_rfl) (by kernel_rfl) ?_
            simp only [List.take_succ_cons, List.take_zero, List.drop_succ_cons, List.drop_zero]
            repeat (first | go_big_quiet_step (fail) | quiet_step (fail))
            refine wpQuiet_nil ?_
            rintro _ ⟨xq, rfl⟩
            go_wp2
            go_roundw
            case rel => exact ⟨k + 1, A', c', out, min a t1, max b t2, put, by omega, by go_num, rfl, rfl, by omega, HJ2, Lib.hid ((HOW.out.later _).other (p := ⟨w.heap.size, 1, none⟩) (by show w.heap.size < w.heap.size + 1; omega) _), Lib.hid (Ext.setCell (HXW.out.onto _) (p := ⟨w.heap.size, 1, none⟩) (Nat.le_refl _) _), Lib.hid ((HRW.out.later _).set 1 _)⟩
            case measure => simp [intOf]; omega
      · have e : k = l.length := by omega
        subst e
        rw [List.take_length] at HO
        cases put with
        | true =>
          have HF : Hid (Sp.rAdd l (s1, s2) = out) := Lib.hid (by rw [HL.out, HO.out]; rfl)
          go_wp2
          go_ret
          exact ⟨A', c', out, rfl, Lib.hid HF.out.symm, HOw.out.lower (by omega), HX.out⟩
        | false =>
          have HF : Hid (Sp.rAdd l (s1, s2) = out ++ [(a, b)]) := Lib.hid (by rw [HL.out, HO.out]; rfl)
          go_wp2_with (first
            | (at_builtin; refine app_from spT spE rfl _ _ rfl (w.heap.size + 1) A' c' out rfl (HOw.out.alloc _) _ 1 _ [(a, b)] rfl rfl (new_cellsAt (by first | omega | (simp [later_size, setCells_size]; done) | (simp [later_size, setCells_size]; omega)) _ _) (by omega) (by omega) (by first | omega | (simp [later_size, setCells_size]; done) | (simp [later_size, setCells_size]; omega)) ?_; intro A2 c2 l2 w2 HLl2 HOl2 hBl2 hlal2 hlbl2 hgbl2; have HOOl2 := Lib.hid HOl2; have HBBl2 := Lib.hid hBl2; have hszl2 := hBl2.size; skip; clear HOl2 hBl2 hgbl2))
          go_ret
          exact ⟨A2, c2, l2, rfl, Lib.hid (HLl2.out.trans HF.out.symm), HOOl2.out.lower (by omega), (show Ext w _ from HX.out.alloc _).grown HBBl2.out (by omega)⟩
end Go.Proofs.YtpjacgcaibaggaaGreatDoor

namespace Go.Proofs.YtpjacgcaibaggaaGreatDoor
open Go.RowKit Go.Shelf
open Go.Proofs
open Go.Proofs.Sp (Sp)

/-! ### What the specification returns: an entry, and an error -/
def gotC (e : En) (n : Int) : Array Value := (stmL e.st ++ [.bool e.soft, e.hv, .string e.bytes, .bool e.whole, .int .i64 n]).toArray
theorem got_size (e : En) (n : Int) : (gotC e n).size = 46 := rfl
theorem got_all (e : En) (n : Int) : rowSub (gotC e n) 0 46 = some (gotC e n) := rowSub_all _ _ rfl
theorem got_ent (e : En) (n : Int) : rowSub (gotC e n) 0 45 = some (entC e) := by kernel_rfl
theorem got_g45 (e : En) (n : Int) : (gotC e n)[45]? = some (.int .i64 n) := rfl
theorem got_fits (s : St) (soft : Bool) (A : Option Addr) (k c : Nat) (b : ByteArray) (wh : Bool) (n : Int) : fitsRow 46 (gotC ⟨s, soft, .slice A k c, b, wh⟩ n) = true := by kernel_rfl
theorem got_fits_of {e : En} {A : Option Addr} {k c : Nat} (n : Int) (h : e.hv = .slice A k c) : fitsRow 46 (gotC e n) = true := by
  obtain ⟨a, b, v, d, f⟩ := e
  obtain rfl : v = .slice A k c := h
  exact got_fits _ _ _ _ _ _ _ _
attribute [go_sem] got_size got_all got_ent got_g45 got_fits
theorem got_stored {w : World} {b : Nat} {cs : Array Value} {e : En} {n : Int} (h : RowAt w b cs) (hn : cs.size = 46) : rowOf (w.setCells b 0 (gotC e n).toList) b 0 46 = some (gotC e n) := h.stored (n := 46) (by rw [hn, got_size]) (got_size _ _).symm (by omega)

/-! ### Zeros, None -/
theorem reads_made (w : World) (n : Nat) : ReadsB (w.alloc (.cells (madeCells (Value.int .u8 0).cells n) 5)) (w.heap.size + 1) (some ⟨w.heap.size, 0, none⟩) (List.replicate n 0) := by
  intro h0
  refine ⟨w.heap.size, 0, rfl, by omega, fun i hi j v hv => ?_⟩
  have hj : j = 0 := by
    have := (List.getElem?_eq_some_iff.1 hv).1
    simp [encB] at this; omega
  subst hj
  rw [List.length_replicate] at hi
  simp only [encB, List.getElem_replicate, List.getElem?_cons_zero, Option.some.injEq] at hv
  subst hv
  rw [alloc_cell_if, if_pos rfl]
  simp [madeCells, hi, Value.cells, Nat.mod_one]
theorem zb_nums (n : Nat) : strOfNums (List.replicate n 0) = zb n := by
  apply bts_inj
  rw [bts_zb, bts_nums]
  intro x hx
  have := List.eq_of_mem_replicate hx
  omega
theorem conv_empty (a : Option Addr) (c : Nat) (W : World) : (convert 118 9 (.slice a 0 c)).run Tryz.prog W = .ok (.string (strOfNums (List.replicate 0 0))) W := by
  cases a <;> kernel_rfl
theorem u8info : (Tryz.prog.info? 5).map (fun i => (i.zero, i.size, i.bytes)) = some (some (.int .u8 0), 1, 1) := by kernel_rfl
theorem row46 {w : World} {b : Nat} {cs : Array Value} {e : En} {n : Int} (h : RowAt w b cs) (hn : cs.size = 46) : RowAt (w.setCells b 0 (gotC e n).toList) b (gotC e n) := h.store (by rw [hn, got_size])
def beginN (s : St) : En × Int :=
  if rightB s = false then (noEn, 1) else if 65536 < s.size then (noEn, 2) else if s.size = 0 ∧ s.body ≠ Wire.digest 34 [[]] then (noEn, 8) else (emptyEn s false, 0)
theorem neq_dig2 {a b : List Int} (ha : a.length = 16) (hb : b.length = 16) (ba : Byt a) (bb : Byt b) (W : World) : (binOp .neq 24 (.agg (dgC a)) (.agg (cells8 b))).run Tryz.prog W = .ok (.bool (!(decide (a = b)))) W := by
  rw [dgC_cells ha, ← dgC_cells hb]; exact neq_dig ha hb ba bb W
theorem rdigest_e (D : List Int) (w : World) (hk : RKonst w) (h : Wire.digest 34 [[]] = D) :
    Calls Tryz.prog 29 #[.string ⟨#[]⟩] w fun e w' => e = .returned (.agg (cells8 D)) ∧ Ext w w' := rdigest_is ⟨#[]⟩ D w hk (by decide) h
theorem nofits : fitsRow 46 (gotC noEn 0) = true := got_fits_of 0 rfl
theorem nofits_n (n : Int) : fitsRow 46 (gotC noEn n) = true := got_fits_of n rfl
attribute [local go_sem] nofits_n
theorem plainA_none : plainA none := fun a h => (by cases h)
/-- What settled returns: the slice that came in, or none. -/
def SetlIs (r : Res) (A : Option Addr) (c : Nat) (l : List Sp) (e' : Ending) (w w' : World) : Prop := ∃ A' c', e' = .returned (.agg (gotC { r.e with hv := .slice A' r.l.length c' } r.n)) ∧ (A' = none ∧ c' = 0 ∧ r.l = [] ∨ A' = A ∧ c' = c ∧ r.l = l) ∧ Ext w w'
/-- What Put returns. -/
def GotIs (r : Res) (n : Int) (e' : Ending) (w w' : World) : Prop := ∃ A c, e' = .returned (.agg (gotC { r.e with hv := .slice A r.l.length c } n)) ∧ plainA A ∧ (A = none → c = 0) ∧ ReadsSp w' w'.heap.size A r.l ∧ Ext w w'
end Go.Proofs.YtpjacgcaibaggaaGreatDoor

namespace Go.Proofs.YtpjacgcaibaggaaGreatDoor
open Go.RowKit Go.Shelf
open Go.Proofs
open Go.Proofs.Sp (Sp)

theorem got_row {w : World} {b : Nat} {e : En} {n : Int} (h : RowAt w b (gotC e n)) : rowOf w b 0 46 = some (gotC e n) := h.all (got_size _ _).symm (by omega)
theorem settle_same (e : En) (v : Value) (b' b : ByteArray) (l : List Sp) : (settleN ⟨e.st, e.soft, v, b', e.whole⟩ l b).l = (settleN e l b).l ∧ (settleN ⟨e.st, e.soft, v, b', e.whole⟩ l b).n = (settleN e l b).n ∧ ∀ u, ({ (settleN ⟨e.st, e.soft, v, b', e.whole⟩ l b).e with hv := u } : En) = { (settleN e l b).e with hv := u } := by
  unfold settleN
  split
  · split
    · exact ⟨rfl, rfl, fun _ => rfl⟩
    · exact ⟨rfl, rfl, fun _ => rfl⟩
  · exact ⟨rfl, rfl, fun _ => rfl⟩
theorem hv_same {e : En} {v : Value} (h : e.hv = v) : ({ e with hv := v } : En) = e := by subst h; rfl
theorem cat_len {b x : ByteArray} {p : Nat} (h : p + x.size ≤ b.size) : (b.extract 0 p ++ x).size = p + x.size := by
  rw [ByteArray.size_append, extract_sz (by omega)]; omega
end Go.Proofs.YtpjacgcaibaggaaGreatDoor
