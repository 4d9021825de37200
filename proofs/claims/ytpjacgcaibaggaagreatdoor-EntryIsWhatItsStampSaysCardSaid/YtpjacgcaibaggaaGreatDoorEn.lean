/- Stamps and entries as rows of cells. -/
import Derived.Test.YtpjacgcaibaggaaGreatDoorProg
import Derived.Test.YtpjacgcaibaggaaGreatDoorExt
import Derived.WalkKit
import Derived.WalkSpells
import Derived.WalkLawsBesides
import Derived.Deep.QuietTactic
import Derived.BigQuiet
import Derived.Test.YtpjacgcaibaggaaGreatDoorRhd
set_option linter.unusedVariables false
set_option linter.unusedSimpArgs false
namespace Go.Proofs.YtpjacgcaibaggaaGreatDoor
open Go.RowKit
open Go.Proofs

/-- A stamp. -/
structure St where
  (addr var : ByteArray)
  (status size : Int)
  body : List Int
  tags : ByteArray
  (lo hi gate serial : Int)
  seal_ : List Int
/-- An entry; 'hv': the slice of what it has. -/
structure En where
  st : St
  soft : Bool
  hv : Value
  bytes : ByteArray
  whole : Bool
def dgC (l : List Int) : Array Value := #[.int .u8 (l.getD 0 0), .int .u8 (l.getD 1 0), .int .u8 (l.getD 2 0), .int .u8 (l.getD 3 0), .int .u8 (l.getD 4 0), .int .u8 (l.getD 5 0), .int .u8 (l.getD 6 0), .int .u8 (l.getD 7 0), .int .u8 (l.getD 8 0), .int .u8 (l.getD 9 0), .int .u8 (l.getD 10 0), .int .u8 (l.getD 11 0), .int .u8 (l.getD 12 0), .int .u8 (l.getD 13 0), .int .u8 (l.getD 14 0), .int .u8 (l.getD 15 0)]
def stmL (s : St) : List Value := [.string s.addr, .string s.var, .int .i64 s.status, .int .i64 s.size] ++ (dgC s.body).toList ++ [.string s.tags, .int .i64 s.lo, .int .i64 s.hi, .int .i64 s.gate, .int .i64 s.serial] ++ (dgC s.seal_).toList
def stmC (s : St) : Array Value := (stmL s).toArray
def entC (e : En) : Array Value := (stmL e.st ++ [.bool e.soft, e.hv, .string e.bytes, .bool e.whole]).toArray
def noSt : St := ⟨ByteArray.empty, ByteArray.empty, 0, 0, zeros32 16, ByteArray.empty, 0, 0, 0, 0, zeros32 16⟩
def noEn : En := ⟨noSt, false, .slice none 0 0, ByteArray.empty, false⟩
theorem dgC_cells {l : List Int} (h : l.length = 16) : dgC l = cells8 l := by
  match l, h with
  | [_, _, _, _, _, _, _, _, _, _, _, _, _, _, _, _], _ => rfl
theorem stm_size (s : St) : (stmC s).size = 41 := rfl
theorem ent_size (e : En) : (entC e).size = 45 := rfl
theorem ent_all (e : En) : rowSub (entC e) 0 45 = some (entC e) := rowSub_all _ _ rfl
theorem stm_all (s : St) : rowSub (stmC s) 0 41 = some (stmC s) := rowSub_all _ _ rfl
theorem ent_stm (e : En) : rowSub (entC e) 0 41 = some (stmC e.st) := by kernel_rfl
theorem ent_body (e : En) : rowSub (entC e) 4 16 = some (dgC e.st.body) := by kernel_rfl
theorem stm_body (s : St) : rowSub (stmC s) 4 16 = some (dgC s.body) := by kernel_rfl
theorem stm_seal (s : St) : rowSub (stmC s) 25 16 = some (dgC s.seal_) := by kernel_rfl
theorem stm_at (s : St) : rowSub (stmC s) 21 2 = some #[.int .i64 s.lo, .int .i64 s.hi] := by kernel_rfl
theorem stm_g0 (s : St) : (stmC s)[0]? = some (.string s.addr) := rfl
theorem ent_g0 (e : En) : (entC e)[0]? = some (.string e.st.addr) := rfl
theorem stm_g1 (s : St) : (stmC s)[1]? = some (.string s.var) := rfl
theorem ent_g1 (e : En) : (entC e)[1]? = some (.string e.st.var) := rfl
theorem stm_g2 (s : St) : (stmC s)[2]? = some (.int .i64 s.status) := rfl
theorem ent_g2 (e : En) : (entC e)[2]? = some (.int .i64 e.st.status) := rfl
theorem stm_g3 (s : St) : (stmC s)[3]? = some (.int .i64 s.size) := rfl
theorem ent_g3 (e : En) : (entC e)[3]? = some (.int .i64 e.st.size) := rfl
theorem stm_g20 (s : St) : (stmC s)[20]? = some (.string s.tags) := rfl
theorem ent_g20 (e : En) : (entC e)[20]? = some (.string e.st.tags) := rfl
theorem stm_g21 (s : St) : (stmC s)[21]? = some (.int .i64 s.lo) := rfl
theorem ent_g21 (e : En) : (entC e)[21]? = some (.int .i64 e.st.lo) := rfl
theorem stm_g22 (s : St) : (stmC s)[22]? = some (.int .i64 s.hi) := rfl
theorem ent_g22 (e : En) : (entC e)[22]? = some (.int .i64 e.st.hi) := rfl
theorem stm_g23 (s : St) : (stmC s)[23]? = some (.int .i64 s.gate) := rfl
theorem ent_g23 (e : En) : (entC e)[23]? = some (.int .i64 e.st.gate) := rfl
theorem stm_g24 (s : St) : (stmC s)[24]? = some (.int .i64 s.serial) := rfl
theorem ent_g24 (e : En) : (entC e)[24]? = some (.int .i64 e.st.serial) := rfl
theorem ent_g41 (e : En) : (entC e)[41]? = some (.bool e.soft) := rfl
theorem ent_g42 (e : En) : (entC e)[42]? = some (e.hv) := rfl
theorem ent_g43 (e : En) : (entC e)[43]? = some (.string e.bytes) := rfl
theorem ent_g44 (e : En) : (entC e)[44]? = some (.bool e.whole) := rfl
attribute [go_sem] ent_all stm_all stm_size ent_size ent_stm ent_body stm_body stm_seal stm_at stm_g0 ent_g0 stm_g1 ent_g1 stm_g2 ent_g2 stm_g3 ent_g3 stm_g20 ent_g20 stm_g21 ent_g21 stm_g22 ent_g22 stm_g23 ent_g23 stm_g24 ent_g24 ent_g41 ent_g42 ent_g43 ent_g44
theorem stm_ty : RowTy Tryz.prog 48 41 := ⟨by kernel_rfl, by kernel_rfl⟩
theorem stm_ld (w : World) (b o : Nat) : (rowLoad 48 41 (.pointer (some ⟨b, o, none⟩))).run Tryz.prog w = rowLoadR Tryz.prog w 48 41 b o (rowOf w b o 41) := run_rowLoad stm_ty w b o
theorem stm_st (w : World) (b o : Nat) (cells : Array Value) : (rowStore 48 41 (.pointer (some ⟨b, o, none⟩)) (.agg cells)).run Tryz.prog w = rowStoreR Tryz.prog w 48 41 b o cells (roomOf w b o 41 && fitsRow 41 cells) := run_rowStore stm_ty w b o cells
theorem stm_lv (w : World) (b o : Nat) : (loadVar 48 ⟨b, o, none⟩).run Tryz.prog w = varRes Tryz.prog w 48 b o (rowOf w b o 41) := loadVar_row stm_ty w b o
theorem stm_al (w : World) : (rowAlloc 48).run Tryz.prog w = .ok (.value (.pointer (some ⟨w.heap.size, 0, none⟩))) (w.alloc (.cells (stmC noSt) 48)) := run_rowAlloc (by kernel_rfl) w
theorem stm_xl (ρ : Operand → Value) (dst : Option Tmp) (x : Operand) (t : TypeId) (pos : String) (after : Array Edge) (guard : Option (Nat × Bool)) : execOp ρ { dst, op := .load 48 x, type := t, pos, after, guard } = rowLoad 48 41 (ρ x) := rfl
theorem stm_xs (ρ : Operand → Value) (dst : Option Tmp) (x y : Operand) (t : TypeId) (pos : String) (after : Array Edge) (guard : Option (Nat × Bool)) : execOp ρ { dst, op := .store 48 x y, type := t, pos, after, guard } = rowStore 48 41 (ρ x) (ρ y) := rfl
theorem stm_xa (ρ : Operand → Value) (dst : Option Tmp) (t : TypeId) (pos : String) (after : Array Edge) (guard : Option (Nat × Bool)) : execOp ρ { dst, op := .alloc 48, type := t, pos, after, guard } = rowAlloc 48 := rfl
attribute [go_sem ↓] stm_xl stm_xs stm_xa
attribute [go_sem] stm_ld stm_st stm_al
theorem ent_ty : RowTy Tryz.prog 58 45 := ⟨by kernel_rfl, by kernel_rfl⟩
theorem ent_ld (w : World) (b o : Nat) : (rowLoad 58 45 (.pointer (some ⟨b, o, none⟩))).run Tryz.prog w = rowLoadR Tryz.prog w 58 45 b o (rowOf w b o 45) := run_rowLoad ent_ty w b o
theorem ent_st (w : World) (b o : Nat) (cells : Array Value) : (rowStore 58 45 (.pointer (some ⟨b, o, none⟩)) (.agg cells)).run Tryz.prog w = rowStoreR Tryz.prog w 58 45 b o cells (roomOf w b o 45 && fitsRow 45 cells) := run_rowStore ent_ty w b o cells
theorem ent_lv (w : World) (b o : Nat) : (loadVar 58 ⟨b, o, none⟩).run Tryz.prog w = varRes Tryz.prog w 58 b o (rowOf w b o 45) := loadVar_row ent_ty w b o
theorem ent_al (w : World) : (rowAlloc 58).run Tryz.prog w = .ok (.value (.pointer (some ⟨w.heap.size, 0, none⟩))) (w.alloc (.cells (entC noEn) 58)) := run_rowAlloc (by kernel_rfl) w
theorem ent_xl (ρ : Operand → Value) (dst : Option Tmp) (x : Operand) (t : TypeId) (pos : String) (after : Array Edge) (guard : Option (Nat × Bool)) : execOp ρ { dst, op := .load 58 x, type := t, pos, after, guard } = rowLoad 58 45 (ρ x) := rfl
theorem ent_xs (ρ : Operand → Value) (dst : Option Tmp) (x y : Operand) (t : TypeId) (pos : String) (after : Array Edge) (guard : Option (Nat × Bool)) : execOp ρ { dst, op := .store 58 x y, type := t, pos, after, guard } = rowStore 58 45 (ρ x) (ρ y) := rfl
theorem ent_xa (ρ : Operand → Value) (dst : Option Tmp) (t : TypeId) (pos : String) (after : Array Edge) (guard : Option (Nat × Bool)) : execOp ρ { dst, op := .alloc 58, type := t, pos, after, guard } = rowAlloc 58 := rfl
attribute [go_sem ↓] ent_xl ent_xs ent_xa
attribute [go_sem] ent_ld ent_st ent_al
/-- A rule: what is used of it. -/
structure Ru where
  (fresh stale down neg : Int)
  (x0 x1 x2 : Value)
  rest : List Value
def ruC (r : Ru) : Array Value := ([r.x0, r.x1, r.x2, .int .i64 r.fresh, .int .i64 r.stale, .int .i64 r.down, .int .i64 r.neg] ++ r.rest).toArray
theorem ru_g3 (r : Ru) : (ruC r)[3]? = some (.int .i64 r.fresh) := rfl
theorem ru_g4 (r : Ru) : (ruC r)[4]? = some (.int .i64 r.stale) := rfl
theorem ru_g5 (r : Ru) : (ruC r)[5]? = some (.int .i64 r.down) := rfl
theorem ru_g6 (r : Ru) : (ruC r)[6]? = some (.int .i64 r.neg) := rfl
attribute [go_sem] ru_g3 ru_g4 ru_g5 ru_g6

def ageN (e : En) (hi : Int) : Int := max (hi - e.st.lo) 0
theorem age_any (e : En) (lo hi : Int) (w : World) (h0 : 0 ≤ e.st.lo) (h1 : e.st.lo ≤ 1099511627776) (h2 : 0 ≤ hi) (h3 : hi ≤ 1099511627776) :
    Calls Tryz.prog 59 #[.agg (entC e), .agg #[.int .i64 lo, .int .i64 hi]] w fun e' w' => e' = .returned (.int .i64 (ageN e hi)) ∧ Ext w w' := by
  go_enter Tryz.func59, Tryz.ntmps59
  go_wp2
  all_goals
    go_ret
    exact ⟨ret_int (by unfold ageN; omega), (by (repeat (first | with_reducible exact Ext.refl _ | with_reducible exact Ext.refl _ | with_reducible refine Ext.drew ?_ | with_reducible refine Ext.drewN ?_ _ | with_reducible refine Ext.alloc ?_ _ | with_reducible refine Ext.onto ?_ _ | (with_reducible refine Ext.setCells ?_ ?_ _ _; rotate_left; focus (first | omega | (simp; done) | (simp; omega))) | (with_reducible refine Ext.setCell ?_ ?_ _; rotate_left; focus (first | omega | (simp; done) | (simp; omega))))))⟩
structure RuR (r : Ru) : Prop where
  (f0 : 0 ≤ r.fresh) (f1 : r.fresh ≤ 1099511627776) (s0 : 0 ≤ r.stale) (s1 : r.stale ≤ 1099511627776) (d0 : 0 ≤ r.down) (d1 : r.down ≤ 1099511627776) (n0 : 0 ≤ r.neg) (n1 : r.neg ≤ 1099511627776)
/-- What can be done with an entry whose age is a. -/
def stateN (e : En) (r : Ru) (a mode : Int) : Int :=
  if e.whole = false then 0
  else if e.soft = false ∧ a ≤ (if e.st.status = 200 then r.fresh else r.neg) then 1
  else if e.st.status = 200 ∧ (mode = 1 ∧ a ≤ r.fresh + r.stale ∨ mode = 2 ∧ a ≤ r.fresh + r.down) then 2
  else 0
theorem age_bd (e : En) (hi : Int) (h0 : 0 ≤ e.st.lo) (h3 : hi ≤ 1099511627776) : 0 ≤ ageN e hi ∧ ageN e hi ≤ 1099511627776 := by unfold ageN; omega
set_option maxHeartbeats 1000000 in
theorem state_at (e : En) (r : Ru) (lo hi mode a : Int) (w : World) (h0 : 0 ≤ e.st.lo) (h1 : e.st.lo ≤ 1099511627776) (h2 : 0 ≤ hi) (h3 : hi ≤ 1099511627776) (hr : RuR r) (HA : Hid (ageN e hi = a)) :
    Calls Tryz.prog 60 #[.agg (entC e), .agg (ruC r), .agg #[.int .i64 lo, .int .i64 hi], .int .i64 mode] w fun e' w' => e' = .returned (.int .i64 (stateN e r a mode)) ∧ Ext w w' := by
  obtain ⟨r1, r2, r3, r4, r5, r6, r7, r8⟩ := hr
  have ha := age_bd e hi h0 h3
  rw [HA.out] at ha
  obtain ⟨ha1, ha2⟩ := ha
  go_enter Tryz.func60, Tryz.ntmps60
  go_wp2_with (go_at_call 59; refine (age_any e lo hi _ h0 h1 h2 h3).mono ?_; rw [HA.out]; rintro e w' ⟨rfl, hxl⟩; obtain ⟨xl, rfl⟩ := hxl.asLater; clear hxl)
  all_goals
    go_ret
    refine ⟨ret_int ?_, (by (repeat (first | with_reducible exact Ext.refl _ | with_reducible exact Ext.refl _ | with_reducible refine Ext.drew ?_ | with_reducible refine Ext.drewN ?_ _ | with_reducible refine Ext.alloc ?_ _ | with_reducible refine Ext.onto ?_ _ | (with_reducible refine Ext.setCells ?_ ?_ _ _; rotate_left; focus (first | omega | (simp; done) | (simp; omega))) | (with_reducible refine Ext.setCell ?_ ?_ _; rotate_left; focus (first | omega | (simp; done) | (simp; omega))))))⟩
    simp_all [stateN]
    try omega
theorem state_any (e : En) (r : Ru) (lo hi mode : Int) (w : World) (h0 : 0 ≤ e.st.lo) (h1 : e.st.lo ≤ 1099511627776) (h2 : 0 ≤ hi) (h3 : hi ≤ 1099511627776) (hr : RuR r) :
    Calls Tryz.prog 60 #[.agg (entC e), .agg (ruC r), .agg #[.int .i64 lo, .int .i64 hi], .int .i64 mode] w fun e' w' => e' = .returned (.int .i64 (stateN e r (ageN e hi) mode)) ∧ Ext w w' := state_at e r lo hi mode _ w h0 h1 h2 h3 hr (Lib.hid rfl)
end Go.Proofs.YtpjacgcaibaggaaGreatDoor
