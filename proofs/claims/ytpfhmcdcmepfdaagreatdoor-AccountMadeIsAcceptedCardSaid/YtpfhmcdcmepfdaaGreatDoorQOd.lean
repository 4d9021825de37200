
import Derived.WalkKit
import Derived.WalkSpells
import Derived.WalkLawsBesides
import Derived.Deep.QuietTactic
import Derived.BigQuiet
import Derived.Test.YtpfhmcdcmepfdaaGreatDoorQJz
set_option maxRecDepth 100000
set_option maxHeartbeats 64000000
set_option linter.unusedVariables false
set_option linter.unusedSimpArgs false
namespace Go.Proofs.YtpfhmcdcmepfdaaGreatDoor
open Go.RowKit Go.Shelf
open Go.Proofs
structure Dd where
 is : Bool
 conf : Bool
 until_ : Int
def ddL (s : Dd) : List Value := [.bool s.is] ++ [.bool s.conf] ++ [.int .u16 s.until_]
def ddC (s : Dd) : Array Value := (ddL s).toArray
def noDd : Dd := ⟨false, false, 0⟩
theorem dd_size (s : Dd) : (ddC s).size = 3 := rfl
theorem dd_all (s : Dd) : rowSub (ddC s) 0 3 = some (ddC s) := rowSub_all _ _ rfl
theorem dd_fits (s : Dd) : fitsRow 3 (ddC s) = true := by kernel_rfl
theorem dd_g0 (s : Dd) : (ddC s)[0]? = some (.bool s.is) := by kernel_rfl
theorem dd_g1 (s : Dd) : (ddC s)[1]? = some (.bool s.conf) := by kernel_rfl
theorem dd_g2 (s : Dd) : (ddC s)[2]? = some (.int .u16 s.until_) := by kernel_rfl
attribute [go_sem] dd_size dd_all dd_fits dd_g0 dd_g1 dd_g2
theorem ddE : EncTy ddL 3 := ⟨fun _ => rfl, fun x v hv => by
 have h : (fitsRow 3 (ddC x)) = true := dd_fits x
 simp only [fitsRow, Bool.and_eq_true, Array.all_eq_true'] at h
 exact h.2 v (by simpa [ddC] using hv)⟩
theorem dd_ty : RowTy Tryz.prog 84 3 := ⟨by kernel_rfl, by kernel_rfl⟩
theorem dd_ld (w : World) (b o : Nat) : (rowLoad 84 3 (.pointer (some ⟨b, o, none⟩))).run Tryz.prog w = rowLoadR Tryz.prog w 84 3 b o (rowOf w b o 3) := run_rowLoad dd_ty w b o
theorem dd_st (w : World) (b o : Nat) (cells : Array Value) : (rowStore 84 3 (.pointer (some ⟨b, o, none⟩)) (.agg cells)).run Tryz.prog w = rowStoreR Tryz.prog w 84 3 b o cells (roomOf w b o 3 && fitsRow 3 cells) := run_rowStore dd_ty w b o cells
theorem dd_al (w : World) : (rowAlloc 84).run Tryz.prog w = .ok (.value (.pointer (some ⟨w.heap.size, 0, none⟩))) (w.alloc (.cells (ddC noDd) 84)) := run_rowAlloc (by kernel_rfl) w
theorem dd_xl (ρ : Operand → Value) (dst : Option Tmp) (x : Operand) (t : TypeId) (pos : String) (after : Array Edge) (guard : Option (Nat × Bool)) : execOp ρ { dst, op := .load 84 x, type := t, pos, after, guard } = rowLoad 84 3 (ρ x) := rfl
theorem dd_xs (ρ : Operand → Value) (dst : Option Tmp) (x y : Operand) (t : TypeId) (pos : String) (after : Array Edge) (guard : Option (Nat × Bool)) : execOp ρ { dst, op := .store 84 x y, type := t, pos, after, guard } = rowStore 84 3 (ρ x) (ρ y) := rfl
theorem dd_xa (ρ : Operand → Value) (dst : Option Tmp) (t : TypeId) (pos : String) (after : Array Edge) (guard : Option (Nat × Bool)) : execOp ρ { dst, op := .alloc 84, type := t, pos, after, guard } = rowAlloc 84 := rfl
attribute [go_sem ↓] dd_xl dd_xs dd_xa
attribute [go_sem] dd_ld dd_st dd_al
end Go.Proofs.YtpfhmcdcmepfdaaGreatDoor

namespace Go.Proofs.YtpfhmcdcmepfdaaGreatDoor
open Go.ChangeShapes Go.WideShapes Go.ChangeAt Go.RowKit Go.Joins Go.Deep
open Go.Proofs
section
variable {H : Type} {enc : TypeId × Value → H} {w : World} {base : Nat} {spare : Nat → Bool} {held : Bool}
theorem u16_wf {n : Int} (w : (Lit.int .u16 n).wf = true) : 0 ≤ n ∧ n ≤ 65535 := by simp [Lit.wf, IntKind.min, IntKind.max, IntKind.signed, IntKind.bits] at w; omega
theorem u8_wf {n : Int} (w : (Lit.int .u8 n).wf = true) : 0 ≤ n ∧ n ≤ 255 := by simp [Lit.wf, IntKind.min, IntKind.max, IntKind.signed, IntKind.bits] at w; omega
def DdIn (s : Dd) : Prop := (0 ≤ s.until_ ∧ s.until_ ≤ 65535)
theorem dd_of_trod {m : Nat} {L : List Value} {x : DataW H × List MemPlace} (h : DataW.trod enc Tryz.prog w base spare held m 84 L = some x) : ∃ s : Dd, L = ddL s ∧ DdIn s := by
 obtain ⟨xs, n, _, _, hlen, hxl, hg⟩ := DataW.trod_struct Tryz.underlying84 h
 have hC : Tryz.prog.cellsOf 84 = 3 := by kernel_rfl
 have q0 : Tryz.prog.cellsOf 4 = 1 := by kernel_rfl
 have q1 : Tryz.prog.cellsOf 77 = 1 := by kernel_rfl
 rw [hC] at hlen
 have hx9 : xs.length = 3 := hxl
 have g0 := hg 0 _ rfl
 have g1 := hg 1 _ rfl
 have g2 := hg 2 _ rfl
 simp only [List.getElem_toArray, List.getElem_cons_succ, List.getElem_cons_zero, q0, q1] at g0 g1 g2
 rw [List.getElem?_eq_getElem (by omega)] at g0 g1 g2
 obtain ⟨b0, e0, _⟩ := DataW.trod_bool Tryz.underlying4 g0
 obtain ⟨b1, e1, _⟩ := DataW.trod_bool Tryz.underlying4 g1
 obtain ⟨n2, e2, _, w2⟩ := DataW.trod_int Tryz.underlying77 g2
 refine ⟨⟨b0, b1, n2⟩, ?_, u16_wf w2⟩
 have e : L = L.drop 0 := rfl
 have j0 := seg e0
 have j1 := seg e1
 have j2 := seg e2
 rw [e, j0, j1, j2, List.drop_eq_nil_of_le (by omega)]
 simp [ddL]
theorem open_deeds {r : Reach} {b0 : Nat} {v : Value} {d : DataW H} {p : List MemPlace} (hv : Value.okWide Tryz.prog w r b0 78 v) (h : DataW.Trod enc Tryz.prog w 0 (fun _ => true) held 78 v d p) :
  ∃ (A : Option Addr) (c : Nat) (l : List Dd), v = .slice A l.length c ∧ l.length ≤ c ∧ c ≤ maxLen ∧ Reads 3 ddL w w.heap.size A l ∧ (∀ s ∈ l, DdIn s) := by
 unfold Value.okWide at hv
 rw [Tryz.underlying78] at hv
 simp only [] at hv
 obtain ⟨fuel, hf⟩ := h
 cases v with
 | slice A n c =>
  obtain ⟨A', c', l, e, h1, h2, h3, h4, h5⟩ := slice_of_trod ddE noDd DdIn Tryz.underlying78 (by kernel_rfl) (by omega) (fun h => dd_of_trod h) hf
  injection e with e1 e2 e3
  subst e1 e2 e3
  exact ⟨A, c, l, rfl, h1, h2, h3, h4⟩
 | _ =>
  exfalso
  unfold Cell.okWide at hv
  rw [Tryz.underlying78] at hv
  simp only [] at hv
  unfold Cell.ok at hv
  rw [Tryz.underlying78] at hv
  simp at hv
end
end Go.Proofs.YtpfhmcdcmepfdaaGreatDoor