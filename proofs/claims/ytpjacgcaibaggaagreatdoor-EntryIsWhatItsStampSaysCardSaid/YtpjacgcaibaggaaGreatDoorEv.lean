/- Walks of entries: the specification's Valid. -/
import Derived.Test.YtpjacgcaibaggaaGreatDoorProg
import Derived.Test.YtpjacgcaibaggaaGreatDoorExt
import Derived.WalkKit
import Derived.WalkSpells
import Derived.WalkLawsBesides
import Derived.Deep.QuietTactic
import Derived.BigQuiet
import Derived.Test.YtpjacgcaibaggaaGreatDoorSpw
import Derived.Test.YtpjacgcaibaggaaGreatDoorSpv
import Derived.Stop.BytesEq
set_option linter.unusedVariables false
set_option linter.unusedSimpArgs false
namespace Go.Proofs.YtpjacgcaibaggaaGreatDoor
open Go.RowKit
open Go.Proofs

def u8s (l : List Int) : List UInt8 := l.map fun n => UInt8.ofNat n.toNat
theorem u8s_cells {l : List Int} (h : Byt l) : ((u8s l).map Extern.Stop.cell).toArray = cells8 l := by
  unfold cells8 u8s
  congr 1
  rw [List.map_map]
  apply List.map_congr_left
  intro x hx
  have := h x hx
  simp [Extern.Stop.cell]
  omega
theorem u8s_inj : ∀ {a b : List Int}, Byt a → Byt b → u8s a = u8s b → a = b
  | [], [], _, _, _ => rfl
  | [], y :: b, _, _, h => by simp [u8s] at h
  | x :: a, [], _, _, h => by simp [u8s] at h
  | x :: a, y :: b, ha, hb, h => by
    simp only [u8s, List.map_cons, List.cons.injEq] at h
    have h1 := ha x (by simp)
    have h2 := hb y (by simp)
    have e : x = y := by
      have := congrArg UInt8.toNat h.1
      simp at this
      omega
    rw [e, u8s_inj (fun z hz => ha z (by simp [hz])) (fun z hz => hb z (by simp [hz])) h.2]
theorem u8s_beq {a b : List Int} (ha : Byt a) (hb : Byt b) : (u8s a == u8s b) = decide (a = b) := by
  by_cases e : a = b
  · subst e; simp
  · have : ¬ (u8s a = u8s b) := fun h => e (u8s_inj ha hb h)
    simp [e, this]
/-- '==' of two digests. -/
theorem eq_dig {a b : List Int} (ha : a.length = 16) (hb : b.length = 16) (ba : Byt a) (bb : Byt b) (W : World) : (binOp .eql 24 (.agg (cells8 a)) (.agg (dgC b))).run Tryz.prog W = .ok (.bool (decide (a = b))) W := by
  have := run_eql_bytes (P := Tryz.prog) W 24 5 16 (by kernel_rfl) (by kernel_rfl) u8_size (u8s a) (u8s b) (by simp [u8s, ha]) (by simp [u8s, hb])
  rw [u8s_cells ba, u8s_cells bb, u8s_beq ba bb] at this
  rw [dgC_cells hb]
  exact this
theorem neq_dig {a b : List Int} (ha : a.length = 16) (hb : b.length = 16) (ba : Byt a) (bb : Byt b) (W : World) : (binOp .neq 24 (.agg (cells8 a)) (.agg (dgC b))).run Tryz.prog W = .ok (.bool (!(decide (a = b)))) W := by
  have h := run_equalIn_bytes (P := Tryz.prog) W 9998 24 5 16 (by kernel_rfl) (by kernel_rfl) u8_size (u8s a) (u8s b) (by simp [u8s, ha]) (by simp [u8s, hb])
  rw [u8s_cells ba, u8s_cells bb, u8s_beq ba bb] at h
  rw [dgC_cells hb, run_neq_struct, h]
  rfl
theorem digest_length (t : Int) (l : List (List Int)) : (Wire.digest t l).length = 16 := by rw [Wire.digest, List.length_take, Sha.sha_length]; omega
theorem digest_byt (t : Int) (l : List (List Int)) : Byt (Wire.digest t l) := fun x hx => Sha.out_byte _ x (List.mem_of_mem_take hx)
end Go.Proofs.YtpjacgcaibaggaaGreatDoor

namespace Go.Proofs.YtpjacgcaibaggaaGreatDoor
open Go.RowKit
open Go.Proofs
open Go.Proofs.Sp (Sp)

def lastB (l : List Sp) (n : Int) : Bool := decide (l.length = 0) || decide ((l.getD (l.length - 1) (0, 0)).2 ≤ n)
def zeroAt (b : ByteArray) (l : List Sp) (k : Nat) : Bool := decide ((bts b).getD k 0 = 0) || hasB l k
def zeroB (b : ByteArray) (l : List Sp) : Bool := (List.range b.size).all (zeroAt b l)
/-- What the specification calls a valid entry. -/
def validB (e : En) (l : List Sp) : Bool :=
  rightB e.st && setB l && decide (e.st.size ≤ 65536) && decide ((e.bytes.size : Int) = e.st.size) && lastB l e.st.size && zeroB e.bytes l && (e.whole == fullB l e.st.size) && (!(fullB l e.st.size) || decide (Wire.digest 34 [bts e.bytes] = e.st.body))

theorem rdigest_is (s : ByteArray) (D : List Int) (w : World) (hk : RKonst w) (hl : s.size ≤ 140737488351200) (h : Wire.digest 34 [bts s] = D) :
    Calls Tryz.prog 29 #[.string s] w fun e w' => e = .returned (.agg (cells8 D)) ∧ Ext w w' := by subst h; exact rdigest_ok s w hk hl
theorem bts_get (b : ByteArray) (k : Nat) (h : k < b.size) : (bts b).getD k 0 = (b[k].toNat : Int) := by
  have hl : k < b.data.toList.length := by simpa using h
  simp only [bts, List.getD_eq_getElem?_getD, List.getElem?_map, List.getElem?_eq_getElem hl, Option.map_some, Option.getD_some]
  rfl
theorem zeroB_no {b : ByteArray} {l : List Sp} {k : Nat} (h : k < b.size) (hf : zeroAt b l k = false) : zeroB b l = false := by
  cases e : zeroB b l with
  | false => rfl
  | true =>
    have := List.all_eq_true.1 e k (List.mem_range.2 h)
    rw [hf] at this
    cases this
theorem zeroB_yes {b : ByteArray} {l : List Sp} (h : ∀ j, j < b.size → zeroAt b l j = true) : zeroB b l = true := List.all_eq_true.2 (fun j hj => h j (List.mem_range.1 hj))
end Go.Proofs.YtpjacgcaibaggaaGreatDoor
