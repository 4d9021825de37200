/- Walks of the specification's hash: the padded message. -/
import Derived.Test.YtpjacgcaibaggaaGreatDoorProg
import Derived.Test.YtpjacgcaibaggaaGreatDoorExt
import Derived.WalkKit
import Derived.WalkSpells
import Derived.WalkLawsBesides
import Derived.Deep.QuietTactic
import Derived.BigQuiet
import Derived.Test.YtpjacgcaibaggaaGreatDoorRha
set_option linter.unusedVariables false
set_option linter.unusedSimpArgs false
namespace Go.Proofs.YtpjacgcaibaggaaGreatDoor
open Go.RowKit
open Go.Proofs

def OwnRel (w : World) (base : Nat) (l0 : List Int) (wr : World) (v : Value) : Prop :=
  ∃ (A : Option Addr) (c : Nat) (l : List Int), Hid (l = l0) ∧ v = .slice A l.length c ∧ OwnsB base wr A c l ∧ Ext w wr

set_option maxRecDepth 100000 in
set_option maxHeartbeats 4000000 in
theorem padded_ok (m : List Int) (A : Option Addr) (c : Nat) (w : World) (hr : ReadsB w w.heap.size A m) (hA : A = none → c = 0) (hlen : m.length < 140737488355000) :
    Calls Tryz.prog 174 #[.slice A m.length c] w (BytesIs (Sha.padded m) w) := by
  have HR := Lib.hid hr
  have HA := Lib.hid hA
  clear hr hA
  go_enter Tryz.func174, Tryz.ntmps174
  go_wp2_with (at_builtin; first
    | (refine app_reads bT bE rfl (.tmp 6) (.tmp 7) rfl w.heap.size (some ⟨w.heap.size, 0, none⟩) 0 [] rfl (Owns.fresh bE rfl (Nat.le_refl _) rfl rfl (by omega)) w.heap.size A c m rfl (HR.out.ext ((Ext.refl _).alloc _) (Nat.le_refl _)) HA.out (by simp; omega) (by simp; omega) (by simp) ?_; intro A1 c1 l1 w1 HL1 HO1 hB1 hl1 hl2 _; have HO1' := Lib.hid HO1; have HB1 := Lib.hid hB1; have hs1 := hB1.size; clear HO1 hB1)
    | (refine app_from bT bE rfl (.tmp 9) (.tmp 10) rfl w.heap.size _ _ l1 rfl (HO1'.out.alloc _) _ 1 _ [128] rfl rfl (new_cells _ _ _) (by simp at hl1; omega) (by simp at hl1; omega) (by simp at hs1 ⊢; omega) ?_; intro A2 c2 l2 w2 HL2 HO2 hB2 hl3 hl4 _; have HO2' := Lib.hid HO2; have HB2 := Lib.hid hB2; have hs2 := hB2.size; clear HO2 hB2))
  have HX2 : Hid (Ext w w2) := Lib.hid ((((((Ext.refl w).alloc _).grown HB1.out (Nat.le_refl _)).alloc _).grown HB2.out (Nat.le_refl _)))
  have HL : Hid (l2 = m ++ 128 :: List.replicate 0 0) := Lib.hid (by rw [HL2.out, HL1.out]; simp)
  clear HL1 HL2 hl1 hl2 hl3 hl4 hs1 hs2 HO1' HB1 HB2
  have hz : zn m.length < 64 := by unfold zn; omega
  go_loopw [3] (fun v wr => ∃ k : Nat, k ≤ zn m.length ∧ OwnRel w w.heap.size (m ++ 128 :: List.replicate k 0) wr v) (fun v _ => m.length + 65 - lenOf v)
  case atStart => exact ⟨0, Nat.zero_le _, A2, c2, l2, HL, rfl, HO2'.out, HX2.out⟩
  case round =>
    obtain ⟨k, hk, A3, c3, l3, HL3, rfl, ho, hx⟩ := hrel
    have hll : l3.length = m.length + 1 + k := by rw [HL3.out]; simp; omega
    have hll1 : l3.length ≤ m.length + 1 + k := by omega
    have hll2 : m.length + 1 + k ≤ l3.length := by omega
    have HO := Lib.hid ho
    have HX := Lib.hid hx
    have hsz := hx.size
    clear ho hx hll
    by_cases hkz : k < zn m.length
    · have ht2 : ((l3.length : Int) % 64 != 56) = true := by rw [bne_iff_ne]; unfold zn at hkz; omega
      go_wp2_with (at_builtin; refine app_from bT bE rfl _ _ rfl w.heap.size _ _ l3 rfl (HO.out.alloc _) _ 1 _ [0] rfl rfl (new_cells _ _ _) (by omega) (by omega) (by simp; omega) ?_; intro A4 c4 l4 w4 HL4 HO4 hB hl1 hl2 _; have HO4' := Lib.hid HO4; have HB4 := Lib.hid hB; clear HO4 hB)
      go_roundw
      case rel => exact ⟨k + 1, by omega, A4, c4, l4, Lib.hid (by rw [HL4.out, HL3.out, List.replicate_succ']; simp), rfl, HO4'.out, (HX.out.alloc _).grown HB4.out (Nat.le_refl _)⟩
      case measure => simp [lenOf]; omega
    · have ht : ((l3.length : Int) % 64 != 56) = false := by rw [bne_eq_false_iff_eq]; unfold zn at hkz hk; omega
      have HL5 : Hid (l3 = m ++ 128 :: List.replicate (zn m.length) 0) := Lib.hid (by rw [HL3.out]; congr 3; omega)
      clear HL3
      go_wp2
      clear ht hll1 hll2 hkz hk
      go_loopw [3, 5] (fun v j wr => ∃ i : Nat, i ≤ 8 ∧ j = .int .i64 i ∧ OwnRel w w.heap.size (m ++ (128 :: List.replicate (zn m.length) 0 ++ (Sha.be8 (8 * m.length)).take i)) wr v) (fun _ j _ => 8 - (intOf j).toNat)
      case atStart => exact ⟨0, Nat.zero_le _, rfl, A3, c3, l3, Lib.hid (by rw [HL5.out]; simp), rfl, HO.out, HX.out⟩
      case round =>
        obtain ⟨i, hi, rfl, A4, c4, l4, HL4, rfl, ho, hx⟩ := hrel
        have hll : l4.length ≤ m.length + 72 := by rw [HL4.out]; simp; omega
        have HO := Lib.hid ho
        have HX := Lib.hid hx
        have hsz := hx.size
        clear ho hx
        by_cases hi8 : i < 8
        · have HT := Lib.hid (be8_snoc m.length hi8)
          obtain ⟨b, hbv⟩ : ∃ b : Int, 8 * (m.length : Int) / 2 ^ (56 - 8 * i) % 256 = b := ⟨_, rfl⟩
          rw [hbv] at HT
          go_wp2_with (at_builtin; refine app_from bT bE rfl _ _ rfl w.heap.size _ _ l4 rfl (HO.out.alloc _) _ 1 _ [b] rfl rfl (new_cells _ _ _) (by omega) (by omega) (by simp; omega) ?_; intro A6 c6 l6 w6 HL6 HO6 hB hl1 hl2 _; have HO6' := Lib.hid HO6; have HB6 := Lib.hid hB; clear HO6 hB)
          go_roundw
          case rel => exact ⟨i + 1, by omega, by go_num, A6, c6, l6, Lib.hid (by rw [HL6.out, HL4.out, HT.out]; simp), rfl, HO6'.out, (HX.out.alloc _).grown HB6.out (Nat.le_refl _)⟩
          case measure => simp [intOf]; omega
        · have e : l4 = Sha.padded m := by rw [HL4.out, Sha.padded, pad_eq, List.take_of_length_le (by simp [Sha.be8]; omega)]
          have HE := Lib.hid e
          clear e
          go_wp2
          go_ret
          have e := HE.out
          subst e
          exact ⟨A4, c4, rfl, HO.out, HX.out⟩
end Go.Proofs.YtpjacgcaibaggaaGreatDoor
