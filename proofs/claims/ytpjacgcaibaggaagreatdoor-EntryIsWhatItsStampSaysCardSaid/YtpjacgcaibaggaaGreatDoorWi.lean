/- Walks of the wire: integers and texts as bytes. -/
import Derived.Test.YtpjacgcaibaggaaGreatDoorProg
import Derived.Test.YtpjacgcaibaggaaGreatDoorExt
import Derived.WalkKit
import Derived.WalkSpells
import Derived.WalkLawsBesides
import Derived.Deep.QuietTactic
import Derived.BigQuiet
import Derived.Test.YtpjacgcaibaggaaGreatDoorOwn
import Derived.Test.YtpjacgcaibaggaaGreatDoorWire
import Derived.LoopTactic
set_option linter.unusedVariables false
set_option linter.unusedSimpArgs false
namespace Go.Proofs.YtpjacgcaibaggaaGreatDoor
open Go.RowKit
open Go.Proofs

/-- Bytes of the call's own are returned. -/
def BytesIs (l : List Int) (w : World) (e : Ending) (w' : World) : Prop := ∃ A c, e = .returned (.slice A l.length c) ∧ OwnsB w.heap.size w' A c l ∧ Ext w w'
def IntRel (w : World) (z : Nat) (vz vo : Value) (wr : World) : Prop := ∃ (k r : Nat) (out : List Int) (A : Option Addr) (c : Nat), Wire.Digits z k out r ∧ vz = .int .u64 r ∧ vo = .slice A out.length c ∧ OwnsB w.heap.size wr A c out ∧ Ext w wr

theorem zig_bits (n : Int) (h0 : -9223372036854775808 ≤ n) (h1 : n ≤ 9223372036854775807) : bits .xor .u64 (IntKind.u64.wrap (IntKind.u64.wrap n * 2)) (IntKind.u64.wrap (n / 9223372036854775808)) = (Wire.zig n : Int) := by
  have e1 : IntKind.u64.wrap (IntKind.u64.wrap n * 2) = (2 * n) % 18446744073709551616 := by
    simp [IntKind.wrap, IntKind.bits, IntKind.signed]
    omega
  by_cases hn : n < 0
  · have e2 : IntKind.u64.wrap (n / 9223372036854775808) = 18446744073709551615 := by
      have : n / 9223372036854775808 = -1 := by omega
      rw [this]; decide
    have hz : Wire.zig n = (-2 * n - 1).toNat := by unfold Wire.zig; rw [if_pos hn]
    have e3 : (2 * n) % 18446744073709551616 = ((18446744073709551615 - Wire.zig n : Nat) : Int) := by rw [hz]; omega
    rw [e1, e2, e3]
    have hzl := Wire.zig_lt n h0 h1
    have hx := u64_xor_nat (18446744073709551615 - Wire.zig n) 18446744073709551615 (by omega) (by omega)
    have k : (18446744073709551615 - Wire.zig n) ^^^ 18446744073709551615 = Wire.zig n := by
      generalize Wire.zig n = q at *
      have hq : (BitVec.ofNat 64 (18446744073709551615 - q) ^^^ BitVec.allOnes 64).toNat = (~~~ BitVec.ofNat 64 (18446744073709551615 - q)).toNat := by rw [BitVec.xor_allOnes]
      rw [BitVec.toNat_xor, BitVec.toNat_not, BitVec.toNat_allOnes, BitVec.toNat_ofNat, Nat.mod_eq_of_lt (by omega)] at hq
      have e : 2 ^ 64 - 1 = 18446744073709551615 := by decide
      rw [e] at hq
      rw [hq]
      omega
    rw [k] at hx
    exact hx
  · have e2 : IntKind.u64.wrap (n / 9223372036854775808) = 0 := by
      have : n / 9223372036854775808 = 0 := by omega
      rw [this]; decide
    have hz : Wire.zig n = (2 * n).toNat := by unfold Wire.zig; rw [if_neg hn]
    have e3 : (2 * n) % 18446744073709551616 = ((Wire.zig n : Nat) : Int) := by rw [hz]; omega
    rw [e1, e2, e3]
    have hzl := Wire.zig_lt n h0 h1
    have hx := u64_xor_nat (Wire.zig n) 0 (by omega) (by omega)
    rw [Nat.xor_zero] at hx
    exact hx
theorem or8 (r : Nat) : bits .or .u8 ((r : Int) % 256) 128 = ((r % 128 + 128 : Nat) : Int) := by
  have : ∀ m : Fin 256, bits .or .u8 (m.val : Int) 128 = ((m.val % 128 + 128 : Nat) : Int) := by decide +kernel
  have k := this ⟨r % 256, by omega⟩
  have e : ((r % 256 : Nat) : Int) = (r : Int) % 256 := by omega
  simp only [] at k
  rw [e] at k
  rw [k]
  congr 2
  omega

set_option maxHeartbeats 1000000 in
theorem int_ok (n : Int) (w : World) (h0 : -9223372036854775808 ≤ n) (h1 : n ≤ 9223372036854775807) :
    Calls Tryz.prog 126 #[.int .i64 n] w (BytesIs (Wire.enc n) w) := by
  have hz := zig_bits n h0 h1
  have HZ := Lib.hid (Wire.zig_lt n h0 h1)
  have HE := Lib.hid (show Wire.vb 9 (Wire.zig n) = Wire.enc n from rfl)
  go_enter Tryz.func126, Tryz.ntmps126
  go_wp2
  clear hz
  generalize Wire.zig n = z at *
  go_loopw [3, 4] (IntRel w z) (fun v _ _ => (intOf v).toNat)
  case atStart => exact ⟨0, z, [], none, 0, Wire.digits_start HZ.out, rfl, rfl, Owns.nil _ _ _ _ _, Ext.refl _⟩
  case round =>
    obtain ⟨k, r, out, A, c, hd, rfl, rfl, ho, hx⟩ := hrel
    have HD := Lib.hid hd
    have HO := Lib.hid ho
    have HX := Lib.hid hx
    have hlen : out.length ≤ 9 := by have := hd.len; have := hd.k9; omega
    have hrl := Wire.digits_lt hd
    have hsz := hx.size
    clear hd ho hx
    by_cases hr : 128 ≤ r
    · have ho8 := or8 r
      have HD2 := Lib.hid (Wire.digits_step HD.out hr)
      generalize ((r % 128 + 128 : Nat) : Int) = b at *
      go_wp2_with (at_builtin; refine app_from bT bE rfl _ _ rfl w.heap.size _ _ out rfl (HO.out.alloc _) _ 1 _ [b] rfl rfl (new_cells _ _ _) (by omega) (by omega) (by simp; omega) ?_; intro A2 c2 l2 w2 HL HO2 hB hl1 hl2 _; have HO2' := Lib.hid HO2; have HB2 := Lib.hid hB; clear HO2 hB)
      go_roundw
      case rel => exact ⟨k + 1, r / 128, l2, A2, c2, by rw [HL.out]; exact HD2.out, by go_num, rfl, HO2'.out, (HX.out.alloc _).grown HB2.out (Nat.le_refl _)⟩
      case measure => simp [intOf]; omega
    · have HQ := Lib.hid ((Wire.digits_end HD.out (by omega)).trans HE.out)
      go_wp2_with (at_builtin; refine app_from bT bE rfl _ _ rfl w.heap.size _ _ out rfl (HO.out.alloc _) _ 1 _ [(r : Int)] rfl rfl (new_cells _ _ _) (by omega) (by omega) (by simp; omega) ?_; intro A2 c2 l2 w2 HL HO2 hB hl1 hl2 _; have HO2' := Lib.hid HO2; have HB2 := Lib.hid hB; clear HO2 hB)
      go_ret
      have e : l2 = Wire.enc n := HL.out.trans HQ.out
      subst e
      exact ⟨A2, c2, rfl, HO2'.out, (HX.out.alloc _).grown HB2.out (Nat.le_refl _)⟩
/-- The same of the specification. -/
theorem zig_ref (n : Int) (h0 : -9223372036854775808 ≤ n) (h1 : n ≤ 9223372036854775807) (hn : ¬ n < 0) : n * 2 = (Wire.zig n : Int) := by
  have hz : Wire.zig n = (2 * n).toNat := by unfold Wire.zig; rw [if_neg hn]
  rw [hz]
  omega
theorem zig_refN (n : Int) (h0 : -9223372036854775808 ≤ n) (h1 : n ≤ 9223372036854775807) (hn : n < 0) : (-1 - n) * 2 + 1 = (Wire.zig n : Int) := by
  have hz : Wire.zig n = (-2 * n - 1).toNat := by unfold Wire.zig; rw [if_pos hn]
  rw [hz]
  omega
set_option maxRecDepth 100000 in
set_option maxHeartbeats 1000000 in
theorem rint_ok (n : Int) (w : World) (h0 : -9223372036854775808 ≤ n) (h1 : n ≤ 9223372036854775807) :
    Calls Tryz.prog 177 #[.int .i64 n] w (BytesIs (Wire.enc n) w) := by
  have HZ := Lib.hid (Wire.zig_lt n h0 h1)
  have HE := Lib.hid (show Wire.vb 9 (Wire.zig n) = Wire.enc n from rfl)
  by_cases hn : n < 0
  · have hz := zig_refN n h0 h1 hn
    go_enter Tryz.func177, Tryz.ntmps177
    go_wp2
    clear hz
    generalize Wire.zig n = z at *
    go_loopw [3, 4] (IntRel w z) (fun v _ _ => (intOf v).toNat)
    case atStart => exact ⟨0, z, [], none, 0, Wire.digits_start HZ.out, rfl, rfl, Owns.nil _ _ _ _ _, Ext.refl _⟩
    case round =>
      obtain ⟨k, r, out, A, c, hd, rfl, rfl, ho, hx⟩ := hrel
      have HD := Lib.hid hd
      have HO := Lib.hid ho
      have HX := Lib.hid hx
      have hlen : out.length ≤ 9 := by have := hd.len; have := hd.k9; omega
      have hrl := Wire.digits_lt hd
      have hsz := hx.size
      clear hd ho hx
      by_cases hr : 128 ≤ r
      · have HD2 := Lib.hid (Wire.digits_step HD.out hr)
        obtain ⟨b, hb⟩ : ∃ b : Int, ((r % 128 + 128 : Nat) : Int) = b := ⟨_, rfl⟩
        rw [hb] at HD2
        have hb1 : (r : Int) % 128 + 128 = b := by omega
        clear hb
        go_wp2_with (at_builtin; refine app_from bT bE rfl _ _ rfl w.heap.size _ _ out rfl (HO.out.alloc _) _ 1 _ [b] rfl rfl (new_cells _ _ _) (by omega) (by omega) (by simp; omega) ?_; intro A2 c2 l2 w2 HL HO2 hB hl1 hl2 _; have HO2' := Lib.hid HO2; have HB2 := Lib.hid hB; clear HO2 hB)
        go_roundw
        case rel => exact ⟨k + 1, r / 128, l2, A2, c2, by rw [HL.out]; exact HD2.out, by go_num, rfl, HO2'.out, (HX.out.alloc _).grown HB2.out (Nat.le_refl _)⟩
        case measure => simp [intOf]; omega
      · have HQ := Lib.hid ((Wire.digits_end HD.out (by omega)).trans HE.out)
        go_wp2_with (at_builtin; refine app_from bT bE rfl _ _ rfl w.heap.size _ _ out rfl (HO.out.alloc _) _ 1 _ [(r : Int)] rfl rfl (new_cells _ _ _) (by omega) (by omega) (by simp; omega) ?_; intro A2 c2 l2 w2 HL HO2 hB hl1 hl2 _; have HO2' := Lib.hid HO2; have HB2 := Lib.hid hB; clear HO2 hB)
        go_ret
        have e : l2 = Wire.enc n := HL.out.trans HQ.out
        subst e
        exact ⟨A2, c2, rfl, HO2'.out, (HX.out.alloc _).grown HB2.out (Nat.le_refl _)⟩
  · have hz := zig_ref n h0 h1 hn
    go_enter Tryz.func177, Tryz.ntmps177
    go_wp2
    clear hz
    generalize Wire.zig n = z at *
    go_loopw [3, 4] (IntRel w z) (fun v _ _ => (intOf v).toNat)
    case atStart => exact ⟨0, z, [], none, 0, Wire.digits_start HZ.out, rfl, rfl, Owns.nil _ _ _ _ _, Ext.refl _⟩
    case round =>
      obtain ⟨k, r, out, A, c, hd, rfl, rfl, ho, hx⟩ := hrel
      have HD := Lib.hid hd
      have HO := Lib.hid ho
      have HX := Lib.hid hx
      have hlen : out.length ≤ 9 := by have := hd.len; have := hd.k9; omega
      have hrl := Wire.digits_lt hd
      have hsz := hx.size
      clear hd ho hx
      by_cases hr : 128 ≤ r
      · have HD2 := Lib.hid (Wire.digits_step HD.out hr)
        obtain ⟨b, hb⟩ : ∃ b : Int, ((r % 128 + 128 : Nat) : Int) = b := ⟨_, rfl⟩
        rw [hb] at HD2
        have hb1 : (r : Int) % 128 + 128 = b := by omega
        clear hb
        go_wp2_with (at_builtin; refine app_from bT bE rfl _ _ rfl w.heap.size _ _ out rfl (HO.out.alloc _) _ 1 _ [b] rfl rfl (new_cells _ _ _) (by omega) (by omega) (by simp; omega) ?_; intro A2 c2 l2 w2 HL HO2 hB hl1 hl2 _; have HO2' := Lib.hid HO2; have HB2 := Lib.hid hB; clear HO2 hB)
        go_roundw
        case rel => exact ⟨k + 1, r / 128, l2, A2, c2, by rw [HL.out]; exact HD2.out, by go_num, rfl, HO2'.out, (HX.out.alloc _).grown HB2.out (Nat.le_refl _)⟩
        case measure => simp [intOf]; omega
      · have HQ := Lib.hid ((Wire.digits_end HD.out (by omega)).trans HE.out)
        go_wp2_with (at_builtin; refine app_from bT bE rfl _ _ rfl w.heap.size _ _ out rfl (HO.out.alloc _) _ 1 _ [(r : Int)] rfl rfl (new_cells _ _ _) (by omega) (by omega) (by simp; omega) ?_; intro A2 c2 l2 w2 HL HO2 hB hl1 hl2 _; have HO2' := Lib.hid HO2; have HB2 := Lib.hid hB; clear HO2 hB)
        go_ret
        have e : l2 = Wire.enc n := HL.out.trans HQ.out
        subst e
        exact ⟨A2, c2, rfl, HO2'.out, (HX.out.alloc _).grown HB2.out (Nat.le_refl _)⟩

theorem encS_eq (r : ByteArray) : Wire.encS (bts r) = Wire.enc (r.size : Int) ++ bts r := by rw [Wire.encS, bts_length]
theorem wbytes_ok (r : ByteArray) (w : World) (hr : r.size ≤ 140737488351232) :
    Calls Tryz.prog 97 #[.string r] w (BytesIs (Wire.encS (bts r)) w) := by
  have HE := Lib.hid (encS_eq r)
  have hl := Wire.enc_length (r.size : Int)
  go_enter Tryz.func97, Tryz.ntmps97
  go_wp2_with (first
    | (go_at_call 126; refine (int_ok _ _ (by omega) (by omega)).mono ?_; rintro e w1 ⟨A1, c1, rfl, ho, hx⟩; have HO := Lib.hid ho; have HX := Lib.hid hx; have hsz := hx.size; clear ho hx)
    | (at_builtin; refine app_str rfl _ _ rfl w.heap.size _ _ _ rfl HO.out _ rfl (by omega) (by omega) ?_; intro A2 c2 l2 w2 HL HO2 hB hl1 hl2; have HO2' := Lib.hid HO2; have HB2 := Lib.hid hB; clear HO2 hB))
  go_ret
  have e : l2 = Wire.encS (bts r) := HL.out.trans HE.out.symm
  subst e
  exact ⟨A2, c2, rfl, HO2'.out, HX.out.grown HB2.out (Nat.le_refl _)⟩
theorem rbytes_ok (r : ByteArray) (w : World) (hr : r.size ≤ 140737488351232) :
    Calls Tryz.prog 138 #[.string r] w (BytesIs (Wire.encS (bts r)) w) := by
  have HE := Lib.hid (encS_eq r)
  have hl := Wire.enc_length (r.size : Int)
  go_enter Tryz.func138, Tryz.ntmps138
  go_wp2_with (first
    | (go_at_call 177; refine (rint_ok _ _ (by omega) (by omega)).mono ?_; rintro e w1 ⟨A1, c1, rfl, ho, hx⟩; have HO := Lib.hid ho; have HX := Lib.hid hx; have hsz := hx.size; clear ho hx)
    | (at_builtin; refine app_str rfl _ _ rfl w.heap.size _ _ _ rfl HO.out _ rfl (by omega) (by omega) ?_; intro A2 c2 l2 w2 HL HO2 hB hl1 hl2; have HO2' := Lib.hid HO2; have HB2 := Lib.hid hB; clear HO2 hB))
  go_ret
  have e : l2 = Wire.encS (bts r) := HL.out.trans HE.out.symm
  subst e
  exact ⟨A2, c2, rfl, HO2'.out, HX.out.grown HB2.out (Nat.le_refl _)⟩
end Go.Proofs.YtpjacgcaibaggaaGreatDoor
