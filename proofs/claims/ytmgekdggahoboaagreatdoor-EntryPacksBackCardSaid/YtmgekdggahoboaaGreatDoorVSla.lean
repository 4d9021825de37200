/- Lists of integers as bytes, on both sides. -/
import Derived.Test.YtmgekdggahoboaaGreatDoorVHa
import Derived.WalkKit
import Derived.WalkSpells
import Derived.WalkLawsBesides
import Derived.Deep.QuietTactic
import Derived.BigQuiet
import Derived.LoopTactic
set_option maxRecDepth 100000
set_option maxHeartbeats 64000000
set_option linter.unusedVariables false
set_option linter.unusedSimpArgs false
namespace Go.Proofs.Sha
open Go
theorem chew_append (s : S8) (m x : List Int) : ∀ j, 64 * j ≤ m.length → chew s (m ++ x) j = chew s m j
 | 0, _ => rfl
 | j + 1, h => by
  rw [chew, chew, chew_append s m x j (by omega), List.drop_append_of_le_length (by omega), List.take_append_of_le_length (by simp; omega)]
structure Holds (s : S8) (blk : List Int) (m : List Int) : Prop where
 st : s = chew S0 m (m.length / 64)
 len : blk.length = 64
 tail : blk.take (m.length % 64) = m.drop (64 * (m.length / 64))
theorem holds_nil (blk : List Int) (h : blk.length = 64) : Holds S0 blk [] := ⟨rfl, h, by simp⟩
def over (blk : List Int) (at_ : Nat) (x : List Int) : List Int := blk.take at_ ++ x ++ blk.drop (at_ + x.length)
theorem over_length {blk : List Int} {a : Nat} {x : List Int} (hb : blk.length = 64) (h : a + x.length ≤ 64) : (over blk a x).length = 64 := by
 simp [over]; omega
theorem holds_more {s : S8} {blk m x : List Int} (h : Holds s blk m) (hx : m.length % 64 + x.length < 64) : Holds s (over blk (m.length % 64) x) (m ++ x) := by
 obtain ⟨h1, h2, h3⟩ := h
 have hd : (m ++ x).length / 64 = m.length / 64 := by simp; omega
 have hm : (m ++ x).length % 64 = m.length % 64 + x.length := by simp; omega
 refine ⟨?_, over_length h2 (by omega), ?_⟩
 ·rw [hd, chew_append _ _ _ _ (by omega)]; exact h1
 ·rw [hd, hm, over, h3, List.drop_append_of_le_length (by omega)]
  rw [List.take_append_of_le_length (by simp; omega)]
  apply List.take_of_length_le
  simp
  omega
theorem holds_full {s : S8} {blk m x : List Int} (h : Holds s blk m) (hx : m.length % 64 + x.length = 64) : Holds (comp s (over blk (m.length % 64) x)) (over blk (m.length % 64) x) (m ++ x) := by
 obtain ⟨h1, h2, h3⟩ := h
 have hd : (m ++ x).length / 64 = m.length / 64 + 1 := by simp; omega
 have hm : (m ++ x).length % 64 = 0 := by simp; omega
 have ho : over blk (m.length % 64) x = m.drop (64 * (m.length / 64)) ++ x := by
  have e : blk.drop (m.length % 64 + x.length) = [] := List.drop_of_length_le (by omega)
  rw [over, h3, e, List.append_nil]
 refine ⟨?_, over_length h2 (by omega), ?_⟩
 ·rw [hd, chew, chew_append _ _ _ _ (by omega), ← h1, ho, List.drop_append_of_le_length (by omega)]
  congr 1
  symm
  apply List.take_of_length_le
  simp
  omega
 ·rw [hd, hm]
  simp
  omega
theorem pad_length (n : Nat) : (n + (pad n).length) % 64 = 0 := by
 simp [pad, be8]
 omega
theorem padded_length (m : List Int) : (padded m).length % 64 = 0 := by
 have := pad_length m.length
 simp only [padded, List.length_append]
 exact this
theorem sha_of_holds {s : S8} {blk m : List Int} (h : Holds s blk (padded m)) : out s = sha m := by
 rw [h.st]
 rfl
def W (x : Int) : Prop := 0 ≤ x ∧ x < 4294967296
structure S8.ok (s : S8) : Prop where
 (a : W s.a) (b : W s.b) (c : W s.c) (d : W s.d) (e : W s.e) (f : W s.f) (g : W s.g) (h : W s.h)
theorem W_add (a b : Int) : W (add a b) := ⟨Int.emod_nonneg _ (by decide), Int.emod_lt_of_pos _ (by decide)⟩
theorem rnd_ok {s : S8} (h : s.ok) (k w : Int) : (rnd k w s).ok := ⟨W_add _ _, h.a, h.b, h.c, W_add _ _, h.e, h.f, h.g⟩
theorem rounds_ok {s : S8} (h : s.ok) (w : List Int) : ∀ n, (rounds w s n).ok
 | 0 => h
 | n + 1 => rnd_ok (rounds_ok h w n) _ _
theorem addS_ok (s v : S8) : (addS s v).ok := ⟨W_add _ _, W_add _ _, W_add _ _, W_add _ _, W_add _ _, W_add _ _, W_add _ _, W_add _ _⟩
theorem comp_ok (s : S8) (b : List Int) : (comp s b).ok := addS_ok _ _
theorem S0_ok : S0.ok := by refine ⟨?_, ?_, ?_, ?_, ?_, ?_, ?_, ?_⟩ <;> exact ⟨by decide, by decide⟩
theorem chew_ok (m : List Int) : ∀ n, (chew S0 m n).ok
 | 0 => S0_ok
 | n + 1 => comp_ok _ _
theorem Holds.ok {s : S8} {blk m : List Int} (h : Holds s blk m) : s.ok := by rw [h.st]; exact chew_ok _ _
end Go.Proofs.Sha

namespace Go.Proofs.Wire
open Go
def zig (n : Int) : Nat := if n < 0 then (-2 * n - 1).toNat else (2 * n).toNat
def vb : Nat → Nat → List Int
 | 0, z => [(z : Int)]
 | f + 1, z => if z < 128 then [(z : Int)] else ((z % 128 + 128 : Nat) : Int) :: vb f (z / 128)
def enc (n : Int) : List Int := vb 9 (zig n)
def encS (s : List Int) : List Int := enc s.length ++ s
theorem vb_small (f z : Nat) (h : z < 128) : vb f z = [(z : Int)] := by
 cases f with
 | zero => rfl
 | succ f => rw [vb, if_pos h]
theorem vb_great (f z : Nat) (h : 128 ≤ z) : vb (f + 1) z = ((z % 128 + 128 : Nat) : Int) :: vb f (z / 128) := by rw [vb, if_neg (by omega)]
theorem vb_length (f z : Nat) : (vb f z).length ≤ f + 1 := by
 induction f generalizing z with
 | zero => simp [vb]
 | succ f ih =>
  rw [vb]
  split
  ·simp
  ·have := ih (z / 128)
   simp
   omega
theorem vb_pos (f z : Nat) : 0 < (vb f z).length := by
 cases f with
 | zero => simp [vb]
 | succ f =>
  rw [vb]
  split <;> simp
theorem vb_byte : ∀ (f z : Nat), z < 128 ^ (f + 1) → ∀ x ∈ vb f z, 0 ≤ x ∧ x < 256
 | 0, z, h, x, hx => by
  simp [vb] at hx
  omega
 | f + 1, z, h, x, hx => by
  rw [vb] at hx
  split at hx
  ·simp at hx; omega
  ·rcases List.mem_cons.1 hx with rfl | hx
   ·omega
   ·exact vb_byte f (z / 128) (by rw [Nat.pow_succ] at h; omega) x hx
theorem zig_lt (n : Int) (h0 : -9223372036854775808 ≤ n) (h1 : n ≤ 9223372036854775807) : zig n < 18446744073709551616 := by
 unfold zig
 split <;> omega
theorem enc_byte (n : Int) (h0 : -9223372036854775808 ≤ n) (h1 : n ≤ 9223372036854775807) : ∀ x ∈ enc n, 0 ≤ x ∧ x < 256 := by
 refine vb_byte 9 _ ?_
 have := zig_lt n h0 h1
 have e : (128 : Nat) ^ (9 + 1) = 1180591620717411303424 := by decide
 omega
theorem enc_length (n : Int) : (enc n).length ≤ 10 := vb_length 9 _
theorem enc_pos (n : Int) : 0 < (enc n).length := vb_pos 9 _
structure Digits (z : Nat) (k : Nat) (out : List Int) (r : Nat) : Prop where
 k9 : k ≤ 9
 len : out.length = k
 left : r < 2 ^ (64 - 7 * k)
 all : out ++ vb (9 - k) r = vb 9 z
theorem digits_start {z : Nat} (h : z < 18446744073709551616) : Digits z 0 [] z := ⟨by omega, rfl, by simpa using h, rfl⟩
theorem digits_step {z k r : Nat} {out : List Int} (h : Digits z k out r) (hr : 128 ≤ r) : Digits z (k + 1) (out ++ [((r % 128 + 128 : Nat) : Int)]) (r / 128) := by
 obtain ⟨h1, h2, h3, h4⟩ := h
 have hk : k ≤ 8 := by
  by_cases e : k = 9
  ·subst e
   have : (2 : Nat) ^ (64 - 7 * 9) = 2 := by decide
   omega
  ·omega
 refine ⟨by omega, by simp [h2], ?_, ?_⟩
 ·have e : 64 - 7 * k = (64 - 7 * (k + 1)) + 7 := by omega
  rw [e, Nat.pow_add] at h3
  have : (2 : Nat) ^ 7 = 128 := by decide
  rw [this] at h3
  exact Nat.div_lt_of_lt_mul (by rw [Nat.mul_comm]; exact h3)
 ·rw [← h4, show 9 - k = (9 - (k + 1)) + 1 by omega, vb_great _ _ hr]
  simp
theorem digits_end {z k r : Nat} {out : List Int} (h : Digits z k out r) (hr : r < 128) : out ++ [(r : Int)] = vb 9 z := by
 rw [← h.all, vb_small _ _ hr]
theorem digits_lt {z k r : Nat} {out : List Int} (h : Digits z k out r) : r < 18446744073709551616 := by
 have h3 := h.left
 have : (2 : Nat) ^ (64 - 7 * k) ≤ 2 ^ 64 := Nat.pow_le_pow_right (by decide) (by omega)
 have e : (2 : Nat) ^ 64 = 18446744073709551616 := by decide
 omega
def input (tag : Int) (parts : List (List Int)) : List Int := (tag % 256) :: parts.flatMap encS
def digest (tag : Int) (parts : List (List Int)) : List Int := (Sha.sha (input tag parts)).take 16
end Go.Proofs.Wire
namespace Go.Proofs.Sha
theorem out_length (s : S8) : (out s).length = 32 := by simp [out, out4]
theorem out4_byte (x : Int) : ∀ y ∈ out4 x, 0 ≤ y ∧ y < 256 := by
 intro y hy
 simp [out4] at hy
 rcases hy with rfl | rfl | rfl | rfl <;> omega
theorem out_byte (s : S8) : ∀ y ∈ out s, 0 ≤ y ∧ y < 256 := by
 intro y hy
 simp only [out, List.mem_append] at hy
 rcases hy with ((((((hy | hy) | hy) | hy) | hy) | hy) | hy) | hy
 all_goals exact out4_byte _ y hy
theorem sha_length (m : List Int) : (sha m).length = 32 := out_length _
theorem out_get (s : S8) (w : List Int) (hw : w = [s.a, s.b, s.c, s.d, s.e, s.f, s.g, s.h]) : ∀ i, i < 32 → (out s).getD i 0 = w.getD (i / 4) 0 / 2 ^ (24 - 8 * (i % 4)) % 256 := by
 subst hw
 intro i hi
 have hq : i / 4 < 8 := by omega
 have hr : i % 4 < 4 := by omega
 have e : (out s).getD i 0 = (out s).getD (4 * (i / 4) + i % 4) 0 := by congr 1; omega
 rw [e]
 generalize i / 4 = q at *
 generalize i % 4 = r at *
 rcases q with _ | _ | _ | _ | _ | _ | _ | _ | q
 all_goals first | omega | skip
 all_goals
  rcases r with _ | _ | _ | _ | r
  all_goals first | omega | simp [out, out4]
end Go.Proofs.Sha

namespace Go.Proofs.YtmgekdggahoboaaGreatDoor
open Go.RowKit
open Go.Proofs
def BytesIs (l : List Int) (w : World) (e : Ending) (w' : World) : Prop := ∃ A c, e = .returned (.slice A l.length c) ∧ OwnsB w.heap.size w' A c l ∧ Ext w w'
def IntRel (w : World) (z : Nat) (vz vo : Value) (wr : World) : Prop := ∃ (k r : Nat) (out : List Int) (A : Option Addr) (c : Nat), Wire.Digits z k out r ∧ vz = .int .u64 r ∧ vo = .slice A out.length c ∧ OwnsB w.heap.size wr A c out ∧ Ext w wr
theorem zig_bits (n : Int) (h0 : -9223372036854775808 ≤ n) (h1 : n ≤ 9223372036854775807) : bits .xor .u64 (IntKind.u64.wrap (IntKind.u64.wrap n * 2)) (IntKind.u64.wrap (n / 9223372036854775808)) = (Wire.zig n : Int) := by
 have e1 : IntKind.u64.wrap (IntKind.u64.wrap n * 2) = (2 * n) % 18446744073709551616 := by
  simp [IntKind.wrap, IntKind.bits, IntKind.signed]
  omega
 by_cases hn : n < 0
 ·have e2 : IntKind.u64.wrap (n / 9223372036854775808) = 18446744073709551615 := by
   have : n / 9223372036854775808 = -1 := by omega
   rw [this]; decide
  have hz : Wire.zig n = (-2 * n - 1).toNat := by unfold Wire.zig; rw [if_pos hn]
  have e3 : (2 * n) % 18446744073709551616 = ((18446744073709551615 - Wire.zig n : Nat) : Int) := by rw [hz]; omega
  rw [e1, e2, e3]
  have hzl := Wire.zig_lt n h0 h1
  have hx := u64_xor_nat (18446744073709551615 - Wire.zig n) 18446744073709551615 (by omega) (by omega)
  have k : (18446744073709551615 - Wire.zig n) ^^^ 18446744073709551615 = Wire.zig n := by
   generalize Wire.zig n = q at *
   have hq : (BitVec.ofNat 64 (18446744073709551615 - q) ^^^ BitVec.allOnes 64).toNat = (~~~ BitVec.ofNat 64 (18446744073709551615 - q)).toNat := by rw [BitVec.xor_allOnes]
   rw [BitVec.toNat_xor, BitVec.toNat_not, BitVec.toNat_allOnes, BitVec.toNat_ofNat, Nat.mod_eq_of_lt (by omega)] at hq
   have e : 2 ^ 64 - 1 = 18446744073709551615 := by decide
   rw [e] at hq
   rw [hq]
   omega
  rw [k] at hx
  exact hx
 ·have e2 : IntKind.u64.wrap (n / 9223372036854775808) = 0 := by
   have : n / 9223372036854775808 = 0 := by omega
   rw [this]; decide
  have hz : Wire.zig n = (2 * n).toNat := by unfold Wire.zig; rw [if_neg hn]
  have e3 : (2 * n) % 18446744073709551616 = ((Wire.zig n : Nat) : Int) := by rw [hz]; omega
  rw [e1, e2, e3]
  have hzl := Wire.zig_lt n h0 h1
  have hx := u64_xor_nat (Wire.zig n) 0 (by omega) (by omega)
  rw [Nat.xor_zero] at hx
  exact hx
theorem or8 (r : Nat) : bits .or .u8 ((r : Int) % 256) 128 = ((r % 128 + 128 : Nat) : Int) := by
 have : ∀ m : Fin 256, bits .or .u8 (m.val : Int) 128 = ((m.val % 128 + 128 : Nat) : Int) := by decide +kernel
 have k := this ⟨r % 256, by omega⟩
 have e : ((r % 256 : Nat) : Int) = (r : Int) % 256 := by omega
 simp only [] at k
 rw [e] at k
 rw [k]
 congr 2
 omega
theorem int_ok (n : Int) (w : World) (h0 : -9223372036854775808 ≤ n) (h1 : n ≤ 9223372036854775807) :
  Calls Tryz.prog 137 #[.int .i64 n] w (BytesIs (Wire.enc n) w) := by
 have hz := zig_bits n h0 h1
 have HZ := lh (Wire.zig_lt n h0 h1)
 have HE := lh (show Wire.vb 9 (Wire.zig n) = Wire.enc n from rfl)
 go_enter Tryz.func137, Tryz.ntmps137
 go_wp2
 clear hz
 generalize Wire.zig n = z at *
 go_loopw [3, 4] (IntRel w z) (fun v _ _ => (intOf v).toNat)
 case atStart => exact ⟨0, z, [], none, 0, Wire.digits_start HZ.out, rfl, rfl, Owns.nil _ _ _ _ _, eR _⟩
 case round =>
  obtain ⟨k, r, out, A, c, hd, rfl, rfl, ho, hx⟩ := hrel
  have HD := lh hd
  have HO := lh ho
  have HX := lh hx
  have hlen : out.length ≤ 9 := by have := hd.len; have := hd.k9; omega
  have hrl := Wire.digits_lt hd
  have hsz := hx.size
  clear hd ho hx
  by_cases hr : 128 ≤ r
  ·have ho8 := or8 r
   have HD2 := lh (Wire.digits_step HD.out hr)
   generalize ((r % 128 + 128 : Nat) : Int) = b at *
   go_wp2_with (at_builtin; refine app_from bT bE rfl _ _ rfl w.heap.size _ _ out rfl (HO.out.alloc _) _ 1 _ [b] rfl rfl (new_cells _ _ _) (by omega) (by omega) (by simp; omega) ?_; intro A2 c2 l2 w2 HL HO2 hB hl1 hl2 _; have HO2' := lh HO2; have HB2 := lh hB; clear HO2 hB)
   go_roundw
   case rel => exact ⟨k + 1, r / 128, l2, A2, c2, by rw [HL.out]; exact HD2.out, by go_num, rfl, HO2'.out, (HX.out.alloc _).grown HB2.out (Nat.le_refl _)⟩
   case measure => simp [intOf]; omega
  ·have HQ := lh ((Wire.digits_end HD.out (by omega)).trans HE.out)
   go_wp2_with (at_builtin; refine app_from bT bE rfl _ _ rfl w.heap.size _ _ out rfl (HO.out.alloc _) _ 1 _ [(r : Int)] rfl rfl (new_cells _ _ _) (by omega) (by omega) (by simp; omega) ?_; intro A2 c2 l2 w2 HL HO2 hB hl1 hl2 _; have HO2' := lh HO2; have HB2 := lh hB; clear HO2 hB)
   go_ret
   have e : l2 = Wire.enc n := HL.out.trans HQ.out
   subst e
   exact ⟨A2, c2, rfl, HO2'.out, (HX.out.alloc _).grown HB2.out (Nat.le_refl _)⟩
theorem zig_ref (n : Int) (h0 : -9223372036854775808 ≤ n) (h1 : n ≤ 9223372036854775807) (hn : ¬ n < 0) : n * 2 = (Wire.zig n : Int) := by
 have hz : Wire.zig n = (2 * n).toNat := by unfold Wire.zig; rw [if_neg hn]
 rw [hz]
 omega
theorem zig_refN (n : Int) (h0 : -9223372036854775808 ≤ n) (h1 : n ≤ 9223372036854775807) (hn : n < 0) : (-1 - n) * 2 + 1 = (Wire.zig n : Int) := by
 have hz : Wire.zig n = (-2 * n - 1).toNat := by unfold Wire.zig; rw [if_pos hn]
 rw [hz]
 omega
theorem rint_ok (n : Int) (w : World) (h0 : -9223372036854775808 ≤ n) (h1 : n ≤ 9223372036854775807) :
  Calls Tryz.prog 138 #[.int .i64 n] w (BytesIs (Wire.enc n) w) := by
 have HZ := lh (Wire.zig_lt n h0 h1)
 have HE := lh (show Wire.vb 9 (Wire.zig n) = Wire.enc n from rfl)
 by_cases hn : n < 0
 ·have hz := zig_refN n h0 h1 hn
  go_enter Tryz.func138, Tryz.ntmps138
  go_wp2
  clear hz
  generalize Wire.zig n = z at *
  go_loopw [3, 4] (IntRel w z) (fun v _ _ => (intOf v).toNat)
  case atStart => exact ⟨0, z, [], none, 0, Wire.digits_start HZ.out, rfl, rfl, Owns.nil _ _ _ _ _, eR _⟩
  case round =>
   obtain ⟨k, r, out, A, c, hd, rfl, rfl, ho, hx⟩ := hrel
   have HD := lh hd
   have HO := lh ho
   have HX := lh hx
   have hlen : out.length ≤ 9 := by have := hd.len; have := hd.k9; omega
   have hrl := Wire.digits_lt hd
   have hsz := hx.size
   clear hd ho hx
   by_cases hr : 128 ≤ r
   ·have HD2 := lh (Wire.digits_step HD.out hr)
    obtain ⟨b, hb⟩ : ∃ b : Int, ((r % 128 + 128 : Nat) : Int) = b := ⟨_, rfl⟩
    rw [hb] at HD2
    have hb1 : (r : Int) % 128 + 128 = b := by omega
    clear hb
    go_wp2_with (at_builtin; refine app_from bT bE rfl _ _ rfl w.heap.size _ _ out rfl (HO.out.alloc _) _ 1 _ [b] rfl rfl (new_cells _ _ _) (by omega) (by omega) (by simp; omega) ?_; intro A2 c2 l2 w2 HL HO2 hB hl1 hl2 _; have HO2' := lh HO2; have HB2 := lh hB; clear HO2 hB)
    go_roundw
    case rel => exact ⟨k + 1, r / 128, l2, A2, c2, by rw [HL.out]; exact HD2.out, by go_num, rfl, HO2'.out, (HX.out.alloc _).grown HB2.out (Nat.le_refl _)⟩
    case measure => simp [intOf]; omega
   ·have HQ := lh ((Wire.digits_end HD.out (by omega)).trans HE.out)
    go_wp2_with (at_builtin; refine app_from bT bE rfl _ _ rfl w.heap.size _ _ out rfl (HO.out.alloc _) _ 1 _ [(r : Int)] rfl rfl (new_cells _ _ _) (by omega) (by omega) (by simp; omega) ?_; intro A2 c2 l2 w2 HL HO2 hB hl1 hl2 _; have HO2' := lh HO2; have HB2 := lh hB; clear HO2 hB)
    go_ret
    have e : l2 = Wire.enc n := HL.out.trans HQ.out
    subst e
    exact ⟨A2, c2, rfl, HO2'.out, (HX.out.alloc _).grown HB2.out (Nat.le_refl _)⟩
 ·have hz := zig_ref n h0 h1 hn
  go_enter Tryz.func138, Tryz.ntmps138
  go_wp2
  clear hz
  generalize Wire.zig n = z at *
  go_loopw [3, 4] (IntRel w z) (fun v _ _ => (intOf v).toNat)
  case atStart => exact ⟨0, z, [], none, 0, Wire.digits_start HZ.out, rfl, rfl, Owns.nil _ _ _ _ _, eR _⟩
  case round =>
   obtain ⟨k, r, out, A, c, hd, rfl, rfl, ho, hx⟩ := hrel
   have HD := lh hd
   have HO := lh ho
   have HX := lh hx
   have hlen : out.length ≤ 9 := by have := hd.len; have := hd.k9; omega
   have hrl := Wire.digits_lt hd
   have hsz := hx.size
   clear hd ho hx
   by_cases hr : 128 ≤ r
   ·have HD2 := lh (Wire.digits_step HD.out hr)
    obtain ⟨b, hb⟩ : ∃ b : Int, ((r % 128 + 128 : Nat) : Int) = b := ⟨_, rfl⟩
    rw [hb] at HD2
    have hb1 : (r : Int) % 128 + 128 = b := by omega
    clear hb
    go_wp2_with (at_builtin; refine app_from bT bE rfl _ _ rfl w.heap.size _ _ out rfl (HO.out.alloc _) _ 1 _ [b] rfl rfl (new_cells _ _ _) (by omega) (by omega) (by simp; omega) ?_; intro A2 c2 l2 w2 HL HO2 hB hl1 hl2 _; have HO2' := lh HO2; have HB2 := lh hB; clear HO2 hB)
    go_roundw
    case rel => exact ⟨k + 1, r / 128, l2, A2, c2, by rw [HL.out]; exact HD2.out, by go_num, rfl, HO2'.out, (HX.out.alloc _).grown HB2.out (Nat.le_refl _)⟩
    case measure => simp [intOf]; omega
   ·have HQ := lh ((Wire.digits_end HD.out (by omega)).trans HE.out)
    go_wp2_with (at_builtin; refine app_from bT bE rfl _ _ rfl w.heap.size _ _ out rfl (HO.out.alloc _) _ 1 _ [(r : Int)] rfl rfl (new_cells _ _ _) (by omega) (by omega) (by simp; omega) ?_; intro A2 c2 l2 w2 HL HO2 hB hl1 hl2 _; have HO2' := lh HO2; have HB2 := lh hB; clear HO2 hB)
    go_ret
    have e : l2 = Wire.enc n := HL.out.trans HQ.out
    subst e
    exact ⟨A2, c2, rfl, HO2'.out, (HX.out.alloc _).grown HB2.out (Nat.le_refl _)⟩
theorem encS_eq (r : ByteArray) : Wire.encS (bts r) = Wire.enc (r.size : Int) ++ bts r := by rw [Wire.encS, bts_length]
theorem wbytes_ok (r : ByteArray) (w : World) (hr : r.size ≤ 140737488351232) :
  Calls Tryz.prog 135 #[.string r] w (BytesIs (Wire.encS (bts r)) w) := by
 have HE := lh (encS_eq r)
 have hl := Wire.enc_length (r.size : Int)
 go_enter Tryz.func135, Tryz.ntmps135
 go_wp2_with (first
  | (go_at_call 137; refine (int_ok _ _ (by omega) (by omega)).mono ?_; rintro e w1 ⟨A1, c1, rfl, ho, hx⟩; have HO := lh ho; have HX := lh hx; have hsz := hx.size; clear ho hx)
  | (at_builtin; refine app_str rfl _ _ rfl w.heap.size _ _ _ rfl HO.out _ rfl (by omega) (by omega) ?_; intro A2 c2 l2 w2 HL HO2 hB hl1 hl2; have HO2' := lh HO2; have HB2 := lh hB; clear HO2 hB))
 go_ret
 have e : l2 = Wire.encS (bts r) := HL.out.trans HE.out.symm
 subst e
 exact ⟨A2, c2, rfl, HO2'.out, HX.out.grown HB2.out (Nat.le_refl _)⟩
theorem rbytes_ok (r : ByteArray) (w : World) (hr : r.size ≤ 140737488351232) :
  Calls Tryz.prog 139 #[.string r] w (BytesIs (Wire.encS (bts r)) w) := by
 have HE := lh (encS_eq r)
 have hl := Wire.enc_length (r.size : Int)
 go_enter Tryz.func139, Tryz.ntmps139
 go_wp2_with (first
  | (go_at_call 138; refine (rint_ok _ _ (by omega) (by omega)).mono ?_; rintro e w1 ⟨A1, c1, rfl, ho, hx⟩; have HO := lh ho; have HX := lh hx; have hsz := hx.size; clear ho hx)
  | (at_builtin; refine app_str rfl _ _ rfl w.heap.size _ _ _ rfl HO.out _ rfl (by omega) (by omega) ?_; intro A2 c2 l2 w2 HL HO2 hB hl1 hl2; have HO2' := lh HO2; have HB2 := lh hB; clear HO2 hB))
 go_ret
 have e : l2 = Wire.encS (bts r) := HL.out.trans HE.out.symm
 subst e
 exact ⟨A2, c2, rfl, HO2'.out, HX.out.grown HB2.out (Nat.le_refl _)⟩
def encZ (x : Int) : List Value := [.int .i64 x]
theorem zE : EncTy encZ 1 := ⟨fun _ => rfl, fun x v hv => by simp [encZ] at hv; subst hv; rfl⟩
abbrev ReadsInt (w : World) (B : Nat) (A : Option Addr) (l : List Int) : Prop := Reads 1 encZ w B A l
theorem ReadsInt.cell {w : World} {B : Nat} {A : Option Addr} {l : List Int} (h : ReadsInt w B A l) (i : Nat) (hi : i < l.length) : ∃ b off, A = some ⟨b, off, none⟩ ∧ b < B ∧ w.cell? ⟨b, off + i, none⟩ = some (.int .i64 l[i]) := by
 obtain ⟨b, off, h1, h2, h3⟩ := h (by omega)
 exact ⟨b, off, h1, h2, by simpa using h3 i hi 0 _ rfl⟩
def i64 (n : Int) : Prop := -9223372036854775808 ≤ n ∧ n ≤ 9223372036854775807
def encInts (l : List Int) : List Int := Wire.enc l.length ++ l.flatMap Wire.enc
def intsTo (n : Nat) (l : List Int) : List Int := Wire.enc n ++ l.flatMap Wire.enc
theorem intsTo_succ (n : Nat) (l : List Int) (k : Nat) (h : k < l.length) : intsTo n (l.take (k + 1)) = intsTo n (l.take k) ++ Wire.enc l[k] := by
 unfold intsTo
 rw [List.take_succ_eq_append_getElem h, List.flatMap_append]
 simp
theorem flat_enc_len (l : List Int) : (l.flatMap Wire.enc).length ≤ 10 * l.length := by
 induction l with
 | nil => simp
 | cons x t ih =>
  rw [List.flatMap_cons, List.length_append, List.length_cons]
  have := Wire.enc_length x
  omega
theorem intsTo_len (n : Nat) (l : List Int) : (intsTo n l).length ≤ 10 * l.length + 10 := by
 unfold intsTo
 rw [List.length_append]
 have := flat_enc_len l
 have := Wire.enc_length n
 omega
theorem encInts_len (l : List Int) : (encInts l).length ≤ 10 * l.length + 10 := intsTo_len l.length l
theorem wlist_ok (A : Option Addr) (c : Nat) (l : List Int) (w : World) (hl : l.length ≤ 100000) (hr : ReadsInt w w.heap.size A l) (hi : ∀ x ∈ l, i64 x) :
  Calls Tryz.prog 136 #[.slice A l.length c, .func (.func 137) #[] #[]] w (BytesIs (encInts l) w) := by
 have HR := lh hr
 have HI := lh hi
 clear hr hi
 have HE : Hid (intsTo l.length l = encInts l) := lh rfl
 go_enter Tryz.func136, Tryz.ntmps136
 go_wp2_with (go_at_call 137; refine (int_ok _ _ (by omega) (by omega)).mono ?_; rintro e w1 ⟨A1, c1, rfl, ho, hx⟩; have HO1 := lh ho; have HX1 := lh hx; clear ho hx)
 go_loopw [5, 13] (fun o i wr => ∃ (A2 : Option Addr) (c2 : Nat) (out : List Int) (k : Nat), o = .slice A2 out.length c2 ∧ i = .int .i64 k ∧ k ≤ l.length ∧ Hid (out = intsTo l.length (l.take k)) ∧ Hid (OwnsB w.heap.size wr A2 c2 out) ∧ Hid (Ext w wr)) (fun _ i _ => l.length - (intOf i).toNat)
 case atStart => exact ⟨A1, c1, Wire.enc l.length, 0, rfl, rfl, Nat.zero_le _, lh (by unfold intsTo; simp), HO1, HX1⟩
 case round =>
  obtain ⟨A2, c2, out, k, rfl, rfl, hk, HOu, HO, HX⟩ := hrel
  have hsz := HX.out.size
  have hol : out.length ≤ 1000010 := by
   have h1 := intsTo_len l.length (l.take k)
   rw [← HOu.out, List.length_take] at h1
   omega
  by_cases hlt : k < l.length
  ·obtain ⟨b, off, rfl, hb, c1⟩ := ReadsInt.cell (HR.out.ext HX.out (Nat.le_refl _)) k hlt
   obtain ⟨i1, i2⟩ := HI.out _ (List.getElem_mem hlt)
   have HN := lh (intsTo_succ l.length l k hlt)
   generalize l[k] = x at *
   have hxl := Wire.enc_length x
   go_wp2_with (first
    | (go_at_call 137; refine (int_ok _ _ i1 i2).mono ?_; rintro e w3 ⟨A3, c3, rfl, ho, hx⟩; have HO3 := lh ho; have HX3 := lh hx; have hs3 := hx.size; clear ho hx)
    | (at_builtin; refine app_reads bT bE rfl _ _ rfl w.heap.size _ _ out rfl (HO.out.ext HX3.out) w3.heap.size _ _ (Wire.enc x) rfl (HO3.out.reads bE) HO3.out.none0 (by omega) (by omega) (by omega) ?_; intro A4 c4 l4 w4 HL HO4 hB hl1 hl2 _; have HO4' := lh HO4; have HB4 := lh hB; clear HO4 hB))
   go_roundw
   case rel => exact ⟨A4, c4, l4, k + 1, rfl, by go_num, by omega, lh (by rw [HL.out, HOu.out, HN.out]), HO4', lh ((HX.out.trans HX3.out).grown HB4.out (Nat.le_refl _))⟩
   case measure => simp [intOf]; omega
  ·have HF : Hid (out = encInts l) := lh (by rw [HOu.out, List.take_of_length_le (by omega), HE.out])
   go_wp2
   go_ret
   obtain rfl := HF.out
   exact ⟨A2, c2, rfl, HO.out, HX.out⟩
theorem wints_ok (A : Option Addr) (c : Nat) (l : List Int) (w : World) (hl : l.length ≤ 100000) (hr : ReadsInt w w.heap.size A l) (hi : ∀ x ∈ l, i64 x) :
  Calls Tryz.prog 84 #[.slice A l.length c] w (BytesIs (encInts l) w) := by
 have H := lh (wlist_ok A c l w hl hr hi)
 clear hr hi
 go_enter Tryz.func84, Tryz.ntmps84
 go_wp2_with (go_at_call 136; refine H.out.mono ?_; rintro e w1 ⟨A1, c1, rfl, ho, hx⟩; have HO1 := lh ho; have HX1 := lh hx; clear ho hx)
 go_ret
 exact ⟨A1, c1, rfl, HO1.out, HX1.out⟩
theorem encInts_pos (l : List Int) : 0 < (encInts l).length := by
 unfold encInts
 rw [List.length_append]
 have := Wire.enc_pos l.length
 omega
end Go.Proofs.YtmgekdggahoboaaGreatDoor