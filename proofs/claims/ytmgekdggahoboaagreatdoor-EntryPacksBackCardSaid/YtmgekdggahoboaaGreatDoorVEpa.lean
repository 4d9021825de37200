/- entry.unpack in all cases; entry.Unpack. -/
import Derived.WalkKit
import Derived.WalkSpells
import Derived.WalkLawsBesides
import Derived.Deep.QuietTactic
import Derived.BigQuiet
import Derived.WalkMore
import Derived.Test.YtmgekdggahoboaaGreatDoorVSl1
import Derived.Defers
import Derived.Recover
import Derived.Laws.Pointers
import Derived.Test.YtmgekdggahoboaaGreatDoorVBy
import Derived.Test.YtmgekdggahoboaaGreatDoorVMx
set_option maxRecDepth 100000
set_option maxHeartbeats 64000000
set_option linter.unusedVariables false
set_option linter.unusedSimpArgs false
namespace Go.Proofs.Wire
open Go
def getZ : Nat → Nat → List Int → Except Int (Nat × Nat)
 | _, _, [] => .error 10
 | k, z, c :: t => if (k = 9 ∧ 1 < c) ∨ (0 < k ∧ c = 0) then .error 11 else if c < 128 then .ok (z + c.toNat * 2 ^ (7 * k), k + 1) else getZ (k + 1) (z + (c.toNat - 128) * 2 ^ (7 * k)) t
def unzig (z : Nat) : Int := if z % 2 = 1 then -1 - (z / 2 : Nat) else ((z / 2 : Nat) : Int)
def getI (bs : List Int) : Int × Nat × Int := match getZ 0 0 bs with
 | .ok (z, u) => (unzig z, u, 0)
 | .error e => (0, 0, e)
theorem unzig_zig (n : Int) : unzig (zig n) = n := by
 unfold unzig zig
 split <;> split <;> omega
theorem getZ_vb : ∀ (f k z a : Nat) (rest : List Int), f + k = 9 → z < 2 ^ (64 - 7 * k) → (k = 0 ∨ 0 < z) → getZ k a (vb f z ++ rest) = .ok (a + z * 2 ^ (7 * k), k + (vb f z).length)
 | 0, k, z, a, rest, hf, hz, h0 => by
  have hk : k = 9 := by omega
  subst hk
  have hz2 : z < 2 := by simpa using hz
  rw [vb, List.cons_append, List.nil_append, getZ]
  rw [if_neg (by omega), if_pos (by omega)]
  simp
 | f + 1, k, z, a, rest, hf, hz, h0 => by
  by_cases h : z < 128
  ·rw [vb_small _ _ h, List.cons_append, List.nil_append, getZ, if_neg (by omega), if_pos (by omega)]
   simp
  ·rw [vb_great _ _ (by omega), List.cons_append, getZ, if_neg (by omega), if_neg (by omega)]
   have e1 : ((z % 128 + 128 : Nat) : Int).toNat - 128 = z % 128 := by omega
   have hp : (2 : Nat) ^ (64 - 7 * k) = 2 ^ (64 - 7 * (k + 1)) * 128 := by
    rw [show 64 - 7 * k = (64 - 7 * (k + 1)) + 7 by omega, Nat.pow_add]
   have hz2 : z / 128 < 2 ^ (64 - 7 * (k + 1)) := by rw [hp] at hz; exact Nat.div_lt_of_lt_mul (by rw [Nat.mul_comm]; exact hz)
   rw [e1, getZ_vb f (k + 1) (z / 128) _ rest (by omega) hz2 (.inr (by omega))]
   have e2 : ∀ P : Nat, z % 128 * P + z / 128 * (P * 128) = z * P := by
    intro P
    have hzz : z * P = (z % 128 + z / 128 * 128) * P := by rw [Nat.mod_add_div']
    rw [hzz, Nat.add_mul, Nat.mul_assoc (z / 128) 128 P, Nat.mul_comm 128 P]
   have e7 : (2 : Nat) ^ (7 * (k + 1)) = 2 ^ (7 * k) * 128 := by rw [show 7 * (k + 1) = 7 * k + 7 by omega, Nat.pow_add]
   rw [List.length_cons, e7, Nat.add_assoc, e2]
   rw [show k + 1 + (vb f (z / 128)).length = k + ((vb f (z / 128)).length + 1) from by rw [Nat.add_assoc, Nat.add_comm 1]]
theorem getI_enc (n : Int) (rest : List Int) (h0 : -9223372036854775808 ≤ n) (h1 : n ≤ 9223372036854775807) : getI (enc n ++ rest) = (n, (enc n).length, 0) := by
 have := zig_lt n h0 h1
 unfold getI enc
 rw [getZ_vb 9 0 (zig n) 0 rest rfl (by simpa using this) (.inl rfl)]
 simp [unzig_zig]
def getL (bs : List Int) (least : Int) : Int × Nat × Int :=
 if (getI bs).2.2 ≠ 0 then (0, 0, (getI bs).2.2) else if (getI bs).1 < 0 then (0, 0, 11) else if ((bs.length : Int) - (getI bs).2.1) / least < (getI bs).1 then (0, 0, 10) else getI bs
def getS (bs : List Int) : List Int × Nat × Int :=
 if (getL bs 1).2.2 ≠ 0 then ([], 0, (getL bs 1).2.2) else ((bs.drop (getL bs 1).2.1).take (getL bs 1).1.toNat, (getL bs 1).2.1 + (getL bs 1).1.toNat, 0)
theorem getL_enc (n : Nat) (rest : List Int) (h1 : n ≤ rest.length) (h : n ≤ 9223372036854775807) : getL (enc (n : Int) ++ rest) 1 = ((n : Int), (enc (n : Int)).length, 0) := by
 unfold getL
 rw [getI_enc (n : Int) rest (by omega) (by omega)]
 simp only [ne_eq, not_true, if_false]
 rw [if_neg (by omega), if_neg]
 rw [List.length_append]
 omega
theorem getS_enc (s rest : List Int) (h : s.length ≤ 9223372036854775807) : getS (encS s ++ rest) = (s, (encS s).length, 0) := by
 unfold getS encS
 rw [List.append_assoc, getL_enc s.length (s ++ rest) (by simp) h]
 simp only [ne_eq, not_true, if_false, Int.toNat_natCast]
 rw [List.drop_left, List.take_left, List.length_append]
def getN {α : Type} (one : List Int → α × Nat × Int) : Nat → List Int → Nat → List α → List α × Nat × Int
 | 0, _, at_, out => (out, at_, 0)
 | n + 1, bs, at_, out => if (one (bs.drop at_)).2.2 ≠ 0 then ([], 0, (one (bs.drop at_)).2.2) else getN one n bs (at_ + (one (bs.drop at_)).2.1) (out ++ [(one (bs.drop at_)).1])
def getAll {α : Type} (one : List Int → α × Nat × Int) (bs : List Int) : List α × Nat × Int :=
 if (getL bs 1).2.2 ≠ 0 then ([], 0, (getL bs 1).2.2) else getN one (getL bs 1).1.toNat bs (getL bs 1).2.1 []
def encAll {α : Type} (e : α → List Int) (l : List α) : List Int := enc (l.length : Int) ++ l.flatMap e
theorem getN_enc {α : Type} (one : List Int → α × Nat × Int) (e : α → List Int) (P : α → Prop) (h : ∀ x rest, P x → one (e x ++ rest) = (x, (e x).length, 0)) :
  ∀ (l : List α) (pre rest : List Int) (out : List α), (∀ x ∈ l, P x) → getN one l.length (pre ++ l.flatMap e ++ rest) pre.length out = (out ++ l, pre.length + (l.flatMap e).length, 0)
 | [], pre, rest, out, _ => by simp [getN]
 | x :: t, pre, rest, out, hp => by
  have hx := h x (t.flatMap e ++ rest) (hp x (by simp))
  have hd : (pre ++ (x :: t).flatMap e ++ rest).drop pre.length = e x ++ (t.flatMap e ++ rest) := by
   rw [List.flatMap_cons, List.append_assoc, List.drop_left, List.append_assoc]
  rw [List.length_cons, getN, hd, hx]
  simp only [ne_eq, not_true, if_false]
  have := getN_enc one e P h t (pre ++ e x) rest (out ++ [x]) (fun y hy => hp y (by simp [hy]))
  rw [List.length_append] at this
  rw [show pre ++ (x :: t).flatMap e ++ rest = pre ++ e x ++ t.flatMap e ++ rest by simp, this]
  simp [Nat.add_assoc]
theorem enc_len_le {α : Type} (e : α → List Int) : ∀ l : List α, (∀ x ∈ l, 1 ≤ (e x).length) → l.length ≤ (l.flatMap e).length
 | [], _ => by simp
 | x :: t, h => by
  have h1 := h x (by simp)
  have h2 := enc_len_le e t (fun y hy => h y (by simp [hy]))
  rw [List.flatMap_cons, List.length_append, List.length_cons]
  omega
theorem getAll_enc {α : Type} (one : List Int → α × Nat × Int) (e : α → List Int) (P : α → Prop) (h : ∀ x rest, P x → one (e x ++ rest) = (x, (e x).length, 0)) (l : List α) (rest : List Int) (hp : ∀ x ∈ l, P x) (h1 : ∀ x ∈ l, 1 ≤ (e x).length) (hl : l.length ≤ 9223372036854775807) :
  getAll one (encAll e l ++ rest) = (l, (encAll e l).length, 0) := by
 unfold getAll encAll
 have hle := enc_len_le e l h1
 rw [List.append_assoc, getL_enc l.length (l.flatMap e ++ rest) (by rw [List.length_append]; omega) hl]
 simp only [ne_eq, not_true, if_false, Int.toNat_natCast]
 rw [← List.append_assoc, getN_enc one e P h l (enc (l.length : Int)) rest [] hp]
 simp [List.length_append]
theorem getStrs_enc (l : List (List Int)) (rest : List Int) (hp : ∀ x ∈ l, x.length ≤ 9223372036854775807) (hl : l.length ≤ 9223372036854775807) : getAll getS (encAll encS l ++ rest) = (l, (encAll encS l).length, 0) :=
 getAll_enc getS encS (fun x => x.length ≤ 9223372036854775807) (fun x rest h => getS_enc x rest h) l rest hp (fun x _ => by
  have := enc_pos (x.length : Int)
  rw [encS, List.length_append]
  omega) hl
theorem getInts_enc (l : List Int) (rest : List Int) (hp : ∀ x ∈ l, -9223372036854775808 ≤ x ∧ x ≤ 9223372036854775807) (hl : l.length ≤ 9223372036854775807) : getAll getI (encAll enc l ++ rest) = (l, (encAll enc l).length, 0) :=
 getAll_enc getI enc (fun x => -9223372036854775808 ≤ x ∧ x ≤ 9223372036854775807) (fun x rest h => getI_enc x rest h.1 h.2) l rest hp (fun x _ => by
  have := enc_pos x
  omega) hl
theorem getZ_used : ∀ (bs : List Int) (k z a u : Nat), getZ k z bs = .ok (a, u) → k < u ∧ u ≤ k + bs.length
 | [], k, z, a, u, h => by simp [getZ] at h
 | c :: t, k, z, a, u, h => by
  rw [getZ] at h
  split at h
  ·cases h
  ·split at h
   ·injection h with h
    injection h with _ h
    subst h
    rw [List.length_cons]
    omega
   ·have := getZ_used t (k + 1) _ a u h
    rw [List.length_cons]
    omega
theorem getI_used (bs : List Int) : (getI bs).2.1 ≤ bs.length := by
 unfold getI
 split
 ·next z u h =>
  have := getZ_used bs 0 0 z u h
  show u ≤ _
  omega
 ·exact Nat.zero_le _
theorem getL_used (bs : List Int) (h : (getL bs 1).2.2 = 0) : 0 ≤ (getL bs 1).1 ∧ ((getL bs 1).2.1 : Int) + (getL bs 1).1 ≤ bs.length := by
 have hu := getI_used bs
 unfold getL at h ⊢
 split
 ·exact ⟨Int.le_refl _, by show ((0 : Nat) : Int) + 0 ≤ _; omega⟩
 ·split
  ·exact ⟨Int.le_refl _, by show ((0 : Nat) : Int) + 0 ≤ _; omega⟩
  ·split
   ·exact ⟨Int.le_refl _, by show ((0 : Nat) : Int) + 0 ≤ _; omega⟩
   ·next h1 h2 h3 =>
    rw [Int.ediv_one] at h3
    exact ⟨by omega, by omega⟩
theorem getS_used (bs : List Int) : (getS bs).2.1 ≤ bs.length := by
 unfold getS
 split
 ·exact Nat.zero_le _
 ·next h =>
  have := getL_used bs (by simpa using h)
  show (getL bs 1).2.1 + (getL bs 1).1.toNat ≤ _
  omega
theorem getN_used {α : Type} (one : List Int → α × Nat × Int) (h : ∀ bs, (one bs).2.1 ≤ bs.length) : ∀ (n : Nat) (bs : List Int) (at_ : Nat) (out : List α), at_ ≤ bs.length → (getN one n bs at_ out).2.1 ≤ bs.length
 | 0, bs, at_, out, ha => ha
 | n + 1, bs, at_, out, ha => by
  rw [getN]
  split
  ·exact Nat.zero_le _
  ·have := h (bs.drop at_)
   rw [List.length_drop] at this
   exact getN_used one h n bs _ _ (by omega)
theorem getAll_used {α : Type} (one : List Int → α × Nat × Int) (h : ∀ bs, (one bs).2.1 ≤ bs.length) (bs : List Int) : (getAll one bs).2.1 ≤ bs.length := by
 unfold getAll
 split
 ·exact Nat.zero_le _
 ·next h0 =>
  have := getL_used bs (by simpa using h0)
  exact getN_used one h _ bs _ _ (by omega)
theorem getN_step {α : Type} (one : List Int → α × Nat × Int) (n : Nat) (bs : List Int) (at_ : Nat) (out : List α) (h : (one (bs.drop at_)).2.2 = 0) : getN one (n + 1) bs at_ out = getN one n bs (at_ + (one (bs.drop at_)).2.1) (out ++ [(one (bs.drop at_)).1]) := by
 rw [getN, if_neg (by simpa using h)]
theorem getN_stop {α : Type} (one : List Int → α × Nat × Int) (n : Nat) (bs : List Int) (at_ : Nat) (out : List α) (h : (one (bs.drop at_)).2.2 ≠ 0) : getN one (n + 1) bs at_ out = ([], 0, (one (bs.drop at_)).2.2) := by
 rw [getN, if_pos h]
end Go.Proofs.Wire

namespace Go.Proofs.YtmgekdggahoboaaGreatDoor
open Go.RowKit
open Go.Proofs
theorem and127 (c : Int) (h0 : 0 ≤ c) (h1 : c < 256) : bits .and .u8 c 127 = c % 128 := by
 have key : ∀ m : Fin 256, bits .and .u8 (m.val : Int) 127 = ((m.val % 128 : Nat) : Int) := by decide +kernel
 have k := key ⟨c.toNat, by omega⟩
 have e : ((c.toNat : Nat) : Int) = c := by omega
 simp only [e] at k
 rw [k]
 omega
theorem or_place (z d k : Nat) (hz : z < 2 ^ k) (h : z + d * 2 ^ k < 18446744073709551616) : bits .or .u64 (z : Int) ((d * 2 ^ k : Nat) : Int) = ((z + d * 2 ^ k : Nat) : Int) := by
 rw [u64_or_nat _ _ (by omega) (by omega)]
 congr 1
 have := Nat.two_pow_add_eq_or_of_lt hz d
 rw [Nat.or_comm, Nat.mul_comm d, ← this, Nat.add_comm]
theorem unzig_bits (z : Nat) (hz : z < 18446744073709551616) : bits .xor .i64 ((z / 2 : Nat) : Int) (-((z % 2 : Nat) : Int)) = Wire.unzig z := by
 have e1 : BitVec.ofInt 64 (-1) = BitVec.allOnes 64 := by decide
 unfold Wire.unzig
 rcases Nat.mod_two_eq_zero_or_one z with h | h
 ·rw [h, if_neg (by omega)]
  show IntKind.i64.wrap ((BitVec.ofInt 64 ((z / 2 : Nat) : Int) ^^^ BitVec.ofInt 64 0).toNat : Int) = _
  rw [show BitVec.ofInt 64 0 = 0#64 by decide, BitVec.xor_zero, ofInt_u64 _ (by omega)]
  simp [IntKind.wrap, IntKind.bits, IntKind.signed]
  omega
 ·rw [h, if_pos rfl]
  show IntKind.i64.wrap ((BitVec.ofInt 64 ((z / 2 : Nat) : Int) ^^^ BitVec.ofInt 64 (-1)).toNat : Int) = _
  rw [e1, BitVec.xor_allOnes, BitVec.toNat_not, ofInt_u64 _ (by omega)]
  simp [IntKind.wrap, IntKind.bits, IntKind.signed]
  omega
theorem wrap_small (n : Nat) (h : n < 18446744073709551616) : IntKind.u64.wrap (n : Int) = n := by
 simp [IntKind.wrap, IntKind.bits, IntKind.signed]
 omega
theorem or_digit (z k : Nat) (d : Int) (h0 : 0 ≤ d) (h1 : d < 256) (hz : z < 2 ^ (7 * k)) (hZ : z + d.toNat % 128 * 2 ^ (7 * k) < 18446744073709551616) :
  bits .or .u64 (z : Int) (IntKind.u64.wrap (IntKind.u64.wrap (bits .and .u8 d 127) * 2 ^ (7 * k))) = ((z + d.toNat % 128 * 2 ^ (7 * k) : Nat) : Int) := by
 have e1 : d % 128 = ((d.toNat % 128 : Nat) : Int) := by omega
 rw [and127 d h0 h1, e1, wrap_small _ (by omega)]
 have e2 : ((d.toNat % 128 : Nat) : Int) * 2 ^ (7 * k) = ((d.toNat % 128 * 2 ^ (7 * k) : Nat) : Int) := by rw [Int.natCast_mul, Int.natCast_pow]; rfl
 rw [e2, wrap_small _ (by omega)]
 exact or_place z _ (7 * k) hz hZ
theorem unzig_val (Z : Nat) (h : Z < 18446744073709551616) : bits .xor .i64 (wrap64 ((Z : Int) / 2)) (wrap64 (-wrap64 (bits .and .u64 (Z : Int) 1))) = Wire.unzig Z := by
 have e1 : bits .and .u64 (Z : Int) 1 = ((Z % 2 : Nat) : Int) := by
  have := u64_and_nat Z 1 h (by omega)
  rw [nat_mask1] at this
  exact this
 have e2 : wrap64 ((Z % 2 : Nat) : Int) = ((Z % 2 : Nat) : Int) := by unfold wrap64; omega
 have e3 : wrap64 (-((Z % 2 : Nat) : Int)) = -((Z % 2 : Nat) : Int) := by unfold wrap64; omega
 have e4 : wrap64 ((Z : Int) / 2) = ((Z / 2 : Nat) : Int) := by unfold wrap64; omega
 rw [e1, e2, e3, e4]
 exact unzig_bits Z h
theorem getZ_go {bs : List Int} {k z : Nat} (hk : k < bs.length) (hb : ∀ x ∈ bs, 0 ≤ x ∧ x < 256) (h : Wire.getZ 0 0 bs = Wire.getZ k z (bs.drop k)) (n1 : ¬ ((k = 9 ∧ 1 < bs[k]) ∨ (0 < k ∧ bs[k] = 0))) :
  (bs[k] < 128 → Wire.getZ 0 0 bs = .ok (z + bs[k].toNat * 2 ^ (7 * k), k + 1)) ∧ (¬ bs[k] < 128 → Wire.getZ 0 0 bs = Wire.getZ (k + 1) (z + (bs[k].toNat - 128) * 2 ^ (7 * k)) (bs.drop (k + 1))) := by
 rw [List.drop_eq_getElem_cons hk, Wire.getZ, if_neg n1] at h
 constructor
 ·intro h2
  rw [if_pos h2] at h
  exact h
 ·intro h2
  rw [if_neg h2] at h
  exact h
theorem getZ_bad {bs : List Int} {k z : Nat} (hk : k < bs.length) (h : Wire.getZ 0 0 bs = Wire.getZ k z (bs.drop k)) (n1 : (k = 9 ∧ 1 < bs[k]) ∨ (0 < k ∧ bs[k] = 0)) : Wire.getZ 0 0 bs = .error 11 := by
 rw [List.drop_eq_getElem_cons hk, Wire.getZ, if_pos n1] at h
 exact h
theorem getint_any (A : Option Addr) (c : Nat) (bs : List Int) (w : World) (hb : ∀ x ∈ bs, 0 ≤ x ∧ x < 256) (hl : bs.length ≤ 9223372036854775807) (hr : ReadsB w w.heap.size A bs) :
  Calls Tryz.prog 168 #[.slice A bs.length c] w fun r w' => r = .returned (.tuple #[.int .i64 (Wire.getI bs).1, .int .i64 (Wire.getI bs).2.1, .int .i64 (Wire.getI bs).2.2]) ∧ Ext w w' := by
 have HR := lh hr
 have HB := lh hb
 clear hr hb
 go_enter Tryz.func168, Tryz.ntmps168
 go_wp2
 go_step3
 go_wp2
 go_step3
 go_wp2
 go_loopw [2, 3, 4, 5, 6, 7, 8, 11] (fun _ _ _ zv uv _ _ iv wr => ∃ k z : Nat, zv = .int .u64 z ∧ uv = .int .i64 0 ∧ iv = .int .i64 k ∧ k ≤ bs.length ∧ k ≤ 9 ∧ Hid (z < 2 ^ (7 * k)) ∧ Hid (Wire.getZ 0 0 bs = Wire.getZ k z (bs.drop k)) ∧ Hid (Ext w wr)) (fun _ _ _ _ _ _ _ iv _ => bs.length - (intOf iv).toNat)
 case atStart => exact ⟨0, 0, rfl, rfl, rfl, Nat.zero_le _, Nat.zero_le _, lh (by decide), lh rfl, lh (eR _)⟩
 case round =>
  obtain ⟨k, z, rfl, rfl, rfl, hk, hk9, HZ, HG, HX⟩ := hrel
  by_cases hlt : k < bs.length
  ·obtain ⟨b, off, rfl, hbb, hc⟩ := ReadsB.cell (HR.out.on HX.out) (by omega)
   have hck := hc k hlt
   have hg : bs.getD k 0 = bs[k] := by rw [List.getD_eq_getElem?_getD, List.getElem?_eq_getElem hlt]; rfl
   rw [hg] at hck
   obtain ⟨h0, h1⟩ := HB.out _ (List.getElem_mem hlt)
   have HBad := lh (getZ_bad hlt HG.out)
   have HGo := lh (getZ_go hlt HB.out HG.out)
   generalize bs[k] = d at *
   clear hg hc
   have hp : (2 : Nat) ^ (7 * (k + 1)) = 2 ^ (7 * k) * 128 := by rw [show 7 * (k + 1) = 7 * k + 7 by omega, Nat.pow_add]
   by_cases n1 : (k = 9 ∧ 1 < d) ∨ (0 < k ∧ d = 0)
   ·have HI : Hid (Wire.getI bs = (0, 0, 11)) := lh (by unfold Wire.getI; rw [HBad.out n1])
    clear HBad HGo HG HZ hp
    go_wp2
    all_goals first
     | (exfalso; omega)
     | ((try rw [Exit.noGoto_ret]); go_ret3; exact ⟨by rw [HI.out]; rfl, HX.out⟩)
   ·have hZ : z + d.toNat % 128 * 2 ^ (7 * k) < 18446744073709551616 := by
     have hz := HZ.out
     by_cases k9 : k = 9
     ·subst k9
      have : d.toNat % 128 ≤ 1 := by omega
      have : d.toNat % 128 * 2 ^ (7 * 9) ≤ 1 * 2 ^ (7 * 9) := Nat.mul_le_mul_right _ this
      omega
     ·have h2 : (2 : Nat) ^ (7 * k) ≤ 2 ^ 56 := Nat.pow_le_pow_right (by omega) (by omega)
      have h3 : d.toNat % 128 * 2 ^ (7 * k) ≤ 127 * 2 ^ 56 := Nat.mul_le_mul (by omega) h2
      omega
    have hE := or_digit z k d h0 h1 HZ.out hZ
    have hV := unzig_val _ hZ
    obtain ⟨hg1, hg2⟩ := HGo.out n1
    by_cases h128 : d < 128
    ·have e1 : d.toNat % 128 = d.toNat := by omega
     rw [e1] at hE hV hZ
     have HI : Hid (Wire.getI bs = (Wire.unzig (z + d.toNat * 2 ^ (7 * k)), k + 1, 0)) := lh (by unfold Wire.getI; rw [hg1 h128])
     generalize z + d.toNat * 2 ^ (7 * k) = Z at *
     have HV := lh hV
     clear HBad HGo hg1 hg2 hp hZ HG e1 hV
     by_cases k9 : k = 9
     ·subst k9
      have hE9 : bits .or .u64 (z : Int) (IntKind.u64.wrap (IntKind.u64.wrap (bits .and .u8 d 127) * 9223372036854775808)) = (Z : Int) := by have h := hE; simpa using h
      clear hE HZ
      go_wp2
      all_goals first
       | (exfalso; omega)
       | ((try rw [Exit.noGoto_ret]); go_ret3; exact ⟨by rw [HI.out, ← HV.out]; rfl, HX.out⟩)
     ·clear HZ
      have k9' : ((k : Int) == 9) = false := by rw [beq_eq_false_iff_ne]; omega
      go_wp2
      all_goals first
       | (exfalso; omega)
       | ((try rw [Exit.noGoto_ret]); go_ret3; exact ⟨by rw [HI.out, ← HV.out]; rfl, HX.out⟩)
    ·have k9 : k ≠ 9 := by omega
     have e1 : d.toNat % 128 = d.toNat - 128 := by omega
     rw [e1] at hE hZ
     have hG2 := hg2 h128
     have hz2 : z + (d.toNat - 128) * 2 ^ (7 * k) < 2 ^ (7 * (k + 1)) := by
      have hz := HZ.out
      have h3 : (d.toNat - 128) * 2 ^ (7 * k) ≤ 127 * 2 ^ (7 * k) := Nat.mul_le_mul_right _ (by omega)
      rw [hp]
      omega
     generalize z + (d.toNat - 128) * 2 ^ (7 * k) = Z at *
     have HG2 := lh hG2
     have HZ2 := lh hz2
     have k9' : ((k : Int) == 9) = false := by rw [beq_eq_false_iff_ne]; omega
     have hk8 : k + 1 ≤ 9 := by omega
     have hkl : k + 1 ≤ bs.length := by omega
     clear HBad HGo hg1 hg2 hp hZ HG e1 hV HZ hG2 hz2
     go_wp2
     all_goals first
      | (exfalso; omega)
      | exact ⟨⟨k + 1, Z, rfl, rfl, by go_num, hkl, hk8, HZ2, HG2, HX⟩, by simp [intOf]; omega⟩
  ·have HI : Hid (Wire.getI bs = (0, 0, 10)) := lh (by
    unfold Wire.getI
    rw [HG.out, List.drop_eq_nil_of_le (by omega)]
    rfl)
   clear HG HZ
   go_wp2
   all_goals first
    | ((try rw [Exit.noGoto_ret]); go_ret3; exact ⟨by rw [HI.out]; rfl, HX.out⟩)
theorem length_any (A : Option Addr) (c : Nat) (bs : List Int) (w : World) (hb : ∀ x ∈ bs, 0 ≤ x ∧ x < 256) (hl : bs.length ≤ 9223372036854775807) (hr : ReadsB w w.heap.size A bs) :
  Calls Tryz.prog 206 #[.slice A bs.length c, .int .i64 1] w fun r w' => r = .returned (.tuple #[.int .i64 (Wire.getL bs 1).1, .int .i64 (Wire.getL bs 1).2.1, .int .i64 (Wire.getL bs 1).2.2]) ∧ Ext w w' := by
 have HG := lh (fun (W : World) (hx : Ext w W) => getint_any A c bs W hb hl (hr.on hx))
 have hu := Wire.getI_used bs
 have HL : Hid (Wire.getL bs 1 = if (Wire.getI bs).2.2 ≠ 0 then (0, 0, (Wire.getI bs).2.2) else if (Wire.getI bs).1 < 0 then (0, 0, 11) else if ((bs.length : Int) - (Wire.getI bs).2.1) / 1 < (Wire.getI bs).1 then (0, 0, 10) else Wire.getI bs) := lh rfl
 generalize Wire.getL bs 1 = R at *
 generalize Wire.getI bs = G at *
 obtain ⟨n, u, e⟩ := G
 clear hr hb
 dsimp only at HG hu HL
 have hq : ((bs.length : Int) - (u : Int)) / 1 = (bs.length : Int) - u := Int.ediv_one _
 by_cases he : e = 0
 ·subst he
  by_cases hn : n < 0
  ·have HR : Hid (R = (0, 0, 11)) := lh (by rw [HL.out, if_neg (by simp), if_pos hn])
   have dn : decide (n < 0) = true := decide_eq_true hn
   clear HL
   go_enter Tryz.func206, Tryz.ntmps206
   go_wp2_with (go_at_call 168; refine (HG.out _ (eR _)).mono ?_; rintro e w' ⟨rfl, hxl⟩; obtain ⟨xl, rfl⟩ := hxl.asLater; clear hxl)
   go_ret3
   exact ⟨by rw [HR.out]; rfl, (by (with_reducible repeat first|exact eR _|apply eD|apply eN|apply eA|apply eO|apply eS|apply eC);all_goals first|omega|simp <;> omega)⟩
  ·have dn : decide (n < 0) = false := decide_eq_false hn
   by_cases hm : (bs.length : Int) - u < n
   ·have HR : Hid (R = (0, 0, 10)) := lh (by rw [HL.out, if_neg (by simp), if_neg hn, if_pos (by rw [hq]; exact hm)])
    have dm : decide ((bs.length : Int) - u < n) = true := decide_eq_true hm
    clear HL hq
    go_enter Tryz.func206, Tryz.ntmps206
    go_wp2_with (go_at_call 168; refine (HG.out _ (eR _)).mono ?_; rintro e w' ⟨rfl, hxl⟩; obtain ⟨xl, rfl⟩ := hxl.asLater; clear hxl)
    go_ret3
    exact ⟨by rw [HR.out]; rfl, (by (with_reducible repeat first|exact eR _|apply eD|apply eN|apply eA|apply eO|apply eS|apply eC);all_goals first|omega|simp <;> omega)⟩
   ·have HR : Hid (R = (n, u, 0)) := lh (by rw [HL.out, if_neg (by simp), if_neg hn, if_neg (by rw [hq]; exact hm)])
    have dm : decide ((bs.length : Int) - u < n) = false := decide_eq_false hm
    clear HL hq
    go_enter Tryz.func206, Tryz.ntmps206
    go_wp2_with (go_at_call 168; refine (HG.out _ (eR _)).mono ?_; rintro e w' ⟨rfl, hxl⟩; obtain ⟨xl, rfl⟩ := hxl.asLater; clear hxl)
    go_ret3
    exact ⟨by rw [HR.out]; rfl, (by (with_reducible repeat first|exact eR _|apply eD|apply eN|apply eA|apply eO|apply eS|apply eC);all_goals first|omega|simp <;> omega)⟩
 ·have HR : Hid (R = (0, 0, e)) := lh (by rw [HL.out, if_pos he])
  have de : (e != 0) = true := by simpa using he
  clear HL
  go_enter Tryz.func206, Tryz.ntmps206
  go_wp2_with (go_at_call 168; refine (HG.out _ (eR _)).mono ?_; rintro e w' ⟨rfl, hxl⟩; obtain ⟨xl, rfl⟩ := hxl.asLater; clear hxl)
  go_ret3
  exact ⟨by rw [HR.out]; rfl, (by (with_reducible repeat first|exact eR _|apply eD|apply eN|apply eA|apply eO|apply eS|apply eC);all_goals first|omega|simp <;> omega)⟩
theorem conv_nob (w : World) (A : Option Addr) (c : Nat) : (convert 154 9 (.slice A 0 c)).run Tryz.prog w = .ok (.string (strOfNums [])) w := by
 have e : strOfNums [] = ByteArray.empty := by kernel_rfl
 rw [e, run_convert_bytes_string w 154 9 5 A 0 c (by kernel_rfl) (by kernel_rfl) (by kernel_rfl)]
 cases A with
 | none => simp [Conv.bytesToString, go_sem]
 | some a => simp [Conv.bytesToString, loadCellsFrom, go_sem]
theorem getL_is {bs : List Int} (h : (Wire.getL bs 1).2.2 = 0) : ∃ n u : Nat, Wire.getL bs 1 = ((n : Int), u, 0) ∧ u + n ≤ bs.length := by
 obtain ⟨h1, h2⟩ := Wire.getL_used bs h
 refine ⟨(Wire.getL bs 1).1.toNat, (Wire.getL bs 1).2.1, ?_, by omega⟩
 rw [show (((Wire.getL bs 1).1.toNat : Nat) : Int) = (Wire.getL bs 1).1 by omega, ← h]
theorem readsB_part {w : World} {B b off : Nat} {bs : List Int} (h : ReadsB w B (some ⟨b, off, none⟩) bs) (u n : Nat) (hn : u + n ≤ bs.length) : ReadsB w B (some ⟨b, off + u, none⟩) ((bs.drop u).take n) := by
 intro h0
 rw [List.length_take, List.length_drop] at h0
 obtain ⟨b', off', h1, h2, h3⟩ := h (by omega)
 injection h1 with h1
 injection h1 with h4 h5
 subst h4 h5
 refine ⟨_, _, rfl, h2, fun i hi j v hv => ?_⟩
 rw [List.length_take, List.length_drop] at hi
 rw [List.getElem_take, List.getElem_drop] at hv
 have := h3 (u + i) (by omega) j v hv
 rwa [show off + u + i * 1 + j = off + (u + i) * 1 + j by omega]
theorem getbytes_any (A : Option Addr) (c : Nat) (bs : List Int) (w : World) (hb : ∀ x ∈ bs, 0 ≤ x ∧ x < 256) (hl : bs.length ≤ 4611686018427387904) (hcap : bs.length ≤ c) (hz : A = none → c = 0) (hr : ReadsB w w.heap.size A bs) :
  Calls Tryz.prog 166 #[.slice A bs.length c] w fun r w' => r = .returned (.tuple #[.string (strOfNums (Wire.getS bs).1), .int .i64 (Wire.getS bs).2.1, .int .i64 (Wire.getS bs).2.2]) ∧ Ext w w' := by
 have HG := lh (fun (W : World) (hx : Ext w W) => length_any A c bs W hb (by omega) (hr.on hx))
 have HS : Hid (Wire.getS bs = if (Wire.getL bs 1).2.2 ≠ 0 then ([], 0, (Wire.getL bs 1).2.2) else ((bs.drop (Wire.getL bs 1).2.1).take (Wire.getL bs 1).1.toNat, (Wire.getL bs 1).2.1 + (Wire.getL bs 1).1.toNat, 0)) := lh rfl
 have HLi := lh (fun h => getL_is (bs := bs) h)
 have HR := lh hr
 generalize Wire.getS bs = R at *
 generalize Wire.getL bs 1 = G at *
 by_cases he : G.2.2 = 0
 ·obtain ⟨n, u, rfl, hun⟩ := HLi.out he
  dsimp only at HG HS
  have HRs : Hid (R = ((bs.drop u).take n, u + n, 0)) := lh (by rw [HS.out, if_neg (by simp)]; rfl)
  obtain ⟨AR, hAR⟩ : ∃ AR, (if c = u then A else A.map (fun x => x.add u)) = AR := ⟨_, rfl⟩
  have hcv : ∀ W, Ext w W → (convert 154 9 (.slice AR n (c - u))).run Tryz.prog W = .ok (.string (strOfNums ((bs.drop u).take n))) W := by
   intro W hx
   rcases Nat.eq_zero_or_pos n with h0 | h0
   ·subst h0
    rw [List.take_zero]
    exact conv_nob W _ _
   ·obtain ⟨b, off, rfl, _, _⟩ := ReadsB.cell HR.out (by omega)
    rw [if_neg (by omega)] at hAR
    have hAR' : AR = some ⟨b, off + u, none⟩ := by rw [← hAR]; show some ((⟨b, off, none⟩ : Addr).add u) = _; rw [addr_add]
    rw [hAR']
    have hlen : ((bs.drop u).take n).length = n := by rw [List.length_take, List.length_drop]; omega
    have h := conv_bytes (c - u) (readsB_part (HR.out.on hx) u n hun) (by omega)
    rwa [hlen] at h
  have hcl := fun x : Later => hcv _ (ext_later w x)
  clear HS HLi he hb hr hcv
  go_enter Tryz.func166, Tryz.ntmps166
  go_wp2_with (go_at_call 206; refine (HG.out _ (eR _)).mono ?_; rintro e w' ⟨rfl, hxl⟩; obtain ⟨xl, rfl⟩ := hxl.asLater; clear hxl)
  go_ret3
  exact ⟨by rw [HRs.out]; rfl, (by (with_reducible repeat first|exact eR _|apply eD|apply eN|apply eA|apply eO|apply eS|apply eC);all_goals first|omega|simp <;> omega)⟩
 ·have HRs : Hid (R = ([], 0, G.2.2)) := lh (by rw [HS.out, if_pos he])
  obtain ⟨n, u, e⟩ := G
  dsimp only at HG HRs he
  have de : (e != 0) = true := by simpa using he
  clear HS HLi hb hr
  go_enter Tryz.func166, Tryz.ntmps166
  go_wp2_with (go_at_call 206; refine (HG.out _ (eR _)).mono ?_; rintro e w' ⟨rfl, hxl⟩; obtain ⟨xl, rfl⟩ := hxl.asLater; clear hxl)
  go_ret3
  exact ⟨by rw [HRs.out]; rfl, (by (with_reducible repeat first|exact eR _|apply eD|apply eN|apply eA|apply eO|apply eS|apply eC);all_goals first|omega|simp <;> omega)⟩
def encT (x : List Int) : List Value := [.string (strOfNums x)]
theorem tE : EncTy encT 1 := ⟨fun _ => rfl, fun x v hv => by simp [encT] at hv; subst hv; rfl⟩
def encN (x : Int) : List Value := [.int .i64 x]
theorem nE : EncTy encN 1 := ⟨fun _ => rfl, fun x v hv => by simp [encN] at hv; subst hv; rfl⟩
theorem nT : ElemTy Tryz.prog 46 3 1 8 := ⟨by kernel_rfl, by kernel_rfl, by omega⟩
theorem reads_freshC {α : Type} {size : Nat} {enc : α → List Value} (E : EncTy enc size) (l : List α) (W : World) (cs : Array Value) (t : TypeId) (h : cs.toList = l.flatMap enc) (b : Nat) (hb : b = W.heap.size) : Reads size enc (W.alloc (.cells cs t)) (W.alloc (.cells cs t)).heap.size (some ⟨b, 0, none⟩) l := by
 subst hb
 exact reads_fresh E l W cs t h
theorem readsB_from {w : World} {B : Nat} {A : Option Addr} {c : Nat} {bs : List Int} (h : ReadsB w B A bs) (hcap : bs.length ≤ c) (i : Nat) : ReadsB w B (if c = i then A else A.map (fun x => x.add i)) (bs.drop i) := by
 by_cases hi : i < bs.length
 ·obtain ⟨b, off, rfl, hb, _⟩ := h (by omega)
  rw [if_neg (by omega)]
  show ReadsB w B (some ((⟨b, off, none⟩ : Addr).add i)) (bs.drop i)
  rw [addr_add]
  have h2 := readsB_part h i (bs.length - i) (by omega)
  rwa [List.take_of_length_le (by rw [List.length_drop]; omega)] at h2
 ·rw [List.drop_eq_nil_of_le (by omega)]
  exact Reads.nil _ _ _ _ _
theorem from_none {A : Option Addr} {c i : Nat} (hz : A = none → c = 0) (h : (if c = i then A else A.map (fun x => x.add i)) = none) : c - i = 0 := by
 by_cases e : c = i
 ·omega
 ·rw [if_neg e] at h
  have := hz (by simpa using h)
  omega
def GetOut {α : Type} (t : TypeId) (enc : α → List Value) (R : List α × Nat × Int) (base : Nat) (r : Ending) (w' : World) : Prop :=
 ∃ A c l', r = .returned (.tuple #[.slice A l'.length c, .int .i64 R.2.1, .int .i64 R.2.2]) ∧ l' = R.1 ∧ Owns t 1 enc base w' A c l'
theorem gstr_any (A : Option Addr) (c : Nat) (bs : List Int) (w : World) (hb : ∀ x ∈ bs, 0 ≤ x ∧ x < 256) (hl : bs.length ≤ 1000000000) (hcap : bs.length ≤ c) (hz : A = none → c = 0) (hr : ReadsB w w.heap.size A bs) :
  Calls Tryz.prog 165 #[.slice A bs.length c, .int .i64 1, .func (.func 166) #[] #[]] w fun r w' => GetOut 9 encT (Wire.getAll Wire.getS bs) w.heap.size r w' ∧ Ext w w' := by
 have HL := lh (fun (W : World) (hx : Ext w W) => length_any A c bs W hb (by omega) (hr.on hx))
 have HA : Hid (Wire.getAll Wire.getS bs = if (Wire.getL bs 1).2.2 ≠ 0 then ([], 0, (Wire.getL bs 1).2.2) else Wire.getN Wire.getS (Wire.getL bs 1).1.toNat bs (Wire.getL bs 1).2.1 []) := lh rfl
 have HB := lh hb
 have HC := lh (fun (at_ : Nat) (AR : Option Addr) (W : World) (hAR : (if c = at_ then A else A.map (fun x => x.add at_)) = AR) (hr : ReadsB W W.heap.size AR (bs.drop at_)) => getbytes_any AR (c - at_) (bs.drop at_) W (fun x hx => HB.out x (List.mem_of_mem_drop hx)) (by rw [List.length_drop]; omega) (by rw [List.length_drop]; omega) (fun h => from_none hz (hAR.trans h)) hr)
 have HR := lh (fun (at_ : Nat) (W : World) (hx : Ext w W) => readsB_from (hr.on hx) hcap at_)
 have HLi := lh (fun h => getL_is (bs := bs) h)
 unfold GetOut
 generalize Wire.getAll Wire.getS bs = R at *
 generalize Wire.getL bs 1 = G at *
 clear hb hr
 by_cases he : G.2.2 = 0
 ·obtain ⟨n, u, rfl, hun⟩ := HLi.out he
  dsimp only at HL HA
  have HRs : Hid (R = Wire.getN Wire.getS n bs u []) := lh (by rw [HA.out, if_neg (by simp)]; rfl)
  clear HA HLi he
  go_enter Tryz.func165, Tryz.ntmps165
  go_wp2_with (go_at_call 206; refine (HL.out _ (eR _)).mono ?_; rintro e w' ⟨rfl, hxl⟩; obtain ⟨xl, rfl⟩ := hxl.asLater; clear hxl)
  clear HL
  go_loopw [6, 7, 8, 10, 12, 13, 14, 15, 27] (fun _ _ _ av ov _ _ _ iv wr => ∃ (k at_ : Nat) (Ao : Option Addr) (co : Nat) (out : List (List Int)), av = .int .i64 at_ ∧ ov = .slice Ao out.length co ∧ iv = .int .i64 k ∧ k ≤ n ∧ at_ ≤ bs.length ∧ out.length ≤ k ∧ Hid (R = Wire.getN Wire.getS (n - k) bs at_ out) ∧ Hid (Owns 9 1 encT w.heap.size wr Ao co out) ∧ Hid (Ext w wr)) (fun _ _ _ _ _ _ _ _ iv _ => n - (intOf iv).toNat)
  case atStart => exact ⟨0, u, none, 0, [], rfl, rfl, rfl, Nat.zero_le _, by omega, Nat.zero_le _, HRs, lh (Owns.nil _ _ _ _ _), lh (by (with_reducible repeat first|exact eR _|apply eD|apply eN|apply eA|apply eO|apply eS|apply eC);all_goals first|omega|simp <;> omega)⟩
  case round =>
   obtain ⟨k, at_, Ao, co, out, rfl, rfl, rfl, hk, hat, hol, HRk, HO, HX⟩ := hrel
   generalize hwA : wr = wA at *
   clear hwA
   have hsz := HX.out.size
   by_cases hlt : k < n
   ·obtain ⟨m, hm⟩ : ∃ m, n - k = m + 1 := ⟨n - k - 1, by omega⟩
    have hm2 : n - (k + 1) = m := by omega
    obtain ⟨AR, hAR⟩ : ∃ AR, (if c = at_ then A else A.map (fun x => x.add at_)) = AR := ⟨_, rfl⟩
    have hRk := HRk.out
    rw [hm] at hRk
    have hu := Wire.getS_used (bs.drop at_)
    rw [List.length_drop] at hu
    have HSt := lh (fun h => Wire.getN_step Wire.getS m bs at_ out h)
    have HSp := lh (fun h => Wire.getN_stop Wire.getS m bs at_ out h)
    have hcon := fun (W : World) (hx : Ext w W) => HC.out at_ AR W hAR (hAR ▸ HR.out at_ W hx)
    rw [List.length_drop] at hcon
    have HCk := lh hcon
    have hac : at_ ≤ c := by omega
    generalize Wire.getS (bs.drop at_) = Q at *
    obtain ⟨x, v, e⟩ := Q
    dsimp only at hu HSt HSp HCk
    clear HC HR hcon hm
    by_cases he : e = 0
    ·have HN : Hid (R = Wire.getN Wire.getS (n - (k + 1)) bs (at_ + v) (out ++ [x])) := lh (by rw [hRk, HSt.out he, hm2])
     subst he
     clear hRk HSt HSp HRk hm2
     go_wp2_with (first
      | (go_at_call 166; refine (HCk.out _ (HX.out.onto _)).mono ?_; rintro e w' ⟨rfl, hxl⟩; obtain ⟨xl, rfl⟩ := hxl.asLater; clear hxl)
      | (go_at_call 166; refine (HCk.out _ HX.out).mono ?_; rintro e w' ⟨rfl, hxl⟩; obtain ⟨xl, rfl⟩ := hxl.asLater; clear hxl)
      | (at_builtin; refine (show Hid _ from ?_).out))
     refine lh ?_
     refine app_reads strT tE rfl _ _ rfl w.heap.size _ _ out rfl (HO.out.ext ((ext_later wA xl).alloc _)) _ _ _ [x] rfl (reads_freshC tE [x] (later wA xl) _ _ rfl _ (later_size _ _).symm) (fun h => by cases h) (by simp; omega) (by simp; omega) (by simp [World.size_alloc, later_size]; omega) ?_
     intro A9 c9 l9 w9 HL9 hO9 hB9 hl91 hl92 _
     have HO9 := lh hO9
     have hl9 := HL9.out
     have HX9 : Hid (Ext w w9) := lh (Ext.grown ((HX.out.onto xl).alloc _) hB9 (Nat.le_refl _))
     have HN9 : Hid (R = Wire.getN Wire.getS (n - (k + 1)) bs (at_ + v) l9) := lh (by rw [hl9]; exact HN.out)
     have hlen9 : l9.length ≤ k + 1 := by rw [hl9]; simp; omega
     clear hO9 hB9 hl91 hl92 HL9 HN hl9
     go_wp2
     go_roundw
     case rel => exact ⟨k + 1, at_ + v, A9, c9, l9, by go_num, rfl, by go_num, by omega, by omega, hlen9, HN9, HO9, lh (by (with_reducible repeat first|exact HX9.out|exact eR _|apply eD|apply eN|apply eA|apply eO|apply eS|apply eC);all_goals first|omega|simp <;> omega)⟩
     case measure => simp [intOf]; omega
    ·have HN : Hid (R = ([], 0, e)) := lh (by rw [hRk, HSp.out he])
     have de : (e != 0) = true := by simpa using he
     clear hRk HSt HSp HRk hm2
     go_wp2_with (first
      | (go_at_call 166; refine (HCk.out _ (HX.out.onto _)).mono ?_; rintro e w' ⟨rfl, hxl⟩; obtain ⟨xl, rfl⟩ := hxl.asLater; clear hxl)
      | (go_at_call 166; refine (HCk.out _ HX.out).mono ?_; rintro e w' ⟨rfl, hxl⟩; obtain ⟨xl, rfl⟩ := hxl.asLater; clear hxl))
     go_ret3
     exact ⟨⟨none, 0, [], by rw [HN.out]; rfl, by rw [HN.out], Owns.nil _ _ _ _ _⟩, (by (with_reducible repeat first|exact HX.out|exact eR _|apply eD|apply eN|apply eA|apply eO|apply eS|apply eC);all_goals first|omega|simp <;> omega)⟩
   ·have hkn : n - k = 0 := by omega
    have hRk := HRk.out
    rw [hkn] at hRk
    have HN : Hid (R = (out, at_, 0)) := lh hRk
    clear hRk HRk HC HR
    go_wp2
    go_ret3
    exact ⟨⟨Ao, co, out, by rw [HN.out]; rfl, by rw [HN.out], HO.out⟩, (by (with_reducible repeat first|exact HX.out|exact eR _|apply eD|apply eN|apply eA|apply eO|apply eS|apply eC);all_goals first|omega|simp <;> omega)⟩
 ·have HN : Hid (R = ([], 0, G.2.2)) := lh (by rw [HA.out, if_pos he])
  obtain ⟨n, u, e⟩ := G
  dsimp only at HL HN he
  have de : (e != 0) = true := by simpa using he
  clear HA HLi HC HR
  go_enter Tryz.func165, Tryz.ntmps165
  go_wp2_with (go_at_call 206; refine (HL.out _ (eR _)).mono ?_; rintro e w' ⟨rfl, hxl⟩; obtain ⟨xl, rfl⟩ := hxl.asLater; clear hxl)
  go_ret3
  exact ⟨⟨none, 0, [], by rw [HN.out]; rfl, by rw [HN.out], Owns.nil _ _ _ _ _⟩, (by (with_reducible repeat first|exact eR _|apply eD|apply eN|apply eA|apply eO|apply eS|apply eC);all_goals first|omega|simp <;> omega)⟩
theorem gint_any (A : Option Addr) (c : Nat) (bs : List Int) (w : World) (hb : ∀ x ∈ bs, 0 ≤ x ∧ x < 256) (hl : bs.length ≤ 1000000000) (hcap : bs.length ≤ c) (hz : A = none → c = 0) (hr : ReadsB w w.heap.size A bs) :
  Calls Tryz.prog 167 #[.slice A bs.length c, .int .i64 1, .func (.func 168) #[] #[]] w fun r w' => GetOut 3 encN (Wire.getAll Wire.getI bs) w.heap.size r w' ∧ Ext w w' := by
 have HL := lh (fun (W : World) (hx : Ext w W) => length_any A c bs W hb (by omega) (hr.on hx))
 have HA : Hid (Wire.getAll Wire.getI bs = if (Wire.getL bs 1).2.2 ≠ 0 then ([], 0, (Wire.getL bs 1).2.2) else Wire.getN Wire.getI (Wire.getL bs 1).1.toNat bs (Wire.getL bs 1).2.1 []) := lh rfl
 have HB := lh hb
 have HC := lh (fun (at_ : Nat) (AR : Option Addr) (W : World) (hAR : (if c = at_ then A else A.map (fun x => x.add at_)) = AR) (hr : ReadsB W W.heap.size AR (bs.drop at_)) => getint_any AR (c - at_) (bs.drop at_) W (fun x hx => HB.out x (List.mem_of_mem_drop hx)) (by rw [List.length_drop]; omega) hr)
 have HR := lh (fun (at_ : Nat) (W : World) (hx : Ext w W) => readsB_from (hr.on hx) hcap at_)
 have HLi := lh (fun h => getL_is (bs := bs) h)
 unfold GetOut
 generalize Wire.getAll Wire.getI bs = R at *
 generalize Wire.getL bs 1 = G at *
 clear hb hr
 by_cases he : G.2.2 = 0
 ·obtain ⟨n, u, rfl, hun⟩ := HLi.out he
  dsimp only at HL HA
  have HRs : Hid (R = Wire.getN Wire.getI n bs u []) := lh (by rw [HA.out, if_neg (by simp)]; rfl)
  clear HA HLi he
  go_enter Tryz.func167, Tryz.ntmps167
  go_wp2_with (go_at_call 206; refine (HL.out _ (eR _)).mono ?_; rintro e w' ⟨rfl, hxl⟩; obtain ⟨xl, rfl⟩ := hxl.asLater; clear hxl)
  clear HL
  go_loopw [6, 7, 8, 10, 12, 13, 14, 15, 27] (fun _ _ _ av ov _ _ _ iv wr => ∃ (k at_ : Nat) (Ao : Option Addr) (co : Nat) (out : List (Int)), av = .int .i64 at_ ∧ ov = .slice Ao out.length co ∧ iv = .int .i64 k ∧ k ≤ n ∧ at_ ≤ bs.length ∧ out.length ≤ k ∧ Hid (R = Wire.getN Wire.getI (n - k) bs at_ out) ∧ Hid (Owns 3 1 encN w.heap.size wr Ao co out) ∧ Hid (Ext w wr)) (fun _ _ _ _ _ _ _ _ iv _ => n - (intOf iv).toNat)
  case atStart => exact ⟨0, u, none, 0, [], rfl, rfl, rfl, Nat.zero_le _, by omega, Nat.zero_le _, HRs, lh (Owns.nil _ _ _ _ _), lh (by (with_reducible repeat first|exact eR _|apply eD|apply eN|apply eA|apply eO|apply eS|apply eC);all_goals first|omega|simp <;> omega)⟩
  case round =>
   obtain ⟨k, at_, Ao, co, out, rfl, rfl, rfl, hk, hat, hol, HRk, HO, HX⟩ := hrel
   generalize hwA : wr = wA at *
   clear hwA
   have hsz := HX.out.size
   by_cases hlt : k < n
   ·obtain ⟨m, hm⟩ : ∃ m, n - k = m + 1 := ⟨n - k - 1, by omega⟩
    have hm2 : n - (k + 1) = m := by omega
    obtain ⟨AR, hAR⟩ : ∃ AR, (if c = at_ then A else A.map (fun x => x.add at_)) = AR := ⟨_, rfl⟩
    have hRk := HRk.out
    rw [hm] at hRk
    have hu := Wire.getI_used (bs.drop at_)
    rw [List.length_drop] at hu
    have HSt := lh (fun h => Wire.getN_step Wire.getI m bs at_ out h)
    have HSp := lh (fun h => Wire.getN_stop Wire.getI m bs at_ out h)
    have hcon := fun (W : World) (hx : Ext w W) => HC.out at_ AR W hAR (hAR ▸ HR.out at_ W hx)
    rw [List.length_drop] at hcon
    have HCk := lh hcon
    have hac : at_ ≤ c := by omega
    generalize Wire.getI (bs.drop at_) = Q at *
    obtain ⟨x, v, e⟩ := Q
    dsimp only at hu HSt HSp HCk
    clear HC HR hcon hm
    by_cases he : e = 0
    ·have HN : Hid (R = Wire.getN Wire.getI (n - (k + 1)) bs (at_ + v) (out ++ [x])) := lh (by rw [hRk, HSt.out he, hm2])
     subst he
     clear hRk HSt HSp HRk hm2
     go_wp2_with (first
      | (go_at_call 168; refine (HCk.out _ (HX.out.onto _)).mono ?_; rintro e w' ⟨rfl, hxl⟩; obtain ⟨xl, rfl⟩ := hxl.asLater; clear hxl)
      | (go_at_call 168; refine (HCk.out _ HX.out).mono ?_; rintro e w' ⟨rfl, hxl⟩; obtain ⟨xl, rfl⟩ := hxl.asLater; clear hxl)
      | (at_builtin; refine (show Hid _ from ?_).out))
     refine lh ?_
     refine app_reads nT nE rfl _ _ rfl w.heap.size _ _ out rfl (HO.out.ext ((ext_later wA xl).alloc _)) _ _ _ [x] rfl (reads_freshC nE [x] (later wA xl) _ _ rfl _ (later_size _ _).symm) (fun h => by cases h) (by simp; omega) (by simp; omega) (by simp [World.size_alloc, later_size]; omega) ?_
     intro A9 c9 l9 w9 HL9 hO9 hB9 hl91 hl92 _
     have HO9 := lh hO9
     have hl9 := HL9.out
     have HX9 : Hid (Ext w w9) := lh (Ext.grown ((HX.out.onto xl).alloc _) hB9 (Nat.le_refl _))
     have HN9 : Hid (R = Wire.getN Wire.getI (n - (k + 1)) bs (at_ + v) l9) := lh (by rw [hl9]; exact HN.out)
     have hlen9 : l9.length ≤ k + 1 := by rw [hl9]; simp; omega
     clear hO9 hB9 hl91 hl92 HL9 HN hl9
     go_wp2
     go_roundw
     case rel => exact ⟨k + 1, at_ + v, A9, c9, l9, by go_num, rfl, by go_num, by omega, by omega, hlen9, HN9, HO9, lh (by (with_reducible repeat first|exact HX9.out|exact eR _|apply eD|apply eN|apply eA|apply eO|apply eS|apply eC);all_goals first|omega|simp <;> omega)⟩
     case measure => simp [intOf]; omega
    ·have HN : Hid (R = ([], 0, e)) := lh (by rw [hRk, HSp.out he])
     have de : (e != 0) = true := by simpa using he
     clear hRk HSt HSp HRk hm2
     go_wp2_with (first
      | (go_at_call 168; refine (HCk.out _ (HX.out.onto _)).mono ?_; rintro e w' ⟨rfl, hxl⟩; obtain ⟨xl, rfl⟩ := hxl.asLater; clear hxl)
      | (go_at_call 168; refine (HCk.out _ HX.out).mono ?_; rintro e w' ⟨rfl, hxl⟩; obtain ⟨xl, rfl⟩ := hxl.asLater; clear hxl))
     go_ret3
     exact ⟨⟨none, 0, [], by rw [HN.out]; rfl, by rw [HN.out], Owns.nil _ _ _ _ _⟩, (by (with_reducible repeat first|exact HX.out|exact eR _|apply eD|apply eN|apply eA|apply eO|apply eS|apply eC);all_goals first|omega|simp <;> omega)⟩
   ·have hkn : n - k = 0 := by omega
    have hRk := HRk.out
    rw [hkn] at hRk
    have HN : Hid (R = (out, at_, 0)) := lh hRk
    clear hRk HRk HC HR
    go_wp2
    go_ret3
    exact ⟨⟨Ao, co, out, by rw [HN.out]; rfl, by rw [HN.out], HO.out⟩, (by (with_reducible repeat first|exact HX.out|exact eR _|apply eD|apply eN|apply eA|apply eO|apply eS|apply eC);all_goals first|omega|simp <;> omega)⟩
 ·have HN : Hid (R = ([], 0, G.2.2)) := lh (by rw [HA.out, if_pos he])
  obtain ⟨n, u, e⟩ := G
  dsimp only at HL HN he
  have de : (e != 0) = true := by simpa using he
  clear HA HLi HC HR
  go_enter Tryz.func167, Tryz.ntmps167
  go_wp2_with (go_at_call 206; refine (HL.out _ (eR _)).mono ?_; rintro e w' ⟨rfl, hxl⟩; obtain ⟨xl, rfl⟩ := hxl.asLater; clear hxl)
  go_ret3
  exact ⟨⟨none, 0, [], by rw [HN.out]; rfl, by rw [HN.out], Owns.nil _ _ _ _ _⟩, (by (with_reducible repeat first|exact eR _|apply eD|apply eN|apply eA|apply eO|apply eS|apply eC);all_goals first|omega|simp <;> omega)⟩
def encStrs (l : List ByteArray) : List Int := Wire.enc l.length ++ l.flatMap (fun s => Wire.encS (bts s))
def strsTo (n : Nat) (l : List ByteArray) : List Int := Wire.enc n ++ l.flatMap (fun s => Wire.encS (bts s))
theorem strsTo_succ (n : Nat) (l : List ByteArray) (k : Nat) (h : k < l.length) : strsTo n (l.take (k + 1)) = strsTo n (l.take k) ++ Wire.encS (bts l[k]) := by
 unfold strsTo
 rw [List.take_succ_eq_append_getElem h, List.flatMap_append]
 simp
theorem strsTo_len (n : Nat) (l : List ByteArray) (k : Nat) : (strsTo n (l.take k)).length ≤ (strsTo n l).length := by
 unfold strsTo
 conv => rhs; rw [← List.take_append_drop k l]
 rw [List.flatMap_append, List.length_append, List.length_append, List.length_append]
 omega
theorem strs_sizes (l : List ByteArray) : ∀ x ∈ l, (Wire.encS (bts x)).length ≤ (encStrs l).length ∧ x.size ≤ (encStrs l).length := by
 intro x hx
 obtain ⟨i, hi, rfl⟩ := List.getElem_of_mem hx
 have h1 : (Wire.encS (bts l[i])).length ≤ (encStrs l).length := by
  have h2 := strsTo_len l.length l (i + 1)
  rw [strsTo_succ l.length l i hi, List.length_append] at h2
  exact Nat.le_trans (Nat.le_add_left _ _) h2
 refine ⟨h1, ?_⟩
 have h3 : (bts l[i]).length ≤ (Wire.encS (bts l[i])).length := by unfold Wire.encS; rw [List.length_append]; omega
 rw [bts_length] at h3
 omega
theorem wlists_ok (A : Option Addr) (c : Nat) (l : List ByteArray) (w : World) (hl : l.length ≤ 100000) (hlen : (encStrs l).length ≤ 1000000000) (hr : ReadsStr w w.heap.size A l) :
  Calls Tryz.prog 134 #[.slice A l.length c, .func (.func 135) #[] #[]] w (BytesIs (encStrs l) w) := by
 have HR := lh hr
 have HLe := lh (fun k => strsTo_len l.length l k)
 have hsz := strs_sizes l
 clear hr
 have HE : Hid (strsTo l.length l = encStrs l) := lh rfl
 go_enter Tryz.func134, Tryz.ntmps134
 go_wp2_with (go_at_call 137; refine (int_ok _ _ (by omega) (by omega)).mono ?_; rintro e w1 ⟨A1, c1, rfl, ho, hx⟩; have HO1 := lh ho; have HX1 := lh hx; clear ho hx)
 go_loopw [5, 13] (fun o i wr => ∃ (A2 : Option Addr) (c2 : Nat) (out : List Int) (k : Nat), o = .slice A2 out.length c2 ∧ i = .int .i64 k ∧ k ≤ l.length ∧ Hid (out = strsTo l.length (l.take k)) ∧ Hid (OwnsB w.heap.size wr A2 c2 out) ∧ Hid (Ext w wr)) (fun _ i _ => l.length - (intOf i).toNat)
 case atStart => exact ⟨A1, c1, Wire.enc l.length, 0, rfl, rfl, Nat.zero_le _, lh (by unfold strsTo; simp), HO1, HX1⟩
 case round =>
  obtain ⟨A2, c2, out, k, rfl, rfl, hk, HOu, HO, HX⟩ := hrel
  have hsz2 := HX.out.size
  have hol : out.length ≤ 1000000000 := by
   have h1 := HLe.out k
   rw [← HOu.out] at h1
   have h2 : (strsTo l.length l).length ≤ 1000000000 := hlen
   omega
  by_cases hlt : k < l.length
  ·obtain ⟨b, off, rfl, hb, hc⟩ := (HR.out.ext HX.out (Nat.le_refl _)) (by omega)
   have c1 : wr.cell? ⟨b, off + k, none⟩ = some (.string l[k]) := by simpa using hc k hlt 0 _ rfl
   have hxs := hsz _ (List.getElem_mem hlt)
   have HN := lh (strsTo_succ l.length l k hlt)
   generalize l[k] = x at *
   have hxl : (Wire.encS (bts x)).length ≤ 1000000000 := by omega
   clear hc
   go_wp2_with (first
    | (go_at_call 135; refine (wbytes_ok x _ (by omega)).mono ?_; rintro e w3 ⟨A3, c3, rfl, ho, hx⟩; have HO3 := lh ho; have HX3 := lh hx; have hs3 := hx.size; clear ho hx)
    | (at_builtin; refine app_reads bT bE rfl _ _ rfl w.heap.size _ _ out rfl (HO.out.ext HX3.out) w3.heap.size _ _ (Wire.encS (bts x)) rfl (HO3.out.reads bE) HO3.out.none0 (by omega) (by omega) (by omega) ?_; intro A4 c4 l4 w4 HL HO4 hB hl1 hl2 _; have HO4' := lh HO4; have HB4 := lh hB; clear HO4 hB))
   go_roundw
   case rel => exact ⟨A4, c4, l4, k + 1, rfl, by go_num, by omega, lh (by rw [HL.out, HOu.out, HN.out]), HO4', lh ((HX.out.trans HX3.out).grown HB4.out (Nat.le_refl _))⟩
   case measure => simp [intOf]; omega
  ·have HF : Hid (out = encStrs l) := lh (by rw [HOu.out, List.take_of_length_le (by omega), HE.out])
   go_wp2
   go_ret
   obtain rfl := HF.out
   exact ⟨A2, c2, rfl, HO.out, HX.out⟩
theorem rstrs_ok (A : Option Addr) (c : Nat) (l : List ByteArray) (w : World) (hl : l.length ≤ 100000) (hlen : (encStrs l).length ≤ 1000000000) (hr : ReadsStr w w.heap.size A l) :
  Calls Tryz.prog 86 #[.slice A l.length c] w (BytesIs (encStrs l) w) := by
 have HR := lh hr
 have HLe := lh (fun k => strsTo_len l.length l k)
 have hsz := strs_sizes l
 clear hr
 have HE : Hid (strsTo l.length l = encStrs l) := lh rfl
 go_enter Tryz.func86, Tryz.ntmps86
 go_wp2_with (go_at_call 138; refine (rint_ok _ _ (by omega) (by omega)).mono ?_; rintro e w1 ⟨A1, c1, rfl, ho, hx⟩; have HO1 := lh ho; have HX1 := lh hx; clear ho hx)
 go_loopw [3, 4] (fun o i wr => ∃ (A2 : Option Addr) (c2 : Nat) (out : List Int) (k : Nat), o = .slice A2 out.length c2 ∧ i = .int .i64 k ∧ k ≤ l.length ∧ Hid (out = strsTo l.length (l.take k)) ∧ Hid (OwnsB w.heap.size wr A2 c2 out) ∧ Hid (Ext w wr)) (fun _ i _ => l.length - (intOf i).toNat)
 case atStart => exact ⟨A1, c1, Wire.enc l.length, 0, rfl, rfl, Nat.zero_le _, lh (by unfold strsTo; simp), HO1, HX1⟩
 case round =>
  obtain ⟨A2, c2, out, k, rfl, rfl, hk, HOu, HO, HX⟩ := hrel
  have hsz2 := HX.out.size
  have hol : out.length ≤ 1000000000 := by
   have h1 := HLe.out k
   rw [← HOu.out] at h1
   have h2 : (strsTo l.length l).length ≤ 1000000000 := hlen
   omega
  by_cases hlt : k < l.length
  ·obtain ⟨b, off, rfl, hb, hc⟩ := (HR.out.ext HX.out (Nat.le_refl _)) (by omega)
   have c1 : wr.cell? ⟨b, off + k, none⟩ = some (.string l[k]) := by simpa using hc k hlt 0 _ rfl
   have hxs := hsz _ (List.getElem_mem hlt)
   have HN := lh (strsTo_succ l.length l k hlt)
   generalize l[k] = x at *
   have hxl : (Wire.encS (bts x)).length ≤ 1000000000 := by omega
   clear hc
   go_wp2_with (first
    | (go_at_call 139; refine (rbytes_ok x _ (by omega)).mono ?_; rintro e w3 ⟨A3, c3, rfl, ho, hx⟩; have HO3 := lh ho; have HX3 := lh hx; have hs3 := hx.size; clear ho hx)
    | (at_builtin; refine app_reads bT bE rfl _ _ rfl w.heap.size _ _ out rfl (HO.out.ext HX3.out) w3.heap.size _ _ (Wire.encS (bts x)) rfl (HO3.out.reads bE) HO3.out.none0 (by omega) (by omega) (by omega) ?_; intro A4 c4 l4 w4 HL HO4 hB hl1 hl2 _; have HO4' := lh HO4; have HB4 := lh hB; clear HO4 hB))
   go_roundw
   case rel => exact ⟨A4, c4, l4, k + 1, rfl, by go_num, by omega, lh (by rw [HL.out, HOu.out, HN.out]), HO4', lh ((HX.out.trans HX3.out).grown HB4.out (Nat.le_refl _))⟩
   case measure => simp [intOf]; omega
  ·have HF : Hid (out = encStrs l) := lh (by rw [HOu.out, List.take_of_length_le (by omega), HE.out])
   go_wp2
   go_ret
   obtain rfl := HF.out
   exact ⟨A2, c2, rfl, HO.out, HX.out⟩
theorem wstrs_ok (A : Option Addr) (c : Nat) (l : List ByteArray) (w : World) (hl : l.length ≤ 100000) (hlen : (encStrs l).length ≤ 1000000000) (hr : ReadsStr w w.heap.size A l) :
  Calls Tryz.prog 83 #[.slice A l.length c] w (BytesIs (encStrs l) w) := by
 have H := lh (wlists_ok A c l w hl hlen hr)
 clear hr hlen
 go_enter Tryz.func83, Tryz.ntmps83
 go_wp2_with (go_at_call 134; refine H.out.mono ?_; rintro e w1 ⟨A1, c1, rfl, ho, hx⟩; have HO1 := lh ho; have HX1 := lh hx; clear ho hx)
 go_ret
 exact ⟨A1, c1, rfl, HO1.out, HX1.out⟩
theorem getstrs_any (A : Option Addr) (c : Nat) (bs : List Int) (w : World) (hb : ∀ x ∈ bs, 0 ≤ x ∧ x < 256) (hl : bs.length ≤ 1000000000) (hcap : bs.length ≤ c) (hz : A = none → c = 0) (hr : ReadsB w w.heap.size A bs) :
  Calls Tryz.prog 125 #[.slice A bs.length c] w fun r w' => GetOut 9 encT (Wire.getAll Wire.getS bs) w.heap.size r w' ∧ Ext w w' := by
 have H := lh (gstr_any A c bs w hb hl hcap hz hr)
 clear hr hb
 go_enter Tryz.func125, Tryz.ntmps125
 go_wp2_with (go_at_call 165; refine H.out.mono ?_; rintro e w1 ⟨⟨A1, c1, l1, rfl, hl1, ho⟩, hx⟩; have HO1 := lh ho; have HX1 := lh hx; have HL1 := lh hl1; clear ho hx hl1)
 go_ret3
 exact ⟨⟨A1, c1, l1, rfl, HL1.out, HO1.out⟩, HX1.out⟩
theorem getints_any (A : Option Addr) (c : Nat) (bs : List Int) (w : World) (hb : ∀ x ∈ bs, 0 ≤ x ∧ x < 256) (hl : bs.length ≤ 1000000000) (hcap : bs.length ≤ c) (hz : A = none → c = 0) (hr : ReadsB w w.heap.size A bs) :
  Calls Tryz.prog 127 #[.slice A bs.length c] w fun r w' => GetOut 3 encN (Wire.getAll Wire.getI bs) w.heap.size r w' ∧ Ext w w' := by
 have H := lh (gint_any A c bs w hb hl hcap hz hr)
 clear hr hb
 go_enter Tryz.func127, Tryz.ntmps127
 go_wp2_with (go_at_call 167; refine H.out.mono ?_; rintro e w1 ⟨⟨A1, c1, l1, rfl, hl1, ho⟩, hx⟩; have HO1 := lh ho; have HX1 := lh hx; have HL1 := lh hl1; clear ho hx hl1)
 go_ret3
 exact ⟨⟨A1, c1, l1, rfl, HL1.out, HO1.out⟩, HX1.out⟩
end Go.Proofs.YtmgekdggahoboaaGreatDoor

namespace Go.Proofs.YtmgekdggahoboaaGreatDoor
open Go.RowKit
open Go.Proofs
open Go.Proofs.Sp (Sp)
def packT (e : En) : List ByteArray := [e.st.addr, e.st.var, strOfNums e.st.body, e.st.tags, strOfNums e.st.seal_, e.bytes]
def n7 (e : En) : List Int := [e.st.status, e.st.size, e.st.lo, e.st.hi, e.st.gate, e.st.serial, if e.soft = true then 1 else 0]
def packN (e : En) (l : List Sp) : List Int := n7 e ++ l.flatMap (fun s => [s.1, s.2])
def packB (e : En) (l : List Sp) : ByteArray := strOfNums (encStrs (packT e)) ++ strOfNums (encInts (packN e l))
theorem flat2_len : ∀ l : List Sp, (l.flatMap (fun s => [s.1, s.2])).length = 2 * l.length
 | [] => rfl
 | x :: t => by
  rw [List.flatMap_cons, List.length_append, flat2_len t, List.length_cons]
  simp
  omega
theorem owns_t {α : Type} {T : TypeId} {size : Nat} {enc : α → List Value} (E : EncTy enc size) (l : List α) {w : World} {base g : Nat} {cs : Array Value} (hb : base ≤ g) (h : TRow w g cs T) (hc : cs.toList = l.flatMap enc) (hl : (decide (l.length ≤ 1000000)) = true) : Owns T size enc base w (some ⟨g, 0, none⟩) l.length l := by
 have hl' := of_decide_eq_true hl
 refine Owns.mk E hb h (Nat.le_refl _) (by unfold maxLen; omega) ?_ ?_
 ·have := congrArg List.length hc
  rw [E.flat_len] at this
  simpa using this
 ·rw [hc, List.take_of_length_le]
  rw [E.flat_len]
  exact Nat.le_refl _
theorem seal_reads {w : World} {B : Nat} {s : St} (h : RowAt w B (stmC s)) (h16 : s.seal_.length = 16) : ReadsB w w.heap.size (some ⟨B, 25, none⟩) s.seal_ := by
 intro _
 refine ⟨B, 25, rfl, h.lt, fun i hi j v hv => ?_⟩
 have hj : j = 0 := by
  have := (List.getElem?_eq_some_iff.1 hv).1
  simp [encB] at this
  omega
 subst hj
 simp only [encB, List.getElem?_cons_zero, Option.some.injEq] at hv
 subst hv
 have hr := h.row 25 16
 rw [if_neg (by omega), stm_seal, dgC_cells h16] at hr
 have hc := rowOf_cell hr (i := i) (by omega)
 rw [cells8_get, h16, if_pos (by omega)] at hc
 rw [Nat.mul_one, Nat.add_zero, hc]
 simp [hi]
theorem conv16 {w : World} {B b o : Nat} {l : List Int} (h : ReadsB w B (some ⟨b, o, none⟩) l) (h16 : l.length = 16) : (convert 154 9 (.slice (some ⟨b, o, none⟩) 16 16)).run Tryz.prog w = .ok (.string (strOfNums l)) w := by
 have := conv_bytes 16 h (by omega)
 rwa [h16] at this
theorem nums_size (l : List Int) : (strOfNums l).size = l.length := by
 show (strOfNums l).data.size = _
 rw [← Array.length_toList, strOfNums_data, List.length_map]
theorem encStrs_pos (l : List ByteArray) : 0 < (encStrs l).length := by
 unfold encStrs
 rw [List.length_append]
 have := Wire.enc_pos l.length
 omega
theorem pack_any (e : En) (A : Option Addr) (c : Nat) (l : List Sp) (w : World) (hv : e.hv = .slice A l.length c) (hl : l.length ≤ 10000) (hr : Reads 2 encSp w w.heap.size A l) (hb : e.st.body.length = 16) (hs : e.st.seal_.length = 16) (hi : ∀ x ∈ packN e l, i64 x) (hz : (encStrs (packT e)).length ≤ 1000000000) :
  Calls Tryz.prog 35 #[.agg (entC e)] w fun r w' => r = .returned (.string (packB e l)) ∧ Ext w w' := by
 have hfs := stm_fits e.st
 have HRw := lh hr
 clear hr
 go_enter Tryz.func35, Tryz.ntmps35
 go_upto_region 2 with (fail)
 refine wp_world (fun W => Ext w W ∧ RowAt W w.heap.size (entC e) ∧ RowAt W (w.heap.size + 1) (stmC e.st)) ⟨(by (with_reducible repeat first|exact eR _|apply eD|apply eN|apply eA|apply eO|apply eS|apply eC);all_goals first|omega|simp <;> omega), ?_, ?_⟩ ?_
 ·exact RowAt.others ((RowAt.new _ _ _).alloc _) (by omega) _ _
 ·exact RowAt.store (RowAt.newAt (by simp)) rfl
 obtain ⟨B, hB⟩ : ∃ B, w.heap.size = B := ⟨_, rfl⟩
 rw [hB]
 rintro W2 ⟨x2, u0, u1⟩
 have HX2 := lh x2
 have HU0 := lh u0
 have HU1 := lh u1
 have hl2 := u1.lt
 have HR := lh (HRw.out.on x2)
 have c2 : W2.cell? ⟨B + 1, 2, none⟩ = some (.int .i64 e.st.status) := (u1.cell 2).trans (stm_g2 _)
 have c3 : W2.cell? ⟨B + 1, 3, none⟩ = some (.int .i64 e.st.size) := (u1.cell 3).trans (stm_g3 _)
 have c21 : W2.cell? ⟨B + 1, 21, none⟩ = some (.int .i64 e.st.lo) := (u1.cell 21).trans (stm_g21 _)
 have c22 : W2.cell? ⟨B + 1, 22, none⟩ = some (.int .i64 e.st.hi) := (u1.cell 22).trans (stm_g22 _)
 have c23 : W2.cell? ⟨B + 1, 23, none⟩ = some (.int .i64 e.st.gate) := (u1.cell 23).trans (stm_g23 _)
 have c24 : W2.cell? ⟨B + 1, 24, none⟩ = some (.int .i64 e.st.serial) := (u1.cell 24).trans (stm_g24 _)
 clear x2 u0 u1 HRw hfs
 go_upto_region 3 with (fail)
 refine wp_world (fun W => Ext W2 W ∧ TRow W W2.heap.size #[.int .i64 e.st.status, .int .i64 e.st.size, .int .i64 e.st.lo, .int .i64 e.st.hi, .int .i64 e.st.gate, .int .i64 e.st.serial, .int .i64 0] 3) ⟨(by (with_reducible repeat first|exact eR _|apply eD|apply eN|apply eA|apply eO|apply eS|apply eC);all_goals first|omega|simp <;> omega), TRow.new _ _ _⟩ ?_
 obtain ⟨g, hg⟩ : ∃ g, W2.heap.size = g := ⟨_, rfl⟩
 rw [hg]
 rintro W3 ⟨x3, t3⟩
 have HX23 := lh x3
 have HT3 := lh t3
 have HU3 := lh (HU0.out.ext x3)
 have q41 : W3.cell? ⟨B, 41, none⟩ = some (.bool e.soft) := (HU3.out.cell 41).trans (ent_g41 e)
 have hlg := t3.row.lt
 clear x3 t3 c2 c3 c21 c22 c23 c24
 cases hsf : e.soft with
 | false =>
  have HT5 : Hid (TRow W3 g (#[.int .i64 e.st.status, .int .i64 e.st.size, .int .i64 e.st.lo, .int .i64 e.st.hi, .int .i64 e.st.gate, .int .i64 e.st.serial, .int .i64 (if e.soft = true then 1 else 0)]) 3) := lh (by rw [hsf]; exact HT3.out)
  rw [hsf] at q41
  go_upto_region 5 with (fail)
  refine wp_world (fun W => Ext W2 W ∧ TRow W g (#[.int .i64 e.st.status, .int .i64 e.st.size, .int .i64 e.st.lo, .int .i64 e.st.hi, .int .i64 e.st.gate, .int .i64 e.st.serial, .int .i64 (if e.soft = true then 1 else 0)]) 3 ∧ RowAt W B (entC e)) ⟨HX23.out, HT5.out, HU3.out⟩ ?_
  clear HT5
  rintro W5 ⟨x5, t5, u5⟩
  have HX25 := lh x5
  have HT5 := lh t5
  have HU5 := lh u5
  clear x5 t5 u5 HX23 HT3 HU3 q41
  have HOw : Hid (Owns 3 1 encZ W2.heap.size W5 (some ⟨g, 0, none⟩) 7 (n7 e)) := lh (owns_t zE (n7 e) (by omega) HT5.out rfl rfl)
  have HO0 := lh HOw.out
  have q42 : W5.cell? ⟨B, 42, none⟩ = some (.slice A l.length c) := (HU5.out.cell 42).trans ((ent_g42 e).trans (by rw [hv]))
  clear HT5 HOw
  go_wp2
  go_loopw [4, 6, 31] (fun o _ i wr => ∃ (k : Nat) (Ao : Option Addr) (co : Nat) (out : List Int), o = .slice Ao out.length co ∧ i = .int .i64 k ∧ k ≤ l.length ∧ Hid (out = n7 e ++ (l.take k).flatMap (fun s => [s.1, s.2])) ∧ Hid (Owns 3 1 encZ W2.heap.size wr Ao co out) ∧ Hid (Ext W2 wr)) (fun _ _ i _ => l.length - (intOf i).toNat)
  case atStart => exact ⟨0, some ⟨g, 0, none⟩, 7, n7 e, rfl, rfl, Nat.zero_le _, lh (by simp), HO0, HX25⟩
  case round =>
   obtain ⟨k, Ao, co, out, rfl, rfl, hk, HOu, HO, HX⟩ := hrel
   generalize hwA : wr = wA at *
   clear hwA
   have hsz := HX.out.size
   have hol : out.length ≤ 2 * l.length + 7 := by
    have h1 := flat2_len (l.take k)
    have h2 := congrArg List.length HOu.out
    rw [List.length_append, List.length_take] at *
    have h3 : (n7 e).length = 7 := rfl
    omega
   by_cases hlt : k < l.length
   ·obtain ⟨b, off, rfl, hb, hc⟩ := (HR.out.on HX.out) (by omega)
    have c0 : wA.cell? ⟨b, off + k * 2, none⟩ = some (.int .i64 l[k].1) := by simpa using hc k hlt 0 _ rfl
    have c1 : wA.cell? ⟨b, off + k * 2 + 1, none⟩ = some (.int .i64 l[k].2) := by simpa using hc k hlt 1 _ rfl
    have HN : Hid (n7 e ++ (l.take (k + 1)).flatMap (fun s => [s.1, s.2]) = out ++ [l[k].1, l[k].2]) := lh (by rw [HOu.out, List.take_succ_eq_append_getElem hlt, List.flatMap_append]; simp)
    generalize l[k].1 = x0 at *
    generalize l[k].2 = x1 at *
    clear hc
    go_wp2_with (at_builtin; refine (show Hid _ from ?_).out)
    refine lh ?_
    refine app_reads nT zE rfl _ _ rfl W2.heap.size _ _ out rfl (HO.out.ext (((Ext.refl wA).alloc _).alloc _)) _ _ _ [x0, x1] rfl (reads_freshC zE [x0, x1] (wA.alloc _) _ _ rfl _ (by simp [World.size_alloc])) (fun h => by cases h) (by simp; omega) (by simp; omega) (by simp [World.size_alloc]; omega) ?_
    intro A9 c9 l9 w9 HL9 hO9 hB9 _ _ _
    have HO9 := lh hO9
    have HX9 : Hid (Ext W2 w9) := lh (Ext.grown ((HX.out.alloc _).alloc _) hB9 (Nat.le_refl _))
    have HN9 := lh (HL9.out.trans HN.out.symm)
    clear hO9 hB9 HL9 HN c0 c1
    go_wp2
    go_roundw
    case rel => exact ⟨k + 1, A9, c9, l9, rfl, by go_num, by omega, HN9, HO9, lh (by (with_reducible repeat first|exact HX9.out|exact eR _|apply eD|apply eN|apply eA|apply eO|apply eS|apply eC);all_goals first|omega|simp <;> omega)⟩
    case measure => simp [intOf]; omega
   ·have HOe : Hid (out = packN e l) := lh (by rw [HOu.out, List.take_of_length_le (by omega)]; rfl)
    have hoi : ∀ x ∈ out, i64 x := by rw [HOe.out]; exact hi
    have HOi := lh hoi
    have u0 := HU0.out.ext HX.out
    have u1 := HU1.out.ext HX.out
    have HUs := lh u1
    have hB1 := u1.lt
    have d0 : wA.cell? ⟨B + 1, 0, none⟩ = some (.string e.st.addr) := (u1.cell 0).trans (stm_g0 _)
    have d1 : wA.cell? ⟨B + 1, 1, none⟩ = some (.string e.st.var) := (u1.cell 1).trans (stm_g1 _)
    have d20 : wA.cell? ⟨B + 1, 20, none⟩ = some (.string e.st.tags) := (u1.cell 20).trans (stm_g20 _)
    have d43 : wA.cell? ⟨B, 43, none⟩ = some (.string e.bytes) := (u0.cell 43).trans (ent_g43 _)
    have HXw := lh (HX2.out.trans HX.out)
    have hps : 0 < (encStrs (packT e)).length := encStrs_pos _
    have HRd := lh (HO.out.reads zE)
    have hol5 : out.length ≤ 100000 := by omega
    have hsx : (strOfNums (encStrs (packT e))).size ≤ 1000000000 := by rw [nums_size]; exact hz
    have hsy : (strOfNums (encInts out)).size ≤ 1000000000 := by rw [nums_size]; have := encInts_len out; omega
    clear u0 u1 hoi HO HX q42 HO0 HU5 HX25
    go_upto_region 10 with (fail)
    refine wp_region_softE 22 (softsL [.eq (.pointer (some ⟨B + 1, 0, none⟩)), .eq (.string e.st.addr), .eq (.pointer (some ⟨B + 1, 1, none⟩)), .eq (.string e.st.var), .eq (.pointer (some ⟨B + 1, 4, none⟩)), .eq (.slice (some ⟨B + 1, 4, none⟩) 16 16), .eq (.string (strOfNums e.st.body)), .eq (.pointer (some ⟨B + 1, 20, none⟩)), .eq (.string e.st.tags), .eq (.pointer (some ⟨B + 1, 25, none⟩)), .eq (.slice (some ⟨B + 1, 25, none⟩) 16 16), .eq (.string (strOfNums e.st.seal_)), .eq (.pointer (some ⟨B, 43, none⟩)), .eq (.string e.bytes), readS (packT e), readBy (encStrs (packT e)), .eq (.string (strOfNums (encStrs (packT e)))), .eq (.slice Ao out.length co), readBy (encInts out), .eq (.string (strOfNums (encInts out))), .eq (.string (strOfNums (encStrs (packT e)) ++ strOfNums (encInts out))), .eq (.string (strOfNums (encStrs (packT e)) ++ strOfNums (encInts out)))]) (by kernel_rfl) (by kernel_rfl) (lt_cons ?_ (lt_cons ?_ (lt_cons ?_ (lt_cons ?_ (lt_cons ?_ (lt_cons ?_ (lt_cons ?_ (lt_cons ?_ (lt_cons ?_ (lt_cons ?_ (lt_cons ?_ (lt_cons ?_ (lt_cons ?_ (lt_cons ?_ (lt_cons ?_ (lt_cons ?_ (lt_cons ?_ (lt_cons ?_ (lt_cons ?_ (lt_cons ?_ (lt_cons ?_ (lt_cons ?_ (lt_none))))))))))))))))))))))) ?_
    any_goals (refine sop rfl fun xs W HW hsW HD Q' HQ => ?_; simp only [fillAt, dstOf, lc0, lcs, obs, Act.put, lsa, lsz, lss, nz, Nat.reduceAdd] at HQ ⊢)
    ·
     go_wp2
     exact HQ.out _ _ (eR _) rfl
    ·
     have hd0 : xs 0 = .pointer (some ⟨B + 1, 0, none⟩) := (HD.out 0 (dk (by kernel_rfl)))
     generalize xs 0 = x0 at hd0 HQ ⊢; subst hd0
     have hc : W.cell? ⟨B+1, 0, none⟩ = some (.string e.st.addr) := (HW.out.cell (p := ⟨B+1, 0, none⟩) (by show B+1 < _; omega)).trans d0
     go_wp2
     exact HQ.out _ _ (eR _) rfl
    ·
     go_wp2
     exact HQ.out _ _ (eR _) rfl
    ·
     have hd2 : xs 2 = .pointer (some ⟨B + 1, 1, none⟩) := (HD.out 2 (dk (by kernel_rfl)))
     generalize xs 2 = x2 at hd2 HQ ⊢; subst hd2
     have hc : W.cell? ⟨B+1, 1, none⟩ = some (.string e.st.var) := (HW.out.cell (p := ⟨B+1, 1, none⟩) (by show B+1 < _; omega)).trans d1
     go_wp2
     exact HQ.out _ _ (eR _) rfl
    ·
     go_wp2
     exact HQ.out _ _ (eR _) rfl
    ·
     have hd4 : xs 4 = .pointer (some ⟨B + 1, 4, none⟩) := (HD.out 4 (dk (by kernel_rfl)))
     generalize xs 4 = x4 at hd4 HQ ⊢; subst hd4
     go_wp2
     exact HQ.out _ _ (eR _) rfl
    ·
     have hd5 : xs 5 = .slice (some ⟨B + 1, 4, none⟩) 16 16 := (HD.out 5 (dk (by kernel_rfl)))
     generalize xs 5 = x5 at hd5 HQ ⊢; subst hd5
     have hcv := conv16 (body_reads (HUs.out.ext HW.out) hb) hb
     go_wp2
     exact HQ.out _ _ (eR _) rfl
    ·
     go_wp2
     exact HQ.out _ _ (eR _) rfl
    ·
     have hd7 : xs 7 = .pointer (some ⟨B + 1, 20, none⟩) := (HD.out 7 (dk (by kernel_rfl)))
     generalize xs 7 = x7 at hd7 HQ ⊢; subst hd7
     have hc : W.cell? ⟨B+1, 20, none⟩ = some (.string e.st.tags) := (HW.out.cell (p := ⟨B+1, 20, none⟩) (by show B+1 < _; omega)).trans d20
     go_wp2
     exact HQ.out _ _ (eR _) rfl
    ·
     go_wp2
     exact HQ.out _ _ (eR _) rfl
    ·
     have hd9 : xs 9 = .pointer (some ⟨B + 1, 25, none⟩) := (HD.out 9 (dk (by kernel_rfl)))
     generalize xs 9 = x9 at hd9 HQ ⊢; subst hd9
     go_wp2
     exact HQ.out _ _ (eR _) rfl
    ·
     have hd10 : xs 10 = .slice (some ⟨B + 1, 25, none⟩) 16 16 := (HD.out 10 (dk (by kernel_rfl)))
     generalize xs 10 = x10 at hd10 HQ ⊢; subst hd10
     have hcv := conv16 (seal_reads (HUs.out.ext HW.out) hs) hs
     go_wp2
     exact HQ.out _ _ (eR _) rfl
    ·
     go_wp2
     exact HQ.out _ _ (eR _) rfl
    ·
     have hd12 : xs 12 = .pointer (some ⟨B, 43, none⟩) := (HD.out 12 (dk (by kernel_rfl)))
     generalize xs 12 = x12 at hd12 HQ ⊢; subst hd12
     have hc : W.cell? ⟨B, 43, none⟩ = some (.string e.bytes) := (HW.out.cell (p := ⟨B, 43, none⟩) (by show B < _; omega)).trans d43
     go_wp2
     exact HQ.out _ _ (eR _) rfl
    ·
     have hd1 : xs 1 = .string e.st.addr := (HD.out 1 (dk (by kernel_rfl)))
     generalize xs 1 = x1 at hd1 HQ ⊢; subst hd1
     have hd3 : xs 3 = .string e.st.var := (HD.out 3 (dk (by kernel_rfl)))
     generalize xs 3 = x3 at hd3 HQ ⊢; subst hd3
     have hd6 : xs 6 = .string (strOfNums e.st.body) := (HD.out 6 (dk (by kernel_rfl)))
     generalize xs 6 = x6 at hd6 HQ ⊢; subst hd6
     have hd8 : xs 8 = .string e.st.tags := (HD.out 8 (dk (by kernel_rfl)))
     generalize xs 8 = x8 at hd8 HQ ⊢; subst hd8
     have hd11 : xs 11 = .string (strOfNums e.st.seal_) := (HD.out 11 (dk (by kernel_rfl)))
     generalize xs 11 = x11 at hd11 HQ ⊢; subst hd11
     have hd13 : xs 13 = .string e.bytes := (HD.out 13 (dk (by kernel_rfl)))
     generalize xs 13 = x13 at hd13 HQ ⊢; subst hd13
     go_wp2
     exact HQ.out _ _ ((eR _).alloc _) ⟨_, _, rfl, reads_fresh sE (packT e) W _ _ rfl, fun h => (by cases h)⟩
    ·
     obtain ⟨A14, c14, h14, hr14, hz14⟩ : (readS (packT e)).S (xs 14) W := (HD.out 14 (dk (by kernel_rfl)))
     generalize xs 14 = x14 at h14 HQ ⊢; subst h14
     go_wp2_with (go_at_call 83; refine (wstrs_ok A14 c14 (packT e) W (by show 6 ≤ 100000; decide) hz hr14).mono ?_; rintro e w1 ⟨A, c, rfl, ho, hx⟩)
     exact HQ.out _ _ hx ⟨A, c, rfl, ho.reads bE⟩
    ·
     obtain ⟨A15, c15, h15, hr15⟩ : (readBy (encStrs (packT e))).S (xs 15) W := (HD.out 15 (dk (by kernel_rfl)))
     generalize xs 15 = x15 at h15 HQ ⊢; subst h15
     have hcv := conv_bytes c15 hr15 (hps)
     go_wp2
     exact HQ.out _ _ (eR _) rfl
    ·
     go_wp2
     exact HQ.out _ _ (eR _) rfl
    ·
     have hd17 : xs 17 = .slice Ao out.length co := (HD.out 17 (dk (by kernel_rfl)))
     generalize xs 17 = x17 at hd17 HQ ⊢; subst hd17
     go_wp2_with (go_at_call 84; refine (wints_ok Ao co out W hol5 (HRd.out.on HW.out) HOi.out).mono ?_; rintro e w1 ⟨A, c, rfl, ho, hx⟩)
     exact HQ.out _ _ hx ⟨A, c, rfl, ho.reads bE⟩
    ·
     obtain ⟨A18, c18, h18, hr18⟩ : (readBy (encInts out)).S (xs 18) W := (HD.out 18 (dk (by kernel_rfl)))
     generalize xs 18 = x18 at h18 HQ ⊢; subst h18
     have hcv := conv_bytes c18 hr18 (encInts_pos out)
     go_wp2
     exact HQ.out _ _ (eR _) rfl
    ·
     have hd16 : xs 16 = .string (strOfNums (encStrs (packT e))) := (HD.out 16 (dk (by kernel_rfl)))
     generalize xs 16 = x16 at hd16 HQ ⊢; subst hd16
     have hd19 : xs 19 = .string (strOfNums (encInts out)) := (HD.out 19 (dk (by kernel_rfl)))
     generalize xs 19 = x19 at hd19 HQ ⊢; subst hd19
     go_wp2
     exact HQ.out _ _ (eR _) rfl
    ·
     have hd20 : xs 20 = .string (strOfNums (encStrs (packT e)) ++ strOfNums (encInts out)) := (HD.out 20 (dk (by kernel_rfl)))
     generalize xs 20 = x20 at hd20 HQ ⊢; subst hd20
     go_wp2
     exact HQ.out _ _ (eR _) rfl
    intro xs W9 hW hS
    have h21 : xs 21 = .string (strOfNums (encStrs (packT e)) ++ strOfNums (encInts out)) := hS 21 (by omega)
    simp only [fillAt, dstOf, lc0, lcs, obs, Act.put, lsa, lsz, lss, nz, Nat.reduceAdd, List.drop_succ_cons, List.drop_zero, List.drop_nil]
    generalize xs 21 = x21 at *; subst h21
    have HW9 := lh (HXw.out.trans hW)
    have HWW9 := lh hW
    clear hS hW d0 d1 d20 d43
    go_wp2
    go_ret
    exact ⟨by rw [HOe.out]; rfl, HW9.out⟩
 | true =>
  rw [hsf] at q41
  have hBg : B ≠ g := by omega
  have f6 : W3.frozen? ⟨g, 6, none⟩ = false := HT3.out.row.free 6
  have c6 : W3.cell? ⟨g, 6, none⟩ = some (.int .i64 0) := HT3.out.row.cell 6
  go_upto_region 5 with (fail)
  refine wp_world (fun W => Ext W2 W ∧ TRow W g (#[.int .i64 e.st.status, .int .i64 e.st.size, .int .i64 e.st.lo, .int .i64 e.st.hi, .int .i64 e.st.gate, .int .i64 e.st.serial, .int .i64 (if e.soft = true then 1 else 0)]) 3 ∧ RowAt W B (entC e)) ⟨(by (with_reducible repeat first|exact HX23.out|exact eR _|apply eD|apply eN|apply eA|apply eO|apply eS|apply eC);all_goals first|omega|simp <;> omega), ?_, ?_⟩ ?_
  ·rw [hsf]
   exact HT3.out.sets 6 [.int .i64 1]
  ·exact HU3.out.other (p := ⟨g, 6, none⟩) hBg _
  rintro W5 ⟨x5, t5, u5⟩
  have HX25 := lh x5
  have HT5 := lh t5
  have HU5 := lh u5
  clear x5 t5 u5 HX23 HT3 HU3 q41
  have HOw : Hid (Owns 3 1 encZ W2.heap.size W5 (some ⟨g, 0, none⟩) 7 (n7 e)) := lh (owns_t zE (n7 e) (by omega) HT5.out rfl rfl)
  have HO0 := lh HOw.out
  have q42 : W5.cell? ⟨B, 42, none⟩ = some (.slice A l.length c) := (HU5.out.cell 42).trans ((ent_g42 e).trans (by rw [hv]))
  clear HT5 HOw
  go_wp2
  go_loopw [4, 6, 31] (fun o _ i wr => ∃ (k : Nat) (Ao : Option Addr) (co : Nat) (out : List Int), o = .slice Ao out.length co ∧ i = .int .i64 k ∧ k ≤ l.length ∧ Hid (out = n7 e ++ (l.take k).flatMap (fun s => [s.1, s.2])) ∧ Hid (Owns 3 1 encZ W2.heap.size wr Ao co out) ∧ Hid (Ext W2 wr)) (fun _ _ i _ => l.length - (intOf i).toNat)
  case atStart => exact ⟨0, some ⟨g, 0, none⟩, 7, n7 e, rfl, rfl, Nat.zero_le _, lh (by simp), HO0, HX25⟩
  case round =>
   obtain ⟨k, Ao, co, out, rfl, rfl, hk, HOu, HO, HX⟩ := hrel
   generalize hwA : wr = wA at *
   clear hwA
   have hsz := HX.out.size
   have hol : out.length ≤ 2 * l.length + 7 := by
    have h1 := flat2_len (l.take k)
    have h2 := congrArg List.length HOu.out
    rw [List.length_append, List.length_take] at *
    have h3 : (n7 e).length = 7 := rfl
    omega
   by_cases hlt : k < l.length
   ·obtain ⟨b, off, rfl, hb, hc⟩ := (HR.out.on HX.out) (by omega)
    have c0 : wA.cell? ⟨b, off + k * 2, none⟩ = some (.int .i64 l[k].1) := by simpa using hc k hlt 0 _ rfl
    have c1 : wA.cell? ⟨b, off + k * 2 + 1, none⟩ = some (.int .i64 l[k].2) := by simpa using hc k hlt 1 _ rfl
    have HN : Hid (n7 e ++ (l.take (k + 1)).flatMap (fun s => [s.1, s.2]) = out ++ [l[k].1, l[k].2]) := lh (by rw [HOu.out, List.take_succ_eq_append_getElem hlt, List.flatMap_append]; simp)
    generalize l[k].1 = x0 at *
    generalize l[k].2 = x1 at *
    clear hc
    go_wp2_with (at_builtin; refine (show Hid _ from ?_).out)
    refine lh ?_
    refine app_reads nT zE rfl _ _ rfl W2.heap.size _ _ out rfl (HO.out.ext (((Ext.refl wA).alloc _).alloc _)) _ _ _ [x0, x1] rfl (reads_freshC zE [x0, x1] (wA.alloc _) _ _ rfl _ (by simp [World.size_alloc])) (fun h => by cases h) (by simp; omega) (by simp; omega) (by simp [World.size_alloc]; omega) ?_
    intro A9 c9 l9 w9 HL9 hO9 hB9 _ _ _
    have HO9 := lh hO9
    have HX9 : Hid (Ext W2 w9) := lh (Ext.grown ((HX.out.alloc _).alloc _) hB9 (Nat.le_refl _))
    have HN9 := lh (HL9.out.trans HN.out.symm)
    clear hO9 hB9 HL9 HN c0 c1
    go_wp2
    go_roundw
    case rel => exact ⟨k + 1, A9, c9, l9, rfl, by go_num, by omega, HN9, HO9, lh (by (with_reducible repeat first|exact HX9.out|exact eR _|apply eD|apply eN|apply eA|apply eO|apply eS|apply eC);all_goals first|omega|simp <;> omega)⟩
    case measure => simp [intOf]; omega
   ·have HOe : Hid (out = packN e l) := lh (by rw [HOu.out, List.take_of_length_le (by omega)]; rfl)
    have hoi : ∀ x ∈ out, i64 x := by rw [HOe.out]; exact hi
    have HOi := lh hoi
    have u0 := HU0.out.ext HX.out
    have u1 := HU1.out.ext HX.out
    have HUs := lh u1
    have hB1 := u1.lt
    have d0 : wA.cell? ⟨B + 1, 0, none⟩ = some (.string e.st.addr) := (u1.cell 0).trans (stm_g0 _)
    have d1 : wA.cell? ⟨B + 1, 1, none⟩ = some (.string e.st.var) := (u1.cell 1).trans (stm_g1 _)
    have d20 : wA.cell? ⟨B + 1, 20, none⟩ = some (.string e.st.tags) := (u1.cell 20).trans (stm_g20 _)
    have d43 : wA.cell? ⟨B, 43, none⟩ = some (.string e.bytes) := (u0.cell 43).trans (ent_g43 _)
    have HXw := lh (HX2.out.trans HX.out)
    have hps : 0 < (encStrs (packT e)).length := encStrs_pos _
    have HRd := lh (HO.out.reads zE)
    have hol5 : out.length ≤ 100000 := by omega
    have hsx : (strOfNums (encStrs (packT e))).size ≤ 1000000000 := by rw [nums_size]; exact hz
    have hsy : (strOfNums (encInts out)).size ≤ 1000000000 := by rw [nums_size]; have := encInts_len out; omega
    clear u0 u1 hoi HO HX q42 HO0 HU5 HX25
    go_upto_region 10 with (fail)
    refine wp_region_softE 22 (softsL [.eq (.pointer (some ⟨B + 1, 0, none⟩)), .eq (.string e.st.addr), .eq (.pointer (some ⟨B + 1, 1, none⟩)), .eq (.string e.st.var), .eq (.pointer (some ⟨B + 1, 4, none⟩)), .eq (.slice (some ⟨B + 1, 4, none⟩) 16 16), .eq (.string (strOfNums e.st.body)), .eq (.pointer (some ⟨B + 1, 20, none⟩)), .eq (.string e.st.tags), .eq (.pointer (some ⟨B + 1, 25, none⟩)), .eq (.slice (some ⟨B + 1, 25, none⟩) 16 16), .eq (.string (strOfNums e.st.seal_)), .eq (.pointer (some ⟨B, 43, none⟩)), .eq (.string e.bytes), readS (packT e), readBy (encStrs (packT e)), .eq (.string (strOfNums (encStrs (packT e)))), .eq (.slice Ao out.length co), readBy (encInts out), .eq (.string (strOfNums (encInts out))), .eq (.string (strOfNums (encStrs (packT e)) ++ strOfNums (encInts out))), .eq (.string (strOfNums (encStrs (packT e)) ++ strOfNums (encInts out)))]) (by kernel_rfl) (by kernel_rfl) (lt_cons ?_ (lt_cons ?_ (lt_cons ?_ (lt_cons ?_ (lt_cons ?_ (lt_cons ?_ (lt_cons ?_ (lt_cons ?_ (lt_cons ?_ (lt_cons ?_ (lt_cons ?_ (lt_cons ?_ (lt_cons ?_ (lt_cons ?_ (lt_cons ?_ (lt_cons ?_ (lt_cons ?_ (lt_cons ?_ (lt_cons ?_ (lt_cons ?_ (lt_cons ?_ (lt_cons ?_ (lt_none))))))))))))))))))))))) ?_
    any_goals (refine sop rfl fun xs W HW hsW HD Q' HQ => ?_; simp only [fillAt, dstOf, lc0, lcs, obs, Act.put, lsa, lsz, lss, nz, Nat.reduceAdd] at HQ ⊢)
    ·
     go_wp2
     exact HQ.out _ _ (eR _) rfl
    ·
     have hd0 : xs 0 = .pointer (some ⟨B + 1, 0, none⟩) := (HD.out 0 (dk (by kernel_rfl)))
     generalize xs 0 = x0 at hd0 HQ ⊢; subst hd0
     have hc : W.cell? ⟨B+1, 0, none⟩ = some (.string e.st.addr) := (HW.out.cell (p := ⟨B+1, 0, none⟩) (by show B+1 < _; omega)).trans d0
     go_wp2
     exact HQ.out _ _ (eR _) rfl
    ·
     go_wp2
     exact HQ.out _ _ (eR _) rfl
    ·
     have hd2 : xs 2 = .pointer (some ⟨B + 1, 1, none⟩) := (HD.out 2 (dk (by kernel_rfl)))
     generalize xs 2 = x2 at hd2 HQ ⊢; subst hd2
     have hc : W.cell? ⟨B+1, 1, none⟩ = some (.string e.st.var) := (HW.out.cell (p := ⟨B+1, 1, none⟩) (by show B+1 < _; omega)).trans d1
     go_wp2
     exact HQ.out _ _ (eR _) rfl
    ·
     go_wp2
     exact HQ.out _ _ (eR _) rfl
    ·
     have hd4 : xs 4 = .pointer (some ⟨B + 1, 4, none⟩) := (HD.out 4 (dk (by kernel_rfl)))
     generalize xs 4 = x4 at hd4 HQ ⊢; subst hd4
     go_wp2
     exact HQ.out _ _ (eR _) rfl
    ·
     have hd5 : xs 5 = .slice (some ⟨B + 1, 4, none⟩) 16 16 := (HD.out 5 (dk (by kernel_rfl)))
     generalize xs 5 = x5 at hd5 HQ ⊢; subst hd5
     have hcv := conv16 (body_reads (HUs.out.ext HW.out) hb) hb
     go_wp2
     exact HQ.out _ _ (eR _) rfl
    ·
     go_wp2
     exact HQ.out _ _ (eR _) rfl
    ·
     have hd7 : xs 7 = .pointer (some ⟨B + 1, 20, none⟩) := (HD.out 7 (dk (by kernel_rfl)))
     generalize xs 7 = x7 at hd7 HQ ⊢; subst hd7
     have hc : W.cell? ⟨B+1, 20, none⟩ = some (.string e.st.tags) := (HW.out.cell (p := ⟨B+1, 20, none⟩) (by show B+1 < _; omega)).trans d20
     go_wp2
     exact HQ.out _ _ (eR _) rfl
    ·
     go_wp2
     exact HQ.out _ _ (eR _) rfl
    ·
     have hd9 : xs 9 = .pointer (some ⟨B + 1, 25, none⟩) := (HD.out 9 (dk (by kernel_rfl)))
     generalize xs 9 = x9 at hd9 HQ ⊢; subst hd9
     go_wp2
     exact HQ.out _ _ (eR _) rfl
    ·
     have hd10 : xs 10 = .slice (some ⟨B + 1, 25, none⟩) 16 16 := (HD.out 10 (dk (by kernel_rfl)))
     generalize xs 10 = x10 at hd10 HQ ⊢; subst hd10
     have hcv := conv16 (seal_reads (HUs.out.ext HW.out) hs) hs
     go_wp2
     exact HQ.out _ _ (eR _) rfl
    ·
     go_wp2
     exact HQ.out _ _ (eR _) rfl
    ·
     have hd12 : xs 12 = .pointer (some ⟨B, 43, none⟩) := (HD.out 12 (dk (by kernel_rfl)))
     generalize xs 12 = x12 at hd12 HQ ⊢; subst hd12
     have hc : W.cell? ⟨B, 43, none⟩ = some (.string e.bytes) := (HW.out.cell (p := ⟨B, 43, none⟩) (by show B < _; omega)).trans d43
     go_wp2
     exact HQ.out _ _ (eR _) rfl
    ·
     have hd1 : xs 1 = .string e.st.addr := (HD.out 1 (dk (by kernel_rfl)))
     generalize xs 1 = x1 at hd1 HQ ⊢; subst hd1
     have hd3 : xs 3 = .string e.st.var := (HD.out 3 (dk (by kernel_rfl)))
     generalize xs 3 = x3 at hd3 HQ ⊢; subst hd3
     have hd6 : xs 6 = .string (strOfNums e.st.body) := (HD.out 6 (dk (by kernel_rfl)))
     generalize xs 6 = x6 at hd6 HQ ⊢; subst hd6
     have hd8 : xs 8 = .string e.st.tags := (HD.out 8 (dk (by kernel_rfl)))
     generalize xs 8 = x8 at hd8 HQ ⊢; subst hd8
     have hd11 : xs 11 = .string (strOfNums e.st.seal_) := (HD.out 11 (dk (by kernel_rfl)))
     generalize xs 11 = x11 at hd11 HQ ⊢; subst hd11
     have hd13 : xs 13 = .string e.bytes := (HD.out 13 (dk (by kernel_rfl)))
     generalize xs 13 = x13 at hd13 HQ ⊢; subst hd13
     go_wp2
     exact HQ.out _ _ ((eR _).alloc _) ⟨_, _, rfl, reads_fresh sE (packT e) W _ _ rfl, fun h => (by cases h)⟩
    ·
     obtain ⟨A14, c14, h14, hr14, hz14⟩ : (readS (packT e)).S (xs 14) W := (HD.out 14 (dk (by kernel_rfl)))
     generalize xs 14 = x14 at h14 HQ ⊢; subst h14
     go_wp2_with (go_at_call 83; refine (wstrs_ok A14 c14 (packT e) W (by show 6 ≤ 100000; decide) hz hr14).mono ?_; rintro e w1 ⟨A, c, rfl, ho, hx⟩)
     exact HQ.out _ _ hx ⟨A, c, rfl, ho.reads bE⟩
    ·
     obtain ⟨A15, c15, h15, hr15⟩ : (readBy (encStrs (packT e))).S (xs 15) W := (HD.out 15 (dk (by kernel_rfl)))
     generalize xs 15 = x15 at h15 HQ ⊢; subst h15
     have hcv := conv_bytes c15 hr15 (hps)
     go_wp2
     exact HQ.out _ _ (eR _) rfl
    ·
     go_wp2
     exact HQ.out _ _ (eR _) rfl
    ·
     have hd17 : xs 17 = .slice Ao out.length co := (HD.out 17 (dk (by kernel_rfl)))
     generalize xs 17 = x17 at hd17 HQ ⊢; subst hd17
     go_wp2_with (go_at_call 84; refine (wints_ok Ao co out W hol5 (HRd.out.on HW.out) HOi.out).mono ?_; rintro e w1 ⟨A, c, rfl, ho, hx⟩)
     exact HQ.out _ _ hx ⟨A, c, rfl, ho.reads bE⟩
    ·
     obtain ⟨A18, c18, h18, hr18⟩ : (readBy (encInts out)).S (xs 18) W := (HD.out 18 (dk (by kernel_rfl)))
     generalize xs 18 = x18 at h18 HQ ⊢; subst h18
     have hcv := conv_bytes c18 hr18 (encInts_pos out)
     go_wp2
     exact HQ.out _ _ (eR _) rfl
    ·
     have hd16 : xs 16 = .string (strOfNums (encStrs (packT e))) := (HD.out 16 (dk (by kernel_rfl)))
     generalize xs 16 = x16 at hd16 HQ ⊢; subst hd16
     have hd19 : xs 19 = .string (strOfNums (encInts out)) := (HD.out 19 (dk (by kernel_rfl)))
     generalize xs 19 = x19 at hd19 HQ ⊢; subst hd19
     go_wp2
     exact HQ.out _ _ (eR _) rfl
    ·
     have hd20 : xs 20 = .string (strOfNums (encStrs (packT e)) ++ strOfNums (encInts out)) := (HD.out 20 (dk (by kernel_rfl)))
     generalize xs 20 = x20 at hd20 HQ ⊢; subst hd20
     go_wp2
     exact HQ.out _ _ (eR _) rfl
    intro xs W9 hW hS
    have h21 : xs 21 = .string (strOfNums (encStrs (packT e)) ++ strOfNums (encInts out)) := hS 21 (by omega)
    simp only [fillAt, dstOf, lc0, lcs, obs, Act.put, lsa, lsz, lss, nz, Nat.reduceAdd, List.drop_succ_cons, List.drop_zero, List.drop_nil]
    generalize xs 21 = x21 at *; subst h21
    have HW9 := lh (HXw.out.trans hW)
    have HWW9 := lh hW
    clear hS hW d0 d1 d20 d43
    go_wp2
    go_ret
    exact ⟨by rw [HOe.out]; rfl, HW9.out⟩
def brokenPanic : Ending := .panicked [{ v := .iface 148 (.agg #[]), recovered := false }]
theorem demand_t (w : World) : Calls Tryz.prog 126 #[.bool true] w fun r w' => r = .returned (.tuple #[]) ∧ Ext w w' := by
 go_enter Tryz.func126, Tryz.ntmps126
 go_wp2
 simp [bodyPost, results, Tryz.results126, go_sem]
 exact (by (with_reducible repeat first|exact eR _|apply eD|apply eN|apply eA|apply eO|apply eS|apply eC);all_goals first|omega|simp <;> omega)
theorem demand_f (w : World) : Calls Tryz.prog 126 #[.bool false] w fun r w' => r = brokenPanic ∧ Ext w w' := by
 have hb : ∀ W, (Instr.build 148 #[]).run Tryz.prog W = .ok (.agg #[]) W := fun W => by kernel_rfl
 go_enter Tryz.func126, Tryz.ntmps126
 go_wp2
 exact ⟨rfl, rfl, (by (with_reducible repeat first|exact eR _|apply eD|apply eN|apply eA|apply eO|apply eS|apply eC);all_goals first|omega|simp <;> omega)⟩
@[local go_sem] theorem assert_broken (v : Value) (W : World) : (Instr.typeAssert (.iface 148 v) 20 148 true).run Tryz.prog W = .ok (.tuple #[v, .bool true]) W := by kernel_rfl
theorem butS_cells {S : Nat → Prop} {a b : World} (h : ButS S a b) {m : Nat} (hm : S m ∨ a.heap.size ≤ m) (o : Nat) (vs : List Value) : ButS S a (b.setCells m o vs) := by
 induction vs generalizing o b with
 | nil => exact h
 | cons v r ih => exact ih (h.setCell (p := ⟨m, o, none⟩) hm v) (o + 1)
def enB0 : Sem Next := do pure (.value (← Instr.build 96 #[]))
theorem enB0_x (ρ : Operand → Value) (dst : Option Tmp) (t : TypeId) (pos : String) (after : Array Edge) (guard : Option (Nat × Bool)) : execOp ρ { dst, op := .build 96 #[], type := t, pos, after, guard } = enB0 := by kernel_rfl
theorem enB0_run (W : World) : enB0.run Tryz.prog W = .ok (.value (.agg (entC noEn))) W := by kernel_rfl
section
attribute [local go_sem ↓] enB0_x
attribute [local go_sem] enB0_run
theorem ucatch_panic (b1 b2 : Nat) (ds : Array Value) (y : Value) (w : World) (h1 : RowAt w b1 ds) (hz : ds.size = 45) (h2 : Boxed w b2 30 y) (hne : b1 ≠ b2) :
  CallsD Tryz.prog 76 #[.pointer (some ⟨b1, 0, none⟩), .pointer (some ⟨b2, 0, none⟩)] (.panicking ({ v := .iface 148 (.agg #[]), recovered := false } :: [])) w fun e u' w' =>
   e = .returned (.tuple #[]) ∧ u' = .panicking ({ v := .iface 148 (.agg #[]), recovered := true } :: []) ∧ RowAt w' b1 (entC noEn) ∧ Boxed w' b2 30 (.int .i64 3) ∧ ButS (fun k => k = b1 ∨ k = b2) w w' := by
 refine callsD_of_wpS Tryz.func76 rfl fun c₀ cs hu => ?_
 have g2 := h2.cell
 have g4 := h2.frozen
 have hfn : fitsRow 45 (entC noEn) = true := by kernel_rfl
 have m1 : roomOf (w.alloc (.cells #[] 148)) b1 0 45 = true := by rw [(h1.alloc _).room]; simp [hz]
 have hl1 := h1.lt
 have hl2 := h2.lt
 apply wpS_seq
 apply wpS_region
 simp [wpOpsS, go_sem, recoverD, hu, Tryz.ntmps76, Exit.thenS]
 try apply wpS_seq
 refine wpS_of_wp ?_
 simp only [List.size_toArray, List.length_cons, List.length_nil, Nat.reduceAdd, Nat.reduceSub, Array.replicate_succ, Array.replicate_zero, List.push_toArray, List.append_toArray, List.nil_append, List.cons_append, List.setIfInBounds_toArray, List.set_cons_succ, List.set_cons_zero, Nat.reduceLeDiff]
 go_wp2
 simp [bodyPostS, results, Tryz.results76]
 have r1 : RowAt ((w.alloc (.cells #[] 148)).setCells b1 0 (entC noEn).toList) b1 (entC noEn) := (h1.alloc _).store (show (entC noEn).size = ds.size by rw [hz]; rfl)
 refine ⟨r1.other (p := ⟨b2, 0, none⟩) hne _, ?_, ?_⟩
 ·have z : Boxed ((w.alloc (.cells #[] 148)).setCells b1 0 (entC noEn).toList) b2 30 y := (heap_sets_other _ _ b1 0 b2 (Ne.symm hne)).trans (h2.alloc _)
  exact z.set _
 ·exact (butS_cells ((ButS.refl (fun k => k = b1 ∨ k = b2) w).alloc _) (Or.inl (Or.inl rfl)) 0 _).setCell (p := ⟨b2, 0, none⟩) (Or.inl (Or.inr rfl)) _
theorem ucatch_idle (b1 b2 : Nat) (w : World) :
  CallsD Tryz.prog 76 #[.pointer (some ⟨b1, 0, none⟩), .pointer (some ⟨b2, 0, none⟩)] .returning w fun e u' w' => e = .returned (.tuple #[]) ∧ u' = .returning ∧ w' = w := by
 refine callsD_of_wpS Tryz.func76 rfl fun c₀ cs hu => ?_
 apply wpS_seq
 apply wpS_region
 simp [wpOpsS, go_sem, recoverD, hu, Tryz.ntmps76, Exit.thenS]
 refine wpS_of_wp ?_
 simp only [List.size_toArray, List.length_cons, List.length_nil, Nat.reduceAdd, Nat.reduceSub, Array.replicate_succ, Array.replicate_zero, List.push_toArray, List.append_toArray, List.nil_append, List.cons_append, List.setIfInBounds_toArray, List.set_cons_succ, List.set_cons_zero, Nat.reduceLeDiff]
 go_wp2
 cases c₀
 simp_all [bodyPostS, results, Tryz.results76]
end
end Go.Proofs.YtmgekdggahoboaaGreatDoor

namespace Go.Proofs.YtmgekdggahoboaaGreatDoor
open Go.RowKit
open Go.Proofs
open Go.Proofs.Sp (Sp)
theorem bts_bytU (s : ByteArray) : ∀ x ∈ bts s, 0 ≤ x ∧ x < 256 := fun x hx => by
 unfold bts at hx
 obtain ⟨b, _, rfl⟩ := List.mem_map.1 hx
 have := b.toNat_lt
 omega
theorem text_reads (W : World) (s : ByteArray) : ReadsB (Lib.bytesWorld W 5 s) (Lib.bytesWorld W 5 s).heap.size (some ⟨W.heap.size, 0, none⟩) (bts s) := by
 have hba := bytes_at W 5 s
 intro _
 refine ⟨W.heap.size, 0, rfl, hba.1, fun i hi j v hv => ?_⟩
 have hj : j = 0 := by
  have := (List.getElem?_eq_some_iff.1 hv).1
  simp [encB] at this
  omega
 subst hj
 simp only [encB, List.getElem?_cons_zero, Option.some.injEq] at hv
 subst hv
 have h := (hba.2 i hi).1
 rw [List.getD_eq_getElem?_getD, List.getElem?_eq_getElem hi] at h
 simpa using h
theorem unpack_t1 (s : ByteArray) (w : World) (hs : s.size ≤ 1000000) (h : (Wire.getAll Wire.getS (bts s)).2.2 ≠ 0) :
  Calls Tryz.prog 77 #[.string s] w fun r w' => r = brokenPanic ∧ Ext w w' := by
 have hD : ∀ W, Calls Tryz.prog 126 #[.bool false] W fun r w' => r = .panicked [{ v := .iface 148 (.agg #[]), recovered := false }] ∧ Ext W w' := demand_f
 have hl := bts_length s
 go_enter Tryz.func77, Tryz.ntmps77
 go_wp2
 rw [strConv]
 have hx0 : Ext w (Lib.bytesWorld (w.alloc (.cells (entC noEn) 96)) 5 s) := ((Ext.refl w).alloc _).trans (ext_bytes _ _ _)
 have hrd := text_reads (w.alloc (.cells (entC noEn) 96)) s
 have hge := grownCap_ge (w.alloc (.cells (entC noEn) 96)) s.size 0 5
 rw [World.size_alloc] at hrd
 generalize grownCap (w.alloc (.cells (entC noEn) 96)) s.size 0 5 = cap at *
 generalize Lib.bytesWorld (w.alloc (.cells (entC noEn) 96)) 5 s = W at *
 have hG := getstrs_any (some ⟨w.heap.size + 1, 0, none⟩) cap (bts s) W (bts_bytU s) (by omega) (by omega) (fun h => by cases h) hrd
 rw [hl] at hG
 unfold GetOut at hG
 have HX0 := lh hx0
 generalize Wire.getAll Wire.getS (bts s) = G at *
 obtain ⟨ts, n, e⟩ := G
 dsimp only at hG h
 have de : (e == 0) = false := by simpa using h
 have HG := lh hG
 clear hG hrd hx0 h hge
 go_wp2_with (go_at_call 125; refine (show Hid _ from ?_).out)
 refine lh ?_
 refine HG.out.mono ?_
 rintro r w1 ⟨⟨A1, c1, l1, rfl, hl1, ho⟩, hx⟩
 have HX1 := lh (HX0.out.trans hx)
 clear ho hx HG HX0 hl1
 go_wp2_with (go_at_call 126; refine (show Hid _ from ?_).out)
 refine lh ?_
 refine (hD _).mono ?_
 rintro r w2 ⟨rfl, hx⟩
 have HX2 := lh (HX1.out.trans hx)
 clear hx
 exact ⟨rfl, rfl, HX2.out⟩
def textsOk (G : List (List Int) × Nat × Int) : Prop := G.2.2 = 0 ∧ G.1.length = 6 ∧ (G.1.getD 2 []).length = 16 ∧ (G.1.getD 4 []).length = 16
theorem unpack_f1 (s : ByteArray) (w : World) (hs : s.size ≤ 1000000) (h : ¬ textsOk (Wire.getAll Wire.getS (bts s))) :
  Calls Tryz.prog 77 #[.string s] w fun r w' => r = brokenPanic ∧ Ext w w' := by
 by_cases he : (Wire.getAll Wire.getS (bts s)).2.2 = 0
 case neg => exact unpack_t1 s w hs he
 have hD : ∀ W, Calls Tryz.prog 126 #[.bool false] W fun r w' => r = .panicked [{ v := .iface 148 (.agg #[]), recovered := false }] ∧ Ext W w' := demand_f
 have hl := bts_length s
 go_enter Tryz.func77, Tryz.ntmps77
 go_wp2
 rw [strConv]
 have hx0 : Ext w (Lib.bytesWorld (w.alloc (.cells (entC noEn) 96)) 5 s) := ((Ext.refl w).alloc _).trans (ext_bytes _ _ _)
 have hr0 : RowAt (Lib.bytesWorld (w.alloc (.cells (entC noEn) 96)) 5 s) w.heap.size (entC noEn) := (RowAt.new w (entC noEn) 96).ext (ext_bytes _ _ _)
 have hrd := text_reads (w.alloc (.cells (entC noEn) 96)) s
 have hge := grownCap_ge (w.alloc (.cells (entC noEn) 96)) s.size 0 5
 rw [World.size_alloc] at hrd
 generalize grownCap (w.alloc (.cells (entC noEn) 96)) s.size 0 5 = cap at *
 generalize Lib.bytesWorld (w.alloc (.cells (entC noEn) 96)) 5 s = W at *
 have hG := getstrs_any (some ⟨w.heap.size + 1, 0, none⟩) cap (bts s) W (bts_bytU s) (by omega) (by omega) (fun h => by cases h) hrd
 rw [hl] at hG
 unfold GetOut at hG
 have HX0 := lh hx0
 have HR0 := lh hr0
 generalize Wire.getAll Wire.getS (bts s) = G at *
 obtain ⟨ts, n, e⟩ := G
 dsimp only at hG he
 subst he
 have HG := lh hG
 have HT := lh h
 clear hG hrd hx0 h hge hr0
 go_wp2_with (go_at_call 125; refine (show Hid _ from ?_).out)
 refine lh ?_
 refine HG.out.mono ?_
 rintro r w1 ⟨⟨A1, c1, l1, rfl, hl1, ho⟩, hx⟩
 have HX1 := lh (HX0.out.trans hx)
 subst hl1
 have HRt := lh (ho.reads tE)
 clear ho hx HG HX0 HR0
 by_cases h6 : l1.length = 6
 ·obtain ⟨b, off, rfl, hb, hc⟩ := HRt.out (by omega)
  have c2 : w1.cell? ⟨b, off + 2, none⟩ = some (.string (strOfNums l1[2])) := by simpa using hc 2 (by omega) 0 _ rfl
  have c4 : w1.cell? ⟨b, off + 4, none⟩ = some (.string (strOfNums l1[4])) := by simpa using hc 4 (by omega) 0 _ rfl
  have s2 := nums_size l1[2]
  have s4 := nums_size l1[4]
  have hn : ¬ (l1[2].length = 16 ∧ l1[4].length = 16) := by
   intro hh
   refine HT.out ⟨rfl, h6, ?_, ?_⟩
   ·show (l1.getD 2 []).length = 16
    rw [List.getD_eq_getElem?_getD, List.getElem?_eq_getElem (by omega)]; exact hh.1
   ·show (l1.getD 4 []).length = 16
    rw [List.getD_eq_getElem?_getD, List.getElem?_eq_getElem (by omega)]; exact hh.2
  generalize strOfNums l1[2] = t2 at *
  generalize strOfNums l1[4] = t4 at *
  generalize l1[2].length = n2 at *
  generalize l1[4].length = n4 at *
  clear hc HT
  by_cases h2 : n2 = 16
  ·have e4 : ((t4.size : Int) == 16) = false := by rw [beq_eq_false_iff_ne]; omega
   have e2 : ((t2.size : Int) == 16) = true := by rw [beq_iff_eq]; omega
   have e6 : ((l1.length : Int) == 6) = true := by rw [beq_iff_eq]; omega
   clear s2 s4 hn h2
   go_wp2_with (go_at_call 126; refine (show Hid _ from ?_).out)
   refine lh ?_
   refine (hD _).mono ?_
   rintro r w2 ⟨rfl, hx⟩
   have HX2 := lh (HX1.out.trans hx)
   clear hx
   exact ⟨rfl, rfl, HX2.out⟩
  ·have e2 : ((t2.size : Int) == 16) = false := by rw [beq_eq_false_iff_ne]; omega
   have e6 : ((l1.length : Int) == 6) = true := by rw [beq_iff_eq]; omega
   clear s2 s4 hn h2
   go_wp2_with (go_at_call 126; refine (show Hid _ from ?_).out)
   refine lh ?_
   refine (hD _).mono ?_
   rintro r w2 ⟨rfl, hx⟩
   have HX2 := lh (HX1.out.trans hx)
   clear hx
   exact ⟨rfl, rfl, HX2.out⟩
 ·have e6 : ((l1.length : Int) == 6) = false := by rw [beq_eq_false_iff_ne]; omega
  go_wp2_with (go_at_call 126; refine (show Hid _ from ?_).out)
  refine lh ?_
  refine (hD _).mono ?_
  rintro r w2 ⟨rfl, hx⟩
  have HX2 := lh (HX1.out.trans hx)
  clear hx
  exact ⟨rfl, rfl, HX2.out⟩
def numsOk (n size : Nat) (K : List Int × Nat × Int) : Prop := K.2.2 = 0 ∧ n + K.2.1 = size ∧ 7 ≤ K.1.length ∧ K.1.length % 2 = 1
theorem unpack_f2 (s : ByteArray) (w : World) (hs : s.size ≤ 1000000) (h : textsOk (Wire.getAll Wire.getS (bts s))) (h2 : ¬ numsOk (Wire.getAll Wire.getS (bts s)).2.1 s.size (Wire.getAll Wire.getI ((bts s).drop (Wire.getAll Wire.getS (bts s)).2.1))) :
  Calls Tryz.prog 77 #[.string s] w fun r w' => r = brokenPanic ∧ Ext w w' := by
 have hD : ∀ W, Calls Tryz.prog 126 #[.bool false] W fun r w' => r = .panicked [{ v := .iface 148 (.agg #[]), recovered := false }] ∧ Ext W w' := demand_f
 have hl := bts_length s
 have hu := Wire.getAll_used Wire.getS Wire.getS_used (bts s)
 go_enter Tryz.func77, Tryz.ntmps77
 go_wp2
 rw [strConv]
 have hx0 : Ext w (Lib.bytesWorld (w.alloc (.cells (entC noEn) 96)) 5 s) := ((Ext.refl w).alloc _).trans (ext_bytes _ _ _)
 have hr0 : RowAt (Lib.bytesWorld (w.alloc (.cells (entC noEn) 96)) 5 s) w.heap.size (entC noEn) := (RowAt.new w (entC noEn) 96).ext (ext_bytes _ _ _)
 have hrd := text_reads (w.alloc (.cells (entC noEn) 96)) s
 have hge := grownCap_ge (w.alloc (.cells (entC noEn) 96)) s.size 0 5
 rw [World.size_alloc] at hrd
 generalize grownCap (w.alloc (.cells (entC noEn) 96)) s.size 0 5 = cap at *
 generalize Lib.bytesWorld (w.alloc (.cells (entC noEn) 96)) 5 s = W at *
 have hG := getstrs_any (some ⟨w.heap.size + 1, 0, none⟩) cap (bts s) W (bts_bytU s) (by omega) (by omega) (fun h => by cases h) hrd
 rw [hl] at hG
 unfold GetOut at hG
 have HX0 := lh hx0
 have HR0 := lh hr0
 generalize Wire.getAll Wire.getS (bts s) = G at *
 obtain ⟨ts, n, e⟩ := G
 obtain ⟨he, h6, h16, h17⟩ := h
 dsimp only at hG he h6 h16 h17 h2 hu
 subst he
 have HG := lh hG
 have HH2 := lh h2
 clear hG hrd hx0 h2 hge hr0
 go_wp2_with (go_at_call 125; refine (show Hid _ from ?_).out)
 refine lh ?_
 refine HG.out.mono ?_
 rintro r w1 ⟨⟨A1, c1, l1, rfl, hl1, ho⟩, hx⟩
 have HX1 := lh (HX0.out.trans hx)
 have HR1 := lh (HR0.out.ext hx)
 subst hl1
 have HRt := lh (ho.reads tE)
 have hs1 := hx.size
 clear ho hx HG HX0 HR0
 obtain ⟨b, off, rfl, hb, hc⟩ := HRt.out (by omega)
 have c2 : w1.cell? ⟨b, off + 2, none⟩ = some (.string (strOfNums l1[2])) := by simpa using hc 2 (by omega) 0 _ rfl
 have c4 : w1.cell? ⟨b, off + 4, none⟩ = some (.string (strOfNums l1[4])) := by simpa using hc 4 (by omega) 0 _ rfl
 have s2 := nums_size l1[2]
 have s4 := nums_size l1[4]
 rw [List.getD_eq_getElem?_getD, List.getElem?_eq_getElem (by omega)] at h16 h17
 have h16' : l1[2].length = 16 := h16
 have h17' : l1[4].length = 16 := h17
 rw [h16'] at s2
 rw [h17'] at s4
 generalize strOfNums l1[2] = t2 at *
 generalize strOfNums l1[4] = t4 at *
 have e2 : ((t2.size : Int) == 16) = true := by rw [beq_iff_eq]; omega
 have e4 : ((t4.size : Int) == 16) = true := by rw [beq_iff_eq]; omega
 have e6 : ((l1.length : Int) == 6) = true := by rw [beq_iff_eq]; omega
 have hns : n ≤ s.size := by omega
 clear hc h16 h17 h16' h17' s2 s4
 go_upto_region 3 with (go_at_call 126; refine (demand_t _).mono ?_; rintro e w' ⟨rfl, hxl⟩; obtain ⟨xl, rfl⟩ := hxl.asLater; clear hxl)
 refine wp_world (fun W => Ext w W ∧ RowAt W w.heap.size (entC noEn) ∧ Ext w1 W) ⟨(by (with_reducible repeat first|exact HX1.out|exact eR _|apply eD|apply eN|apply eA|apply eO|apply eS|apply eC);all_goals first|omega|simp <;> omega), HR1.out.later _, (by (with_reducible repeat first|exact eR _|apply eD|apply eN|apply eA|apply eO|apply eS|apply eC);all_goals first|omega|simp <;> omega)⟩ ?_
 rintro W3 ⟨x3, u3, x13⟩
 have HX3 := lh x3
 have HR3 := lh u3
 clear x3 u3 x13 c2 c4 e2 e4 e6
 go_wp2
 rw [strConv]
 have hrd := text_reads W3 (s.extract n s.size)
 have hx0 := ext_bytes W3 5 (s.extract n s.size)
 have hge := grownCap_ge W3 (s.extract n s.size).size 0 5
 have hle : (s.extract n s.size).size ≤ 1000000 := by rw [← bts_length, bts_drop, List.length_drop]; omega
 have hel := bts_length (s.extract n s.size)
 have hed := bts_drop s n
 generalize s.extract n s.size = sx at *
 generalize grownCap W3 sx.size 0 5 = cap2 at *
 generalize Lib.bytesWorld W3 5 sx = W4 at *
 have hG := getints_any (some ⟨W3.heap.size, 0, none⟩) cap2 (bts sx) W4 (bts_bytU _) (by omega) (by omega) (fun h => by cases h) hrd
 rw [hel, hed] at hG
 unfold GetOut at hG
 have HX4 := lh (HX3.out.trans hx0)
 have hu2 := Wire.getAll_used Wire.getI Wire.getI_used ((bts s).drop n)
 rw [List.length_drop] at hu2
 generalize Wire.getAll Wire.getI ((bts s).drop n) = K at *
 obtain ⟨ks, m, e2⟩ := K
 dsimp only at hG hu2
 have hms : m ≤ 1000000 := by omega
 have HG := lh hG
 clear hG hrd hx0 hge hel hed
 go_wp2_with (go_at_call 127; refine (show Hid _ from ?_).out)
 refine lh ?_
 refine HG.out.mono ?_
 rintro r w5 ⟨⟨A5, c5, l5, rfl, hl5, ho⟩, hx⟩
 have HX5 := lh (HX4.out.trans hx)
 subst hl5
 clear ho hx HG HX4 HRt HR3 h6
 by_cases f1 : e2 = 0
 ·subst f1
  by_cases f2 : n + m = s.size
  ·have g2 : ((n : Int) + (m : Int) == (s.size : Int)) = true := by rw [beq_iff_eq]; omega
   by_cases f3 : 7 ≤ l5.length
   ·have f4 : l5.length % 2 ≠ 1 := fun hh => HH2.out ⟨rfl, f2, f3, hh⟩
    have g3 : decide ((7 : Int) ≤ (l5.length : Int)) = true := decide_eq_true (by omega)
    have g3' : decide (7 ≤ l5.length) = true := decide_eq_true f3
    have g4 : ((l5.length : Int) % 2 == 1) = false := by rw [beq_eq_false_iff_ne]; omega
    clear f2 HH2
    go_wp2_with (go_at_call 126; refine (show Hid _ from ?_).out)
    all_goals (first | (exfalso; omega) | (refine lh ?_; refine (hD _).mono ?_; rintro r w9 ⟨rfl, hx9⟩; have HX9 := lh (HX5.out.trans hx9); clear hx9; exact ⟨rfl, rfl, HX9.out⟩))
   ·have g3 : decide ((7 : Int) ≤ (l5.length : Int)) = false := decide_eq_false (by omega)
    have g3' : decide (7 ≤ l5.length) = false := decide_eq_false f3
    clear f2 HH2
    go_wp2_with (go_at_call 126; refine (show Hid _ from ?_).out)
    all_goals (first | (exfalso; omega) | (refine lh ?_; refine (hD _).mono ?_; rintro r w9 ⟨rfl, hx9⟩; have HX9 := lh (HX5.out.trans hx9); clear hx9; exact ⟨rfl, rfl, HX9.out⟩))
  ·have g2 : ((n : Int) + (m : Int) == (s.size : Int)) = false := by rw [beq_eq_false_iff_ne]; omega
   clear HH2
   go_wp2_with (go_at_call 126; refine (show Hid _ from ?_).out)
   all_goals (first | (exfalso; omega) | (refine lh ?_; refine (hD _).mono ?_; rintro r w9 ⟨rfl, hx9⟩; have HX9 := lh (HX5.out.trans hx9); clear hx9; exact ⟨rfl, rfl, HX9.out⟩))
 ·have g1 : (e2 == 0) = false := by simpa using f1
  clear HH2
  go_wp2_with (go_at_call 126; refine (show Hid _ from ?_).out)
  all_goals (first | (exfalso; omega) | (refine lh ?_; refine (hD _).mono ?_; rintro r w9 ⟨rfl, hx9⟩; have HX9 := lh (HX5.out.trans hx9); clear hx9; exact ⟨rfl, rfl, HX9.out⟩))
def uT (s : ByteArray) : List (List Int) × Nat × Int := Wire.getAll Wire.getS (bts s)
def uK (s : ByteArray) : List Int × Nat × Int := Wire.getAll Wire.getI ((bts s).drop (uT s).2.1)
def spsN (ks : List Int) (n : Nat) : List Sp := (List.range n).map fun j => (ks.getD (7 + 2 * j) 0, ks.getD (7 + 2 * j + 1) 0)
def wholeB (l : List Sp) (z : Int) : Bool := (decide (l.length = 1) && decide (l.getD 0 (0, 0) = (0, z))) || decide (z = 0)
def mkE (ts : List (List Int)) (ks : List Int) (hv : Value) (w : Bool) : En :=
 ⟨⟨strOfNums (ts.getD 0 []), strOfNums (ts.getD 1 []), ks.getD 0 0, ks.getD 1 0, bts (strOfNums (ts.getD 2 [])), strOfNums (ts.getD 3 []), ks.getD 2 0, ks.getD 3 0, ks.getD 4 0, ks.getD 5 0, bts (strOfNums (ts.getD 4 []))⟩, ks.getD 6 0 == 1, hv, strOfNums (ts.getD 5 []), w⟩
def unpL (s : ByteArray) : List Sp := spsN (uK s).1 (((uK s).1.length - 7) / 2)
def unpE (s : ByteArray) (hv : Value) : En := mkE (uT s).1 (uK s).1 hv (wholeB (unpL s) ((uK s).1.getD 1 0))
def unpOk (s : ByteArray) : Prop := textsOk (uT s) ∧ numsOk (uT s).2.1 s.size (uK s) ∧ validB (unpE s (.slice none 0 0)) (unpL s) = true ∧ packB (unpE s (.slice none 0 0)) (unpL s) = s
theorem getN_len {α : Type} (one : List Int → α × Nat × Int) : ∀ (n : Nat) (bs : List Int) (a : Nat) (out : List α), (Wire.getN one n bs a out).1.length ≤ n + out.length
 | 0, bs, a, out => by rw [Wire.getN]; show out.length ≤ _; omega
 | n + 1, bs, a, out => by
  rw [Wire.getN]
  split
  ·exact Nat.zero_le _
  ·have := getN_len one n bs (a + (one (bs.drop a)).2.1) (out ++ [(one (bs.drop a)).1])
   rw [List.length_append, List.length_singleton] at this
   omega
theorem getAll_len {α : Type} (one : List Int → α × Nat × Int) (bs : List Int) : (Wire.getAll one bs).1.length ≤ bs.length := by
 unfold Wire.getAll
 split
 ·exact Nat.zero_le _
 ·next h0 =>
  have h1 := Wire.getL_used bs (by simpa using h0)
  have h2 := getN_len one (Wire.getL bs 1).1.toNat bs (Wire.getL bs 1).2.1 []
  rw [List.length_nil] at h2
  omega
theorem getN_all {α : Type} (one : List Int → α × Nat × Int) (P : α → Prop) : ∀ (n : Nat) (bs : List Int) (a : Nat) (out : List α), (∀ b, P (one (bs.drop b)).1) → (∀ x ∈ out, P x) → ∀ x ∈ (Wire.getN one n bs a out).1, P x
 | 0, bs, a, out, _, h => by rw [Wire.getN]; exact h
 | n + 1, bs, a, out, h1, h => by
  rw [Wire.getN]
  split
  ·intro x hx; cases hx
  ·exact getN_all one P n bs _ _ h1 (fun x hx => by
    rcases List.mem_append.1 hx with hx | hx
    ·exact h x hx
    ·rw [List.mem_singleton] at hx; rw [hx]; exact h1 a)
theorem getS_len (bs : List Int) : (Wire.getS bs).1.length ≤ bs.length := by
 unfold Wire.getS
 split
 ·exact Nat.zero_le _
 ·show ((bs.drop _).take _).length ≤ _
  rw [List.length_take, List.length_drop]
  omega
theorem getAll_texts (bs : List Int) : ∀ x ∈ (Wire.getAll Wire.getS bs).1, x.length ≤ bs.length := by
 unfold Wire.getAll
 split
 ·intro x hx; cases hx
 ·exact getN_all Wire.getS (fun x => x.length ≤ bs.length) _ bs _ [] (fun b => by
   have := getS_len (bs.drop b)
   rw [List.length_drop] at this
   omega) (fun x hx => by cases hx)
theorem unp_sizes (s : ByteArray) (k : Nat) : (strOfNums ((uT s).1.getD k [])).size ≤ s.size := by
 rw [nums_size, List.getD_eq_getElem?_getD]
 by_cases h : k < (uT s).1.length
 ·rw [List.getElem?_eq_getElem h]
  have := getAll_texts (bts s) _ (List.getElem_mem h)
  rw [bts_length] at this
  exact this
 ·rw [List.getElem?_eq_none (by omega)]
  exact Nat.zero_le _
theorem unpL_len (s : ByteArray) : (unpL s).length ≤ s.size := by
 have h := getAll_len Wire.getI ((bts s).drop (uT s).2.1)
 rw [List.length_drop, bts_length] at h
 unfold unpL spsN
 rw [List.length_map, List.length_range]
 unfold uK
 omega
theorem spsN_len (ks : List Int) (n : Nat) : (spsN ks n).length = n := by simp [spsN]
theorem spsN_succ (ks : List Int) (n : Nat) : spsN ks (n + 1) = spsN ks n ++ [(ks.getD (7 + 2 * n) 0, ks.getD (7 + 2 * n + 1) 0)] := by
 unfold spsN
 rw [List.range_succ, List.map_append]
 rfl
theorem unp_valid (s : ByteArray) (v : Value) : validB (unpE s (.slice none 0 0)) (unpL s) = validB (unpE s v) (unpL s) := rfl
theorem unp_packB (s : ByteArray) (v : Value) : packB (unpE s (.slice none 0 0)) (unpL s) = packB (unpE s v) (unpL s) := rfl
theorem flat2_get : ∀ (l : List Sp) (j : Nat) (h : j < l.length), (l.flatMap (fun s => [s.1, s.2])).getD (2 * j) 0 = l[j].1 ∧ (l.flatMap (fun s => [s.1, s.2])).getD (2 * j + 1) 0 = l[j].2
 | [], j, h => by simp at h
 | x :: t, 0, h => by simp
 | x :: t, j + 1, h => by
  have := flat2_get t j (by simpa using h)
  rw [List.flatMap_cons]
  rw [show 2 * (j + 1) = 2 * j + 1 + 1 by omega]
  simpa using this
theorem spsN_pack (e : En) (l : List Sp) : spsN (packN e l) l.length = l := by
 apply List.ext_getElem (spsN_len _ _)
 intro j h1 h2
 have hf := flat2_get l j h2
 simp only [spsN, List.getElem_map, List.getElem_range]
 have e1 : ∀ k, (packN e l).getD (7 + k) 0 = (l.flatMap (fun s => [s.1, s.2])).getD k 0 := by
  intro k
  unfold packN
  rw [List.getD_eq_getElem?_getD, List.getD_eq_getElem?_getD, List.getElem?_append_right (by simp [n7])]
  simp [n7]
 rw [e1, Nat.add_assoc, e1, hf.1, hf.2]
theorem packN_len (e : En) (l : List Sp) : (packN e l).length = 7 + 2 * l.length := by
 unfold packN
 rw [List.length_append, flat2_len]
 rfl
theorem encS_bytU (s : ByteArray) (h : s.size ≤ 1000000000) : ∀ x ∈ Wire.encS (bts s), 0 ≤ x ∧ x < 256 := by
 intro x hx
 rw [encS_eq, List.mem_append] at hx
 rcases hx with hx | hx
 ·exact Wire.enc_byte _ (by omega) (by omega) x hx
 ·exact bts_bytU s x hx
theorem encStrs_byt (l : List ByteArray) (hl : l.length ≤ 1000000000) (h : ∀ s ∈ l, s.size ≤ 1000000000) : ∀ x ∈ encStrs l, 0 ≤ x ∧ x < 256 := by
 intro x hx
 unfold encStrs at hx
 rw [List.mem_append] at hx
 rcases hx with hx | hx
 ·exact Wire.enc_byte _ (by omega) (by omega) x hx
 ·obtain ⟨s, hs, hx⟩ := List.mem_flatMap.1 hx
  exact encS_bytU s (h s hs) x hx
theorem encInts_bytU (l : List Int) (hl : l.length ≤ 1000000000) (h : ∀ x ∈ l, i64 x) : ∀ x ∈ encInts l, 0 ≤ x ∧ x < 256 := by
 intro x hx
 unfold encInts at hx
 rw [List.mem_append] at hx
 rcases hx with hx | hx
 ·exact Wire.enc_byte _ (by omega) (by omega) x hx
 ·obtain ⟨s, hs, hx⟩ := List.mem_flatMap.1 hx
  have := h s hs
  unfold i64 at this
  exact Wire.enc_byte _ (by omega) (by omega) x hx
theorem encStrs_all (l : List ByteArray) : encStrs l = Wire.encAll Wire.encS (l.map bts) := by
 unfold encStrs Wire.encAll
 rw [List.length_map, List.flatMap_map]
theorem bts_appU (a b : ByteArray) : bts (a ++ b) = bts a ++ bts b := by
 unfold bts
 rw [ByteArray.data_append, Array.toList_append, List.map_append]
theorem full_whole {l : List Sp} {n : Int} (h : SetIn l n) (h0 : 0 ≤ n) : fullB l n = wholeB l n := by
 rw [Bool.eq_iff_iff, fullB_iff]
 simp only [wholeB, Bool.or_eq_true, Bool.and_eq_true, decide_eq_true_eq]
 constructor
 ·intro hf
  by_cases hz : n = 0
  ·exact .inr hz
  ·left
   have hs : l = [(0, n)] := by
    refine Sp.IsSet.ext h.1 (Sp.IsSet.one (by show (0 : Int) < n; omega)) fun x => ⟨fun hx => ?_, fun hx => ?_⟩
    ·have := h.mem hx
     exact ⟨(0, n), by simp, this.1, this.2⟩
    ·obtain ⟨s, hs, a, b⟩ := hx
     simp only [List.mem_singleton] at hs
     subst hs
     exact hf x a b
   subst hs
   exact ⟨rfl, rfl⟩
 ·rintro (⟨h1, h2⟩ | hz) x a b
  ·match l, h1 with
   | [y], _ =>
    simp only [List.getD_cons_zero] at h2
    subst h2
    exact ⟨(0, n), by simp, a, b⟩
  ·omega
theorem unp_pack (e : En) (l : List Sp) (hv : Val e l) (hb : e.st.body.length = 16) (hs : e.st.seal_.length = 16) (b1 : Byt e.st.body) (b2 : Byt e.st.seal_) (h1 : e.st.addr.size ≤ 1000000) (h2 : e.st.var.size ≤ 1000000) (h3 : e.st.tags.size ≤ 1000000) (h4 : e.bytes.size ≤ 1000000) (hl : l.length ≤ 1000000) (hi : ∀ x ∈ packN e l, i64 x) :
  unpOk (packB e l) ∧ unpL (packB e l) = l ∧ ∀ v, unpE (packB e l) v = { e with hv := v } := by
 have hsz : ∀ s ∈ packT e, s.size ≤ 1000000 := by
  intro s hs'
  simp only [packT, List.mem_cons, List.not_mem_nil, or_false] at hs'
  rcases hs' with rfl | rfl | rfl | rfl | rfl | rfl
  ·exact h1
  ·exact h2
  ·rw [nums_size, hb]; omega
  ·exact h3
  ·rw [nums_size, hs]; omega
  ·exact h4
 have hpl := packN_len e l
 have hbt : bts (packB e l) = encStrs (packT e) ++ encInts (packN e l) := by
  unfold packB
  rw [bts_appU, bts_nums (encStrs_byt _ (by simp [packT]) (fun s hs' => by have := hsz s hs'; omega)), bts_nums (encInts_bytU _ (by omega) hi)]
 have hT : uT (packB e l) = ((packT e).map bts, (encStrs (packT e)).length, 0) := by
  unfold uT
  rw [hbt, encStrs_all]
  exact Wire.getStrs_enc _ _ (fun x hx => by
   obtain ⟨s, hs', rfl⟩ := List.mem_map.1 hx
   have := hsz s hs'
   rw [bts_length]
   omega) (by simp [packT])
 have hK : uK (packB e l) = (packN e l, (encInts (packN e l)).length, 0) := by
  unfold uK
  rw [hT, hbt]
  simp only []
  rw [List.drop_left]
  have := Wire.getInts_enc (packN e l) [] (fun x hx => by have := hi x hx; unfold i64 at this; omega) (by omega)
  rwa [List.append_nil] at this
 have hL : unpL (packB e l) = l := by
  unfold unpL
  rw [hK]
  simp only []
  rw [hpl, show (7 + 2 * l.length - 7) / 2 = l.length by omega, spsN_pack]
 have hE : ∀ v, unpE (packB e l) v = { e with hv := v } := by
  intro v
  unfold unpE
  rw [hL, hT, hK]
  have hk1 : (packN e l).getD 1 0 = e.st.size := rfl
  simp only [hk1]
  rw [← full_whole hv.si hv.z0, ← hv.wh]
  unfold mkE
  simp only [packT, List.map_cons, List.map_nil, List.getD_cons_zero, List.getD_cons_succ, nums_bts, nums_bts, bts_nums b1, bts_nums b2]
  have k0 : (packN e l).getD 0 0 = e.st.status := rfl
  have k2 : (packN e l).getD 2 0 = e.st.lo := rfl
  have k3 : (packN e l).getD 3 0 = e.st.hi := rfl
  have k4 : (packN e l).getD 4 0 = e.st.gate := rfl
  have k5 : (packN e l).getD 5 0 = e.st.serial := rfl
  have k6 : (packN e l).getD 6 0 = if e.soft = true then 1 else 0 := rfl
  rw [k0, hk1, k2, k3, k4, k5, k6]
  obtain ⟨st, soft, hv0, by0, wh0⟩ := e
  cases soft <;> rfl
 refine ⟨⟨?_, ?_, ?_, ?_⟩, hL, hE⟩
 ·rw [hT]
  refine ⟨rfl, rfl, ?_, ?_⟩
  ·show (bts (strOfNums e.st.body)).length = 16
   rw [bts_nums b1, hb]
  ·show (bts (strOfNums e.st.seal_)).length = 16
   rw [bts_nums b2, hs]
 ·rw [hT, hK]
  refine ⟨rfl, ?_, ?_, ?_⟩
  ·show (encStrs (packT e)).length + (encInts (packN e l)).length = (packB e l).size
   rw [← bts_length, hbt, List.length_append]
  ·show 7 ≤ (packN e l).length
   omega
  ·show (packN e l).length % 2 = 1
   omega
 ·rw [hL, hE]
  exact (val_iff.2 hv : validB e l = true)
 ·rw [hL, hE]
  rfl
theorem val_i64 {e : En} {l : List Sp} (h : Val e l) : ∀ x ∈ packN e l, i64 x := by
 have hr := h.rt
 simp only [rightB, Bool.and_eq_true, decide_eq_true_eq] at hr
 have hz := h.z0
 have hs := h.sz
 intro x hx
 unfold i64
 unfold packN n7 at hx
 rw [List.mem_append] at hx
 rcases hx with hx | hx
 ·simp only [List.mem_cons, List.not_mem_nil, or_false] at hx
  rcases hx with rfl | rfl | rfl | rfl | rfl | rfl | rfl
  ·omega
  ·omega
  ·omega
  ·omega
  ·omega
  ·omega
  ·split <;> omega
 ·obtain ⟨p, hp, hx⟩ := List.mem_flatMap.1 hx
  have h1 := h.si.2 p hp
  have h2 := h.si.1.2 p hp
  simp only [List.mem_cons, List.not_mem_nil, or_false] at hx
  rcases hx with rfl | rfl <;> omega
theorem encS_len_le (s : ByteArray) (h : s.size ≤ 1000000) : (Wire.encS (bts s)).length ≤ 1000010 := by
 rw [encS_eq, List.length_append, bts_length]
 have := Wire.enc_length (s.size : Int)
 omega
theorem val_strs {e : En} {l : List Sp} (h : Val e l) (hb : e.st.body.length = 16) (hs : e.st.seal_.length = 16) : (encStrs (packT e)).length ≤ 1000000000 := by
 have hr := h.rt
 simp only [rightB, Bool.and_eq_true, decide_eq_true_eq] at hr
 have hz := h.sz
 have hbs := h.bs
 have a1 := encS_len_le e.st.addr (by omega)
 have a2 := encS_len_le e.st.var (by omega)
 have a3 := encS_len_le (strOfNums e.st.body) (by rw [nums_size]; omega)
 have a4 := encS_len_le e.st.tags (by omega)
 have a5 := encS_len_le (strOfNums e.st.seal_) (by rw [nums_size]; omega)
 have a6 := encS_len_le e.bytes (by omega)
 have a7 := Wire.enc_length ((packT e).length : Int)
 unfold encStrs packT at *
 simp only [List.length_append, List.flatMap_cons, List.flatMap_nil, List.length_nil]
 omega
def UnpRes (s : ByteArray) (w : World) (r : Ending) (w' : World) : Prop :=
 Ext w w' ∧ ((unpOk s ∧ ∃ A c, r = .returned (.agg (entC (unpE s (.slice A (unpL s).length c)))) ∧ (A = none → c = 0) ∧ OwnsSp w.heap.size w' A c (unpL s)) ∨ (¬ unpOk s ∧ r = brokenPanic))
def mk6 (a v t b : ByteArray) : En := ⟨⟨a, v, 0, 0, zeros32 16, t, 0, 0, 0, 0, zeros32 16⟩, false, .slice none 0 0, b, false⟩
def mk9 (a v t b t2 t4 : ByteArray) (k0 k1 k2 k3 k4 k5 : Int) (s : Bool) : En := ⟨⟨a, v, k0, k1, bts t2, t, k2, k3, k4, k5, bts t4⟩, s, .slice none 0 0, b, false⟩
theorem ba_same {a b : ByteArray} (h : (a.toList == b.toList) = true) : a = b := by
 rw [beq_iff_eq, Lib.toList_data, Lib.toList_data] at h
 apply ByteArray.ext
 exact Array.toList_inj.1 h
theorem ent_body16 (e : En) (a0 a1 a2 a3 a4 a5 a6 a7 a8 a9 a10 a11 a12 a13 a14 a15 : Int) : laidOver (entC e) 4 (cells8 [a0, a1, a2, a3, a4, a5, a6, a7, a8, a9, a10, a11, a12, a13, a14, a15]).toList = entC { e with st := { e.st with body := [a0, a1, a2, a3, a4, a5, a6, a7, a8, a9, a10, a11, a12, a13, a14, a15] } } := by kernel_rfl
theorem ent_setBody (e : En) {d : List Int} (hd : d.length = 16) : laidOver (entC e) 4 (cells8 d).toList = entC { e with st := { e.st with body := d } } := by
 match d, hd with
 | [a0, a1, a2, a3, a4, a5, a6, a7, a8, a9, a10, a11, a12, a13, a14, a15], _ => exact ent_body16 e a0 a1 a2 a3 a4 a5 a6 a7 a8 a9 a10 a11 a12 a13 a14 a15
theorem ent_seal_16 (e : En) (a0 a1 a2 a3 a4 a5 a6 a7 a8 a9 a10 a11 a12 a13 a14 a15 : Int) : laidOver (entC e) 25 (cells8 [a0, a1, a2, a3, a4, a5, a6, a7, a8, a9, a10, a11, a12, a13, a14, a15]).toList = entC { e with st := { e.st with seal_ := [a0, a1, a2, a3, a4, a5, a6, a7, a8, a9, a10, a11, a12, a13, a14, a15] } } := by kernel_rfl
theorem ent_setSeal (e : En) {d : List Int} (hd : d.length = 16) : laidOver (entC e) 25 (cells8 d).toList = entC { e with st := { e.st with seal_ := d } } := by
 match d, hd with
 | [a0, a1, a2, a3, a4, a5, a6, a7, a8, a9, a10, a11, a12, a13, a14, a15], _ => exact ent_seal_16 e a0 a1 a2 a3 a4 a5 a6 a7 a8 a9 a10 a11 a12 a13 a14 a15
theorem unpack_go (s : ByteArray) (w : World) (hs : s.size ≤ 10000) (h : textsOk (uT s)) (h2 : numsOk (uT s).2.1 s.size (uK s)) (hk : Konst 4 w) :
  Calls Tryz.prog 77 #[.string s] w (UnpRes s w) := by
 have hl := bts_length s
 have hu := Wire.getAll_used Wire.getS Wire.getS_used (bts s)
 have HKo := lh hk
 have HT0 : Hid (∀ ts ks, ts = (uT s).1 → ks = (uK s).1 → ∀ v, unpE s v = mkE ts ks v (wholeB (unpL s) (ks.getD 1 0))) := lh (fun ts ks e1 e2 v => by rw [e1, e2]; rfl)
 have HL0 : Hid (∀ ks, ks = (uK s).1 → unpL s = spsN ks ((ks.length - 7) / 2)) := lh (fun ks e => by rw [e]; rfl)
 have HOk0 : Hid (validB (unpE s (.slice none 0 0)) (unpL s) = true → packB (unpE s (.slice none 0 0)) (unpL s) = s → unpOk s) := lh (fun a b => ⟨h, h2, a, b⟩)
 have HUT : Hid (uT s = Wire.getAll Wire.getS (bts s)) := lh rfl
 have HUK : Hid (uK s = Wire.getAll Wire.getI ((bts s).drop (uT s).2.1)) := lh rfl
 clear hk
 rw [show uK s = Wire.getAll Wire.getI ((bts s).drop (uT s).2.1) from rfl, show uT s = Wire.getAll Wire.getS (bts s) from rfl] at h2
 rw [show uT s = Wire.getAll Wire.getS (bts s) from rfl] at h
 go_enter Tryz.func77, Tryz.ntmps77
 go_wp2
 rw [strConv]
 have hx0 : Ext w (Lib.bytesWorld (w.alloc (.cells (entC noEn) 96)) 5 s) := ((Ext.refl w).alloc _).trans (ext_bytes _ _ _)
 have hr0 : RowAt (Lib.bytesWorld (w.alloc (.cells (entC noEn) 96)) 5 s) w.heap.size (entC noEn) := (RowAt.new w (entC noEn) 96).ext (ext_bytes _ _ _)
 have hrd := text_reads (w.alloc (.cells (entC noEn) 96)) s
 have hge := grownCap_ge (w.alloc (.cells (entC noEn) 96)) s.size 0 5
 rw [World.size_alloc] at hrd
 generalize grownCap (w.alloc (.cells (entC noEn) 96)) s.size 0 5 = cap at *
 generalize Lib.bytesWorld (w.alloc (.cells (entC noEn) 96)) 5 s = W at *
 have hG := getstrs_any (some ⟨w.heap.size + 1, 0, none⟩) cap (bts s) W (bts_bytU s) (by omega) (by omega) (fun h => by cases h) hrd
 rw [hl] at hG
 unfold GetOut at hG
 have HX0 := lh hx0
 have HR0 := lh hr0
 generalize Wire.getAll Wire.getS (bts s) = G at *
 obtain ⟨ts, n, e⟩ := G
 obtain ⟨he, h6, h16, h17⟩ := h
 dsimp only at hG he h6 h16 h17 h2 hu
 subst he
 have HG := lh hG
 have HH2 := lh h2
 have hWs := hx0.size
 clear hG hrd hx0 h2 hge hr0
 go_wp2_with (go_at_call 125; refine (show Hid _ from ?_).out)
 refine lh ?_
 refine HG.out.mono ?_
 rintro r w1 ⟨⟨A1, c1, l1, rfl, hl1, ho⟩, hx⟩
 have HX1 := lh (HX0.out.trans hx)
 have HR1 := lh (HR0.out.ext hx)
 subst hl1
 have hrt := ho.reads tE
 have hs1 := hx.size
 rcases ho.cases with ⟨_, _, hl1e⟩ | ⟨g1, cur1, rfl, hg1, _, _, _, _, _⟩
 ·rw [hl1e] at h6; cases h6
 have hg1B : w.heap.size < g1 := by have := HR0.out.lt; omega
 clear ho hx HG HX0 HR0
 obtain ⟨b, off, hbe, hb, hc⟩ := hrt (by omega)
 obtain ⟨rfl, rfl⟩ : g1 = b ∧ 0 = off := by injection hbe with hbe; injection hbe with e1 e2 _; exact ⟨e1, e2⟩
 clear hbe hrt
 have HC1 : Hid (∀ i (h : i < l1.length), w1.cell? ⟨g1, i, none⟩ = some (.string (strOfNums (l1.getD i [])))) := lh (fun i hi => by
  have := hc i hi 0 _ rfl
  rw [List.getD_eq_getElem?_getD, List.getElem?_eq_getElem hi]
  simpa using this)
 have c2 : w1.cell? ⟨g1, 2, none⟩ = some (.string (strOfNums (l1.getD 2 []))) := HC1.out 2 (by omega)
 have c4 : w1.cell? ⟨g1, 4, none⟩ = some (.string (strOfNums (l1.getD 4 []))) := HC1.out 4 (by omega)
 have s2 := nums_size (l1.getD 2 [])
 have s4 := nums_size (l1.getD 4 [])
 rw [h16] at s2
 rw [h17] at s4
 have HS2 := lh s2
 have HS4 := lh s4
 have e2 : (((strOfNums (l1.getD 2 [])).size : Int) == 16) = true := by rw [beq_iff_eq]; omega
 have e4 : (((strOfNums (l1.getD 4 [])).size : Int) == 16) = true := by rw [beq_iff_eq]; omega
 have e6 : ((l1.length : Int) == 6) = true := by rw [beq_iff_eq]; omega
 have hns : n ≤ s.size := by omega
 generalize ht2 : strOfNums (l1.getD 2 []) = t2 at *
 generalize ht4 : strOfNums (l1.getD 4 []) = t4 at *
 have HE2 := lh ht2
 have HE4 := lh ht4
 clear ht2 ht4
 clear hc h16 h17 s2 s4
 go_upto_region 3 with (go_at_call 126; refine (demand_t _).mono ?_; rintro e w' ⟨rfl, hxl⟩; obtain ⟨xl, rfl⟩ := hxl.asLater; clear hxl)
 refine wp_world (fun W => Ext w W ∧ RowAt W w.heap.size (entC noEn) ∧ Ext w1 W) ⟨(by (with_reducible repeat first|exact HX1.out|exact eR _|apply eD|apply eN|apply eA|apply eO|apply eS|apply eC);all_goals first|omega|simp <;> omega), HR1.out.later _, (by (with_reducible repeat first|exact eR _|apply eD|apply eN|apply eA|apply eO|apply eS|apply eC);all_goals first|omega|simp <;> omega)⟩ ?_
 rintro W3 ⟨x3, u3, x13⟩
 have HX3 := lh x3
 have HR3 := lh u3
 have HX13 := lh x13
 have hl3 := u3.lt
 clear x3 u3 x13 c2 c4 e2 e4 e6
 go_wp2
 rw [strConv]
 have hrd := text_reads W3 (s.extract n s.size)
 have hx0 := ext_bytes W3 5 (s.extract n s.size)
 have hge := grownCap_ge W3 (s.extract n s.size).size 0 5
 have hle : (s.extract n s.size).size ≤ 1000000 := by rw [← bts_length, bts_drop, List.length_drop]; omega
 have hel := bts_length (s.extract n s.size)
 have hed := bts_drop s n
 generalize s.extract n s.size = sx at *
 generalize grownCap W3 sx.size 0 5 = cap2 at *
 generalize Lib.bytesWorld W3 5 sx = W4 at *
 have hG := getints_any (some ⟨W3.heap.size, 0, none⟩) cap2 (bts sx) W4 (bts_bytU _) (by omega) (by omega) (fun h => by cases h) hrd
 rw [hel, hed] at hG
 unfold GetOut at hG
 have HX4 := lh (HX3.out.trans hx0)
 have hu2 := Wire.getAll_used Wire.getI Wire.getI_used ((bts s).drop n)
 rw [List.length_drop] at hu2
 have HUK2 := lh (HUK.out.trans (by rw [HUT.out]))
 clear HUK
 generalize Wire.getAll Wire.getI ((bts s).drop n) = K at *
 obtain ⟨ks, m, e2⟩ := K
 dsimp only at hG hu2
 have hms : m ≤ 1000000 := by omega
 have HG := lh hG
 have hx0' := hx0
 have hW4s := hx0.size
 clear hG hrd hx0 hge hel hed
 go_wp2_with (go_at_call 127; refine (show Hid _ from ?_).out)
 refine lh ?_
 refine HG.out.mono ?_
 rintro r w5 ⟨⟨A5, c5, l5, rfl, hl5, ho⟩, hx⟩
 have HX5 := lh (HX4.out.trans hx)
 subst hl5
 obtain ⟨f1, f2, f3, f4⟩ := HH2.out
 dsimp only at f1 f2 f3 f4
 subst f1
 have hrk := ho.reads nE
 have HR5 := lh ((HR3.out.ext hx0').ext hx)
 have HC15 : Hid (∀ i (h : i < l1.length), w5.cell? ⟨g1, i, none⟩ = some (.string (strOfNums (l1.getD i [])))) := lh (fun i hi => ((HX13.out.trans (hx0'.trans hx)).cell (p := ⟨g1, i, none⟩) hb).trans (HC1.out i hi))
 have h15 : w1.heap.size ≤ w5.heap.size := (HX13.out.trans (hx0'.trans hx)).size
 rcases ho.cases with ⟨_, _, hl5e⟩ | ⟨g5, cur5, rfl, hg5, _, _, _, _, _⟩
 ·rw [hl5e] at f3; simp at f3
 have hg5B : w.heap.size < g5 := by omega
 obtain ⟨b5, off5, hbe, hb5, hc5⟩ := hrk (by omega)
 obtain ⟨rfl, rfl⟩ : g5 = b5 ∧ 0 = off5 := by injection hbe with hbe; injection hbe with e1 e2 _; exact ⟨e1, e2⟩
 have HC5 : Hid (∀ i (h : i < l5.length), w5.cell? ⟨g5, i, none⟩ = some (.int .i64 (l5.getD i 0))) := lh (fun i hi => by
  have := hc5 i hi 0 _ rfl
  rw [List.getD_eq_getElem?_getD, List.getElem?_eq_getElem hi]
  simpa using this)
 clear ho hx HG HX4 HR3 hbe hrk hc5 hx0' HC1 HX13
 have g2 : ((n : Int) + (m : Int) == (s.size : Int)) = true := by rw [beq_iff_eq]; omega
 have g3 : decide ((7 : Int) ≤ (l5.length : Int)) = true := decide_eq_true (by omega)
 have g4 : ((l5.length : Int) % 2 == 1) = true := by rw [beq_iff_eq]; omega
 go_upto_region 6 with (go_at_call 126; refine (demand_t _).mono ?_; rintro e w' ⟨rfl, hxl⟩; obtain ⟨xl, rfl⟩ := hxl.asLater; clear hxl)
 obtain ⟨B, hB⟩ : ∃ B, w.heap.size = B := ⟨_, rfl⟩
 rw [hB]
 refine wp_world (fun W => Ext w W ∧ RowAt W B (entC (mk6 ByteArray.empty ByteArray.empty ByteArray.empty ByteArray.empty)) ∧ Ext w5 W) ⟨(by (with_reducible repeat first|exact HX5.out|exact eR _|apply eD|apply eN|apply eA|apply eO|apply eS|apply eC);all_goals first|omega|simp <;> omega), (show RowAt _ _ (entC noEn) from hB ▸ HR5.out.later _), (by (with_reducible repeat first|exact eR _|apply eD|apply eN|apply eA|apply eO|apply eS|apply eC);all_goals first|omega|simp <;> omega)⟩ ?_
 rintro W6 ⟨x6, u6, x56⟩
 have HX6 := lh x6
 have HR6 := lh u6
 have hl6 := u6.lt
 have h6s := x56.size
 have HC16 : Hid (∀ i (h : i < l1.length), W6.cell? ⟨g1, i, none⟩ = some (.string (strOfNums (l1.getD i [])))) := lh (fun i hi => (x56.cell (p := ⟨g1, i, none⟩) (by show g1 < _; omega)).trans (HC15.out i hi))
 have HC56 : Hid (∀ i (h : i < l5.length), W6.cell? ⟨g5, i, none⟩ = some (.int .i64 (l5.getD i 0))) := lh (fun i hi => (x56.cell (p := ⟨g5, i, none⟩) hb5).trans (HC5.out i hi))
 have r0 := HC16.out 0 (by omega)
 have r1 := HC16.out 1 (by omega)
 have r3 := HC16.out 3 (by omega)
 have r5 := HC16.out 5 (by omega)
 obtain ⟨s0, hs0⟩ : ∃ x, strOfNums (l1.getD 0 []) = x := ⟨_, rfl⟩
 obtain ⟨s1, hs1'⟩ : ∃ x, strOfNums (l1.getD 1 []) = x := ⟨_, rfl⟩
 obtain ⟨s3, hs3⟩ : ∃ x, strOfNums (l1.getD 3 []) = x := ⟨_, rfl⟩
 obtain ⟨s5, hs5⟩ : ∃ x, strOfNums (l1.getD 5 []) = x := ⟨_, rfl⟩
 rw [hs0] at r0
 rw [hs1'] at r1
 rw [hs3] at r3
 rw [hs5] at r5
 have HE0 := lh hs0
 have HE1 := lh hs1'
 have HE3 := lh hs3
 have HE5 := lh hs5
 have hgB : g1 ≠ B := by omega
 have hg6 : g1 < W6.heap.size := by omega
 clear hs0 hs1' hs3 hs5 x6 u6 g2 g3 g4
 refine wp_region_puts 26 (by kernel_rfl) [17, 20, 23, 25] (fun i => ([.pointer (some ⟨B, 0, none⟩), .pointer (some ⟨B, 0, none⟩), .pointer (some ⟨B, 0, none⟩), .slice (some ⟨g1, 0, none⟩) 6 c1, .pointer (some ⟨g1, 0, none⟩), .string s0, .slice (some ⟨g1, 0, none⟩) 6 c1, .pointer (some ⟨g1, 1, none⟩), .string s1, .slice (some ⟨g1, 0, none⟩) 6 c1, .pointer (some ⟨g1, 3, none⟩), .string s3, .slice (some ⟨g1, 0, none⟩) 6 c1, .pointer (some ⟨g1, 5, none⟩), .string s5, .pointer (some ⟨B, 0, none⟩), .pointer (some ⟨B, 0, none⟩), undef, .pointer (some ⟨B, 0, none⟩), .pointer (some ⟨B, 1, none⟩), undef, .pointer (some ⟨B, 0, none⟩), .pointer (some ⟨B, 20, none⟩), undef, .pointer (some ⟨B, 43, none⟩), undef] : List Value).getD i undef) B (fun t => ([entC (mk6 ByteArray.empty ByteArray.empty ByteArray.empty ByteArray.empty), entC (mk6 s0 ByteArray.empty ByteArray.empty ByteArray.empty), entC (mk6 s0 s1 ByteArray.empty ByteArray.empty), entC (mk6 s0 s1 s3 ByteArray.empty), entC (mk6 s0 s1 s3 s5)] : List (Array Value)).getD t #[]) (fun t => ([0, 1, 20, 43] : List Nat).getD t 0) (fun t => ([[.string s0], [.string s1], [.string s3], [.string s5]] : List (List Value)).getD t []) (by kernel_rfl) (by kernel_rfl) (by kernel_rfl) (by kernel_rfl) (by kernel_rfl) HR6.out (lt_cons ?_ (lt_cons ?_ (lt_cons ?_ (lt_cons ?_ (lt_none))))) (lt_cons ?_ (lt_cons ?_ (lt_cons ?_ (lt_cons ?_ (lt_cons ?_ (lt_cons ?_ (lt_cons ?_ (lt_cons ?_ (lt_cons ?_ (lt_cons ?_ (lt_cons ?_ (lt_cons ?_ (lt_cons ?_ (lt_cons ?_ (lt_cons ?_ (lt_cons ?_ (lt_cons ?_ (lt_cons ?_ (lt_cons ?_ (lt_cons ?_ (lt_cons ?_ (lt_cons ?_ (lt_cons ?_ (lt_cons ?_ (lt_cons ?_ (lt_cons ?_ (lt_none))))))))))))))))))))))))))) (lt_cons ?_ (lt_cons ?_ (lt_cons ?_ (lt_cons ?_ (lt_none))))) ?_
 ·rfl
 ·rfl
 ·rfl
 ·rfl
 ·
  intro _
  refine sopP rfl fun xs W HW hsW HD Q' HQ => ?_; simp only [fillAt, dstOf, lc0, lcs, obs, Act.put, lsa, lsz, lss, nz, Nat.reduceAdd] at HQ ⊢
  go_wp2
  exact HQ.out _ _ (eR _) rfl
 ·
  intro _
  refine sopP rfl fun xs W HW hsW HD Q' HQ => ?_; simp only [fillAt, dstOf, lc0, lcs, obs, Act.put, lsa, lsz, lss, nz, Nat.reduceAdd] at HQ ⊢
  go_wp2
  exact HQ.out _ _ (eR _) rfl
 ·
  intro _
  refine sopP rfl fun xs W HW hsW HD Q' HQ => ?_; simp only [fillAt, dstOf, lc0, lcs, obs, Act.put, lsa, lsz, lss, nz, Nat.reduceAdd] at HQ ⊢
  go_wp2
  exact HQ.out _ _ (eR _) rfl
 ·
  intro _
  refine sopP rfl fun xs W HW hsW HD Q' HQ => ?_; simp only [fillAt, dstOf, lc0, lcs, obs, Act.put, lsa, lsz, lss, nz, Nat.reduceAdd] at HQ ⊢
  go_wp2
  exact HQ.out _ _ (eR _) rfl
 ·
  intro _
  refine sopP rfl fun xs W HW hsW HD Q' HQ => ?_; simp only [fillAt, dstOf, lc0, lcs, obs, Act.put, lsa, lsz, lss, nz, Nat.reduceAdd] at HQ ⊢
  have hd3 : xs 3 = .slice (some ⟨g1, 0, none⟩) 6 c1 := (HD.out 3 (dk (by kernel_rfl)) (by decide))
  generalize xs 3 = x3 at hd3 HQ ⊢; subst hd3
  go_wp2
  exact HQ.out _ _ (eR _) rfl
 ·
  intro _
  refine sopP rfl fun xs W HW hsW HD Q' HQ => ?_; simp only [fillAt, dstOf, lc0, lcs, obs, Act.put, lsa, lsz, lss, nz, Nat.reduceAdd] at HQ ⊢
  have hd4 : xs 4 = .pointer (some ⟨g1, 0, none⟩) := (HD.out 4 (dk (by kernel_rfl)) (by decide))
  generalize xs 4 = x4 at hd4 HQ ⊢; subst hd4
  have hc : W.cell? ⟨g1, 0, none⟩ = some (.string s0) := (HW.out.cell (p := ⟨g1, 0, none⟩) (by show g1 < _; omega) (by show ¬ (g1 = _); omega)).trans r0
  go_wp2
  exact HQ.out _ _ (eR _) rfl
 ·
  intro _
  refine sopP rfl fun xs W HW hsW HD Q' HQ => ?_; simp only [fillAt, dstOf, lc0, lcs, obs, Act.put, lsa, lsz, lss, nz, Nat.reduceAdd] at HQ ⊢
  go_wp2
  exact HQ.out _ _ (eR _) rfl
 ·
  intro _
  refine sopP rfl fun xs W HW hsW HD Q' HQ => ?_; simp only [fillAt, dstOf, lc0, lcs, obs, Act.put, lsa, lsz, lss, nz, Nat.reduceAdd] at HQ ⊢
  have hd6 : xs 6 = .slice (some ⟨g1, 0, none⟩) 6 c1 := (HD.out 6 (dk (by kernel_rfl)) (by decide))
  generalize xs 6 = x6 at hd6 HQ ⊢; subst hd6
  go_wp2
  exact HQ.out _ _ (eR _) rfl
 ·
  intro _
  refine sopP rfl fun xs W HW hsW HD Q' HQ => ?_; simp only [fillAt, dstOf, lc0, lcs, obs, Act.put, lsa, lsz, lss, nz, Nat.reduceAdd] at HQ ⊢
  have hd7 : xs 7 = .pointer (some ⟨g1, 1, none⟩) := (HD.out 7 (dk (by kernel_rfl)) (by decide))
  generalize xs 7 = x7 at hd7 HQ ⊢; subst hd7
  have hc : W.cell? ⟨g1, 1, none⟩ = some (.string s1) := (HW.out.cell (p := ⟨g1, 1, none⟩) (by show g1 < _; omega) (by show ¬ (g1 = _); omega)).trans r1
  go_wp2
  exact HQ.out _ _ (eR _) rfl
 ·
  intro _
  refine sopP rfl fun xs W HW hsW HD Q' HQ => ?_; simp only [fillAt, dstOf, lc0, lcs, obs, Act.put, lsa, lsz, lss, nz, Nat.reduceAdd] at HQ ⊢
  go_wp2
  exact HQ.out _ _ (eR _) rfl
 ·
  intro _
  refine sopP rfl fun xs W HW hsW HD Q' HQ => ?_; simp only [fillAt, dstOf, lc0, lcs, obs, Act.put, lsa, lsz, lss, nz, Nat.reduceAdd] at HQ ⊢
  have hd9 : xs 9 = .slice (some ⟨g1, 0, none⟩) 6 c1 := (HD.out 9 (dk (by kernel_rfl)) (by decide))
  generalize xs 9 = x9 at hd9 HQ ⊢; subst hd9
  go_wp2
  exact HQ.out _ _ (eR _) rfl
 ·
  intro _
  refine sopP rfl fun xs W HW hsW HD Q' HQ => ?_; simp only [fillAt, dstOf, lc0, lcs, obs, Act.put, lsa, lsz, lss, nz, Nat.reduceAdd] at HQ ⊢
  have hd10 : xs 10 = .pointer (some ⟨g1, 3, none⟩) := (HD.out 10 (dk (by kernel_rfl)) (by decide))
  generalize xs 10 = x10 at hd10 HQ ⊢; subst hd10
  have hc : W.cell? ⟨g1, 3, none⟩ = some (.string s3) := (HW.out.cell (p := ⟨g1, 3, none⟩) (by show g1 < _; omega) (by show ¬ (g1 = _); omega)).trans r3
  go_wp2
  exact HQ.out _ _ (eR _) rfl
 ·
  intro _
  refine sopP rfl fun xs W HW hsW HD Q' HQ => ?_; simp only [fillAt, dstOf, lc0, lcs, obs, Act.put, lsa, lsz, lss, nz, Nat.reduceAdd] at HQ ⊢
  go_wp2
  exact HQ.out _ _ (eR _) rfl
 ·
  intro _
  refine sopP rfl fun xs W HW hsW HD Q' HQ => ?_; simp only [fillAt, dstOf, lc0, lcs, obs, Act.put, lsa, lsz, lss, nz, Nat.reduceAdd] at HQ ⊢
  have hd12 : xs 12 = .slice (some ⟨g1, 0, none⟩) 6 c1 := (HD.out 12 (dk (by kernel_rfl)) (by decide))
  generalize xs 12 = x12 at hd12 HQ ⊢; subst hd12
  go_wp2
  exact HQ.out _ _ (eR _) rfl
 ·
  intro _
  refine sopP rfl fun xs W HW hsW HD Q' HQ => ?_; simp only [fillAt, dstOf, lc0, lcs, obs, Act.put, lsa, lsz, lss, nz, Nat.reduceAdd] at HQ ⊢
  have hd13 : xs 13 = .pointer (some ⟨g1, 5, none⟩) := (HD.out 13 (dk (by kernel_rfl)) (by decide))
  generalize xs 13 = x13 at hd13 HQ ⊢; subst hd13
  have hc : W.cell? ⟨g1, 5, none⟩ = some (.string s5) := (HW.out.cell (p := ⟨g1, 5, none⟩) (by show g1 < _; omega) (by show ¬ (g1 = _); omega)).trans r5
  go_wp2
  exact HQ.out _ _ (eR _) rfl
 ·
  intro _
  refine sopP rfl fun xs W HW hsW HD Q' HQ => ?_; simp only [fillAt, dstOf, lc0, lcs, obs, Act.put, lsa, lsz, lss, nz, Nat.reduceAdd] at HQ ⊢
  have hd0 : xs 0 = .pointer (some ⟨B, 0, none⟩) := (HD.out 0 (dk (by kernel_rfl)) (by decide))
  generalize xs 0 = x0 at hd0 HQ ⊢; subst hd0
  go_wp2
  exact HQ.out _ _ (eR _) rfl
 ·
  intro _
  refine sopP rfl fun xs W HW hsW HD Q' HQ => ?_; simp only [fillAt, dstOf, lc0, lcs, obs, Act.put, lsa, lsz, lss, nz, Nat.reduceAdd] at HQ ⊢
  have hd15 : xs 15 = .pointer (some ⟨B, 0, none⟩) := (HD.out 15 (dk (by kernel_rfl)) (by decide))
  generalize xs 15 = x15 at hd15 HQ ⊢; subst hd15
  go_wp2
  exact HQ.out _ _ (eR _) rfl
 ·exact fun h => absurd (by decide) h
 ·
  intro _
  refine sopP rfl fun xs W HW hsW HD Q' HQ => ?_; simp only [fillAt, dstOf, lc0, lcs, obs, Act.put, lsa, lsz, lss, nz, Nat.reduceAdd] at HQ ⊢
  have hd1 : xs 1 = .pointer (some ⟨B, 0, none⟩) := (HD.out 1 (dk (by kernel_rfl)) (by decide))
  generalize xs 1 = x1 at hd1 HQ ⊢; subst hd1
  go_wp2
  exact HQ.out _ _ (eR _) rfl
 ·
  intro _
  refine sopP rfl fun xs W HW hsW HD Q' HQ => ?_; simp only [fillAt, dstOf, lc0, lcs, obs, Act.put, lsa, lsz, lss, nz, Nat.reduceAdd] at HQ ⊢
  have hd18 : xs 18 = .pointer (some ⟨B, 0, none⟩) := (HD.out 18 (dk (by kernel_rfl)) (by decide))
  generalize xs 18 = x18 at hd18 HQ ⊢; subst hd18
  go_wp2
  exact HQ.out _ _ (eR _) rfl
 ·exact fun h => absurd (by decide) h
 ·
  intro _
  refine sopP rfl fun xs W HW hsW HD Q' HQ => ?_; simp only [fillAt, dstOf, lc0, lcs, obs, Act.put, lsa, lsz, lss, nz, Nat.reduceAdd] at HQ ⊢
  have hd2 : xs 2 = .pointer (some ⟨B, 0, none⟩) := (HD.out 2 (dk (by kernel_rfl)) (by decide))
  generalize xs 2 = x2 at hd2 HQ ⊢; subst hd2
  go_wp2
  exact HQ.out _ _ (eR _) rfl
 ·
  intro _
  refine sopP rfl fun xs W HW hsW HD Q' HQ => ?_; simp only [fillAt, dstOf, lc0, lcs, obs, Act.put, lsa, lsz, lss, nz, Nat.reduceAdd] at HQ ⊢
  have hd21 : xs 21 = .pointer (some ⟨B, 0, none⟩) := (HD.out 21 (dk (by kernel_rfl)) (by decide))
  generalize xs 21 = x21 at hd21 HQ ⊢; subst hd21
  go_wp2
  exact HQ.out _ _ (eR _) rfl
 ·exact fun h => absurd (by decide) h
 ·
  intro _
  refine sopP rfl fun xs W HW hsW HD Q' HQ => ?_; simp only [fillAt, dstOf, lc0, lcs, obs, Act.put, lsa, lsz, lss, nz, Nat.reduceAdd] at HQ ⊢
  go_wp2
  exact HQ.out _ _ (eR _) rfl
 ·exact fun h => absurd (by decide) h
 ·
  refine sopW rfl fun xs W HW hsW HR HD Q' HQ => ?_; simp only [fillAt, dstOf, lc0, lcs, obs, Act.put, lsa, lsz, lss, nz, Nat.reduceAdd] at HQ ⊢
  have hd16 : xs 16 = .pointer (some ⟨B, 0, none⟩) := (HD.out 16 (dk (by kernel_rfl)) (by decide))
  generalize xs 16 = x16 at hd16 HQ ⊢; subst hd16
  have hd5 : xs 5 = .string s0 := (HD.out 5 (dk (by kernel_rfl)) (by decide))
  generalize xs 5 = x5 at hd5 HQ ⊢; subst hd5
  have hfr : W.frozen? ⟨B, 0, none⟩ = false := HR.out.free 0
  have hce : W.cell? ⟨B, 0, none⟩ = some (.string ByteArray.empty) := (HR.out.cell 0).trans rfl
  go_wp2
  exact HQ.out undef
 ·
  refine sopW rfl fun xs W HW hsW HR HD Q' HQ => ?_; simp only [fillAt, dstOf, lc0, lcs, obs, Act.put, lsa, lsz, lss, nz, Nat.reduceAdd] at HQ ⊢
  have hd19 : xs 19 = .pointer (some ⟨B, 1, none⟩) := (HD.out 19 (dk (by kernel_rfl)) (by decide))
  generalize xs 19 = x19 at hd19 HQ ⊢; subst hd19
  have hd8 : xs 8 = .string s1 := (HD.out 8 (dk (by kernel_rfl)) (by decide))
  generalize xs 8 = x8 at hd8 HQ ⊢; subst hd8
  have hfr : W.frozen? ⟨B, 1, none⟩ = false := HR.out.free 1
  have hce : W.cell? ⟨B, 1, none⟩ = some (.string ByteArray.empty) := (HR.out.cell 1).trans rfl
  go_wp2
  exact HQ.out undef
 ·
  refine sopW rfl fun xs W HW hsW HR HD Q' HQ => ?_; simp only [fillAt, dstOf, lc0, lcs, obs, Act.put, lsa, lsz, lss, nz, Nat.reduceAdd] at HQ ⊢
  have hd22 : xs 22 = .pointer (some ⟨B, 20, none⟩) := (HD.out 22 (dk (by kernel_rfl)) (by decide))
  generalize xs 22 = x22 at hd22 HQ ⊢; subst hd22
  have hd11 : xs 11 = .string s3 := (HD.out 11 (dk (by kernel_rfl)) (by decide))
  generalize xs 11 = x11 at hd11 HQ ⊢; subst hd11
  have hfr : W.frozen? ⟨B, 20, none⟩ = false := HR.out.free 20
  have hce : W.cell? ⟨B, 20, none⟩ = some (.string ByteArray.empty) := (HR.out.cell 20).trans rfl
  go_wp2
  exact HQ.out undef
 ·
  refine sopW rfl fun xs W HW hsW HR HD Q' HQ => ?_; simp only [fillAt, dstOf, lc0, lcs, obs, Act.put, lsa, lsz, lss, nz, Nat.reduceAdd] at HQ ⊢
  have hd24 : xs 24 = .pointer (some ⟨B, 43, none⟩) := (HD.out 24 (dk (by kernel_rfl)) (by decide))
  generalize xs 24 = x24 at hd24 HQ ⊢; subst hd24
  have hd14 : xs 14 = .string s5 := (HD.out 14 (dk (by kernel_rfl)) (by decide))
  generalize xs 14 = x14 at hd14 HQ ⊢; subst hd14
  have hfr : W.frozen? ⟨B, 43, none⟩ = false := HR.out.free 43
  have hce : W.cell? ⟨B, 43, none⟩ = some (.string ByteArray.empty) := (HR.out.cell 43).trans rfl
  go_wp2
  exact HQ.out undef
 intro xs W7 hW hR hvs
 clear hvs
 simp only [fillAt, dstOf, lc0, lcs, obs, Act.put, lsa, lsz, lss, nz, Nat.reduceAdd]
 have HWW7 := lh hW
 have HRW7 : Hid (RowAt W7 B (entC (mk6 s0 s1 s3 s5))) := lh hR
 have hsW7 := hW.size
 clear hW hR 
 have hg5 : g5 ≠ B := by omega
 have hg56 : g5 < W6.heap.size := by omega
 have hl1n : 6 ≤ l1.length := by omega
 have HX7 : Hid (Ext w W7) := lh (((ButS.of_ext HX6.out).trans HWW7.out).toExt (fun k hk e => by omega))
 have HC17 : Hid (∀ i (h : i < l1.length), W7.cell? ⟨g1, i, none⟩ = some (.string (strOfNums (l1.getD i [])))) := lh (fun i hi => (HWW7.out.cell (p := ⟨g1, i, none⟩) hg6 hgB).trans (HC16.out i hi))
 have HC57 : Hid (∀ i (h : i < l5.length), W7.cell? ⟨g5, i, none⟩ = some (.int .i64 (l5.getD i 0))) := lh (fun i hi => (HWW7.out.cell (p := ⟨g5, i, none⟩) hg56 hg5).trans (HC56.out i hi))
 have q2 : W7.cell? ⟨g1, 2, none⟩ = some (.string t2) := by rw [HC17.out 2 (by omega), HE2.out]
 clear HC16 HC56 HX6 r0 r1 r3 r5 x56 HC15 HC5 HR5 HR6
 go_upto_region 7 with (fail)
 have hg17 : g1 < W7.heap.size := by omega
 refine wp_region_soft 7 (softsL [.eq (.pointer (some ⟨B, 0, none⟩)), .eq (.pointer (some ⟨B, 0, none⟩)), .eq (.pointer (some ⟨B, 4, none⟩)), .eq (.slice (some ⟨B, 4, none⟩) 16 16), .eq (.slice (some ⟨g1, 0, none⟩) 6 c1), .eq (.pointer (some ⟨g1, 2, none⟩)), .eq (.string t2)]) (by kernel_rfl) (by kernel_rfl) (lt_cons ?_ (lt_cons ?_ (lt_cons ?_ (lt_cons ?_ (lt_cons ?_ (lt_cons ?_ (lt_cons ?_ (lt_none)))))))) ?_
 any_goals (refine sop rfl fun xs W HW hsW HD Q' HQ => ?_; simp only [fillAt, dstOf, lc0, lcs, obs, Act.put, lsa, lsz, lss, nz, Nat.reduceAdd] at HQ ⊢)
 ·
  go_wp2
  exact HQ.out _ _ (eR _) rfl
 ·
  have hd0 : xs 0 = .pointer (some ⟨B, 0, none⟩) := (HD.out 0 (dk (by kernel_rfl)))
  generalize xs 0 = x0 at hd0 HQ ⊢; subst hd0
  go_wp2
  exact HQ.out _ _ (eR _) rfl
 ·
  have hd1 : xs 1 = .pointer (some ⟨B, 0, none⟩) := (HD.out 1 (dk (by kernel_rfl)))
  generalize xs 1 = x1 at hd1 HQ ⊢; subst hd1
  go_wp2
  exact HQ.out _ _ (eR _) rfl
 ·
  have hd2 : xs 2 = .pointer (some ⟨B, 4, none⟩) := (HD.out 2 (dk (by kernel_rfl)))
  generalize xs 2 = x2 at hd2 HQ ⊢; subst hd2
  go_wp2
  exact HQ.out _ _ (eR _) rfl
 ·
  go_wp2
  exact HQ.out _ _ (eR _) rfl
 ·
  have hd4 : xs 4 = .slice (some ⟨g1, 0, none⟩) 6 c1 := (HD.out 4 (dk (by kernel_rfl)))
  generalize xs 4 = x4 at hd4 HQ ⊢; subst hd4
  go_wp2
  exact HQ.out _ _ (eR _) rfl
 ·
  have hd5 : xs 5 = .pointer (some ⟨g1, 2, none⟩) := (HD.out 5 (dk (by kernel_rfl)))
  generalize xs 5 = x5 at hd5 HQ ⊢; subst hd5
  have hc : W.cell? ⟨g1, 2, none⟩ = some (.string t2) := (HW.out.cell (p := ⟨g1, 2, none⟩) (by show g1 < _; omega)).trans q2
  go_wp2
  exact HQ.out _ _ (eR _) rfl
 intro xs W8 hW hS
 have h3 : xs 3 = .slice (some ⟨B, 4, none⟩) 16 16 := hS 3 (by omega)
 have h6 : xs 6 = .string t2 := hS 6 (by omega)
 simp only [fillAt, dstOf, lc0, lcs, obs, Act.put, lsa, lsz, lss, nz, Nat.reduceAdd, List.drop_succ_cons, List.drop_zero, List.drop_nil]
 generalize xs 3 = x3 at *; subst h3
 generalize xs 6 = x6 at *; subst h6
 have HW8 := lh (HX7.out.trans hW)
 have HWW8 := lh hW
 clear hS hW 
 have hr8 : RowAt W8 B (entC (mk6 s0 s1 s3 s5)) := HRW7.out.ext HWW8.out
 have hroom : roomOf W8 B 4 (min t2.size 16) = true := by rw [hr8.room, ent_size, HS2.out]; rfl
 have HR8 := lh hr8
 clear hr8 q2
 go_wp2_with (with_reducible refine wpList_copy_str (.tmp 97) (.tmp 100) 154 9 5 (by kernel_rfl) u8_size B 4 16 16 rfl t2 rfl hroom ?_)
 generalize goInt ((min t2.size 16 : Nat) : Int) = cv2
 have hl2t : (bts t2).length = 16 := by rw [bts_length, HS2.out]
 have hcl2 : ((cells8 (bts t2)).toList.take (min t2.size 16)) = (cells8 (bts t2)).toList := List.take_of_length_le (by simp [cells8, hl2t, HS2.out])
 rw [hcl2]
 have hr9 := HR8.out.sets 4 (cells8 (bts t2)).toList
 rw [ent_setBody _ hl2t] at hr9
 refine wp_world (fun W => ButS (fun k => k = B) W7 W ∧ RowAt W B (entC { mk6 s0 s1 s3 s5 with st := { (mk6 s0 s1 s3 s5).st with body := bts t2 } })) ⟨ButS.setCells (S := fun k => k = B) (ButS.of_ext HWW8.out) (B := B) rfl _ _, hr9⟩ ?_
 rintro W9 ⟨x79, u9⟩
 have HX79 := lh x79
 have HR9 := lh u9
 have h79s := x79.size
 clear x79 u9 hr9 hcl2 hroom HR8 HRW7
 go_upto_region 8 with (fail)
 have HX9 : Hid (Ext w W9) := lh (((ButS.of_ext HX7.out).trans HX79.out).toExt (fun k hk e => by omega))
 have HC19 : Hid (∀ i (h : i < l1.length), W9.cell? ⟨g1, i, none⟩ = some (.string (strOfNums (l1.getD i [])))) := lh (fun i hi => (HX79.out.cell (p := ⟨g1, i, none⟩) hg17 hgB).trans (HC17.out i hi))
 have hg57 : g5 < W7.heap.size := by omega
 have HC59 : Hid (∀ i (h : i < l5.length), W9.cell? ⟨g5, i, none⟩ = some (.int .i64 (l5.getD i 0))) := lh (fun i hi => (HX79.out.cell (p := ⟨g5, i, none⟩) hg57 hg5).trans (HC57.out i hi))
 have q4 : W9.cell? ⟨g1, 4, none⟩ = some (.string t4) := by rw [HC19.out 4 (by omega), HE4.out]
 have hg19 : g1 < W9.heap.size := by omega
 clear HC17 HC57
 refine wp_region_soft 7 (softsL [.eq (.pointer (some ⟨B, 0, none⟩)), .eq (.pointer (some ⟨B, 0, none⟩)), .eq (.pointer (some ⟨B, 25, none⟩)), .eq (.slice (some ⟨B, 25, none⟩) 16 16), .eq (.slice (some ⟨g1, 0, none⟩) 6 c1), .eq (.pointer (some ⟨g1, 4, none⟩)), .eq (.string t4)]) (by kernel_rfl) (by kernel_rfl) (lt_cons ?_ (lt_cons ?_ (lt_cons ?_ (lt_cons ?_ (lt_cons ?_ (lt_cons ?_ (lt_cons ?_ (lt_none)))))))) ?_
 any_goals (refine sop rfl fun xs W HW hsW HD Q' HQ => ?_; simp only [fillAt, dstOf, lc0, lcs, obs, Act.put, lsa, lsz, lss, nz, Nat.reduceAdd] at HQ ⊢)
 ·
  go_wp2
  exact HQ.out _ _ (eR _) rfl
 ·
  have hd0 : xs 0 = .pointer (some ⟨B, 0, none⟩) := (HD.out 0 (dk (by kernel_rfl)))
  generalize xs 0 = x0 at hd0 HQ ⊢; subst hd0
  go_wp2
  exact HQ.out _ _ (eR _) rfl
 ·
  have hd1 : xs 1 = .pointer (some ⟨B, 0, none⟩) := (HD.out 1 (dk (by kernel_rfl)))
  generalize xs 1 = x1 at hd1 HQ ⊢; subst hd1
  go_wp2
  exact HQ.out _ _ (eR _) rfl
 ·
  have hd2 : xs 2 = .pointer (some ⟨B, 25, none⟩) := (HD.out 2 (dk (by kernel_rfl)))
  generalize xs 2 = x2 at hd2 HQ ⊢; subst hd2
  go_wp2
  exact HQ.out _ _ (eR _) rfl
 ·
  go_wp2
  exact HQ.out _ _ (eR _) rfl
 ·
  have hd4 : xs 4 = .slice (some ⟨g1, 0, none⟩) 6 c1 := (HD.out 4 (dk (by kernel_rfl)))
  generalize xs 4 = x4 at hd4 HQ ⊢; subst hd4
  go_wp2
  exact HQ.out _ _ (eR _) rfl
 ·
  have hd5 : xs 5 = .pointer (some ⟨g1, 4, none⟩) := (HD.out 5 (dk (by kernel_rfl)))
  generalize xs 5 = x5 at hd5 HQ ⊢; subst hd5
  have hc : W.cell? ⟨g1, 4, none⟩ = some (.string t4) := (HW.out.cell (p := ⟨g1, 4, none⟩) (by show g1 < _; omega)).trans q4
  go_wp2
  exact HQ.out _ _ (eR _) rfl
 intro xs W10 hW hS
 have h3 : xs 3 = .slice (some ⟨B, 25, none⟩) 16 16 := hS 3 (by omega)
 have h6 : xs 6 = .string t4 := hS 6 (by omega)
 simp only [fillAt, dstOf, lc0, lcs, obs, Act.put, lsa, lsz, lss, nz, Nat.reduceAdd, List.drop_succ_cons, List.drop_zero, List.drop_nil]
 generalize xs 3 = x3 at *; subst h3
 generalize xs 6 = x6 at *; subst h6
 have HW10 := lh (HX9.out.trans hW)
 have HWW10 := lh hW
 clear hS hW 
 have hr8 := HR9.out.ext HWW10.out
 have hroom : roomOf W10 B 25 (min t4.size 16) = true := by rw [hr8.room, ent_size, HS4.out]; rfl
 have HR10 := lh hr8
 clear hr8 q4
 go_wp2_with (with_reducible refine wpList_copy_str (.tmp 105) (.tmp 108) 154 9 5 (by kernel_rfl) u8_size B 25 16 16 rfl t4 rfl hroom ?_)
 generalize goInt ((min t4.size 16 : Nat) : Int) = cv4
 have hl4t : (bts t4).length = 16 := by rw [bts_length, HS4.out]
 have hcl4 : ((cells8 (bts t4)).toList.take (min t4.size 16)) = (cells8 (bts t4)).toList := List.take_of_length_le (by simp [cells8, hl4t, HS4.out])
 rw [hcl4]
 have hr9 := HR10.out.sets 25 (cells8 (bts t4)).toList
 rw [ent_setSeal _ hl4t] at hr9
 obtain ⟨k0, hk0⟩ : ∃ k, l5.getD 0 0 = k := ⟨_, rfl⟩
 obtain ⟨k1, hk1⟩ : ∃ k, l5.getD 1 0 = k := ⟨_, rfl⟩
 obtain ⟨k2, hk2⟩ : ∃ k, l5.getD 2 0 = k := ⟨_, rfl⟩
 obtain ⟨k3, hk3⟩ : ∃ k, l5.getD 3 0 = k := ⟨_, rfl⟩
 obtain ⟨k4, hk4⟩ : ∃ k, l5.getD 4 0 = k := ⟨_, rfl⟩
 obtain ⟨k5, hk5⟩ : ∃ k, l5.getD 5 0 = k := ⟨_, rfl⟩
 obtain ⟨k6, hk6⟩ : ∃ k, l5.getD 6 0 = k := ⟨_, rfl⟩
 refine wp_world (fun W => ButS (fun k => k = B) W9 W ∧ RowAt W B (entC (mk9 s0 s1 s3 s5 t2 t4 0 0 0 0 0 0 false))) ⟨ButS.setCells (S := fun k => k = B) (ButS.of_ext HWW10.out) (B := B) rfl _ _, hr9⟩ ?_
 rintro W11 ⟨x11, u11⟩
 have HR11 := lh u11
 have h911s := x11.size
 have HX11 : Hid (Ext w W11) := lh (((ButS.of_ext HX9.out).trans x11).toExt (fun k hk e => by omega))
 have hg59 : g5 < W9.heap.size := by omega
 have HC511 : Hid (∀ i (h : i < l5.length), W11.cell? ⟨g5, i, none⟩ = some (.int .i64 (l5.getD i 0))) := lh (fun i hi => (x11.cell (p := ⟨g5, i, none⟩) hg59 hg5).trans (HC59.out i hi))
 have r0 : W11.cell? ⟨g5, 0, none⟩ = some (.int .i64 k0) := by rw [HC511.out 0 (by omega), hk0]
 have r1 : W11.cell? ⟨g5, 1, none⟩ = some (.int .i64 k1) := by rw [HC511.out 1 (by omega), hk1]
 have r2 : W11.cell? ⟨g5, 2, none⟩ = some (.int .i64 k2) := by rw [HC511.out 2 (by omega), hk2]
 have r3 : W11.cell? ⟨g5, 3, none⟩ = some (.int .i64 k3) := by rw [HC511.out 3 (by omega), hk3]
 have r4 : W11.cell? ⟨g5, 4, none⟩ = some (.int .i64 k4) := by rw [HC511.out 4 (by omega), hk4]
 have r5 : W11.cell? ⟨g5, 5, none⟩ = some (.int .i64 k5) := by rw [HC511.out 5 (by omega), hk5]
 have HK : Hid (l5.getD 0 0 = k0 ∧ l5.getD 1 0 = k1 ∧ l5.getD 2 0 = k2 ∧ l5.getD 3 0 = k3 ∧ l5.getD 4 0 = k4 ∧ l5.getD 5 0 = k5 ∧ l5.getD 6 0 = k6) := lh ⟨hk0, hk1, hk2, hk3, hk4, hk5, hk6⟩
 clear x11 u11 hr9 hcl4 hroom HR10 HR9 hk0 hk1 hk2 hk3 hk4 hk5 hk6 HC59 HC19
 have hg511 : g5 < W11.heap.size := by omega
 go_upto_region 9 with (fail)
 refine wp_region_puts 39 (by kernel_rfl) [26, 29, 32, 35, 38] (fun i => ([.pointer (some ⟨B, 0, none⟩), .pointer (some ⟨B, 0, none⟩), .pointer (some ⟨B, 0, none⟩), .pointer (some ⟨B, 0, none⟩), .pointer (some ⟨B, 0, none⟩), .slice (some ⟨g5, 0, none⟩) l5.length c5, .pointer (some ⟨g5, 0, none⟩), .int .i64 k0, .slice (some ⟨g5, 0, none⟩) l5.length c5, .pointer (some ⟨g5, 1, none⟩), .int .i64 k1, .slice (some ⟨g5, 0, none⟩) l5.length c5, .pointer (some ⟨g5, 2, none⟩), .int .i64 k2, .slice (some ⟨g5, 0, none⟩) l5.length c5, .pointer (some ⟨g5, 3, none⟩), .int .i64 k3, .agg #[.int .i64 k2, .int .i64 k3], .slice (some ⟨g5, 0, none⟩) l5.length c5, .pointer (some ⟨g5, 4, none⟩), .int .i64 k4, .slice (some ⟨g5, 0, none⟩) l5.length c5, .pointer (some ⟨g5, 5, none⟩), .int .i64 k5, .pointer (some ⟨B, 0, none⟩), .pointer (some ⟨B, 2, none⟩), undef, .pointer (some ⟨B, 0, none⟩), .pointer (some ⟨B, 3, none⟩), undef, .pointer (some ⟨B, 0, none⟩), .pointer (some ⟨B, 21, none⟩), undef, .pointer (some ⟨B, 0, none⟩), .pointer (some ⟨B, 23, none⟩), undef, .pointer (some ⟨B, 0, none⟩), .pointer (some ⟨B, 24, none⟩), undef] : List Value).getD i undef) B (fun t => ([entC (mk9 s0 s1 s3 s5 t2 t4 0 0 0 0 0 0 false), entC (mk9 s0 s1 s3 s5 t2 t4 k0 0 0 0 0 0 false), entC (mk9 s0 s1 s3 s5 t2 t4 k0 k1 0 0 0 0 false), entC (mk9 s0 s1 s3 s5 t2 t4 k0 k1 k2 k3 0 0 false), entC (mk9 s0 s1 s3 s5 t2 t4 k0 k1 k2 k3 k4 0 false), entC (mk9 s0 s1 s3 s5 t2 t4 k0 k1 k2 k3 k4 k5 false)] : List (Array Value)).getD t #[]) (fun t => ([2, 3, 21, 23, 24] : List Nat).getD t 0) (fun t => ([[.int .i64 k0], [.int .i64 k1], [.int .i64 k2, .int .i64 k3], [.int .i64 k4], [.int .i64 k5]] : List (List Value)).getD t []) (by kernel_rfl) (by kernel_rfl) (by kernel_rfl) (by kernel_rfl) (by kernel_rfl) HR11.out (lt_cons ?_ (lt_cons ?_ (lt_cons ?_ (lt_cons ?_ (lt_cons ?_ (lt_none)))))) (lt_cons ?_ (lt_cons ?_ (lt_cons ?_ (lt_cons ?_ (lt_cons ?_ (lt_cons ?_ (lt_cons ?_ (lt_cons ?_ (lt_cons ?_ (lt_cons ?_ (lt_cons ?_ (lt_cons ?_ (lt_cons ?_ (lt_cons ?_ (lt_cons ?_ (lt_cons ?_ (lt_cons ?_ (lt_cons ?_ (lt_cons ?_ (lt_cons ?_ (lt_cons ?_ (lt_cons ?_ (lt_cons ?_ (lt_cons ?_ (lt_cons ?_ (lt_cons ?_ (lt_cons ?_ (lt_cons ?_ (lt_cons ?_ (lt_cons ?_ (lt_cons ?_ (lt_cons ?_ (lt_cons ?_ (lt_cons ?_ (lt_cons ?_ (lt_cons ?_ (lt_cons ?_ (lt_cons ?_ (lt_cons ?_ (lt_none)))))))))))))))))))))))))))))))))))))))) (lt_cons ?_ (lt_cons ?_ (lt_cons ?_ (lt_cons ?_ (lt_cons ?_ (lt_none)))))) ?_
 ·rfl
 ·rfl
 ·rfl
 ·rfl
 ·rfl
 ·
  intro _
  refine sopP rfl fun xs W HW hsW HD Q' HQ => ?_; simp only [fillAt, dstOf, lc0, lcs, obs, Act.put, lsa, lsz, lss, nz, Nat.reduceAdd] at HQ ⊢
  go_wp2
  exact HQ.out _ _ (eR _) rfl
 ·
  intro _
  refine sopP rfl fun xs W HW hsW HD Q' HQ => ?_; simp only [fillAt, dstOf, lc0, lcs, obs, Act.put, lsa, lsz, lss, nz, Nat.reduceAdd] at HQ ⊢
  go_wp2
  exact HQ.out _ _ (eR _) rfl
 ·
  intro _
  refine sopP rfl fun xs W HW hsW HD Q' HQ => ?_; simp only [fillAt, dstOf, lc0, lcs, obs, Act.put, lsa, lsz, lss, nz, Nat.reduceAdd] at HQ ⊢
  go_wp2
  exact HQ.out _ _ (eR _) rfl
 ·
  intro _
  refine sopP rfl fun xs W HW hsW HD Q' HQ => ?_; simp only [fillAt, dstOf, lc0, lcs, obs, Act.put, lsa, lsz, lss, nz, Nat.reduceAdd] at HQ ⊢
  go_wp2
  exact HQ.out _ _ (eR _) rfl
 ·
  intro _
  refine sopP rfl fun xs W HW hsW HD Q' HQ => ?_; simp only [fillAt, dstOf, lc0, lcs, obs, Act.put, lsa, lsz, lss, nz, Nat.reduceAdd] at HQ ⊢
  go_wp2
  exact HQ.out _ _ (eR _) rfl
 ·
  intro _
  refine sopP rfl fun xs W HW hsW HD Q' HQ => ?_; simp only [fillAt, dstOf, lc0, lcs, obs, Act.put, lsa, lsz, lss, nz, Nat.reduceAdd] at HQ ⊢
  go_wp2
  exact HQ.out _ _ (eR _) rfl
 ·
  intro _
  refine sopP rfl fun xs W HW hsW HD Q' HQ => ?_; simp only [fillAt, dstOf, lc0, lcs, obs, Act.put, lsa, lsz, lss, nz, Nat.reduceAdd] at HQ ⊢
  have hd5 : xs 5 = .slice (some ⟨g5, 0, none⟩) l5.length c5 := (HD.out 5 (dk (by kernel_rfl)) (by decide))
  generalize xs 5 = x5 at hd5 HQ ⊢; subst hd5
  go_wp2
  exact HQ.out _ _ (eR _) rfl
 ·
  intro _
  refine sopP rfl fun xs W HW hsW HD Q' HQ => ?_; simp only [fillAt, dstOf, lc0, lcs, obs, Act.put, lsa, lsz, lss, nz, Nat.reduceAdd] at HQ ⊢
  have hd6 : xs 6 = .pointer (some ⟨g5, 0, none⟩) := (HD.out 6 (dk (by kernel_rfl)) (by decide))
  generalize xs 6 = x6 at hd6 HQ ⊢; subst hd6
  have hc : W.cell? ⟨g5, 0, none⟩ = some (.int .i64 k0) := (HW.out.cell (p := ⟨g5, 0, none⟩) (by show g5 < _; omega) (by show ¬ (g5 = _); omega)).trans r0
  go_wp2
  exact HQ.out _ _ (eR _) rfl
 ·
  intro _
  refine sopP rfl fun xs W HW hsW HD Q' HQ => ?_; simp only [fillAt, dstOf, lc0, lcs, obs, Act.put, lsa, lsz, lss, nz, Nat.reduceAdd] at HQ ⊢
  go_wp2
  exact HQ.out _ _ (eR _) rfl
 ·
  intro _
  refine sopP rfl fun xs W HW hsW HD Q' HQ => ?_; simp only [fillAt, dstOf, lc0, lcs, obs, Act.put, lsa, lsz, lss, nz, Nat.reduceAdd] at HQ ⊢
  have hd8 : xs 8 = .slice (some ⟨g5, 0, none⟩) l5.length c5 := (HD.out 8 (dk (by kernel_rfl)) (by decide))
  generalize xs 8 = x8 at hd8 HQ ⊢; subst hd8
  go_wp2
  exact HQ.out _ _ (eR _) rfl
 ·
  intro _
  refine sopP rfl fun xs W HW hsW HD Q' HQ => ?_; simp only [fillAt, dstOf, lc0, lcs, obs, Act.put, lsa, lsz, lss, nz, Nat.reduceAdd] at HQ ⊢
  have hd9 : xs 9 = .pointer (some ⟨g5, 1, none⟩) := (HD.out 9 (dk (by kernel_rfl)) (by decide))
  generalize xs 9 = x9 at hd9 HQ ⊢; subst hd9
  have hc : W.cell? ⟨g5, 1, none⟩ = some (.int .i64 k1) := (HW.out.cell (p := ⟨g5, 1, none⟩) (by show g5 < _; omega) (by show ¬ (g5 = _); omega)).trans r1
  go_wp2
  exact HQ.out _ _ (eR _) rfl
 ·
  intro _
  refine sopP rfl fun xs W HW hsW HD Q' HQ => ?_; simp only [fillAt, dstOf, lc0, lcs, obs, Act.put, lsa, lsz, lss, nz, Nat.reduceAdd] at HQ ⊢
  go_wp2
  exact HQ.out _ _ (eR _) rfl
 ·
  intro _
  refine sopP rfl fun xs W HW hsW HD Q' HQ => ?_; simp only [fillAt, dstOf, lc0, lcs, obs, Act.put, lsa, lsz, lss, nz, Nat.reduceAdd] at HQ ⊢
  have hd11 : xs 11 = .slice (some ⟨g5, 0, none⟩) l5.length c5 := (HD.out 11 (dk (by kernel_rfl)) (by decide))
  generalize xs 11 = x11 at hd11 HQ ⊢; subst hd11
  go_wp2
  exact HQ.out _ _ (eR _) rfl
 ·
  intro _
  refine sopP rfl fun xs W HW hsW HD Q' HQ => ?_; simp only [fillAt, dstOf, lc0, lcs, obs, Act.put, lsa, lsz, lss, nz, Nat.reduceAdd] at HQ ⊢
  have hd12 : xs 12 = .pointer (some ⟨g5, 2, none⟩) := (HD.out 12 (dk (by kernel_rfl)) (by decide))
  generalize xs 12 = x12 at hd12 HQ ⊢; subst hd12
  have hc : W.cell? ⟨g5, 2, none⟩ = some (.int .i64 k2) := (HW.out.cell (p := ⟨g5, 2, none⟩) (by show g5 < _; omega) (by show ¬ (g5 = _); omega)).trans r2
  go_wp2
  exact HQ.out _ _ (eR _) rfl
 ·
  intro _
  refine sopP rfl fun xs W HW hsW HD Q' HQ => ?_; simp only [fillAt, dstOf, lc0, lcs, obs, Act.put, lsa, lsz, lss, nz, Nat.reduceAdd] at HQ ⊢
  go_wp2
  exact HQ.out _ _ (eR _) rfl
 ·
  intro _
  refine sopP rfl fun xs W HW hsW HD Q' HQ => ?_; simp only [fillAt, dstOf, lc0, lcs, obs, Act.put, lsa, lsz, lss, nz, Nat.reduceAdd] at HQ ⊢
  have hd14 : xs 14 = .slice (some ⟨g5, 0, none⟩) l5.length c5 := (HD.out 14 (dk (by kernel_rfl)) (by decide))
  generalize xs 14 = x14 at hd14 HQ ⊢; subst hd14
  go_wp2
  exact HQ.out _ _ (eR _) rfl
 ·
  intro _
  refine sopP rfl fun xs W HW hsW HD Q' HQ => ?_; simp only [fillAt, dstOf, lc0, lcs, obs, Act.put, lsa, lsz, lss, nz, Nat.reduceAdd] at HQ ⊢
  have hd15 : xs 15 = .pointer (some ⟨g5, 3, none⟩) := (HD.out 15 (dk (by kernel_rfl)) (by decide))
  generalize xs 15 = x15 at hd15 HQ ⊢; subst hd15
  have hc : W.cell? ⟨g5, 3, none⟩ = some (.int .i64 k3) := (HW.out.cell (p := ⟨g5, 3, none⟩) (by show g5 < _; omega) (by show ¬ (g5 = _); omega)).trans r3
  go_wp2
  exact HQ.out _ _ (eR _) rfl
 ·
  intro _
  refine sopP rfl fun xs W HW hsW HD Q' HQ => ?_; simp only [fillAt, dstOf, lc0, lcs, obs, Act.put, lsa, lsz, lss, nz, Nat.reduceAdd] at HQ ⊢
  have hd13 : xs 13 = .int .i64 k2 := (HD.out 13 (dk (by kernel_rfl)) (by decide))
  generalize xs 13 = x13 at hd13 HQ ⊢; subst hd13
  have hd16 : xs 16 = .int .i64 k3 := (HD.out 16 (dk (by kernel_rfl)) (by decide))
  generalize xs 16 = x16 at hd16 HQ ⊢; subst hd16
  go_wp2
  exact HQ.out _ _ (eR _) rfl
 ·
  intro _
  refine sopP rfl fun xs W HW hsW HD Q' HQ => ?_; simp only [fillAt, dstOf, lc0, lcs, obs, Act.put, lsa, lsz, lss, nz, Nat.reduceAdd] at HQ ⊢
  go_wp2
  exact HQ.out _ _ (eR _) rfl
 ·
  intro _
  refine sopP rfl fun xs W HW hsW HD Q' HQ => ?_; simp only [fillAt, dstOf, lc0, lcs, obs, Act.put, lsa, lsz, lss, nz, Nat.reduceAdd] at HQ ⊢
  have hd18 : xs 18 = .slice (some ⟨g5, 0, none⟩) l5.length c5 := (HD.out 18 (dk (by kernel_rfl)) (by decide))
  generalize xs 18 = x18 at hd18 HQ ⊢; subst hd18
  go_wp2
  exact HQ.out _ _ (eR _) rfl
 ·
  intro _
  refine sopP rfl fun xs W HW hsW HD Q' HQ => ?_; simp only [fillAt, dstOf, lc0, lcs, obs, Act.put, lsa, lsz, lss, nz, Nat.reduceAdd] at HQ ⊢
  have hd19 : xs 19 = .pointer (some ⟨g5, 4, none⟩) := (HD.out 19 (dk (by kernel_rfl)) (by decide))
  generalize xs 19 = x19 at hd19 HQ ⊢; subst hd19
  have hc : W.cell? ⟨g5, 4, none⟩ = some (.int .i64 k4) := (HW.out.cell (p := ⟨g5, 4, none⟩) (by show g5 < _; omega) (by show ¬ (g5 = _); omega)).trans r4
  go_wp2
  exact HQ.out _ _ (eR _) rfl
 ·
  intro _
  refine sopP rfl fun xs W HW hsW HD Q' HQ => ?_; simp only [fillAt, dstOf, lc0, lcs, obs, Act.put, lsa, lsz, lss, nz, Nat.reduceAdd] at HQ ⊢
  go_wp2
  exact HQ.out _ _ (eR _) rfl
 ·
  intro _
  refine sopP rfl fun xs W HW hsW HD Q' HQ => ?_; simp only [fillAt, dstOf, lc0, lcs, obs, Act.put, lsa, lsz, lss, nz, Nat.reduceAdd] at HQ ⊢
  have hd21 : xs 21 = .slice (some ⟨g5, 0, none⟩) l5.length c5 := (HD.out 21 (dk (by kernel_rfl)) (by decide))
  generalize xs 21 = x21 at hd21 HQ ⊢; subst hd21
  go_wp2
  exact HQ.out _ _ (eR _) rfl
 ·
  intro _
  refine sopP rfl fun xs W HW hsW HD Q' HQ => ?_; simp only [fillAt, dstOf, lc0, lcs, obs, Act.put, lsa, lsz, lss, nz, Nat.reduceAdd] at HQ ⊢
  have hd22 : xs 22 = .pointer (some ⟨g5, 5, none⟩) := (HD.out 22 (dk (by kernel_rfl)) (by decide))
  generalize xs 22 = x22 at hd22 HQ ⊢; subst hd22
  have hc : W.cell? ⟨g5, 5, none⟩ = some (.int .i64 k5) := (HW.out.cell (p := ⟨g5, 5, none⟩) (by show g5 < _; omega) (by show ¬ (g5 = _); omega)).trans r5
  go_wp2
  exact HQ.out _ _ (eR _) rfl
 ·
  intro _
  refine sopP rfl fun xs W HW hsW HD Q' HQ => ?_; simp only [fillAt, dstOf, lc0, lcs, obs, Act.put, lsa, lsz, lss, nz, Nat.reduceAdd] at HQ ⊢
  have hd0 : xs 0 = .pointer (some ⟨B, 0, none⟩) := (HD.out 0 (dk (by kernel_rfl)) (by decide))
  generalize xs 0 = x0 at hd0 HQ ⊢; subst hd0
  go_wp2
  exact HQ.out _ _ (eR _) rfl
 ·
  intro _
  refine sopP rfl fun xs W HW hsW HD Q' HQ => ?_; simp only [fillAt, dstOf, lc0, lcs, obs, Act.put, lsa, lsz, lss, nz, Nat.reduceAdd] at HQ ⊢
  have hd24 : xs 24 = .pointer (some ⟨B, 0, none⟩) := (HD.out 24 (dk (by kernel_rfl)) (by decide))
  generalize xs 24 = x24 at hd24 HQ ⊢; subst hd24
  go_wp2
  exact HQ.out _ _ (eR _) rfl
 ·exact fun h => absurd (by decide) h
 ·
  intro _
  refine sopP rfl fun xs W HW hsW HD Q' HQ => ?_; simp only [fillAt, dstOf, lc0, lcs, obs, Act.put, lsa, lsz, lss, nz, Nat.reduceAdd] at HQ ⊢
  have hd1 : xs 1 = .pointer (some ⟨B, 0, none⟩) := (HD.out 1 (dk (by kernel_rfl)) (by decide))
  generalize xs 1 = x1 at hd1 HQ ⊢; subst hd1
  go_wp2
  exact HQ.out _ _ (eR _) rfl
 ·
  intro _
  refine sopP rfl fun xs W HW hsW HD Q' HQ => ?_; simp only [fillAt, dstOf, lc0, lcs, obs, Act.put, lsa, lsz, lss, nz, Nat.reduceAdd] at HQ ⊢
  have hd27 : xs 27 = .pointer (some ⟨B, 0, none⟩) := (HD.out 27 (dk (by kernel_rfl)) (by decide))
  generalize xs 27 = x27 at hd27 HQ ⊢; subst hd27
  go_wp2
  exact HQ.out _ _ (eR _) rfl
 ·exact fun h => absurd (by decide) h
 ·
  intro _
  refine sopP rfl fun xs W HW hsW HD Q' HQ => ?_; simp only [fillAt, dstOf, lc0, lcs, obs, Act.put, lsa, lsz, lss, nz, Nat.reduceAdd] at HQ ⊢
  have hd2 : xs 2 = .pointer (some ⟨B, 0, none⟩) := (HD.out 2 (dk (by kernel_rfl)) (by decide))
  generalize xs 2 = x2 at hd2 HQ ⊢; subst hd2
  go_wp2
  exact HQ.out _ _ (eR _) rfl
 ·
  intro _
  refine sopP rfl fun xs W HW hsW HD Q' HQ => ?_; simp only [fillAt, dstOf, lc0, lcs, obs, Act.put, lsa, lsz, lss, nz, Nat.reduceAdd] at HQ ⊢
  have hd30 : xs 30 = .pointer (some ⟨B, 0, none⟩) := (HD.out 30 (dk (by kernel_rfl)) (by decide))
  generalize xs 30 = x30 at hd30 HQ ⊢; subst hd30
  go_wp2
  exact HQ.out _ _ (eR _) rfl
 ·exact fun h => absurd (by decide) h
 ·
  intro _
  refine sopP rfl fun xs W HW hsW HD Q' HQ => ?_; simp only [fillAt, dstOf, lc0, lcs, obs, Act.put, lsa, lsz, lss, nz, Nat.reduceAdd] at HQ ⊢
  have hd3 : xs 3 = .pointer (some ⟨B, 0, none⟩) := (HD.out 3 (dk (by kernel_rfl)) (by decide))
  generalize xs 3 = x3 at hd3 HQ ⊢; subst hd3
  go_wp2
  exact HQ.out _ _ (eR _) rfl
 ·
  intro _
  refine sopP rfl fun xs W HW hsW HD Q' HQ => ?_; simp only [fillAt, dstOf, lc0, lcs, obs, Act.put, lsa, lsz, lss, nz, Nat.reduceAdd] at HQ ⊢
  have hd33 : xs 33 = .pointer (some ⟨B, 0, none⟩) := (HD.out 33 (dk (by kernel_rfl)) (by decide))
  generalize xs 33 = x33 at hd33 HQ ⊢; subst hd33
  go_wp2
  exact HQ.out _ _ (eR _) rfl
 ·exact fun h => absurd (by decide) h
 ·
  intro _
  refine sopP rfl fun xs W HW hsW HD Q' HQ => ?_; simp only [fillAt, dstOf, lc0, lcs, obs, Act.put, lsa, lsz, lss, nz, Nat.reduceAdd] at HQ ⊢
  have hd4 : xs 4 = .pointer (some ⟨B, 0, none⟩) := (HD.out 4 (dk (by kernel_rfl)) (by decide))
  generalize xs 4 = x4 at hd4 HQ ⊢; subst hd4
  go_wp2
  exact HQ.out _ _ (eR _) rfl
 ·
  intro _
  refine sopP rfl fun xs W HW hsW HD Q' HQ => ?_; simp only [fillAt, dstOf, lc0, lcs, obs, Act.put, lsa, lsz, lss, nz, Nat.reduceAdd] at HQ ⊢
  have hd36 : xs 36 = .pointer (some ⟨B, 0, none⟩) := (HD.out 36 (dk (by kernel_rfl)) (by decide))
  generalize xs 36 = x36 at hd36 HQ ⊢; subst hd36
  go_wp2
  exact HQ.out _ _ (eR _) rfl
 ·exact fun h => absurd (by decide) h
 ·
  refine sopW rfl fun xs W HW hsW HR HD Q' HQ => ?_; simp only [fillAt, dstOf, lc0, lcs, obs, Act.put, lsa, lsz, lss, nz, Nat.reduceAdd] at HQ ⊢
  have hd25 : xs 25 = .pointer (some ⟨B, 2, none⟩) := (HD.out 25 (dk (by kernel_rfl)) (by decide))
  generalize xs 25 = x25 at hd25 HQ ⊢; subst hd25
  have hd7 : xs 7 = .int .i64 k0 := (HD.out 7 (dk (by kernel_rfl)) (by decide))
  generalize xs 7 = x7 at hd7 HQ ⊢; subst hd7
  have hfr : W.frozen? ⟨B, 2, none⟩ = false := HR.out.free 2
  have hce : W.cell? ⟨B, 2, none⟩ = some (.int .i64 0) := (HR.out.cell 2).trans rfl
  go_wp2
  exact HQ.out undef
 ·
  refine sopW rfl fun xs W HW hsW HR HD Q' HQ => ?_; simp only [fillAt, dstOf, lc0, lcs, obs, Act.put, lsa, lsz, lss, nz, Nat.reduceAdd] at HQ ⊢
  have hd28 : xs 28 = .pointer (some ⟨B, 3, none⟩) := (HD.out 28 (dk (by kernel_rfl)) (by decide))
  generalize xs 28 = x28 at hd28 HQ ⊢; subst hd28
  have hd10 : xs 10 = .int .i64 k1 := (HD.out 10 (dk (by kernel_rfl)) (by decide))
  generalize xs 10 = x10 at hd10 HQ ⊢; subst hd10
  have hfr : W.frozen? ⟨B, 3, none⟩ = false := HR.out.free 3
  have hce : W.cell? ⟨B, 3, none⟩ = some (.int .i64 0) := (HR.out.cell 3).trans rfl
  go_wp2
  exact HQ.out undef
 ·
  refine sopW rfl fun xs W HW hsW HR HD Q' HQ => ?_; simp only [fillAt, dstOf, lc0, lcs, obs, Act.put, lsa, lsz, lss, nz, Nat.reduceAdd] at HQ ⊢
  have hd31 : xs 31 = .pointer (some ⟨B, 21, none⟩) := (HD.out 31 (dk (by kernel_rfl)) (by decide))
  generalize xs 31 = x31 at hd31 HQ ⊢; subst hd31
  have hd17 : xs 17 = .agg #[.int .i64 k2, .int .i64 k3] := (HD.out 17 (dk (by kernel_rfl)) (by decide))
  generalize xs 17 = x17 at hd17 HQ ⊢; subst hd17
  have hfr : W.frozen? ⟨B, 21, none⟩ = false := HR.out.free 21
  have hce : W.cell? ⟨B, 21, none⟩ = some (.int .i64 0) := (HR.out.cell 21).trans rfl
  have hfr2 : W.frozen? ⟨B, 22, none⟩ = false := HR.out.free 22
  have hce2 : W.cell? ⟨B, 22, none⟩ = some (.int .i64 0) := (HR.out.cell 22).trans rfl
  go_wp2
  exact HQ.out undef
 ·
  refine sopW rfl fun xs W HW hsW HR HD Q' HQ => ?_; simp only [fillAt, dstOf, lc0, lcs, obs, Act.put, lsa, lsz, lss, nz, Nat.reduceAdd] at HQ ⊢
  have hd34 : xs 34 = .pointer (some ⟨B, 23, none⟩) := (HD.out 34 (dk (by kernel_rfl)) (by decide))
  generalize xs 34 = x34 at hd34 HQ ⊢; subst hd34
  have hd20 : xs 20 = .int .i64 k4 := (HD.out 20 (dk (by kernel_rfl)) (by decide))
  generalize xs 20 = x20 at hd20 HQ ⊢; subst hd20
  have hfr : W.frozen? ⟨B, 23, none⟩ = false := HR.out.free 23
  have hce : W.cell? ⟨B, 23, none⟩ = some (.int .i64 0) := (HR.out.cell 23).trans rfl
  go_wp2
  exact HQ.out undef
 ·
  refine sopW rfl fun xs W HW hsW HR HD Q' HQ => ?_; simp only [fillAt, dstOf, lc0, lcs, obs, Act.put, lsa, lsz, lss, nz, Nat.reduceAdd] at HQ ⊢
  have hd37 : xs 37 = .pointer (some ⟨B, 24, none⟩) := (HD.out 37 (dk (by kernel_rfl)) (by decide))
  generalize xs 37 = x37 at hd37 HQ ⊢; subst hd37
  have hd23 : xs 23 = .int .i64 k5 := (HD.out 23 (dk (by kernel_rfl)) (by decide))
  generalize xs 23 = x23 at hd23 HQ ⊢; subst hd23
  have hfr : W.frozen? ⟨B, 24, none⟩ = false := HR.out.free 24
  have hce : W.cell? ⟨B, 24, none⟩ = some (.int .i64 0) := (HR.out.cell 24).trans rfl
  go_wp2
  exact HQ.out undef
 intro xs W12 hW hR hvs
 clear hvs
 simp only [fillAt, dstOf, lc0, lcs, obs, Act.put, lsa, lsz, lss, nz, Nat.reduceAdd]
 have HWW12 := lh hW
 have HRW12 : Hid (RowAt W12 B (entC (mk9 s0 s1 s3 s5 t2 t4 k0 k1 k2 k3 k4 k5 false))) := lh hR
 have hsW12 := hW.size
 clear hW hR 
 go_upto_region 10 with (fail)
 have HX12 : Hid (Ext w W12) := lh (((ButS.of_ext HX11.out).trans HWW12.out).toExt (fun k hk e => by omega))
 have HC512 : Hid (∀ i (h : i < l5.length), W12.cell? ⟨g5, i, none⟩ = some (.int .i64 (l5.getD i 0))) := lh (fun i hi => (HWW12.out.cell (p := ⟨g5, i, none⟩) hg511 hg5).trans (HC511.out i hi))
 have r6 : W12.cell? ⟨g5, 6, none⟩ = some (.int .i64 k6) := by rw [HC512.out 6 (by omega), HK.out.2.2.2.2.2.2]
 have hfr : W12.frozen? ⟨B, 41, none⟩ = false := HRW12.out.free 41
 have hce : W12.cell? ⟨B, 41, none⟩ = some (.bool false) := (HRW12.out.cell 41).trans rfl
 have hg512 : g5 < W12.heap.size := by omega
 clear HC511 r0 r1 r2 r3 r4 r5 HR11
 go_upto_region 11 with (fail)
 refine wp_world (fun W => ButS (fun k => k = B) W12 W ∧ RowAt W B (entC (mk9 s0 s1 s3 s5 t2 t4 k0 k1 k2 k3 k4 k5 (k6 == 1)))) ⟨(ButS.refl (fun k => k = B) W12).setCell (p := ⟨B, 41, none⟩) (.inl rfl) _, HRW12.out.sets 41 [.bool (k6 == 1)]⟩ ?_
 rintro W13 ⟨x13, u13⟩
 have HX13 : Hid (Ext w W13) := lh (((ButS.of_ext HX12.out).trans x13).toExt (fun k hk e => by omega))
 have HC13 : Hid (∀ i (h : i < l5.length), W13.cell? ⟨g5, i, none⟩ = some (.int .i64 (l5.getD i 0))) := lh (fun i hi => (x13.cell (p := ⟨g5, i, none⟩) hg512 hg5).trans (HC512.out i hi))
 have HR13 := lh u13
 have h13s := x13.size
 have hB13 := u13.lt
 have hg513 : g5 < W13.heap.size := by omega
 clear x13 u13 HC512 r6 hfr hce HX12 HRW12
 obtain ⟨E, hE⟩ : ∃ E, mk9 s0 s1 s3 s5 t2 t4 k0 k1 k2 k3 k4 k5 (k6 == 1) = E := ⟨_, rfl⟩
 have HE := lh hE
 rw [hE] at HR13
 clear hE
 obtain ⟨N, hN⟩ : ∃ N, (l5.length - 7) / 2 = N := ⟨_, rfl⟩
 have hlN1 : 7 + 2 * N ≤ l5.length := by omega
 have hlN2 : l5.length ≤ 7 + 2 * N := by omega
 have HNN : Hid ((l5.length - 7) / 2 = N) := lh hN
 clear hN f4
 go_wp2
 go_loopw [9] (fun i wr => ∃ (j p : Nat) (A : Option Addr) (c : Nat) (l : List Sp), j ≤ N ∧ i = .int .i64 p ∧ Hid (p = 7 + 2 * j) ∧ Hid (l = spsN l5 j) ∧ Hid (ButS (fun k => k = B) W13 wr) ∧ Hid (RowAt wr B (entC { E with hv := .slice A l.length c })) ∧ Hid (OwnsSp W13.heap.size wr A c l)) (fun i _ => N + 7 - (intOf i).toNat / 2)
 case atStart =>
  refine ⟨0, 7, none, 0, [], Nat.zero_le _, rfl, lh rfl, lh rfl, lh (ButS.refl _ _), lh ?_, lh (Owns.nil _ _ _ _ _)⟩
  have h := HR13.out
  rw [← HE.out] at h ⊢
  exact h
 case round =>
  obtain ⟨j, p, A, c, l, hj, rfl, HP, HL, HB, HR, HO⟩ := hrel
  have hlj : l.length = j := by rw [HL.out, spsN_len]
  have hls : l5.length ≤ 10000 := by
   have e := HUK2.out
   have e2 : (uK s).1.length = l5.length := by rw [e]
   have : (uK s).1.length ≤ (bts s).length := by
    unfold uK
    have := getAll_len Wire.getI ((bts s).drop (uT s).2.1)
    rw [List.length_drop] at this
    omega
   omega
  have HLJ := lh hlj
  have hln : l.length ≤ 10000 := by omega
  clear hlj
  by_cases hlt : j < N
  ·have hp1 : p < l5.length := by have := HP.out; omega
   have hp2 : p + 1 < l5.length := by have := HP.out; omega
   have r1 : wr.cell? ⟨g5, p, none⟩ = some (.int .i64 (l5.getD p 0)) := (HB.out.cell (p := ⟨g5, p, none⟩) hg513 hg5).trans (HC13.out _ (by omega))
   have r2 : wr.cell? ⟨g5, p + 1, none⟩ = some (.int .i64 (l5.getD (p + 1) 0)) := (HB.out.cell (p := ⟨g5, p + 1, none⟩) hg513 hg5).trans (HC13.out _ (by omega))
   have HLs : Hid (spsN l5 (j + 1) = spsN l5 j ++ [(l5.getD p 0, l5.getD (p + 1) 0)]) := lh (by rw [HP.out]; exact spsN_succ l5 j)
   generalize l5.getD p 0 = x1 at *
   generalize l5.getD (p + 1) 0 = x2 at *
   have hbr := HB.out.size
   have hg5r : g5 < wr.heap.size := by omega
   go_upto_region 14 with (fail)
   refine wp_region_app 16 (by kernel_rfl) 12 13 15 (fun i => ([.pointer (some ⟨B, 42, none⟩), .slice A l.length c, .slice (some ⟨g5, 0, none⟩) l5.length c5, .int .i64 p, .pointer (some ⟨g5, p, none⟩), .int .i64 x1, .slice (some ⟨g5, 0, none⟩) l5.length c5, .int .i64 p, .int .i64 (p + 1 : Nat), .pointer (some ⟨g5, p + 1, none⟩), .int .i64 x2, .agg #[.int .i64 x1, .int .i64 x2], undef, undef, .pointer (some ⟨B, 42, none⟩), undef] : List Value).getD i undef) B W13.heap.size 42 (entC { E with hv := .slice A l.length c })
    (fun v W => ∃ g, v = .slice (some ⟨g, 0, none⟩) 1 1 ∧ g < W.heap.size ∧ W.cell? ⟨g, 0, none⟩ = some (.int .i64 x1) ∧ W.cell? ⟨g, 1, none⟩ = some (.int .i64 x2))
    (fun v W => ∃ A' c', v = .slice A' (l.length + 1) c' ∧ OwnsSp W13.heap.size W A' c' (l ++ [(x1, x2)]))
    (by kernel_rfl) (by kernel_rfl) (by kernel_rfl) (by kernel_rfl) (by kernel_rfl) ⟨by omega, by omega, dk (by kernel_rfl)⟩ HR.out hB13 hbr ?_ ?_ ?_ ?_ ?_ ?_ ?_
   ·rintro v W W' ⟨g, h1, h2, h3, h4⟩ hx
    exact ⟨g, h1, Nat.lt_of_lt_of_le h2 hx.size, (hx.cell (p := ⟨g, 0, none⟩) h2).trans h3, (hx.cell (p := ⟨g, 1, none⟩) h2).trans h4⟩
   ·rintro v W W' ⟨A', c', h1, h2⟩ hx
    exact ⟨A', c', h1, h2.ext hx⟩
   ·rintro v W u ⟨A', c', h1, h2⟩
    exact ⟨A', c', h1, h2.other (p := ⟨B, 42, none⟩) hB13 _⟩
   ·refine lt_cons ?_ (lt_cons ?_ (lt_cons ?_ (lt_cons ?_ (lt_cons ?_ (lt_cons ?_ (lt_cons ?_ (lt_cons ?_ (lt_cons ?_ (lt_cons ?_ (lt_cons ?_ (lt_cons ?_ (lt_cons ?_ (lt_cons ?_ (lt_cons ?_ (lt_cons ?_ (lt_none))))))))))))))))
    ·intro _
     refine sopP rfl fun xs W HW hsW HD Q' HQ => ?_; simp only [fillAt, dstOf, lc0, lcs, obs, Act.put, lsa, lsz, lss, nz, Nat.reduceAdd] at HQ ⊢
     go_wp2
     exact HQ.out _ _ (eR _) (ite_no (by decide) rfl)
    ·intro _
     refine sopP rfl fun xs W HW hsW HD Q' HQ => ?_; simp only [fillAt, dstOf, lc0, lcs, obs, Act.put, lsa, lsz, lss, nz, Nat.reduceAdd] at HQ ⊢
     have hd0 : xs 0 = .pointer (some ⟨B, 42, none⟩) := (HD.out.2 0 (dk (by kernel_rfl)) (by decide))
     generalize xs 0 = x0 at hd0 HQ ⊢; subst hd0
     have hc : W.cell? ⟨B, 42, none⟩ = some (.slice A l.length c) := ((HR.out.ext (HD.out.1 (dk (by kernel_rfl)))).cell 42).trans rfl
     go_wp2
     exact HQ.out _ _ (eR _) (ite_no (by decide) rfl)
    ·intro _
     refine sopP rfl fun xs W HW hsW HD Q' HQ => ?_; simp only [fillAt, dstOf, lc0, lcs, obs, Act.put, lsa, lsz, lss, nz, Nat.reduceAdd] at HQ ⊢
     go_wp2
     exact HQ.out _ _ (eR _) (ite_no (by decide) rfl)
    ·intro _
     refine sopP rfl fun xs W HW hsW HD Q' HQ => ?_; simp only [fillAt, dstOf, lc0, lcs, obs, Act.put, lsa, lsz, lss, nz, Nat.reduceAdd] at HQ ⊢
     go_wp2
     exact HQ.out _ _ (eR _) (ite_no (by decide) rfl)
    ·intro _
     refine sopP rfl fun xs W HW hsW HD Q' HQ => ?_; simp only [fillAt, dstOf, lc0, lcs, obs, Act.put, lsa, lsz, lss, nz, Nat.reduceAdd] at HQ ⊢
     have hd2 : xs 2 = .slice (some ⟨g5, 0, none⟩) l5.length c5 := (HD.out.2 2 (dk (by kernel_rfl)) (by decide))
     generalize xs 2 = x2 at hd2 HQ ⊢; subst hd2
     have hd3 : xs 3 = .int .i64 p := (HD.out.2 3 (dk (by kernel_rfl)) (by decide))
     generalize xs 3 = x3 at hd3 HQ ⊢; subst hd3
     go_wp2
     exact HQ.out _ _ (eR _) (ite_no (by decide) rfl)
    ·intro _
     refine sopP rfl fun xs W HW hsW HD Q' HQ => ?_; simp only [fillAt, dstOf, lc0, lcs, obs, Act.put, lsa, lsz, lss, nz, Nat.reduceAdd] at HQ ⊢
     have hd4 : xs 4 = .pointer (some ⟨g5, p, none⟩) := (HD.out.2 4 (dk (by kernel_rfl)) (by decide))
     generalize xs 4 = x4 at hd4 HQ ⊢; subst hd4
     have hc : W.cell? ⟨g5, p, none⟩ = some (.int .i64 x1) := (HW.out.cell (p := ⟨g5, p, none⟩) hg5r (by show ¬ (W13.heap.size ≤ g5 ∨ g5 = B); omega)).trans r1
     go_wp2
     exact HQ.out _ _ (eR _) (ite_no (by decide) rfl)
    ·intro _
     refine sopP rfl fun xs W HW hsW HD Q' HQ => ?_; simp only [fillAt, dstOf, lc0, lcs, obs, Act.put, lsa, lsz, lss, nz, Nat.reduceAdd] at HQ ⊢
     go_wp2
     exact HQ.out _ _ (eR _) (ite_no (by decide) rfl)
    ·intro _
     refine sopP rfl fun xs W HW hsW HD Q' HQ => ?_; simp only [fillAt, dstOf, lc0, lcs, obs, Act.put, lsa, lsz, lss, nz, Nat.reduceAdd] at HQ ⊢
     go_wp2
     exact HQ.out _ _ (eR _) (ite_no (by decide) rfl)
    ·intro _
     refine sopP rfl fun xs W HW hsW HD Q' HQ => ?_; simp only [fillAt, dstOf, lc0, lcs, obs, Act.put, lsa, lsz, lss, nz, Nat.reduceAdd] at HQ ⊢
     have hd7 : xs 7 = .int .i64 p := (HD.out.2 7 (dk (by kernel_rfl)) (by decide))
     generalize xs 7 = x7 at hd7 HQ ⊢; subst hd7
     go_wp2
     exact HQ.out _ _ (eR _) (ite_no (by decide) (by show Value.int _ _ = .int .i64 ((p + 1 : Nat) : Int); simp))
    ·intro _
     refine sopP rfl fun xs W HW hsW HD Q' HQ => ?_; simp only [fillAt, dstOf, lc0, lcs, obs, Act.put, lsa, lsz, lss, nz, Nat.reduceAdd] at HQ ⊢
     have hd6 : xs 6 = .slice (some ⟨g5, 0, none⟩) l5.length c5 := (HD.out.2 6 (dk (by kernel_rfl)) (by decide))
     generalize xs 6 = x6 at hd6 HQ ⊢; subst hd6
     have hd8 : xs 8 = .int .i64 (p + 1 : Nat) := (HD.out.2 8 (dk (by kernel_rfl)) (by decide))
     generalize xs 8 = x8 at hd8 HQ ⊢; subst hd8
     go_wp2
     exact HQ.out _ _ (eR _) (ite_no (by decide) rfl)
    ·intro _
     refine sopP rfl fun xs W HW hsW HD Q' HQ => ?_; simp only [fillAt, dstOf, lc0, lcs, obs, Act.put, lsa, lsz, lss, nz, Nat.reduceAdd] at HQ ⊢
     have hd9 : xs 9 = .pointer (some ⟨g5, p + 1, none⟩) := (HD.out.2 9 (dk (by kernel_rfl)) (by decide))
     generalize xs 9 = x9 at hd9 HQ ⊢; subst hd9
     have hc : W.cell? ⟨g5, p + 1, none⟩ = some (.int .i64 x2) := (HW.out.cell (p := ⟨g5, p + 1, none⟩) hg5r (by show ¬ (W13.heap.size ≤ g5 ∨ g5 = B); omega)).trans r2
     go_wp2
     exact HQ.out _ _ (eR _) (ite_no (by decide) rfl)
    ·intro _
     refine sopP rfl fun xs W HW hsW HD Q' HQ => ?_; simp only [fillAt, dstOf, lc0, lcs, obs, Act.put, lsa, lsz, lss, nz, Nat.reduceAdd] at HQ ⊢
     have hd5 : xs 5 = .int .i64 x1 := (HD.out.2 5 (dk (by kernel_rfl)) (by decide))
     generalize xs 5 = x5 at hd5 HQ ⊢; subst hd5
     have hd10 : xs 10 = .int .i64 x2 := (HD.out.2 10 (dk (by kernel_rfl)) (by decide))
     generalize xs 10 = x10 at hd10 HQ ⊢; subst hd10
     go_wp2
     exact HQ.out _ _ (eR _) (ite_no (by decide) rfl)
    ·intro _
     refine sopP rfl fun xs W HW hsW HD Q' HQ => ?_; simp only [fillAt, dstOf, lc0, lcs, obs, Act.put, lsa, lsz, lss, nz, Nat.reduceAdd] at HQ ⊢
     have hd11 : xs 11 = .agg #[.int .i64 x1, .int .i64 x2] := (HD.out.2 11 (dk (by kernel_rfl)) (by decide))
     generalize xs 11 = x11 at hd11 HQ ⊢; subst hd11
     go_wp2
     exact HQ.out _ _ ((eR _).alloc _) (ite_yes trivial ⟨_, rfl, by simp, by rw [alloc_cell_if, if_pos rfl]; rfl, by rw [alloc_cell_if, if_pos rfl]; rfl⟩)
    ·exact fun h => absurd rfl h.1
    ·intro _
     refine sopP rfl fun xs W HW hsW HD Q' HQ => ?_; simp only [fillAt, dstOf, lc0, lcs, obs, Act.put, lsa, lsz, lss, nz, Nat.reduceAdd] at HQ ⊢
     go_wp2
     exact HQ.out _ _ (eR _) (ite_no (by decide) rfl)
    ·exact fun h => absurd rfl h.2
   ·refine sopA rfl fun xs W HX hsW HN HD Q' HQ => ?_
    simp only [fillAt, dstOf, lc0, lcs, obs, Act.put, lsa, lsz, lss, nz, Nat.reduceAdd] at HQ ⊢
    have hd1 : xs 1 = .slice A l.length c := (HD.out 1 (dk (by kernel_rfl)) (by decide))
    generalize xs 1 = x1 at hd1 HQ ⊢; subst hd1
    obtain ⟨g, h12, hg, q1, q2⟩ := HN.out
    generalize xs 12 = x12 at h12 HQ ⊢; subst h12
    go_wp2_with (at_builtin; refine app_from spT spE rfl _ _ rfl W13.heap.size _ _ l rfl (HO.out.ext HX.out) _ 1 _ [(x1, x2)] rfl rfl ?_ (by omega) (by omega) (by omega) ?_)
    ·intro j u hu
     have hj : j = 0 ∨ j = 1 := by
      have := (List.getElem?_eq_some_iff.1 hu).1
      simp [encSp] at this
      omega
     rcases hj with rfl | rfl
     ·simp [encSp] at hu; subst hu; exact q1
     ·simp [encSp] at hu; subst hu; exact q2
    ·intro A' c' l' w' HLl hO hB h1 h2 _
     go_wp2
     have e : l'.length = l.length + 1 := by omega
     have e2 := HLl.out
     exact HQ.out (.slice A' l'.length c') _ ⟨A', c', by rw [e], by rw [← e2]; exact hO⟩ hB
   ·refine sopP rfl fun xs W HW hsW HD Q' HQ => ?_
    simp only [fillAt, dstOf, lc0, lcs, obs, Act.put, lsa, lsz, lss, nz, Nat.reduceAdd] at HQ ⊢
    have hd14 : xs 14 = .pointer (some ⟨B, 42, none⟩) := (HD.out.2 14 (dk (by kernel_rfl)) (by decide))
    generalize xs 14 = x14 at hd14 HQ ⊢; subst hd14
    have hfr : W.frozen? ⟨B, 42, none⟩ = false := HD.out.1.1.free 42
    have hce : W.cell? ⟨B, 42, none⟩ = some (.slice A l.length c) := (HD.out.1.1.cell 42).trans rfl
    obtain ⟨A', c', h13, _⟩ := HD.out.1.2
    generalize xs 13 = x13 at h13 HQ ⊢; subst h13
    go_wp2
    exact HQ.out undef
   ·intro xs W14 hW14 hR14 hN14
    obtain ⟨A', c', h13, hO⟩ := hN14
    rw [h13] at hR14
    clear h13
    have HW14 := lh hW14
    have HR14 := lh hR14
    have HO14 := lh hO
    clear hW14 hR14 hO
    simp only [fillAt, dstOf, lc0, lcs, obs, Act.put, lsa, lsz, lss, nz, Nat.reduceAdd]
    go_wp2
    go_roundw
    case rel =>
     refine ⟨j + 1, p + 2, A', c', l ++ [(x1, x2)], by omega, by go_num, lh (by have := HP.out; omega), lh (by rw [HL.out, HLs.out]), lh ?_, lh ?_, lh ?_⟩
     ·exact ((HB.out.mono (S' := fun k => W13.heap.size ≤ k ∨ k = B) (fun k _ e => .inr e)).trans HW14.out).mono (fun k hk e => e.elim (fun h => absurd hk (by omega)) id)
     ·have h := HR14.out
      have e : laidOver (entC { E with hv := .slice A l.length c }) 42 [.slice A' (l.length + 1) c'] = entC { E with hv := .slice A' (l ++ [(x1, x2)]).length c' } := by rw [List.length_append]; rfl
      rwa [e] at h
     ·exact HO14.out
    case measure => simp [intOf]; omega
  ·have hjN : j = N := by omega
   have HUL : Hid (unpL s = l) := lh (by
    rw [HL0.out l5 (by rw [HUK2.out]), HNN.out, HL.out, hjN])
   have HXr : Hid (Ext w wr) := lh (((ButS.of_ext HX13.out).trans HB.out).toExt (fun k hk e => by omega))
   have hpn : ¬ ((p : Int) < (l5.length : Int)) := by have := HP.out; omega
   have hBr := HR.out.lt
   have HRd : Hid (ReadsSp wr wr.heap.size A l) := lh (HO.out.reads spE)
   have HZ : Hid (A = none → c = 0) := lh (fun h => (by
    rcases HO.out.cases with ⟨_, h2, _⟩ | ⟨g, cur, h2, _⟩
    ·exact h2
    ·rw [h] at h2; cases h2))
   obtain ⟨E1, hE1⟩ : ∃ E1, ({ E with hv := .slice A l.length c } : En) = E1 := ⟨_, rfl⟩
   have HEE1 := lh hE1
   have hv1 : E1.hv = .slice A l.length c := by rw [← hE1]
   have hz1 : E1.st.size = k1 := by rw [← hE1, ← HE.out]; rfl
   rw [hE1] at HR
   have hfit : fitsRow 45 (entC E1) = true := ent_fits_of hv1
   have q42 : wr.cell? ⟨B, 42, none⟩ = some (.slice A l.length c) := (HR.out.cell 42).trans (by rw [ent_g42, hv1])
   have q3 : wr.cell? ⟨B, 3, none⟩ = some (.int .i64 k1) := (HR.out.cell 3).trans (by rw [ent_g3, hz1])
   have row : rowOf wr B 0 45 = some (entC E1) := HR.out.all (ent_size _).symm (by omega)
   have HAll := lh (fun W => all_any E1 W)
   rw [hz1] at HAll
   clear hE1 hjN HL0 HC13 HNN hlN1 hlN2 HL hv1 hz1 hls
   go_upto_region 15 with (fail)
   have HWb : Hid (wholeB l k1 = ((decide (l.length = 1) && decide (l.getD 0 (0, 0) = (0, k1))) || decide (k1 = 0))) := lh rfl
   by_cases h1 : l.length = 1
   ·obtain ⟨b, off, hA, hb6, y1, y2⟩ := ReadsSp.cell HRd.out 0 (by omega)
    obtain ⟨sp, hsp⟩ : ∃ sp, l.getD 0 (0, 0) = sp := ⟨_, rfl⟩
    have hsp2 : l[0]'(by omega) = sp := by rw [← hsp, List.getD_eq_getElem?_getD, List.getElem?_eq_getElem (by omega)]; rfl
    rw [hsp2] at y1 y2
    rw [hsp] at HWb
    have e1 : ((l.length : Int) == 1) = true := by rw [beq_iff_eq]; omega
    subst hA
    obtain ⟨sa, sb⟩ := sp
    clear hsp hsp2
    have HY1 : Hid (∀ W, Ext wr W → W.cell? ⟨b, off, none⟩ = some (.int .i64 sa)) := lh (fun W hx => (hx.cell (p := ⟨b, off, none⟩) hb6).trans (by simpa using y1))
    have HY2 : Hid (∀ W, Ext wr W → W.cell? ⟨b, off + 1, none⟩ = some (.int .i64 sb)) := lh (fun W hx => (hx.cell (p := ⟨b, off + 1, none⟩) hb6).trans (by simpa using y2))
    have y1' : wr.cell? ⟨b, off, none⟩ = some (.int .i64 sa) := HY1.out wr (eR _)
    have y2' : wr.cell? ⟨b, off + 1, none⟩ = some (.int .i64 sb) := HY2.out wr (eR _)
    clear y1 y2
    by_cases hs0 : sa = 0 ∧ sb = k1
    ·obtain ⟨rfl, rfl⟩ := hs0
     refine wp_region_later (by kernel_rfl) (by kernel_rfl) ?_
     repeat (first | go_big_quiet_step ((go_at_call 128; exact quietE (HAll.out _))) | quiet_step ((go_at_call 128; exact quietE (HAll.out _))))
     refine wpQuiet_nil ?_
     rintro _ ⟨xq, rfl⟩
     have HWc : Hid (wholeB l sb = true) := lh (by rw [HWb.out, decide_eq_true h1]; simp)
     go_upto_region 16 with (fail)
     refine wp_world (fun W => Ext wr W) (by (with_reducible repeat first|exact eR _|apply eD|apply eN|apply eA|apply eO|apply eS|apply eC);all_goals first|omega|simp <;> omega) ?_
     intro W15 x15
     have HR15 := lh (HR.out.ext x15)
     have q3' : W15.cell? ⟨B, 3, none⟩ = some (.int .i64 sb) := (x15.cell (p := ⟨B, 3, none⟩) hBr).trans q3
     have hfr : W15.frozen? ⟨B, 44, none⟩ = false := HR15.out.free 44
     have hce : W15.cell? ⟨B, 44, none⟩ = some (.bool false) := (HR15.out.cell 44).trans (by rw [← HEE1.out, ← HE.out]; rfl)
     have HX15 := lh x15
     have hs15 := x15.size
     clear x15 q3 q42 row
     go_upto_region 17 with (fail)
     refine wp_world (fun W => ButS (fun k => k = B) W15 W ∧ RowAt W B (entC { E1 with whole := true }) ∧ OwnsSp W13.heap.size W (some ⟨b, off, none⟩) c l) ⟨(ButS.refl (fun k => k = B) W15).setCell (p := ⟨B, 44, none⟩) (.inl rfl) _, HR15.out.sets 44 [.bool true], (HO.out.ext HX15.out).other (p := ⟨B, 44, none⟩) hB13 _⟩ ?_
     rintro W17 ⟨x17, u17, o17⟩
     have HX17 : Hid (Ext w W17) := lh (((ButS.of_ext (HXr.out.trans HX15.out)).trans x17).toExt (fun k hk e => by omega))
     have HRd17 : Hid (ReadsSp W17 W17.heap.size (some ⟨b, off, none⟩) l) := lh (o17.reads spE)
     have HO17 := lh o17
     obtain ⟨E2, hE2⟩ : ∃ E2, ({ E1 with whole := true } : En) = E2 := ⟨_, rfl⟩
     have HF2 : Hid (E2.st.addr = s0 ∧ E2.st.var = s1 ∧ E2.st.tags = s3 ∧ E2.bytes = s5 ∧ E2.st.body = bts t2 ∧ E2.st.seal_ = bts t4 ∧ E2.hv = .slice (some ⟨b, off, none⟩) l.length c) := lh (by
      rw [← hE2, ← HEE1.out, ← HE.out]; exact ⟨rfl, rfl, rfl, rfl, rfl, rfl, rfl⟩)
     have HEU : Hid (unpE s (.slice (some ⟨b, off, none⟩) l.length c) = E2) := lh (by
      rw [HT0.out l1 l5 (by rw [HUT.out]) (by rw [HUK2.out]), HUL.out, HK.out.2.1, HWc.out, ← hE2, ← HEE1.out, ← HE.out]
      unfold mkE
      rw [HE0.out, HE1.out, HE2.out, HE3.out, HE4.out, HE5.out, HK.out.1, HK.out.2.1, HK.out.2.2.1, HK.out.2.2.2.1, HK.out.2.2.2.2.1, HK.out.2.2.2.2.2.1, HK.out.2.2.2.2.2.2]
      rfl)
     rw [hE2] at u17
     have HR17 := lh u17
     have hl17 := u17.lt
     have row17 : rowOf W17 B 0 45 = some (entC E2) := u17.all (ent_size _).symm (by omega)
     clear x17 u17 o17 hE2 HR15 hfr hce q3' HWc
     have h2s := HF2.out
     have hsz := fun k => unp_sizes s k
     have hTs : (uT s).1 = l1 := by rw [HUT.out]
     rw [hTs] at hsz
     have hz0 : E2.st.addr.size ≤ 1000000 := by rw [h2s.1, ← HE0.out]; have := hsz 0; omega
     have hz1 : E2.st.var.size ≤ 1000000 := by rw [h2s.2.1, ← HE1.out]; have := hsz 1; omega
     have hz3 : E2.st.tags.size ≤ 1000000 := by rw [h2s.2.2.1, ← HE3.out]; have := hsz 3; omega
     have hz5 : E2.bytes.size ≤ 1000000 := by rw [h2s.2.2.2.1, ← HE5.out]; have := hsz 5; omega
     have hb2 : E2.st.body.length = 16 := by rw [h2s.2.2.2.2.1, bts_length, HS2.out]
     have hb4 : E2.st.seal_.length = 16 := by rw [h2s.2.2.2.2.2.1, bts_length, HS4.out]
     have hby : Byt E2.st.body := by rw [h2s.2.2.2.2.1]; exact bts_bytU _
     have hv2 := h2s.2.2.2.2.2.2
     have HV0 := lh (evalid_any E2 (some ⟨b, off, none⟩) c l W17 hv2 (by omega) (by omega) (by omega) (by omega) (by omega) hb2 hby (RowAt.ext HKo.out HX17.out) HRd17.out HZ.out)
     have HP0 := lh (fun (hval : Val E2 l) (W : World) (hx : Ext W17 W) => pack_any E2 (some ⟨b, off, none⟩) c l W hv2 (by omega) (HRd17.out.on hx) hb2 hb4 (val_i64 hval) (val_strs hval hb2 hb4))
     obtain ⟨vv, hvv⟩ : ∃ vv, validB E2 l = vv := ⟨_, rfl⟩
     rw [hvv] at HV0
     have HVV := lh hvv
     clear h2s hsz hTs hz0 hz1 hz3 hz5 hb2 hb4 hby hv2 hvv
     cases vv with
     | false =>
      have HNo : Hid (¬ unpOk s) := lh (fun k => by
       have h := k.2.2.1
       rw [unp_valid s (.slice (some ⟨b, off, none⟩) l.length c), HEU.out, HUL.out, HVV.out] at h
       cases h)
      go_wp2_with (first | (go_at_call 129; refine HV0.out.mono ?_; rintro e w' ⟨rfl, hxl⟩; obtain ⟨xl, rfl⟩ := hxl.asLater; clear hxl) | (go_at_call 126; refine (show Hid _ from ?_).out))
      refine lh ?_
      refine (demand_f _).mono ?_
      rintro r w9 ⟨rfl, hx9⟩
      have HX9 := lh (HX17.out.trans ((show Ext W17 _ from (by (with_reducible repeat first|exact eR _|apply eD|apply eN|apply eA|apply eO|apply eS|apply eC);all_goals first|omega|simp <;> omega)).trans hx9))
      clear hx9
      exact ⟨rfl, HX9.out, .inr ⟨HNo.out, rfl⟩⟩
     | true =>
      have hval := val_iff.1 HVV.out
      have HP := lh (HP0.out hval)
      obtain ⟨pk, hpk⟩ : ∃ pk, packB E2 l = pk := ⟨_, rfl⟩
      rw [hpk] at HP
      have HOkI : Hid (pk = s → unpOk s) := lh (fun e => HOk0.out (by rw [unp_valid s (.slice (some ⟨b, off, none⟩) l.length c), HEU.out, HUL.out, HVV.out]) (by rw [unp_packB s (.slice (some ⟨b, off, none⟩) l.length c), HEU.out, HUL.out, hpk, e]))
      have HNoI : Hid (pk ≠ s → ¬ unpOk s) := lh (fun e k => by
       have h := k.2.2.2
       rw [unp_packB s (.slice (some ⟨b, off, none⟩) l.length c), HEU.out, HUL.out, hpk] at h
       exact e h)
      clear hval hpk HP0
      go_wp2_with (first | (go_at_call 129; refine HV0.out.mono ?_; rintro e w' ⟨rfl, hxl⟩; obtain ⟨xl, rfl⟩ := hxl.asLater; clear hxl) | (go_at_call 35; refine (HP.out _ (by (with_reducible repeat first|exact eR _|apply eD|apply eN|apply eA|apply eO|apply eS|apply eC);all_goals first|omega|simp <;> omega)).mono ?_; rintro e w' ⟨rfl, hxl⟩; obtain ⟨xl, rfl⟩ := hxl.asLater; clear hxl) | (go_at_call 126; refine (show Hid _ from ?_).out))
      refine lh ?_
      obtain ⟨bq, hbq⟩ : ∃ b, (pk.toList == s.toList) = b := ⟨_, rfl⟩
      rw [hbq]
      cases bq with
      | false =>
       refine (demand_f _).mono ?_
       rintro r w9 ⟨rfl, hx9⟩
       have HX9 := lh (HX17.out.trans ((show Ext W17 _ from (by (with_reducible repeat first|exact eR _|apply eD|apply eN|apply eA|apply eO|apply eS|apply eC);all_goals first|omega|simp <;> omega)).trans hx9))
       have HNo := HNoI.out (fun e => by rw [e] at hbq; simp at hbq)
       clear hx9
       exact ⟨rfl, HX9.out, .inr ⟨HNo, rfl⟩⟩
      | true =>
       have HYes := lh (HOkI.out (ba_same hbq))
       clear hbq HNoI
       refine (demand_t _).mono ?_
       rintro e w' ⟨rfl, hxl⟩; obtain ⟨xl, rfl⟩ := hxl.asLater; clear hxl
       have hfit2 : fitsRow 45 (entC E2) = true := ent_fits_of HF2.out.2.2.2.2.2.2
       have m2 : ∀ x, roomOf (later W17 x) B 0 45 = true := fun x => by rw [(HR17.out.later x).room, ent_size]; rfl
       go_wp2
       refine post_row ent_ty Tryz.results77 rfl rfl (RowAt.stored (n := 45) (HR17.out.later _) rfl rfl (by omega)) ⟨(by (with_reducible repeat first|exact HX17.out|exact eR _|apply eD|apply eN|apply eA|apply eO|apply eS|apply eC);all_goals first|omega|simp <;> omega), .inl ⟨HYes.out, some ⟨b, off, none⟩, c, ?_, HZ.out, ?_⟩⟩
       ·rw [HUL.out, HEU.out]
       ·rw [HUL.out]
        exact ((HO17.out.later _).others hB13 _ _).lower (by omega)
    ·by_cases ha0 : sa = 0
     ·subst ha0
      have hnk : (sb == k1) = false := by rw [beq_eq_false_iff_ne]; exact fun h => hs0 ⟨rfl, h⟩
      have hnk' : ¬ sb = k1 := fun h => hs0 ⟨rfl, h⟩
      refine wp_region_later (by kernel_rfl) (by kernel_rfl) ?_
      repeat (first | go_big_quiet_step ((go_at_call 128; exact quietE (HAll.out _))) | quiet_step ((go_at_call 128; exact quietE (HAll.out _))))
      refine wpQuiet_nil ?_
      rintro _ ⟨xq, rfl⟩
      have HWc : Hid (wholeB l k1 = (k1 == 0)) := lh (by rw [HWb.out, decide_eq_false (show ¬ ((0, sb) : Sp) = (0, k1) from fun h => hnk' (Prod.mk.inj h).2), Bool.and_false, Bool.false_or]; rfl)
      go_upto_region 16 with (fail)
      refine wp_world (fun W => Ext wr W) (by (with_reducible repeat first|exact eR _|apply eD|apply eN|apply eA|apply eO|apply eS|apply eC);all_goals first|omega|simp <;> omega) ?_
      intro W15 x15
      have HR15 := lh (HR.out.ext x15)
      have q3' : W15.cell? ⟨B, 3, none⟩ = some (.int .i64 k1) := (x15.cell (p := ⟨B, 3, none⟩) hBr).trans q3
      have hfr : W15.frozen? ⟨B, 44, none⟩ = false := HR15.out.free 44
      have hce : W15.cell? ⟨B, 44, none⟩ = some (.bool false) := (HR15.out.cell 44).trans (by rw [← HEE1.out, ← HE.out]; rfl)
      have HX15 := lh x15
      have hs15 := x15.size
      clear x15 q3 q42 row
      go_upto_region 17 with (fail)
      refine wp_world (fun W => ButS (fun k => k = B) W15 W ∧ RowAt W B (entC { E1 with whole := (k1 == 0) }) ∧ OwnsSp W13.heap.size W (some ⟨b, off, none⟩) c l) ⟨(ButS.refl (fun k => k = B) W15).setCell (p := ⟨B, 44, none⟩) (.inl rfl) _, HR15.out.sets 44 [.bool (k1 == 0)], (HO.out.ext HX15.out).other (p := ⟨B, 44, none⟩) hB13 _⟩ ?_
      rintro W17 ⟨x17, u17, o17⟩
      have HX17 : Hid (Ext w W17) := lh (((ButS.of_ext (HXr.out.trans HX15.out)).trans x17).toExt (fun k hk e => by omega))
      have HRd17 : Hid (ReadsSp W17 W17.heap.size (some ⟨b, off, none⟩) l) := lh (o17.reads spE)
      have HO17 := lh o17
      obtain ⟨E2, hE2⟩ : ∃ E2, ({ E1 with whole := (k1 == 0) } : En) = E2 := ⟨_, rfl⟩
      have HF2 : Hid (E2.st.addr = s0 ∧ E2.st.var = s1 ∧ E2.st.tags = s3 ∧ E2.bytes = s5 ∧ E2.st.body = bts t2 ∧ E2.st.seal_ = bts t4 ∧ E2.hv = .slice (some ⟨b, off, none⟩) l.length c) := lh (by
       rw [← hE2, ← HEE1.out, ← HE.out]; exact ⟨rfl, rfl, rfl, rfl, rfl, rfl, rfl⟩)
      have HEU : Hid (unpE s (.slice (some ⟨b, off, none⟩) l.length c) = E2) := lh (by
       rw [HT0.out l1 l5 (by rw [HUT.out]) (by rw [HUK2.out]), HUL.out, HK.out.2.1, HWc.out, ← hE2, ← HEE1.out, ← HE.out]
       unfold mkE
       rw [HE0.out, HE1.out, HE2.out, HE3.out, HE4.out, HE5.out, HK.out.1, HK.out.2.1, HK.out.2.2.1, HK.out.2.2.2.1, HK.out.2.2.2.2.1, HK.out.2.2.2.2.2.1, HK.out.2.2.2.2.2.2]
       rfl)
      rw [hE2] at u17
      have HR17 := lh u17
      have hl17 := u17.lt
      have row17 : rowOf W17 B 0 45 = some (entC E2) := u17.all (ent_size _).symm (by omega)
      clear x17 u17 o17 hE2 HR15 hfr hce q3' HWc
      have h2s := HF2.out
      have hsz := fun k => unp_sizes s k
      have hTs : (uT s).1 = l1 := by rw [HUT.out]
      rw [hTs] at hsz
      have hz0 : E2.st.addr.size ≤ 1000000 := by rw [h2s.1, ← HE0.out]; have := hsz 0; omega
      have hz1 : E2.st.var.size ≤ 1000000 := by rw [h2s.2.1, ← HE1.out]; have := hsz 1; omega
      have hz3 : E2.st.tags.size ≤ 1000000 := by rw [h2s.2.2.1, ← HE3.out]; have := hsz 3; omega
      have hz5 : E2.bytes.size ≤ 1000000 := by rw [h2s.2.2.2.1, ← HE5.out]; have := hsz 5; omega
      have hb2 : E2.st.body.length = 16 := by rw [h2s.2.2.2.2.1, bts_length, HS2.out]
      have hb4 : E2.st.seal_.length = 16 := by rw [h2s.2.2.2.2.2.1, bts_length, HS4.out]
      have hby : Byt E2.st.body := by rw [h2s.2.2.2.2.1]; exact bts_bytU _
      have hv2 := h2s.2.2.2.2.2.2
      have HV0 := lh (evalid_any E2 (some ⟨b, off, none⟩) c l W17 hv2 (by omega) (by omega) (by omega) (by omega) (by omega) hb2 hby (RowAt.ext HKo.out HX17.out) HRd17.out HZ.out)
      have HP0 := lh (fun (hval : Val E2 l) (W : World) (hx : Ext W17 W) => pack_any E2 (some ⟨b, off, none⟩) c l W hv2 (by omega) (HRd17.out.on hx) hb2 hb4 (val_i64 hval) (val_strs hval hb2 hb4))
      obtain ⟨vv, hvv⟩ : ∃ vv, validB E2 l = vv := ⟨_, rfl⟩
      rw [hvv] at HV0
      have HVV := lh hvv
      clear h2s hsz hTs hz0 hz1 hz3 hz5 hb2 hb4 hby hv2 hvv
      cases vv with
      | false =>
       have HNo : Hid (¬ unpOk s) := lh (fun k => by
        have h := k.2.2.1
        rw [unp_valid s (.slice (some ⟨b, off, none⟩) l.length c), HEU.out, HUL.out, HVV.out] at h
        cases h)
       go_wp2_with (first | (go_at_call 129; refine HV0.out.mono ?_; rintro e w' ⟨rfl, hxl⟩; obtain ⟨xl, rfl⟩ := hxl.asLater; clear hxl) | (go_at_call 126; refine (show Hid _ from ?_).out))
       refine lh ?_
       refine (demand_f _).mono ?_
       rintro r w9 ⟨rfl, hx9⟩
       have HX9 := lh (HX17.out.trans ((show Ext W17 _ from (by (with_reducible repeat first|exact eR _|apply eD|apply eN|apply eA|apply eO|apply eS|apply eC);all_goals first|omega|simp <;> omega)).trans hx9))
       clear hx9
       exact ⟨rfl, HX9.out, .inr ⟨HNo.out, rfl⟩⟩
      | true =>
       have hval := val_iff.1 HVV.out
       have HP := lh (HP0.out hval)
       obtain ⟨pk, hpk⟩ : ∃ pk, packB E2 l = pk := ⟨_, rfl⟩
       rw [hpk] at HP
       have HOkI : Hid (pk = s → unpOk s) := lh (fun e => HOk0.out (by rw [unp_valid s (.slice (some ⟨b, off, none⟩) l.length c), HEU.out, HUL.out, HVV.out]) (by rw [unp_packB s (.slice (some ⟨b, off, none⟩) l.length c), HEU.out, HUL.out, hpk, e]))
       have HNoI : Hid (pk ≠ s → ¬ unpOk s) := lh (fun e k => by
        have h := k.2.2.2
        rw [unp_packB s (.slice (some ⟨b, off, none⟩) l.length c), HEU.out, HUL.out, hpk] at h
        exact e h)
       clear hval hpk HP0
       go_wp2_with (first | (go_at_call 129; refine HV0.out.mono ?_; rintro e w' ⟨rfl, hxl⟩; obtain ⟨xl, rfl⟩ := hxl.asLater; clear hxl) | (go_at_call 35; refine (HP.out _ (by (with_reducible repeat first|exact eR _|apply eD|apply eN|apply eA|apply eO|apply eS|apply eC);all_goals first|omega|simp <;> omega)).mono ?_; rintro e w' ⟨rfl, hxl⟩; obtain ⟨xl, rfl⟩ := hxl.asLater; clear hxl) | (go_at_call 126; refine (show Hid _ from ?_).out))
       refine lh ?_
       obtain ⟨bq, hbq⟩ : ∃ b, (pk.toList == s.toList) = b := ⟨_, rfl⟩
       rw [hbq]
       cases bq with
       | false =>
        refine (demand_f _).mono ?_
        rintro r w9 ⟨rfl, hx9⟩
        have HX9 := lh (HX17.out.trans ((show Ext W17 _ from (by (with_reducible repeat first|exact eR _|apply eD|apply eN|apply eA|apply eO|apply eS|apply eC);all_goals first|omega|simp <;> omega)).trans hx9))
        have HNo := HNoI.out (fun e => by rw [e] at hbq; simp at hbq)
        clear hx9
        exact ⟨rfl, HX9.out, .inr ⟨HNo, rfl⟩⟩
       | true =>
        have HYes := lh (HOkI.out (ba_same hbq))
        clear hbq HNoI
        refine (demand_t _).mono ?_
        rintro e w' ⟨rfl, hxl⟩; obtain ⟨xl, rfl⟩ := hxl.asLater; clear hxl
        have hfit2 : fitsRow 45 (entC E2) = true := ent_fits_of HF2.out.2.2.2.2.2.2
        have m2 : ∀ x, roomOf (later W17 x) B 0 45 = true := fun x => by rw [(HR17.out.later x).room, ent_size]; rfl
        go_wp2
        refine post_row ent_ty Tryz.results77 rfl rfl (RowAt.stored (n := 45) (HR17.out.later _) rfl rfl (by omega)) ⟨(by (with_reducible repeat first|exact HX17.out|exact eR _|apply eD|apply eN|apply eA|apply eO|apply eS|apply eC);all_goals first|omega|simp <;> omega), .inl ⟨HYes.out, some ⟨b, off, none⟩, c, ?_, HZ.out, ?_⟩⟩
        ·rw [HUL.out, HEU.out]
        ·rw [HUL.out]
         exact ((HO17.out.later _).others hB13 _ _).lower (by omega)
     ·have hn0 : (sa == 0) = false := by rw [beq_eq_false_iff_ne]; exact ha0
      refine wp_region_later (by kernel_rfl) (by kernel_rfl) ?_
      repeat (first | go_big_quiet_step ((go_at_call 128; exact quietE (HAll.out _))) | quiet_step ((go_at_call 128; exact quietE (HAll.out _))))
      refine wpQuiet_nil ?_
      rintro _ ⟨xq, rfl⟩
      have HWc : Hid (wholeB l k1 = (k1 == 0)) := lh (by rw [HWb.out, decide_eq_false (show ¬ ((sa, sb) : Sp) = (0, k1) from fun h => ha0 (Prod.mk.inj h).1), Bool.and_false, Bool.false_or]; rfl)
      go_upto_region 16 with (fail)
      refine wp_world (fun W => Ext wr W) (by (with_reducible repeat first|exact eR _|apply eD|apply eN|apply eA|apply eO|apply eS|apply eC);all_goals first|omega|simp <;> omega) ?_
      intro W15 x15
      have HR15 := lh (HR.out.ext x15)
      have q3' : W15.cell? ⟨B, 3, none⟩ = some (.int .i64 k1) := (x15.cell (p := ⟨B, 3, none⟩) hBr).trans q3
      have hfr : W15.frozen? ⟨B, 44, none⟩ = false := HR15.out.free 44
      have hce : W15.cell? ⟨B, 44, none⟩ = some (.bool false) := (HR15.out.cell 44).trans (by rw [← HEE1.out, ← HE.out]; rfl)
      have HX15 := lh x15
      have hs15 := x15.size
      clear x15 q3 q42 row
      go_upto_region 17 with (fail)
      refine wp_world (fun W => ButS (fun k => k = B) W15 W ∧ RowAt W B (entC { E1 with whole := (k1 == 0) }) ∧ OwnsSp W13.heap.size W (some ⟨b, off, none⟩) c l) ⟨(ButS.refl (fun k => k = B) W15).setCell (p := ⟨B, 44, none⟩) (.inl rfl) _, HR15.out.sets 44 [.bool (k1 == 0)], (HO.out.ext HX15.out).other (p := ⟨B, 44, none⟩) hB13 _⟩ ?_
      rintro W17 ⟨x17, u17, o17⟩
      have HX17 : Hid (Ext w W17) := lh (((ButS.of_ext (HXr.out.trans HX15.out)).trans x17).toExt (fun k hk e => by omega))
      have HRd17 : Hid (ReadsSp W17 W17.heap.size (some ⟨b, off, none⟩) l) := lh (o17.reads spE)
      have HO17 := lh o17
      obtain ⟨E2, hE2⟩ : ∃ E2, ({ E1 with whole := (k1 == 0) } : En) = E2 := ⟨_, rfl⟩
      have HF2 : Hid (E2.st.addr = s0 ∧ E2.st.var = s1 ∧ E2.st.tags = s3 ∧ E2.bytes = s5 ∧ E2.st.body = bts t2 ∧ E2.st.seal_ = bts t4 ∧ E2.hv = .slice (some ⟨b, off, none⟩) l.length c) := lh (by
       rw [← hE2, ← HEE1.out, ← HE.out]; exact ⟨rfl, rfl, rfl, rfl, rfl, rfl, rfl⟩)
      have HEU : Hid (unpE s (.slice (some ⟨b, off, none⟩) l.length c) = E2) := lh (by
       rw [HT0.out l1 l5 (by rw [HUT.out]) (by rw [HUK2.out]), HUL.out, HK.out.2.1, HWc.out, ← hE2, ← HEE1.out, ← HE.out]
       unfold mkE
       rw [HE0.out, HE1.out, HE2.out, HE3.out, HE4.out, HE5.out, HK.out.1, HK.out.2.1, HK.out.2.2.1, HK.out.2.2.2.1, HK.out.2.2.2.2.1, HK.out.2.2.2.2.2.1, HK.out.2.2.2.2.2.2]
       rfl)
      rw [hE2] at u17
      have HR17 := lh u17
      have hl17 := u17.lt
      have row17 : rowOf W17 B 0 45 = some (entC E2) := u17.all (ent_size _).symm (by omega)
      clear x17 u17 o17 hE2 HR15 hfr hce q3' HWc
      have h2s := HF2.out
      have hsz := fun k => unp_sizes s k
      have hTs : (uT s).1 = l1 := by rw [HUT.out]
      rw [hTs] at hsz
      have hz0 : E2.st.addr.size ≤ 1000000 := by rw [h2s.1, ← HE0.out]; have := hsz 0; omega
      have hz1 : E2.st.var.size ≤ 1000000 := by rw [h2s.2.1, ← HE1.out]; have := hsz 1; omega
      have hz3 : E2.st.tags.size ≤ 1000000 := by rw [h2s.2.2.1, ← HE3.out]; have := hsz 3; omega
      have hz5 : E2.bytes.size ≤ 1000000 := by rw [h2s.2.2.2.1, ← HE5.out]; have := hsz 5; omega
      have hb2 : E2.st.body.length = 16 := by rw [h2s.2.2.2.2.1, bts_length, HS2.out]
      have hb4 : E2.st.seal_.length = 16 := by rw [h2s.2.2.2.2.2.1, bts_length, HS4.out]
      have hby : Byt E2.st.body := by rw [h2s.2.2.2.2.1]; exact bts_bytU _
      have hv2 := h2s.2.2.2.2.2.2
      have HV0 := lh (evalid_any E2 (some ⟨b, off, none⟩) c l W17 hv2 (by omega) (by omega) (by omega) (by omega) (by omega) hb2 hby (RowAt.ext HKo.out HX17.out) HRd17.out HZ.out)
      have HP0 := lh (fun (hval : Val E2 l) (W : World) (hx : Ext W17 W) => pack_any E2 (some ⟨b, off, none⟩) c l W hv2 (by omega) (HRd17.out.on hx) hb2 hb4 (val_i64 hval) (val_strs hval hb2 hb4))
      obtain ⟨vv, hvv⟩ : ∃ vv, validB E2 l = vv := ⟨_, rfl⟩
      rw [hvv] at HV0
      have HVV := lh hvv
      clear h2s hsz hTs hz0 hz1 hz3 hz5 hb2 hb4 hby hv2 hvv
      cases vv with
      | false =>
       have HNo : Hid (¬ unpOk s) := lh (fun k => by
        have h := k.2.2.1
        rw [unp_valid s (.slice (some ⟨b, off, none⟩) l.length c), HEU.out, HUL.out, HVV.out] at h
        cases h)
       go_wp2_with (first | (go_at_call 129; refine HV0.out.mono ?_; rintro e w' ⟨rfl, hxl⟩; obtain ⟨xl, rfl⟩ := hxl.asLater; clear hxl) | (go_at_call 126; refine (show Hid _ from ?_).out))
       refine lh ?_
       refine (demand_f _).mono ?_
       rintro r w9 ⟨rfl, hx9⟩
       have HX9 := lh (HX17.out.trans ((show Ext W17 _ from (by (with_reducible repeat first|exact eR _|apply eD|apply eN|apply eA|apply eO|apply eS|apply eC);all_goals first|omega|simp <;> omega)).trans hx9))
       clear hx9
       exact ⟨rfl, HX9.out, .inr ⟨HNo.out, rfl⟩⟩
      | true =>
       have hval := val_iff.1 HVV.out
       have HP := lh (HP0.out hval)
       obtain ⟨pk, hpk⟩ : ∃ pk, packB E2 l = pk := ⟨_, rfl⟩
       rw [hpk] at HP
       have HOkI : Hid (pk = s → unpOk s) := lh (fun e => HOk0.out (by rw [unp_valid s (.slice (some ⟨b, off, none⟩) l.length c), HEU.out, HUL.out, HVV.out]) (by rw [unp_packB s (.slice (some ⟨b, off, none⟩) l.length c), HEU.out, HUL.out, hpk, e]))
       have HNoI : Hid (pk ≠ s → ¬ unpOk s) := lh (fun e k => by
        have h := k.2.2.2
        rw [unp_packB s (.slice (some ⟨b, off, none⟩) l.length c), HEU.out, HUL.out, hpk] at h
        exact e h)
       clear hval hpk HP0
       go_wp2_with (first | (go_at_call 129; refine HV0.out.mono ?_; rintro e w' ⟨rfl, hxl⟩; obtain ⟨xl, rfl⟩ := hxl.asLater; clear hxl) | (go_at_call 35; refine (HP.out _ (by (with_reducible repeat first|exact eR _|apply eD|apply eN|apply eA|apply eO|apply eS|apply eC);all_goals first|omega|simp <;> omega)).mono ?_; rintro e w' ⟨rfl, hxl⟩; obtain ⟨xl, rfl⟩ := hxl.asLater; clear hxl) | (go_at_call 126; refine (show Hid _ from ?_).out))
       refine lh ?_
       obtain ⟨bq, hbq⟩ : ∃ b, (pk.toList == s.toList) = b := ⟨_, rfl⟩
       rw [hbq]
       cases bq with
       | false =>
        refine (demand_f _).mono ?_
        rintro r w9 ⟨rfl, hx9⟩
        have HX9 := lh (HX17.out.trans ((show Ext W17 _ from (by (with_reducible repeat first|exact eR _|apply eD|apply eN|apply eA|apply eO|apply eS|apply eC);all_goals first|omega|simp <;> omega)).trans hx9))
        have HNo := HNoI.out (fun e => by rw [e] at hbq; simp at hbq)
        clear hx9
        exact ⟨rfl, HX9.out, .inr ⟨HNo, rfl⟩⟩
       | true =>
        have HYes := lh (HOkI.out (ba_same hbq))
        clear hbq HNoI
        refine (demand_t _).mono ?_
        rintro e w' ⟨rfl, hxl⟩; obtain ⟨xl, rfl⟩ := hxl.asLater; clear hxl
        have hfit2 : fitsRow 45 (entC E2) = true := ent_fits_of HF2.out.2.2.2.2.2.2
        have m2 : ∀ x, roomOf (later W17 x) B 0 45 = true := fun x => by rw [(HR17.out.later x).room, ent_size]; rfl
        go_wp2
        refine post_row ent_ty Tryz.results77 rfl rfl (RowAt.stored (n := 45) (HR17.out.later _) rfl rfl (by omega)) ⟨(by (with_reducible repeat first|exact HX17.out|exact eR _|apply eD|apply eN|apply eA|apply eO|apply eS|apply eC);all_goals first|omega|simp <;> omega), .inl ⟨HYes.out, some ⟨b, off, none⟩, c, ?_, HZ.out, ?_⟩⟩
        ·rw [HUL.out, HEU.out]
        ·rw [HUL.out]
         exact ((HO17.out.later _).others hB13 _ _).lower (by omega)
   ·have e1 : ((l.length : Int) == 1) = false := by rw [beq_eq_false_iff_ne]; omega
    refine wp_region_later (by kernel_rfl) (by kernel_rfl) ?_
    repeat (first | go_big_quiet_step ((go_at_call 128; exact quietE (HAll.out _))) | quiet_step ((go_at_call 128; exact quietE (HAll.out _))))
    refine wpQuiet_nil ?_
    rintro _ ⟨xq, rfl⟩
    have HWc : Hid (wholeB l k1 = (k1 == 0)) := lh (by rw [HWb.out, decide_eq_false h1, Bool.false_and, Bool.false_or]; rfl)
    go_upto_region 16 with (fail)
    refine wp_world (fun W => Ext wr W) (by (with_reducible repeat first|exact eR _|apply eD|apply eN|apply eA|apply eO|apply eS|apply eC);all_goals first|omega|simp <;> omega) ?_
    intro W15 x15
    have HR15 := lh (HR.out.ext x15)
    have q3' : W15.cell? ⟨B, 3, none⟩ = some (.int .i64 k1) := (x15.cell (p := ⟨B, 3, none⟩) hBr).trans q3
    have hfr : W15.frozen? ⟨B, 44, none⟩ = false := HR15.out.free 44
    have hce : W15.cell? ⟨B, 44, none⟩ = some (.bool false) := (HR15.out.cell 44).trans (by rw [← HEE1.out, ← HE.out]; rfl)
    have HX15 := lh x15
    have hs15 := x15.size
    clear x15 q3 q42 row
    go_upto_region 17 with (fail)
    refine wp_world (fun W => ButS (fun k => k = B) W15 W ∧ RowAt W B (entC { E1 with whole := (k1 == 0) }) ∧ OwnsSp W13.heap.size W (A) c l) ⟨(ButS.refl (fun k => k = B) W15).setCell (p := ⟨B, 44, none⟩) (.inl rfl) _, HR15.out.sets 44 [.bool (k1 == 0)], (HO.out.ext HX15.out).other (p := ⟨B, 44, none⟩) hB13 _⟩ ?_
    rintro W17 ⟨x17, u17, o17⟩
    have HX17 : Hid (Ext w W17) := lh (((ButS.of_ext (HXr.out.trans HX15.out)).trans x17).toExt (fun k hk e => by omega))
    have HRd17 : Hid (ReadsSp W17 W17.heap.size (A) l) := lh (o17.reads spE)
    have HO17 := lh o17
    obtain ⟨E2, hE2⟩ : ∃ E2, ({ E1 with whole := (k1 == 0) } : En) = E2 := ⟨_, rfl⟩
    have HF2 : Hid (E2.st.addr = s0 ∧ E2.st.var = s1 ∧ E2.st.tags = s3 ∧ E2.bytes = s5 ∧ E2.st.body = bts t2 ∧ E2.st.seal_ = bts t4 ∧ E2.hv = .slice (A) l.length c) := lh (by
     rw [← hE2, ← HEE1.out, ← HE.out]; exact ⟨rfl, rfl, rfl, rfl, rfl, rfl, rfl⟩)
    have HEU : Hid (unpE s (.slice (A) l.length c) = E2) := lh (by
     rw [HT0.out l1 l5 (by rw [HUT.out]) (by rw [HUK2.out]), HUL.out, HK.out.2.1, HWc.out, ← hE2, ← HEE1.out, ← HE.out]
     unfold mkE
     rw [HE0.out, HE1.out, HE2.out, HE3.out, HE4.out, HE5.out, HK.out.1, HK.out.2.1, HK.out.2.2.1, HK.out.2.2.2.1, HK.out.2.2.2.2.1, HK.out.2.2.2.2.2.1, HK.out.2.2.2.2.2.2]
     rfl)
    rw [hE2] at u17
    have HR17 := lh u17
    have hl17 := u17.lt
    have row17 : rowOf W17 B 0 45 = some (entC E2) := u17.all (ent_size _).symm (by omega)
    clear x17 u17 o17 hE2 HR15 hfr hce q3' HWc
    have h2s := HF2.out
    have hsz := fun k => unp_sizes s k
    have hTs : (uT s).1 = l1 := by rw [HUT.out]
    rw [hTs] at hsz
    have hz0 : E2.st.addr.size ≤ 1000000 := by rw [h2s.1, ← HE0.out]; have := hsz 0; omega
    have hz1 : E2.st.var.size ≤ 1000000 := by rw [h2s.2.1, ← HE1.out]; have := hsz 1; omega
    have hz3 : E2.st.tags.size ≤ 1000000 := by rw [h2s.2.2.1, ← HE3.out]; have := hsz 3; omega
    have hz5 : E2.bytes.size ≤ 1000000 := by rw [h2s.2.2.2.1, ← HE5.out]; have := hsz 5; omega
    have hb2 : E2.st.body.length = 16 := by rw [h2s.2.2.2.2.1, bts_length, HS2.out]
    have hb4 : E2.st.seal_.length = 16 := by rw [h2s.2.2.2.2.2.1, bts_length, HS4.out]
    have hby : Byt E2.st.body := by rw [h2s.2.2.2.2.1]; exact bts_bytU _
    have hv2 := h2s.2.2.2.2.2.2
    have HV0 := lh (evalid_any E2 (A) c l W17 hv2 (by omega) (by omega) (by omega) (by omega) (by omega) hb2 hby (RowAt.ext HKo.out HX17.out) HRd17.out HZ.out)
    have HP0 := lh (fun (hval : Val E2 l) (W : World) (hx : Ext W17 W) => pack_any E2 (A) c l W hv2 (by omega) (HRd17.out.on hx) hb2 hb4 (val_i64 hval) (val_strs hval hb2 hb4))
    obtain ⟨vv, hvv⟩ : ∃ vv, validB E2 l = vv := ⟨_, rfl⟩
    rw [hvv] at HV0
    have HVV := lh hvv
    clear h2s hsz hTs hz0 hz1 hz3 hz5 hb2 hb4 hby hv2 hvv
    cases vv with
    | false =>
     have HNo : Hid (¬ unpOk s) := lh (fun k => by
      have h := k.2.2.1
      rw [unp_valid s (.slice (A) l.length c), HEU.out, HUL.out, HVV.out] at h
      cases h)
     go_wp2_with (first | (go_at_call 129; refine HV0.out.mono ?_; rintro e w' ⟨rfl, hxl⟩; obtain ⟨xl, rfl⟩ := hxl.asLater; clear hxl) | (go_at_call 126; refine (show Hid _ from ?_).out))
     refine lh ?_
     refine (demand_f _).mono ?_
     rintro r w9 ⟨rfl, hx9⟩
     have HX9 := lh (HX17.out.trans ((show Ext W17 _ from (by (with_reducible repeat first|exact eR _|apply eD|apply eN|apply eA|apply eO|apply eS|apply eC);all_goals first|omega|simp <;> omega)).trans hx9))
     clear hx9
     exact ⟨rfl, HX9.out, .inr ⟨HNo.out, rfl⟩⟩
    | true =>
     have hval := val_iff.1 HVV.out
     have HP := lh (HP0.out hval)
     obtain ⟨pk, hpk⟩ : ∃ pk, packB E2 l = pk := ⟨_, rfl⟩
     rw [hpk] at HP
     have HOkI : Hid (pk = s → unpOk s) := lh (fun e => HOk0.out (by rw [unp_valid s (.slice (A) l.length c), HEU.out, HUL.out, HVV.out]) (by rw [unp_packB s (.slice (A) l.length c), HEU.out, HUL.out, hpk, e]))
     have HNoI : Hid (pk ≠ s → ¬ unpOk s) := lh (fun e k => by
      have h := k.2.2.2
      rw [unp_packB s (.slice (A) l.length c), HEU.out, HUL.out, hpk] at h
      exact e h)
     clear hval hpk HP0
     go_wp2_with (first | (go_at_call 129; refine HV0.out.mono ?_; rintro e w' ⟨rfl, hxl⟩; obtain ⟨xl, rfl⟩ := hxl.asLater; clear hxl) | (go_at_call 35; refine (HP.out _ (by (with_reducible repeat first|exact eR _|apply eD|apply eN|apply eA|apply eO|apply eS|apply eC);all_goals first|omega|simp <;> omega)).mono ?_; rintro e w' ⟨rfl, hxl⟩; obtain ⟨xl, rfl⟩ := hxl.asLater; clear hxl) | (go_at_call 126; refine (show Hid _ from ?_).out))
     refine lh ?_
     obtain ⟨bq, hbq⟩ : ∃ b, (pk.toList == s.toList) = b := ⟨_, rfl⟩
     rw [hbq]
     cases bq with
     | false =>
      refine (demand_f _).mono ?_
      rintro r w9 ⟨rfl, hx9⟩
      have HX9 := lh (HX17.out.trans ((show Ext W17 _ from (by (with_reducible repeat first|exact eR _|apply eD|apply eN|apply eA|apply eO|apply eS|apply eC);all_goals first|omega|simp <;> omega)).trans hx9))
      have HNo := HNoI.out (fun e => by rw [e] at hbq; simp at hbq)
      clear hx9
      exact ⟨rfl, HX9.out, .inr ⟨HNo, rfl⟩⟩
     | true =>
      have HYes := lh (HOkI.out (ba_same hbq))
      clear hbq HNoI
      refine (demand_t _).mono ?_
      rintro e w' ⟨rfl, hxl⟩; obtain ⟨xl, rfl⟩ := hxl.asLater; clear hxl
      have hfit2 : fitsRow 45 (entC E2) = true := ent_fits_of HF2.out.2.2.2.2.2.2
      have m2 : ∀ x, roomOf (later W17 x) B 0 45 = true := fun x => by rw [(HR17.out.later x).room, ent_size]; rfl
      go_wp2
      refine post_row ent_ty Tryz.results77 rfl rfl (RowAt.stored (n := 45) (HR17.out.later _) rfl rfl (by omega)) ⟨(by (with_reducible repeat first|exact HX17.out|exact eR _|apply eD|apply eN|apply eA|apply eO|apply eS|apply eC);all_goals first|omega|simp <;> omega), .inl ⟨HYes.out, A, c, ?_, HZ.out, ?_⟩⟩
      ·rw [HUL.out, HEU.out]
      ·rw [HUL.out]
       exact ((HO17.out.later _).others hB13 _ _).lower (by omega)
theorem unpack_any (s : ByteArray) (w : World) (hs : s.size ≤ 10000) (hk : Konst 4 w) :
  Calls Tryz.prog 77 #[.string s] w (UnpRes s w) := by
 by_cases h : textsOk (uT s)
 ·by_cases h2 : numsOk (uT s).2.1 s.size (uK s)
  ·exact unpack_go s w hs h h2 hk
  ·refine (unpack_f2 s w (by omega) h h2).mono ?_
   rintro r w' ⟨rfl, hx⟩
   exact ⟨hx, .inr ⟨fun k => h2 k.2.1, rfl⟩⟩
 ·refine (unpack_f1 s w (by omega) h).mono ?_
  rintro r w' ⟨rfl, hx⟩
  exact ⟨hx, .inr ⟨fun k => h k.1, rfl⟩⟩
theorem boxedAt1 {w : World} {b : Nat} {t : TypeId} {v : Value} (hb : b = w.heap.size) : Boxed (w.alloc (.cells #[v] t)) b t v := by subst hb; exact Boxed.new w t v
theorem leaves_two {P : Program} {fn : Func} {R : Ending → World → Prop} {tmps : Array Value} {w : World} {t1 t2 : Tmp} {ty1 ty2 : TypeId} {v1 v2 : Value} (h : fn.results = #[.cell t1 ty1, .cell t2 ty2]) (h1 : ResIs P w tmps v1 (.cell t1 ty1)) (h2 : ResIs P w tmps v2 (.cell t2 ty2)) (hR : R (.returned (.tuple #[v1, v2])) w) : Leaves P fn tmps R [] .returning w := by
 obtain ⟨ad1, k1, k2⟩ := h1
 obtain ⟨ad2, k3, k4⟩ := h2
 exact ⟨_, by simp [results, h, k1, k3, asAddr, k2, k4], hR⟩
def UnpkRes (s : ByteArray) (w : World) (r : Ending) (w' : World) : Prop :=
 Ext w w' ∧ ((unpOk s ∧ ∃ A c, r = .returned (.tuple #[.agg (entC (unpE s (.slice A (unpL s).length c))), .int .i64 0]) ∧ (A = none → c = 0) ∧ OwnsSp w.heap.size w' A c (unpL s)) ∨ (¬ unpOk s ∧ r = .returned (.tuple #[.agg (entC noEn), .int .i64 3])))
theorem eunpack_any (s : ByteArray) (w : World) (hs : s.size ≤ 10000) (hk : Konst 4 w) :
  Calls Tryz.prog 32 #[.string s] w (UnpkRes s w) := by
 have hmf : ∀ (fn : Fn) (first cap : Array Value) (w : World), (Instr.makeFunc fn first cap).run Tryz.prog w = .ok (.func fn first cap) w := fun _ _ _ _ => rfl
 have HU := lh (fun W (hx : Ext w W) => unpack_any s W hs (RowAt.ext hk hx))
 clear hk
 go_enter_defers Tryz.func32, Tryz.ntmps32
 go_wp2_with (go_at_call 77; refine (show Hid _ from ?_).out)
 refine lh ?_
 refine (HU.out _ (by (with_reducible repeat first|exact eR _|apply eD|apply eN|apply eA|apply eO|apply eS|apply eC);all_goals first|omega|simp <;> omega)).mono ?_
 obtain ⟨B, hB⟩ : ∃ B, w.heap.size = B := ⟨_, rfl⟩
 rw [hB]
 have HR0 : Hid (RowAt ((w.alloc (.cells (entC noEn) 96)).alloc (.cells #[.int .i64 0] 30)) B (entC noEn)) := lh (hB ▸ (RowAt.new w _ _).alloc _)
 have HB0 : Hid (Boxed ((w.alloc (.cells (entC noEn) 96)).alloc (.cells #[.int .i64 0] 30)) (B + 1) 30 (.int .i64 0)) := lh (boxedAt1 (by simp [hB]))
 have HX0 : Hid (Ext w ((w.alloc (.cells (entC noEn) 96)).alloc (.cells #[.int .i64 0] 30))) := lh (by (with_reducible repeat first|exact eR _|apply eD|apply eN|apply eA|apply eO|apply eS|apply eC);all_goals first|omega|simp <;> omega)
 have hsz0 : B + 1 < ((w.alloc (.cells (entC noEn) 96)).alloc (.cells #[.int .i64 0] 30)).heap.size := by simp [hB]
 generalize ((w.alloc (.cells (entC noEn) 96)).alloc (.cells #[.int .i64 0] 30)) = W0 at *
 rintro r w1 ⟨hx, hr⟩
 have HR1 := lh (HR0.out.ext hx)
 have HB1 : Hid (Boxed w1 (B + 1) 30 (.int .i64 0)) := lh (Boxed.ext HB0.out hx)
 have HX1 := lh (HX0.out.trans hx)
 have hs1 := hx.size
 rcases hr with ⟨hok, A, c, rfl, hz, hrd⟩ | ⟨hno, rfl⟩
 ·have HOK := lh hok
  have HZ := lh hz
  have HRd := lh hrd
  obtain ⟨E, hE⟩ : ∃ E, unpE s (.slice A (unpL s).length c) = E := ⟨_, rfl⟩
  have HFit : fitsRow 45 (entC E) = true := ent_fits_of (show E.hv = .slice A (unpL s).length c by rw [← hE]; rfl)
  have HE := lh hE
  rw [hE]
  clear hok hz hrd hx HU HR0 HB0 HX0 hE
  have m1 : roomOf w1 B 0 45 = true := by rw [HR1.out.room, ent_size]; rfl
  have g2 := HB1.out.cell
  have g4 := HB1.out.frozen
  go_wp2
  refine leaves_cons (f := 76) (args := #[.pointer (some ⟨B, 0, none⟩), .pointer (some ⟨B + 1, 0, none⟩)]) (by simp) (by simp [go_sem]) ?_
  refine (ucatch_idle B (B + 1) _).mono ?_
  rintro e u' w'' ⟨rfl, rfl, hw⟩
  have d1 : rowOf w'' B 0 45 = some (entC E) := by rw [hw]; exact (RowAt.other (HR1.out.store (ds := entC E) (by rw [ent_size, ent_size])) (p := ⟨B + 1, 0, none⟩) (by show B ≠ B + 1; omega) _).all (ent_size _).symm (by omega)
  have d2 : w''.cell? ⟨B + 1, 0, none⟩ = some (.int .i64 0) := by
   have z : Boxed (w1.setCells B 0 (entC E).toList) (B + 1) 30 (.int .i64 0) := (heap_sets_other _ _ B 0 (B + 1) (by omega)).trans HB1.out
   rw [hw]
   exact (z.set _).cell
  have hbut : ButS (fun k => k = B ∨ k = B + 1) w1 w'' := by
   rw [hw]
   exact (butS_cells (ButS.refl (fun k => k = B ∨ k = B + 1) w1) (Or.inl (Or.inl rfl)) 0 _).setCell (p := ⟨B + 1, 0, none⟩) (Or.inl (Or.inr rfl)) _
  have hX : Ext w w'' := ((ButS.of_ext HX1.out).trans hbut).toExt (fun k hk e => by omega)
  have hR : OwnsSp w.heap.size w'' A c (unpL s) := by
   rw [hw]
   exact ((HRd.out.others (m := B) (by omega) _ _).other (p := ⟨B + 1, 0, none⟩) hsz0 _).lower (by omega)
  clear hw
  have l2 : (loadVar 30 ⟨B + 1, 0, none⟩).run Tryz.prog w'' = .ok (.int .i64 0) w'' := by simp [go_sem, d2]
  refine leaves_two (v1 := .agg (entC E)) (v2 := .int .i64 0) Tryz.results32 ⟨_, rfl, run_loadVar_row ent_ty d1⟩ ⟨_, rfl, l2⟩ ?_
  exact ⟨hX, .inl ⟨HOK.out, A, c, by rw [HE.out], HZ.out, hR⟩⟩
 ·have HNO := lh hno
  clear hno hx HU HR0 HB0 HX0
  refine leaves_cons (f := 76) (args := #[.pointer (some ⟨B, 0, none⟩), .pointer (some ⟨B + 1, 0, none⟩)]) (by simp) (by simp [go_sem]) ?_
  refine (ucatch_panic B (B + 1) _ _ w1 HR1.out (ent_size _) HB1.out (by omega)).mono ?_
  rintro e u' w'' ⟨rfl, rfl, hc1, hc2, hbut⟩
  have d1 : rowOf w'' B 0 45 = some (entC noEn) := hc1.all (ent_size _).symm (by omega)
  have d2 := hc2.cell
  have hX : Ext w w'' := ((ButS.of_ext HX1.out).trans hbut).toExt (fun k hk e => by omega)
  have l2 : (loadVar 30 ⟨B + 1, 0, none⟩).run Tryz.prog w'' = .ok (.int .i64 3) w'' := by simp [go_sem, d2]
  refine leaves_two (v1 := .agg (entC noEn)) (v2 := .int .i64 3) Tryz.results32 ⟨_, rfl, run_loadVar_row ent_ty d1⟩ ⟨_, rfl, l2⟩ ?_
  exact ⟨hX, .inr ⟨HNO.out, rfl⟩⟩
end Go.Proofs.YtmgekdggahoboaaGreatDoor