/- Integers and texts as bytes, and digests, plain. -/
import Derived.Test.YtpjacgcaibaggaaGreatDoorShb
set_option linter.unusedVariables false
set_option linter.unusedSimpArgs false
namespace Go.Proofs.Wire
open Go

/-- An integer without its sign. -/
def zig (n : Int) : Nat := if n < 0 then (-2 * n - 1).toNat else (2 * n).toNat
/-- Digits of seven bits, the lowest one first. -/
def vb : Nat → Nat → List Int
  | 0, z => [(z : Int)]
  | f + 1, z => if z < 128 then [(z : Int)] else ((z % 128 + 128 : Nat) : Int) :: vb f (z / 128)
def enc (n : Int) : List Int := vb 9 (zig n)
def encS (s : List Int) : List Int := enc s.length ++ s

theorem vb_small (f z : Nat) (h : z < 128) : vb f z = [(z : Int)] := by
  cases f with
  | zero => rfl
  | succ f => rw [vb, if_pos h]
theorem vb_great (f z : Nat) (h : 128 ≤ z) : vb (f + 1) z = ((z % 128 + 128 : Nat) : Int) :: vb f (z / 128) := by rw [vb, if_neg (by omega)]
theorem vb_length (f z : Nat) : (vb f z).length ≤ f + 1 := by
  induction f generalizing z with
  | zero => simp [vb]
  | succ f ih =>
    rw [vb]
    split
    · simp
    · have := ih (z / 128)
      simp
      omega
theorem vb_pos (f z : Nat) : 0 < (vb f z).length := by
  cases f with
  | zero => simp [vb]
  | succ f =>
    rw [vb]
    split <;> simp
theorem vb_byte : ∀ (f z : Nat), z < 128 ^ (f + 1) → ∀ x ∈ vb f z, 0 ≤ x ∧ x < 256
  | 0, z, h, x, hx => by
    simp [vb] at hx
    omega
  | f + 1, z, h, x, hx => by
    rw [vb] at hx
    split at hx
    · simp at hx; omega
    · rcases List.mem_cons.1 hx with rfl | hx
      · omega
      · exact vb_byte f (z / 128) (by rw [Nat.pow_succ] at h; omega) x hx
theorem zig_lt (n : Int) (h0 : -9223372036854775808 ≤ n) (h1 : n ≤ 9223372036854775807) : zig n < 18446744073709551616 := by
  unfold zig
  split <;> omega
theorem zig_nat (n : Nat) : zig n = 2 * n := by
  unfold zig
  rw [if_neg (by omega)]
  omega
theorem enc_byte (n : Int) (h0 : -9223372036854775808 ≤ n) (h1 : n ≤ 9223372036854775807) : ∀ x ∈ enc n, 0 ≤ x ∧ x < 256 := by
  refine vb_byte 9 _ ?_
  have := zig_lt n h0 h1
  have e : (128 : Nat) ^ (9 + 1) = 1180591620717411303424 := by decide
  omega
theorem enc_length (n : Int) : (enc n).length ≤ 10 := vb_length 9 _
theorem enc_pos (n : Int) : 0 < (enc n).length := vb_pos 9 _

/-- What is written after k digits, and what is left. -/
structure Digits (z : Nat) (k : Nat) (out : List Int) (r : Nat) : Prop where
  k9 : k ≤ 9
  len : out.length = k
  left : r < 2 ^ (64 - 7 * k)
  all : out ++ vb (9 - k) r = vb 9 z
theorem digits_start {z : Nat} (h : z < 18446744073709551616) : Digits z 0 [] z := ⟨by omega, rfl, by simpa using h, rfl⟩
theorem digits_step {z k r : Nat} {out : List Int} (h : Digits z k out r) (hr : 128 ≤ r) : Digits z (k + 1) (out ++ [((r % 128 + 128 : Nat) : Int)]) (r / 128) := by
  obtain ⟨h1, h2, h3, h4⟩ := h
  have hk : k ≤ 8 := by
    by_cases e : k = 9
    · subst e
      have : (2 : Nat) ^ (64 - 7 * 9) = 2 := by decide
      omega
    · omega
  refine ⟨by omega, by simp [h2], ?_, ?_⟩
  · have e : 64 - 7 * k = (64 - 7 * (k + 1)) + 7 := by omega
    rw [e, Nat.pow_add] at h3
    have : (2 : Nat) ^ 7 = 128 := by decide
    rw [this] at h3
    exact Nat.div_lt_of_lt_mul (by rw [Nat.mul_comm]; exact h3)
  · rw [← h4, show 9 - k = (9 - (k + 1)) + 1 by omega, vb_great _ _ hr]
    simp
theorem digits_end {z k r : Nat} {out : List Int} (h : Digits z k out r) (hr : r < 128) : out ++ [(r : Int)] = vb 9 z := by
  rw [← h.all, vb_small _ _ hr]
theorem digits_lt {z k r : Nat} {out : List Int} (h : Digits z k out r) : r < 18446744073709551616 := by
  have h3 := h.left
  have : (2 : Nat) ^ (64 - 7 * k) ≤ 2 ^ 64 := Nat.pow_le_pow_right (by decide) (by omega)
  have e : (2 : Nat) ^ 64 = 18446744073709551616 := by decide
  omega

/-- The input of a digest. -/
def input (tag : Int) (parts : List (List Int)) : List Int := (tag % 256) :: parts.flatMap encS
/-- A digest. -/
def digest (tag : Int) (parts : List (List Int)) : List Int := (Sha.sha (input tag parts)).take 16
end Go.Proofs.Wire
namespace Go.Proofs.Sha
theorem out_length (s : S8) : (out s).length = 32 := by simp [out, out4]
theorem out4_byte (x : Int) : ∀ y ∈ out4 x, 0 ≤ y ∧ y < 256 := by
  intro y hy
  simp [out4] at hy
  rcases hy with rfl | rfl | rfl | rfl <;> omega
theorem out_byte (s : S8) : ∀ y ∈ out s, 0 ≤ y ∧ y < 256 := by
  intro y hy
  simp only [out, List.mem_append] at hy
  rcases hy with ((((((hy | hy) | hy) | hy) | hy) | hy) | hy) | hy
  all_goals exact out4_byte _ y hy
theorem sha_length (m : List Int) : (sha m).length = 32 := out_length _
/-- The bytes of a hash value, one by one. -/
theorem out_get (s : S8) (w : List Int) (hw : w = [s.a, s.b, s.c, s.d, s.e, s.f, s.g, s.h]) : ∀ i, i < 32 → (out s).getD i 0 = w.getD (i / 4) 0 / 2 ^ (24 - 8 * (i % 4)) % 256 := by
  subst hw
  intro i hi
  have hq : i / 4 < 8 := by omega
  have hr : i % 4 < 4 := by omega
  have e : (out s).getD i 0 = (out s).getD (4 * (i / 4) + i % 4) 0 := by congr 1; omega
  rw [e]
  generalize i / 4 = q at *
  generalize i % 4 = r at *
  rcases q with _ | _ | _ | _ | _ | _ | _ | _ | q
  all_goals first | omega | skip
  all_goals
    rcases r with _ | _ | _ | _ | r
    all_goals first | omega | simp [out, out4]
end Go.Proofs.Sha
