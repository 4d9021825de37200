/- Walks of the hash: rotations. -/
import Derived.RangeFuncNested
import Derived.RangeFuncBound
import Derived.RangeFuncCalls
import Derived.RangeFuncLeaves
import Derived.Shelf.Abstract
import Derived.Shelf.RegionOpen
import Derived.OwnWalkIn
import Derived.TacticsInMore
import Derived.LoopNIn
import Derived.LoopIn
import Derived.Laws.BitsAllLaws
import Derived.Test.YtmgekdggahoboaaGreatDoorVSpv
import Derived.WalkKit
import Derived.WalkSpells
import Derived.WalkLawsBesides
import Derived.Deep.QuietTactic
import Derived.BigQuiet
set_option linter.unusedVariables false
set_option linter.unusedSimpArgs false
namespace Go.Proofs.Sha
open Go
abbrev add (a b : Int) : Int := (a + b) % 4294967296
abbrev xor (a b : Int) : Int := bits .xor .u32 a b
abbrev and (a b : Int) : Int := bits .and .u32 a b
abbrev or (a b : Int) : Int := bits .or .u32 a b
def rotr (x : Int) (n : Nat) : Int := or (x / 2 ^ n) (x * 2 ^ (32 - n) % 4294967296)
def mix (x : Int) (i j k : Nat) : Int := xor (xor (rotr x i) (rotr x j)) (rotr x k)
def sm0 (x : Int) : Int := xor (xor (rotr x 7) (rotr x 18)) (x / 8)
def sm1 (x : Int) : Int := xor (xor (rotr x 17) (rotr x 19)) (x / 1024)
def nextW (l : List Int) : Int :=
 add (add (add (l.getD (l.length - 16) 0) (sm0 (l.getD (l.length - 15) 0))) (l.getD (l.length - 7) 0)) (sm1 (l.getD (l.length - 2) 0))
def grow : Nat → List Int → List Int
 | 0, l => l
 | n + 1, l => grow n (l ++ [nextW l])
def be4 (a b c d : Int) : Int := a * 16777216 + b * 65536 + c * 256 + d
def first (b : List Int) (n : Nat) : List Int := (List.range n).map fun t => be4 (b.getD (4 * t) 0) (b.getD (4 * t + 1) 0) (b.getD (4 * t + 2) 0) (b.getD (4 * t + 3) 0)
def sched (b : List Int) : List Int := grow 48 (first b 16)
structure S8 where
 (a b c d e f g h : Int)
def ch (e f g : Int) : Int := xor (and e f) (and (xor e 4294967295) g)
def maj (a b c : Int) : Int := xor (xor (and a b) (and a c)) (and b c)
def rx (k w : Int) (s : S8) : Int := add (add (add (add s.h (mix s.e 6 11 25)) (ch s.e s.f s.g)) k) w
def ry (s : S8) : Int := add (mix s.a 2 13 22) (maj s.a s.b s.c)
def rnd (k w : Int) (s : S8) : S8 := ⟨add (rx k w s) (ry s), s.a, s.b, s.c, add s.d (rx k w s), s.e, s.f, s.g⟩
def K : List Int := [
 0x428a2f98, 0x71374491, 0xb5c0fbcf, 0xe9b5dba5, 0x3956c25b, 0x59f111f1, 0x923f82a4, 0xab1c5ed5,
 0xd807aa98, 0x12835b01, 0x243185be, 0x550c7dc3, 0x72be5d74, 0x80deb1fe, 0x9bdc06a7, 0xc19bf174,
 0xe49b69c1, 0xefbe4786, 0x0fc19dc6, 0x240ca1cc, 0x2de92c6f, 0x4a7484aa, 0x5cb0a9dc, 0x76f988da,
 0x983e5152, 0xa831c66d, 0xb00327c8, 0xbf597fc7, 0xc6e00bf3, 0xd5a79147, 0x06ca6351, 0x14292967,
 0x27b70a85, 0x2e1b2138, 0x4d2c6dfc, 0x53380d13, 0x650a7354, 0x766a0abb, 0x81c2c92e, 0x92722c85,
 0xa2bfe8a1, 0xa81a664b, 0xc24b8b70, 0xc76c51a3, 0xd192e819, 0xd6990624, 0xf40e3585, 0x106aa070,
 0x19a4c116, 0x1e376c08, 0x2748774c, 0x34b0bcb5, 0x391c0cb3, 0x4ed8aa4a, 0x5b9cca4f, 0x682e6ff3,
 0x748f82ee, 0x78a5636f, 0x84c87814, 0x8cc70208, 0x90befffa, 0xa4506ceb, 0xbef9a3f7, 0xc67178f2]
def rounds (w : List Int) (s : S8) : Nat → S8
 | 0 => s
 | n + 1 => rnd (K.getD n 0) (w.getD n 0) (rounds w s n)
def addS (s v : S8) : S8 := ⟨add s.a v.a, add s.b v.b, add s.c v.c, add s.d v.d, add s.e v.e, add s.f v.f, add s.g v.g, add s.h v.h⟩
def comp (s : S8) (b : List Int) : S8 := addS s (rounds (sched b) s 64)
def S0 : S8 := ⟨0x6a09e667, 0xbb67ae85, 0x3c6ef372, 0xa54ff53a, 0x510e527f, 0x9b05688c, 0x1f83d9ab, 0x5be0cd19⟩
def chew (s : S8) (m : List Int) : Nat → S8
 | 0 => s
 | n + 1 => comp (chew s m n) ((m.drop (64 * n)).take 64)
def be8 (n : Nat) : List Int := (List.range 8).map fun i => ((n / 2 ^ (56 - 8 * i) % 256 : Nat) : Int)
def pad (n : Nat) : List Int := 128 :: List.replicate ((119 - n % 64) % 64) 0 ++ be8 (8 * n)
def padded (m : List Int) : List Int := m ++ pad m.length
def out4 (x : Int) : List Int := [x / 16777216 % 256, x / 65536 % 256, x / 256 % 256, x % 256]
def out (s : S8) : List Int := out4 s.a ++ out4 s.b ++ out4 s.c ++ out4 s.d ++ out4 s.e ++ out4 s.f ++ out4 s.g ++ out4 s.h
def sha (m : List Int) : List Int := out (chew S0 (padded m) ((padded m).length / 64))
theorem grow_succ (n : Nat) (l : List Int) : grow (n + 1) l = grow n l ++ [nextW (grow n l)] := by
 induction n generalizing l with
 | zero => rfl
 | succ n ih => rw [grow, ih]; rfl
theorem grow_length (n : Nat) (l : List Int) : (grow n l).length = l.length + n := by
 induction n generalizing l with
 | zero => rfl
 | succ n ih => rw [grow, ih]; simp; omega
def word (b : List Int) (t : Nat) : Int := be4 (b.getD (4 * t) 0) (b.getD (4 * t + 1) 0) (b.getD (4 * t + 2) 0) (b.getD (4 * t + 3) 0)
theorem first_succ (b : List Int) (n : Nat) : first b (n + 1) = first b n ++ [word b n] := by
 simp [first, List.range_succ, word]
theorem first_length (b : List Int) (n : Nat) : (first b n).length = n := by simp [first]
def upTo (b : List Int) (t : Nat) : List Int := if t ≤ 16 then first b t else grow (t - 16) (first b 16)
theorem upTo_length (b : List Int) (t : Nat) : (upTo b t).length = t := by
 unfold upTo
 split
 ·exact first_length b t
 ·rw [grow_length, first_length]; omega
theorem upTo_low (b : List Int) {t : Nat} (h : t < 16) : upTo b (t + 1) = upTo b t ++ [word b t] := by
 unfold upTo
 rw [if_pos (by omega), if_pos (by omega), first_succ]
theorem upTo_high (b : List Int) {t : Nat} (h : 16 ≤ t) : upTo b (t + 1) = upTo b t ++ [nextW (upTo b t)] := by
 by_cases e : t = 16
 ·subst e; rfl
 ·unfold upTo
  rw [if_neg (by omega), if_neg (by omega), show t + 1 - 16 = (t - 16) + 1 by omega, grow_succ]
theorem upTo_all (b : List Int) : upTo b 64 = sched b := rfl
def part (b : List Int) (t : Nat) : List Int := upTo b t ++ List.replicate (64 - t) 0
theorem part_length (b : List Int) {t : Nat} (h : t ≤ 64) : (part b t).length = 64 := by simp [part, upTo_length]; omega
theorem part_all (b : List Int) : part b 64 = sched b := by simp [part, upTo_all]
theorem part_get (b : List Int) {t i : Nat} (h : i < t) : (part b t).getD i 0 = (upTo b t).getD i 0 := by
 have := upTo_length b t
 simp only [part, List.getD_eq_getElem?_getD]
 rw [List.getElem?_append_left (by omega)]
theorem part_at (b : List Int) (t : Nat) : (part b t).getD t 0 = 0 := by
 have := upTo_length b t
 simp only [part, List.getD_eq_getElem?_getD]
 rw [List.getElem?_append_right (by omega), this, Nat.sub_self]
 cases h : 64 - t with
 | zero => rfl
 | succ n => rfl
theorem part_set (b : List Int) {t : Nat} (h : t < 64) {x : Int} (hx : upTo b (t + 1) = upTo b t ++ [x]) : (part b t).set t x = part b (t + 1) := by
 have hl := upTo_length b t
 unfold part
 rw [hx, List.set_append_right _ _ (by omega), hl, Nat.sub_self, show 64 - t = (64 - (t + 1)) + 1 by omega, List.replicate_succ, List.set_cons_zero]
 simp
theorem sched_length (b : List Int) : (sched b).length = 64 := by rw [← upTo_all, upTo_length]
theorem next_part (b : List Int) {t : Nat} (h : 16 ≤ t) : nextW (upTo b t) =
  add (add (add ((part b t).getD (t - 16) 0) (sm0 ((part b t).getD (t - 15) 0))) ((part b t).getD (t - 7) 0)) (sm1 ((part b t).getD (t - 2) 0)) := by
 rw [part_get b (by omega), part_get b (by omega), part_get b (by omega), part_get b (by omega)]
 simp only [nextW, upTo_length]
theorem or_join (q y : Int) (k : Nat) (hq : 0 ≤ q) (hy : 0 ≤ y) (hk : y < 2 ^ k) (hb : q * 2 ^ k + y < 4294967296) : bits .or .u32 (q * 2 ^ k) y = q * 2 ^ k + y := by
 obtain ⟨a, rfl⟩ := Int.eq_ofNat_of_zero_le hq
 obtain ⟨b, rfl⟩ := Int.eq_ofNat_of_zero_le hy
 have hk' : b < 2 ^ k := by exact_mod_cast hk
 have hb' : a * 2 ^ k + b < 4294967296 := by
  have e : ((a * 2 ^ k + b : Nat) : Int) = (a : Int) * 2 ^ k + b := by push_cast; rfl
  rw [← e] at hb
  exact Int.ofNat_lt.1 hb
 have := u32_or_nat (a * 2 ^ k) b (by omega) (by omega)
 rw [nat_join k _ _ (Nat.mul_mod_left a (2 ^ k)) hk'] at this
 push_cast at this
 exact this
theorem join8 (x b : Int) (h0 : 0 ≤ x) (h1 : x < 16777216) (h2 : 0 ≤ b) (h3 : b < 256) : bits .or .u32 (x * 256 % 4294967296) b = x * 256 + b := by
 rw [Int.emod_eq_of_lt (by omega) (by omega)]
 exact or_join x b 8 h0 h2 (by omega) (by omega)
theorem join_all (a b c d : Int) (ha : 0 ≤ a ∧ a < 256) (hb : 0 ≤ b ∧ b < 256) (hc : 0 ≤ c ∧ c < 256) (hd : 0 ≤ d ∧ d < 256) :
  bits .or .u32 (bits .or .u32 (bits .or .u32 (a * 16777216 % 4294967296) (b * 65536 % 4294967296)) (c * 256 % 4294967296)) d = be4 a b c d := by
 rw [Int.emod_eq_of_lt (by omega) (by omega), Int.emod_eq_of_lt (by omega) (by omega), Int.emod_eq_of_lt (by omega) (by omega)]
 have e1 := or_join a (b * 65536) 24 (by omega) (by omega) (by omega) (by omega)
 have e2 := or_join (a * 256 + b) (c * 256) 16 (by omega) (by omega) (by omega) (by omega)
 have e3 := or_join (a * 65536 + b * 256 + c) d 8 (by omega) (by omega) (by omega) (by omega)
 have f1 : a * 2 ^ 24 = a * 16777216 := by omega
 have f2 : (a * 256 + b) * 2 ^ 16 = a * 16777216 + b * 65536 := by omega
 have f3 : (a * 65536 + b * 256 + c) * 2 ^ 8 = a * 16777216 + b * 65536 + c * 256 := by omega
 rw [f1] at e1
 rw [f2] at e2
 rw [f3] at e3
 rw [e1, e2, e3]
 rfl
def fold4 (b : List Int) (t : Nat) : Nat → Int
 | 0 => 0
 | j + 1 => fold4 b t j * 256 + b.getD (4 * t + j) 0
theorem fold4_all (b : List Int) (t : Nat) : fold4 b t 4 = word b t := by
 simp only [fold4, word, be4, Nat.add_zero]
 omega
theorem fold4_bd (b : List Int) (t : Nat) (hb : ∀ i, i < 64 → 0 ≤ b.getD i 0 ∧ b.getD i 0 < 256) (ht : t < 16) : ∀ k, k ≤ 4 → 0 ≤ fold4 b t k ∧ fold4 b t k < 256 ^ k
 | 0, _ => by simp [fold4]
 | k + 1, h => by
  have ih := fold4_bd b t hb ht k (by omega)
  have := hb (4 * t + k) (by omega)
  simp only [fold4]
  rw [Int.pow_succ]
  omega
theorem fold4_24 (b : List Int) (t : Nat) (hb : ∀ i, i < 64 → 0 ≤ b.getD i 0 ∧ b.getD i 0 < 256) (ht : t < 16) (k : Nat) (hk : k < 4) : 0 ≤ fold4 b t k ∧ fold4 b t k < 16777216 := by
 have h := fold4_bd b t hb ht k (by omega)
 have : (256 : Int) ^ k ≤ 256 ^ 3 := by
  have e : k = 0 ∨ k = 1 ∨ k = 2 ∨ k = 3 := by omega
  rcases e with rfl | rfl | rfl | rfl <;> decide
 omega
theorem fold4_join (b : List Int) (t : Nat) (hb : ∀ i, i < 64 → 0 ≤ b.getD i 0 ∧ b.getD i 0 < 256) (ht : t < 16) (k : Nat) (hk : k < 4) :
  bits .or .u32 (fold4 b t k * 256 % 4294967296) (b.getD (4 * t + k) 0) = fold4 b t (k + 1) := by
 have h := fold4_24 b t hb ht k hk
 have h2 := hb (4 * t + k) (by omega)
 exact join8 _ _ h.1 h.2 h2.1 h2.2
theorem fold4_join' (b : List Int) (t : Nat) (hb : ∀ i, i < 64 → 0 ≤ b.getD i 0 ∧ b.getD i 0 < 256) (ht : t < 16) (k : Nat) (hk : k < 4) :
  bits .or .u32 (fold4 b t k * 256) (b[4 * t + k]?.getD 0 % 4294967296) = fold4 b t (k + 1) := by
 have h := fold4_24 b t hb ht k hk
 have h2 := hb (4 * t + k) (by omega)
 have e := fold4_join b t hb ht k hk
 rw [List.getD_eq_getElem?_getD] at e h2
 rw [Int.emod_eq_of_lt (by omega) (by omega)] at e
 rw [Int.emod_eq_of_lt h2.1 (by omega)]
 exact e
example : (sha [97, 98, 99]).take 4 = [0xba, 0x78, 0x16, 0xbf] := by decide +kernel
end Go.Proofs.Sha

namespace Go.Proofs.YtmgekdggahoboaaGreatDoor
open Go.RowKit
open Go.Proofs
theorem or_comm32 (a b : Int) : bits .or .u32 a b = bits .or .u32 b a := by
 simp [bits, BitVec.or_comm]
theorem rot_count (n : Nat) (h : 0 < n ∧ n < 32) : bits .and .u64 (IntKind.u64.wrap (-(n : Int))) 31 = 32 - n := by
 obtain ⟨h0, h1⟩ := h
 have : ∀ m : Fin 32, 0 < m.val → bits .and .u64 (IntKind.u64.wrap (-(m.val : Int))) 31 = 32 - m.val := by decide +kernel
 exact this ⟨n, h1⟩ h0
theorem rotl_ok (x : Int) (n : Nat) (h : 0 < n ∧ n < 32) (w : World) :
  Calls Tryz.prog 294 #[.int .u32 x, .int .i64 (-(n : Int))] w fun e w' => e = .returned (.int .u32 (Sha.rotr x n)) ∧ w = w' := by
 have hc := rot_count n h
 have e1 : (32 - (n : Int)).toNat = 32 - n := by omega
 have hn1 : (0 : Int) ≤ 32 - n := by omega
 go_enter Tryz.func294, Tryz.ntmps294
 go_wp2
 go_ret
 refine ⟨ret_int ?_, rfl⟩
 rw [show 32 - (32 - n) = n by omega, or_comm32]
 rfl
theorem rotl7 (x : Int) (w : World) : Calls Tryz.prog 294 #[.int .u32 x, .int .i64 (-7)] w fun e w' => e = .returned (.int .u32 (Sha.rotr x 7)) ∧ w = w' := rotl_ok x 7 (by omega) w
theorem rotl18 (x : Int) (w : World) : Calls Tryz.prog 294 #[.int .u32 x, .int .i64 (-18)] w fun e w' => e = .returned (.int .u32 (Sha.rotr x 18)) ∧ w = w' := rotl_ok x 18 (by omega) w
theorem rotl17 (x : Int) (w : World) : Calls Tryz.prog 294 #[.int .u32 x, .int .i64 (-17)] w fun e w' => e = .returned (.int .u32 (Sha.rotr x 17)) ∧ w = w' := rotl_ok x 17 (by omega) w
theorem rotl19 (x : Int) (w : World) : Calls Tryz.prog 294 #[.int .u32 x, .int .i64 (-19)] w fun e w' => e = .returned (.int .u32 (Sha.rotr x 19)) ∧ w = w' := rotl_ok x 19 (by omega) w
theorem rotr_ok (x : Int) (n : Nat) (h : 0 < n ∧ n < 32) (w : World) :
  Calls Tryz.prog 254 #[.int .u32 x, .int .i64 (n : Int)] w fun e w' => e = .returned (.int .u32 (Sha.rotr x n)) ∧ Ext w w' := by
 go_enter Tryz.func254, Tryz.ntmps254
 go_wp2
 refine wp_region_later (by kernel_rfl) (by kernel_rfl) ?_
 repeat (first | go_big_quiet_step (fail) | quiet_step (fail))
 refine wpQuiet_nil ?_
 rintro _ ⟨xq, rfl⟩
 go_wp2
 go_ret
 exact ⟨rfl, (by (repeat (first | with_reducible exact eR _ | with_reducible refine Ext.drew ?_ | with_reducible refine Ext.drewN ?_ _ | with_reducible refine Ext.alloc ?_ _ | with_reducible refine Ext.onto ?_ _ | with_reducible refine Ext.setCell ?_ ?_ _)); all_goals (simp; try omega))⟩
theorem mix_ok (x : Int) (i j k : Nat) (hi : 0 < i ∧ i < 32) (hj : 0 < j ∧ j < 32) (hk : 0 < k ∧ k < 32) (w : World) :
  Calls Tryz.prog 277 #[.int .u32 x, .int .i64 (i : Int), .int .i64 (j : Int), .int .i64 (k : Int)] w fun e w' => e = .returned (.int .u32 (Sha.mix x i j k)) ∧ w = w' := by
 go_enter Tryz.func277, Tryz.ntmps277
 go_wp2_with (go_at_call 294; refine (rotl_ok x _ (by assumption) _).mono ?_; rintro e w' ⟨rfl, rfl⟩)
 go_ret
 exact ⟨rfl, rfl⟩
end Go.Proofs.YtmgekdggahoboaaGreatDoor