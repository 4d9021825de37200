/- The stream of the hash, plain. -/
import Derived.Test.YtpjacgcaibaggaaGreatDoorSha
set_option linter.unusedVariables false
set_option linter.unusedSimpArgs false
namespace Go.Proofs.Sha
open Go

theorem chew_append (s : S8) (m x : List Int) : ∀ j, 64 * j ≤ m.length → chew s (m ++ x) j = chew s m j
  | 0, _ => rfl
  | j + 1, h => by
    rw [chew, chew, chew_append s m x j (by omega), List.drop_append_of_le_length (by omega), List.take_append_of_le_length (by simp; omega)]

/-- What a stream holds of a message. -/
structure Holds (s : S8) (blk : List Int) (m : List Int) : Prop where
  st : s = chew S0 m (m.length / 64)
  len : blk.length = 64
  tail : blk.take (m.length % 64) = m.drop (64 * (m.length / 64))

theorem holds_nil (blk : List Int) (h : blk.length = 64) : Holds S0 blk [] := ⟨rfl, h, by simp⟩

/-- The block with text laid over it. -/
def over (blk : List Int) (at_ : Nat) (x : List Int) : List Int := blk.take at_ ++ x ++ blk.drop (at_ + x.length)
theorem over_length {blk : List Int} {a : Nat} {x : List Int} (hb : blk.length = 64) (h : a + x.length ≤ 64) : (over blk a x).length = 64 := by
  simp [over]; omega

theorem holds_more {s : S8} {blk m x : List Int} (h : Holds s blk m) (hx : m.length % 64 + x.length < 64) : Holds s (over blk (m.length % 64) x) (m ++ x) := by
  obtain ⟨h1, h2, h3⟩ := h
  have hd : (m ++ x).length / 64 = m.length / 64 := by simp; omega
  have hm : (m ++ x).length % 64 = m.length % 64 + x.length := by simp; omega
  refine ⟨?_, over_length h2 (by omega), ?_⟩
  · rw [hd, chew_append _ _ _ _ (by omega)]; exact h1
  · rw [hd, hm, over, h3, List.drop_append_of_le_length (by omega)]
    rw [List.take_append_of_le_length (by simp; omega)]
    apply List.take_of_length_le
    simp
    omega
theorem holds_full {s : S8} {blk m x : List Int} (h : Holds s blk m) (hx : m.length % 64 + x.length = 64) : Holds (comp s (over blk (m.length % 64) x)) (over blk (m.length % 64) x) (m ++ x) := by
  obtain ⟨h1, h2, h3⟩ := h
  have hd : (m ++ x).length / 64 = m.length / 64 + 1 := by simp; omega
  have hm : (m ++ x).length % 64 = 0 := by simp; omega
  have ho : over blk (m.length % 64) x = m.drop (64 * (m.length / 64)) ++ x := by
    have e : blk.drop (m.length % 64 + x.length) = [] := List.drop_of_length_le (by omega)
    rw [over, h3, e, List.append_nil]
  refine ⟨?_, over_length h2 (by omega), ?_⟩
  · rw [hd, chew, chew_append _ _ _ _ (by omega), ← h1, ho, List.drop_append_of_le_length (by omega)]
    congr 1
    symm
    apply List.take_of_length_le
    simp
    omega
  · rw [hd, hm]
    simp
    omega

theorem pad_length (n : Nat) : (n + (pad n).length) % 64 = 0 := by
  simp [pad, be8]
  omega
theorem padded_length (m : List Int) : (padded m).length % 64 = 0 := by
  have := pad_length m.length
  simp only [padded, List.length_append]
  exact this
theorem sha_of_holds {s : S8} {blk m : List Int} (h : Holds s blk (padded m)) : out s = sha m := by
  rw [h.st]
  rfl

/-! ### All words are words -/
def W (x : Int) : Prop := 0 ≤ x ∧ x < 4294967296
structure S8.ok (s : S8) : Prop where
  (a : W s.a) (b : W s.b) (c : W s.c) (d : W s.d) (e : W s.e) (f : W s.f) (g : W s.g) (h : W s.h)
theorem W_add (a b : Int) : W (add a b) := ⟨Int.emod_nonneg _ (by decide), Int.emod_lt_of_pos _ (by decide)⟩
theorem rnd_ok {s : S8} (h : s.ok) (k w : Int) : (rnd k w s).ok := ⟨W_add _ _, h.a, h.b, h.c, W_add _ _, h.e, h.f, h.g⟩
theorem rounds_ok {s : S8} (h : s.ok) (w : List Int) : ∀ n, (rounds w s n).ok
  | 0 => h
  | n + 1 => rnd_ok (rounds_ok h w n) _ _
theorem addS_ok (s v : S8) : (addS s v).ok := ⟨W_add _ _, W_add _ _, W_add _ _, W_add _ _, W_add _ _, W_add _ _, W_add _ _, W_add _ _⟩
theorem comp_ok (s : S8) (b : List Int) : (comp s b).ok := addS_ok _ _
theorem S0_ok : S0.ok := by refine ⟨?_, ?_, ?_, ?_, ?_, ?_, ?_, ?_⟩ <;> exact ⟨by decide, by decide⟩
theorem chew_ok (m : List Int) : ∀ n, (chew S0 m n).ok
  | 0 => S0_ok
  | n + 1 => comp_ok _ _
theorem Holds.ok {s : S8} {blk m : List Int} (h : Holds s blk m) : s.ok := by rw [h.st]; exact chew_ok _ _
theorem not_word (x : Int) (h : W x) : bits .xor .u32 x 4294967295 = 4294967295 - x := by
  obtain ⟨h0, h1⟩ := h
  obtain ⟨n, rfl⟩ := Int.eq_ofNat_of_zero_le h0
  have hn : n < 4294967296 := by omega
  have e := u32_xor_nat n 4294967295 hn (by omega)
  have k : n ^^^ 4294967295 = 4294967295 - n := by
    have q : (BitVec.ofNat 32 n ^^^ BitVec.allOnes 32).toNat = (~~~ BitVec.ofNat 32 n).toNat := by rw [BitVec.xor_allOnes]
    rw [BitVec.toNat_xor, BitVec.toNat_not, BitVec.toNat_allOnes, BitVec.toNat_ofNat, Nat.mod_eq_of_lt hn] at q
    exact q
  rw [k] at e
  have r : ((4294967295 - n : Nat) : Int) = 4294967295 - (n : Int) := by omega
  rw [← r, ← e]
  rfl
end Go.Proofs.Sha
