/- Pieces put one after the other, in plain words. -/
import Derived.Test.YtiacnoejlmaplaaGreatDoorProg
import Derived.Test.YtiacnoejlmaplaaGreatDoorExt
import Derived.WalkKit
import Derived.WalkSpells
import Derived.WalkLawsBesides
import Derived.Deep.QuietTactic
import Derived.BigQuiet
import Derived.Test.YtiacnoejlmaplaaGreatDoorFa
import Derived.Test.YtiacnoejlmaplaaGreatDoorMs
import Derived.Lib.Bytealg
import Derived.Lib.Small
set_option linter.unusedVariables false
set_option linter.unusedSimpArgs false
namespace Go.Proofs.YtiacnoejlmaplaaGreatDoor
open Go.RowKit Go.Shelf
open Go.Proofs
open Go.Proofs.Sp (Sp)

/-- A set whose bytes lie below n. -/
theorem lastB_iff {l : List Sp} {n : Int} (hs : Sp.IsSet l) : lastB l n = true ↔ ∀ s ∈ l, s.2 ≤ n := by
  unfold lastB
  simp only [Bool.or_eq_true, decide_eq_true_eq]
  constructor
  · rintro (h | h) s hs'
    · rw [List.eq_nil_of_length_eq_zero h] at hs'; cases hs'
    · obtain ⟨i, hi, rfl⟩ := List.getElem_of_mem hs'
      rw [getD_at (show l.length - 1 < l.length by omega)] at h
      by_cases e : i = l.length - 1
      · subst e; exact h
      · have h1 := List.pairwise_iff_getElem.1 hs.1 i (l.length - 1) hi (by omega) (by omega)
        have h2 := hs.2 _ (List.getElem_mem (show l.length - 1 < l.length by omega))
        omega
  · intro h
    by_cases h0 : l.length = 0
    · exact .inl h0
    · right
      rw [getD_at (show l.length - 1 < l.length by omega)]
      exact h _ (List.getElem_mem _)
theorem setIn_iff {l : List Sp} {n : Int} (hn : n ≤ 1099511627776) : (setB l = true ∧ lastB l n = true) ↔ SetIn l n := by
  constructor
  · rintro ⟨h1, h2⟩
    have h3 := setB_set h1
    exact ⟨h3.1, fun s hs => ⟨(h3.2 s hs).1, (lastB_iff h3.1).1 h2 s hs⟩⟩
  · intro h
    refine ⟨set_setB ⟨h.1, fun s hs => ⟨(h.2 s hs).1, by have := (h.2 s hs).2; omega⟩⟩, (lastB_iff h.1).2 (fun s hs => (h.2 s hs).2)⟩

/-- A valid entry. -/
structure Val (e : En) (l : List Sp) : Prop where
  rt : rightB e.st = true
  z0 : 0 ≤ e.st.size
  sz : e.st.size ≤ 65536
  bs : (e.bytes.size : Int) = e.st.size
  si : SetIn l e.st.size
  zr : ∀ k : Nat, k < e.bytes.size → (bts e.bytes).getD k 0 = 0 ∨ Sp.mem l k
  wh : e.whole = fullB l e.st.size
  dg : e.whole = true → Wire.digest 34 [bts e.bytes] = e.st.body
theorem rightB_z {s : St} (h : rightB s = true) : 0 ≤ s.size ∧ s.size ≤ 1099511627776 := by
  simp only [rightB, Bool.and_eq_true, decide_eq_true_eq] at h
  omega
theorem zeroB_iff {b : ByteArray} {l : List Sp} : zeroB b l = true ↔ ∀ k : Nat, k < b.size → (bts b).getD k 0 = 0 ∨ Sp.mem l k := by
  unfold zeroB zeroAt
  rw [List.all_eq_true]
  constructor
  · intro h k hk
    have := h k (List.mem_range.2 hk)
    simp only [Bool.or_eq_true, decide_eq_true_eq, hasB_iff] at this
    exact this
  · intro h k hk
    simp only [Bool.or_eq_true, decide_eq_true_eq, hasB_iff]
    exact h k (List.mem_range.1 hk)
theorem val_iff {e : En} {l : List Sp} : validB e l = true ↔ Val e l := by
  unfold validB
  simp only [Bool.and_eq_true, decide_eq_true_eq, beq_iff_eq, Bool.or_eq_true, Bool.not_eq_true']
  constructor
  · rintro ⟨⟨⟨⟨⟨⟨⟨h1, h2⟩, h3⟩, h4⟩, h5⟩, h6⟩, h7⟩, h8⟩
    refine ⟨h1, (rightB_z h1).1, h3, h4, (setIn_iff (by omega)).1 ⟨h2, h5⟩, zeroB_iff.1 h6, h7, fun hw => ?_⟩
    rw [h7] at hw
    rcases h8 with h8 | h8
    · rw [hw] at h8; cases h8
    · exact h8
  · intro h
    have hsz := h.sz
    obtain ⟨k1, k2⟩ := (setIn_iff (by omega)).2 h.si
    refine ⟨⟨⟨⟨⟨⟨⟨h.rt, k1⟩, h.sz⟩, h.bs⟩, k2⟩, zeroB_iff.2 h.zr⟩, h.wh⟩, ?_⟩
    cases hf : fullB l e.st.size with
    | false => exact .inl rfl
    | true => exact .inr (h.dg (h.wh.trans hf))

/-! ### Bytes laid over -/
def overB (b : ByteArray) (p : Nat) (x : ByteArray) : ByteArray := strOfNums (Sha.over (bts b) p (bts x))
theorem byt_bts (b : ByteArray) : Byt (bts b) := bts_byte b
theorem over_byt {a x : List Int} (p : Nat) (ha : Byt a) (hx : Byt x) : Byt (Sha.over a p x) := by
  intro y hy
  unfold Sha.over at hy
  rcases List.mem_append.1 hy with hy | hy
  · rcases List.mem_append.1 hy with hy | hy
    · exact ha y (List.mem_of_mem_take hy)
    · exact hx y hy
  · exact ha y (List.mem_of_mem_drop hy)
theorem bts_over (b : ByteArray) (p : Nat) (x : ByteArray) : bts (overB b p x) = Sha.over (bts b) p (bts x) := bts_nums (over_byt p (byt_bts b) (byt_bts x))
theorem overB_size {b x : ByteArray} {p : Nat} (h : p + x.size ≤ b.size) : (overB b p x).size = b.size := by
  rw [← bts_length, bts_over, over_len (by rw [bts_length, bts_length]; exact h), bts_length]
theorem overB_get {b x : ByteArray} {p j : Nat} (h : p + x.size ≤ b.size) (hj : j < b.size) : (bts (overB b p x)).getD j 0 = if p ≤ j ∧ j < p + x.size then (bts x).getD (j - p) 0 else (bts b).getD j 0 := by
  rw [bts_over, over_getD (by rw [bts_length, bts_length]; exact h) (by rw [bts_length]; exact hj), bts_length]
theorem overB_none (b : ByteArray) (p : Nat) (x : ByteArray) (h : x.size = 0) : overB b p x = b := by
  have : bts x = [] := List.eq_nil_of_length_eq_zero (by rw [bts_length]; exact h)
  unfold overB
  rw [this]
  simp [Sha.over, nums_bts]
theorem bts_inj {a b : ByteArray} (h : bts a = bts b) : a = b := by rw [← nums_bts a, ← nums_bts b, h]
theorem bts_ext {a b : ByteArray} (hs : a.size = b.size) (h : ∀ k, k < a.size → (bts a).getD k 0 = (bts b).getD k 0) : a = b := by
  apply bts_inj
  apply List.ext_getElem (by rw [bts_length, bts_length, hs])
  intro i h1 h2
  have := h i (by rwa [bts_length] at h1)
  rw [List.getD_eq_getElem?_getD, List.getD_eq_getElem?_getD, List.getElem?_eq_getElem h1, List.getElem?_eq_getElem h2] at this
  simpa using this
theorem bts_app (a b : ByteArray) : bts (a ++ b) = bts a ++ bts b := by
  unfold bts
  rw [ByteArray.data_append, Array.toList_append, List.map_append]
theorem bts_ext_at (b : ByteArray) (i j : Nat) : bts (b.extract i j) = ((bts b).drop i).take (j - i) := by
  unfold bts
  rw [Lib.extract_eq, List.map_take, List.map_drop]
/-- What the specification lays together is what the program lays over. -/
theorem cat_over {b x : ByteArray} {p : Nat} (h : p + x.size ≤ b.size) : b.extract 0 p ++ x ++ b.extract (p + x.size) b.size = overB b p x := by
  apply bts_inj
  rw [bts_over, bts_app, bts_app, bts_ext_at, bts_ext_at, List.drop_zero, Nat.sub_zero]
  unfold Sha.over
  rw [bts_length, List.take_of_length_le (i := b.size - (p + x.size)) (by rw [List.length_drop, bts_length]; omega)]

/-! ### Settling -/
structure Res where
  e : En
  l : List Sp
  n : Int
def settleN (e : En) (l : List Sp) (b : ByteArray) : Res :=
  if fullB l e.st.size = true then
    if Wire.digest 34 [bts b] = e.st.body then ⟨{ e with bytes := b, whole := true }, l, 0⟩ else ⟨emptyEn e.st e.soft, [], 8⟩
  else ⟨{ e with bytes := b }, l, 0⟩
theorem bts_zb (n : Nat) : bts (zb n) = List.replicate n 0 := by
  have h : ∀ n, Lib.repeatL ([0] : List UInt8) n = List.replicate n 0 := by
    intro n
    induction n with
    | zero => rfl
    | succ n ih => rw [Lib.repeatL, ih]; rfl
  unfold bts zb
  rw [h]
  simp
theorem full_nil {n : Int} : fullB [] n = decide (n ≤ 0) := by
  rw [Bool.eq_iff_iff, fullB_iff, decide_eq_true_eq]
  constructor
  · intro h
    by_cases h0 : n ≤ 0
    · exact h0
    · exact absurd (h 0 (by omega) (by omega)) (Sp.mem_nil 0)
  · intro h x h0 h1
    omega
theorem empty_val (s : St) (so : Bool) (h : rightB s = true) (h1 : s.size ≤ 65536) (h2 : s.size = 0 → Wire.digest 34 [[]] = s.body) : Val (emptyEn s so) [] := by
  have h0 := (rightB_z h).1
  have hz : (zb s.size.toNat).size = s.size.toNat := by rw [← bts_length, bts_zb, List.length_replicate]
  refine ⟨h, h0, h1, by show ((zb s.size.toNat).size : Int) = s.size; rw [hz]; omega, SetIn.nil _, fun k hk => .inl ?_, ?_, fun hw => ?_⟩
  · show (bts (zb s.size.toNat)).getD k 0 = 0
    rw [bts_zb, List.getD_eq_getElem?_getD, List.getElem?_replicate]
    split <;> rfl
  · show decide (s.size = 0) = fullB [] s.size
    rw [full_nil, decide_eq_decide]
    omega
  · have e : s.size = 0 := by simpa [emptyEn] using hw
    show Wire.digest 34 [bts (zb s.size.toNat)] = s.body
    rw [bts_zb, e]
    exact h2 e
theorem settle_val {e : En} {l : List Sp} {b : ByteArray} (hr : rightB e.st = true) (h0 : 0 < e.st.size) (h1 : e.st.size ≤ 65536) (hw : e.whole = false) (hb : (b.size : Int) = e.st.size) (hs : SetIn l e.st.size)
    (hz : ∀ k : Nat, k < b.size → (bts b).getD k 0 = 0 ∨ Sp.mem l k) : Val (settleN e l b).e (settleN e l b).l := by
  unfold settleN
  by_cases hf : fullB l e.st.size = true
  · rw [if_pos hf]
    by_cases hd : Wire.digest 34 [bts b] = e.st.body
    · rw [if_pos hd]
      exact ⟨hr, by show 0 ≤ e.st.size; omega, h1, hb, hs, hz, hf.symm, fun _ => hd⟩
    · rw [if_neg hd]
      exact empty_val e.st e.soft hr h1 (fun e => by omega)
  · rw [if_neg hf]
    refine ⟨hr, by show 0 ≤ e.st.size; omega, h1, hb, hs, hz, ?_, fun h => ?_⟩
    · show e.whole = _
      rw [hw]; simpa using hf
    · have : e.whole = true := h
      rw [hw] at this; cases this
/-- What Put returns. -/
def putN (e : En) (l : List Sp) (f : Int) (more : ByteArray) : Res :=
  if e.whole = true then ⟨e, l, 4⟩
  else if f < 0 ∨ e.st.size < f ∨ e.st.size < f + more.size then ⟨e, l, 1⟩
  else settleN e (Sp.rAdd l (f, f + more.size)) (overB e.bytes f.toNat more)
theorem Val.pos {e : En} {l : List Sp} (h : Val e l) (hw : e.whole = false) : 0 < e.st.size := by
  have h0 := h.z0
  rcases Int.lt_or_eq_of_le h0 with k | k
  · exact k
  · have h1 : fullB l e.st.size = true := fullB_iff.2 (fun x a b => by omega)
    rw [← h.wh, hw] at h1; cases h1
theorem put_val {e : En} {l : List Sp} (h : Val e l) (f : Int) (more : ByteArray) : Val (putN e l f more).e (putN e l f more).l := by
  unfold putN
  by_cases hw : e.whole = true
  · rw [if_pos hw]; exact h
  · rw [if_neg hw]
    have hw' : e.whole = false := by simpa using hw
    by_cases hc : f < 0 ∨ e.st.size < f ∨ e.st.size < f + more.size
    · rw [if_pos hc]; exact h
    · rw [if_neg hc]
      have hb := h.bs
      have hp : f.toNat + more.size ≤ e.bytes.size := by omega
      obtain ⟨k1, k2⟩ := rAdd_in (f := f) (t := f + more.size) h.si (by omega) (by omega)
      refine settle_val h.rt (h.pos hw') h.sz hw' (by rw [overB_size hp]; exact hb) k1 fun k hk => ?_
      rw [overB_size hp] at hk
      rw [overB_get hp hk, k2]
      by_cases hc : f.toNat ≤ k ∧ k < f.toNat + more.size
      · exact .inr (.inr ⟨by omega, by omega⟩)
      · rw [if_neg hc]
        rcases h.zr k hk with q | q
        · exact .inl q
        · exact .inr (.inl q)
end Go.Proofs.YtiacnoejlmaplaaGreatDoor

namespace Go.Proofs.YtiacnoejlmaplaaGreatDoor
open Go.RowKit Go.Shelf
open Go.Proofs
open Go.Proofs.Sp (Sp)

/-! ### Texts in order -/
theorem cmp_self : ∀ a : List UInt8, Lib.compareBytes a a = 0
  | [] => rfl
  | x :: a => by
    unfold Lib.compareBytes
    rw [if_neg (UInt8.lt_irrefl x), if_neg (UInt8.lt_irrefl x)]
    exact cmp_self a
theorem cmp_anti : ∀ a b : List UInt8, Lib.compareBytes b a = - Lib.compareBytes a b
  | [], [] => rfl
  | [], _ :: _ => rfl
  | _ :: _, [] => rfl
  | x :: a, y :: b => by
    unfold Lib.compareBytes
    by_cases h1 : x < y
    · have h2 : ¬ y < x := UInt8.lt_asymm h1
      rw [if_pos h1, if_neg h2, if_pos h1]; rfl
    · by_cases h2 : y < x
      · rw [if_pos h2, if_neg h1, if_pos h2]
      · rw [if_neg h1, if_neg h2, if_neg h1, if_neg h2]; exact cmp_anti a b
theorem cmp_three : ∀ a b : List UInt8, Lib.compareBytes a b = -1 ∨ Lib.compareBytes a b = 0 ∨ Lib.compareBytes a b = 1
  | [], [] => .inr (.inl rfl)
  | [], _ :: _ => .inl rfl
  | _ :: _, [] => .inr (.inr rfl)
  | x :: a, y :: b => by
    unfold Lib.compareBytes
    by_cases h1 : x < y
    · rw [if_pos h1]; exact .inl rfl
    · by_cases h2 : y < x
      · rw [if_neg h1, if_pos h2]; exact .inr (.inr rfl)
      · rw [if_neg h1, if_neg h2]; exact cmp_three a b
theorem cmp_less : ∀ a b : List UInt8, Op.bytesLess a b = decide (Lib.compareBytes a b < 0)
  | [], [] => rfl
  | [], _ :: _ => rfl
  | _ :: _, [] => rfl
  | x :: a, y :: b => by
    unfold Lib.compareBytes Op.bytesLess
    by_cases h1 : x < y
    · rw [if_pos h1]; simp [h1]
    · by_cases h2 : y < x
      · have h3 : ¬ x = y := fun e => by subst e; exact h1 h2
        rw [if_neg h1, if_pos h2]; simp [h1, h3]
      · have h3 : x = y := UInt8.le_antisymm (UInt8.not_lt.1 h2) (UInt8.not_lt.1 h1)
        subst h3
        rw [if_neg h1, if_neg h2]; simp [h1, cmp_less a b]
theorem cmp_zero : ∀ {a b : List UInt8}, Lib.compareBytes a b = 0 → a = b
  | [], [], _ => rfl
  | [], _ :: _, h => by cases h
  | _ :: _, [], h => by cases h
  | x :: a, y :: b, h => by
    unfold Lib.compareBytes at h
    by_cases h1 : x < y
    · rw [if_pos h1] at h; cases h
    · by_cases h2 : y < x
      · rw [if_neg h1, if_pos h2] at h; cases h
      · have h3 : x = y := UInt8.le_antisymm (UInt8.not_lt.1 h2) (UInt8.not_lt.1 h1)
        rw [if_neg h1, if_neg h2] at h
        rw [h3, cmp_zero h]
def ordB (a b : ByteArray) : Int := Lib.compareBytes a.data.toList b.data.toList
def ordL (a b : List Int) : Int := Lib.compareBytes (u8s a) (u8s b)
def firstN : List Int → Int
  | [] => 0
  | n :: r => if n = 0 then firstN r else n
/-- What the program compares. -/
def cmpL (a b : St) : List Int := [Lib.compareInt a.lo b.lo, Lib.compareInt a.hi b.hi, ordL a.body b.body, Lib.compareInt a.size b.size, Lib.compareInt a.status b.status, ordB a.tags b.tags, Lib.compareInt a.gate b.gate, Lib.compareInt a.serial b.serial, ordL a.seal_ b.seal_]
def cmpN (a b : St) : Int := firstN (cmpL a b)
/-- What the specification compares. -/
def rcmpL (a b : St) : List Int := [a.lo - b.lo, a.hi - b.hi, ordL a.body b.body, a.size - b.size, a.status - b.status, ordB a.tags b.tags, a.gate - b.gate, a.serial - b.serial, ordL a.seal_ b.seal_]
def rcmpN (a b : St) : Int := firstN (rcmpL a b)
def alike (x y : Int) : Prop := (x < 0 ↔ y < 0) ∧ (0 < x ↔ 0 < y)
theorem alike.refl (x : Int) : alike x x := ⟨Iff.rfl, Iff.rfl⟩
theorem alike_int (x y : Int) : alike (x - y) (Lib.compareInt x y) := by
  unfold alike Lib.compareInt
  split
  · omega
  · split <;> omega
theorem alike_first : ∀ {l m : List Int}, l.length = m.length → (∀ p ∈ l.zip m, alike p.1 p.2) → alike (firstN l) (firstN m)
  | [], [], _, _ => alike.refl 0
  | [], _ :: _, h, _ => by cases h
  | _ :: _, [], h, _ => by cases h
  | x :: l, y :: m, h, k => by
    have hxy : alike x y := k (x, y) (by simp)
    have ih := alike_first (l := l) (m := m) (by simpa using h) (fun p hp => k p (by simp [hp]))
    unfold firstN
    unfold alike at hxy
    by_cases hx : x = 0
    · rw [if_pos hx, if_pos (by omega)]; exact ih
    · rw [if_neg hx, if_neg (by omega)]; exact hxy
theorem cmp_alike (a b : St) : alike (rcmpN a b) (cmpN a b) := by
  refine alike_first rfl fun p hp => ?_
  simp only [rcmpL, cmpL, List.zip_cons_cons, List.zip_nil_right, List.mem_cons, List.not_mem_nil, or_false] at hp
  rcases hp with rfl | rfl | rfl | rfl | rfl | rfl | rfl | rfl | rfl
  all_goals first | exact alike_int _ _ | exact alike.refl _
theorem first_neg : ∀ {l m : List Int}, l.length = m.length → (∀ p ∈ l.zip m, p.1 = - p.2) → firstN l = - firstN m
  | [], [], _, _ => rfl
  | [], _ :: _, h, _ => by cases h
  | _ :: _, [], h, _ => by cases h
  | x :: l, y :: m, h, k => by
    have hxy : x = - y := k (x, y) (by simp)
    have ih := first_neg (l := l) (m := m) (by simpa using h) (fun p hp => k p (by simp [hp]))
    unfold firstN
    by_cases hx : x = 0
    · rw [if_pos hx, if_pos (by omega)]; exact ih
    · rw [if_neg hx, if_neg (by omega)]; exact hxy
theorem int_anti (x y : Int) : Lib.compareInt x y = - Lib.compareInt y x := by
  unfold Lib.compareInt
  split <;> split <;> first | omega | (split <;> omega)
theorem cmpN_anti (a b : St) : cmpN b a = - cmpN a b := by
  refine first_neg rfl fun p hp => ?_
  simp only [cmpL, List.zip_cons_cons, List.zip_nil_right, List.mem_cons, List.not_mem_nil, or_false] at hp
  rcases hp with rfl | rfl | rfl | rfl | rfl | rfl | rfl | rfl | rfl
  all_goals first | exact int_anti _ _ | exact cmp_anti _ _

/-! ### Merging -/
def addAll (la lb : List Sp) : List Sp := lb.foldl Sp.rAdd la
def mrgB (b : ByteArray) (l : List Sp) (d : ByteArray) : ByteArray := l.foldl (fun d s => overB d s.1.toNat (b.extract s.1.toNat s.2.toNat)) d
theorem addAll_snoc (la lb : List Sp) (k : Nat) (h : k < lb.length) : addAll la (lb.take (k + 1)) = Sp.rAdd (addAll la (lb.take k)) lb[k] := by
  unfold addAll
  rw [List.take_succ_eq_append_getElem h, List.foldl_append]
  rfl
theorem mrgB_snoc (b : ByteArray) (l : List Sp) (d : ByteArray) (k : Nat) (h : k < l.length) : mrgB b (l.take (k + 1)) d = overB (mrgB b (l.take k) d) l[k].1.toNat (b.extract l[k].1.toNat l[k].2.toNat) := by
  unfold mrgB
  rw [List.take_succ_eq_append_getElem h, List.foldl_append]
  rfl
theorem addAll_in {n : Int} : ∀ (lb : List Sp) {la : List Sp}, SetIn la n → (∀ s ∈ lb, 0 ≤ s.1 ∧ s.2 ≤ n) → SetIn (addAll la lb) n ∧ ∀ x, Sp.mem (addAll la lb) x ↔ Sp.mem la x ∨ Sp.mem lb x
  | [], la, h, _ => ⟨h, fun x => ⟨.inl, fun k => k.elim id (fun k => (Sp.mem_nil x k).elim)⟩⟩
  | s :: lb, la, h, hb => by
    have hs := hb s (by simp)
    obtain ⟨k1, k2⟩ := rAdd_in (f := s.1) (t := s.2) h hs.1 hs.2
    obtain ⟨k3, k4⟩ := addAll_in lb k1 (fun t ht => hb t (by simp [ht]))
    refine ⟨k3, fun x => (k4 x).trans ?_⟩
    rw [k2, Sp.mem_cons, or_assoc]
theorem extract_sz {b : ByteArray} {i j : Nat} (h : j ≤ b.size) : (b.extract i j).size = j - i := by
  rw [← bts_length, bts_ext_at, List.length_take, List.length_drop, bts_length]; omega
theorem mrg_get (b : ByteArray) : ∀ (l : List Sp) (d : ByteArray), (∀ s ∈ l, 0 ≤ s.1 ∧ s.1 < s.2 ∧ s.2 ≤ b.size) → d.size = b.size → (mrgB b l d).size = b.size ∧
    ∀ k : Nat, k < b.size → (bts (mrgB b l d)).getD k 0 = if hasB l k then (bts b).getD k 0 else (bts d).getD k 0
  | [], d, _, hd => ⟨hd, fun k hk => by simp [hasB]; rfl⟩
  | s :: l, d, h, hd => by
    have hs := h s (by simp)
    have hx : (b.extract s.1.toNat s.2.toNat).size = s.2.toNat - s.1.toNat := extract_sz (by omega)
    have hp : s.1.toNat + (b.extract s.1.toNat s.2.toNat).size ≤ d.size := by omega
    obtain ⟨k1, k2⟩ := mrg_get b l (overB d s.1.toNat (b.extract s.1.toNat s.2.toNat)) (fun t ht => h t (by simp [ht])) (by rw [overB_size hp, hd])
    refine ⟨k1, fun k hk => ?_⟩
    show (bts (mrgB b l (overB d s.1.toNat (b.extract s.1.toNat s.2.toNat)))).getD k 0 = _
    rw [k2 k hk, overB_get hp (by omega)]
    have e : hasB (s :: l) k = (inB s k || hasB l k) := rfl
    rw [e]
    by_cases hl : hasB l k = true
    · rw [if_pos hl, if_pos (by rw [hl, Bool.or_true])]
    · rw [if_neg hl]
      have hl' : hasB l k = false := by simpa using hl
      rw [hl', Bool.or_false]
      by_cases hc : s.1.toNat ≤ k ∧ k < s.1.toNat + (b.extract s.1.toNat s.2.toNat).size
      · have hin : inB s k = true := by simp only [inB, Bool.and_eq_true, decide_eq_true_eq]; omega
        rw [if_pos hc, if_pos hin, bts_ext_at, List.getD_eq_getElem?_getD, List.getElem?_take, if_pos (by omega), List.getElem?_drop, show s.1.toNat + (k - s.1.toNat) = k by omega, ← List.getD_eq_getElem?_getD]
      · have hin : ¬ inB s k = true := by simp only [inB, Bool.and_eq_true, decide_eq_true_eq]; omega
        rw [if_neg hc, if_neg hin]
def sameN (a b : St) : Bool := decide (a.addr = b.addr) && decide (a.var = b.var) && decide (a.status = b.status) && decide (a.size = b.size) && decide (a.body = b.body) && decide (a.tags = b.tags)
def bestN (a b : En) (la lb : List Sp) : Res :=
  let x : Res := if cmpN a.st b.st < 0 then ⟨b, lb, 0⟩ else ⟨a, la, 0⟩
  if cmpN a.st b.st = 0 then { x with e := { x.e with soft := a.soft || b.soft } } else x
def mergeN (a b : En) (la lb : List Sp) : Res :=
  if ¬ (a.st.addr = b.st.addr ∧ a.st.var = b.st.var) then ⟨noEn, [], 5⟩
  else if sameN a.st b.st = false then bestN a b la lb
  else if a.whole = true then ⟨{ (bestN a b la lb).e with bytes := a.bytes, whole := true }, la, 0⟩
  else if b.whole = true then ⟨{ (bestN a b la lb).e with bytes := b.bytes, whole := true }, lb, 0⟩
  else { settleN (bestN a b la lb).e (addAll la lb) (mrgB b.bytes lb a.bytes) with n := 0 }
theorem best_is (a b : En) (la lb : List Sp) : ((bestN a b la lb).e.st = a.st ∧ (bestN a b la lb).e.bytes = a.bytes ∧ (bestN a b la lb).e.whole = a.whole ∧ (bestN a b la lb).l = la) ∨ ((bestN a b la lb).e.st = b.st ∧ (bestN a b la lb).e.bytes = b.bytes ∧ (bestN a b la lb).e.whole = b.whole ∧ (bestN a b la lb).l = lb) := by
  unfold bestN
  by_cases h1 : cmpN a.st b.st < 0
  · simp only [if_pos h1]
    rw [if_neg (by omega)]
    exact .inr ⟨rfl, rfl, rfl, rfl⟩
  · simp only [if_neg h1]
    split
    · exact .inl ⟨rfl, rfl, rfl, rfl⟩
    · exact .inl ⟨rfl, rfl, rfl, rfl⟩
theorem val_of {e f : En} {l : List Sp} (h : Val e l) (h1 : f.st = e.st) (h2 : f.bytes = e.bytes) (h3 : f.whole = e.whole) : Val f l := by
  refine ⟨by rw [h1]; exact h.rt, by rw [h1]; exact h.z0, by rw [h1]; exact h.sz, by rw [h1, h2]; exact h.bs, by rw [h1]; exact h.si, by rw [h2]; exact h.zr, by rw [h1, h3]; exact h.wh, by rw [h1, h2, h3]; exact h.dg⟩
theorem sameN_iff {a b : St} (h : sameN a b = true) : a.size = b.size ∧ a.body = b.body := by
  simp only [sameN, Bool.and_eq_true, decide_eq_true_eq] at h
  exact ⟨h.1.1.2, h.1.2⟩
theorem merge_val {a b : En} {la lb : List Sp} (ha : Val a la) (hb : Val b lb) (hn : (mergeN a b la lb).n = 0) : Val (mergeN a b la lb).e (mergeN a b la lb).l := by
  have hbest : Val (bestN a b la lb).e (bestN a b la lb).l := by
    rcases best_is a b la lb with ⟨h1, h2, h3, h4⟩ | ⟨h1, h2, h3, h4⟩
    · rw [h4]; exact val_of ha h1 h2 h3
    · rw [h4]; exact val_of hb h1 h2 h3
  unfold mergeN at hn ⊢
  by_cases c1 : a.st.addr = b.st.addr ∧ a.st.var = b.st.var
  · rw [if_neg (fun h => h c1)] at hn ⊢
    by_cases c2 : sameN a.st b.st = false
    · rw [if_pos c2] at hn ⊢; exact hbest
    · rw [if_neg c2] at hn ⊢
      obtain ⟨s1, s2⟩ := sameN_iff (by simpa using c2)
      have hz : (bestN a b la lb).e.st.size = a.st.size ∧ (bestN a b la lb).e.st.body = a.st.body := by
        rcases best_is a b la lb with ⟨h1, _⟩ | ⟨h1, _⟩
        · rw [h1]; exact ⟨rfl, rfl⟩
        · rw [h1]; exact ⟨s1.symm, s2.symm⟩
      by_cases c3 : a.whole = true
      · rw [if_pos c3] at hn ⊢
        have hf := ha.wh
        rw [c3] at hf
        refine ⟨hbest.rt, hbest.z0, hbest.sz, ?_, ?_, ha.zr, ?_, fun _ => ?_⟩
        · show (a.bytes.size : Int) = _; rw [hz.1]; exact ha.bs
        · show SetIn la _; rw [hz.1]; exact ha.si
        · show true = fullB la (bestN a b la lb).e.st.size; rw [hz.1]; exact hf
        · show _ = (bestN a b la lb).e.st.body; rw [hz.2]; exact ha.dg c3
      · rw [if_neg c3] at hn ⊢
        by_cases c4 : b.whole = true
        · rw [if_pos c4] at hn ⊢
          have hf := hb.wh
          rw [c4] at hf
          refine ⟨hbest.rt, hbest.z0, hbest.sz, ?_, ?_, hb.zr, ?_, fun _ => ?_⟩
          · show (b.bytes.size : Int) = _; rw [hz.1, s1]; exact hb.bs
          · show SetIn lb _; rw [hz.1, s1]; exact hb.si
          · show true = fullB lb (bestN a b la lb).e.st.size; rw [hz.1, s1]; exact hf
          · show _ = (bestN a b la lb).e.st.body; rw [hz.2, s2]; exact hb.dg c4
        · rw [if_neg c4] at hn ⊢
          have ha3 : a.whole = false := by simpa using c3
          have hb3 : b.whole = false := by simpa using c4
          have hbs : ∀ s ∈ lb, 0 ≤ s.1 ∧ s.1 < s.2 ∧ s.2 ≤ b.bytes.size := fun s hs => by
            have h1 := hb.si.1.2 s hs
            have h2 := hb.si.2 s hs
            have h3 := hb.bs
            omega
          have hd : a.bytes.size = b.bytes.size := by have h1 := ha.bs; have h2 := hb.bs; omega
          obtain ⟨m1, m2⟩ := mrg_get b.bytes lb a.bytes hbs hd
          obtain ⟨k1, k2⟩ := addAll_in lb ha.si (fun s hs => by have h1 := hb.si.2 s hs; omega)
          refine settle_val hbest.rt (by rw [hz.1]; exact ha.pos ha3) hbest.sz ?_ (by rw [m1, hz.1]; have := hb.bs; omega) (by rw [hz.1]; exact k1) fun k hk => ?_
          · rcases best_is a b la lb with ⟨_, _, h3, _⟩ | ⟨_, _, h3, _⟩
            · rw [h3]; exact ha3
            · rw [h3]; exact hb3
          · rw [m1] at hk
            rw [m2 k hk, k2]
            by_cases hh : hasB lb k = true
            · exact .inr (.inr (hasB_iff.1 hh))
            · rw [if_neg hh]
              rcases ha.zr k (by omega) with q | q
              · exact .inl q
              · exact .inr (.inl q)
  · rw [if_pos c1] at hn
    exact absurd hn (by decide)
end Go.Proofs.YtiacnoejlmaplaaGreatDoor

namespace Go.Proofs.YtiacnoejlmaplaaGreatDoor
open Go.RowKit Go.Shelf
open Go.Proofs
open Go.Proofs.Sp (Sp)

theorem Val.len {e : En} {l : List Sp} (h : Val e l) : l.length ≤ 65536 := by
  have h1 := h.si.len h.z0
  have h2 := h.sz
  omega
theorem settle_st (e : En) (l : List Sp) (b : ByteArray) : (settleN e l b).e.st = e.st ∧ (settleN e l b).e.soft = e.soft := by
  unfold settleN
  split
  · split <;> exact ⟨rfl, rfl⟩
  · exact ⟨rfl, rfl⟩
theorem put_st (e : En) (l : List Sp) (f : Int) (m : ByteArray) : (putN e l f m).e.st = e.st ∧ (putN e l f m).e.soft = e.soft := by
  unfold putN
  split
  · exact ⟨rfl, rfl⟩
  · split
    · exact ⟨rfl, rfl⟩
    · exact settle_st _ _ _
def runN (s : St) (ps : List (Int × ByteArray)) : Res := ps.foldl (fun r p => putN r.e r.l p.1 p.2) ⟨emptyEn s false, [], 0⟩
theorem runN_snoc (s : St) (ps : List (Int × ByteArray)) (k : Nat) (h : k < ps.length) : runN s (ps.take (k + 1)) = putN (runN s (ps.take k)).e (runN s (ps.take k)).l ps[k].1 ps[k].2 := by
  unfold runN
  rw [List.take_succ_eq_append_getElem h, List.foldl_append]
  rfl
theorem run_fold_val : ∀ (ps : List (Int × ByteArray)) (r : Res), Val r.e r.l → Val (ps.foldl (fun r p => putN r.e r.l p.1 p.2) r).e (ps.foldl (fun r p => putN r.e r.l p.1 p.2) r).l ∧ (ps.foldl (fun r p => putN r.e r.l p.1 p.2) r).e.st = r.e.st
  | [], r, h => ⟨h, rfl⟩
  | p :: ps, r, h => by
    obtain ⟨k1, k2⟩ := run_fold_val ps (putN r.e r.l p.1 p.2) (put_val h p.1 p.2)
    exact ⟨k1, k2.trans (put_st _ _ _ _).1⟩
theorem run_val (s : St) (ps : List (Int × ByteArray)) (h : Val (emptyEn s false) []) : Val (runN s ps).e (runN s ps).l ∧ (runN s ps).e.st = s := run_fold_val ps _ h
def hadN (ps : List (Int × ByteArray)) : List Sp := ps.foldl (fun h p => Sp.rAdd h (p.1, p.1 + p.2.size)) []
theorem hadN_snoc (ps : List (Int × ByteArray)) (k : Nat) (h : k < ps.length) : hadN (ps.take (k + 1)) = Sp.rAdd (hadN (ps.take k)) (ps[k].1, ps[k].1 + ps[k].2.size) := by
  unfold hadN
  rw [List.take_succ_eq_append_getElem h, List.foldl_append]
  rfl
/-- A piece is a part of the bytes. -/
def PartOf (w : ByteArray) (p : Int × ByteArray) : Prop := 0 ≤ p.1 ∧ p.1 + p.2.size ≤ w.size ∧ w.extract p.1.toNat (p.1.toNat + p.2.size) = p.2
theorem part_get {w : ByteArray} {p : Int × ByteArray} (h : PartOf w p) {k : Nat} (h1 : p.1.toNat ≤ k) (h2 : k < p.1.toNat + p.2.size) : (bts p.2).getD (k - p.1.toNat) 0 = (bts w).getD k 0 := by
  have e := h.2.2
  rw [← e, bts_ext_at, List.getD_eq_getElem?_getD, List.getElem?_take, if_pos (by omega), List.getElem?_drop, show p.1.toNat + (k - p.1.toNat) = k by omega, ← List.getD_eq_getElem?_getD]
structure Along (s : St) (w : ByteArray) (r : Res) (h : List Sp) : Prop where
  val : Val r.e r.l
  st : r.e.st = s
  si : SetIn h s.size
  mem : ∀ x, 0 ≤ x → x < s.size → (Sp.mem r.l x ↔ Sp.mem h x)
  by_ : ∀ k : Nat, (k : Int) < s.size → Sp.mem r.l k → (bts r.e.bytes).getD k 0 = (bts w).getD k 0
theorem along_put {s : St} {w : ByteArray} {r : Res} {h : List Sp} {p : Int × ByteArray} (hd : Wire.digest 34 [bts w] = s.body) (hw : (w.size : Int) = s.size) (hp : PartOf w p) (a : Along s w r h) :
    Along s w (putN r.e r.l p.1 p.2) (Sp.rAdd h (p.1, p.1 + p.2.size)) := by
  obtain ⟨p0, p1, p2⟩ := hp
  obtain ⟨k1, k2⟩ := rAdd_in (f := p.1) (t := p.1 + p.2.size) a.si p0 (by omega)
  have hv := put_val a.val p.1 p.2
  have hst := (put_st r.e r.l p.1 p.2).1.trans a.st
  have hsz : r.e.st.size = s.size := by rw [a.st]
  have hbs := a.val.bs
  by_cases hwh : r.e.whole = true
  · have e : putN r.e r.l p.1 p.2 = ⟨r.e, r.l, 4⟩ := by unfold putN; rw [if_pos hwh]
    have hf := a.val.wh
    rw [hwh] at hf
    have hf2 := fullB_iff.1 hf.symm
    rw [e] at hv hst ⊢
    refine ⟨hv, hst, k1, fun x x0 x1 => ?_, a.by_⟩
    have hm : Sp.mem r.l x := hf2 x x0 (by omega)
    exact ⟨fun _ => (k2 x).2 (.inl ((a.mem x x0 x1).1 hm)), fun _ => hm⟩
  · have hwh' : r.e.whole = false := by simpa using hwh
    have hc : ¬ (p.1 < 0 ∨ r.e.st.size < p.1 ∨ r.e.st.size < p.1 + p.2.size) := by omega
    have e : putN r.e r.l p.1 p.2 = settleN r.e (Sp.rAdd r.l (p.1, p.1 + p.2.size)) (overB r.e.bytes p.1.toNat p.2) := by
      unfold putN; rw [if_neg hwh, if_neg hc]
    obtain ⟨k3, k4⟩ := rAdd_in (f := p.1) (t := p.1 + p.2.size) a.val.si p0 (by omega)
    have hpp : p.1.toNat + p.2.size ≤ r.e.bytes.size := by omega
    have hmm : ∀ x, 0 ≤ x → x < s.size → (Sp.mem (Sp.rAdd r.l (p.1, p.1 + p.2.size)) x ↔ Sp.mem (Sp.rAdd h (p.1, p.1 + p.2.size)) x) := fun x x0 x1 => by
      rw [k4, k2, a.mem x x0 x1]
    have hbb : ∀ k : Nat, (k : Int) < s.size → Sp.mem (Sp.rAdd r.l (p.1, p.1 + p.2.size)) k → (bts (overB r.e.bytes p.1.toNat p.2)).getD k 0 = (bts w).getD k 0 := fun k hk hm => by
      rw [overB_get hpp (by omega)]
      by_cases hin : p.1.toNat ≤ k ∧ k < p.1.toNat + p.2.size
      · rw [if_pos hin]; exact part_get ⟨p0, p1, p2⟩ hin.1 hin.2
      · rw [if_neg hin]
        refine a.by_ k hk ?_
        rcases (k4 k).1 hm with q | q
        · exact q
        · exfalso; apply hin; omega
    have hno : ∀ b : Bool, fullB (Sp.rAdd r.l (p.1, p.1 + p.2.size)) r.e.st.size = true → Wire.digest 34 [bts (overB r.e.bytes p.1.toNat p.2)] = r.e.st.body := fun _ hf => by
      have hf2 := fullB_iff.1 hf
      have : overB r.e.bytes p.1.toNat p.2 = w := bts_ext (by rw [overB_size hpp]; omega) fun k hk => by
        rw [overB_size hpp] at hk
        exact hbb k (by omega) (hf2 k (by omega) (by omega))
      rw [this, a.st]; exact hd
    rw [e] at hv hst ⊢
    unfold settleN at hv hst ⊢
    by_cases hf : fullB (Sp.rAdd r.l (p.1, p.1 + p.2.size)) r.e.st.size = true
    · rw [if_pos hf, if_pos (hno true hf)] at hv hst ⊢
      exact ⟨hv, hst, k1, hmm, hbb⟩
    · rw [if_neg hf] at hv hst ⊢
      exact ⟨hv, hst, k1, hmm, hbb⟩
theorem along_start {s : St} {w : ByteArray} (h : Val (emptyEn s false) []) : Along s w ⟨emptyEn s false, [], 0⟩ [] :=
  ⟨h, rfl, SetIn.nil _, fun _ _ _ => Iff.rfl, fun k _ hm => (Sp.mem_nil _ hm).elim⟩
theorem along_fold {s : St} {w : ByteArray} (hd : Wire.digest 34 [bts w] = s.body) (hw : (w.size : Int) = s.size) : ∀ (ps : List (Int × ByteArray)) (r : Res) (h : List Sp), (∀ p ∈ ps, PartOf w p) → Along s w r h →
    Along s w (ps.foldl (fun r p => putN r.e r.l p.1 p.2) r) (ps.foldl (fun h p => Sp.rAdd h (p.1, p.1 + p.2.size)) h)
  | [], r, h, _, a => a
  | p :: ps, r, h, hp, a => along_fold hd hw ps _ _ (fun q hq => hp q (by simp [hq])) (along_put hd hw (hp p (by simp)) a)
/-- T1: what is covered is whole, and then the bytes are the right ones. -/
theorem run_whole {s : St} {w : ByteArray} (hv : Val (emptyEn s false) []) (hd : Wire.digest 34 [bts w] = s.body) (hw : (w.size : Int) = s.size) (ps : List (Int × ByteArray)) (hp : ∀ p ∈ ps, PartOf w p) :
    SetIn (hadN ps) s.size ∧ fullB (hadN ps) s.size = (runN s ps).e.whole ∧ ((runN s ps).e.whole = true → (runN s ps).e.bytes = w) := by
  have a : Along s w (runN s ps) (hadN ps) := along_fold hd hw ps _ _ hp (along_start hv)
  have hwh := a.val.wh
  have hbs := a.val.bs
  rw [a.st] at hwh hbs
  refine ⟨a.si, ?_, fun h => ?_⟩
  · rw [hwh, Bool.eq_iff_iff, fullB_iff, fullB_iff]
    exact ⟨fun h x x0 x1 => (a.mem x x0 x1).2 (h x x0 x1), fun h x x0 x1 => (a.mem x x0 x1).1 (h x x0 x1)⟩
  · rw [hwh] at h
    have hf := fullB_iff.1 h
    exact bts_ext (by omega) fun k hk => a.by_ k (by omega) (hf k (by omega) (by omega))

/-! ### The specification's Missing and Covers -/
theorem covers_full {l : List Sp} {n : Int} {b : Bool} (h : coversB l (0, n) b) : b = fullB l n := by
  rw [Bool.eq_iff_iff, fullB_iff]
  exact h
end Go.Proofs.YtiacnoejlmaplaaGreatDoor
