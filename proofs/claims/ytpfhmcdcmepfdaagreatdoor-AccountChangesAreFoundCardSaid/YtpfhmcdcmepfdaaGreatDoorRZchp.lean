
import Derived.WalkKit
import Derived.WalkSpells
import Derived.WalkLawsBesides
import Derived.Deep.QuietTactic
import Derived.BigQuiet
import Derived.Test.YtpfhmcdcmepfdaaGreatDoorRKq
import Derived.Test.YtpfhmcdcmepfdaaGreatDoorRJn
import Derived.Test.YtpfhmcdcmepfdaaGreatDoorTie
import Derived.Test.YtpfhmcdcmepfdaaGreatDoorCards
import Derived.ProofKit
import Derived.Lay
import Derived.ChangeMaps5
import Derived.SevenTiedAt
import Derived.Stop.Joined
set_option maxRecDepth 100000
set_option maxHeartbeats 64000000
set_option linter.unusedVariables false
set_option linter.unusedSimpArgs false
namespace Go.Proofs.YtpfhmcdcmepfdaaGreatDoor
open Go.RowKit
open Go.Proofs
section
variable {P : Program} {id : Nat} {Q : Exit → Act → World → Prop} {a0 : Act} {w0 : World} {l : List Oper}
theorem wp_region_stepsC (n : Nat) (hn : l.length = n) (ks : List Nat) (G : Nat → (Nat → Value) → World → Prop) (L : Nat → Nat → Value → World → Prop) (hm : P.follows .mixedOrders = true) (hB : allB l = true) (hC : chainW l ks = true) (hN : nodupW ks = true)
  (hG0 : G 0 (xsOf l a0) { w0 with drawn := w0.drawn + 1 })
  (hGx : ∀ r xs i v w, i ∉ ks → G r xs w → G r (updAt xs i v) w)
  (hGe : ∀ r xs w w', G r xs w → Ext w w' → G r xs w')
  (hLe : ∀ i r v w w', L i r v w → Ext w w' → L i r v w')
  (hread : ∀ i, i < n → i ∉ ks → ∀ o, l[i]? = some o → ∀ r xs w, r ≤ ks.length → G r xs w → (∀ j, j ∈ depsOf l i → j ∉ ks → L j r (xs j) w) → (∀ t, t < ks.length → ks.getD t 0 ∈ depsOf l i → t < r) → (∃ S : Nat → Prop, ¬ S i ∧ (∀ t, t < r → S (ks.getD t 0)) ∧ ∀ k, k < n → S k → ∀ j, j ∈ depsOf l k → S j) → ∀ Q' : Exit → Act → World → Prop, (∀ v w', Ext w w' → L i r v w' → Q' .normal ((fillAt l a0 xs n).put o.dst v) w') → wpList P l.toArray Q' [o] (fillAt l a0 xs n) w)
  (hwrite : ∀ t, t < ks.length → ks.getD t 0 < n → ∀ o, l[ks.getD t 0]? = some o → ∀ xs w, G t xs w → (∀ j, j ∈ depsOf l (ks.getD t 0) → j ∉ ks → L j t (xs j) w) → ∀ Q' : Exit → Act → World → Prop, (∀ v w', (∀ i u, L i t u w → L i (t + 1) u w') → G (t + 1) (updAt xs (ks.getD t 0) v) w' → Q' .normal ((fillAt l a0 xs n).put o.dst v) w') → wpList P l.toArray Q' [o] (fillAt l a0 xs n) w)
  (hend : (∀ t, t < ks.length → ks.getD t 0 < n) → ∀ xs w, G ks.length xs w → (∀ i, i < n → i ∉ ks → L i ks.length (xs i) w) → Q .normal (fillAt l a0 xs n) w) (hK : (ks.all fun k => decide (k < n)) = true) : (Code.region id l.toArray true).wp P Q a0 w0 := by
 subst hn
 have hkn : ∀ t, t < ks.length → ks.getD t 0 < l.length := fun t ht => by
  have := List.all_eq_true.1 hK (ks.getD t 0) (by rw [List.getD_eq_getElem?_getD]; simp [ht])
  simpa using this
 have hin : ∀ t, t < ks.length → ks.getD t 0 ∈ ks := fun t ht => by rw [List.getD_eq_getElem?_getD]; simp [ht]
 have hget : ∀ k, k ∈ ks → ∃ t, t < ks.length ∧ ks.getD t 0 = k := fun k hk => by
  obtain ⟨t, ht, rfl⟩ := List.getElem_of_mem hk
  exact ⟨t, ht, by rw [List.getD_eq_getElem?_getD]; simp [ht]⟩
 have hnd : ∀ t s, t < ks.length → s < ks.length → ks.getD t 0 = ks.getD s 0 → t = s := fun t s ht hs e => by
  simp only [nodupW, List.all_eq_true, List.mem_range, Bool.or_eq_true, decide_eq_true_eq] at hN
  rcases hN t ht s hs with h | h
  ·exact h
  ·exact absurd e h
 have hch : ∀ t, t < ks.length → 0 < t → ks.getD (t - 1) 0 ∈ depsOf l (ks.getD t 0) := fun t ht h0 => by
  simp only [chainW, List.all_eq_true, List.mem_range, Bool.or_eq_true, decide_eq_true_eq] at hC
  rcases hC t ht with h | h
  ·omega
  ·simpa using h
 refine wp_region_glob0 (fun S xs w => ∃ r, r ≤ ks.length ∧ (∀ t, t < ks.length → (S (ks.getD t 0) ↔ t < r)) ∧ G r xs w ∧ (∀ i, i < l.length → i ∉ ks → S i → L i r (xs i) w) ∧ ∀ k, k < l.length → S k → ∀ j, j ∈ depsOf l k → S j) hm hB ?_ ?_ ?_ ?_
 ·exact ⟨0, Nat.zero_le _, fun t ht => ⟨fun h => h.elim, fun h => absurd h (by omega)⟩, hG0, fun i _ _ h => h.elim, fun _ _ h => h.elim⟩
 ·rintro S S' xs w hS ⟨r, h1, h2, h3, h4, h5⟩
  have hdl' : ∀ i, i < l.length → ∀ j, j ∈ depsOf l i → j < l.length := fun i hi j hj => by
   simp only [allB, Bool.and_eq_true, decide_eq_true_eq, List.all_eq_true, List.mem_range] at hB
   have := hB.1 i hi j hj
   omega
  exact ⟨r, h1, fun t ht => (hS _ (hkn t ht)).symm.trans (h2 t ht), h3, fun i hi hk hs => h4 i hi hk ((hS i hi).2 hs), fun k hk hs j hj => (hS j (hdl' k hk j hj)).1 (h5 k hk ((hS k hk).2 hs) j hj)⟩
 ·rintro i hi o ho S xs w ⟨r, h1, h2, h3, h4, h5⟩ hns hd Q' hQ
  have hcl : ∀ k, k < l.length → (k = i ∨ S k) → ∀ j, j ∈ depsOf l k → j = i ∨ S j := fun k hk hs j hj => by
   rcases hs with rfl | h
   ·exact .inr (hd j hj)
   ·exact .inr (h5 k hk h j hj)
  have hdl : ∀ j, j ∈ depsOf l i → j < l.length := fun j hj => by
   simp only [allB, Bool.and_eq_true, decide_eq_true_eq, List.all_eq_true, List.mem_range] at hB
   have := hB.1 i hi j hj
   omega
  by_cases hik : i ∈ ks
  ·obtain ⟨t, ht, rfl⟩ := hget i hik
   have hrt : r = t := by
    have a1 : ¬ t < r := fun h => hns ((h2 t ht).2 h)
    by_cases h0 : t = 0
    ·omega
    ·have a2 := (h2 (t - 1) (by omega)).1 (hd _ (hch t ht (by omega)))
     omega
   subst hrt
   refine hwrite r ht hi o ho xs w h3 (fun j hj hjk => h4 j (hdl j hj) hjk (hd j hj)) Q' (fun v w' hL hG => hQ v w' ?_)
   refine ⟨r + 1, ht, fun t' ht' => ?_, hG, fun i' hi' hk' hs' => ?_, hcl⟩
   ·by_cases e : t' = r
    ·subst e; exact ⟨fun _ => by omega, fun _ => .inl rfl⟩
    ·have ne : ks.getD t' 0 ≠ ks.getD r 0 := fun h => e (hnd _ _ ht' ht h)
     constructor
     ·rintro (h | h)
      ·exact absurd h ne
      ·have := (h2 t' ht').1 h; omega
     ·intro h; exact .inr ((h2 t' ht').2 (by omega))
   ·have ne : i' ≠ ks.getD r 0 := fun h => hk' (h ▸ hin r ht)
    rcases hs' with h | h
    ·exact absurd h ne
    ·rw [updAt_ne _ _ ne]
     exact hL i' _ (h4 i' hi' hk' h)
  ·refine hread i hi hik o ho r xs w h1 h3 (fun j hj hjk => h4 j (hdl j hj) hjk (hd j hj)) (fun t ht hj => (h2 t ht).1 (hd _ hj)) ⟨S, hns, fun t ht => (h2 t (by omega)).2 ht, fun k hk hs j hj => h5 k hk hs j hj⟩ Q' (fun v w' hx hL => hQ v w' ?_)
   refine ⟨r, h1, fun t ht => ?_, hGx r xs i v w' hik (hGe r xs w w' h3 hx), fun i' hi' hk' hs' => ?_, hcl⟩
   ·have ne : ks.getD t 0 ≠ i := fun h => hik (h ▸ hin t ht)
    constructor
    ·rintro (h | h)
     ·exact absurd h ne
     ·exact (h2 t ht).1 h
    ·intro h; exact .inr ((h2 t ht).2 h)
   ·by_cases e : i' = i
    ·subst e; rw [updAt_self]; exact hL
    ·rw [updAt_ne _ _ e]
     rcases hs' with h | h
     ·exact absurd h e
     ·exact hLe i' r _ _ _ (h4 i' hi' hk' h) hx
 ·rintro S xs w ⟨r, h1, h2, h3, h4, _⟩ hall
  have hr : r = ks.length := by
   by_cases h0 : ks.length = 0
   ·omega
   ·have := (h2 (ks.length - 1) (by omega)).1 (hall _ (hkn _ (by omega)))
    omega
  subst hr
  exact hend hkn xs w h3 (fun i hi hk => h4 i hi hk (hall i hi))
end
end Go.Proofs.YtpfhmcdcmepfdaaGreatDoor

namespace Go.Proofs.YtpfhmcdcmepfdaaGreatDoor
open Go.RowKit Go.Shelf
open Go.Proofs
theorem ln_set0 (x : Ln) (v : Int) : lnL { x with site := v } = (lnL x).set 0 (.int .i64 v) := by kernel_rfl
theorem ln_set1 (x : Ln) (v : Int) : lnL { x with kind := v } = (lnL x).set 1 (.int .i64 v) := by kernel_rfl
abbrev lnUntil (x : Ln) (v : Int) : Ln := { x with le := { x.le with until_ := v } }
abbrev lnEpoch (x : Ln) (v : Int) : Ln := { x with cf := { x.cf with epoch := v } }
theorem ln_set41 (x : Ln) (v : Int) : lnL { x with le := { x.le with until_ := v } } = (lnL x).set 41 (.int .i64 v) := by kernel_rfl
theorem ln_set3 (x : Ln) (v : Int) : lnL { x with cf := { x.cf with epoch := v } } = (lnL x).set 3 (.int .i64 v) := by kernel_rfl
theorem reads_setAt {w : World} {B b off : Nat} {l : List Ln} (h : Reads 59 lnL w B (some ⟨b, off, none⟩) l) (k : Nat) (hk : k < l.length) (o : Nat) (ho : o < 59) (v : Value) (x' : Ln) (hx : lnL x' = (lnL l[k]).set o v) :
  Reads 59 lnL (w.setCell ⟨b, off + k * 59 + o, none⟩ v) B (some ⟨b, off, none⟩) (l.set k x') := fun h0 => by
 obtain ⟨b', off', e, hb, h3⟩ := h (by simpa using h0)
 injection e with e
 injection e with e1 e2
 subst e1 e2
 refine ⟨b, off, rfl, hb, ?_⟩
 intro i hi j v' hv
 have hi' : i < l.length := by simpa using hi
 have hj : j < 59 := by
  have := (List.getElem?_eq_some_iff.1 hv).1
  rwa [lnE.len] at this
 rw [set_cell_if]
 by_cases c : i = k
 ·subst c
  rw [List.getElem_set_self, hx, List.getElem?_set] at hv
  by_cases c2 : o = j
  ·subst c2
   rw [if_pos rfl, lnE.len, if_pos ho] at hv
   injection hv with hv
   subst hv
   have hold := h3 i hi' o _ (List.getElem?_eq_getElem (by rw [lnE.len]; exact ho))
   rw [if_pos ⟨rfl, rfl⟩, hold]
   rfl
  ·rw [if_neg c2] at hv
   rw [if_neg (by omega)]
   exact h3 i hi' j v' hv
 ·rw [List.getElem_set_ne (Ne.symm c)] at hv
  rw [if_neg (by omega)]
  exact h3 i hi' j v' hv
theorem sel_eql {a b : List Int} (ha : DgOk a) (hb : DgOk b) (W : World) : (binOp .eql 30 (.agg (dgC a)) (.agg (dgC b))).run Tryz.prog W = .ok (.bool (decide (a = b))) W := by
 have h := dg_eqIn 9998 30 seal_under ha hb W
 rw [run_eql_struct, h]
 rfl
structure XOk (n : Int) (sl : List Int) (X : Rp) : Prop where
 ok : RpOk X
 len : X.lines.length ≤ 10
 ep : X.epoch = n
 nm : X.name = epName (tEp n)
 ck : okClk ⟨X.lo, X.hi⟩ = true
 hh : X.hi < 1099511627776
 se : X.serial = 1
 sl_ : X.sl = sl
theorem rp_lens_eq (s : Rp) {l l' : List Ln} (h : l.length = l'.length) : rpC { s with lines := l } = rpC { s with lines := l' } := by
 unfold rpC rpL
 rw [show ({ s with lines := l } : Rp).lines.length = ({ s with lines := l' } : Rp).lines.length from h]
theorem rp_set18 (s : Rp) (v : Int) : (rpC s).setIfInBounds 18 (.int .i64 v) = rpC { s with hi := v } := by kernel_rfl
theorem rpOk_lines {r : Rp} (h : RpOk r) (A : Option Addr) (c : Nat) (L : List Ln) (hL : ∀ x ∈ L, LnOk x) : RpOk { r with LA := A, lc := c, lines := L } := ⟨h.name, h.sl, hL, h.ints⟩
theorem lnOk_site {x : Ln} (h : LnOk x) {v : Int} (hv : i64 v) : LnOk { x with site := v } := ⟨h.cf, h.le, by
 intro y hy
 simp only [List.mem_cons, List.not_mem_nil, or_false] at hy
 rcases hy with rfl | rfl
 ·exact hv
 ·exact h.ints _ (by simp)⟩
theorem lnOk_kind {x : Ln} (h : LnOk x) {v : Int} (hv : i64 v) : LnOk { x with kind := v } := ⟨h.cf, h.le, by
 intro y hy
 simp only [List.mem_cons, List.not_mem_nil, or_false] at hy
 rcases hy with rfl | rfl
 ·exact h.ints _ (by simp)
 ·exact hv⟩
theorem lnOk_until {x : Ln} (h : LnOk x) {v : Int} (hv : i64 v) : LnOk { x with le := { x.le with until_ := v } } := ⟨h.cf, ⟨h.le.sl, by
 intro y hy
 simp only [leInts, List.mem_cons, List.not_mem_nil, or_false] at hy
 rcases hy with rfl | rfl | rfl | rfl
 ·exact h.le.ints _ (by simp [leInts])
 ·exact h.le.ints _ (by simp [leInts])
 ·exact hv
 ·exact h.le.ints _ (by simp [leInts])⟩, h.ints⟩
theorem lnOk_epoch {x : Ln} (h : LnOk x) {v : Int} (hv : i64 v) : LnOk { x with cf := { x.cf with epoch := v } } := ⟨⟨h.cf.name, h.cf.sl, by
 intro y hy
 simp only [cfInts, List.mem_cons, List.not_mem_nil, or_false] at hy
 rcases hy with rfl | rfl | rfl | rfl | rfl
 ·exact h.cf.ints _ (by simp [cfInts])
 ·exact hv
 ·exact h.cf.ints _ (by simp [cfInts])
 ·exact h.cf.ints _ (by simp [cfInts])
 ·exact h.cf.ints _ (by simp [cfInts])⟩, h.le, h.ints⟩
theorem mem_set_ok {l : List Ln} (h : ∀ x ∈ l, LnOk x) (k : Nat) {x' : Ln} (hx : LnOk x') : ∀ x ∈ l.set k x', LnOk x := by
 intro x hm
 rcases List.mem_or_eq_of_mem_set hm with k | rfl
 ·exact h x k
 ·exact hx
theorem small_tLn {n : Int} {p : Clk} {l : List Dd} {i : Nat} (h : DdsOk l) (h0 : 1 ≤ n) (h1 : n ≤ 65536) (hi : i < 10) :
  (0 ≤ (tLn (tEp n) p l i).site ∧ (tLn (tEp n) p l i).site ≤ 65536) ∧ (0 ≤ (tLn (tEp n) p l i).kind ∧ (tLn (tEp n) p l i).kind ≤ 65536) ∧ (0 ≤ (tLn (tEp n) p l i).le.until_ ∧ (tLn (tEp n) p l i).le.until_ ≤ 65536) ∧ (0 ≤ (tLn (tEp n) p l i).cf.epoch ∧ (tLn (tEp n) p l i).cf.epoch ≤ 65536) := by
 have u0 := h.lo i
 have u1 := h.hi i
 unfold tLn
 split
 ·refine ⟨⟨?_, ?_⟩, ⟨?_, ?_⟩, ⟨?_, ?_⟩, ⟨?_, ?_⟩⟩
  ·show (0 : Int) ≤ i; omega
  ·show (i : Int) ≤ 65536; omega
  ·show (0 : Int) ≤ 1; omega
  ·show (1 : Int) ≤ 65536; omega
  ·show (0 : Int) ≤ 0; omega
  ·show (0 : Int) ≤ 65536; omega
  ·show 0 ≤ n; omega
  ·show n ≤ 65536; omega
 ·refine ⟨⟨?_, ?_⟩, ⟨?_, ?_⟩, ⟨?_, ?_⟩, ⟨?_, ?_⟩⟩
  ·show (0 : Int) ≤ i; omega
  ·show (i : Int) ≤ 65536; omega
  ·show (0 : Int) ≤ if (ddAt l i).until_ ≤ p.lo then 2 else 3
   split <;> omega
  ·show (if (ddAt l i).until_ ≤ p.lo then (2 : Int) else 3) ≤ 65536
   split <;> omega
  ·show 0 ≤ (if 0 < (ddAt l i).until_ then tLe n l i else noLe).until_
   split
   ·exact u0
   ·show (0 : Int) ≤ 0; omega
  ·show (if 0 < (ddAt l i).until_ then tLe n l i else noLe).until_ ≤ 65536
   split
   ·show (ddAt l i).until_ ≤ 65536; omega
   ·show (0 : Int) ≤ 65536; omega
  ·show (0 : Int) ≤ 0; omega
  ·show (0 : Int) ≤ 65536; omega
def DelG (W2 W4 : World) (gx base gl c7 : Nat) (R : Rp) (L K : List Ln) (r : Nat) (xs : Nat → Value) (w : World) : Prop :=
 Ext W2 w ∧ (r = 0 → Ext W4 w) ∧ (r ≤ 1 → RowAt w gx (rpC { R with LA := some ⟨gl, 0, none⟩, lc := c7, lines := L })) ∧
 (r = 1 → base ≤ w.heap.size ∧ ∃ A c l, xs 9 = .slice A l.length c ∧ Hid (l = K) ∧ OwnsLn base w A c l) ∧
 (r = 2 → ∃ A c, RowAt w gx (rpC { R with LA := A, lc := c, lines := K }) ∧ OwnsLn base w A c K)
theorem delG_x {W2 W4 : World} {gx base gl c7 : Nat} {R : Rp} {L K : List Ln} (r : Nat) (xs : Nat → Value) (i : Nat) (v : Value) (w : World) (hi : i ∉ [9, 11]) (h : DelG W2 W4 gx base gl c7 R L K r xs w) : DelG W2 W4 gx base gl c7 R L K r (updAt xs i v) w := by
 have n9 : 9 ≠ i := fun h => hi (by simp [← h])
 obtain ⟨a, b, c, d, e⟩ := h
 exact ⟨a, b, c, by rw [updAt_ne _ _ n9]; exact d, e⟩
theorem delG_e {W2 W4 : World} {gx base gl c7 : Nat} {R : Rp} {L K : List Ln} (r : Nat) (xs : Nat → Value) (w w' : World) (h : DelG W2 W4 gx base gl c7 R L K r xs w) (hx : Ext w w') : DelG W2 W4 gx base gl c7 R L K r xs w' := by
 obtain ⟨a, b, c, d, e⟩ := h
 refine ⟨a.trans hx, fun h => (b h).trans hx, fun h => (c h).ext hx, fun h => ?_, fun h => ?_⟩
 ·obtain ⟨hs, A, cc, l, h1, h2, h3⟩ := d h
  exact ⟨by have := hx.size; omega, A, cc, l, h1, h2, h3.ext hx⟩
 ·obtain ⟨A, cc, h1, h2⟩ := e h
  exact ⟨A, cc, h1.ext hx, h2.ext hx⟩
theorem owns_take {base : Nat} {w : World} {A : Option Addr} {c : Nat} {l : List Ln} (h : OwnsLn base w A c l) (k : Nat) (hk : k ≤ l.length) : OwnsLn base w A c (l.take k) := by
 rcases h.cases with ⟨rfl, rfl, rfl⟩ | ⟨g, cur, rfl, h1, h2, h3, h4, h5, h6⟩
 ·simpa using h
 ·have hl : (l.take k).length = k := by simp; omega
  refine Owns.mk lnE h1 h2 (by rw [hl]; omega) h4 h5 ?_
  rw [hl]
  have e : cur.toList.take (k * 59) = (cur.toList.take (l.length * 59)).take (k * 59) := by rw [List.take_take, Nat.min_eq_left (Nat.mul_le_mul_right _ hk)]
  rw [e, h6]
  have hs : l.flatMap lnL = (l.take k).flatMap lnL ++ (l.drop k).flatMap lnL := by rw [← List.flatMap_append, List.take_append_drop]
  rw [hs]
  have hn : ((l.take k).flatMap lnL).length = k * 59 := by rw [lnE.flat_len, hl]
  rw [← hn, List.take_left']
  rfl
theorem owns_cells {base g : Nat} {w : World} {c : Nat} {l : List Ln} (h : OwnsLn base w (some ⟨g, 0, none⟩) c l) : ∀ i u, (l.flatMap lnL)[i]? = some u → w.cell? ⟨g, i, none⟩ = some u := by
 intro i u hu
 have hi := (List.getElem?_eq_some_iff.1 hu).1
 rw [lnE.flat_len] at hi
 have hpos : 0 < l.length := by
  rcases Nat.eq_zero_or_pos l.length with q | q
  ·rw [q] at hi; simp at hi
  ·exact q
 obtain ⟨b, off, h1, _, h3⟩ := (h.reads lnE) hpos
 injection h1 with h1
 injection h1 with h1 h2
 subst h1 h2
 have hd : i / 59 < l.length := Nat.div_lt_of_lt_mul (by rw [Nat.mul_comm]; exact hi)
 have hm : i % 59 < 59 := Nat.mod_lt _ (by decide)
 have e1 : i = i / 59 * 59 + i % 59 := by omega
 have k := lnE.flat_get l (i / 59) hd (i % 59) hm
 rw [← e1, hu] at k
 have := h3 (i / 59) hd (i % 59) u k.symm
 rw [show (0 : Nat) + i / 59 * 59 + i % 59 = i by omega] at this
 exact this
theorem drop_cells {base g : Nat} {w : World} {c : Nat} {l : List Ln} (h : OwnsLn base w (some ⟨g, 0, none⟩) c l) (m : Nat) (ad : Addr) (had : ad = ⟨g, m * 59, none⟩) : ∀ j u, ((l.drop m).flatMap lnL)[j]? = some u → w.cell? (ad.add j) = some u := by
 intro j u hu
 subst had
 rw [addr_add]
 apply owns_cells h
 by_cases hm : m ≤ l.length
 ·have hs : l.flatMap lnL = (l.take m).flatMap lnL ++ (l.drop m).flatMap lnL := by rw [← List.flatMap_append, List.take_append_drop]
  have hn : ((l.take m).flatMap lnL).length = m * 59 := by rw [lnE.flat_len, List.length_take, Nat.min_eq_left hm]
  rw [hs, List.getElem?_append_right (by omega), hn, Nat.add_sub_cancel_left]
  exact hu
 ·rw [List.drop_eq_nil_of_le (by omega)] at hu
  simp at hu
theorem mem_cut_ok {l : List Ln} (h : ∀ x ∈ l, LnOk x) (k m : Nat) : ∀ x ∈ l.take k ++ l.drop m, LnOk x := by
 intro x hx
 rcases List.mem_append.1 hx with e | e
 ·exact h x (List.mem_of_mem_take e)
 ·exact h x (List.mem_of_mem_drop e)
theorem delSt {t : Nat} {w w' : World} (V0 V1 V2 V3 V4 V5 V6 V7 V8 V10 : Value) (i : Nat) (u : Value) (h : (softRs [.eq V0, .eq V1, .eq V2, .eq V3, .eq V4, .eq V5, .eq V6, .eq V7, .eq V8, .any, .eq V10, .any] i).S t u w) : (softRs [.eq V0, .eq V1, .eq V2, .eq V3, .eq V4, .eq V5, .eq V6, .eq V7, .eq V8, .any, .eq V10, .any] i).S (t + 1) u w' := by
 refine softRs_step _ ?_ i u h
 intro s hs u h
 simp only [List.mem_cons, List.not_mem_nil, or_false] at hs
 rcases hs with rfl | rfl | rfl | rfl | rfl | rfl | rfl | rfl | rfl | rfl | rfl | rfl
 all_goals first
  | exact h
  | exact trivial
theorem changes_ok (n : Int) (DA : Option Addr) (dc : Nat) (l : List Dd) (lo wd pl wh by_ : Int) (w : World) (hn : 0 ≤ n ∧ n ≤ 65535) (hdl : l.length ≤ 9223372036854775807) (hd : Reads 3 ddL w w.heap.size DA l) (hdi : ∀ s ∈ l, 0 ≤ s.until_ ∧ s.until_ ≤ 65535) (hlo : 0 ≤ lo ∧ lo ≤ 65535) (hwd : 0 ≤ wd ∧ wd ≤ 255) (hpl : 0 ≤ pl ∧ pl ≤ 255) (hwh : 0 ≤ wh ∧ wh ≤ 255) (hby : 0 ≤ by_ ∧ by_ ≤ 255) (hk : KonstP w) (hr : RKonst w) :
  Calls Tryz.prog 7 #[.int .u16 n, .slice DA l.length dc, .int .u16 lo, .int .u8 wd, .int .u8 pl, .int .u8 wh, .int .u8 by_] w fun o w' => o = .returned (.bool true) ∧ Ext w w' := by
 have HS := lh (fun (W : World) (hx : Ext w W) => lsanity_any W (RowAt.ext hk hx) (RowAt.ext hr hx))
 obtain ⟨n0, n1⟩ := hn
 obtain ⟨l0, l1⟩ := hlo
 obtain ⟨w0, w1⟩ := hwd
 obtain ⟨pl0, pl1⟩ := hpl
 obtain ⟨wh0, wh1⟩ := hwh
 obtain ⟨by0, by1⟩ := hby
 by_cases h10 : l.length ≤ 10
 ·by_cases hb0 : by_ = 0
  ·subst hb0
   have hdd : decide ((10 : Int) < l.length) = false := by simp; omega
   clear hd hdi h10
   go_enter Tryz.func7, Tryz.ntmps7
   go_wp2_with (go_at_call 16; refine (HS.out _ (by (with_reducible repeat first|exact eR _|apply eD|apply eN|apply eA|apply eO|apply eS|apply eC);all_goals first|omega|simp <;> omega)).mono ?_; rintro e w' ⟨rfl, hxl⟩; obtain ⟨xl, rfl⟩ := hxl.asLater; clear hxl)
   go_ret
   exact ⟨rfl, (by (with_reducible repeat first|exact eR _|apply eD|apply eN|apply eA|apply eO|apply eS|apply eC);all_goals first|omega|simp <;> omega)⟩
  have hok := ddsOk_of h10 hdi
  have hclk : okClk ⟨lo, lo + wd⟩ = true := by simp only [okClk, Bool.and_eq_true, decide_eq_true_eq]; omega
  have HT := lh (fun (W : World) (hx : Ext w W) => told_any (1 + n) DA dc l ⟨lo, lo + wd⟩ W hok (hd.on hx) (by omega) (by omega) hclk (RowAt.ext hk hx) (RowAt.ext hr hx))
  have HRO := lh (tR_ok hok (n := 1 + n) (by omega) (by omega) hclk)
  have HSm : Hid (∀ x ∈ tLns (tEp (1 + n)) ⟨lo, lo + wd⟩ l, (0 ≤ x.site ∧ x.site ≤ 65536) ∧ (0 ≤ x.kind ∧ x.kind ≤ 65536) ∧ (0 ≤ x.le.until_ ∧ x.le.until_ ≤ 65536) ∧ (0 ≤ x.cf.epoch ∧ x.cf.epoch ≤ 65536)) := lh (fun x hx => by
   obtain ⟨i, hi, rfl⟩ := List.mem_map.1 hx
   exact small_tLn hok (by omega) (by omega) (by have := (mem_idx.1 hi).1; omega))
  have HEo := lh (tEp_ok (n := 1 + n) (by omega) (by omega))
  have HKs := lh (fun (W : World) => lkeys_is W)
  have HKy := lh (fun p (W : World) => lkey_any p W)
  have hdd : decide ((10 : Int) < l.length) = false := by simp; omega
  have hbb : (by_ == 0) = false := by simpa using hb0
  have hfe := ep_fits (tEp (1 + n))
  have hfR := fun A c => rp_fits (tR (tEp (1 + n)) ⟨lo, lo + wd⟩ l A c)
  have hep : (⟨1 + n, zeros32 16, 1, 2, none, 0, [], none, 0, [], 0, zeros32 16⟩ : Ep) = tEp (1 + n) := rfl
  have hlen := tLns_len (tEp (1 + n)) ⟨lo, lo + wd⟩ l
  have HCk := lh hclk
  clear hok hd hdi hclk hb0
  go_enter Tryz.func7, Tryz.ntmps7
  go_upto_region 4 with (fail)
  refine wp_world (fun W => Ext w W ∧ RowAt W w.heap.size (epC (tEp (1 + n)))) ⟨(by (with_reducible repeat first|exact eR _|apply eD|apply eN|apply eA|apply eO|apply eS|apply eC);all_goals first|omega|simp <;> omega), ?_⟩ ?_
  ·exact (by (repeat (first | with_reducible exact rfl | with_reducible refine RowAt.drew ?_ | with_reducible refine RowAt.later ?_ _ | with_reducible exact RowAt.newAt (by first | rfl | omega | (simp [later_size, setCells_size]; done) | (simp [later_size, setCells_size]; omega)) | with_reducible refine RowAt.alloc ?_ _ | with_reducible refine RowAt.store (cs := epC noEp) ?_ ?_ | with_reducible refine RowAt.others ?_ ?_ _ _ | with_reducible refine RowAt.other ?_ ?_ _)); all_goals first | omega | (simp; done) | (simp; omega) | (simp [go_sem]; done))
  obtain ⟨B, hB⟩ : ∃ B, w.heap.size = B := ⟨_, rfl⟩
  rw [hB]
  rintro W1 ⟨x1, uE⟩
  have HX1 := lh x1
  have HUE := lh uE
  have hlE := uE.lt
  have kE : rowOf W1 B 0 38 = some (epC (tEp (1 + n))) := uE.all rfl (by omega)
  clear x1 uE hdd hbb
  go_upto_region 5 with (go_at_call 27; refine (HT.out _ HX1.out).mono ?_; rintro r w' ⟨⟨LA, lc, rfl, ho⟩, hxl⟩; have HO1 := lh ho; clear ho; obtain ⟨xk, rfl⟩ := hxl.asLater; clear hxl)
  refine wp_world (fun W => Ext W1 W ∧ RowAt W (W1.heap.size + xk.n) (rpC (tR (tEp (1 + n)) ⟨lo, lo + wd⟩ l LA lc)) ∧ OwnsLn W1.heap.size W LA lc (tLns (tEp (1 + n)) ⟨lo, lo + wd⟩ l)) ⟨(by (with_reducible repeat first|exact eR _|apply eD|apply eN|apply eA|apply eO|apply eS|apply eC);all_goals first|omega|simp <;> omega), RowAt.store (RowAt.newAt (later_size _ _).symm) rfl, ?_⟩ ?_
  ·exact HO1.out.ext (Ext.setCells (Ext.alloc (eR _) _) (Nat.le_of_eq (later_size _ _)) _ _)
  obtain ⟨g, hg⟩ : ∃ g, W1.heap.size + xk.n = g := ⟨_, rfl⟩
  rw [hg]
  rintro W2 ⟨x2, u11, rd⟩
  have HX2 := lh (HX1.out.trans x2)
  have HXX2 := lh x2
  have HU11 := lh u11
  have HOw := lh rd
  have HRD := lh (rd.reads lnE)
  have hl11 := u11.lt
  have hs12 := x2.size
  have kR : rowOf W2 g 0 37 = some (rpC (tR (tEp (1 + n)) ⟨lo, lo + wd⟩ l LA lc)) := u11.all rfl (by omega)
  have HRO' := lh (HRO.out LA lc)
  have HRt : Hid (∃ R, tR (tEp (1 + n)) ⟨lo, lo + wd⟩ l LA lc = R ∧ R.epoch = 1 + n ∧ R.name = epName (tEp (1 + n)) ∧ R.lo = lo ∧ R.hi = lo + wd ∧ R.serial = 1 ∧ R.LA = LA ∧ R.lc = lc ∧ R.lines = tLns (tEp (1 + n)) ⟨lo, lo + wd⟩ l) := lh ⟨_, rfl, rfl, rfl, rfl, rfl, rfl, rfl, rfl, rfl⟩
  have hfR' := hfR LA lc
  have q19 : W2.cell? ⟨g, 19, none⟩ = some (.slice LA (tLns (tEp (1 + n)) ⟨lo, lo + wd⟩ l).length lc) := (u11.cell 19).trans (rp_g19 _)
  clear x2 u11 rd hg HO1 HT HRO hfR kE
  generalize tR (tEp (1 + n)) ⟨lo, lo + wd⟩ l LA lc = R at *
  generalize tLns (tEp (1 + n)) ⟨lo, lo + wd⟩ l = L at *
  by_cases hL0 : L.length = 0
  ·have d0 : ((L.length : Int) == 0) = true := beq_iff_eq.2 (by omega)
   clear HRt HOw HRD HSm HRO' hlen
   go_wp2_with (go_at_call 16; refine (HS.out _ (by (with_reducible repeat first|exact HX2.out|exact eR _|apply eD|apply eN|apply eA|apply eO|apply eS|apply eC);all_goals first|omega|simp <;> omega)).mono ?_; rintro e w' ⟨rfl, hxl⟩; obtain ⟨xl, rfl⟩ := hxl.asLater; clear hxl)
   go_ret
   exact ⟨rfl, (by (with_reducible repeat first|exact HX2.out|exact eR _|apply eD|apply eN|apply eA|apply eO|apply eS|apply eC);all_goals first|omega|simp <;> omega)⟩
  have d0 : ((L.length : Int) == 0) = false := beq_false_of_ne (by omega)
  go_upto_region 8 with (fail)
  refine wp_world (fun W => Ext W2 W ∧ RowAt W W2.heap.size (rpC R)) ⟨(by (with_reducible repeat first|exact eR _|apply eD|apply eN|apply eA|apply eO|apply eS|apply eC);all_goals first|omega|simp <;> omega), RowAt.store (RowAt.new _ _ _) rfl⟩ ?_
  obtain ⟨gx, hgx⟩ : ∃ g, W2.heap.size = g := ⟨_, rfl⟩
  rw [hgx]
  rintro W3 ⟨x3, u18⟩
  have hs23 := x3.size
  have hlx := u18.lt
  have HX3 := lh x3
  have HUX := lh u18
  have q19 : W3.cell? ⟨g, 19, none⟩ = some (.slice LA L.length lc) := (x3.cell (p := ⟨g, 19, none⟩) hl11).trans q19
  clear x3 u18 kR d0
  go_upto_region 10 with (at_builtin; refine app_reads lnT lnE rfl _ _ rfl W3.heap.size _ 0 [] rfl (owns_fresh lnE [] W3 #[] _ W3.heap.size rfl (Nat.le_refl _) rfl (by simp)) W3.heap.size LA lc L rfl (((HOw.out.ext HX3.out).reads lnE).ext ((eR _).alloc _) (Nat.le_refl _)) (HOw.out.none0) (by simp; omega) (by simp; omega) (by simp) ?_; intro A7 c7 l7 w7 HL HO5 hB hl1 hl2 hg; have HO7 := lh HO5; have HB7 := lh hB; have hu7 : RowAt w7 gx (rpC R) := RowAt.below (HUX.out.alloc _) hB hlx; have fz7 := hu7.free 19; have HU7 := lh hu7; have hl7 := hu7.lt; have hr7 : R.lines.length ≤ 10 := (by obtain ⟨R', e, _, _, _, _, _, _, _, e2⟩ := HRt.out; subst e; rw [e2]; omega); have q7 : w7.cell? ⟨gx, 19, none⟩ = some (.slice R.LA R.lines.length R.lc) := (hu7.cell 19).trans (rp_g19 R); clear HO5 hB hu7)
  have hl7L : l7 = L := by rw [HL.out, List.nil_append]
  subst hl7L
  obtain ⟨R', hR', g1, g2, g3, g4, g5, g6, g7, g8⟩ := HRt.out
  subst hR'
  have HRt2 : Hid (R.epoch = 1 + n ∧ R.name = epName (tEp (1 + n)) ∧ R.lo = lo ∧ R.hi = lo + wd ∧ R.serial = 1) := lh ⟨g1, g2, g3, g4, g5⟩
  have HLok : Hid (∀ x ∈ l7, LnOk x) := lh (fun x hx => HRO'.out.lines x (by rw [g8]; exact hx))
  obtain ⟨gl, rfl, hgl0⟩ : ∃ gl, A7 = some ⟨gl, 0, none⟩ ∧ W3.heap.size ≤ gl := by
   rcases HO7.out.cases with ⟨_, _, e⟩ | ⟨gl, cur, e, e2, _⟩
   ·exact absurd (by rw [e]; rfl) hL0
   ·exact ⟨gl, e, e2⟩
  refine wp_world (fun W => Ext W2 W ∧ RowAt W gx (rpC { R with LA := some ⟨gl, 0, none⟩, lc := c7, lines := l7 }) ∧ OwnsLn W3.heap.size W (some ⟨gl, 0, none⟩) c7 l7) ⟨?_, ?_, ?_⟩ ?_
  ·exact Ext.setCell (HX3.out.trans (Ext.grown ((eR _).alloc _) HB7.out (Nat.le_refl _))) (by show _ ≤ gx; omega) _
  ·have h := HU7.out.set 19 (.slice (some ⟨gl, 0, none⟩) l7.length c7)
   rw [rp_set19] at h
   exact h
  ·exact HO7.out.other (by show gx < _; omega) _
  rintro W4 ⟨x4, u4, o4⟩
  have HXX4 := lh x4
  have HUX4 := lh u4
  have HO4 := lh o4
  have hs24 := x4.size
  have hlx4 := u4.lt
  have hgl4 : gl < W4.heap.size := (o4.lt _ rfl).2
  obtain ⟨k, hk⟩ : ∃ k : Nat, pl % (l7.length : Int) = k := ⟨(pl % (l7.length : Int)).toNat, by rw [Int.toNat_of_nonneg]; exact Int.emod_nonneg _ (by omega)⟩
  have hkL : k < l7.length := by have := Int.emod_lt_of_pos pl (show (0 : Int) < l7.length by omega); omega
  rw [hk]
  clear HRt q19
  have HRt := HRt2
  have hl10 : l7.length ≤ 10 := by omega
  clear x4 u4 o4 HRt2 g1 g2 g3 g4 g5 g6 g7 g8 HL hl1 hl2 HO7 HB7 HU7 fz7 q7 hl7 hr7 hg hk HUX HX3 hs23 HOw HRD pl0 pl1
  generalize l7 = L at *
  go_upto_region 12 with (fail)
  obtain ⟨q, hq⟩ : ∃ q, wh % 6 = q := ⟨_, rfl⟩
  rw [hq]
  have hq6 : q = 0 ∨ q = 1 ∨ q = 2 ∨ q = 3 ∨ q = 4 ∨ q = 5 := by omega
  clear hq wh0 wh1
  by_cases hq4 : q = 4
  ·subst hq4
   have q18 : W4.cell? ⟨gx, 18, none⟩ = some (.int .i64 (lo + wd)) := by
    have h := (HUX4.out.cell 18).trans (rp_g18 _)
    rw [← HRt.out.2.2.2.1]
    exact h
   have f18 := HUX4.out.free 18
   go_upto_region 22 with (fail)
   refine wp_world (fun W => ∃ X : Rp, Ext W2 W ∧ RowAt W gx (rpC X) ∧ Reads 59 lnL W W.heap.size X.LA X.lines ∧ XOk (1 + n) R.sl X) ⟨{ R with LA := some ⟨gl, 0, none⟩, lc := c7, lines := L, hi := lo + wd + by_ }, ?_, ?_, ?_, ?_⟩ ?_
   ·exact Ext.setCell HXX4.out (by show _ ≤ gx; omega) _
   ·have h := HUX4.out.set 18 (.int .i64 (lo + wd + by_))
    rw [rp_set18] at h
    exact h
   ·exact (HO4.out.other (by show gx < _; omega) _).reads lnE
   ·have h := HRO'.out
    refine ⟨⟨h.name, h.sl, HLok.out, ?_⟩, hl10, HRt.out.1, HRt.out.2.1, ?_, ?_, HRt.out.2.2.2.2, rfl⟩
    ·intro y hy
     simp only [List.mem_cons, List.not_mem_nil, or_false] at hy
     rcases hy with rfl | rfl | rfl | rfl
     ·exact h.ints _ (by simp)
     ·exact h.ints _ (by simp)
     ·unfold i64; omega
     ·exact h.ints _ (by simp)
    ·show okClk ⟨R.lo, lo + wd + by_⟩ = true
     rw [HRt.out.2.2.1]
     simp only [okClk, Bool.and_eq_true, decide_eq_true_eq]
     omega
    ·show lo + wd + by_ < _; omega
   clear HUX4 HXX4 HO4 HLok HCk HRt HSm q18 f18
   rintro W5 ⟨X, x5, uX, rX, hXo⟩
   have HX5 := lh (HX2.out.trans x5)
   have HXX5 := lh x5
   have HUX5 := lh uX
   have HRD5 := lh rX
   have HXo := lh hXo
   have hs5 := x5.size
   have hlX := uX.lt
   have hl11e := (HU11.out.ext x5).lt
   have kE : rowOf W5 B 0 38 = some (epC (tEp (1 + n))) := (HUE.out.ext (HXX2.out.trans x5)).all rfl (by omega)
   have kX : rowOf W5 gx 0 37 = some (rpC X) := uX.all rfl (by omega)
   have HPl := lh (found_t (n := 1 + n) X hXo.ep hXo.nm hXo.ck hXo.hh hXo.se)
   obtain ⟨⟨N, G⟩, hNG⟩ : ∃ z, checkRp theKeys (tEp (1 + n)) X = z := ⟨_, rfl⟩
   rw [hNG, hXo.sl_] at HPl
   have HCk2 : Hid (∀ (A : Option Addr) (c : Nat) (W : World), Ext W5 W → ReadsKy W W.heap.size A theKeys → Calls Tryz.prog 28 #[.slice A theKeys.length c, .agg (epC (tEp (1 + n))), .agg (rpC X)] W fun e w' => e = .returned (.tuple #[.int .i64 N, .int .i64 G]) ∧ Ext W w') := lh (fun A c W hx h => by
    have h := acheck_any A c theKeys (tEp (1 + n)) X W ring_ok h HEo.out (tEp_short _) (tEp_at _ W) HXo.out.ok (by have := HXo.out.len; omega) (HRD5.out.on hx) (RowAt.ext hk (HX5.out.trans hx))
    rw [hNG] at h
    exact h)
   have HWh := lh (fun (W : World) (hx : Ext W5 W) => rwhole_any X W HXo.out.ok (by have := HXo.out.len; omega) (HRD5.out.on hx))
   have HMk2 := lh (fun (A : Option Addr) (c : Nat) (W : World) (h1 : ReadsStr W W.heap.size A (rpParts X)) (h2 : A = none → c = 0) (hx : Ext W5 W) => rmake_any (theKey 1) 321 A c (rpParts X) W h1 h2 (lens_key (by decide) (by have := rpParts_lens HXo.out.ok (by have := HXo.out.len; omega); omega)) (RowAt.ext hr (HX5.out.trans hx)))
   have hSq := fun W => sel_eql (a := makeN (theKey 1) 321 (rpParts X)) (b := R.sl) ⟨makeN_len _ _ _, makeN_byt _ _ _⟩ HRO'.out.sl W
   have hfX := rp_fits X
   have hfM : fitsRow 16 (dgC (makeN (theKey 1) 321 (rpParts X))) = true := by simp [fitsRow, dgC, Value.oneCell']
   have hfS : fitsRow 16 (dgC R.sl) = true := by simp [fitsRow, dgC, Value.oneCell']
   have HS21 := lh (rp_s21_16 R)
   clear x5 uX rX hXo hNG
   generalize makeN (theKey 1) 321 (rpParts X) = M at *
   generalize R.sl = SL at *
   refine wp_region_soft 8 (softsL [readKs theKeys, .eq (.agg (epC (tEp (1 + n)))), .eq (.agg (rpC X)), .eq (.tuple #[.int .i64 N, .int .i64 G]), .eq (.tuple #[.int .i64 N, .int .i64 G]), .eq (.int .i64 N), .eq (.int .i64 G), .eq (.int .i64 N)]) (by kernel_rfl) (by kernel_rfl) (lt_cons ?_ (lt_cons ?_ (lt_cons ?_ (lt_cons ?_ (lt_cons ?_ (lt_cons ?_ (lt_cons ?_ (lt_cons ?_ (lt_none))))))))) ?_
   any_goals (refine sop rfl fun xs W HW hsW HD Q' HQ => ?_; simp only [fillAt, dstOf, lc0, lcs, obs, Act.put, lsa, lsz, lss, nz, Nat.reduceAdd] at HQ ⊢)
   ·
    go_wp2_with (go_at_call 29; refine (HKs.out _).mono ?_; rintro e w1 ⟨⟨A, c, rfl, h1⟩, hx⟩)
    exact HQ.out _ _ hx ⟨A, c, rfl, h1⟩
   ·
    have hc := (row_extW HW.out (b := B) (by omega) 0 38).trans kE
    go_wp2
    exact HQ.out _ _ (eR _) rfl
   ·
    have hc := (row_extW HW.out (b := gx) (by omega) 0 37).trans kX
    go_wp2
    exact HQ.out _ _ (eR _) rfl
   ·
    have hs0 : (readKs theKeys).S (xs 0) W := (HD.out 0 (dk (by kernel_rfl)))
    have hd1 : xs 1 = .agg (epC (tEp (1 + n))) := (HD.out 1 (dk (by kernel_rfl)))
    generalize xs 1 = x1 at hd1 HQ ⊢; subst hd1
    have hd2 : xs 2 = .agg (rpC X) := (HD.out 2 (dk (by kernel_rfl)))
    generalize xs 2 = x2 at hd2 HQ ⊢; subst hd2
    obtain ⟨A0, c0, h0, hr0⟩ := hs0
    generalize xs 0 = x0 at h0 HQ ⊢; subst h0
    go_wp2_with (go_at_call 28; refine (HCk2.out A0 c0 _ HW.out hr0).mono ?_; rintro e w1 ⟨rfl, hx⟩)
    exact HQ.out _ _ hx rfl
   ·
    have hd3 : xs 3 = .tuple #[.int .i64 N, .int .i64 G] := (HD.out 3 (dk (by kernel_rfl)))
    generalize xs 3 = x3 at hd3 HQ ⊢; subst hd3
    go_wp2
    exact HQ.out _ _ (eR _) rfl
   ·
    have hd4 : xs 4 = .tuple #[.int .i64 N, .int .i64 G] := (HD.out 4 (dk (by kernel_rfl)))
    generalize xs 4 = x4 at hd4 HQ ⊢; subst hd4
    go_wp2
    exact HQ.out _ _ (eR _) rfl
   ·
    have hd4 : xs 4 = .tuple #[.int .i64 N, .int .i64 G] := (HD.out 4 (dk (by kernel_rfl)))
    generalize xs 4 = x4 at hd4 HQ ⊢; subst hd4
    go_wp2
    exact HQ.out _ _ (eR _) rfl
   ·
    have hd5 : xs 5 = .int .i64 N := (HD.out 5 (dk (by kernel_rfl)))
    generalize xs 5 = x5 at hd5 HQ ⊢; subst hd5
    go_wp2
    exact HQ.out _ _ (eR _) rfl
   intro xs W6 hW hS
   have h6 : xs 6 = .int .i64 G := hS 6 (by omega)
   have h7 : xs 7 = .int .i64 N := hS 7 (by omega)
   simp only [fillAt, dstOf, lc0, lcs, obs, Act.put, lsa, lsz, lss, nz, Nat.reduceAdd, List.drop_succ_cons, List.drop_zero, List.drop_nil]
   generalize xs 6 = x6 at *; subst h6
   generalize xs 7 = x7 at *; subst h7
   have HW6 := lh (HX5.out.trans hW)
   have HWW6 := lh hW
   clear hS hW kE kX
   have hs56 := HWW6.out.size
   have kX : rowOf W6 gx 0 37 = some (rpC X) := (HUX5.out.ext HWW6.out).all rfl (by omega)
   have kS : rowOf W6 g 21 16 = some (dgC SL) := ((HU11.out.ext (HXX5.out.trans HWW6.out)).row 21 16).trans (by rw [if_neg (by omega)]; exact HS21.out)
   go_upto_region 23 with (fail)
   refine wp_region_soft 7 (softsL [.eq (.agg (kyC (theKey 1))), .eq (.agg (rpC X)), readS (rpParts X), .eq (.agg (dgC M)), .eq (.pointer (some ⟨g, 21, none⟩)), .eq (.agg (dgC SL)), .eq (.bool (decide (M = SL)))]) (by kernel_rfl) (by kernel_rfl) (lt_cons ?_ (lt_cons ?_ (lt_cons ?_ (lt_cons ?_ (lt_cons ?_ (lt_cons ?_ (lt_cons ?_ (lt_none)))))))) ?_
   any_goals (refine sop rfl fun xs W HW hsW HD Q' HQ => ?_; simp only [fillAt, dstOf, lc0, lcs, obs, Act.put, lsa, lsz, lss, nz, Nat.reduceAdd] at HQ ⊢)
   ·
    go_wp2_with (go_at_call 32; refine (HKy.out 1 _).mono ?_; rintro e w1 ⟨rfl, hx⟩)
    exact HQ.out _ _ hx rfl
   ·
    have hc := (row_extW HW.out (b := gx) (by omega) 0 37).trans kX
    go_wp2
    exact HQ.out _ _ (eR _) rfl
   ·
    have hd1 : xs 1 = .agg (rpC X) := (HD.out 1 (dk (by kernel_rfl)))
    generalize xs 1 = x1 at hd1 HQ ⊢; subst hd1
    go_wp2_with (go_at_call 33; refine (HWh.out _ (HWW6.out.trans HW.out)).mono ?_; rintro e w1 ⟨A, c, rfl, h1, h2, hx⟩)
    exact HQ.out _ _ hx ⟨A, c, rfl, h1, h2⟩
   ·
    have hd0 : xs 0 = .agg (kyC (theKey 1)) := (HD.out 0 (dk (by kernel_rfl)))
    generalize xs 0 = x0 at hd0 HQ ⊢; subst hd0
    obtain ⟨A2, c2, h2, hr2, hz2⟩ : (readS (rpParts X)).S (xs 2) W := (HD.out 2 (dk (by kernel_rfl)))
    generalize xs 2 = x2 at h2 HQ ⊢; subst h2
    go_wp2_with (go_at_call 31; refine (HMk2.out A2 c2 _ hr2 hz2 (HWW6.out.trans HW.out)).mono ?_; rintro e w1 ⟨rfl, hx⟩)
    exact HQ.out _ _ hx rfl
   ·
    go_wp2
    exact HQ.out _ _ (eR _) rfl
   ·
    have hd4 : xs 4 = .pointer (some ⟨g, 21, none⟩) := (HD.out 4 (dk (by kernel_rfl)))
    generalize xs 4 = x4 at hd4 HQ ⊢; subst hd4
    have hc := (row_extW HW.out (b := g) (by omega) 21 16).trans kS
    go_wp2
    exact HQ.out _ _ (eR _) rfl
   ·
    have hd3 : xs 3 = .agg (dgC M) := (HD.out 3 (dk (by kernel_rfl)))
    generalize xs 3 = x3 at hd3 HQ ⊢; subst hd3
    have hd5 : xs 5 = .agg (dgC SL) := (HD.out 5 (dk (by kernel_rfl)))
    generalize xs 5 = x5 at hd5 HQ ⊢; subst hd5
    go_wp2
    exact HQ.out _ _ (eR _) rfl
   intro xs W7 hW hS
   have h6 : xs 6 = .bool (decide (M = SL)) := hS 6 (by omega)
   simp only [fillAt, dstOf, lc0, lcs, obs, Act.put, lsa, lsz, lss, nz, Nat.reduceAdd, List.drop_succ_cons, List.drop_zero, List.drop_nil]
   generalize xs 6 = x6 at *; subst h6
   have HW7 := lh (HW6.out.trans hW)
   have HWW7 := lh hW
   clear hS hW kX kS
   clear HCk2 HWh HMk2 hSq HXo HUX5 HRD5
   by_cases c1 : N = -1
   ·subst c1
    by_cases c2 : G = 8
    ·subst c2
     clear HPl
     go_wp2_with (go_at_call 16; refine (HS.out _ (by (with_reducible repeat first|exact HW7.out|exact eR _|apply eD|apply eN|apply eA|apply eO|apply eS|apply eC);all_goals first|omega|simp <;> omega)).mono ?_; rintro e w' ⟨rfl, hxl⟩; obtain ⟨xl, rfl⟩ := hxl.asLater; clear hxl)
     go_ret
     exact ⟨ret_bool (by first | rfl | simp [*]), (by (with_reducible repeat first|exact HW7.out|exact eR _|apply eD|apply eN|apply eA|apply eO|apply eS|apply eC);all_goals first|omega|simp <;> omega)⟩
    ·have e2 : (G == 8) = false := beq_false_of_ne c2
     have hm : decide (M = SL) = true := by have := HPl.out; simpa [c2] using this
     clear HPl
     go_wp2_with (go_at_call 16; refine (HS.out _ (by (with_reducible repeat first|exact HW7.out|exact eR _|apply eD|apply eN|apply eA|apply eO|apply eS|apply eC);all_goals first|omega|simp <;> omega)).mono ?_; rintro e w' ⟨rfl, hxl⟩; obtain ⟨xl, rfl⟩ := hxl.asLater; clear hxl)
     go_ret
     exact ⟨ret_bool (by first | rfl | simp [*]), (by (with_reducible repeat first|exact HW7.out|exact eR _|apply eD|apply eN|apply eA|apply eO|apply eS|apply eC);all_goals first|omega|simp <;> omega)⟩
   ·have e1 : (N == -1) = false := beq_false_of_ne c1
    have e4 : decide (N = -1) = false := by simpa using c1
    have hm : decide (M = SL) = true := by have := HPl.out; simpa [c1] using this
    clear HPl
    go_wp2_with (go_at_call 16; refine (HS.out _ (by (with_reducible repeat first|exact HW7.out|exact eR _|apply eD|apply eN|apply eA|apply eO|apply eS|apply eC);all_goals first|omega|simp <;> omega)).mono ?_; rintro e w' ⟨rfl, hxl⟩; obtain ⟨xl, rfl⟩ := hxl.asLater; clear hxl)
    go_ret
    exact ⟨ret_bool (by first | rfl | simp [*]), (by (with_reducible repeat first|exact HW7.out|exact eR _|apply eD|apply eN|apply eA|apply eO|apply eS|apply eC);all_goals first|omega|simp <;> omega)⟩
  by_cases hq5 : q = 5
  ·subst hq5
   have hc7 : L.length ≤ c7 := by
    rcases HO4.out.cases with ⟨e, _, _⟩ | ⟨_, _, _, _, _, h, _⟩
    ·cases e
    ·exact h
   obtain ⟨P, hP⟩ : ∃ P, P = L.take k := ⟨_, rfl⟩
   have HP := lh hP
   have HLk : Hid (P.length = k) := lh (by rw [hP]; simp; omega)
   clear hP
   go_upto_region 11 with (fail)
   by_cases hc : c7 = k + 1
   ·subst hc
    refine wp_region_stepsC 12 (by kernel_rfl) [9, 11] (DelG W2 W4 gx W3.heap.size gl (k + 1) R L (P ++ L.drop (k + 1))) (fun i => (softRs [.eq (.pointer (some ⟨gx, 19, none⟩)), .eq (.slice (some ⟨gl, 0, none⟩) L.length (k + 1)), .eq (.int .i64 k), .eq (.slice (some ⟨gl, 0, none⟩) P.length (k + 1)), .eq (.pointer (some ⟨gx, 19, none⟩)), .eq (.slice (some ⟨gl, 0, none⟩) L.length (k + 1)), .eq (.int .i64 k), .eq (.int .i64 ((k : Int) + 1)), .eq (.slice (some ⟨gl, 0, none⟩) 0 0), .any, .eq (.pointer (some ⟨gx, 19, none⟩)), .any] i).S) (by kernel_rfl) (by kernel_rfl) (by kernel_rfl) (by kernel_rfl) ?_ delG_x delG_e (fun i => (softRs _ i).on) (lt_cons ?_ (lt_cons ?_ (lt_cons ?_ (lt_cons ?_ (lt_cons ?_ (lt_cons ?_ (lt_cons ?_ (lt_cons ?_ (lt_cons ?_ (lt_cons ?_ (lt_cons ?_ (lt_cons ?_ lt_none)))))))))))) (lt_cons ?_ (lt_cons ?_ lt_none)) ?_ (by decide)
    ·exact ⟨HXX4.out.drew, fun _ => (Ext.refl W4).drew, fun _ => HUX4.out.drew, fun h => absurd h (by decide), fun h => absurd h (by decide)⟩
    ·
     intro hni o ho r xs W hr hG hd hk hbf Q' hQ; obtain rfl := Option.some.inj ho; clear ho hk hni; simp only [fillAt, dstOf, lc0, lcs, obs, Act.put, lsa, lsz, lss, nz, Nat.reduceAdd] at hQ ⊢; have HQ := lh hQ; have HD := lh hd; have HG := lh hG; clear hQ hd hG
     go_wp2
     exact HQ.out _ _ (eR _) rfl
    ·
     intro hni o ho r xs W hr hG hd hk hbf Q' hQ; obtain rfl := Option.some.inj ho; clear ho hk hni; simp only [fillAt, dstOf, lc0, lcs, obs, Act.put, lsa, lsz, lss, nz, Nat.reduceAdd] at hQ ⊢; have HQ := lh hQ; have HD := lh hd; have HG := lh hG; clear hQ hd hG
     have hr0 : r = 0 := by
      obtain ⟨S, hn, hS, hcl⟩ := hbf
      rcases Nat.eq_zero_or_pos r with h | h
      ·exact h
      ·exact absurd (hcl 3 (by decide) (hcl 9 (by decide) (hS 0 h) 3 (dk (by kernel_rfl))) 1 (dk (by kernel_rfl))) hn
     have hd0 : xs 0 = .pointer (some ⟨gx, 19, none⟩) := (HD.out 0 (dk (by kernel_rfl)) (by decide))
     generalize xs 0 = x0 at hd0 HQ ⊢; subst hd0
     have uR := HG.out.2.2.1 (by omega)
     have hc : W.cell? ⟨gx, 19, none⟩ = some (.slice (some ⟨gl, 0, none⟩) L.length (k + 1)) := (uR.cell 19).trans (rp_g19 _)
     have hlRR := uR.lt
     clear uR hbf
     go_wp2
     exact HQ.out _ _ (eR _) rfl
    ·
     intro hni o ho r xs W hr hG hd hk hbf Q' hQ; obtain rfl := Option.some.inj ho; clear ho hk hni; simp only [fillAt, dstOf, lc0, lcs, obs, Act.put, lsa, lsz, lss, nz, Nat.reduceAdd] at hQ ⊢; have HQ := lh hQ; have HD := lh hd; have HG := lh hG; clear hQ hd hG
     go_wp2
     exact HQ.out _ _ (eR _) rfl
    ·
     intro hni o ho r xs W hr hG hd hk hbf Q' hQ; obtain rfl := Option.some.inj ho; clear ho hk hni; simp only [fillAt, dstOf, lc0, lcs, obs, Act.put, lsa, lsz, lss, nz, Nat.reduceAdd] at hQ ⊢; have HQ := lh hQ; have HD := lh hd; have HG := lh hG; clear hQ hd hG
     have hd1 : xs 1 = .slice (some ⟨gl, 0, none⟩) L.length (k + 1) := (HD.out 1 (dk (by kernel_rfl)) (by decide))
     generalize xs 1 = x1 at hd1 HQ ⊢; subst hd1
     have hd2 : xs 2 = .int .i64 k := (HD.out 2 (dk (by kernel_rfl)) (by decide))
     generalize xs 2 = x2 at hd2 HQ ⊢; subst hd2
     clear hbf
     go_wp2
     exact HQ.out _ _ (eR _) (by show _ = _; rw [HLk.out])
    ·
     intro hni o ho r xs W hr hG hd hk hbf Q' hQ; obtain rfl := Option.some.inj ho; clear ho hk hni; simp only [fillAt, dstOf, lc0, lcs, obs, Act.put, lsa, lsz, lss, nz, Nat.reduceAdd] at hQ ⊢; have HQ := lh hQ; have HD := lh hd; have HG := lh hG; clear hQ hd hG
     go_wp2
     exact HQ.out _ _ (eR _) rfl
    ·
     intro hni o ho r xs W hr hG hd hk hbf Q' hQ; obtain rfl := Option.some.inj ho; clear ho hk hni; simp only [fillAt, dstOf, lc0, lcs, obs, Act.put, lsa, lsz, lss, nz, Nat.reduceAdd] at hQ ⊢; have HQ := lh hQ; have HD := lh hd; have HG := lh hG; clear hQ hd hG
     have hr0 : r = 0 := by
      obtain ⟨S, hn, hS, hcl⟩ := hbf
      rcases Nat.eq_zero_or_pos r with h | h
      ·exact h
      ·exact absurd (hcl 8 (by decide) (hcl 9 (by decide) (hS 0 h) 8 (dk (by kernel_rfl))) 5 (dk (by kernel_rfl))) hn
     have hd4 : xs 4 = .pointer (some ⟨gx, 19, none⟩) := (HD.out 4 (dk (by kernel_rfl)) (by decide))
     generalize xs 4 = x4 at hd4 HQ ⊢; subst hd4
     have uR := HG.out.2.2.1 (by omega)
     have hc : W.cell? ⟨gx, 19, none⟩ = some (.slice (some ⟨gl, 0, none⟩) L.length (k + 1)) := (uR.cell 19).trans (rp_g19 _)
     have hlRR := uR.lt
     clear uR hbf
     go_wp2
     exact HQ.out _ _ (eR _) rfl
    ·
     intro hni o ho r xs W hr hG hd hk hbf Q' hQ; obtain rfl := Option.some.inj ho; clear ho hk hni; simp only [fillAt, dstOf, lc0, lcs, obs, Act.put, lsa, lsz, lss, nz, Nat.reduceAdd] at hQ ⊢; have HQ := lh hQ; have HD := lh hd; have HG := lh hG; clear hQ hd hG
     go_wp2
     exact HQ.out _ _ (eR _) rfl
    ·
     intro hni o ho r xs W hr hG hd hk hbf Q' hQ; obtain rfl := Option.some.inj ho; clear ho hk hni; simp only [fillAt, dstOf, lc0, lcs, obs, Act.put, lsa, lsz, lss, nz, Nat.reduceAdd] at hQ ⊢; have HQ := lh hQ; have HD := lh hd; have HG := lh hG; clear hQ hd hG
     have hd6 : xs 6 = .int .i64 k := (HD.out 6 (dk (by kernel_rfl)) (by decide))
     generalize xs 6 = x6 at hd6 HQ ⊢; subst hd6
     clear hbf
     go_wp2
     exact HQ.out _ _ (eR _) rfl
    ·
     intro hni o ho r xs W hr hG hd hk hbf Q' hQ; obtain rfl := Option.some.inj ho; clear ho hk hni; simp only [fillAt, dstOf, lc0, lcs, obs, Act.put, lsa, lsz, lss, nz, Nat.reduceAdd] at hQ ⊢; have HQ := lh hQ; have HD := lh hd; have HG := lh hG; clear hQ hd hG
     have hd5 : xs 5 = .slice (some ⟨gl, 0, none⟩) L.length (k + 1) := (HD.out 5 (dk (by kernel_rfl)) (by decide))
     generalize xs 5 = x5 at hd5 HQ ⊢; subst hd5
     have hd7 : xs 7 = .int .i64 ((k : Int) + 1) := (HD.out 7 (dk (by kernel_rfl)) (by decide))
     generalize xs 7 = x7 at hd7 HQ ⊢; subst hd7
     clear hbf
     go_wp2
     exact HQ.out _ _ (eR _) rfl
    ·exact fun h => absurd (by decide) h
    ·
     intro hni o ho r xs W hr hG hd hk hbf Q' hQ; obtain rfl := Option.some.inj ho; clear ho hk hni; simp only [fillAt, dstOf, lc0, lcs, obs, Act.put, lsa, lsz, lss, nz, Nat.reduceAdd] at hQ ⊢; have HQ := lh hQ; have HD := lh hd; have HG := lh hG; clear hQ hd hG
     go_wp2
     exact HQ.out _ _ (eR _) rfl
    ·exact fun h => absurd (by decide) h
    ·
     intro hkn o ho xs W hG hd Q' hQ; obtain rfl := Option.some.inj ho; clear ho hkn; simp only [fillAt, dstOf, lc0, lcs, obs, Act.put, lsa, lsz, lss, nz, Nat.reduceAdd] at hQ ⊢; have HQ := lh hQ; have HD := lh hd; have HG := lh hG; clear hQ hd hG
     have hd3 : xs 3 = .slice (some ⟨gl, 0, none⟩) P.length (k + 1) := (HD.out 3 (dk (by kernel_rfl)) (by decide))
     generalize xs 3 = x3 at hd3 HQ ⊢; subst hd3
     have hd8 : xs 8 = .slice (some ⟨gl, 0, none⟩) 0 0 := (HD.out 8 (dk (by kernel_rfl)) (by decide))
     generalize xs 8 = x8 at hd8 HQ ⊢; subst hd8
     obtain ⟨xW, e0, uR, _, _⟩ := HG.out
     have HXW := lh xW
     have HUR := lh (uR (by decide))
     have HOW := lh (HO4.out.ext (e0 rfl))
     have hsW := (e0 rfl).size
     clear xW e0 uR HG
     go_wp2_with (at_builtin; refine app_from lnT lnE rfl _ _ rfl W3.heap.size _ _ P rfl (by rw [HP.out]; exact owns_take HOW.out k (by omega)) _ (0) _ (L.drop (k + 1)) rfl (by simp; try omega) (fun j u h => by rw [List.drop_eq_nil_of_le (by omega)] at h; simp at h) (by rw [HLk.out]; omega) (by rw [HLk.out]; omega) (by omega) ?_; intro A9 c9 l9 w9 HL HO5 hB hl1 hl2 hg)
     exact HQ.out _ _ (fun i u h => delSt _ _ _ _ _ _ _ _ _ _ i u h) ⟨HXW.out.grown hB (by omega), fun h => absurd h (by decide), fun _ => HUR.out.below hB hlx, fun _ => ⟨by have := hg.size; omega, A9, c9, l9, rfl, HL, HO5⟩, fun h => absurd h (by decide)⟩
    ·
     intro hkn o ho xs W hG hd Q' hQ; obtain rfl := Option.some.inj ho; clear ho hkn; simp only [fillAt, dstOf, lc0, lcs, obs, Act.put, lsa, lsz, lss, nz, Nat.reduceAdd] at hQ ⊢; have HQ := lh hQ; have HD := lh hd; have HG := lh hG; clear hQ hd hG
     have hd10 : xs 10 = .pointer (some ⟨gx, 19, none⟩) := (HD.out 10 (dk (by kernel_rfl)) (by decide))
     obtain ⟨xW, _, uR, o1, _⟩ := HG.out
     obtain ⟨hbs, A9, c9, l9, h9, HL9, ho9⟩ := o1 rfl
     generalize xs 10 = x10 at hd10 HQ ⊢; subst hd10
     generalize xs 9 = x9 at h9 HQ ⊢; subst h9
     have HO9 := lh ho9
     have HXW := lh xW
     have HUR := lh (uR (by decide))
     have hc := (HUR.out.cell 19).trans (rp_g19 _)
     have hfz := HUR.out.free 19
     have hlu := HUR.out.lt
     clear xW uR o1 HG ho9
     go_wp2
     exact HQ.out undef _ (fun i u h => delSt _ _ _ _ _ _ _ _ _ _ i u h) ⟨HXW.out.setCell (by show _ ≤ gx; omega) _, fun h => absurd h (by decide), fun h => absurd h (by decide), fun h => absurd h (by decide), fun _ => ⟨A9, c9, by
      have h := HUR.out.set 19 (.slice A9 l9.length c9)
      rw [rp_set19] at h
      rw [← HL9.out]
      exact h, by
      rw [← HL9.out]
      exact HO9.out.other (by show gx < _; omega) _⟩⟩
    intro _ xs W5 HG _
    obtain ⟨xW, _, _, _, o2⟩ := HG
    obtain ⟨A9, c9, u9, o9⟩ := o2 rfl
    have HXW := lh xW
    have HU9 := lh u9
    have HO9 := lh o9
    clear xW u9 o9 o2
    simp only [fillAt, dstOf, lc0, lcs, obs, Act.put, lsa, lsz, lss, nz, Nat.reduceAdd]
    go_upto_region 22 with (fail)
    refine wp_world (fun W => ∃ X : Rp, Ext W2 W ∧ RowAt W gx (rpC X) ∧ Reads 59 lnL W W.heap.size X.LA X.lines ∧ XOk (1 + n) R.sl X) ⟨{ R with LA := A9, lc := c9, lines := P ++ L.drop (k + 1) }, HXW.out, HU9.out, HO9.out.reads lnE, ?_⟩ ?_
    ·exact ⟨rpOk_lines HRO'.out _ _ _ (by rw [HP.out]; exact mem_cut_ok HLok.out k (k + 1)), by show (P ++ L.drop (k + 1)).length ≤ 10; rw [List.length_append, HLk.out, List.length_drop]; omega, HRt.out.1, HRt.out.2.1, by show okClk ⟨R.lo, R.hi⟩ = true; rw [HRt.out.2.2.1, HRt.out.2.2.2.1]; exact HCk.out, by show R.hi < _; rw [HRt.out.2.2.2.1]; omega, HRt.out.2.2.2.2, rfl⟩
    clear HXW HU9 HO9 HUX4 HXX4 HO4 HLok HCk HRt HSm
    rintro W5 ⟨X, x5, uX, rX, hXo⟩
    have HX5 := lh (HX2.out.trans x5)
    have HXX5 := lh x5
    have HUX5 := lh uX
    have HRD5 := lh rX
    have HXo := lh hXo
    have hs5 := x5.size
    have hlX := uX.lt
    have hl11e := (HU11.out.ext x5).lt
    have kE : rowOf W5 B 0 38 = some (epC (tEp (1 + n))) := (HUE.out.ext (HXX2.out.trans x5)).all rfl (by omega)
    have kX : rowOf W5 gx 0 37 = some (rpC X) := uX.all rfl (by omega)
    have HPl := lh (found_t (n := 1 + n) X hXo.ep hXo.nm hXo.ck hXo.hh hXo.se)
    obtain ⟨⟨N, G⟩, hNG⟩ : ∃ z, checkRp theKeys (tEp (1 + n)) X = z := ⟨_, rfl⟩
    rw [hNG, hXo.sl_] at HPl
    have HCk2 : Hid (∀ (A : Option Addr) (c : Nat) (W : World), Ext W5 W → ReadsKy W W.heap.size A theKeys → Calls Tryz.prog 28 #[.slice A theKeys.length c, .agg (epC (tEp (1 + n))), .agg (rpC X)] W fun e w' => e = .returned (.tuple #[.int .i64 N, .int .i64 G]) ∧ Ext W w') := lh (fun A c W hx h => by
     have h := acheck_any A c theKeys (tEp (1 + n)) X W ring_ok h HEo.out (tEp_short _) (tEp_at _ W) HXo.out.ok (by have := HXo.out.len; omega) (HRD5.out.on hx) (RowAt.ext hk (HX5.out.trans hx))
     rw [hNG] at h
     exact h)
    have HWh := lh (fun (W : World) (hx : Ext W5 W) => rwhole_any X W HXo.out.ok (by have := HXo.out.len; omega) (HRD5.out.on hx))
    have HMk2 := lh (fun (A : Option Addr) (c : Nat) (W : World) (h1 : ReadsStr W W.heap.size A (rpParts X)) (h2 : A = none → c = 0) (hx : Ext W5 W) => rmake_any (theKey 1) 321 A c (rpParts X) W h1 h2 (lens_key (by decide) (by have := rpParts_lens HXo.out.ok (by have := HXo.out.len; omega); omega)) (RowAt.ext hr (HX5.out.trans hx)))
    have hSq := fun W => sel_eql (a := makeN (theKey 1) 321 (rpParts X)) (b := R.sl) ⟨makeN_len _ _ _, makeN_byt _ _ _⟩ HRO'.out.sl W
    have hfX := rp_fits X
    have hfM : fitsRow 16 (dgC (makeN (theKey 1) 321 (rpParts X))) = true := by simp [fitsRow, dgC, Value.oneCell']
    have hfS : fitsRow 16 (dgC R.sl) = true := by simp [fitsRow, dgC, Value.oneCell']
    have HS21 := lh (rp_s21_16 R)
    clear x5 uX rX hXo hNG
    generalize makeN (theKey 1) 321 (rpParts X) = M at *
    generalize R.sl = SL at *
    refine wp_region_soft 8 (softsL [readKs theKeys, .eq (.agg (epC (tEp (1 + n)))), .eq (.agg (rpC X)), .eq (.tuple #[.int .i64 N, .int .i64 G]), .eq (.tuple #[.int .i64 N, .int .i64 G]), .eq (.int .i64 N), .eq (.int .i64 G), .eq (.int .i64 N)]) (by kernel_rfl) (by kernel_rfl) (lt_cons ?_ (lt_cons ?_ (lt_cons ?_ (lt_cons ?_ (lt_cons ?_ (lt_cons ?_ (lt_cons ?_ (lt_cons ?_ (lt_none))))))))) ?_
    any_goals (refine sop rfl fun xs W HW hsW HD Q' HQ => ?_; simp only [fillAt, dstOf, lc0, lcs, obs, Act.put, lsa, lsz, lss, nz, Nat.reduceAdd] at HQ ⊢)
    ·
     go_wp2_with (go_at_call 29; refine (HKs.out _).mono ?_; rintro e w1 ⟨⟨A, c, rfl, h1⟩, hx⟩)
     exact HQ.out _ _ hx ⟨A, c, rfl, h1⟩
    ·
     have hc := (row_extW HW.out (b := B) (by omega) 0 38).trans kE
     go_wp2
     exact HQ.out _ _ (eR _) rfl
    ·
     have hc := (row_extW HW.out (b := gx) (by omega) 0 37).trans kX
     go_wp2
     exact HQ.out _ _ (eR _) rfl
    ·
     have hs0 : (readKs theKeys).S (xs 0) W := (HD.out 0 (dk (by kernel_rfl)))
     have hd1 : xs 1 = .agg (epC (tEp (1 + n))) := (HD.out 1 (dk (by kernel_rfl)))
     generalize xs 1 = x1 at hd1 HQ ⊢; subst hd1
     have hd2 : xs 2 = .agg (rpC X) := (HD.out 2 (dk (by kernel_rfl)))
     generalize xs 2 = x2 at hd2 HQ ⊢; subst hd2
     obtain ⟨A0, c0, h0, hr0⟩ := hs0
     generalize xs 0 = x0 at h0 HQ ⊢; subst h0
     go_wp2_with (go_at_call 28; refine (HCk2.out A0 c0 _ HW.out hr0).mono ?_; rintro e w1 ⟨rfl, hx⟩)
     exact HQ.out _ _ hx rfl
    ·
     have hd3 : xs 3 = .tuple #[.int .i64 N, .int .i64 G] := (HD.out 3 (dk (by kernel_rfl)))
     generalize xs 3 = x3 at hd3 HQ ⊢; subst hd3
     go_wp2
     exact HQ.out _ _ (eR _) rfl
    ·
     have hd4 : xs 4 = .tuple #[.int .i64 N, .int .i64 G] := (HD.out 4 (dk (by kernel_rfl)))
     generalize xs 4 = x4 at hd4 HQ ⊢; subst hd4
     go_wp2
     exact HQ.out _ _ (eR _) rfl
    ·
     have hd4 : xs 4 = .tuple #[.int .i64 N, .int .i64 G] := (HD.out 4 (dk (by kernel_rfl)))
     generalize xs 4 = x4 at hd4 HQ ⊢; subst hd4
     go_wp2
     exact HQ.out _ _ (eR _) rfl
    ·
     have hd5 : xs 5 = .int .i64 N := (HD.out 5 (dk (by kernel_rfl)))
     generalize xs 5 = x5 at hd5 HQ ⊢; subst hd5
     go_wp2
     exact HQ.out _ _ (eR _) rfl
    intro xs W6 hW hS
    have h6 : xs 6 = .int .i64 G := hS 6 (by omega)
    have h7 : xs 7 = .int .i64 N := hS 7 (by omega)
    simp only [fillAt, dstOf, lc0, lcs, obs, Act.put, lsa, lsz, lss, nz, Nat.reduceAdd, List.drop_succ_cons, List.drop_zero, List.drop_nil]
    generalize xs 6 = x6 at *; subst h6
    generalize xs 7 = x7 at *; subst h7
    have HW6 := lh (HX5.out.trans hW)
    have HWW6 := lh hW
    clear hS hW kE kX
    have hs56 := HWW6.out.size
    have kX : rowOf W6 gx 0 37 = some (rpC X) := (HUX5.out.ext HWW6.out).all rfl (by omega)
    have kS : rowOf W6 g 21 16 = some (dgC SL) := ((HU11.out.ext (HXX5.out.trans HWW6.out)).row 21 16).trans (by rw [if_neg (by omega)]; exact HS21.out)
    go_upto_region 23 with (fail)
    refine wp_region_soft 7 (softsL [.eq (.agg (kyC (theKey 1))), .eq (.agg (rpC X)), readS (rpParts X), .eq (.agg (dgC M)), .eq (.pointer (some ⟨g, 21, none⟩)), .eq (.agg (dgC SL)), .eq (.bool (decide (M = SL)))]) (by kernel_rfl) (by kernel_rfl) (lt_cons ?_ (lt_cons ?_ (lt_cons ?_ (lt_cons ?_ (lt_cons ?_ (lt_cons ?_ (lt_cons ?_ (lt_none)))))))) ?_
    any_goals (refine sop rfl fun xs W HW hsW HD Q' HQ => ?_; simp only [fillAt, dstOf, lc0, lcs, obs, Act.put, lsa, lsz, lss, nz, Nat.reduceAdd] at HQ ⊢)
    ·
     go_wp2_with (go_at_call 32; refine (HKy.out 1 _).mono ?_; rintro e w1 ⟨rfl, hx⟩)
     exact HQ.out _ _ hx rfl
    ·
     have hc := (row_extW HW.out (b := gx) (by omega) 0 37).trans kX
     go_wp2
     exact HQ.out _ _ (eR _) rfl
    ·
     have hd1 : xs 1 = .agg (rpC X) := (HD.out 1 (dk (by kernel_rfl)))
     generalize xs 1 = x1 at hd1 HQ ⊢; subst hd1
     go_wp2_with (go_at_call 33; refine (HWh.out _ (HWW6.out.trans HW.out)).mono ?_; rintro e w1 ⟨A, c, rfl, h1, h2, hx⟩)
     exact HQ.out _ _ hx ⟨A, c, rfl, h1, h2⟩
    ·
     have hd0 : xs 0 = .agg (kyC (theKey 1)) := (HD.out 0 (dk (by kernel_rfl)))
     generalize xs 0 = x0 at hd0 HQ ⊢; subst hd0
     obtain ⟨A2, c2, h2, hr2, hz2⟩ : (readS (rpParts X)).S (xs 2) W := (HD.out 2 (dk (by kernel_rfl)))
     generalize xs 2 = x2 at h2 HQ ⊢; subst h2
     go_wp2_with (go_at_call 31; refine (HMk2.out A2 c2 _ hr2 hz2 (HWW6.out.trans HW.out)).mono ?_; rintro e w1 ⟨rfl, hx⟩)
     exact HQ.out _ _ hx rfl
    ·
     go_wp2
     exact HQ.out _ _ (eR _) rfl
    ·
     have hd4 : xs 4 = .pointer (some ⟨g, 21, none⟩) := (HD.out 4 (dk (by kernel_rfl)))
     generalize xs 4 = x4 at hd4 HQ ⊢; subst hd4
     have hc := (row_extW HW.out (b := g) (by omega) 21 16).trans kS
     go_wp2
     exact HQ.out _ _ (eR _) rfl
    ·
     have hd3 : xs 3 = .agg (dgC M) := (HD.out 3 (dk (by kernel_rfl)))
     generalize xs 3 = x3 at hd3 HQ ⊢; subst hd3
     have hd5 : xs 5 = .agg (dgC SL) := (HD.out 5 (dk (by kernel_rfl)))
     generalize xs 5 = x5 at hd5 HQ ⊢; subst hd5
     go_wp2
     exact HQ.out _ _ (eR _) rfl
    intro xs W7 hW hS
    have h6 : xs 6 = .bool (decide (M = SL)) := hS 6 (by omega)
    simp only [fillAt, dstOf, lc0, lcs, obs, Act.put, lsa, lsz, lss, nz, Nat.reduceAdd, List.drop_succ_cons, List.drop_zero, List.drop_nil]
    generalize xs 6 = x6 at *; subst h6
    have HW7 := lh (HW6.out.trans hW)
    have HWW7 := lh hW
    clear hS hW kX kS
    clear HCk2 HWh HMk2 hSq HXo HUX5 HRD5
    by_cases c1 : N = -1
    ·subst c1
     by_cases c2 : G = 8
     ·subst c2
      clear HPl
      go_wp2_with (go_at_call 16; refine (HS.out _ (by (with_reducible repeat first|exact HW7.out|exact eR _|apply eD|apply eN|apply eA|apply eO|apply eS|apply eC);all_goals first|omega|simp <;> omega)).mono ?_; rintro e w' ⟨rfl, hxl⟩; obtain ⟨xl, rfl⟩ := hxl.asLater; clear hxl)
      go_ret
      exact ⟨ret_bool (by first | rfl | simp [*]), (by (with_reducible repeat first|exact HW7.out|exact eR _|apply eD|apply eN|apply eA|apply eO|apply eS|apply eC);all_goals first|omega|simp <;> omega)⟩
     ·have e2 : (G == 8) = false := beq_false_of_ne c2
      have hm : decide (M = SL) = true := by have := HPl.out; simpa [c2] using this
      clear HPl
      go_wp2_with (go_at_call 16; refine (HS.out _ (by (with_reducible repeat first|exact HW7.out|exact eR _|apply eD|apply eN|apply eA|apply eO|apply eS|apply eC);all_goals first|omega|simp <;> omega)).mono ?_; rintro e w' ⟨rfl, hxl⟩; obtain ⟨xl, rfl⟩ := hxl.asLater; clear hxl)
      go_ret
      exact ⟨ret_bool (by first | rfl | simp [*]), (by (with_reducible repeat first|exact HW7.out|exact eR _|apply eD|apply eN|apply eA|apply eO|apply eS|apply eC);all_goals first|omega|simp <;> omega)⟩
    ·have e1 : (N == -1) = false := beq_false_of_ne c1
     have e4 : decide (N = -1) = false := by simpa using c1
     have hm : decide (M = SL) = true := by have := HPl.out; simpa [c1] using this
     clear HPl
     go_wp2_with (go_at_call 16; refine (HS.out _ (by (with_reducible repeat first|exact HW7.out|exact eR _|apply eD|apply eN|apply eA|apply eO|apply eS|apply eC);all_goals first|omega|simp <;> omega)).mono ?_; rintro e w' ⟨rfl, hxl⟩; obtain ⟨xl, rfl⟩ := hxl.asLater; clear hxl)
     go_ret
     exact ⟨ret_bool (by first | rfl | simp [*]), (by (with_reducible repeat first|exact HW7.out|exact eR _|apply eD|apply eN|apply eA|apply eO|apply eS|apply eC);all_goals first|omega|simp <;> omega)⟩
   ·
    refine wp_region_stepsC 12 (by kernel_rfl) [9, 11] (DelG W2 W4 gx W3.heap.size gl (c7) R L (P ++ L.drop (k + 1))) (fun i => (softRs [.eq (.pointer (some ⟨gx, 19, none⟩)), .eq (.slice (some ⟨gl, 0, none⟩) L.length (c7)), .eq (.int .i64 k), .eq (.slice (some ⟨gl, 0, none⟩) P.length (c7)), .eq (.pointer (some ⟨gx, 19, none⟩)), .eq (.slice (some ⟨gl, 0, none⟩) L.length (c7)), .eq (.int .i64 k), .eq (.int .i64 ((k : Int) + 1)), .eq (.slice (some ⟨gl, (k + 1) * 59, none⟩) (L.length - (k + 1)) (c7 - (k + 1))), .any, .eq (.pointer (some ⟨gx, 19, none⟩)), .any] i).S) (by kernel_rfl) (by kernel_rfl) (by kernel_rfl) (by kernel_rfl) ?_ delG_x delG_e (fun i => (softRs _ i).on) (lt_cons ?_ (lt_cons ?_ (lt_cons ?_ (lt_cons ?_ (lt_cons ?_ (lt_cons ?_ (lt_cons ?_ (lt_cons ?_ (lt_cons ?_ (lt_cons ?_ (lt_cons ?_ (lt_cons ?_ lt_none)))))))))))) (lt_cons ?_ (lt_cons ?_ lt_none)) ?_ (by decide)
    ·exact ⟨HXX4.out.drew, fun _ => (Ext.refl W4).drew, fun _ => HUX4.out.drew, fun h => absurd h (by decide), fun h => absurd h (by decide)⟩
    ·
     intro hni o ho r xs W hr hG hd hk hbf Q' hQ; obtain rfl := Option.some.inj ho; clear ho hk hni; simp only [fillAt, dstOf, lc0, lcs, obs, Act.put, lsa, lsz, lss, nz, Nat.reduceAdd] at hQ ⊢; have HQ := lh hQ; have HD := lh hd; have HG := lh hG; clear hQ hd hG
     go_wp2
     exact HQ.out _ _ (eR _) rfl
    ·
     intro hni o ho r xs W hr hG hd hk hbf Q' hQ; obtain rfl := Option.some.inj ho; clear ho hk hni; simp only [fillAt, dstOf, lc0, lcs, obs, Act.put, lsa, lsz, lss, nz, Nat.reduceAdd] at hQ ⊢; have HQ := lh hQ; have HD := lh hd; have HG := lh hG; clear hQ hd hG
     have hr0 : r = 0 := by
      obtain ⟨S, hn, hS, hcl⟩ := hbf
      rcases Nat.eq_zero_or_pos r with h | h
      ·exact h
      ·exact absurd (hcl 3 (by decide) (hcl 9 (by decide) (hS 0 h) 3 (dk (by kernel_rfl))) 1 (dk (by kernel_rfl))) hn
     have hd0 : xs 0 = .pointer (some ⟨gx, 19, none⟩) := (HD.out 0 (dk (by kernel_rfl)) (by decide))
     generalize xs 0 = x0 at hd0 HQ ⊢; subst hd0
     have uR := HG.out.2.2.1 (by omega)
     have hc : W.cell? ⟨gx, 19, none⟩ = some (.slice (some ⟨gl, 0, none⟩) L.length (c7)) := (uR.cell 19).trans (rp_g19 _)
     have hlRR := uR.lt
     clear uR hbf
     go_wp2
     exact HQ.out _ _ (eR _) rfl
    ·
     intro hni o ho r xs W hr hG hd hk hbf Q' hQ; obtain rfl := Option.some.inj ho; clear ho hk hni; simp only [fillAt, dstOf, lc0, lcs, obs, Act.put, lsa, lsz, lss, nz, Nat.reduceAdd] at hQ ⊢; have HQ := lh hQ; have HD := lh hd; have HG := lh hG; clear hQ hd hG
     go_wp2
     exact HQ.out _ _ (eR _) rfl
    ·
     intro hni o ho r xs W hr hG hd hk hbf Q' hQ; obtain rfl := Option.some.inj ho; clear ho hk hni; simp only [fillAt, dstOf, lc0, lcs, obs, Act.put, lsa, lsz, lss, nz, Nat.reduceAdd] at hQ ⊢; have HQ := lh hQ; have HD := lh hd; have HG := lh hG; clear hQ hd hG
     have hd1 : xs 1 = .slice (some ⟨gl, 0, none⟩) L.length (c7) := (HD.out 1 (dk (by kernel_rfl)) (by decide))
     generalize xs 1 = x1 at hd1 HQ ⊢; subst hd1
     have hd2 : xs 2 = .int .i64 k := (HD.out 2 (dk (by kernel_rfl)) (by decide))
     generalize xs 2 = x2 at hd2 HQ ⊢; subst hd2
     clear hbf
     go_wp2
     exact HQ.out _ _ (eR _) (by show _ = _; rw [HLk.out])
    ·
     intro hni o ho r xs W hr hG hd hk hbf Q' hQ; obtain rfl := Option.some.inj ho; clear ho hk hni; simp only [fillAt, dstOf, lc0, lcs, obs, Act.put, lsa, lsz, lss, nz, Nat.reduceAdd] at hQ ⊢; have HQ := lh hQ; have HD := lh hd; have HG := lh hG; clear hQ hd hG
     go_wp2
     exact HQ.out _ _ (eR _) rfl
    ·
     intro hni o ho r xs W hr hG hd hk hbf Q' hQ; obtain rfl := Option.some.inj ho; clear ho hk hni; simp only [fillAt, dstOf, lc0, lcs, obs, Act.put, lsa, lsz, lss, nz, Nat.reduceAdd] at hQ ⊢; have HQ := lh hQ; have HD := lh hd; have HG := lh hG; clear hQ hd hG
     have hr0 : r = 0 := by
      obtain ⟨S, hn, hS, hcl⟩ := hbf
      rcases Nat.eq_zero_or_pos r with h | h
      ·exact h
      ·exact absurd (hcl 8 (by decide) (hcl 9 (by decide) (hS 0 h) 8 (dk (by kernel_rfl))) 5 (dk (by kernel_rfl))) hn
     have hd4 : xs 4 = .pointer (some ⟨gx, 19, none⟩) := (HD.out 4 (dk (by kernel_rfl)) (by decide))
     generalize xs 4 = x4 at hd4 HQ ⊢; subst hd4
     have uR := HG.out.2.2.1 (by omega)
     have hc : W.cell? ⟨gx, 19, none⟩ = some (.slice (some ⟨gl, 0, none⟩) L.length (c7)) := (uR.cell 19).trans (rp_g19 _)
     have hlRR := uR.lt
     clear uR hbf
     go_wp2
     exact HQ.out _ _ (eR _) rfl
    ·
     intro hni o ho r xs W hr hG hd hk hbf Q' hQ; obtain rfl := Option.some.inj ho; clear ho hk hni; simp only [fillAt, dstOf, lc0, lcs, obs, Act.put, lsa, lsz, lss, nz, Nat.reduceAdd] at hQ ⊢; have HQ := lh hQ; have HD := lh hd; have HG := lh hG; clear hQ hd hG
     go_wp2
     exact HQ.out _ _ (eR _) rfl
    ·
     intro hni o ho r xs W hr hG hd hk hbf Q' hQ; obtain rfl := Option.some.inj ho; clear ho hk hni; simp only [fillAt, dstOf, lc0, lcs, obs, Act.put, lsa, lsz, lss, nz, Nat.reduceAdd] at hQ ⊢; have HQ := lh hQ; have HD := lh hd; have HG := lh hG; clear hQ hd hG
     have hd6 : xs 6 = .int .i64 k := (HD.out 6 (dk (by kernel_rfl)) (by decide))
     generalize xs 6 = x6 at hd6 HQ ⊢; subst hd6
     clear hbf
     go_wp2
     exact HQ.out _ _ (eR _) rfl
    ·
     intro hni o ho r xs W hr hG hd hk hbf Q' hQ; obtain rfl := Option.some.inj ho; clear ho hk hni; simp only [fillAt, dstOf, lc0, lcs, obs, Act.put, lsa, lsz, lss, nz, Nat.reduceAdd] at hQ ⊢; have HQ := lh hQ; have HD := lh hd; have HG := lh hG; clear hQ hd hG
     have hd5 : xs 5 = .slice (some ⟨gl, 0, none⟩) L.length (c7) := (HD.out 5 (dk (by kernel_rfl)) (by decide))
     generalize xs 5 = x5 at hd5 HQ ⊢; subst hd5
     have hd7 : xs 7 = .int .i64 ((k : Int) + 1) := (HD.out 7 (dk (by kernel_rfl)) (by decide))
     generalize xs 7 = x7 at hd7 HQ ⊢; subst hd7
     clear hbf
     go_wp2
     exact HQ.out _ _ (eR _) rfl
    ·exact fun h => absurd (by decide) h
    ·
     intro hni o ho r xs W hr hG hd hk hbf Q' hQ; obtain rfl := Option.some.inj ho; clear ho hk hni; simp only [fillAt, dstOf, lc0, lcs, obs, Act.put, lsa, lsz, lss, nz, Nat.reduceAdd] at hQ ⊢; have HQ := lh hQ; have HD := lh hd; have HG := lh hG; clear hQ hd hG
     go_wp2
     exact HQ.out _ _ (eR _) rfl
    ·exact fun h => absurd (by decide) h
    ·
     intro hkn o ho xs W hG hd Q' hQ; obtain rfl := Option.some.inj ho; clear ho hkn; simp only [fillAt, dstOf, lc0, lcs, obs, Act.put, lsa, lsz, lss, nz, Nat.reduceAdd] at hQ ⊢; have HQ := lh hQ; have HD := lh hd; have HG := lh hG; clear hQ hd hG
     have hd3 : xs 3 = .slice (some ⟨gl, 0, none⟩) P.length (c7) := (HD.out 3 (dk (by kernel_rfl)) (by decide))
     generalize xs 3 = x3 at hd3 HQ ⊢; subst hd3
     have hd8 : xs 8 = .slice (some ⟨gl, (k + 1) * 59, none⟩) (L.length - (k + 1)) (c7 - (k + 1)) := (HD.out 8 (dk (by kernel_rfl)) (by decide))
     generalize xs 8 = x8 at hd8 HQ ⊢; subst hd8
     obtain ⟨xW, e0, uR, _, _⟩ := HG.out
     have HXW := lh xW
     have HUR := lh (uR (by decide))
     have HOW := lh (HO4.out.ext (e0 rfl))
     have hsW := (e0 rfl).size
     clear xW e0 uR HG
     go_wp2_with (at_builtin; refine app_from lnT lnE rfl _ _ rfl W3.heap.size _ _ P rfl (by rw [HP.out]; exact owns_take HOW.out k (by omega)) _ (L.length - (k + 1)) _ (L.drop (k + 1)) rfl (by simp; try omega) (drop_cells HOW.out (k + 1) _ rfl) (by rw [HLk.out]; omega) (by rw [HLk.out]; omega) (by omega) ?_; intro A9 c9 l9 w9 HL HO5 hB hl1 hl2 hg)
     exact HQ.out _ _ (fun i u h => delSt _ _ _ _ _ _ _ _ _ _ i u h) ⟨HXW.out.grown hB (by omega), fun h => absurd h (by decide), fun _ => HUR.out.below hB hlx, fun _ => ⟨by have := hg.size; omega, A9, c9, l9, rfl, HL, HO5⟩, fun h => absurd h (by decide)⟩
    ·
     intro hkn o ho xs W hG hd Q' hQ; obtain rfl := Option.some.inj ho; clear ho hkn; simp only [fillAt, dstOf, lc0, lcs, obs, Act.put, lsa, lsz, lss, nz, Nat.reduceAdd] at hQ ⊢; have HQ := lh hQ; have HD := lh hd; have HG := lh hG; clear hQ hd hG
     have hd10 : xs 10 = .pointer (some ⟨gx, 19, none⟩) := (HD.out 10 (dk (by kernel_rfl)) (by decide))
     obtain ⟨xW, _, uR, o1, _⟩ := HG.out
     obtain ⟨hbs, A9, c9, l9, h9, HL9, ho9⟩ := o1 rfl
     generalize xs 10 = x10 at hd10 HQ ⊢; subst hd10
     generalize xs 9 = x9 at h9 HQ ⊢; subst h9
     have HO9 := lh ho9
     have HXW := lh xW
     have HUR := lh (uR (by decide))
     have hc := (HUR.out.cell 19).trans (rp_g19 _)
     have hfz := HUR.out.free 19
     have hlu := HUR.out.lt
     clear xW uR o1 HG ho9
     go_wp2
     exact HQ.out undef _ (fun i u h => delSt _ _ _ _ _ _ _ _ _ _ i u h) ⟨HXW.out.setCell (by show _ ≤ gx; omega) _, fun h => absurd h (by decide), fun h => absurd h (by decide), fun h => absurd h (by decide), fun _ => ⟨A9, c9, by
      have h := HUR.out.set 19 (.slice A9 l9.length c9)
      rw [rp_set19] at h
      rw [← HL9.out]
      exact h, by
      rw [← HL9.out]
      exact HO9.out.other (by show gx < _; omega) _⟩⟩
    intro _ xs W5 HG _
    obtain ⟨xW, _, _, _, o2⟩ := HG
    obtain ⟨A9, c9, u9, o9⟩ := o2 rfl
    have HXW := lh xW
    have HU9 := lh u9
    have HO9 := lh o9
    clear xW u9 o9 o2
    simp only [fillAt, dstOf, lc0, lcs, obs, Act.put, lsa, lsz, lss, nz, Nat.reduceAdd]
    go_upto_region 22 with (fail)
    refine wp_world (fun W => ∃ X : Rp, Ext W2 W ∧ RowAt W gx (rpC X) ∧ Reads 59 lnL W W.heap.size X.LA X.lines ∧ XOk (1 + n) R.sl X) ⟨{ R with LA := A9, lc := c9, lines := P ++ L.drop (k + 1) }, HXW.out, HU9.out, HO9.out.reads lnE, ?_⟩ ?_
    ·exact ⟨rpOk_lines HRO'.out _ _ _ (by rw [HP.out]; exact mem_cut_ok HLok.out k (k + 1)), by show (P ++ L.drop (k + 1)).length ≤ 10; rw [List.length_append, HLk.out, List.length_drop]; omega, HRt.out.1, HRt.out.2.1, by show okClk ⟨R.lo, R.hi⟩ = true; rw [HRt.out.2.2.1, HRt.out.2.2.2.1]; exact HCk.out, by show R.hi < _; rw [HRt.out.2.2.2.1]; omega, HRt.out.2.2.2.2, rfl⟩
    clear HXW HU9 HO9 HUX4 HXX4 HO4 HLok HCk HRt HSm
    rintro W5 ⟨X, x5, uX, rX, hXo⟩
    have HX5 := lh (HX2.out.trans x5)
    have HXX5 := lh x5
    have HUX5 := lh uX
    have HRD5 := lh rX
    have HXo := lh hXo
    have hs5 := x5.size
    have hlX := uX.lt
    have hl11e := (HU11.out.ext x5).lt
    have kE : rowOf W5 B 0 38 = some (epC (tEp (1 + n))) := (HUE.out.ext (HXX2.out.trans x5)).all rfl (by omega)
    have kX : rowOf W5 gx 0 37 = some (rpC X) := uX.all rfl (by omega)
    have HPl := lh (found_t (n := 1 + n) X hXo.ep hXo.nm hXo.ck hXo.hh hXo.se)
    obtain ⟨⟨N, G⟩, hNG⟩ : ∃ z, checkRp theKeys (tEp (1 + n)) X = z := ⟨_, rfl⟩
    rw [hNG, hXo.sl_] at HPl
    have HCk2 : Hid (∀ (A : Option Addr) (c : Nat) (W : World), Ext W5 W → ReadsKy W W.heap.size A theKeys → Calls Tryz.prog 28 #[.slice A theKeys.length c, .agg (epC (tEp (1 + n))), .agg (rpC X)] W fun e w' => e = .returned (.tuple #[.int .i64 N, .int .i64 G]) ∧ Ext W w') := lh (fun A c W hx h => by
     have h := acheck_any A c theKeys (tEp (1 + n)) X W ring_ok h HEo.out (tEp_short _) (tEp_at _ W) HXo.out.ok (by have := HXo.out.len; omega) (HRD5.out.on hx) (RowAt.ext hk (HX5.out.trans hx))
     rw [hNG] at h
     exact h)
    have HWh := lh (fun (W : World) (hx : Ext W5 W) => rwhole_any X W HXo.out.ok (by have := HXo.out.len; omega) (HRD5.out.on hx))
    have HMk2 := lh (fun (A : Option Addr) (c : Nat) (W : World) (h1 : ReadsStr W W.heap.size A (rpParts X)) (h2 : A = none → c = 0) (hx : Ext W5 W) => rmake_any (theKey 1) 321 A c (rpParts X) W h1 h2 (lens_key (by decide) (by have := rpParts_lens HXo.out.ok (by have := HXo.out.len; omega); omega)) (RowAt.ext hr (HX5.out.trans hx)))
    have hSq := fun W => sel_eql (a := makeN (theKey 1) 321 (rpParts X)) (b := R.sl) ⟨makeN_len _ _ _, makeN_byt _ _ _⟩ HRO'.out.sl W
    have hfX := rp_fits X
    have hfM : fitsRow 16 (dgC (makeN (theKey 1) 321 (rpParts X))) = true := by simp [fitsRow, dgC, Value.oneCell']
    have hfS : fitsRow 16 (dgC R.sl) = true := by simp [fitsRow, dgC, Value.oneCell']
    have HS21 := lh (rp_s21_16 R)
    clear x5 uX rX hXo hNG
    generalize makeN (theKey 1) 321 (rpParts X) = M at *
    generalize R.sl = SL at *
    refine wp_region_soft 8 (softsL [readKs theKeys, .eq (.agg (epC (tEp (1 + n)))), .eq (.agg (rpC X)), .eq (.tuple #[.int .i64 N, .int .i64 G]), .eq (.tuple #[.int .i64 N, .int .i64 G]), .eq (.int .i64 N), .eq (.int .i64 G), .eq (.int .i64 N)]) (by kernel_rfl) (by kernel_rfl) (lt_cons ?_ (lt_cons ?_ (lt_cons ?_ (lt_cons ?_ (lt_cons ?_ (lt_cons ?_ (lt_cons ?_ (lt_cons ?_ (lt_none))))))))) ?_
    any_goals (refine sop rfl fun xs W HW hsW HD Q' HQ => ?_; simp only [fillAt, dstOf, lc0, lcs, obs, Act.put, lsa, lsz, lss, nz, Nat.reduceAdd] at HQ ⊢)
    ·
     go_wp2_with (go_at_call 29; refine (HKs.out _).mono ?_; rintro e w1 ⟨⟨A, c, rfl, h1⟩, hx⟩)
     exact HQ.out _ _ hx ⟨A, c, rfl, h1⟩
    ·
     have hc := (row_extW HW.out (b := B) (by omega) 0 38).trans kE
     go_wp2
     exact HQ.out _ _ (eR _) rfl
    ·
     have hc := (row_extW HW.out (b := gx) (by omega) 0 37).trans kX
     go_wp2
     exact HQ.out _ _ (eR _) rfl
    ·
     have hs0 : (readKs theKeys).S (xs 0) W := (HD.out 0 (dk (by kernel_rfl)))
     have hd1 : xs 1 = .agg (epC (tEp (1 + n))) := (HD.out 1 (dk (by kernel_rfl)))
     generalize xs 1 = x1 at hd1 HQ ⊢; subst hd1
     have hd2 : xs 2 = .agg (rpC X) := (HD.out 2 (dk (by kernel_rfl)))
     generalize xs 2 = x2 at hd2 HQ ⊢; subst hd2
     obtain ⟨A0, c0, h0, hr0⟩ := hs0
     generalize xs 0 = x0 at h0 HQ ⊢; subst h0
     go_wp2_with (go_at_call 28; refine (HCk2.out A0 c0 _ HW.out hr0).mono ?_; rintro e w1 ⟨rfl, hx⟩)
     exact HQ.out _ _ hx rfl
    ·
     have hd3 : xs 3 = .tuple #[.int .i64 N, .int .i64 G] := (HD.out 3 (dk (by kernel_rfl)))
     generalize xs 3 = x3 at hd3 HQ ⊢; subst hd3
     go_wp2
     exact HQ.out _ _ (eR _) rfl
    ·
     have hd4 : xs 4 = .tuple #[.int .i64 N, .int .i64 G] := (HD.out 4 (dk (by kernel_rfl)))
     generalize xs 4 = x4 at hd4 HQ ⊢; subst hd4
     go_wp2
     exact HQ.out _ _ (eR _) rfl
    ·
     have hd4 : xs 4 = .tuple #[.int .i64 N, .int .i64 G] := (HD.out 4 (dk (by kernel_rfl)))
     generalize xs 4 = x4 at hd4 HQ ⊢; subst hd4
     go_wp2
     exact HQ.out _ _ (eR _) rfl
    ·
     have hd5 : xs 5 = .int .i64 N := (HD.out 5 (dk (by kernel_rfl)))
     generalize xs 5 = x5 at hd5 HQ ⊢; subst hd5
     go_wp2
     exact HQ.out _ _ (eR _) rfl
    intro xs W6 hW hS
    have h6 : xs 6 = .int .i64 G := hS 6 (by omega)
    have h7 : xs 7 = .int .i64 N := hS 7 (by omega)
    simp only [fillAt, dstOf, lc0, lcs, obs, Act.put, lsa, lsz, lss, nz, Nat.reduceAdd, List.drop_succ_cons, List.drop_zero, List.drop_nil]
    generalize xs 6 = x6 at *; subst h6
    generalize xs 7 = x7 at *; subst h7
    have HW6 := lh (HX5.out.trans hW)
    have HWW6 := lh hW
    clear hS hW kE kX
    have hs56 := HWW6.out.size
    have kX : rowOf W6 gx 0 37 = some (rpC X) := (HUX5.out.ext HWW6.out).all rfl (by omega)
    have kS : rowOf W6 g 21 16 = some (dgC SL) := ((HU11.out.ext (HXX5.out.trans HWW6.out)).row 21 16).trans (by rw [if_neg (by omega)]; exact HS21.out)
    go_upto_region 23 with (fail)
    refine wp_region_soft 7 (softsL [.eq (.agg (kyC (theKey 1))), .eq (.agg (rpC X)), readS (rpParts X), .eq (.agg (dgC M)), .eq (.pointer (some ⟨g, 21, none⟩)), .eq (.agg (dgC SL)), .eq (.bool (decide (M = SL)))]) (by kernel_rfl) (by kernel_rfl) (lt_cons ?_ (lt_cons ?_ (lt_cons ?_ (lt_cons ?_ (lt_cons ?_ (lt_cons ?_ (lt_cons ?_ (lt_none)))))))) ?_
    any_goals (refine sop rfl fun xs W HW hsW HD Q' HQ => ?_; simp only [fillAt, dstOf, lc0, lcs, obs, Act.put, lsa, lsz, lss, nz, Nat.reduceAdd] at HQ ⊢)
    ·
     go_wp2_with (go_at_call 32; refine (HKy.out 1 _).mono ?_; rintro e w1 ⟨rfl, hx⟩)
     exact HQ.out _ _ hx rfl
    ·
     have hc := (row_extW HW.out (b := gx) (by omega) 0 37).trans kX
     go_wp2
     exact HQ.out _ _ (eR _) rfl
    ·
     have hd1 : xs 1 = .agg (rpC X) := (HD.out 1 (dk (by kernel_rfl)))
     generalize xs 1 = x1 at hd1 HQ ⊢; subst hd1
     go_wp2_with (go_at_call 33; refine (HWh.out _ (HWW6.out.trans HW.out)).mono ?_; rintro e w1 ⟨A, c, rfl, h1, h2, hx⟩)
     exact HQ.out _ _ hx ⟨A, c, rfl, h1, h2⟩
    ·
     have hd0 : xs 0 = .agg (kyC (theKey 1)) := (HD.out 0 (dk (by kernel_rfl)))
     generalize xs 0 = x0 at hd0 HQ ⊢; subst hd0
     obtain ⟨A2, c2, h2, hr2, hz2⟩ : (readS (rpParts X)).S (xs 2) W := (HD.out 2 (dk (by kernel_rfl)))
     generalize xs 2 = x2 at h2 HQ ⊢; subst h2
     go_wp2_with (go_at_call 31; refine (HMk2.out A2 c2 _ hr2 hz2 (HWW6.out.trans HW.out)).mono ?_; rintro e w1 ⟨rfl, hx⟩)
     exact HQ.out _ _ hx rfl
    ·
     go_wp2
     exact HQ.out _ _ (eR _) rfl
    ·
     have hd4 : xs 4 = .pointer (some ⟨g, 21, none⟩) := (HD.out 4 (dk (by kernel_rfl)))
     generalize xs 4 = x4 at hd4 HQ ⊢; subst hd4
     have hc := (row_extW HW.out (b := g) (by omega) 21 16).trans kS
     go_wp2
     exact HQ.out _ _ (eR _) rfl
    ·
     have hd3 : xs 3 = .agg (dgC M) := (HD.out 3 (dk (by kernel_rfl)))
     generalize xs 3 = x3 at hd3 HQ ⊢; subst hd3
     have hd5 : xs 5 = .agg (dgC SL) := (HD.out 5 (dk (by kernel_rfl)))
     generalize xs 5 = x5 at hd5 HQ ⊢; subst hd5
     go_wp2
     exact HQ.out _ _ (eR _) rfl
    intro xs W7 hW hS
    have h6 : xs 6 = .bool (decide (M = SL)) := hS 6 (by omega)
    simp only [fillAt, dstOf, lc0, lcs, obs, Act.put, lsa, lsz, lss, nz, Nat.reduceAdd, List.drop_succ_cons, List.drop_zero, List.drop_nil]
    generalize xs 6 = x6 at *; subst h6
    have HW7 := lh (HW6.out.trans hW)
    have HWW7 := lh hW
    clear hS hW kX kS
    clear HCk2 HWh HMk2 hSq HXo HUX5 HRD5
    by_cases c1 : N = -1
    ·subst c1
     by_cases c2 : G = 8
     ·subst c2
      clear HPl
      go_wp2_with (go_at_call 16; refine (HS.out _ (by (with_reducible repeat first|exact HW7.out|exact eR _|apply eD|apply eN|apply eA|apply eO|apply eS|apply eC);all_goals first|omega|simp <;> omega)).mono ?_; rintro e w' ⟨rfl, hxl⟩; obtain ⟨xl, rfl⟩ := hxl.asLater; clear hxl)
      go_ret
      exact ⟨ret_bool (by first | rfl | simp [*]), (by (with_reducible repeat first|exact HW7.out|exact eR _|apply eD|apply eN|apply eA|apply eO|apply eS|apply eC);all_goals first|omega|simp <;> omega)⟩
     ·have e2 : (G == 8) = false := beq_false_of_ne c2
      have hm : decide (M = SL) = true := by have := HPl.out; simpa [c2] using this
      clear HPl
      go_wp2_with (go_at_call 16; refine (HS.out _ (by (with_reducible repeat first|exact HW7.out|exact eR _|apply eD|apply eN|apply eA|apply eO|apply eS|apply eC);all_goals first|omega|simp <;> omega)).mono ?_; rintro e w' ⟨rfl, hxl⟩; obtain ⟨xl, rfl⟩ := hxl.asLater; clear hxl)
      go_ret
      exact ⟨ret_bool (by first | rfl | simp [*]), (by (with_reducible repeat first|exact HW7.out|exact eR _|apply eD|apply eN|apply eA|apply eO|apply eS|apply eC);all_goals first|omega|simp <;> omega)⟩
    ·have e1 : (N == -1) = false := beq_false_of_ne c1
     have e4 : decide (N = -1) = false := by simpa using c1
     have hm : decide (M = SL) = true := by have := HPl.out; simpa [c1] using this
     clear HPl
     go_wp2_with (go_at_call 16; refine (HS.out _ (by (with_reducible repeat first|exact HW7.out|exact eR _|apply eD|apply eN|apply eA|apply eO|apply eS|apply eC);all_goals first|omega|simp <;> omega)).mono ?_; rintro e w' ⟨rfl, hxl⟩; obtain ⟨xl, rfl⟩ := hxl.asLater; clear hxl)
     go_ret
     exact ⟨ret_bool (by first | rfl | simp [*]), (by (with_reducible repeat first|exact HW7.out|exact eR _|apply eD|apply eN|apply eA|apply eO|apply eS|apply eC);all_goals first|omega|simp <;> omega)⟩
  have HFz : Hid (∀ i, W4.frozen? ⟨gl, i, none⟩ = false) := lh (fun i => by
   rcases HO4.out.cases with ⟨e, _, _⟩ | ⟨g', cur, e, _, hh, _⟩
   ·cases e
   ·injection e with e
    injection e with e1 e2
    subst e1
    simp [World.frozen?, hh])
  obtain ⟨off, hoff⟩ : ∃ o : Nat, 0 = o := ⟨0, rfl⟩
  have HRD4 : Hid (Reads 59 lnL W4 W4.heap.size (some ⟨gl, off, none⟩) L) := lh (by subst hoff; exact HO4.out.reads lnE)
  have HUX4' : Hid (RowAt W4 gx (rpC { R with LA := some ⟨gl, off, none⟩, lc := c7, lines := L })) := lh (by subst hoff; exact HUX4.out)
  have hcel : ∀ j v, (lnL L[k])[j]? = some v → W4.cell? ⟨gl, off + k * 59 + j, none⟩ = some v := by
   obtain ⟨b', off', e, _, _, hc⟩ := reads_at lnE HRD4.out k hkL
   injection e with e
   injection e with e1 e2
   subst e1 e2
   exact hc
  clear HUX4 HO4 hoff
  have HUX4 := HUX4'
  have q19 : W4.cell? ⟨gx, 19, none⟩ = some (.slice (some ⟨gl, off, none⟩) L.length c7) := (HUX4.out.cell 19).trans (rp_g19 _)
  clear HUX4'
  rcases hq6 with rfl | rfl | rfl | rfl | h4 | h5
  ·
   obtain ⟨z, hz⟩ : ∃ z, L[k].site = z := ⟨_, rfl⟩
   have hsm := (HSm.out L[k] (List.getElem_mem hkL)).1
   rw [hz] at hsm
   obtain ⟨z0, z1⟩ := hsm
   have c8 : W4.cell? ⟨gl, off + k * 59, none⟩ = some (.int .i64 z) := by rw [← hz]; exact hcel 0 _ rfl
   have f8 : W4.frozen? ⟨gl, off + k * 59, none⟩ = false := HFz.out _
   have HXk : Hid (LnOk ({ L[k] with site := z + by_ })) := lh (lnOk_site (HLok.out _ (List.getElem_mem hkL)) (by unfold i64; omega))
   have HSx : Hid (lnL ({ L[k] with site := z + by_ }) = (lnL L[k]).set 0 (.int .i64 (z + by_))) := lh (ln_set0 _ _)
   clear hz hcel HSm
   go_upto_region 13 with (fail)
   refine wp_region_later_tail 14 (by kernel_rfl) (by kernel_rfl) ?_
   simp only [List.take_succ_cons, List.take_zero, List.drop_succ_cons, List.drop_zero]
   repeat (first | go_big_quiet_step ((fail)) | quiet_step ((fail)))
   refine wpQuiet_nil ?_
   rintro _ ⟨xq, rfl⟩
   go_upto_region 22 with (fail)
   refine wp_world (fun W => ∃ X : Rp, Ext W2 W ∧ RowAt W gx (rpC X) ∧ Reads 59 lnL W W.heap.size X.LA X.lines ∧ XOk (1 + n) R.sl X) ⟨{ R with LA := some ⟨gl, off, none⟩, lc := c7, lines := L.set k ({ L[k] with site := z + by_ }) }, ?_, ?_, ?_, ?_⟩ ?_
   ·exact Ext.setCell (HXX4.out.onto _) (by show _ ≤ gl; omega) _
   ·rw [rp_lens_eq { R with LA := some ⟨gl, off, none⟩, lc := c7 } (show (L.set k ({ L[k] with site := z + by_ })).length = L.length by simp)]
    exact (HUX4.out.later _).other (by show gx ≠ gl; omega) _
   ·rw [World.size_setCell]
    exact reads_setAt ((HRD4.out).on (ext_later W4 xq)) k hkL 0 (by omega) (.int .i64 (z + by_)) ({ L[k] with site := z + by_ }) HSx.out
   ·exact ⟨rpOk_lines HRO'.out _ _ _ (mem_set_ok HLok.out k HXk.out), by show (L.set k _).length ≤ 10; simp; omega, HRt.out.1, HRt.out.2.1, by show okClk ⟨R.lo, R.hi⟩ = true; rw [HRt.out.2.2.1, HRt.out.2.2.2.1]; exact HCk.out, by show R.hi < _; rw [HRt.out.2.2.2.1]; omega, HRt.out.2.2.2.2, rfl⟩
   clear HUX4 HRD4 HXX4 HXk HSx HFz HLok HCk HRt c8 f8 z0 z1 q19
   rintro W5 ⟨X, x5, uX, rX, hXo⟩
   have HX5 := lh (HX2.out.trans x5)
   have HXX5 := lh x5
   have HUX5 := lh uX
   have HRD5 := lh rX
   have HXo := lh hXo
   have hs5 := x5.size
   have hlX := uX.lt
   have hl11e := (HU11.out.ext x5).lt
   have kE : rowOf W5 B 0 38 = some (epC (tEp (1 + n))) := (HUE.out.ext (HXX2.out.trans x5)).all rfl (by omega)
   have kX : rowOf W5 gx 0 37 = some (rpC X) := uX.all rfl (by omega)
   have HPl := lh (found_t (n := 1 + n) X hXo.ep hXo.nm hXo.ck hXo.hh hXo.se)
   obtain ⟨⟨N, G⟩, hNG⟩ : ∃ z, checkRp theKeys (tEp (1 + n)) X = z := ⟨_, rfl⟩
   rw [hNG, hXo.sl_] at HPl
   have HCk2 : Hid (∀ (A : Option Addr) (c : Nat) (W : World), Ext W5 W → ReadsKy W W.heap.size A theKeys → Calls Tryz.prog 28 #[.slice A theKeys.length c, .agg (epC (tEp (1 + n))), .agg (rpC X)] W fun e w' => e = .returned (.tuple #[.int .i64 N, .int .i64 G]) ∧ Ext W w') := lh (fun A c W hx h => by
    have h := acheck_any A c theKeys (tEp (1 + n)) X W ring_ok h HEo.out (tEp_short _) (tEp_at _ W) HXo.out.ok (by have := HXo.out.len; omega) (HRD5.out.on hx) (RowAt.ext hk (HX5.out.trans hx))
    rw [hNG] at h
    exact h)
   have HWh := lh (fun (W : World) (hx : Ext W5 W) => rwhole_any X W HXo.out.ok (by have := HXo.out.len; omega) (HRD5.out.on hx))
   have HMk2 := lh (fun (A : Option Addr) (c : Nat) (W : World) (h1 : ReadsStr W W.heap.size A (rpParts X)) (h2 : A = none → c = 0) (hx : Ext W5 W) => rmake_any (theKey 1) 321 A c (rpParts X) W h1 h2 (lens_key (by decide) (by have := rpParts_lens HXo.out.ok (by have := HXo.out.len; omega); omega)) (RowAt.ext hr (HX5.out.trans hx)))
   have hSq := fun W => sel_eql (a := makeN (theKey 1) 321 (rpParts X)) (b := R.sl) ⟨makeN_len _ _ _, makeN_byt _ _ _⟩ HRO'.out.sl W
   have hfX := rp_fits X
   have hfM : fitsRow 16 (dgC (makeN (theKey 1) 321 (rpParts X))) = true := by simp [fitsRow, dgC, Value.oneCell']
   have hfS : fitsRow 16 (dgC R.sl) = true := by simp [fitsRow, dgC, Value.oneCell']
   have HS21 := lh (rp_s21_16 R)
   clear x5 uX rX hXo hNG
   generalize makeN (theKey 1) 321 (rpParts X) = M at *
   generalize R.sl = SL at *
   refine wp_region_soft 8 (softsL [readKs theKeys, .eq (.agg (epC (tEp (1 + n)))), .eq (.agg (rpC X)), .eq (.tuple #[.int .i64 N, .int .i64 G]), .eq (.tuple #[.int .i64 N, .int .i64 G]), .eq (.int .i64 N), .eq (.int .i64 G), .eq (.int .i64 N)]) (by kernel_rfl) (by kernel_rfl) (lt_cons ?_ (lt_cons ?_ (lt_cons ?_ (lt_cons ?_ (lt_cons ?_ (lt_cons ?_ (lt_cons ?_ (lt_cons ?_ (lt_none))))))))) ?_
   any_goals (refine sop rfl fun xs W HW hsW HD Q' HQ => ?_; simp only [fillAt, dstOf, lc0, lcs, obs, Act.put, lsa, lsz, lss, nz, Nat.reduceAdd] at HQ ⊢)
   ·
    go_wp2_with (go_at_call 29; refine (HKs.out _).mono ?_; rintro e w1 ⟨⟨A, c, rfl, h1⟩, hx⟩)
    exact HQ.out _ _ hx ⟨A, c, rfl, h1⟩
   ·
    have hc := (row_extW HW.out (b := B) (by omega) 0 38).trans kE
    go_wp2
    exact HQ.out _ _ (eR _) rfl
   ·
    have hc := (row_extW HW.out (b := gx) (by omega) 0 37).trans kX
    go_wp2
    exact HQ.out _ _ (eR _) rfl
   ·
    have hs0 : (readKs theKeys).S (xs 0) W := (HD.out 0 (dk (by kernel_rfl)))
    have hd1 : xs 1 = .agg (epC (tEp (1 + n))) := (HD.out 1 (dk (by kernel_rfl)))
    generalize xs 1 = x1 at hd1 HQ ⊢; subst hd1
    have hd2 : xs 2 = .agg (rpC X) := (HD.out 2 (dk (by kernel_rfl)))
    generalize xs 2 = x2 at hd2 HQ ⊢; subst hd2
    obtain ⟨A0, c0, h0, hr0⟩ := hs0
    generalize xs 0 = x0 at h0 HQ ⊢; subst h0
    go_wp2_with (go_at_call 28; refine (HCk2.out A0 c0 _ HW.out hr0).mono ?_; rintro e w1 ⟨rfl, hx⟩)
    exact HQ.out _ _ hx rfl
   ·
    have hd3 : xs 3 = .tuple #[.int .i64 N, .int .i64 G] := (HD.out 3 (dk (by kernel_rfl)))
    generalize xs 3 = x3 at hd3 HQ ⊢; subst hd3
    go_wp2
    exact HQ.out _ _ (eR _) rfl
   ·
    have hd4 : xs 4 = .tuple #[.int .i64 N, .int .i64 G] := (HD.out 4 (dk (by kernel_rfl)))
    generalize xs 4 = x4 at hd4 HQ ⊢; subst hd4
    go_wp2
    exact HQ.out _ _ (eR _) rfl
   ·
    have hd4 : xs 4 = .tuple #[.int .i64 N, .int .i64 G] := (HD.out 4 (dk (by kernel_rfl)))
    generalize xs 4 = x4 at hd4 HQ ⊢; subst hd4
    go_wp2
    exact HQ.out _ _ (eR _) rfl
   ·
    have hd5 : xs 5 = .int .i64 N := (HD.out 5 (dk (by kernel_rfl)))
    generalize xs 5 = x5 at hd5 HQ ⊢; subst hd5
    go_wp2
    exact HQ.out _ _ (eR _) rfl
   intro xs W6 hW hS
   have h6 : xs 6 = .int .i64 G := hS 6 (by omega)
   have h7 : xs 7 = .int .i64 N := hS 7 (by omega)
   simp only [fillAt, dstOf, lc0, lcs, obs, Act.put, lsa, lsz, lss, nz, Nat.reduceAdd, List.drop_succ_cons, List.drop_zero, List.drop_nil]
   generalize xs 6 = x6 at *; subst h6
   generalize xs 7 = x7 at *; subst h7
   have HW6 := lh (HX5.out.trans hW)
   have HWW6 := lh hW
   clear hS hW kE kX
   have hs56 := HWW6.out.size
   have kX : rowOf W6 gx 0 37 = some (rpC X) := (HUX5.out.ext HWW6.out).all rfl (by omega)
   have kS : rowOf W6 g 21 16 = some (dgC SL) := ((HU11.out.ext (HXX5.out.trans HWW6.out)).row 21 16).trans (by rw [if_neg (by omega)]; exact HS21.out)
   go_upto_region 23 with (fail)
   refine wp_region_soft 7 (softsL [.eq (.agg (kyC (theKey 1))), .eq (.agg (rpC X)), readS (rpParts X), .eq (.agg (dgC M)), .eq (.pointer (some ⟨g, 21, none⟩)), .eq (.agg (dgC SL)), .eq (.bool (decide (M = SL)))]) (by kernel_rfl) (by kernel_rfl) (lt_cons ?_ (lt_cons ?_ (lt_cons ?_ (lt_cons ?_ (lt_cons ?_ (lt_cons ?_ (lt_cons ?_ (lt_none)))))))) ?_
   any_goals (refine sop rfl fun xs W HW hsW HD Q' HQ => ?_; simp only [fillAt, dstOf, lc0, lcs, obs, Act.put, lsa, lsz, lss, nz, Nat.reduceAdd] at HQ ⊢)
   ·
    go_wp2_with (go_at_call 32; refine (HKy.out 1 _).mono ?_; rintro e w1 ⟨rfl, hx⟩)
    exact HQ.out _ _ hx rfl
   ·
    have hc := (row_extW HW.out (b := gx) (by omega) 0 37).trans kX
    go_wp2
    exact HQ.out _ _ (eR _) rfl
   ·
    have hd1 : xs 1 = .agg (rpC X) := (HD.out 1 (dk (by kernel_rfl)))
    generalize xs 1 = x1 at hd1 HQ ⊢; subst hd1
    go_wp2_with (go_at_call 33; refine (HWh.out _ (HWW6.out.trans HW.out)).mono ?_; rintro e w1 ⟨A, c, rfl, h1, h2, hx⟩)
    exact HQ.out _ _ hx ⟨A, c, rfl, h1, h2⟩
   ·
    have hd0 : xs 0 = .agg (kyC (theKey 1)) := (HD.out 0 (dk (by kernel_rfl)))
    generalize xs 0 = x0 at hd0 HQ ⊢; subst hd0
    obtain ⟨A2, c2, h2, hr2, hz2⟩ : (readS (rpParts X)).S (xs 2) W := (HD.out 2 (dk (by kernel_rfl)))
    generalize xs 2 = x2 at h2 HQ ⊢; subst h2
    go_wp2_with (go_at_call 31; refine (HMk2.out A2 c2 _ hr2 hz2 (HWW6.out.trans HW.out)).mono ?_; rintro e w1 ⟨rfl, hx⟩)
    exact HQ.out _ _ hx rfl
   ·
    go_wp2
    exact HQ.out _ _ (eR _) rfl
   ·
    have hd4 : xs 4 = .pointer (some ⟨g, 21, none⟩) := (HD.out 4 (dk (by kernel_rfl)))
    generalize xs 4 = x4 at hd4 HQ ⊢; subst hd4
    have hc := (row_extW HW.out (b := g) (by omega) 21 16).trans kS
    go_wp2
    exact HQ.out _ _ (eR _) rfl
   ·
    have hd3 : xs 3 = .agg (dgC M) := (HD.out 3 (dk (by kernel_rfl)))
    generalize xs 3 = x3 at hd3 HQ ⊢; subst hd3
    have hd5 : xs 5 = .agg (dgC SL) := (HD.out 5 (dk (by kernel_rfl)))
    generalize xs 5 = x5 at hd5 HQ ⊢; subst hd5
    go_wp2
    exact HQ.out _ _ (eR _) rfl
   intro xs W7 hW hS
   have h6 : xs 6 = .bool (decide (M = SL)) := hS 6 (by omega)
   simp only [fillAt, dstOf, lc0, lcs, obs, Act.put, lsa, lsz, lss, nz, Nat.reduceAdd, List.drop_succ_cons, List.drop_zero, List.drop_nil]
   generalize xs 6 = x6 at *; subst h6
   have HW7 := lh (HW6.out.trans hW)
   have HWW7 := lh hW
   clear hS hW kX kS
   clear HCk2 HWh HMk2 hSq HXo HUX5 HRD5
   by_cases c1 : N = -1
   ·subst c1
    by_cases c2 : G = 8
    ·subst c2
     clear HPl
     go_wp2_with (go_at_call 16; refine (HS.out _ (by (with_reducible repeat first|exact HW7.out|exact eR _|apply eD|apply eN|apply eA|apply eO|apply eS|apply eC);all_goals first|omega|simp <;> omega)).mono ?_; rintro e w' ⟨rfl, hxl⟩; obtain ⟨xl, rfl⟩ := hxl.asLater; clear hxl)
     go_ret
     exact ⟨ret_bool (by first | rfl | simp [*]), (by (with_reducible repeat first|exact HW7.out|exact eR _|apply eD|apply eN|apply eA|apply eO|apply eS|apply eC);all_goals first|omega|simp <;> omega)⟩
    ·have e2 : (G == 8) = false := beq_false_of_ne c2
     have hm : decide (M = SL) = true := by have := HPl.out; simpa [c2] using this
     clear HPl
     go_wp2_with (go_at_call 16; refine (HS.out _ (by (with_reducible repeat first|exact HW7.out|exact eR _|apply eD|apply eN|apply eA|apply eO|apply eS|apply eC);all_goals first|omega|simp <;> omega)).mono ?_; rintro e w' ⟨rfl, hxl⟩; obtain ⟨xl, rfl⟩ := hxl.asLater; clear hxl)
     go_ret
     exact ⟨ret_bool (by first | rfl | simp [*]), (by (with_reducible repeat first|exact HW7.out|exact eR _|apply eD|apply eN|apply eA|apply eO|apply eS|apply eC);all_goals first|omega|simp <;> omega)⟩
   ·have e1 : (N == -1) = false := beq_false_of_ne c1
    have e4 : decide (N = -1) = false := by simpa using c1
    have hm : decide (M = SL) = true := by have := HPl.out; simpa [c1] using this
    clear HPl
    go_wp2_with (go_at_call 16; refine (HS.out _ (by (with_reducible repeat first|exact HW7.out|exact eR _|apply eD|apply eN|apply eA|apply eO|apply eS|apply eC);all_goals first|omega|simp <;> omega)).mono ?_; rintro e w' ⟨rfl, hxl⟩; obtain ⟨xl, rfl⟩ := hxl.asLater; clear hxl)
    go_ret
    exact ⟨ret_bool (by first | rfl | simp [*]), (by (with_reducible repeat first|exact HW7.out|exact eR _|apply eD|apply eN|apply eA|apply eO|apply eS|apply eC);all_goals first|omega|simp <;> omega)⟩
  ·
   obtain ⟨z, hz⟩ : ∃ z, L[k].kind = z := ⟨_, rfl⟩
   have hsm := (HSm.out L[k] (List.getElem_mem hkL)).2.1
   rw [hz] at hsm
   obtain ⟨z0, z1⟩ := hsm
   have c8 : W4.cell? ⟨gl, off + k * 59 + 1, none⟩ = some (.int .i64 z) := by rw [← hz]; exact hcel 1 _ rfl
   have f8 : W4.frozen? ⟨gl, off + k * 59 + 1, none⟩ = false := HFz.out _
   have HXk : Hid (LnOk ({ L[k] with kind := z + by_ })) := lh (lnOk_kind (HLok.out _ (List.getElem_mem hkL)) (by unfold i64; omega))
   have HSx : Hid (lnL ({ L[k] with kind := z + by_ }) = (lnL L[k]).set 1 (.int .i64 (z + by_))) := lh (ln_set1 _ _)
   clear hz hcel HSm
   go_upto_region 15 with (fail)
   refine wp_region_later_tail 14 (by kernel_rfl) (by kernel_rfl) ?_
   simp only [List.take_succ_cons, List.take_zero, List.drop_succ_cons, List.drop_zero]
   repeat (first | go_big_quiet_step ((fail)) | quiet_step ((fail)))
   refine wpQuiet_nil ?_
   rintro _ ⟨xq, rfl⟩
   go_upto_region 22 with (fail)
   refine wp_world (fun W => ∃ X : Rp, Ext W2 W ∧ RowAt W gx (rpC X) ∧ Reads 59 lnL W W.heap.size X.LA X.lines ∧ XOk (1 + n) R.sl X) ⟨{ R with LA := some ⟨gl, off, none⟩, lc := c7, lines := L.set k ({ L[k] with kind := z + by_ }) }, ?_, ?_, ?_, ?_⟩ ?_
   ·exact Ext.setCell (HXX4.out.onto _) (by show _ ≤ gl; omega) _
   ·rw [rp_lens_eq { R with LA := some ⟨gl, off, none⟩, lc := c7 } (show (L.set k ({ L[k] with kind := z + by_ })).length = L.length by simp)]
    exact (HUX4.out.later _).other (by show gx ≠ gl; omega) _
   ·rw [World.size_setCell]
    exact reads_setAt ((HRD4.out).on (ext_later W4 xq)) k hkL 1 (by omega) (.int .i64 (z + by_)) ({ L[k] with kind := z + by_ }) HSx.out
   ·exact ⟨rpOk_lines HRO'.out _ _ _ (mem_set_ok HLok.out k HXk.out), by show (L.set k _).length ≤ 10; simp; omega, HRt.out.1, HRt.out.2.1, by show okClk ⟨R.lo, R.hi⟩ = true; rw [HRt.out.2.2.1, HRt.out.2.2.2.1]; exact HCk.out, by show R.hi < _; rw [HRt.out.2.2.2.1]; omega, HRt.out.2.2.2.2, rfl⟩
   clear HUX4 HRD4 HXX4 HXk HSx HFz HLok HCk HRt c8 f8 z0 z1 q19
   rintro W5 ⟨X, x5, uX, rX, hXo⟩
   have HX5 := lh (HX2.out.trans x5)
   have HXX5 := lh x5
   have HUX5 := lh uX
   have HRD5 := lh rX
   have HXo := lh hXo
   have hs5 := x5.size
   have hlX := uX.lt
   have hl11e := (HU11.out.ext x5).lt
   have kE : rowOf W5 B 0 38 = some (epC (tEp (1 + n))) := (HUE.out.ext (HXX2.out.trans x5)).all rfl (by omega)
   have kX : rowOf W5 gx 0 37 = some (rpC X) := uX.all rfl (by omega)
   have HPl := lh (found_t (n := 1 + n) X hXo.ep hXo.nm hXo.ck hXo.hh hXo.se)
   obtain ⟨⟨N, G⟩, hNG⟩ : ∃ z, checkRp theKeys (tEp (1 + n)) X = z := ⟨_, rfl⟩
   rw [hNG, hXo.sl_] at HPl
   have HCk2 : Hid (∀ (A : Option Addr) (c : Nat) (W : World), Ext W5 W → ReadsKy W W.heap.size A theKeys → Calls Tryz.prog 28 #[.slice A theKeys.length c, .agg (epC (tEp (1 + n))), .agg (rpC X)] W fun e w' => e = .returned (.tuple #[.int .i64 N, .int .i64 G]) ∧ Ext W w') := lh (fun A c W hx h => by
    have h := acheck_any A c theKeys (tEp (1 + n)) X W ring_ok h HEo.out (tEp_short _) (tEp_at _ W) HXo.out.ok (by have := HXo.out.len; omega) (HRD5.out.on hx) (RowAt.ext hk (HX5.out.trans hx))
    rw [hNG] at h
    exact h)
   have HWh := lh (fun (W : World) (hx : Ext W5 W) => rwhole_any X W HXo.out.ok (by have := HXo.out.len; omega) (HRD5.out.on hx))
   have HMk2 := lh (fun (A : Option Addr) (c : Nat) (W : World) (h1 : ReadsStr W W.heap.size A (rpParts X)) (h2 : A = none → c = 0) (hx : Ext W5 W) => rmake_any (theKey 1) 321 A c (rpParts X) W h1 h2 (lens_key (by decide) (by have := rpParts_lens HXo.out.ok (by have := HXo.out.len; omega); omega)) (RowAt.ext hr (HX5.out.trans hx)))
   have hSq := fun W => sel_eql (a := makeN (theKey 1) 321 (rpParts X)) (b := R.sl) ⟨makeN_len _ _ _, makeN_byt _ _ _⟩ HRO'.out.sl W
   have hfX := rp_fits X
   have hfM : fitsRow 16 (dgC (makeN (theKey 1) 321 (rpParts X))) = true := by simp [fitsRow, dgC, Value.oneCell']
   have hfS : fitsRow 16 (dgC R.sl) = true := by simp [fitsRow, dgC, Value.oneCell']
   have HS21 := lh (rp_s21_16 R)
   clear x5 uX rX hXo hNG
   generalize makeN (theKey 1) 321 (rpParts X) = M at *
   generalize R.sl = SL at *
   refine wp_region_soft 8 (softsL [readKs theKeys, .eq (.agg (epC (tEp (1 + n)))), .eq (.agg (rpC X)), .eq (.tuple #[.int .i64 N, .int .i64 G]), .eq (.tuple #[.int .i64 N, .int .i64 G]), .eq (.int .i64 N), .eq (.int .i64 G), .eq (.int .i64 N)]) (by kernel_rfl) (by kernel_rfl) (lt_cons ?_ (lt_cons ?_ (lt_cons ?_ (lt_cons ?_ (lt_cons ?_ (lt_cons ?_ (lt_cons ?_ (lt_cons ?_ (lt_none))))))))) ?_
   any_goals (refine sop rfl fun xs W HW hsW HD Q' HQ => ?_; simp only [fillAt, dstOf, lc0, lcs, obs, Act.put, lsa, lsz, lss, nz, Nat.reduceAdd] at HQ ⊢)
   ·
    go_wp2_with (go_at_call 29; refine (HKs.out _).mono ?_; rintro e w1 ⟨⟨A, c, rfl, h1⟩, hx⟩)
    exact HQ.out _ _ hx ⟨A, c, rfl, h1⟩
   ·
    have hc := (row_extW HW.out (b := B) (by omega) 0 38).trans kE
    go_wp2
    exact HQ.out _ _ (eR _) rfl
   ·
    have hc := (row_extW HW.out (b := gx) (by omega) 0 37).trans kX
    go_wp2
    exact HQ.out _ _ (eR _) rfl
   ·
    have hs0 : (readKs theKeys).S (xs 0) W := (HD.out 0 (dk (by kernel_rfl)))
    have hd1 : xs 1 = .agg (epC (tEp (1 + n))) := (HD.out 1 (dk (by kernel_rfl)))
    generalize xs 1 = x1 at hd1 HQ ⊢; subst hd1
    have hd2 : xs 2 = .agg (rpC X) := (HD.out 2 (dk (by kernel_rfl)))
    generalize xs 2 = x2 at hd2 HQ ⊢; subst hd2
    obtain ⟨A0, c0, h0, hr0⟩ := hs0
    generalize xs 0 = x0 at h0 HQ ⊢; subst h0
    go_wp2_with (go_at_call 28; refine (HCk2.out A0 c0 _ HW.out hr0).mono ?_; rintro e w1 ⟨rfl, hx⟩)
    exact HQ.out _ _ hx rfl
   ·
    have hd3 : xs 3 = .tuple #[.int .i64 N, .int .i64 G] := (HD.out 3 (dk (by kernel_rfl)))
    generalize xs 3 = x3 at hd3 HQ ⊢; subst hd3
    go_wp2
    exact HQ.out _ _ (eR _) rfl
   ·
    have hd4 : xs 4 = .tuple #[.int .i64 N, .int .i64 G] := (HD.out 4 (dk (by kernel_rfl)))
    generalize xs 4 = x4 at hd4 HQ ⊢; subst hd4
    go_wp2
    exact HQ.out _ _ (eR _) rfl
   ·
    have hd4 : xs 4 = .tuple #[.int .i64 N, .int .i64 G] := (HD.out 4 (dk (by kernel_rfl)))
    generalize xs 4 = x4 at hd4 HQ ⊢; subst hd4
    go_wp2
    exact HQ.out _ _ (eR _) rfl
   ·
    have hd5 : xs 5 = .int .i64 N := (HD.out 5 (dk (by kernel_rfl)))
    generalize xs 5 = x5 at hd5 HQ ⊢; subst hd5
    go_wp2
    exact HQ.out _ _ (eR _) rfl
   intro xs W6 hW hS
   have h6 : xs 6 = .int .i64 G := hS 6 (by omega)
   have h7 : xs 7 = .int .i64 N := hS 7 (by omega)
   simp only [fillAt, dstOf, lc0, lcs, obs, Act.put, lsa, lsz, lss, nz, Nat.reduceAdd, List.drop_succ_cons, List.drop_zero, List.drop_nil]
   generalize xs 6 = x6 at *; subst h6
   generalize xs 7 = x7 at *; subst h7
   have HW6 := lh (HX5.out.trans hW)
   have HWW6 := lh hW
   clear hS hW kE kX
   have hs56 := HWW6.out.size
   have kX : rowOf W6 gx 0 37 = some (rpC X) := (HUX5.out.ext HWW6.out).all rfl (by omega)
   have kS : rowOf W6 g 21 16 = some (dgC SL) := ((HU11.out.ext (HXX5.out.trans HWW6.out)).row 21 16).trans (by rw [if_neg (by omega)]; exact HS21.out)
   go_upto_region 23 with (fail)
   refine wp_region_soft 7 (softsL [.eq (.agg (kyC (theKey 1))), .eq (.agg (rpC X)), readS (rpParts X), .eq (.agg (dgC M)), .eq (.pointer (some ⟨g, 21, none⟩)), .eq (.agg (dgC SL)), .eq (.bool (decide (M = SL)))]) (by kernel_rfl) (by kernel_rfl) (lt_cons ?_ (lt_cons ?_ (lt_cons ?_ (lt_cons ?_ (lt_cons ?_ (lt_cons ?_ (lt_cons ?_ (lt_none)))))))) ?_
   any_goals (refine sop rfl fun xs W HW hsW HD Q' HQ => ?_; simp only [fillAt, dstOf, lc0, lcs, obs, Act.put, lsa, lsz, lss, nz, Nat.reduceAdd] at HQ ⊢)
   ·
    go_wp2_with (go_at_call 32; refine (HKy.out 1 _).mono ?_; rintro e w1 ⟨rfl, hx⟩)
    exact HQ.out _ _ hx rfl
   ·
    have hc := (row_extW HW.out (b := gx) (by omega) 0 37).trans kX
    go_wp2
    exact HQ.out _ _ (eR _) rfl
   ·
    have hd1 : xs 1 = .agg (rpC X) := (HD.out 1 (dk (by kernel_rfl)))
    generalize xs 1 = x1 at hd1 HQ ⊢; subst hd1
    go_wp2_with (go_at_call 33; refine (HWh.out _ (HWW6.out.trans HW.out)).mono ?_; rintro e w1 ⟨A, c, rfl, h1, h2, hx⟩)
    exact HQ.out _ _ hx ⟨A, c, rfl, h1, h2⟩
   ·
    have hd0 : xs 0 = .agg (kyC (theKey 1)) := (HD.out 0 (dk (by kernel_rfl)))
    generalize xs 0 = x0 at hd0 HQ ⊢; subst hd0
    obtain ⟨A2, c2, h2, hr2, hz2⟩ : (readS (rpParts X)).S (xs 2) W := (HD.out 2 (dk (by kernel_rfl)))
    generalize xs 2 = x2 at h2 HQ ⊢; subst h2
    go_wp2_with (go_at_call 31; refine (HMk2.out A2 c2 _ hr2 hz2 (HWW6.out.trans HW.out)).mono ?_; rintro e w1 ⟨rfl, hx⟩)
    exact HQ.out _ _ hx rfl
   ·
    go_wp2
    exact HQ.out _ _ (eR _) rfl
   ·
    have hd4 : xs 4 = .pointer (some ⟨g, 21, none⟩) := (HD.out 4 (dk (by kernel_rfl)))
    generalize xs 4 = x4 at hd4 HQ ⊢; subst hd4
    have hc := (row_extW HW.out (b := g) (by omega) 21 16).trans kS
    go_wp2
    exact HQ.out _ _ (eR _) rfl
   ·
    have hd3 : xs 3 = .agg (dgC M) := (HD.out 3 (dk (by kernel_rfl)))
    generalize xs 3 = x3 at hd3 HQ ⊢; subst hd3
    have hd5 : xs 5 = .agg (dgC SL) := (HD.out 5 (dk (by kernel_rfl)))
    generalize xs 5 = x5 at hd5 HQ ⊢; subst hd5
    go_wp2
    exact HQ.out _ _ (eR _) rfl
   intro xs W7 hW hS
   have h6 : xs 6 = .bool (decide (M = SL)) := hS 6 (by omega)
   simp only [fillAt, dstOf, lc0, lcs, obs, Act.put, lsa, lsz, lss, nz, Nat.reduceAdd, List.drop_succ_cons, List.drop_zero, List.drop_nil]
   generalize xs 6 = x6 at *; subst h6
   have HW7 := lh (HW6.out.trans hW)
   have HWW7 := lh hW
   clear hS hW kX kS
   clear HCk2 HWh HMk2 hSq HXo HUX5 HRD5
   by_cases c1 : N = -1
   ·subst c1
    by_cases c2 : G = 8
    ·subst c2
     clear HPl
     go_wp2_with (go_at_call 16; refine (HS.out _ (by (with_reducible repeat first|exact HW7.out|exact eR _|apply eD|apply eN|apply eA|apply eO|apply eS|apply eC);all_goals first|omega|simp <;> omega)).mono ?_; rintro e w' ⟨rfl, hxl⟩; obtain ⟨xl, rfl⟩ := hxl.asLater; clear hxl)
     go_ret
     exact ⟨ret_bool (by first | rfl | simp [*]), (by (with_reducible repeat first|exact HW7.out|exact eR _|apply eD|apply eN|apply eA|apply eO|apply eS|apply eC);all_goals first|omega|simp <;> omega)⟩
    ·have e2 : (G == 8) = false := beq_false_of_ne c2
     have hm : decide (M = SL) = true := by have := HPl.out; simpa [c2] using this
     clear HPl
     go_wp2_with (go_at_call 16; refine (HS.out _ (by (with_reducible repeat first|exact HW7.out|exact eR _|apply eD|apply eN|apply eA|apply eO|apply eS|apply eC);all_goals first|omega|simp <;> omega)).mono ?_; rintro e w' ⟨rfl, hxl⟩; obtain ⟨xl, rfl⟩ := hxl.asLater; clear hxl)
     go_ret
     exact ⟨ret_bool (by first | rfl | simp [*]), (by (with_reducible repeat first|exact HW7.out|exact eR _|apply eD|apply eN|apply eA|apply eO|apply eS|apply eC);all_goals first|omega|simp <;> omega)⟩
   ·have e1 : (N == -1) = false := beq_false_of_ne c1
    have e4 : decide (N = -1) = false := by simpa using c1
    have hm : decide (M = SL) = true := by have := HPl.out; simpa [c1] using this
    clear HPl
    go_wp2_with (go_at_call 16; refine (HS.out _ (by (with_reducible repeat first|exact HW7.out|exact eR _|apply eD|apply eN|apply eA|apply eO|apply eS|apply eC);all_goals first|omega|simp <;> omega)).mono ?_; rintro e w' ⟨rfl, hxl⟩; obtain ⟨xl, rfl⟩ := hxl.asLater; clear hxl)
    go_ret
    exact ⟨ret_bool (by first | rfl | simp [*]), (by (with_reducible repeat first|exact HW7.out|exact eR _|apply eD|apply eN|apply eA|apply eO|apply eS|apply eC);all_goals first|omega|simp <;> omega)⟩
  ·
   obtain ⟨z, hz⟩ : ∃ z, L[k].le.until_ = z := ⟨_, rfl⟩
   have hsm := (HSm.out L[k] (List.getElem_mem hkL)).2.2.1
   rw [hz] at hsm
   obtain ⟨z0, z1⟩ := hsm
   have c8 : W4.cell? ⟨gl, off + k * 59 + 41, none⟩ = some (.int .i64 z) := by rw [← hz]; exact hcel 41 _ rfl
   have f8 : W4.frozen? ⟨gl, off + k * 59 + 41, none⟩ = false := HFz.out _
   have HXk : Hid (LnOk (lnUntil L[k] (z + by_))) := lh (lnOk_until (HLok.out _ (List.getElem_mem hkL)) (by unfold i64; omega))
   have HSx : Hid (lnL (lnUntil L[k] (z + by_)) = (lnL L[k]).set 41 (.int .i64 (z + by_))) := lh (ln_set41 _ _)
   clear hz hcel HSm
   go_upto_region 17 with (fail)
   refine wp_region_later_tail 16 (by kernel_rfl) (by kernel_rfl) ?_
   simp only [List.take_succ_cons, List.take_zero, List.drop_succ_cons, List.drop_zero]
   repeat (first | go_big_quiet_step ((fail)) | quiet_step ((fail)))
   refine wpQuiet_nil ?_
   rintro _ ⟨xq, rfl⟩
   go_upto_region 22 with (fail)
   refine wp_world (fun W => ∃ X : Rp, Ext W2 W ∧ RowAt W gx (rpC X) ∧ Reads 59 lnL W W.heap.size X.LA X.lines ∧ XOk (1 + n) R.sl X) ⟨{ R with LA := some ⟨gl, off, none⟩, lc := c7, lines := L.set k (lnUntil L[k] (z + by_)) }, ?_, ?_, ?_, ?_⟩ ?_
   ·exact Ext.setCell (HXX4.out.onto _) (by show _ ≤ gl; omega) _
   ·rw [rp_lens_eq { R with LA := some ⟨gl, off, none⟩, lc := c7 } (show (L.set k (lnUntil L[k] (z + by_))).length = L.length by simp)]
    exact (HUX4.out.later _).other (by show gx ≠ gl; omega) _
   ·rw [World.size_setCell]
    exact reads_setAt ((HRD4.out).on (ext_later W4 xq)) k hkL 41 (by omega) (.int .i64 (z + by_)) (lnUntil L[k] (z + by_)) HSx.out
   ·exact ⟨rpOk_lines HRO'.out _ _ _ (mem_set_ok HLok.out k HXk.out), by show (L.set k _).length ≤ 10; simp; omega, HRt.out.1, HRt.out.2.1, by show okClk ⟨R.lo, R.hi⟩ = true; rw [HRt.out.2.2.1, HRt.out.2.2.2.1]; exact HCk.out, by show R.hi < _; rw [HRt.out.2.2.2.1]; omega, HRt.out.2.2.2.2, rfl⟩
   clear HUX4 HRD4 HXX4 HXk HSx HFz HLok HCk HRt c8 f8 z0 z1 q19
   rintro W5 ⟨X, x5, uX, rX, hXo⟩
   have HX5 := lh (HX2.out.trans x5)
   have HXX5 := lh x5
   have HUX5 := lh uX
   have HRD5 := lh rX
   have HXo := lh hXo
   have hs5 := x5.size
   have hlX := uX.lt
   have hl11e := (HU11.out.ext x5).lt
   have kE : rowOf W5 B 0 38 = some (epC (tEp (1 + n))) := (HUE.out.ext (HXX2.out.trans x5)).all rfl (by omega)
   have kX : rowOf W5 gx 0 37 = some (rpC X) := uX.all rfl (by omega)
   have HPl := lh (found_t (n := 1 + n) X hXo.ep hXo.nm hXo.ck hXo.hh hXo.se)
   obtain ⟨⟨N, G⟩, hNG⟩ : ∃ z, checkRp theKeys (tEp (1 + n)) X = z := ⟨_, rfl⟩
   rw [hNG, hXo.sl_] at HPl
   have HCk2 : Hid (∀ (A : Option Addr) (c : Nat) (W : World), Ext W5 W → ReadsKy W W.heap.size A theKeys → Calls Tryz.prog 28 #[.slice A theKeys.length c, .agg (epC (tEp (1 + n))), .agg (rpC X)] W fun e w' => e = .returned (.tuple #[.int .i64 N, .int .i64 G]) ∧ Ext W w') := lh (fun A c W hx h => by
    have h := acheck_any A c theKeys (tEp (1 + n)) X W ring_ok h HEo.out (tEp_short _) (tEp_at _ W) HXo.out.ok (by have := HXo.out.len; omega) (HRD5.out.on hx) (RowAt.ext hk (HX5.out.trans hx))
    rw [hNG] at h
    exact h)
   have HWh := lh (fun (W : World) (hx : Ext W5 W) => rwhole_any X W HXo.out.ok (by have := HXo.out.len; omega) (HRD5.out.on hx))
   have HMk2 := lh (fun (A : Option Addr) (c : Nat) (W : World) (h1 : ReadsStr W W.heap.size A (rpParts X)) (h2 : A = none → c = 0) (hx : Ext W5 W) => rmake_any (theKey 1) 321 A c (rpParts X) W h1 h2 (lens_key (by decide) (by have := rpParts_lens HXo.out.ok (by have := HXo.out.len; omega); omega)) (RowAt.ext hr (HX5.out.trans hx)))
   have hSq := fun W => sel_eql (a := makeN (theKey 1) 321 (rpParts X)) (b := R.sl) ⟨makeN_len _ _ _, makeN_byt _ _ _⟩ HRO'.out.sl W
   have hfX := rp_fits X
   have hfM : fitsRow 16 (dgC (makeN (theKey 1) 321 (rpParts X))) = true := by simp [fitsRow, dgC, Value.oneCell']
   have hfS : fitsRow 16 (dgC R.sl) = true := by simp [fitsRow, dgC, Value.oneCell']
   have HS21 := lh (rp_s21_16 R)
   clear x5 uX rX hXo hNG
   generalize makeN (theKey 1) 321 (rpParts X) = M at *
   generalize R.sl = SL at *
   refine wp_region_soft 8 (softsL [readKs theKeys, .eq (.agg (epC (tEp (1 + n)))), .eq (.agg (rpC X)), .eq (.tuple #[.int .i64 N, .int .i64 G]), .eq (.tuple #[.int .i64 N, .int .i64 G]), .eq (.int .i64 N), .eq (.int .i64 G), .eq (.int .i64 N)]) (by kernel_rfl) (by kernel_rfl) (lt_cons ?_ (lt_cons ?_ (lt_cons ?_ (lt_cons ?_ (lt_cons ?_ (lt_cons ?_ (lt_cons ?_ (lt_cons ?_ (lt_none))))))))) ?_
   any_goals (refine sop rfl fun xs W HW hsW HD Q' HQ => ?_; simp only [fillAt, dstOf, lc0, lcs, obs, Act.put, lsa, lsz, lss, nz, Nat.reduceAdd] at HQ ⊢)
   ·
    go_wp2_with (go_at_call 29; refine (HKs.out _).mono ?_; rintro e w1 ⟨⟨A, c, rfl, h1⟩, hx⟩)
    exact HQ.out _ _ hx ⟨A, c, rfl, h1⟩
   ·
    have hc := (row_extW HW.out (b := B) (by omega) 0 38).trans kE
    go_wp2
    exact HQ.out _ _ (eR _) rfl
   ·
    have hc := (row_extW HW.out (b := gx) (by omega) 0 37).trans kX
    go_wp2
    exact HQ.out _ _ (eR _) rfl
   ·
    have hs0 : (readKs theKeys).S (xs 0) W := (HD.out 0 (dk (by kernel_rfl)))
    have hd1 : xs 1 = .agg (epC (tEp (1 + n))) := (HD.out 1 (dk (by kernel_rfl)))
    generalize xs 1 = x1 at hd1 HQ ⊢; subst hd1
    have hd2 : xs 2 = .agg (rpC X) := (HD.out 2 (dk (by kernel_rfl)))
    generalize xs 2 = x2 at hd2 HQ ⊢; subst hd2
    obtain ⟨A0, c0, h0, hr0⟩ := hs0
    generalize xs 0 = x0 at h0 HQ ⊢; subst h0
    go_wp2_with (go_at_call 28; refine (HCk2.out A0 c0 _ HW.out hr0).mono ?_; rintro e w1 ⟨rfl, hx⟩)
    exact HQ.out _ _ hx rfl
   ·
    have hd3 : xs 3 = .tuple #[.int .i64 N, .int .i64 G] := (HD.out 3 (dk (by kernel_rfl)))
    generalize xs 3 = x3 at hd3 HQ ⊢; subst hd3
    go_wp2
    exact HQ.out _ _ (eR _) rfl
   ·
    have hd4 : xs 4 = .tuple #[.int .i64 N, .int .i64 G] := (HD.out 4 (dk (by kernel_rfl)))
    generalize xs 4 = x4 at hd4 HQ ⊢; subst hd4
    go_wp2
    exact HQ.out _ _ (eR _) rfl
   ·
    have hd4 : xs 4 = .tuple #[.int .i64 N, .int .i64 G] := (HD.out 4 (dk (by kernel_rfl)))
    generalize xs 4 = x4 at hd4 HQ ⊢; subst hd4
    go_wp2
    exact HQ.out _ _ (eR _) rfl
   ·
    have hd5 : xs 5 = .int .i64 N := (HD.out 5 (dk (by kernel_rfl)))
    generalize xs 5 = x5 at hd5 HQ ⊢; subst hd5
    go_wp2
    exact HQ.out _ _ (eR _) rfl
   intro xs W6 hW hS
   have h6 : xs 6 = .int .i64 G := hS 6 (by omega)
   have h7 : xs 7 = .int .i64 N := hS 7 (by omega)
   simp only [fillAt, dstOf, lc0, lcs, obs, Act.put, lsa, lsz, lss, nz, Nat.reduceAdd, List.drop_succ_cons, List.drop_zero, List.drop_nil]
   generalize xs 6 = x6 at *; subst h6
   generalize xs 7 = x7 at *; subst h7
   have HW6 := lh (HX5.out.trans hW)
   have HWW6 := lh hW
   clear hS hW kE kX
   have hs56 := HWW6.out.size
   have kX : rowOf W6 gx 0 37 = some (rpC X) := (HUX5.out.ext HWW6.out).all rfl (by omega)
   have kS : rowOf W6 g 21 16 = some (dgC SL) := ((HU11.out.ext (HXX5.out.trans HWW6.out)).row 21 16).trans (by rw [if_neg (by omega)]; exact HS21.out)
   go_upto_region 23 with (fail)
   refine wp_region_soft 7 (softsL [.eq (.agg (kyC (theKey 1))), .eq (.agg (rpC X)), readS (rpParts X), .eq (.agg (dgC M)), .eq (.pointer (some ⟨g, 21, none⟩)), .eq (.agg (dgC SL)), .eq (.bool (decide (M = SL)))]) (by kernel_rfl) (by kernel_rfl) (lt_cons ?_ (lt_cons ?_ (lt_cons ?_ (lt_cons ?_ (lt_cons ?_ (lt_cons ?_ (lt_cons ?_ (lt_none)))))))) ?_
   any_goals (refine sop rfl fun xs W HW hsW HD Q' HQ => ?_; simp only [fillAt, dstOf, lc0, lcs, obs, Act.put, lsa, lsz, lss, nz, Nat.reduceAdd] at HQ ⊢)
   ·
    go_wp2_with (go_at_call 32; refine (HKy.out 1 _).mono ?_; rintro e w1 ⟨rfl, hx⟩)
    exact HQ.out _ _ hx rfl
   ·
    have hc := (row_extW HW.out (b := gx) (by omega) 0 37).trans kX
    go_wp2
    exact HQ.out _ _ (eR _) rfl
   ·
    have hd1 : xs 1 = .agg (rpC X) := (HD.out 1 (dk (by kernel_rfl)))
    generalize xs 1 = x1 at hd1 HQ ⊢; subst hd1
    go_wp2_with (go_at_call 33; refine (HWh.out _ (HWW6.out.trans HW.out)).mono ?_; rintro e w1 ⟨A, c, rfl, h1, h2, hx⟩)
    exact HQ.out _ _ hx ⟨A, c, rfl, h1, h2⟩
   ·
    have hd0 : xs 0 = .agg (kyC (theKey 1)) := (HD.out 0 (dk (by kernel_rfl)))
    generalize xs 0 = x0 at hd0 HQ ⊢; subst hd0
    obtain ⟨A2, c2, h2, hr2, hz2⟩ : (readS (rpParts X)).S (xs 2) W := (HD.out 2 (dk (by kernel_rfl)))
    generalize xs 2 = x2 at h2 HQ ⊢; subst h2
    go_wp2_with (go_at_call 31; refine (HMk2.out A2 c2 _ hr2 hz2 (HWW6.out.trans HW.out)).mono ?_; rintro e w1 ⟨rfl, hx⟩)
    exact HQ.out _ _ hx rfl
   ·
    go_wp2
    exact HQ.out _ _ (eR _) rfl
   ·
    have hd4 : xs 4 = .pointer (some ⟨g, 21, none⟩) := (HD.out 4 (dk (by kernel_rfl)))
    generalize xs 4 = x4 at hd4 HQ ⊢; subst hd4
    have hc := (row_extW HW.out (b := g) (by omega) 21 16).trans kS
    go_wp2
    exact HQ.out _ _ (eR _) rfl
   ·
    have hd3 : xs 3 = .agg (dgC M) := (HD.out 3 (dk (by kernel_rfl)))
    generalize xs 3 = x3 at hd3 HQ ⊢; subst hd3
    have hd5 : xs 5 = .agg (dgC SL) := (HD.out 5 (dk (by kernel_rfl)))
    generalize xs 5 = x5 at hd5 HQ ⊢; subst hd5
    go_wp2
    exact HQ.out _ _ (eR _) rfl
   intro xs W7 hW hS
   have h6 : xs 6 = .bool (decide (M = SL)) := hS 6 (by omega)
   simp only [fillAt, dstOf, lc0, lcs, obs, Act.put, lsa, lsz, lss, nz, Nat.reduceAdd, List.drop_succ_cons, List.drop_zero, List.drop_nil]
   generalize xs 6 = x6 at *; subst h6
   have HW7 := lh (HW6.out.trans hW)
   have HWW7 := lh hW
   clear hS hW kX kS
   clear HCk2 HWh HMk2 hSq HXo HUX5 HRD5
   by_cases c1 : N = -1
   ·subst c1
    by_cases c2 : G = 8
    ·subst c2
     clear HPl
     go_wp2_with (go_at_call 16; refine (HS.out _ (by (with_reducible repeat first|exact HW7.out|exact eR _|apply eD|apply eN|apply eA|apply eO|apply eS|apply eC);all_goals first|omega|simp <;> omega)).mono ?_; rintro e w' ⟨rfl, hxl⟩; obtain ⟨xl, rfl⟩ := hxl.asLater; clear hxl)
     go_ret
     exact ⟨ret_bool (by first | rfl | simp [*]), (by (with_reducible repeat first|exact HW7.out|exact eR _|apply eD|apply eN|apply eA|apply eO|apply eS|apply eC);all_goals first|omega|simp <;> omega)⟩
    ·have e2 : (G == 8) = false := beq_false_of_ne c2
     have hm : decide (M = SL) = true := by have := HPl.out; simpa [c2] using this
     clear HPl
     go_wp2_with (go_at_call 16; refine (HS.out _ (by (with_reducible repeat first|exact HW7.out|exact eR _|apply eD|apply eN|apply eA|apply eO|apply eS|apply eC);all_goals first|omega|simp <;> omega)).mono ?_; rintro e w' ⟨rfl, hxl⟩; obtain ⟨xl, rfl⟩ := hxl.asLater; clear hxl)
     go_ret
     exact ⟨ret_bool (by first | rfl | simp [*]), (by (with_reducible repeat first|exact HW7.out|exact eR _|apply eD|apply eN|apply eA|apply eO|apply eS|apply eC);all_goals first|omega|simp <;> omega)⟩
   ·have e1 : (N == -1) = false := beq_false_of_ne c1
    have e4 : decide (N = -1) = false := by simpa using c1
    have hm : decide (M = SL) = true := by have := HPl.out; simpa [c1] using this
    clear HPl
    go_wp2_with (go_at_call 16; refine (HS.out _ (by (with_reducible repeat first|exact HW7.out|exact eR _|apply eD|apply eN|apply eA|apply eO|apply eS|apply eC);all_goals first|omega|simp <;> omega)).mono ?_; rintro e w' ⟨rfl, hxl⟩; obtain ⟨xl, rfl⟩ := hxl.asLater; clear hxl)
    go_ret
    exact ⟨ret_bool (by first | rfl | simp [*]), (by (with_reducible repeat first|exact HW7.out|exact eR _|apply eD|apply eN|apply eA|apply eO|apply eS|apply eC);all_goals first|omega|simp <;> omega)⟩
  ·
   obtain ⟨z, hz⟩ : ∃ z, L[k].cf.epoch = z := ⟨_, rfl⟩
   have hsm := (HSm.out L[k] (List.getElem_mem hkL)).2.2.2
   rw [hz] at hsm
   obtain ⟨z0, z1⟩ := hsm
   have c8 : W4.cell? ⟨gl, off + k * 59 + 3, none⟩ = some (.int .i64 z) := by rw [← hz]; exact hcel 3 _ rfl
   have f8 : W4.frozen? ⟨gl, off + k * 59 + 3, none⟩ = false := HFz.out _
   have HXk : Hid (LnOk (lnEpoch L[k] (z + by_))) := lh (lnOk_epoch (HLok.out _ (List.getElem_mem hkL)) (by unfold i64; omega))
   have HSx : Hid (lnL (lnEpoch L[k] (z + by_)) = (lnL L[k]).set 3 (.int .i64 (z + by_))) := lh (ln_set3 _ _)
   clear hz hcel HSm
   go_upto_region 19 with (fail)
   refine wp_region_later_tail 16 (by kernel_rfl) (by kernel_rfl) ?_
   simp only [List.take_succ_cons, List.take_zero, List.drop_succ_cons, List.drop_zero]
   repeat (first | go_big_quiet_step ((fail)) | quiet_step ((fail)))
   refine wpQuiet_nil ?_
   rintro _ ⟨xq, rfl⟩
   go_upto_region 22 with (fail)
   refine wp_world (fun W => ∃ X : Rp, Ext W2 W ∧ RowAt W gx (rpC X) ∧ Reads 59 lnL W W.heap.size X.LA X.lines ∧ XOk (1 + n) R.sl X) ⟨{ R with LA := some ⟨gl, off, none⟩, lc := c7, lines := L.set k (lnEpoch L[k] (z + by_)) }, ?_, ?_, ?_, ?_⟩ ?_
   ·exact Ext.setCell (HXX4.out.onto _) (by show _ ≤ gl; omega) _
   ·rw [rp_lens_eq { R with LA := some ⟨gl, off, none⟩, lc := c7 } (show (L.set k (lnEpoch L[k] (z + by_))).length = L.length by simp)]
    exact (HUX4.out.later _).other (by show gx ≠ gl; omega) _
   ·rw [World.size_setCell]
    exact reads_setAt ((HRD4.out).on (ext_later W4 xq)) k hkL 3 (by omega) (.int .i64 (z + by_)) (lnEpoch L[k] (z + by_)) HSx.out
   ·exact ⟨rpOk_lines HRO'.out _ _ _ (mem_set_ok HLok.out k HXk.out), by show (L.set k _).length ≤ 10; simp; omega, HRt.out.1, HRt.out.2.1, by show okClk ⟨R.lo, R.hi⟩ = true; rw [HRt.out.2.2.1, HRt.out.2.2.2.1]; exact HCk.out, by show R.hi < _; rw [HRt.out.2.2.2.1]; omega, HRt.out.2.2.2.2, rfl⟩
   clear HUX4 HRD4 HXX4 HXk HSx HFz HLok HCk HRt c8 f8 z0 z1 q19
   rintro W5 ⟨X, x5, uX, rX, hXo⟩
   have HX5 := lh (HX2.out.trans x5)
   have HXX5 := lh x5
   have HUX5 := lh uX
   have HRD5 := lh rX
   have HXo := lh hXo
   have hs5 := x5.size
   have hlX := uX.lt
   have hl11e := (HU11.out.ext x5).lt
   have kE : rowOf W5 B 0 38 = some (epC (tEp (1 + n))) := (HUE.out.ext (HXX2.out.trans x5)).all rfl (by omega)
   have kX : rowOf W5 gx 0 37 = some (rpC X) := uX.all rfl (by omega)
   have HPl := lh (found_t (n := 1 + n) X hXo.ep hXo.nm hXo.ck hXo.hh hXo.se)
   obtain ⟨⟨N, G⟩, hNG⟩ : ∃ z, checkRp theKeys (tEp (1 + n)) X = z := ⟨_, rfl⟩
   rw [hNG, hXo.sl_] at HPl
   have HCk2 : Hid (∀ (A : Option Addr) (c : Nat) (W : World), Ext W5 W → ReadsKy W W.heap.size A theKeys → Calls Tryz.prog 28 #[.slice A theKeys.length c, .agg (epC (tEp (1 + n))), .agg (rpC X)] W fun e w' => e = .returned (.tuple #[.int .i64 N, .int .i64 G]) ∧ Ext W w') := lh (fun A c W hx h => by
    have h := acheck_any A c theKeys (tEp (1 + n)) X W ring_ok h HEo.out (tEp_short _) (tEp_at _ W) HXo.out.ok (by have := HXo.out.len; omega) (HRD5.out.on hx) (RowAt.ext hk (HX5.out.trans hx))
    rw [hNG] at h
    exact h)
   have HWh := lh (fun (W : World) (hx : Ext W5 W) => rwhole_any X W HXo.out.ok (by have := HXo.out.len; omega) (HRD5.out.on hx))
   have HMk2 := lh (fun (A : Option Addr) (c : Nat) (W : World) (h1 : ReadsStr W W.heap.size A (rpParts X)) (h2 : A = none → c = 0) (hx : Ext W5 W) => rmake_any (theKey 1) 321 A c (rpParts X) W h1 h2 (lens_key (by decide) (by have := rpParts_lens HXo.out.ok (by have := HXo.out.len; omega); omega)) (RowAt.ext hr (HX5.out.trans hx)))
   have hSq := fun W => sel_eql (a := makeN (theKey 1) 321 (rpParts X)) (b := R.sl) ⟨makeN_len _ _ _, makeN_byt _ _ _⟩ HRO'.out.sl W
   have hfX := rp_fits X
   have hfM : fitsRow 16 (dgC (makeN (theKey 1) 321 (rpParts X))) = true := by simp [fitsRow, dgC, Value.oneCell']
   have hfS : fitsRow 16 (dgC R.sl) = true := by simp [fitsRow, dgC, Value.oneCell']
   have HS21 := lh (rp_s21_16 R)
   clear x5 uX rX hXo hNG
   generalize makeN (theKey 1) 321 (rpParts X) = M at *
   generalize R.sl = SL at *
   refine wp_region_soft 8 (softsL [readKs theKeys, .eq (.agg (epC (tEp (1 + n)))), .eq (.agg (rpC X)), .eq (.tuple #[.int .i64 N, .int .i64 G]), .eq (.tuple #[.int .i64 N, .int .i64 G]), .eq (.int .i64 N), .eq (.int .i64 G), .eq (.int .i64 N)]) (by kernel_rfl) (by kernel_rfl) (lt_cons ?_ (lt_cons ?_ (lt_cons ?_ (lt_cons ?_ (lt_cons ?_ (lt_cons ?_ (lt_cons ?_ (lt_cons ?_ (lt_none))))))))) ?_
   any_goals (refine sop rfl fun xs W HW hsW HD Q' HQ => ?_; simp only [fillAt, dstOf, lc0, lcs, obs, Act.put, lsa, lsz, lss, nz, Nat.reduceAdd] at HQ ⊢)
   ·
    go_wp2_with (go_at_call 29; refine (HKs.out _).mono ?_; rintro e w1 ⟨⟨A, c, rfl, h1⟩, hx⟩)
    exact HQ.out _ _ hx ⟨A, c, rfl, h1⟩
   ·
    have hc := (row_extW HW.out (b := B) (by omega) 0 38).trans kE
    go_wp2
    exact HQ.out _ _ (eR _) rfl
   ·
    have hc := (row_extW HW.out (b := gx) (by omega) 0 37).trans kX
    go_wp2
    exact HQ.out _ _ (eR _) rfl
   ·
    have hs0 : (readKs theKeys).S (xs 0) W := (HD.out 0 (dk (by kernel_rfl)))
    have hd1 : xs 1 = .agg (epC (tEp (1 + n))) := (HD.out 1 (dk (by kernel_rfl)))
    generalize xs 1 = x1 at hd1 HQ ⊢; subst hd1
    have hd2 : xs 2 = .agg (rpC X) := (HD.out 2 (dk (by kernel_rfl)))
    generalize xs 2 = x2 at hd2 HQ ⊢; subst hd2
    obtain ⟨A0, c0, h0, hr0⟩ := hs0
    generalize xs 0 = x0 at h0 HQ ⊢; subst h0
    go_wp2_with (go_at_call 28; refine (HCk2.out A0 c0 _ HW.out hr0).mono ?_; rintro e w1 ⟨rfl, hx⟩)
    exact HQ.out _ _ hx rfl
   ·
    have hd3 : xs 3 = .tuple #[.int .i64 N, .int .i64 G] := (HD.out 3 (dk (by kernel_rfl)))
    generalize xs 3 = x3 at hd3 HQ ⊢; subst hd3
    go_wp2
    exact HQ.out _ _ (eR _) rfl
   ·
    have hd4 : xs 4 = .tuple #[.int .i64 N, .int .i64 G] := (HD.out 4 (dk (by kernel_rfl)))
    generalize xs 4 = x4 at hd4 HQ ⊢; subst hd4
    go_wp2
    exact HQ.out _ _ (eR _) rfl
   ·
    have hd4 : xs 4 = .tuple #[.int .i64 N, .int .i64 G] := (HD.out 4 (dk (by kernel_rfl)))
    generalize xs 4 = x4 at hd4 HQ ⊢; subst hd4
    go_wp2
    exact HQ.out _ _ (eR _) rfl
   ·
    have hd5 : xs 5 = .int .i64 N := (HD.out 5 (dk (by kernel_rfl)))
    generalize xs 5 = x5 at hd5 HQ ⊢; subst hd5
    go_wp2
    exact HQ.out _ _ (eR _) rfl
   intro xs W6 hW hS
   have h6 : xs 6 = .int .i64 G := hS 6 (by omega)
   have h7 : xs 7 = .int .i64 N := hS 7 (by omega)
   simp only [fillAt, dstOf, lc0, lcs, obs, Act.put, lsa, lsz, lss, nz, Nat.reduceAdd, List.drop_succ_cons, List.drop_zero, List.drop_nil]
   generalize xs 6 = x6 at *; subst h6
   generalize xs 7 = x7 at *; subst h7
   have HW6 := lh (HX5.out.trans hW)
   have HWW6 := lh hW
   clear hS hW kE kX
   have hs56 := HWW6.out.size
   have kX : rowOf W6 gx 0 37 = some (rpC X) := (HUX5.out.ext HWW6.out).all rfl (by omega)
   have kS : rowOf W6 g 21 16 = some (dgC SL) := ((HU11.out.ext (HXX5.out.trans HWW6.out)).row 21 16).trans (by rw [if_neg (by omega)]; exact HS21.out)
   go_upto_region 23 with (fail)
   refine wp_region_soft 7 (softsL [.eq (.agg (kyC (theKey 1))), .eq (.agg (rpC X)), readS (rpParts X), .eq (.agg (dgC M)), .eq (.pointer (some ⟨g, 21, none⟩)), .eq (.agg (dgC SL)), .eq (.bool (decide (M = SL)))]) (by kernel_rfl) (by kernel_rfl) (lt_cons ?_ (lt_cons ?_ (lt_cons ?_ (lt_cons ?_ (lt_cons ?_ (lt_cons ?_ (lt_cons ?_ (lt_none)))))))) ?_
   any_goals (refine sop rfl fun xs W HW hsW HD Q' HQ => ?_; simp only [fillAt, dstOf, lc0, lcs, obs, Act.put, lsa, lsz, lss, nz, Nat.reduceAdd] at HQ ⊢)
   ·
    go_wp2_with (go_at_call 32; refine (HKy.out 1 _).mono ?_; rintro e w1 ⟨rfl, hx⟩)
    exact HQ.out _ _ hx rfl
   ·
    have hc := (row_extW HW.out (b := gx) (by omega) 0 37).trans kX
    go_wp2
    exact HQ.out _ _ (eR _) rfl
   ·
    have hd1 : xs 1 = .agg (rpC X) := (HD.out 1 (dk (by kernel_rfl)))
    generalize xs 1 = x1 at hd1 HQ ⊢; subst hd1
    go_wp2_with (go_at_call 33; refine (HWh.out _ (HWW6.out.trans HW.out)).mono ?_; rintro e w1 ⟨A, c, rfl, h1, h2, hx⟩)
    exact HQ.out _ _ hx ⟨A, c, rfl, h1, h2⟩
   ·
    have hd0 : xs 0 = .agg (kyC (theKey 1)) := (HD.out 0 (dk (by kernel_rfl)))
    generalize xs 0 = x0 at hd0 HQ ⊢; subst hd0
    obtain ⟨A2, c2, h2, hr2, hz2⟩ : (readS (rpParts X)).S (xs 2) W := (HD.out 2 (dk (by kernel_rfl)))
    generalize xs 2 = x2 at h2 HQ ⊢; subst h2
    go_wp2_with (go_at_call 31; refine (HMk2.out A2 c2 _ hr2 hz2 (HWW6.out.trans HW.out)).mono ?_; rintro e w1 ⟨rfl, hx⟩)
    exact HQ.out _ _ hx rfl
   ·
    go_wp2
    exact HQ.out _ _ (eR _) rfl
   ·
    have hd4 : xs 4 = .pointer (some ⟨g, 21, none⟩) := (HD.out 4 (dk (by kernel_rfl)))
    generalize xs 4 = x4 at hd4 HQ ⊢; subst hd4
    have hc := (row_extW HW.out (b := g) (by omega) 21 16).trans kS
    go_wp2
    exact HQ.out _ _ (eR _) rfl
   ·
    have hd3 : xs 3 = .agg (dgC M) := (HD.out 3 (dk (by kernel_rfl)))
    generalize xs 3 = x3 at hd3 HQ ⊢; subst hd3
    have hd5 : xs 5 = .agg (dgC SL) := (HD.out 5 (dk (by kernel_rfl)))
    generalize xs 5 = x5 at hd5 HQ ⊢; subst hd5
    go_wp2
    exact HQ.out _ _ (eR _) rfl
   intro xs W7 hW hS
   have h6 : xs 6 = .bool (decide (M = SL)) := hS 6 (by omega)
   simp only [fillAt, dstOf, lc0, lcs, obs, Act.put, lsa, lsz, lss, nz, Nat.reduceAdd, List.drop_succ_cons, List.drop_zero, List.drop_nil]
   generalize xs 6 = x6 at *; subst h6
   have HW7 := lh (HW6.out.trans hW)
   have HWW7 := lh hW
   clear hS hW kX kS
   clear HCk2 HWh HMk2 hSq HXo HUX5 HRD5
   by_cases c1 : N = -1
   ·subst c1
    by_cases c2 : G = 8
    ·subst c2
     clear HPl
     go_wp2_with (go_at_call 16; refine (HS.out _ (by (with_reducible repeat first|exact HW7.out|exact eR _|apply eD|apply eN|apply eA|apply eO|apply eS|apply eC);all_goals first|omega|simp <;> omega)).mono ?_; rintro e w' ⟨rfl, hxl⟩; obtain ⟨xl, rfl⟩ := hxl.asLater; clear hxl)
     go_ret
     exact ⟨ret_bool (by first | rfl | simp [*]), (by (with_reducible repeat first|exact HW7.out|exact eR _|apply eD|apply eN|apply eA|apply eO|apply eS|apply eC);all_goals first|omega|simp <;> omega)⟩
    ·have e2 : (G == 8) = false := beq_false_of_ne c2
     have hm : decide (M = SL) = true := by have := HPl.out; simpa [c2] using this
     clear HPl
     go_wp2_with (go_at_call 16; refine (HS.out _ (by (with_reducible repeat first|exact HW7.out|exact eR _|apply eD|apply eN|apply eA|apply eO|apply eS|apply eC);all_goals first|omega|simp <;> omega)).mono ?_; rintro e w' ⟨rfl, hxl⟩; obtain ⟨xl, rfl⟩ := hxl.asLater; clear hxl)
     go_ret
     exact ⟨ret_bool (by first | rfl | simp [*]), (by (with_reducible repeat first|exact HW7.out|exact eR _|apply eD|apply eN|apply eA|apply eO|apply eS|apply eC);all_goals first|omega|simp <;> omega)⟩
   ·have e1 : (N == -1) = false := beq_false_of_ne c1
    have e4 : decide (N = -1) = false := by simpa using c1
    have hm : decide (M = SL) = true := by have := HPl.out; simpa [c1] using this
    clear HPl
    go_wp2_with (go_at_call 16; refine (HS.out _ (by (with_reducible repeat first|exact HW7.out|exact eR _|apply eD|apply eN|apply eA|apply eO|apply eS|apply eC);all_goals first|omega|simp <;> omega)).mono ?_; rintro e w' ⟨rfl, hxl⟩; obtain ⟨xl, rfl⟩ := hxl.asLater; clear hxl)
    go_ret
    exact ⟨ret_bool (by first | rfl | simp [*]), (by (with_reducible repeat first|exact HW7.out|exact eR _|apply eD|apply eN|apply eA|apply eO|apply eS|apply eC);all_goals first|omega|simp <;> omega)⟩
  ·exact absurd h4 hq4
  ·exact absurd h5 hq5
 ·have hdd : decide ((10 : Int) < l.length) = true := by simp; omega
  clear hd hdi h10
  go_enter Tryz.func7, Tryz.ntmps7
  go_wp2_with (go_at_call 16; refine (HS.out _ (by (with_reducible repeat first|exact eR _|apply eD|apply eN|apply eA|apply eO|apply eS|apply eC);all_goals first|omega|simp <;> omega)).mono ?_; rintro e w' ⟨rfl, hxl⟩; obtain ⟨xl, rfl⟩ := hxl.asLater; clear hxl)
  go_ret
  exact ⟨rfl, (by (with_reducible repeat first|exact eR _|apply eD|apply eN|apply eA|apply eO|apply eS|apply eC);all_goals first|omega|simp <;> omega)⟩
end Go.Proofs.YtpfhmcdcmepfdaaGreatDoor

namespace Go.Proofs.YtpfhmcdcmepfdaaGreatDoor
open Go.ChangeShapes Go.WideShapes Go.ChangeAt Go.ChangeMaps Go.RowKit
open Go.Proofs
theorem laidCh {W : World} (h : laidMetH Tryz.prog Rows.accountChangesAreFoundRow.laid W) : Konst 1 W ∧ RKonst W := by
 rw [MakeChecks.laidMetH_plain _ _ _ (by kernel_rfl)] at h
 obtain ⟨ps, ⟨ga, ta, csa, fa, pa, qa, hga, hta, hva, hda, ⟨g0, t0, cs0, f0, p0, q0, hg0, ht0, hv0, hd0, ⟨g1, t1, cs1, f1, p1, q1, hg1, ht1, hv1, hd1, _, rfl⟩, rfl⟩, rfl⟩, _, hf⟩ := h
 obtain rfl := Option.some.inj ((show Tryz.prog.globalNamed "weirgate/weirgateref02.constants" = some 0 by kernel_rfl).symm.trans hg0)
 obtain rfl := Option.some.inj ((show Tryz.prog.globalNamed "weirgate/hash.constants" = some 1 by kernel_rfl).symm.trans hg1)
 obtain rfl := Option.some.inj ((show (Tryz.prog.globals[(0 : Nat)]?).map (·.type) = some 264 by kernel_rfl).symm.trans ht0)
 obtain rfl := Option.some.inj ((show (Tryz.prog.globals[(1 : Nat)]?).map (·.type) = some 264 by kernel_rfl).symm.trans ht1)
 rw [laidRK] at hd0
 rw [laidK] at hd1
 exact ⟨table_at hg1 hv1 hd1 (fun x hx => by simp [hx]) hf, table_at hg0 hv0 hd0 (fun x hx => by simp [hx]) hf⟩
theorem accountChangesAreFound_lifted (os : Os) (started : os.Started) (H : Type) (enc : TypeId × Value → H) :
  ReturnsInHanded {} Tryz.checked os 7 .any (fun w args => (Rows.accountChangesAreFoundSpec.pre enc Tryz.prog Tryz.f7 Rows.accountChangesAreFoundRow.domain false w args ∧ laidMetH Tryz.prog Rows.accountChangesAreFoundRow.laid w) ∧ sizedMet enc Tryz.prog Tryz.f7 (OpenSpec.ofChange Rows.accountChangesAreFoundSpec) false w args)
   (Rows.accountChangesAreFoundSpec.post enc Tryz.prog Tryz.f7 false true false false) := by
 refine returnsInHanded_of_change_and (C := Tryz.checked) (X := fun w _ => laidMetH Tryz.prog Rows.accountChangesAreFoundRow.laid w) (fun _ _ _ hh h => h.of_heap hh) Tryz.own started (by kernel_rfl) Tryz.func7
  (ChangeSpec.witness_shaped (enc := enc) (C := Tryz.checked) (os := os) (X := fun w _ => laidMetH Tryz.prog Rows.accountChangesAreFoundRow.laid w) false (World.laidAll Tryz.prog os Rows.accountChangesAreFoundRow.laid) #[.int .u16 0, .slice none 0 0, .int .u16 0, .int .u8 0, .int .u8 0, .int .u8 0, .int .u8 0] 8 (World.laidAll_os _ _ _)
   (World.shaped_of_ZipB (by kernel_rfl) (by kernel_rfl)) (by kernel_rfl) (by kernel_rfl) (by kernel_rfl)
   (by rw [MakeChecks.laidMetH_plain _ _ _ (by kernel_rfl)]; exact laidMet_laidAll _ (by kernel_rfl) (by kernel_rfl))) ?_
 intro W base args ds gs before hval0 hW hcnd hSz hL _
 have hval : ∀ (j : Nat) t v, Tryz.f7.params[j]? = some t → args[j]? = some v → Value.okWide Tryz.prog W .any base t v := hval0
 have hW' := hW
 obtain ⟨p, q, hA0, hV, rfl, hfz, hnd⟩ := hW
 have hA : DataW.TrodAll enc Tryz.prog W 0 (fun _ => true) true Tryz.f7.params.toList args.toList ds p := hA0
 rw [Tryz.params7] at hA hval
 obtain ⟨rfl, rfl⟩ := trodVars_none hV
 clear hA0 hval0 hcnd
 obtain ⟨v0, vs0, d0, ds0, p0, q0, ea0, rfl, rfl, h0, hA⟩ := trodAll_cons hA
 obtain ⟨v1, vs1, d1, ds1, p1, q1, rfl, rfl, rfl, h1, hA⟩ := trodAll_cons hA
 obtain ⟨v2, vs2, d2, ds2, p2, q2, rfl, rfl, rfl, h2, hA⟩ := trodAll_cons hA
 obtain ⟨v3, vs3, d3, ds3, p3, q3, rfl, rfl, rfl, h3, hA⟩ := trodAll_cons hA
 obtain ⟨v4, vs4, d4, ds4, p4, q4, rfl, rfl, rfl, h4, hA⟩ := trodAll_cons hA
 obtain ⟨v5, vs5, d5, ds5, p5, q5, rfl, rfl, rfl, h5, hA⟩ := trodAll_cons hA
 obtain ⟨v6, vs6, d6, ds6, p6, q6, rfl, rfl, rfl, h6, hA⟩ := trodAll_cons hA
 obtain ⟨rfl, rfl, rfl⟩ := trodAll_nil hA
 obtain rfl : args = #[v0, v1, v2, v3, v4, v5, v6] := by cases args; simp_all
 obtain ⟨hk, hrk⟩ := laidCh hL
 obtain ⟨n, rfl, _, _, w0⟩ := open_int Tryz.underlying77 (hval 0 77 v0 rfl rfl) h0
 obtain ⟨DA, dc, l, rfl, hd1, hd2, hd3, hd4⟩ := open_deeds (hval 1 78 v1 rfl rfl) h1
 obtain ⟨lo, rfl, _, _, w2⟩ := open_int Tryz.underlying77 (hval 2 77 v2 rfl rfl) h2
 obtain ⟨wd, rfl, _, _, w3⟩ := open_int Tryz.underlying5 (hval 3 5 v3 rfl rfl) h3
 obtain ⟨pl, rfl, _, _, w4⟩ := open_int Tryz.underlying5 (hval 4 5 v4 rfl rfl) h4
 obtain ⟨wh, rfl, _, _, w5⟩ := open_int Tryz.underlying5 (hval 5 5 v5 rfl rfl) h5
 obtain ⟨by_, rfl, _, _, w6⟩ := open_int Tryz.underlying5 (hval 6 5 v6 rfl rfl) h6
 have main := changes_ok n DA dc l lo wd pl wh by_ W (u16_wf w0) (by unfold maxLen at hd2; omega) hd3 hd4 (u16_wf w2) (u8_wf w3) (u8_wf w4) (u8_wf w5) (u8_wf w6) hk hrk
 refine main.mono fun e' W' ⟨he, hx⟩ => ?_
 subst he
 exact ⟨_, rfl, law_post Tryz.laidOut (by kernel_rfl) rfl hW' hx 4 (by kernel_rfl) Tryz.underlying4 rfl rfl rfl⟩
end Go.Proofs.YtpfhmcdcmepfdaaGreatDoor