
import Derived.WalkKit
import Derived.WalkSpells
import Derived.WalkLawsBesides
import Derived.Deep.QuietTactic
import Derived.BigQuiet
import Derived.RegionTactic
import Derived.Test.YtpfhmcdcmepfdaaGreatDoorRSoF
set_option linter.unusedVariables false
set_option linter.unusedSimpArgs false
namespace Go.Proofs.YtpfhmcdcmepfdaaGreatDoor
open Go.RowKit
open Go.Proofs
section
variable {P : Program} {ops : Array Oper} {Q : Exit → Act → World → Prop}
theorem run_extract {i : Nat} {t : TypeId} {x : Operand} {dst : Option Tmp} {pos : String} {after : Array Edge} {vs : Array Value} {v : Value} (ρ : Operand → Value) (w : World) (h : ρ x = .tuple vs) (hv : vs[i]? = some v) :
  (execOp ρ { dst, op := .extract x i, type := t, pos, after, guard := none }).run P w = .ok (.value v) w := by
 simp [execOp, h, hv, go_sem]
theorem wanted_none {op : Op} {dst : Option Tmp} {t : TypeId} {pos : String} {after : Array Edge} (y : Nat → Option Bool) : Region.wanted { dst, op, type := t, pos, after, guard := none } y = true := rfl
end
end Go.Proofs.YtpfhmcdcmepfdaaGreatDoor

namespace Go.Proofs.YtpfhmcdcmepfdaaGreatDoor
open Go.RowKit
def tail2B (ops : Array Oper) (n : Nat) : Bool :=
 decide (0 < n) && ((List.range (n - 1)).all fun i => (List.range n).any fun j => decide (i < j) && Region.waitsFor .any ops j i) &&
 ((List.range ops.size).all fun t => decide (t < n) || (List.range t).any fun j => decide (n - 1 ≤ j) && Region.waitsFor .any ops t j)
theorem tail2_waits {ops : Array Oper} {n : Nat} {listed : Array Bool} (hB : tail2B ops n = true) (inv : HeadInv .any ops n listed) {i : Nat} (hi : i < n) (hun : listed.getD i true = false) : ∀ t, n ≤ t → t ∉ Region.ready .any ops listed := by
 intro t ht hr
 simp only [tail2B, Bool.and_eq_true, decide_eq_true_eq, List.all_eq_true, List.mem_range, Bool.or_eq_true, List.any_eq_true] at hB
 obtain ⟨⟨h0, hs⟩, hc⟩ := hB
 obtain ⟨_, ot, hot, hall⟩ := mem_ready.1 hr
 have htlt : t < ops.size := (Array.getElem?_eq_some_iff.1 hot).1
 have hlast : listed.getD (n - 1) false = true := by
  rcases hc t htlt with k | ⟨j, hj, hnj, hw⟩
  ·omega
  ·obtain ⟨oj, hoj, e, he, hb, hon⟩ := Region.waitsFor_spec hw
   have : oj = ot := Option.some.inj (hoj.symm.trans hot)
   subst this
   have h2 := hall e he hb
   rw [hon] at h2
   by_cases hjn : n ≤ j
   ·have h3 := inv.tail j hjn (by omega)
    rw [getD_both h3] at h2
    cases h2
   ·have : j = n - 1 := by omega
    subst this
    exact h2
 have hdown : ∀ d i, n - 1 - i = d → i < n → listed.getD i false = true := by
  intro d
  induction d using Nat.strongRecOn with
  | _ d ih =>
   intro i hd hi
   by_cases hin : i = n - 1
   ·rw [hin]; exact hlast
   ·obtain ⟨j, hj, hij, hw⟩ := hs i (by omega)
    obtain ⟨oj, hoj, e, he, hb, hon⟩ := Region.waitsFor_spec hw
    have hl := ih (n - 1 - j) (by omega) j rfl hj
    have := inv.closed j oj hoj hl e he hb
    rwa [hon] at this
 have := hdown _ i rfl hi
 rw [getD_both hun] at this
 cases this
def softR (l : List Oper) (n : Nat) : Bool :=
 decide (n < l.length) && tail2B l.toArray n &&
 ((List.range n).all fun i => (depsOf l i).all (fun j => decide (j < i))) &&
 ((List.range n).all fun i => (List.range n).all fun j => decide (j = i) || decide (dstOf l j ≠ dstOf l i) || decide (dstOf l j = none))
section
variable {P : Program} {id : Nat} {Q : Exit → Act → World → Prop} {a0 : Act} {w0 : World} {l : List Oper}
theorem wpAny_softR {n : Nat} (L : Nat → Soft) (hB : softR l n = true)
  (hop : ∀ i, i < n → ∀ o, l[i]? = some o → ∀ xs w, Ext w0 w → (∀ j, j ∈ depsOf l i → (L j).S (xs j) w) → ∀ Q' : Exit → Act → World → Prop, (∀ v w', Ext w w' → (L i).S v w' → Q' .normal ((fillAt l a0 xs n).put o.dst v) w') → wpList P l.toArray Q' [o] (fillAt l a0 xs n) w)
  (hend : ∀ xs w, Ext w0 w → (∀ i, i < n → (L i).S (xs i) w) → wpAny P .any l.toArray Q (l.length - n) (fullL l.length n) (fillAt l a0 xs n) w) :
  ∀ (f : Nat) (listed : Array Bool) (xs : Nat → Value) (w : World), HeadInv .any l.toArray n listed → cntU listed n = f → Ext w0 w → (∀ i, i < n → listed.getD i false = true → (L i).S (xs i) w) →
   wpAny P .any l.toArray Q (f + (l.length - n)) listed (fillAt l a0 xs n) w := by
 simp only [softR, Bool.and_eq_true, decide_eq_true_eq, List.all_eq_true, List.mem_range, Bool.or_eq_true] at hB
 obtain ⟨⟨⟨hn, hT⟩, hdeps⟩, hdst⟩ := hB
 have hn' : n < l.toArray.size := by simpa using hn
 intro f
 induction f with
 | zero =>
  intro listed xs w inv hcnt hx hS
  have hall := cnt_zero n hcnt
  have he : listed = fullL l.length n := by
   have hsz := inv.size
   apply Array.ext (by rw [hsz]; simp [fullL])
   intro i h1 h2
   have hil : i < l.length := by rw [hsz] at h1; simpa using h1
   have e2 : (fullL l.length n)[i] = decide (i < n) := by simp [fullL]
   rw [e2]
   by_cases hi : i < n
   ·have := hall i hi
    simp [h1] at this
    rw [this]; simp [hi]
   ·have := inv.tail i (by omega) (by simpa using hil)
    simp [h1] at this
    rw [this]; simp [hi]
  rw [Nat.zero_add]
  rw [he]
  exact hend xs w hx (fun i hi => hS i hi (hall i hi))
 | succ f ih =>
  intro listed xs w inv hcnt hx hS
  obtain ⟨i0, hi0, hu0, hmin⟩ := cnt_pos n (by omega : 0 < cntU listed n)
  have hi0s : i0 < listed.size := by rw [inv.size]; omega
  have hu0' := getD_in hi0s hu0
  have hl0 : i0 < l.length := by omega
  have hready : i0 ∈ Region.ready .any l.toArray listed := by
   refine mem_ready.2 ⟨hu0', l[i0], by simp [hl0], fun e he hb => ?_⟩
   have hd : e.on ∈ depsOf l i0 := by
    simp only [depsOf, List.getElem?_eq_getElem hl0, Option.map_some, Option.getD_some, List.mem_map, List.mem_filter]
    exact ⟨e, ⟨by simpa using he, hb⟩, rfl⟩
   exact hmin _ (hdeps i0 hi0 _ hd)
  rw [show f + 1 + (l.length - n) = (f + (l.length - n)) + 1 by omega]
  refine ⟨fun h0 => (by rw [h0] at hready; cases hready), fun i hi => ?_⟩
  have hin : i < n := by
   rcases Nat.lt_or_ge i n with h | h
   ·exact h
   ·exact absurd hi (tail2_waits hT inv hi0 hu0' i h)
  obtain ⟨hun, o, ho, hall⟩ := mem_ready.1 hi
  have ho' : l[i]? = some o := by simpa using ho
  have hu := getD_both hun
  refine wpOp_of_one ho ?_
  refine hop i hin o ho' xs w hx (fun j hj => ?_) _ (fun v w' hx' hv => ?_)
  ·have hji := hdeps i hin j hj
   refine hS j (by omega) ?_
   simp only [depsOf, ho', Option.map_some, Option.getD_some, List.mem_map, List.mem_filter] at hj
   obtain ⟨e, ⟨he, hb⟩, rfl⟩ := hj
   exact hall e (by simpa using he) hb
  ·show wpAny P .any l.toArray Q (f + (l.length - n)) (listed.setIfInBounds i true) _ w'
   have ed : o.dst = dstOf l i := by simp [dstOf, ho']
   rw [ed, fill_put n hin (fun j hj hji => by
    rcases hdst i hin j hj with (h | h) | h
    ·exact absurd h hji
    ·exact .inl h
    ·exact .inr h)]
   refine ih _ _ w' (inv.set hi hin) (by have := cnt_set (by rw [inv.size]; omega) hu n hin; omega) (hx.trans hx') (fun j hj hlj => ?_)
   by_cases e : j = i
   ·subst e
    have : updAt xs j v j = v := by simp [updAt]
    rw [this]
    exact hv
   ·have : updAt xs i v j = xs j := by simp [updAt, e]
    rw [this]
    rw [getD_set_ne false (Ne.symm e)] at hlj
    exact (L j).on _ _ _ (hS j hj hlj) hx'
theorem wp_region_softR (n : Nat) (L : Nat → Soft) (hm : P.follows .mixedOrders = true) (hB : softR l n = true)
  (hop : ∀ i, i < n → ∀ o, l[i]? = some o → ∀ xs w, Ext w0 w → (∀ j, j ∈ depsOf l i → (L j).S (xs j) w) → ∀ Q' : Exit → Act → World → Prop, (∀ v w', Ext w w' → (L i).S v w' → Q' .normal ((fillAt l a0 xs n).put o.dst v) w') → wpList P l.toArray Q' [o] (fillAt l a0 xs n) w)
  (hend : ∀ xs w, Ext w0 w → (∀ i, i < n → (L i).S (xs i) w) → wpAny P .any l.toArray Q (l.length - n) (fullL l.length n) (fillAt l a0 xs n) w) : (Code.region id l.toArray true).wp P Q a0 w0 := by
 refine wp_region_any hm ?_
 have hn : n < l.length := by
  simp only [softR, Bool.and_eq_true, decide_eq_true_eq] at hB
  exact hB.1.1.1
 have inv0 : HeadInv .any l.toArray n (Array.replicate l.toArray.size false) :=
  ⟨by simp, fun j oj _ hl => (by rw [getD_replicate_false] at hl; cases hl), fun t _ ht => getD_in (by simpa using ht) (getD_replicate_false _ _)⟩
 have hc0 : ∀ m, cntU (Array.replicate l.toArray.size false) m = m := by
  intro m
  induction m with
  | zero => rfl
  | succ m ih => rw [cntU, ih, getD_replicate_false]; rfl
 have := wpAny_softR (P := P) (Q := Q) (a0 := a0) (w0 := w0) L hB hop hend n _ (fun i => ((dstOf l i).map fun t => a0.tmps.getD t undef).getD undef) { w0 with drawn := w0.drawn + 1 } inv0 (hc0 n) (Ext.drew (Ext.refl w0)) (fun i _ hl => (by rw [getD_replicate_false] at hl; cases hl))
 rw [fill_self] at this
 have e : n + (l.length - n) = l.toArray.size := by simp; omega
 rwa [e] at this
end
section
variable {P : Program} {ops : Array Oper} {Q : Exit → Act → World → Prop}
theorem run_assign {x : Operand} {t : TypeId} {dst : Option Tmp} {pos : String} {after : Array Edge} {v : Value} (ρ : Operand → Value) (w : World) (h : ρ x = v) :
  (execOp ρ { dst, op := .assign x, type := t, pos, after, guard := none }).run P w = .ok (.value v) w := by
 subst h
 simp [execOp, go_sem]
theorem wpAny_putTail4 {T : TypeId} {n : Nat} (hty : RowTy P T n) {i1 i2 i3 i4 : Nat} {x tb d1 d2 d4 : Tmp} {op4 : Op} {u1 u2 u3 u4 : TypeId} {p1 p2 p3 p4 : String} {f1 f2 f3 f4 : Array Edge} {v2 v4 : Value} {cs : Array Value} {B : Nat} {listed : Array Bool} {a : Act} {w : World}
  (h1 : ops[i1]? = some { dst := some d1, op := .extract (.tmp x) 0, type := u1, pos := p1, after := f1, guard := none })
  (h2 : ops[i2]? = some { dst := some d2, op := .extract (.tmp x) 1, type := u2, pos := p2, after := f2, guard := none })
  (h3 : ops[i3]? = some { dst := none, op := .store T (.tmp tb) (.tmp d1), type := u3, pos := p3, after := f3, guard := none })
  (h4 : ops[i4]? = some { dst := some d4, op := op4, type := u4, pos := p4, after := f4, guard := none })
  (hs : Region.noSelect ops = true)
  (g2 : Region.free .any ops listed i2 = true) (r2 : (Region.ready .any ops listed).contains i2 = true)
  (g1 : Region.free .any ops (listed.setIfInBounds i2 true) i1 = true) (r1 : (Region.ready .any ops (listed.setIfInBounds i2 true)).contains i1 = true)
  (r3 : Region.ready .any ops ((listed.setIfInBounds i2 true).setIfInBounds i1 true) = [i3])
  (g5 : Region.free .any ops (((listed.setIfInBounds i2 true).setIfInBounds i1 true).setIfInBounds i3 true) i4 = true) (r5 : (Region.ready .any ops (((listed.setIfInBounds i2 true).setIfInBounds i1 true).setIfInBounds i3 true)).contains i4 = true)
  (r4 : Region.ready .any ops ((((listed.setIfInBounds i2 true).setIfInBounds i1 true).setIfInBounds i3 true).setIfInBounds i4 true) = [])
  (hp : ∀ (d : Tmp) (v : Value) c a w, Q (.panic c) (a.put (some d) v) w → Q (.panic c) a w)
  (e2 : a.eval (.tmp x) = .tuple #[.agg cs, v2]) (e1 : (a.put (some d2) v2).eval (.tmp x) = .tuple #[.agg cs, v2])
  (e5 : ∀ w, (execOp (((a.put (some d2) v2).put (some d1) (.agg cs)).eval) { dst := some d4, op := op4, type := u4, pos := p4, after := f4, guard := none }).run P w = .ok (.value v4) w)
  (e3 : ((a.put (some d2) v2).put (some d1) (.agg cs)).eval (.tmp tb) = .pointer (some ⟨B, 0, none⟩))
  (e4 : ((a.put (some d2) v2).put (some d1) (.agg cs)).eval (.tmp d1) = .agg cs)
  (room : roomOf w B 0 n = true) (fits : fitsRow n cs = true)
  (hQ : Q .normal (((a.put (some d2) v2).put (some d1) (.agg cs)).put (some d4) v4) (w.setCells B 0 cs.toList)) :
  wpAny P .any ops Q 4 listed a w := by
 refine wpAny_take (i := i2) (v := v2) h2 hs g2 r2 (fun c a w h => hp _ _ c a w h) (Or.inl ⟨wanted_none _, fun w => run_extract _ w e2 rfl⟩) ?_
 refine wpAny_take (i := i1) (v := .agg cs) h1 hs g1 r1 (fun c a w h => hp _ _ c a w h) (Or.inl ⟨wanted_none _, fun w => run_extract _ w e1 rfl⟩) ?_
 refine wpAny_ready (rs := [i3]) r3 (by simp) ?_
 refine AllReady.cons h3 (fun K hK => ?_) AllReady.nil
 rw [if_pos (show Region.wanted _ _ = true from rfl)]
 unfold Oper.wp
 dsimp only
 rw [execOp_rowStore T n, e3, e4, run_rowStore hty, room, fits]
 show K _ _
 refine hK _ _ ?_
 refine wpAny_take (i := i4) (v := v4) h4 hs g5 r5 (fun c a w h => hp _ _ c a w h) (Or.inl ⟨wanted_none _, fun w => e5 w⟩) ?_
 exact wpAny_done r4 hQ _
end
end Go.Proofs.YtpfhmcdcmepfdaaGreatDoor