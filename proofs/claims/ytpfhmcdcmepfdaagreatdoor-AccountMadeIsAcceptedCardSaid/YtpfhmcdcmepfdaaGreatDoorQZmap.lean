
import Derived.WalkKit
import Derived.WalkSpells
import Derived.WalkLawsBesides
import Derived.Deep.QuietTactic
import Derived.BigQuiet
import Derived.RegionTactic
import Derived.Test.YtpfhmcdcmepfdaaGreatDoorQKm
import Derived.Test.YtpfhmcdcmepfdaaGreatDoorTie
import Derived.Test.YtpfhmcdcmepfdaaGreatDoorCards
import Derived.ProofKit
import Derived.Lay
import Derived.ChangeMaps5
import Derived.SevenTiedAt
import Derived.Stop.Joined
set_option maxRecDepth 100000
set_option maxHeartbeats 64000000
set_option linter.unusedVariables false
set_option linter.unusedSimpArgs false
namespace Go.Proofs.YtpfhmcdcmepfdaaGreatDoor
open Go.RowKit
open Go.Proofs
section
variable {P : Program} {ops : Array Oper} {Q : Exit → Act → World → Prop}
theorem run_extract {i : Nat} {t : TypeId} {x : Operand} {dst : Option Tmp} {pos : String} {after : Array Edge} {vs : Array Value} {v : Value} (ρ : Operand → Value) (w : World) (h : ρ x = .tuple vs) (hv : vs[i]? = some v) :
  (execOp ρ { dst, op := .extract x i, type := t, pos, after, guard := none }).run P w = .ok (.value v) w := by
 simp [execOp, h, hv, go_sem]
theorem wanted_none {op : Op} {dst : Option Tmp} {t : TypeId} {pos : String} {after : Array Edge} (y : Nat → Option Bool) : Region.wanted { dst, op, type := t, pos, after, guard := none } y = true := rfl
end
end Go.Proofs.YtpfhmcdcmepfdaaGreatDoor

namespace Go.Proofs.YtpfhmcdcmepfdaaGreatDoor
open Go.RowKit
def tail2B (ops : Array Oper) (n : Nat) : Bool :=
 decide (0 < n) && ((List.range (n - 1)).all fun i => (List.range n).any fun j => decide (i < j) && Region.waitsFor .any ops j i) &&
 ((List.range ops.size).all fun t => decide (t < n) || (List.range t).any fun j => decide (n - 1 ≤ j) && Region.waitsFor .any ops t j)
theorem tail2_waits {ops : Array Oper} {n : Nat} {listed : Array Bool} (hB : tail2B ops n = true) (inv : HeadInv .any ops n listed) {i : Nat} (hi : i < n) (hun : listed.getD i true = false) : ∀ t, n ≤ t → t ∉ Region.ready .any ops listed := by
 intro t ht hr
 simp only [tail2B, Bool.and_eq_true, decide_eq_true_eq, List.all_eq_true, List.mem_range, Bool.or_eq_true, List.any_eq_true] at hB
 obtain ⟨⟨h0, hs⟩, hc⟩ := hB
 obtain ⟨_, ot, hot, hall⟩ := mem_ready.1 hr
 have htlt : t < ops.size := (Array.getElem?_eq_some_iff.1 hot).1
 have hlast : listed.getD (n - 1) false = true := by
  rcases hc t htlt with k | ⟨j, hj, hnj, hw⟩
  ·omega
  ·obtain ⟨oj, hoj, e, he, hb, hon⟩ := Region.waitsFor_spec hw
   have : oj = ot := Option.some.inj (hoj.symm.trans hot)
   subst this
   have h2 := hall e he hb
   rw [hon] at h2
   by_cases hjn : n ≤ j
   ·have h3 := inv.tail j hjn (by omega)
    rw [getD_both h3] at h2
    cases h2
   ·have : j = n - 1 := by omega
    subst this
    exact h2
 have hdown : ∀ d i, n - 1 - i = d → i < n → listed.getD i false = true := by
  intro d
  induction d using Nat.strongRecOn with
  | _ d ih =>
   intro i hd hi
   by_cases hin : i = n - 1
   ·rw [hin]; exact hlast
   ·obtain ⟨j, hj, hij, hw⟩ := hs i (by omega)
    obtain ⟨oj, hoj, e, he, hb, hon⟩ := Region.waitsFor_spec hw
    have hl := ih (n - 1 - j) (by omega) j rfl hj
    have := inv.closed j oj hoj hl e he hb
    rwa [hon] at this
 have := hdown _ i rfl hi
 rw [getD_both hun] at this
 cases this
def softR (l : List Oper) (n : Nat) : Bool :=
 decide (n < l.length) && tail2B l.toArray n &&
 ((List.range n).all fun i => (depsOf l i).all (fun j => decide (j < i))) &&
 ((List.range n).all fun i => (List.range n).all fun j => decide (j = i) || decide (dstOf l j ≠ dstOf l i) || decide (dstOf l j = none))
section
variable {P : Program} {id : Nat} {Q : Exit → Act → World → Prop} {a0 : Act} {w0 : World} {l : List Oper}
theorem wpAny_softR {n : Nat} (L : Nat → Soft) (hB : softR l n = true)
  (hop : ∀ i, i < n → ∀ o, l[i]? = some o → ∀ xs w, Ext w0 w → (∀ j, j ∈ depsOf l i → (L j).S (xs j) w) → ∀ Q' : Exit → Act → World → Prop, (∀ v w', Ext w w' → (L i).S v w' → Q' .normal ((fillAt l a0 xs n).put o.dst v) w') → wpList P l.toArray Q' [o] (fillAt l a0 xs n) w)
  (hend : ∀ xs w, Ext w0 w → (∀ i, i < n → (L i).S (xs i) w) → wpAny P .any l.toArray Q (l.length - n) (fullL l.length n) (fillAt l a0 xs n) w) :
  ∀ (f : Nat) (listed : Array Bool) (xs : Nat → Value) (w : World), HeadInv .any l.toArray n listed → cntU listed n = f → Ext w0 w → (∀ i, i < n → listed.getD i false = true → (L i).S (xs i) w) →
   wpAny P .any l.toArray Q (f + (l.length - n)) listed (fillAt l a0 xs n) w := by
 simp only [softR, Bool.and_eq_true, decide_eq_true_eq, List.all_eq_true, List.mem_range, Bool.or_eq_true] at hB
 obtain ⟨⟨⟨hn, hT⟩, hdeps⟩, hdst⟩ := hB
 have hn' : n < l.toArray.size := by simpa using hn
 intro f
 induction f with
 | zero =>
  intro listed xs w inv hcnt hx hS
  have hall := cnt_zero n hcnt
  have he : listed = fullL l.length n := by
   have hsz := inv.size
   apply Array.ext (by rw [hsz]; simp [fullL])
   intro i h1 h2
   have hil : i < l.length := by rw [hsz] at h1; simpa using h1
   have e2 : (fullL l.length n)[i] = decide (i < n) := by simp [fullL]
   rw [e2]
   by_cases hi : i < n
   ·have := hall i hi
    simp [h1] at this
    rw [this]; simp [hi]
   ·have := inv.tail i (by omega) (by simpa using hil)
    simp [h1] at this
    rw [this]; simp [hi]
  rw [Nat.zero_add]
  rw [he]
  exact hend xs w hx (fun i hi => hS i hi (hall i hi))
 | succ f ih =>
  intro listed xs w inv hcnt hx hS
  obtain ⟨i0, hi0, hu0, hmin⟩ := cnt_pos n (by omega : 0 < cntU listed n)
  have hi0s : i0 < listed.size := by rw [inv.size]; omega
  have hu0' := getD_in hi0s hu0
  have hl0 : i0 < l.length := by omega
  have hready : i0 ∈ Region.ready .any l.toArray listed := by
   refine mem_ready.2 ⟨hu0', l[i0], by simp [hl0], fun e he hb => ?_⟩
   have hd : e.on ∈ depsOf l i0 := by
    simp only [depsOf, List.getElem?_eq_getElem hl0, Option.map_some, Option.getD_some, List.mem_map, List.mem_filter]
    exact ⟨e, ⟨by simpa using he, hb⟩, rfl⟩
   exact hmin _ (hdeps i0 hi0 _ hd)
  rw [show f + 1 + (l.length - n) = (f + (l.length - n)) + 1 by omega]
  refine ⟨fun h0 => (by rw [h0] at hready; cases hready), fun i hi => ?_⟩
  have hin : i < n := by
   rcases Nat.lt_or_ge i n with h | h
   ·exact h
   ·exact absurd hi (tail2_waits hT inv hi0 hu0' i h)
  obtain ⟨hun, o, ho, hall⟩ := mem_ready.1 hi
  have ho' : l[i]? = some o := by simpa using ho
  have hu := getD_both hun
  refine wpOp_of_one ho ?_
  refine hop i hin o ho' xs w hx (fun j hj => ?_) _ (fun v w' hx' hv => ?_)
  ·have hji := hdeps i hin j hj
   refine hS j (by omega) ?_
   simp only [depsOf, ho', Option.map_some, Option.getD_some, List.mem_map, List.mem_filter] at hj
   obtain ⟨e, ⟨he, hb⟩, rfl⟩ := hj
   exact hall e (by simpa using he) hb
  ·show wpAny P .any l.toArray Q (f + (l.length - n)) (listed.setIfInBounds i true) _ w'
   have ed : o.dst = dstOf l i := by simp [dstOf, ho']
   rw [ed, fill_put n hin (fun j hj hji => by
    rcases hdst i hin j hj with (h | h) | h
    ·exact absurd h hji
    ·exact .inl h
    ·exact .inr h)]
   refine ih _ _ w' (inv.set hi hin) (by have := cnt_set (by rw [inv.size]; omega) hu n hin; omega) (hx.trans hx') (fun j hj hlj => ?_)
   by_cases e : j = i
   ·subst e
    have : updAt xs j v j = v := by simp [updAt]
    rw [this]
    exact hv
   ·have : updAt xs i v j = xs j := by simp [updAt, e]
    rw [this]
    rw [getD_set_ne false (Ne.symm e)] at hlj
    exact (L j).on _ _ _ (hS j hj hlj) hx'
theorem wp_region_softR (n : Nat) (L : Nat → Soft) (hm : P.follows .mixedOrders = true) (hB : softR l n = true)
  (hop : ∀ i, i < n → ∀ o, l[i]? = some o → ∀ xs w, Ext w0 w → (∀ j, j ∈ depsOf l i → (L j).S (xs j) w) → ∀ Q' : Exit → Act → World → Prop, (∀ v w', Ext w w' → (L i).S v w' → Q' .normal ((fillAt l a0 xs n).put o.dst v) w') → wpList P l.toArray Q' [o] (fillAt l a0 xs n) w)
  (hend : ∀ xs w, Ext w0 w → (∀ i, i < n → (L i).S (xs i) w) → wpAny P .any l.toArray Q (l.length - n) (fullL l.length n) (fillAt l a0 xs n) w) : (Code.region id l.toArray true).wp P Q a0 w0 := by
 refine wp_region_any hm ?_
 have hn : n < l.length := by
  simp only [softR, Bool.and_eq_true, decide_eq_true_eq] at hB
  exact hB.1.1.1
 have inv0 : HeadInv .any l.toArray n (Array.replicate l.toArray.size false) :=
  ⟨by simp, fun j oj _ hl => (by rw [getD_replicate_false] at hl; cases hl), fun t _ ht => getD_in (by simpa using ht) (getD_replicate_false _ _)⟩
 have hc0 : ∀ m, cntU (Array.replicate l.toArray.size false) m = m := by
  intro m
  induction m with
  | zero => rfl
  | succ m ih => rw [cntU, ih, getD_replicate_false]; rfl
 have := wpAny_softR (P := P) (Q := Q) (a0 := a0) (w0 := w0) L hB hop hend n _ (fun i => ((dstOf l i).map fun t => a0.tmps.getD t undef).getD undef) { w0 with drawn := w0.drawn + 1 } inv0 (hc0 n) (Ext.drew (Ext.refl w0)) (fun i _ hl => (by rw [getD_replicate_false] at hl; cases hl))
 rw [fill_self] at this
 have e : n + (l.length - n) = l.toArray.size := by simp; omega
 rwa [e] at this
end
section
variable {P : Program} {ops : Array Oper} {Q : Exit → Act → World → Prop}
theorem run_assign {x : Operand} {t : TypeId} {dst : Option Tmp} {pos : String} {after : Array Edge} {v : Value} (ρ : Operand → Value) (w : World) (h : ρ x = v) :
  (execOp ρ { dst, op := .assign x, type := t, pos, after, guard := none }).run P w = .ok (.value v) w := by
 subst h
 simp [execOp, go_sem]
theorem wpAny_putTail4 {T : TypeId} {n : Nat} (hty : RowTy P T n) {i1 i2 i3 i4 : Nat} {x tb d1 d2 d4 : Tmp} {op4 : Op} {u1 u2 u3 u4 : TypeId} {p1 p2 p3 p4 : String} {f1 f2 f3 f4 : Array Edge} {v2 v4 : Value} {cs : Array Value} {B : Nat} {listed : Array Bool} {a : Act} {w : World}
  (h1 : ops[i1]? = some { dst := some d1, op := .extract (.tmp x) 0, type := u1, pos := p1, after := f1, guard := none })
  (h2 : ops[i2]? = some { dst := some d2, op := .extract (.tmp x) 1, type := u2, pos := p2, after := f2, guard := none })
  (h3 : ops[i3]? = some { dst := none, op := .store T (.tmp tb) (.tmp d1), type := u3, pos := p3, after := f3, guard := none })
  (h4 : ops[i4]? = some { dst := some d4, op := op4, type := u4, pos := p4, after := f4, guard := none })
  (hs : Region.noSelect ops = true)
  (g2 : Region.free .any ops listed i2 = true) (r2 : (Region.ready .any ops listed).contains i2 = true)
  (g1 : Region.free .any ops (listed.setIfInBounds i2 true) i1 = true) (r1 : (Region.ready .any ops (listed.setIfInBounds i2 true)).contains i1 = true)
  (r3 : Region.ready .any ops ((listed.setIfInBounds i2 true).setIfInBounds i1 true) = [i3])
  (g5 : Region.free .any ops (((listed.setIfInBounds i2 true).setIfInBounds i1 true).setIfInBounds i3 true) i4 = true) (r5 : (Region.ready .any ops (((listed.setIfInBounds i2 true).setIfInBounds i1 true).setIfInBounds i3 true)).contains i4 = true)
  (r4 : Region.ready .any ops ((((listed.setIfInBounds i2 true).setIfInBounds i1 true).setIfInBounds i3 true).setIfInBounds i4 true) = [])
  (hp : ∀ (d : Tmp) (v : Value) c a w, Q (.panic c) (a.put (some d) v) w → Q (.panic c) a w)
  (e2 : a.eval (.tmp x) = .tuple #[.agg cs, v2]) (e1 : (a.put (some d2) v2).eval (.tmp x) = .tuple #[.agg cs, v2])
  (e5 : ∀ w, (execOp (((a.put (some d2) v2).put (some d1) (.agg cs)).eval) { dst := some d4, op := op4, type := u4, pos := p4, after := f4, guard := none }).run P w = .ok (.value v4) w)
  (e3 : ((a.put (some d2) v2).put (some d1) (.agg cs)).eval (.tmp tb) = .pointer (some ⟨B, 0, none⟩))
  (e4 : ((a.put (some d2) v2).put (some d1) (.agg cs)).eval (.tmp d1) = .agg cs)
  (room : roomOf w B 0 n = true) (fits : fitsRow n cs = true)
  (hQ : Q .normal (((a.put (some d2) v2).put (some d1) (.agg cs)).put (some d4) v4) (w.setCells B 0 cs.toList)) :
  wpAny P .any ops Q 4 listed a w := by
 refine wpAny_take (i := i2) (v := v2) h2 hs g2 r2 (fun c a w h => hp _ _ c a w h) (Or.inl ⟨wanted_none _, fun w => run_extract _ w e2 rfl⟩) ?_
 refine wpAny_take (i := i1) (v := .agg cs) h1 hs g1 r1 (fun c a w h => hp _ _ c a w h) (Or.inl ⟨wanted_none _, fun w => run_extract _ w e1 rfl⟩) ?_
 refine wpAny_ready (rs := [i3]) r3 (by simp) ?_
 refine AllReady.cons h3 (fun K hK => ?_) AllReady.nil
 rw [if_pos (show Region.wanted _ _ = true from rfl)]
 unfold Oper.wp
 dsimp only
 rw [execOp_rowStore T n, e3, e4, run_rowStore hty, room, fits]
 show K _ _
 refine hK _ _ ?_
 refine wpAny_take (i := i4) (v := v4) h4 hs g5 r5 (fun c a w h => hp _ _ c a w h) (Or.inl ⟨wanted_none _, fun w => e5 w⟩) ?_
 exact wpAny_done r4 hQ _
end
end Go.Proofs.YtpfhmcdcmepfdaaGreatDoor

namespace Go.Proofs.YtpfhmcdcmepfdaaGreatDoor
open Go.RowKit Go.Shelf
open Go.Proofs
theorem Owns.apart {α β : Type} {e1 e2 : TypeId} {s1 s2 : Nat} {enc1 : α → List Value} {enc2 : β → List Value} {b1 b2 : Nat} {w w' : World} {A1 A2 : Option Addr} {c1 c2 n : Nat} {l1 : List α} {l2 : List β} (h : Owns e1 s1 enc1 b1 w A1 c1 l1) (h2 : Owns e2 s2 enc2 b2 w A2 c2 l2) (hne : e1 ≠ e2) (hg : w.grownBy w' (Value.slice A2 n c2).ownBlock) : Owns e1 s1 enc1 b1 w' A1 c1 l1 := by
 refine ⟨h.1, ?_⟩
 rcases h.2 with k | ⟨g, cap, cur, h1, h3, h4, h5⟩
 ·exact .inl k
 ·refine .inr ⟨g, cap, cur, h1, h3, (hg.block g (Array.getElem?_eq_some_iff.1 h4).1 ?_).trans h4, h5⟩
  intro e
  rcases h2.cases with ⟨rfl, _, _⟩ | ⟨g2, cur2, rfl, _, k2, _⟩
  ·simp [Value.ownBlock] at e
  ·simp [Value.ownBlock] at e
   subst e
   rw [h4] at k2
   injection k2 with k2
   injection k2 with _ k2
   exact hne k2
theorem new_listAt {α : Type} {enc : α → List Value} {w : World} {b : Nat} (hb : b = w.heap.size) (l : List α) (cs : Array Value) (t : TypeId) (h : cs.toList = l.flatMap enc) : ∀ j u, (l.flatMap enc)[j]? = some u → (w.alloc (.cells cs t)).cell? ((⟨b, 0, none⟩ : Addr).add j) = some u := fun j u hj =>
 new_cellsAt hb cs t j u (by rw [h]; exact hj)
theorem cfT : ElemTy Tryz.prog 63 51 37 72 := ⟨by kernel_rfl, by kernel_rfl, by omega⟩
theorem leT : ElemTy Tryz.prog 64 87 20 48 := ⟨by kernel_rfl, by kernel_rfl, by omega⟩
theorem grT : ElemTy Tryz.prog 60 128 3 24 := ⟨by kernel_rfl, by kernel_rfl, by omega⟩
abbrev OwnsCf (base : Nat) (w : World) (A : Option Addr) (c : Nat) (l : List Cf) : Prop := Owns 51 37 cfL base w A c l
abbrev OwnsLe (base : Nat) (w : World) (A : Option Addr) (c : Nat) (l : List Le) : Prop := Owns 87 20 leL base w A c l
abbrev OwnsGr (base : Nat) (w : World) (A : Option Addr) (c : Nat) (l : List Gr) : Prop := Owns 128 3 grL base w A c l
theorem idx_snoc (l : List Dd) (k : Nat) : idx l (k + 1) = idx l k ++ (if (ddAt l k).is then [k] else []) := by
 unfold idx
 rw [List.range_succ, List.filter_append]
 congr 1
 cases h : (ddAt l k).is <;> simp [h]
theorem grs_no {n : Int} {l : List Dd} {k : Nat} (h : (ddAt l k).is = false) : grs n l (k + 1) = grs n l k := by
 unfold grs; rw [idx_snoc, h]; simp
theorem grs_yes {n : Int} {l : List Dd} {k : Nat} (h : (ddAt l k).is = true) : grs n l (k + 1) = grs n l k ++ [tGr n l k] := by
 unfold grs; rw [idx_snoc, h]; simp
theorem cfs_no {e : Ep} {p : Clk} {l : List Dd} {k : Nat} (h : ((ddAt l k).is && (ddAt l k).conf) = false) : cfs e p l (k + 1) = cfs e p l k := by
 unfold cfs idC; rw [List.range_succ, List.filter_append]; simp [h]
theorem cfs_yes {e : Ep} {p : Clk} {l : List Dd} {k : Nat} (h : ((ddAt l k).is && (ddAt l k).conf) = true) : cfs e p l (k + 1) = cfs e p l k ++ [tCf e p k] := by
 unfold cfs idC; rw [List.range_succ, List.filter_append]; simp [h]
theorem les_no {n : Int} {l : List Dd} {k : Nat} (h : ((ddAt l k).is && decide (0 < (ddAt l k).until_)) = false) : les n l (k + 1) = les n l k := by
 unfold les idL; rw [List.range_succ, List.filter_append]; simp [h]
theorem les_yes {n : Int} {l : List Dd} {k : Nat} (h : ((ddAt l k).is && decide (0 < (ddAt l k).until_)) = true) : les n l (k + 1) = les n l k ++ [tLe n l k] := by
 unfold les idL; rw [List.range_succ, List.filter_append]; simp [h]
theorem ddAt_get {l : List Dd} {k : Nat} (h : k < l.length) : ddAt l k = l[k] := by unfold ddAt; rw [List.getD_eq_getElem?_getD, List.getElem?_eq_getElem h]; rfl
theorem okKy_site {i : Nat} (h : i < 10) : okKy (theKey (1000 + (i : Int))) = true := by
 have : ∀ j : Fin 10, okKy (theKey (1000 + (j.val : Int))) = true := by decide
 exact this ⟨i, h⟩
theorem confirmN_t {n : Int} {p : Clk} {i : Nat} (h0 : 1 ≤ n) (h1 : n ≤ 65536) (hn : okClk p = true) (hi : i < 10) : confirmB (theKey (1000 + (i : Int))) i (tEp n) p = true := by
 unfold confirmB
 rw [okKy_site hi, tEp_num h0 h1, hn, siteB_is.2 ⟨by omega, by omega⟩]
 simp [theKey]
theorem tCf_ok {n : Int} {p : Clk} {i : Nat} (h0 : 1 ≤ n) (h1 : n ≤ 65536) (hn : okClk p = true) (hi : i < 10) : CfOk (tCf (tEp n) p i) := by
 have h := cfOf_ok (confirmN_t h0 h1 hn hi)
 exact ⟨h.name, ⟨makeN_len _ _ _, makeN_byt _ _ _⟩, h.ints⟩
theorem tLe_i64 {n : Int} {l : List Dd} {i : Nat} (h : DdsOk l) (h0 : 1 ≤ n) (h1 : n ≤ 65536) (hi : i < 10) : ∀ x ∈ leInts (leOf (theKey 1) (tLe0 n l i)), i64 x := by
 intro x hx
 have u0 := h.lo i
 have u1 := h.hi i
 simp only [leInts, leOf, tLe0, theKey, List.mem_cons, List.not_mem_nil, or_false] at hx
 unfold i64
 rcases hx with rfl | rfl | rfl | rfl <;> omega
theorem tLe_ok {n : Int} {l : List Dd} {i : Nat} (h : DdsOk l) (h0 : 1 ≤ n) (h1 : n ≤ 65536) (hi : i < 10) : LeOk (tLe n l i) := ⟨⟨makeN_len _ _ _, makeN_byt _ _ _⟩, tLe_i64 h h0 h1 hi⟩
theorem gr_set1 (a b c x : Int) : (grC ⟨a, b, c⟩).setIfInBounds 1 (.int .i64 x) = grC ⟨a, x, c⟩ := by kernel_rfl
theorem gs_set2 (n : Int) (A A' : Option Addr) (c c' : Nat) (l l' : List Gr) : (gsC (tGs n A c l)).setIfInBounds 2 (.slice A' l'.length c') = gsC (tGs n A' c' l') := by kernel_rfl
theorem gs_q2 (n : Int) (A : Option Addr) (c : Nat) (l : List Gr) : (gsC (tGs n A c l))[2]? = some (.slice A l.length c) := by kernel_rfl
def gsB2 (a b : Value) : Sem Next := do pure (.value (← Instr.build 62 #[(0, a), (1, b)]))
theorem gsB2_x (ρ : Operand → Value) (dst : Option Tmp) (a b : Operand) (t : TypeId) (pos : String) (after : Array Edge) (guard : Option (Nat × Bool)) : execOp ρ { dst, op := .build 62 #[(0, a), (1, b)], type := t, pos, after, guard } = gsB2 (ρ a) (ρ b) := by kernel_rfl
attribute [go_sem ↓] gsB2_x
theorem gsB2_run (a : Int) (W : World) : (gsB2 (.int .i64 a) (.int .i64 1000)).run Tryz.prog W = .ok (.value (.agg (gsC (tGs a none 0 [])))) W := by kernel_rfl
def leB3t (a b c : Value) : Sem Next := do pure (.value (← Instr.build 87 #[(0, a), (1, b), (2, c)]))
theorem leB3t_x (ρ : Operand → Value) (dst : Option Tmp) (a b c : Operand) (t : TypeId) (pos : String) (after : Array Edge) (guard : Option (Nat × Bool)) : execOp ρ { dst, op := .build 87 #[(0, a), (1, b), (2, c)], type := t, pos, after, guard } = leB3t (ρ a) (ρ b) (ρ c) := by kernel_rfl
attribute [go_sem ↓] leB3t_x
theorem leB3t_run (a b c : Int) (W : World) : (leB3t (.int .i64 a) (.int .i64 b) (.int .i64 c)).run Tryz.prog W = .ok (.value (.agg (leC ⟨a, b, c, 0, zeros32 16⟩))) W := by kernel_rfl
def grB2t (a b : Value) : Sem Next := do pure (.value (← Instr.build 128 #[(0, a), (2, b)]))
theorem grB2t_x (ρ : Operand → Value) (dst : Option Tmp) (a b : Operand) (t : TypeId) (pos : String) (after : Array Edge) (guard : Option (Nat × Bool)) : execOp ρ { dst, op := .build 128 #[(0, a), (2, b)], type := t, pos, after, guard } = grB2t (ρ a) (ρ b) := by kernel_rfl
attribute [go_sem ↓] grB2t_x
theorem grB2t_run (a b : Int) (W : World) : (grB2t (.int .i64 a) (.int .i64 b)).run Tryz.prog W = .ok (.value (.agg (grC ⟨a, 0, b⟩))) W := by kernel_rfl
attribute [go_sem] gsB2_run leB3t_run grB2t_run
def read1 {α : Type} (size : Nat) (enc : α → List Value) (x : α) : Soft := ⟨fun v w => ∃ b, v = .slice (some ⟨b, 0, none⟩) 1 1 ∧ Reads size enc w w.heap.size (some ⟨b, 0, none⟩) [x], fun _ _ _ ⟨b, h1, h2⟩ hx => ⟨b, h1, h2.on hx⟩⟩
noncomputable def toldS (base : Nat) (e : Ep) (p : Clk) (l : List Dd) : Soft := ⟨fun v w => ∃ LA lc, v = .tuple #[.agg (rpC (tR e p l LA lc)), .int .i64 0] ∧ OwnsLn base w LA lc (tLns e p l), fun _ _ _ ⟨A, c, h1, h2⟩ hx => ⟨A, c, h1, h2.ext hx⟩⟩
theorem told_any (n : Int) (DA : Option Addr) (dc : Nat) (l : List Dd) (p : Clk) (w : World) (h : DdsOk l) (hd : Reads 3 ddL w w.heap.size DA l) (hn0 : 1 ≤ n) (hn1 : n ≤ 65536) (hn : okClk p = true) (hk : KonstP w) (hr : RKonst w) :
  Calls Tryz.prog 27 #[.agg (epC (tEp n)), .slice DA l.length dc, .agg (clkC p)] w fun r w' => (∃ LA lc, r = .returned (.tuple #[.agg (rpC (tR (tEp n) p l LA lc)), .int .i64 0]) ∧ OwnsLn w.heap.size w' LA lc (tLns (tEp n) p l)) ∧ Ext w w' := by
 have hl10 := h.len
 have HKy := lh (fun p (W : World) => lkey_any p W)
 have HCf := lh (fun (k : Nat) (hk10 : k < 10) (W : World) (hx : Ext w W) => (show Calls Tryz.prog 17 #[.agg (kyC (theKey (1000 + (k : Int)))), .int .i64 (k : Int), .agg (epC (tEp n)), .agg (clkC p)] W fun r w' => r = .returned (.tuple #[.agg (cfC (tCf (tEp n) p k)), .int .i64 0]) ∧ Ext W w' from by
  have h := aconfirm_any (theKey (1000 + (k : Int))) k (tEp n) p W (show (1 : Nat) < _ by decide) (tEp_ok hn0 hn1) (tEp_short n) (tEp_at n W) (RowAt.ext hk hx)
  rw [show confirmN (theKey (1000 + (k : Int))) k (tEp n) p = (tCf (tEp n) p k, 0) from by unfold confirmN; rw [if_pos (confirmN_t hn0 hn1 hn hk10)]; rfl] at h
  exact h))
 have HSl := lh (fun (k : Nat) (hk10 : k < 10) (W : World) (hx : Ext w W) => rsealLease_any (theKey 1) (tLe0 n l k) W (by decide) (tLe_i64 h hn0 hn1 hk10) (RowAt.ext hr hx))
 have HMk := lh (fun (GA : Option Addr) (gc : Nat) (CA : Option Addr) (cc : Nat) (LsA : Option Addr) (lsc : Nat) (gl : List Gr) (cl : List Cf) (ll : List Le) (W : World) (hgl : Hid (gl = grs n l l.length)) (hcl : Hid (cl = cfs (tEp n) p l l.length)) (hll : Hid (ll = les n l l.length)) (hx : Ext w W) (r1 : Reads 3 grL W W.heap.size GA gl) (r2 : Reads 37 cfL W W.heap.size CA cl) (r3 : Reads 20 leL W W.heap.size LsA ll) =>
  (show Calls Tryz.prog 22 #[.agg (kyC (theKey 1)), .agg (gsC (tGs n GA gc gl)), .agg (epC (tEp n)), .slice CA cl.length cc, .slice LsA ll.length lsc, .agg (clkC p)] W fun r w' => (∃ LA lc, r = .returned (.tuple #[.agg (rpC (tR (tEp n) p l LA lc)), .int .i64 0]) ∧ OwnsLn W.heap.size w' LA lc (tLns (tEp n) p l)) ∧ Ext W w' from by
  have hgl := hgl.out
  have hcl := hcl.out
  have hll := hll.out
  subst hgl hcl hll
  have hb : (cfs (tEp n) p l l.length).length ≤ 10 := by
   have := List.length_filter_le (fun i => (ddAt l i).is && (ddAt l i).conf) (List.range l.length)
   simp only [List.length_range] at this
   simp only [cfs, idC, List.length_map]
   omega
  have hb2 : (les n l l.length).length ≤ 10 := by
   have := List.length_filter_le (fun i => (ddAt l i).is && decide (0 < (ddAt l i).until_)) (List.range l.length)
   simp only [List.length_range] at this
   simp only [les, idL, List.length_map]
   omega
  refine (amake_any (theKey 1) (tGs n GA gc (grs n l l.length)) (tEp n) CA LsA cc lsc (cfs (tEp n) p l l.length) (les n l l.length) p W (by decide) (by show (grs n l l.length).length ≤ _; have := grs_len n l l.length; omega) r1 (tEp_ok hn0 hn1) (tEp_short n) (tEp_at n W) (by omega) (by omega) ?_ ?_ r2 r3 (RowAt.ext hk hx)).mono ?_
  ·intro c hc
   obtain ⟨i, hi, rfl⟩ := List.mem_map.1 hc
   exact tCf_ok hn0 hn1 hn (by have := (mem_idC.1 hi).1; omega)
  ·intro c hc
   obtain ⟨i, hi, rfl⟩ := List.mem_map.1 hc
   exact tLe_ok h hn0 hn1 (by have := (mem_idL.1 hi).1; omega)
  ·rintro r w' ⟨⟨LA, lc, h4, h5⟩, h6⟩
   rw [mkR_t h hn0 hn1 hn] at h4 h5
   rw [mkE_t h hn0 hn1 hn] at h4
   exact ⟨⟨LA, lc, h4, h5⟩, h6⟩))
 have HD := lh hd
 have HLo := lh h.lo
 have HHi := lh h.hi
 have hfe := ep_fits (tEp n)
 have hfg := gs_fits (tGs n none 0 [])
 have hfx := fun a b c => gr_fits ⟨a, b, c⟩
 have hfR := fun A c => rp_fits (tR (tEp n) p l A c)
 have hq0 : (epC (tEp n))[0]? = some (.int .i64 n) := ep_g0 (tEp n)
 have HQ0 := lh hq0
 clear hd hk hr h hn hq0
 obtain ⟨p0, p1⟩ := p
 go_enter Tryz.func27, Tryz.ntmps27
 go_wp2
 refine wp_world (fun W => Ext w W ∧ RowAt W w.heap.size (epC (tEp n)) ∧ RowAt W (w.heap.size + 1) #[.int .i64 p0, .int .i64 p1] ∧ RowAt W (w.heap.size + 1 + 1) (rpC noRp) ∧ RowAt W (w.heap.size + 1 + 1 + 1) (gsC (tGs n none 0 []))) ⟨(by (with_reducible repeat first|exact eR _|apply eD|apply eN|apply eA|apply eO|apply eS|apply eC);all_goals first|omega|simp <;> omega), ?_, ?_, ?_, ?_⟩ ?_
 ·exact ((((RowAt.new _ _ _).alloc _).alloc _).alloc _).others (by omega) _ _
 ·exact (((RowAt.newAt (by simp)).alloc _).alloc _).others (by omega) _ _
 ·exact ((RowAt.newAt (by simp)).alloc _).others (by omega) _ _
 ·exact RowAt.store (RowAt.newAt (by simp)) rfl
 obtain ⟨B, hB⟩ : ∃ B, w.heap.size = B := ⟨_, rfl⟩
 rw [hB]
 rintro W1 ⟨x1, uE, uP, uR, uG⟩
 have HX1 := lh x1
 have HUE := lh uE
 have HUP := lh uP
 have HUR := lh uR
 have HUG := lh uG
 clear x1 uE uP uR uG hfg
 go_loopw [9, 10, 11] (fun vc vl i wr => ∃ (CA : Option Addr) (cc : Nat) (cl : List Cf) (LsA : Option Addr) (lsc : Nat) (ll : List Le) (GA : Option Addr) (gc : Nat) (gl : List Gr) (k : Nat), vc = .slice CA cl.length cc ∧ vl = .slice LsA ll.length lsc ∧ i = .int .i64 k ∧ k ≤ l.length ∧ cl.length ≤ k ∧ ll.length ≤ k ∧ gl.length ≤ k ∧ Hid (cl = cfs (tEp n) ⟨p0, p1⟩ l k) ∧ Hid (ll = les n l k) ∧ Hid (gl = grs n l k) ∧
  Hid (OwnsCf (B+1+1+1+1) wr CA cc cl) ∧ Hid (OwnsLe (B+1+1+1+1) wr LsA lsc ll) ∧ Hid (OwnsGr (B+1+1+1+1) wr GA gc gl) ∧ Hid (RowAt wr B (epC (tEp n))) ∧ Hid (RowAt wr (B+1) #[.int .i64 p0, .int .i64 p1]) ∧ Hid (RowAt wr (B+1+1) (rpC noRp)) ∧ Hid (RowAt wr (B+1+1+1) (gsC (tGs n GA gc gl))) ∧ Hid (Ext w wr)) (fun _ _ i _ => l.length - (intOf i).toNat)
 case atStart => exact ⟨none, 0, [], none, 0, [], none, 0, [], 0, rfl, rfl, rfl, Nat.zero_le _, Nat.le_refl _, Nat.le_refl _, Nat.le_refl _, lh rfl, lh rfl, lh rfl, lh (Owns.nil _ _ _ _ _), lh (Owns.nil _ _ _ _ _), lh (Owns.nil _ _ _ _ _), HUE, HUP, HUR, HUG, HX1⟩
 case round =>
  obtain ⟨CA, cc, cl, LsA, lsc, ll, GA, gc, gl, k, rfl, rfl, rfl, hkl, hcl, hll, hgl, HCl, HLl, HGl, HOC, HOL, HOG, HRE, HRP, HRR, HRG, HX⟩ := hrel
  clear HUE HUP HUR HUG HX1
  have hsz := HX.out.size
  have hlG := HRG.out.lt
  have qE_0 : wr.cell? ⟨B, 0, none⟩ = some (.int .i64 n) := (HRE.out.cell 0).trans HQ0.out
  have kE : rowOf wr B 0 38 = some (epC (tEp n)) := HRE.out.all rfl (by omega)
  have qP_0 : wr.cell? ⟨B+1, 0, none⟩ = some (.int .i64 p0) := HRP.out.cell 0
  have qP_1 : wr.cell? ⟨B+1, 1, none⟩ = some (.int .i64 p1) := HRP.out.cell 1
  by_cases hlt : k < l.length
  ·obtain ⟨b, off, rfl, hb, hrow, hcel⟩ := reads_at ddE (HD.out.ext HX.out (Nat.le_refl _)) k hlt
   have hb2 : b < wr.heap.size := by omega
   have c0 : wr.cell? ⟨b, off + k * 3, none⟩ = some (.bool (ddAt l k).is) := by rw [ddAt_get hlt]; exact hcel 0 _ rfl
   have c1 : wr.cell? ⟨b, off + k * 3 + 1, none⟩ = some (.bool (ddAt l k).conf) := by rw [ddAt_get hlt]; exact hcel 1 _ rfl
   have c2 : wr.cell? ⟨b, off + k * 3 + 2, none⟩ = some (.int .u16 (ddAt l k).until_) := by rw [ddAt_get hlt]; exact hcel 2 _ rfl
   have u0 := HLo.out k
   have u1 := HHi.out k
   have HCn := lh (cfs_no (e := tEp n) (p := ⟨p0, p1⟩) (l := l) (k := k))
   have HCy := lh (cfs_yes (e := tEp n) (p := ⟨p0, p1⟩) (l := l) (k := k))
   have HLn := lh (les_no (n := n) (l := l) (k := k))
   have HLy := lh (les_yes (n := n) (l := l) (k := k))
   have HGn := lh (grs_no (n := n) (l := l) (k := k))
   have HGy := lh (grs_yes (n := n) (l := l) (k := k))
   have HTg : Hid (tGr n l k = ⟨(k : Int), if (ddAt l k).conf then n else 0, (ddAt l k).until_⟩) := lh rfl
   have HT0 : Hid (tLe0 n l k = ⟨(k : Int), n - 1, (ddAt l k).until_, 0, zeros32 16⟩) := lh rfl
   have HTe : Hid (sealedLe (theKey 1) (tLe0 n l k) = tLe n l k) := lh rfl
   have HSl' := lh (HSl.out k (by omega))
   have HCf' := lh (HCf.out k (by omega))
   rw [HTe.out] at HSl'
   rw [HT0.out] at HSl'
   clear hrow hcel HSl HCf HT0 HTe
   generalize ddAt l k = d at *
   obtain ⟨is, conf, til⟩ := d
   simp only at *
   cases is with
   | false =>
    have HC1 := lh (HCl.out.trans (HCn.out rfl).symm)
    have HL1 := lh (HLl.out.trans (HLn.out rfl).symm)
    have HG1 := lh (HGl.out.trans (HGn.out rfl).symm)
    clear HCn HCy HLn HLy HGn HGy HTg HSl' HCf' HMk HD HLo HHi HCl HLl HGl
    go_wp2
    go_roundw
    case rel => exact ⟨CA, cc, cl, LsA, lsc, ll, GA, gc, gl, k + 1, rfl, rfl, by go_num, by omega, by omega, by omega, by omega, HC1, HL1, HG1, HOC, HOL, HOG, HRE, HRP, HRR, HRG, HX⟩
    case measure => simp [intOf]; omega
   | true =>
    have HG1 := lh (HGy.out rfl)
    clear HGn HGy HMk HLo HHi HD
    cases conf with
    | false =>
     have HC1 := lh (HCl.out.trans (HCn.out rfl).symm)
     have HT1 : Hid (tGr n l k = ⟨(k : Int), 0, til⟩) := lh HTg.out
     clear HCn HCy HTg HCf' HCl
     generalize tGr n l k = gx at *
     have HT1' := HT1.out
     subst HT1'
     go_upto_region 15 with (fail)
     refine wp_world (fun W => Ext wr W ∧ RowAt W wr.heap.size (grC ⟨(k : Int), 0, til⟩)) ⟨(by (with_reducible repeat first|exact eR _|apply eD|apply eN|apply eA|apply eO|apply eS|apply eC);all_goals first|omega|simp <;> omega), RowAt.store (RowAt.new _ _ _) rfl⟩ ?_
     have HLt8 := lh (fun a ha => (HOL.out.lt a ha).2)
     obtain ⟨g8, hg8⟩ : ∃ g, wr.heap.size = g := ⟨_, rfl⟩
     rw [hg8]
     rintro W7 ⟨x7, u8⟩
     have hs7 := x7.size
     have hl8 := u8.lt
     have hcl7 : cl.length ≤ k + 1 := by omega
     have HX7 := lh (HX.out.trans x7)
     have HOC7 := lh (HOC.out.ext x7)
     have HOL7 := lh (HOL.out.ext x7)
     have HOG7 := lh (HOG.out.ext x7)
     have HRE7 := lh (HRE.out.ext x7)
     have HRP7 := lh (HRP.out.ext x7)
     have HRR7 := lh (HRR.out.ext x7)
     have HRG7 := lh (HRG.out.ext x7)
     have HU8 := lh u8
     have c2 : W7.cell? ⟨b, off + k * 3 + 2, none⟩ = some (.int .u16 til) := (x7.cell (p := ⟨b, off + k * 3 + 2, none⟩) hb2).trans c2
     have hb7 : b < W7.heap.size := by omega
     clear x7 u8 HOC HOL HOG HRE HRP HRR HRG qE_0 kE qP_0 qP_1 c0 c1 HX hb2
     by_cases hu : 0 < til
     ·have HLy1 := lh (HLy.out (by simp; omega))
      have d1 : decide ((0 : Int) < til) = true := by simpa using hu
      have hfl := le_fits (tLe n l k)
      have hfl0 := le_fits ⟨(k : Int), n - 1, til, 0, zeros32 16⟩
      clear HLn HLy hu
      generalize tLe n l k = lx at *
      go_upto_region 16 with (fail)
      have qE_0 : W7.cell? ⟨B, 0, none⟩ = some (.int .i64 n) := (HRE7.out.cell 0).trans HQ0.out
      refine wp_region_soft 15 (softsL [.eq (.slice LsA ll.length lsc), .eq (.agg (kyC (theKey 1))), .eq (.int .i64 k), .eq (.pointer (some ⟨B, 0, none⟩)), .eq (.int .i64 n), .eq (.int .i64 (n - 1)), .eq (.slice (some ⟨b, off, none⟩) l.length dc), .eq (.int .i64 k), .eq (.pointer (some ⟨b, off + k * 3, none⟩)), .eq (.pointer (some ⟨b, off + k * 3 + 2, none⟩)), .eq (.int .u16 til), .eq (.int .i64 til), .eq (.agg (leC ⟨(k : Int), n - 1, til, 0, zeros32 16⟩)), .eq (.agg (leC lx)), read1 20 leL lx]) (by kernel_rfl) (by kernel_rfl) (lt_cons ?_ (lt_cons ?_ (lt_cons ?_ (lt_cons ?_ (lt_cons ?_ (lt_cons ?_ (lt_cons ?_ (lt_cons ?_ (lt_cons ?_ (lt_cons ?_ (lt_cons ?_ (lt_cons ?_ (lt_cons ?_ (lt_cons ?_ (lt_cons ?_ (lt_none)))))))))))))))) ?_
      any_goals (refine sop rfl fun xs W HW hsW HD Q' HQ => ?_; simp only [fillAt, dstOf, lc0, lcs, obs, Act.put, lsa, lsz, lss, nz, Nat.reduceAdd] at HQ ⊢)
      ·
       go_wp2
       exact HQ.out _ _ (eR _) rfl
      ·
       go_wp2_with (go_at_call 32; refine (HKy.out 1 _).mono ?_; rintro e w1 ⟨rfl, hx⟩)
       exact HQ.out _ _ hx rfl
      ·
       go_wp2
       exact HQ.out _ _ (eR _) rfl
      ·
       go_wp2
       exact HQ.out _ _ (eR _) rfl
      ·
       have hd3 : xs 3 = .pointer (some ⟨B, 0, none⟩) := (HD.out 3 (dk (by kernel_rfl)))
       generalize xs 3 = x3 at hd3 HQ ⊢; subst hd3
       have hc : W.cell? ⟨B, 0, none⟩ = some (.int .i64 n) := (HW.out.cell (p := ⟨B, 0, none⟩) (by show B < _; omega)).trans qE_0
       go_wp2
       exact HQ.out _ _ (eR _) rfl
      ·
       have hd4 : xs 4 = .int .i64 n := (HD.out 4 (dk (by kernel_rfl)))
       generalize xs 4 = x4 at hd4 HQ ⊢; subst hd4
       go_wp2
       exact HQ.out _ _ (eR _) rfl
      ·
       go_wp2
       exact HQ.out _ _ (eR _) rfl
      ·
       go_wp2
       exact HQ.out _ _ (eR _) rfl
      ·
       have hd6 : xs 6 = .slice (some ⟨b, off, none⟩) l.length dc := (HD.out 6 (dk (by kernel_rfl)))
       generalize xs 6 = x6 at hd6 HQ ⊢; subst hd6
       have hd7 : xs 7 = .int .i64 k := (HD.out 7 (dk (by kernel_rfl)))
       generalize xs 7 = x7 at hd7 HQ ⊢; subst hd7
       go_wp2
       exact HQ.out _ _ (eR _) rfl
      ·
       have hd8 : xs 8 = .pointer (some ⟨b, off + k * 3, none⟩) := (HD.out 8 (dk (by kernel_rfl)))
       generalize xs 8 = x8 at hd8 HQ ⊢; subst hd8
       go_wp2
       exact HQ.out _ _ (eR _) rfl
      ·
       have hd9 : xs 9 = .pointer (some ⟨b, off + k * 3 + 2, none⟩) := (HD.out 9 (dk (by kernel_rfl)))
       generalize xs 9 = x9 at hd9 HQ ⊢; subst hd9
       have hc : W.cell? ⟨b, off+k*3+2, none⟩ = some (.int .u16 til) := (HW.out.cell (p := ⟨b, off+k*3+2, none⟩) (by show b < _; omega)).trans c2
       go_wp2
       exact HQ.out _ _ (eR _) rfl
      ·
       have hd10 : xs 10 = .int .u16 til := (HD.out 10 (dk (by kernel_rfl)))
       generalize xs 10 = x10 at hd10 HQ ⊢; subst hd10
       go_wp2
       exact HQ.out _ _ (eR _) rfl
      ·
       have hd2 : xs 2 = .int .i64 k := (HD.out 2 (dk (by kernel_rfl)))
       generalize xs 2 = x2 at hd2 HQ ⊢; subst hd2
       have hd5 : xs 5 = .int .i64 (n - 1) := (HD.out 5 (dk (by kernel_rfl)))
       generalize xs 5 = x5 at hd5 HQ ⊢; subst hd5
       have hd11 : xs 11 = .int .i64 til := (HD.out 11 (dk (by kernel_rfl)))
       generalize xs 11 = x11 at hd11 HQ ⊢; subst hd11
       go_wp2
       exact HQ.out _ _ (eR _) rfl
      ·
       have hd1 : xs 1 = .agg (kyC (theKey 1)) := (HD.out 1 (dk (by kernel_rfl)))
       generalize xs 1 = x1 at hd1 HQ ⊢; subst hd1
       have hd12 : xs 12 = .agg (leC ⟨(k : Int), n - 1, til, 0, zeros32 16⟩) := (HD.out 12 (dk (by kernel_rfl)))
       generalize xs 12 = x12 at hd12 HQ ⊢; subst hd12
       go_wp2_with (go_at_call 55; refine (HSl'.out _ (HX7.out.trans HW.out)).mono ?_; rintro e w1 ⟨rfl, hx⟩)
       exact HQ.out _ _ hx rfl
      ·
       have hd13 : xs 13 = .agg (leC lx) := (HD.out 13 (dk (by kernel_rfl)))
       generalize xs 13 = x13 at hd13 HQ ⊢; subst hd13
       go_wp2
       exact HQ.out _ _ ((eR _).alloc _) ⟨_, rfl, reads_fresh leE [lx] W _ _ (by kernel_rfl)⟩
      intro xs W8 hW hS
      have h0 : xs 0 = .slice LsA ll.length lsc := hS 0 (by omega)
      have h14 : (read1 20 leL lx).S (xs 14) W8 := hS 14 (by omega)
      simp only [fillAt, dstOf, lc0, lcs, obs, Act.put, lsa, lsz, lss, nz, Nat.reduceAdd, List.drop_succ_cons, List.drop_zero, List.drop_nil]
      generalize xs 0 = x0 at *; subst h0
      have HW8 := lh (HX7.out.trans hW)
      have HWW8 := lh hW
      clear hS hW qE_0
      obtain ⟨bl, h14, hr14⟩ := h14
      generalize xs 14 = x14 at *
      subst h14
      have HR14 := lh hr14
      have hs8 := HWW8.out.size
      clear hr14 hfl hfl0 HSl' d1
      go_upto_region 17 with (at_builtin; refine app_reads leT leE rfl _ _ rfl (B+1+1+1+1) _ _ ll rfl (HOL7.out.ext (by (with_reducible repeat first|exact HWW8.out|exact eR _|apply eD|apply eN|apply eA|apply eO|apply eS|apply eC);all_goals first|omega|simp <;> omega)) W8.heap.size _ _ [lx] rfl HR14.out (fun h => by cases h) (by simp; omega) (by simp; omega) (by omega) ?_; intro LA5 lc5 ll5 w5 HLL HO5 hB5 hll1 hll2 hg5; have HO5' := lh HO5; have HB5 := lh hB5; have HG5 := lh hg5; clear HO5 hB5 hg5)
      refine wp_world (fun W => Ext w W ∧ OwnsCf (B+1+1+1+1) W CA cc cl ∧ OwnsLe (B+1+1+1+1) W LA5 lc5 ll5 ∧ OwnsGr (B+1+1+1+1) W GA gc gl ∧ RowAt W B (epC (tEp n)) ∧ RowAt W (B+1) #[.int .i64 p0, .int .i64 p1] ∧ RowAt W (B+1+1) (rpC noRp) ∧ RowAt W (B+1+1+1) (gsC (tGs n GA gc gl)) ∧ RowAt W g8 (grC (⟨(k : Int), 0, til⟩ : Gr))) ⟨?_, ?_, HO5'.out, ?_, ?_, ?_, ?_, ?_, ?_⟩ ?_
      ·exact (show Ext w _ from HW8.out).grown HB5.out (by omega)
      ·exact Owns.apart (HOC7.out.ext (by (with_reducible repeat first|exact HWW8.out|exact eR _|apply eD|apply eN|apply eA|apply eO|apply eS|apply eC);all_goals first|omega|simp <;> omega)) (HOL7.out.ext (by (with_reducible repeat first|exact HWW8.out|exact eR _|apply eD|apply eN|apply eA|apply eO|apply eS|apply eC);all_goals first|omega|simp <;> omega)) (by decide) HG5.out
      ·exact Owns.apart (HOG7.out.ext (by (with_reducible repeat first|exact HWW8.out|exact eR _|apply eD|apply eN|apply eA|apply eO|apply eS|apply eC);all_goals first|omega|simp <;> omega)) (HOL7.out.ext (by (with_reducible repeat first|exact HWW8.out|exact eR _|apply eD|apply eN|apply eA|apply eO|apply eS|apply eC);all_goals first|omega|simp <;> omega)) (by decide) HG5.out
      ·exact RowAt.below (HRE7.out.ext (by (with_reducible repeat first|exact HWW8.out|exact eR _|apply eD|apply eN|apply eA|apply eO|apply eS|apply eC);all_goals first|omega|simp <;> omega)) HB5.out (by omega)
      ·exact RowAt.below (HRP7.out.ext (by (with_reducible repeat first|exact HWW8.out|exact eR _|apply eD|apply eN|apply eA|apply eO|apply eS|apply eC);all_goals first|omega|simp <;> omega)) HB5.out (by omega)
      ·exact RowAt.below (HRR7.out.ext (by (with_reducible repeat first|exact HWW8.out|exact eR _|apply eD|apply eN|apply eA|apply eO|apply eS|apply eC);all_goals first|omega|simp <;> omega)) HB5.out (by omega)
      ·exact RowAt.below (HRG7.out.ext (by (with_reducible repeat first|exact HWW8.out|exact eR _|apply eD|apply eN|apply eA|apply eO|apply eS|apply eC);all_goals first|omega|simp <;> omega)) HB5.out (by omega)
      ·exact RowAt.grown (HU8.out.ext (by (with_reducible repeat first|exact HWW8.out|exact eR _|apply eD|apply eN|apply eA|apply eO|apply eS|apply eC);all_goals first|omega|simp <;> omega)) HG5.out (fun e => by have := own_lt HLt8.out _ e; omega)
      rintro W9 ⟨x9, o1, o2, o3, r1, r2, r3, r4, u8⟩
      have hl8 := u8.lt
      have HX9 := lh x9
      have hs9 := x9.size
      have hll9 : ll5.length ≤ k + 1 := by simp only [List.length_singleton] at hll1 hll2; omega
      have HL9 : Hid (ll5 = les n l (k + 1)) := lh (by rw [HLL.out, HLl.out, HLy1.out])
      have HOC9 := lh o1
      have HOL9 := lh o2
      have HOG9 := lh o3
      have HRE9 := lh r1
      have HRP9 := lh r2
      have HRR9 := lh r3
      have HRG9 := lh r4
      have kX : rowOf W9 g8 0 3 = some (grC (⟨(k : Int), 0, til⟩ : Gr)) := u8.all rfl (by omega)
      clear x9 o1 o2 o3 r1 r2 r3 r4 u8 HLL HLl HLy1 HW8 HWW8 HR14 HO5' HB5 HG5 HOC7 HOL7 HOG7 HRE7 HRP7 HRR7 HRG7 HU8 HX7 c2
      have qG_2 : W9.cell? ⟨B+1+1+1, 2, none⟩ = some (.slice GA gl.length gc) := (HRG9.out.cell 2).trans (gs_q2 n GA gc gl)
      have hlG9 := HRG9.out.lt
      go_wp2_with (at_builtin; refine app_from grT grE rfl _ _ rfl (B+1+1+1+1) _ _ gl rfl (HOG9.out.ext (by (with_reducible repeat first|exact eR _|apply eD|apply eN|apply eA|apply eO|apply eS|apply eC);all_goals first|omega|simp <;> omega)) _ 1 _ [(⟨(k : Int), 0, til⟩ : Gr)] rfl rfl (new_listAt rfl [(⟨(k : Int), 0, til⟩ : Gr)] _ _ (by kernel_rfl)) (by omega) (by omega) (by simp; omega) ?_; intro GA6 gc6 gl6 w6 HGL HO6 hB6 hgl1 hgl2 hg6; have HO6' := lh HO6; have HB6 := lh hB6; have HG6 := lh hg6; have HRG6 := lh (RowAt.below (HRG9.out.ext (by (with_reducible repeat first|exact eR _|apply eD|apply eN|apply eA|apply eO|apply eS|apply eC);all_goals first|omega|simp <;> omega)) hB6 (by omega)); have q6 := (HRG6.out.cell 2).trans (gs_q2 n GA gc gl); have f6 := HRG6.out.free 2; have l6 := HRG6.out.lt; clear HO6 hB6 hg6)
      go_roundw
      case rel =>
       refine ⟨CA, cc, cl, LA5, lc5, ll5, GA6, gc6, gl6, k + 1, rfl, rfl, by go_num, by omega, by omega, by omega, by omega, HC1, HL9, lh (by rw [HGL.out, HGl.out, HG1.out]), lh (Owns.other ?_ (by show B+1+1+1 < _; omega) _), lh (Owns.other ?_ (by show B+1+1+1 < _; omega) _), lh (Owns.other HO6'.out (by show B+1+1+1 < _; omega) _), lh (RowAt.other ?_ (by show B ≠ B+1+1+1; omega) _), lh (RowAt.other ?_ (by show B+1 ≠ B+1+1+1; omega) _), lh (RowAt.other ?_ (by show B+1+1 ≠ B+1+1+1; omega) _), lh ?_, lh ?_⟩
       ·exact Owns.apart (HOC9.out.ext (by (with_reducible repeat first|exact eR _|apply eD|apply eN|apply eA|apply eO|apply eS|apply eC);all_goals first|omega|simp <;> omega)) (HOG9.out.ext (by (with_reducible repeat first|exact eR _|apply eD|apply eN|apply eA|apply eO|apply eS|apply eC);all_goals first|omega|simp <;> omega)) (by decide) HG6.out
       ·exact Owns.apart (HOL9.out.ext (by (with_reducible repeat first|exact eR _|apply eD|apply eN|apply eA|apply eO|apply eS|apply eC);all_goals first|omega|simp <;> omega)) (HOG9.out.ext (by (with_reducible repeat first|exact eR _|apply eD|apply eN|apply eA|apply eO|apply eS|apply eC);all_goals first|omega|simp <;> omega)) (by decide) HG6.out
       ·exact RowAt.below (HRE9.out.ext (by (with_reducible repeat first|exact eR _|apply eD|apply eN|apply eA|apply eO|apply eS|apply eC);all_goals first|omega|simp <;> omega)) HB6.out (by omega)
       ·exact RowAt.below (HRP9.out.ext (by (with_reducible repeat first|exact eR _|apply eD|apply eN|apply eA|apply eO|apply eS|apply eC);all_goals first|omega|simp <;> omega)) HB6.out (by omega)
       ·exact RowAt.below (HRR9.out.ext (by (with_reducible repeat first|exact eR _|apply eD|apply eN|apply eA|apply eO|apply eS|apply eC);all_goals first|omega|simp <;> omega)) HB6.out (by omega)
       ·have hst := HRG6.out.set 2 (.slice GA6 gl6.length gc6)
        rw [gs_set2] at hst
        exact hst
       ·exact Ext.setCell ((show Ext w _ from (by (with_reducible repeat first|exact HX9.out|exact eR _|apply eD|apply eN|apply eA|apply eO|apply eS|apply eC);all_goals first|omega|simp <;> omega)).grown HB6.out (by omega)) (by show _ ≤ B+1+1+1; omega) _
      case measure => simp [intOf]; omega
     ·have HL9 := lh (HLl.out.trans (HLn.out (by simp; omega)).symm)
      have d1 : decide ((0 : Int) < til) = false := by simpa using hu
      clear HLn HLy hu HSl' HLl
      go_upto_region 17 with (fail)
      have HX9 := HX7
      have hs9 := hs7
      have hll9 : ll.length ≤ k + 1 := by omega
      have HOC9 := HOC7
      have HOL9 := HOL7
      have HOG9 := HOG7
      have HRE9 := HRE7
      have HRP9 := HRP7
      have HRR9 := HRR7
      have HRG9 := HRG7
      have kX : rowOf W7 g8 0 3 = some (grC (⟨(k : Int), 0, til⟩ : Gr)) := HU8.out.all rfl (by omega)
      clear HOC7 HOL7 HOG7 HRE7 HRP7 HRR7 HRG7 HU8 HX7 c2 d1
      have qG_2 : W7.cell? ⟨B+1+1+1, 2, none⟩ = some (.slice GA gl.length gc) := (HRG9.out.cell 2).trans (gs_q2 n GA gc gl)
      have hlG9 := HRG9.out.lt
      go_wp2_with (at_builtin; refine app_from grT grE rfl _ _ rfl (B+1+1+1+1) _ _ gl rfl (HOG9.out.ext (by (with_reducible repeat first|exact eR _|apply eD|apply eN|apply eA|apply eO|apply eS|apply eC);all_goals first|omega|simp <;> omega)) _ 1 _ [(⟨(k : Int), 0, til⟩ : Gr)] rfl rfl (new_listAt rfl [(⟨(k : Int), 0, til⟩ : Gr)] _ _ (by kernel_rfl)) (by omega) (by omega) (by simp; omega) ?_; intro GA6 gc6 gl6 w6 HGL HO6 hB6 hgl1 hgl2 hg6; have HO6' := lh HO6; have HB6 := lh hB6; have HG6 := lh hg6; have HRG6 := lh (RowAt.below (HRG9.out.ext (by (with_reducible repeat first|exact eR _|apply eD|apply eN|apply eA|apply eO|apply eS|apply eC);all_goals first|omega|simp <;> omega)) hB6 (by omega)); have q6 := (HRG6.out.cell 2).trans (gs_q2 n GA gc gl); have f6 := HRG6.out.free 2; have l6 := HRG6.out.lt; clear HO6 hB6 hg6)
      go_roundw
      case rel =>
       refine ⟨CA, cc, cl, LsA, lsc, ll, GA6, gc6, gl6, k + 1, rfl, rfl, by go_num, by omega, by omega, by omega, by omega, HC1, HL9, lh (by rw [HGL.out, HGl.out, HG1.out]), lh (Owns.other ?_ (by show B+1+1+1 < _; omega) _), lh (Owns.other ?_ (by show B+1+1+1 < _; omega) _), lh (Owns.other HO6'.out (by show B+1+1+1 < _; omega) _), lh (RowAt.other ?_ (by show B ≠ B+1+1+1; omega) _), lh (RowAt.other ?_ (by show B+1 ≠ B+1+1+1; omega) _), lh (RowAt.other ?_ (by show B+1+1 ≠ B+1+1+1; omega) _), lh ?_, lh ?_⟩
       ·exact Owns.apart (HOC9.out.ext (by (with_reducible repeat first|exact eR _|apply eD|apply eN|apply eA|apply eO|apply eS|apply eC);all_goals first|omega|simp <;> omega)) (HOG9.out.ext (by (with_reducible repeat first|exact eR _|apply eD|apply eN|apply eA|apply eO|apply eS|apply eC);all_goals first|omega|simp <;> omega)) (by decide) HG6.out
       ·exact Owns.apart (HOL9.out.ext (by (with_reducible repeat first|exact eR _|apply eD|apply eN|apply eA|apply eO|apply eS|apply eC);all_goals first|omega|simp <;> omega)) (HOG9.out.ext (by (with_reducible repeat first|exact eR _|apply eD|apply eN|apply eA|apply eO|apply eS|apply eC);all_goals first|omega|simp <;> omega)) (by decide) HG6.out
       ·exact RowAt.below (HRE9.out.ext (by (with_reducible repeat first|exact eR _|apply eD|apply eN|apply eA|apply eO|apply eS|apply eC);all_goals first|omega|simp <;> omega)) HB6.out (by omega)
       ·exact RowAt.below (HRP9.out.ext (by (with_reducible repeat first|exact eR _|apply eD|apply eN|apply eA|apply eO|apply eS|apply eC);all_goals first|omega|simp <;> omega)) HB6.out (by omega)
       ·exact RowAt.below (HRR9.out.ext (by (with_reducible repeat first|exact eR _|apply eD|apply eN|apply eA|apply eO|apply eS|apply eC);all_goals first|omega|simp <;> omega)) HB6.out (by omega)
       ·have hst := HRG6.out.set 2 (.slice GA6 gl6.length gc6)
        rw [gs_set2] at hst
        exact hst
       ·exact Ext.setCell ((show Ext w _ from (by (with_reducible repeat first|exact HX9.out|exact eR _|apply eD|apply eN|apply eA|apply eO|apply eS|apply eC);all_goals first|omega|simp <;> omega)).grown HB6.out (by omega)) (by show _ ≤ B+1+1+1; omega) _
      case measure => simp [intOf]; omega
    | true =>
     have HC0 := lh (HCy.out rfl)
     have HT1 : Hid (tGr n l k = ⟨(k : Int), n, til⟩) := lh HTg.out
     have hfC := cf_fits (tCf (tEp n) ⟨p0, p1⟩ k)
     clear HCn HCy HTg
     generalize tCf (tEp n) ⟨p0, p1⟩ k = cx at *
     generalize tGr n l k = gx at *
     have HT1' := HT1.out
     subst HT1'
     go_upto_region 11 with (fail)
     refine wp_world (fun W => Ext wr W ∧ RowAt W wr.heap.size (grC ⟨(k : Int), n, til⟩)) ⟨(by (with_reducible repeat first|exact eR _|apply eD|apply eN|apply eA|apply eO|apply eS|apply eC);all_goals first|omega|simp <;> omega), ?_⟩ ?_
     ·have hst := (RowAt.store (ds := grC ⟨(k : Int), 0, til⟩) (RowAt.new wr (grC noGr) 128) rfl).set 1 (.int .i64 n)
      rw [gr_set1] at hst
      exact hst
     have HLt8 := lh (fun a ha => (HOL.out.lt a ha).2)
     obtain ⟨g8, hg8⟩ : ∃ g, wr.heap.size = g := ⟨_, rfl⟩
     rw [hg8]
     rintro W5 ⟨x5, u8⟩
     have HX5 := lh x5
     have HU5 := lh u8
     have hl8 := u8.lt
     have hs5 := x5.size
     have kE : rowOf W5 B 0 38 = some (epC (tEp n)) := (HRE.out.ext x5).all rfl (by omega)
     have qP_0 : W5.cell? ⟨B+1, 0, none⟩ = some (.int .i64 p0) := (HRP.out.ext x5).cell 0
     have qP_1 : W5.cell? ⟨B+1, 1, none⟩ = some (.int .i64 p1) := (HRP.out.ext x5).cell 1
     clear x5 u8 qE_0 c0 c1
     refine wp_region_rowN 13 (by kernel_rfl) 10 11 (fun i => ([.int .i64 k, .int .i64 (1000 + (k : Int)), .agg (kyC (theKey (1000 + (k : Int)))), .int .i64 k, .agg (epC (tEp n)), .agg #[.int .i64 p0, .int .i64 p1], .tuple #[.agg (cfC cx), .int .i64 0], .tuple #[.agg (cfC cx), .int .i64 0], .agg (cfC cx), .int .i64 0, undef, undef, .int .i64 0] : List Value).getD i undef) (cfC cx) (by kernel_rfl) (by kernel_rfl) (by decide) (dk (by kernel_rfl)) (dk (by kernel_rfl)) (dk (by kernel_rfl)) (lt_cons ?_ (lt_cons ?_ (lt_cons ?_ (lt_cons ?_ (lt_cons ?_ (lt_cons ?_ (lt_cons ?_ (lt_cons ?_ (lt_cons ?_ (lt_cons ?_ (lt_cons ?_ (lt_cons ?_ (lt_cons ?_ (lt_none)))))))))))))) ?_ ?_ ?_
     ·
      intro _ _
      refine sop rfl fun xs W HW hsW HD Q' HQ => ?_; simp only [fillAt, dstOf, lc0, lcs, obs, Act.put, lsa, lsz, lss, nz, Nat.reduceAdd] at HQ ⊢
      go_wp2
      exact HQ.out _ _ (eR _) rfl
     ·
      intro _ _
      refine sop rfl fun xs W HW hsW HD Q' HQ => ?_; simp only [fillAt, dstOf, lc0, lcs, obs, Act.put, lsa, lsz, lss, nz, Nat.reduceAdd] at HQ ⊢
      have hd0 : xs 0 = .int .i64 k := (HD.out 0 (dk (by kernel_rfl)))
      generalize xs 0 = x0 at hd0 HQ ⊢; subst hd0
      go_wp2
      exact HQ.out _ _ (eR _) rfl
     ·
      intro _ _
      refine sop rfl fun xs W HW hsW HD Q' HQ => ?_; simp only [fillAt, dstOf, lc0, lcs, obs, Act.put, lsa, lsz, lss, nz, Nat.reduceAdd] at HQ ⊢
      have hd1 : xs 1 = .int .i64 (1000 + (k : Int)) := (HD.out 1 (dk (by kernel_rfl)))
      generalize xs 1 = x1 at hd1 HQ ⊢; subst hd1
      go_wp2_with (go_at_call 32; refine (HKy.out _ _).mono ?_; rintro e w1 ⟨rfl, hx⟩)
      exact HQ.out _ _ hx rfl
     ·
      intro _ _
      refine sop rfl fun xs W HW hsW HD Q' HQ => ?_; simp only [fillAt, dstOf, lc0, lcs, obs, Act.put, lsa, lsz, lss, nz, Nat.reduceAdd] at HQ ⊢
      go_wp2
      exact HQ.out _ _ (eR _) rfl
     ·
      intro _ _
      refine sop rfl fun xs W HW hsW HD Q' HQ => ?_; simp only [fillAt, dstOf, lc0, lcs, obs, Act.put, lsa, lsz, lss, nz, Nat.reduceAdd] at HQ ⊢
      have hc := (row_extW HW.out (b := B) (by omega) 0 38).trans kE
      go_wp2
      exact HQ.out _ _ (eR _) rfl
     ·
      intro _ _
      refine sop rfl fun xs W HW hsW HD Q' HQ => ?_; simp only [fillAt, dstOf, lc0, lcs, obs, Act.put, lsa, lsz, lss, nz, Nat.reduceAdd] at HQ ⊢
      have hc := (HW.out.cell (p := ⟨B+1, 0, none⟩) (by show B+1 < _; omega)).trans qP_0
      have hc2 := (HW.out.cell (p := ⟨B+1, 1, none⟩) (by show B+1 < _; omega)).trans qP_1
      go_wp2
      exact HQ.out _ _ (eR _) rfl
     ·
      intro _ _
      refine sop rfl fun xs W HW hsW HD Q' HQ => ?_; simp only [fillAt, dstOf, lc0, lcs, obs, Act.put, lsa, lsz, lss, nz, Nat.reduceAdd] at HQ ⊢
      have hd2 : xs 2 = .agg (kyC (theKey (1000 + (k : Int)))) := (HD.out 2 (dk (by kernel_rfl)))
      generalize xs 2 = x2 at hd2 HQ ⊢; subst hd2
      have hd3 : xs 3 = .int .i64 k := (HD.out 3 (dk (by kernel_rfl)))
      generalize xs 3 = x3 at hd3 HQ ⊢; subst hd3
      have hd4 : xs 4 = .agg (epC (tEp n)) := (HD.out 4 (dk (by kernel_rfl)))
      generalize xs 4 = x4 at hd4 HQ ⊢; subst hd4
      have hd5 : xs 5 = .agg #[.int .i64 p0, .int .i64 p1] := (HD.out 5 (dk (by kernel_rfl)))
      generalize xs 5 = x5 at hd5 HQ ⊢; subst hd5
      go_wp2_with (go_at_call 17; refine (HCf'.out _ (HX.out.trans (HX5.out.trans HW.out))).mono ?_; rintro e w1 ⟨rfl, hx⟩)
      exact HQ.out _ _ hx rfl
     ·
      intro _ _
      refine sop rfl fun xs W HW hsW HD Q' HQ => ?_; simp only [fillAt, dstOf, lc0, lcs, obs, Act.put, lsa, lsz, lss, nz, Nat.reduceAdd] at HQ ⊢
      have hd6 : xs 6 = .tuple #[.agg (cfC cx), .int .i64 0] := (HD.out 6 (dk (by kernel_rfl)))
      generalize xs 6 = x6 at hd6 HQ ⊢; subst hd6
      go_wp2
      exact HQ.out _ _ (eR _) rfl
     ·
      intro _ _
      refine sop rfl fun xs W HW hsW HD Q' HQ => ?_; simp only [fillAt, dstOf, lc0, lcs, obs, Act.put, lsa, lsz, lss, nz, Nat.reduceAdd] at HQ ⊢
      have hd7 : xs 7 = .tuple #[.agg (cfC cx), .int .i64 0] := (HD.out 7 (dk (by kernel_rfl)))
      generalize xs 7 = x7 at hd7 HQ ⊢; subst hd7
      go_wp2
      exact HQ.out _ _ (eR _) rfl
     ·
      intro _ _
      refine sop rfl fun xs W HW hsW HD Q' HQ => ?_; simp only [fillAt, dstOf, lc0, lcs, obs, Act.put, lsa, lsz, lss, nz, Nat.reduceAdd] at HQ ⊢
      have hd7 : xs 7 = .tuple #[.agg (cfC cx), .int .i64 0] := (HD.out 7 (dk (by kernel_rfl)))
      generalize xs 7 = x7 at hd7 HQ ⊢; subst hd7
      go_wp2
      exact HQ.out _ _ (eR _) rfl
     ·exact fun h => absurd rfl h
     ·exact fun _ h => absurd rfl h
     ·
      intro _ _
      refine sop rfl fun xs W HW hsW HD Q' HQ => ?_; simp only [fillAt, dstOf, lc0, lcs, obs, Act.put, lsa, lsz, lss, nz, Nat.reduceAdd] at HQ ⊢
      have hd9 : xs 9 = .int .i64 0 := (HD.out 9 (dk (by kernel_rfl)))
      generalize xs 9 = x9 at hd9 HQ ⊢; subst hd9
      go_wp2
      exact HQ.out _ _ (eR _) rfl
     ·
      refine sop rfl fun xs W HW hsW HD Q' HQ => ?_; simp only [fillAt, dstOf, lc0, lcs, obs, Act.put, lsa, lsz, lss, nz, Nat.reduceAdd] at HQ ⊢
      go_wp2
      exact HQ.out _ _ ((eR _).alloc _) ⟨W.heap.size, rfl, by omega, _, RowAt.new _ _ _, rfl⟩
     ·
      refine sop rfl fun xs W HW hsW HD Q' HQ => ?_; simp only [fillAt, dstOf, lc0, lcs, obs, Act.put, lsa, lsz, lss, nz, Nat.reduceAdd] at HQ ⊢
      have hdv : xs 8 = .agg (cfC cx) := (HD.out 8 (dk (by kernel_rfl)))
      obtain ⟨bb, hxa, hbb, ds, hrb, hzb⟩ : ∃ b, xs 10 = .pointer (some ⟨b, 0, none⟩) ∧ W5.heap.size ≤ b ∧ ∃ ds, RowAt W b ds ∧ ds.size = (cfC cx).size := (HD.out 10 (dk (by kernel_rfl)))
      have hrm : roomOf W bb 0 37 = true := by rw [hrb.room, hzb]; rfl
      generalize xs 8 = x8 at hdv HQ ⊢; subst hdv
      generalize xs 10 = x10 at hxa HQ ⊢; subst hxa
      clear hrb hzb
      go_wp2
      exact HQ.out undef bb rfl
     intro xs W6 g hW hxb hbaseg hrowg hvs
     have h12 : xs 12 = .int .i64 0 := hvs 12 (dk (by kernel_rfl)) (by decide) (by decide)
     simp only [fillAt, dstOf, lc0, lcs, obs, Act.put, lsa, lsz, lss, nz, Nat.reduceAdd]
     generalize xs 12 = x12 at *; subst h12
     generalize xs 10 = xa at *; subst hxb
     have HW6 := lh (HX5.out.trans hW)
     have HWW6 := lh hW
     have HRg := lh hrowg
     have hlg := hrowg.lt
     clear hW hvs hrowg kE qP_0 qP_1
     have hs6 := HWW6.out.size
     have kC : rowOf W6 g 0 37 = some (cfC cx) := HRg.out.all rfl (by omega)
     have c2 : W6.cell? ⟨b, off + k * 3 + 2, none⟩ = some (.int .u16 til) := (HW6.out.cell (p := ⟨b, off + k * 3 + 2, none⟩) hb2).trans c2
     go_upto_region 15 with (at_builtin; refine app_from cfT cfE rfl _ _ rfl (B+1+1+1+1) _ _ cl rfl (HOC.out.ext (by (with_reducible repeat first|exact HW6.out|exact eR _|apply eD|apply eN|apply eA|apply eO|apply eS|apply eC);all_goals first|omega|simp <;> omega)) _ 1 _ [cx] rfl rfl (new_listAt rfl [cx] _ _ (by kernel_rfl)) (by omega) (by omega) (by simp; omega) ?_; intro CA4 cc4 cl4 w4 HCL HO4 hB4 hcl1 hcl2 hg4; have HO4' := lh HO4; have HB4 := lh hB4; have HG4 := lh hg4; clear HO4 hB4 hg4)
     refine wp_world (fun W => Ext w W ∧ OwnsCf (B+1+1+1+1) W CA4 cc4 cl4 ∧ OwnsLe (B+1+1+1+1) W LsA lsc ll ∧ OwnsGr (B+1+1+1+1) W GA gc gl ∧ RowAt W B (epC (tEp n)) ∧ RowAt W (B+1) #[.int .i64 p0, .int .i64 p1] ∧ RowAt W (B+1+1) (rpC noRp) ∧ RowAt W (B+1+1+1) (gsC (tGs n GA gc gl)) ∧ RowAt W g8 (grC ⟨(k : Int), n, til⟩) ∧ W.cell? ⟨b, off + k * 3 + 2, none⟩ = some (.int .u16 til)) ⟨?_, HO4'.out, ?_, ?_, ?_, ?_, ?_, ?_, ?_, ?_⟩ ?_
     ·exact (show Ext w _ from (by (with_reducible repeat first|exact HX.out.trans HW6.out|exact eR _|apply eD|apply eN|apply eA|apply eO|apply eS|apply eC);all_goals first|omega|simp <;> omega)).grown HB4.out (by omega)
     ·exact Owns.apart (HOL.out.ext (by (with_reducible repeat first|exact HW6.out|exact eR _|apply eD|apply eN|apply eA|apply eO|apply eS|apply eC);all_goals first|omega|simp <;> omega)) (HOC.out.ext (by (with_reducible repeat first|exact HW6.out|exact eR _|apply eD|apply eN|apply eA|apply eO|apply eS|apply eC);all_goals first|omega|simp <;> omega)) (by decide) HG4.out
     ·exact Owns.apart (HOG.out.ext (by (with_reducible repeat first|exact HW6.out|exact eR _|apply eD|apply eN|apply eA|apply eO|apply eS|apply eC);all_goals first|omega|simp <;> omega)) (HOC.out.ext (by (with_reducible repeat first|exact HW6.out|exact eR _|apply eD|apply eN|apply eA|apply eO|apply eS|apply eC);all_goals first|omega|simp <;> omega)) (by decide) HG4.out
     ·exact RowAt.below (HRE.out.ext (by (with_reducible repeat first|exact HW6.out|exact eR _|apply eD|apply eN|apply eA|apply eO|apply eS|apply eC);all_goals first|omega|simp <;> omega)) HB4.out (by omega)
     ·exact RowAt.below (HRP.out.ext (by (with_reducible repeat first|exact HW6.out|exact eR _|apply eD|apply eN|apply eA|apply eO|apply eS|apply eC);all_goals first|omega|simp <;> omega)) HB4.out (by omega)
     ·exact RowAt.below (HRR.out.ext (by (with_reducible repeat first|exact HW6.out|exact eR _|apply eD|apply eN|apply eA|apply eO|apply eS|apply eC);all_goals first|omega|simp <;> omega)) HB4.out (by omega)
     ·exact RowAt.below (HRG.out.ext (by (with_reducible repeat first|exact HW6.out|exact eR _|apply eD|apply eN|apply eA|apply eO|apply eS|apply eC);all_goals first|omega|simp <;> omega)) HB4.out (by omega)
     ·exact RowAt.grown (HU5.out.ext (by (with_reducible repeat first|exact HWW6.out|exact eR _|apply eD|apply eN|apply eA|apply eO|apply eS|apply eC);all_goals first|omega|simp <;> omega)) HG4.out (fun e => by have := own_lt (fun a ha => (HOC.out.lt a ha).2) _ e; omega)
     ·refine (HB4.out.cell (p := ⟨b, off + k * 3 + 2, none⟩) (by show b < _; omega)).trans ?_
      exact ((show Ext W6 _ from (by (with_reducible repeat first|exact eR _|apply eD|apply eN|apply eA|apply eO|apply eS|apply eC);all_goals first|omega|simp <;> omega)).cell (p := ⟨b, off + k * 3 + 2, none⟩) (by show b < _; omega)).trans c2
     rintro W7 ⟨x7, o1, o2, o3, r1, r2, r3, r4, u8, c2⟩
     have hl8 := u8.lt
     have HX7 := lh x7
     have hs7 := x7.size
     have hcl7 : cl4.length ≤ k + 1 := by omega
     have HC1 : Hid (cl4 = cfs (tEp n) ⟨p0, p1⟩ l (k + 1)) := lh (by rw [HCL.out, HCl.out, HC0.out])
     have HOC7 := lh o1
     have HOL7 := lh o2
     have HOG7 := lh o3
     have HRE7 := lh r1
     have HRP7 := lh r2
     have HRR7 := lh r3
     have HRG7 := lh r4
     have HU8 := lh u8
     have hb7 : b < W7.heap.size := by omega
     clear x7 o1 o2 o3 r1 r2 r3 r4 u8 HOC HOL HOG HRE HRP HRR HRG HX hb2 HCL HCl HC0 HB4 HG4 HO4' HCf' kC HW6 HWW6 HX5 HU5 HRg hfC
     by_cases hu : 0 < til
     ·have HLy1 := lh (HLy.out (by simp; omega))
      have d1 : decide ((0 : Int) < til) = true := by simpa using hu
      have hfl := le_fits (tLe n l k)
      have hfl0 := le_fits ⟨(k : Int), n - 1, til, 0, zeros32 16⟩
      clear HLn HLy hu
      generalize tLe n l k = lx at *
      go_upto_region 16 with (fail)
      have qE_0 : W7.cell? ⟨B, 0, none⟩ = some (.int .i64 n) := (HRE7.out.cell 0).trans HQ0.out
      refine wp_region_soft 15 (softsL [.eq (.slice LsA ll.length lsc), .eq (.agg (kyC (theKey 1))), .eq (.int .i64 k), .eq (.pointer (some ⟨B, 0, none⟩)), .eq (.int .i64 n), .eq (.int .i64 (n - 1)), .eq (.slice (some ⟨b, off, none⟩) l.length dc), .eq (.int .i64 k), .eq (.pointer (some ⟨b, off + k * 3, none⟩)), .eq (.pointer (some ⟨b, off + k * 3 + 2, none⟩)), .eq (.int .u16 til), .eq (.int .i64 til), .eq (.agg (leC ⟨(k : Int), n - 1, til, 0, zeros32 16⟩)), .eq (.agg (leC lx)), read1 20 leL lx]) (by kernel_rfl) (by kernel_rfl) (lt_cons ?_ (lt_cons ?_ (lt_cons ?_ (lt_cons ?_ (lt_cons ?_ (lt_cons ?_ (lt_cons ?_ (lt_cons ?_ (lt_cons ?_ (lt_cons ?_ (lt_cons ?_ (lt_cons ?_ (lt_cons ?_ (lt_cons ?_ (lt_cons ?_ (lt_none)))))))))))))))) ?_
      any_goals (refine sop rfl fun xs W HW hsW HD Q' HQ => ?_; simp only [fillAt, dstOf, lc0, lcs, obs, Act.put, lsa, lsz, lss, nz, Nat.reduceAdd] at HQ ⊢)
      ·
       go_wp2
       exact HQ.out _ _ (eR _) rfl
      ·
       go_wp2_with (go_at_call 32; refine (HKy.out 1 _).mono ?_; rintro e w1 ⟨rfl, hx⟩)
       exact HQ.out _ _ hx rfl
      ·
       go_wp2
       exact HQ.out _ _ (eR _) rfl
      ·
       go_wp2
       exact HQ.out _ _ (eR _) rfl
      ·
       have hd3 : xs 3 = .pointer (some ⟨B, 0, none⟩) := (HD.out 3 (dk (by kernel_rfl)))
       generalize xs 3 = x3 at hd3 HQ ⊢; subst hd3
       have hc : W.cell? ⟨B, 0, none⟩ = some (.int .i64 n) := (HW.out.cell (p := ⟨B, 0, none⟩) (by show B < _; omega)).trans qE_0
       go_wp2
       exact HQ.out _ _ (eR _) rfl
      ·
       have hd4 : xs 4 = .int .i64 n := (HD.out 4 (dk (by kernel_rfl)))
       generalize xs 4 = x4 at hd4 HQ ⊢; subst hd4
       go_wp2
       exact HQ.out _ _ (eR _) rfl
      ·
       go_wp2
       exact HQ.out _ _ (eR _) rfl
      ·
       go_wp2
       exact HQ.out _ _ (eR _) rfl
      ·
       have hd6 : xs 6 = .slice (some ⟨b, off, none⟩) l.length dc := (HD.out 6 (dk (by kernel_rfl)))
       generalize xs 6 = x6 at hd6 HQ ⊢; subst hd6
       have hd7 : xs 7 = .int .i64 k := (HD.out 7 (dk (by kernel_rfl)))
       generalize xs 7 = x7 at hd7 HQ ⊢; subst hd7
       go_wp2
       exact HQ.out _ _ (eR _) rfl
      ·
       have hd8 : xs 8 = .pointer (some ⟨b, off + k * 3, none⟩) := (HD.out 8 (dk (by kernel_rfl)))
       generalize xs 8 = x8 at hd8 HQ ⊢; subst hd8
       go_wp2
       exact HQ.out _ _ (eR _) rfl
      ·
       have hd9 : xs 9 = .pointer (some ⟨b, off + k * 3 + 2, none⟩) := (HD.out 9 (dk (by kernel_rfl)))
       generalize xs 9 = x9 at hd9 HQ ⊢; subst hd9
       have hc : W.cell? ⟨b, off+k*3+2, none⟩ = some (.int .u16 til) := (HW.out.cell (p := ⟨b, off+k*3+2, none⟩) (by show b < _; omega)).trans c2
       go_wp2
       exact HQ.out _ _ (eR _) rfl
      ·
       have hd10 : xs 10 = .int .u16 til := (HD.out 10 (dk (by kernel_rfl)))
       generalize xs 10 = x10 at hd10 HQ ⊢; subst hd10
       go_wp2
       exact HQ.out _ _ (eR _) rfl
      ·
       have hd2 : xs 2 = .int .i64 k := (HD.out 2 (dk (by kernel_rfl)))
       generalize xs 2 = x2 at hd2 HQ ⊢; subst hd2
       have hd5 : xs 5 = .int .i64 (n - 1) := (HD.out 5 (dk (by kernel_rfl)))
       generalize xs 5 = x5 at hd5 HQ ⊢; subst hd5
       have hd11 : xs 11 = .int .i64 til := (HD.out 11 (dk (by kernel_rfl)))
       generalize xs 11 = x11 at hd11 HQ ⊢; subst hd11
       go_wp2
       exact HQ.out _ _ (eR _) rfl
      ·
       have hd1 : xs 1 = .agg (kyC (theKey 1)) := (HD.out 1 (dk (by kernel_rfl)))
       generalize xs 1 = x1 at hd1 HQ ⊢; subst hd1
       have hd12 : xs 12 = .agg (leC ⟨(k : Int), n - 1, til, 0, zeros32 16⟩) := (HD.out 12 (dk (by kernel_rfl)))
       generalize xs 12 = x12 at hd12 HQ ⊢; subst hd12
       go_wp2_with (go_at_call 55; refine (HSl'.out _ (HX7.out.trans HW.out)).mono ?_; rintro e w1 ⟨rfl, hx⟩)
       exact HQ.out _ _ hx rfl
      ·
       have hd13 : xs 13 = .agg (leC lx) := (HD.out 13 (dk (by kernel_rfl)))
       generalize xs 13 = x13 at hd13 HQ ⊢; subst hd13
       go_wp2
       exact HQ.out _ _ ((eR _).alloc _) ⟨_, rfl, reads_fresh leE [lx] W _ _ (by kernel_rfl)⟩
      intro xs W8 hW hS
      have h0 : xs 0 = .slice LsA ll.length lsc := hS 0 (by omega)
      have h14 : (read1 20 leL lx).S (xs 14) W8 := hS 14 (by omega)
      simp only [fillAt, dstOf, lc0, lcs, obs, Act.put, lsa, lsz, lss, nz, Nat.reduceAdd, List.drop_succ_cons, List.drop_zero, List.drop_nil]
      generalize xs 0 = x0 at *; subst h0
      have HW8 := lh (HX7.out.trans hW)
      have HWW8 := lh hW
      clear hS hW qE_0
      obtain ⟨bl, h14, hr14⟩ := h14
      generalize xs 14 = x14 at *
      subst h14
      have HR14 := lh hr14
      have hs8 := HWW8.out.size
      clear hr14 hfl hfl0 HSl' d1
      go_upto_region 17 with (at_builtin; refine app_reads leT leE rfl _ _ rfl (B+1+1+1+1) _ _ ll rfl (HOL7.out.ext (by (with_reducible repeat first|exact HWW8.out|exact eR _|apply eD|apply eN|apply eA|apply eO|apply eS|apply eC);all_goals first|omega|simp <;> omega)) W8.heap.size _ _ [lx] rfl HR14.out (fun h => by cases h) (by simp; omega) (by simp; omega) (by omega) ?_; intro LA5 lc5 ll5 w5 HLL HO5 hB5 hll1 hll2 hg5; have HO5' := lh HO5; have HB5 := lh hB5; have HG5 := lh hg5; clear HO5 hB5 hg5)
      refine wp_world (fun W => Ext w W ∧ OwnsCf (B+1+1+1+1) W CA4 cc4 cl4 ∧ OwnsLe (B+1+1+1+1) W LA5 lc5 ll5 ∧ OwnsGr (B+1+1+1+1) W GA gc gl ∧ RowAt W B (epC (tEp n)) ∧ RowAt W (B+1) #[.int .i64 p0, .int .i64 p1] ∧ RowAt W (B+1+1) (rpC noRp) ∧ RowAt W (B+1+1+1) (gsC (tGs n GA gc gl)) ∧ RowAt W g8 (grC (⟨(k : Int), n, til⟩ : Gr))) ⟨?_, ?_, HO5'.out, ?_, ?_, ?_, ?_, ?_, ?_⟩ ?_
      ·exact (show Ext w _ from HW8.out).grown HB5.out (by omega)
      ·exact Owns.apart (HOC7.out.ext (by (with_reducible repeat first|exact HWW8.out|exact eR _|apply eD|apply eN|apply eA|apply eO|apply eS|apply eC);all_goals first|omega|simp <;> omega)) (HOL7.out.ext (by (with_reducible repeat first|exact HWW8.out|exact eR _|apply eD|apply eN|apply eA|apply eO|apply eS|apply eC);all_goals first|omega|simp <;> omega)) (by decide) HG5.out
      ·exact Owns.apart (HOG7.out.ext (by (with_reducible repeat first|exact HWW8.out|exact eR _|apply eD|apply eN|apply eA|apply eO|apply eS|apply eC);all_goals first|omega|simp <;> omega)) (HOL7.out.ext (by (with_reducible repeat first|exact HWW8.out|exact eR _|apply eD|apply eN|apply eA|apply eO|apply eS|apply eC);all_goals first|omega|simp <;> omega)) (by decide) HG5.out
      ·exact RowAt.below (HRE7.out.ext (by (with_reducible repeat first|exact HWW8.out|exact eR _|apply eD|apply eN|apply eA|apply eO|apply eS|apply eC);all_goals first|omega|simp <;> omega)) HB5.out (by omega)
      ·exact RowAt.below (HRP7.out.ext (by (with_reducible repeat first|exact HWW8.out|exact eR _|apply eD|apply eN|apply eA|apply eO|apply eS|apply eC);all_goals first|omega|simp <;> omega)) HB5.out (by omega)
      ·exact RowAt.below (HRR7.out.ext (by (with_reducible repeat first|exact HWW8.out|exact eR _|apply eD|apply eN|apply eA|apply eO|apply eS|apply eC);all_goals first|omega|simp <;> omega)) HB5.out (by omega)
      ·exact RowAt.below (HRG7.out.ext (by (with_reducible repeat first|exact HWW8.out|exact eR _|apply eD|apply eN|apply eA|apply eO|apply eS|apply eC);all_goals first|omega|simp <;> omega)) HB5.out (by omega)
      ·exact RowAt.grown (HU8.out.ext (by (with_reducible repeat first|exact HWW8.out|exact eR _|apply eD|apply eN|apply eA|apply eO|apply eS|apply eC);all_goals first|omega|simp <;> omega)) HG5.out (fun e => by have := own_lt HLt8.out _ e; omega)
      rintro W9 ⟨x9, o1, o2, o3, r1, r2, r3, r4, u8⟩
      have hl8 := u8.lt
      have HX9 := lh x9
      have hs9 := x9.size
      have hll9 : ll5.length ≤ k + 1 := by simp only [List.length_singleton] at hll1 hll2; omega
      have HL9 : Hid (ll5 = les n l (k + 1)) := lh (by rw [HLL.out, HLl.out, HLy1.out])
      have HOC9 := lh o1
      have HOL9 := lh o2
      have HOG9 := lh o3
      have HRE9 := lh r1
      have HRP9 := lh r2
      have HRR9 := lh r3
      have HRG9 := lh r4
      have kX : rowOf W9 g8 0 3 = some (grC (⟨(k : Int), n, til⟩ : Gr)) := u8.all rfl (by omega)
      clear x9 o1 o2 o3 r1 r2 r3 r4 u8 HLL HLl HLy1 HW8 HWW8 HR14 HO5' HB5 HG5 HOC7 HOL7 HOG7 HRE7 HRP7 HRR7 HRG7 HU8 HX7 c2
      have qG_2 : W9.cell? ⟨B+1+1+1, 2, none⟩ = some (.slice GA gl.length gc) := (HRG9.out.cell 2).trans (gs_q2 n GA gc gl)
      have hlG9 := HRG9.out.lt
      go_wp2_with (at_builtin; refine app_from grT grE rfl _ _ rfl (B+1+1+1+1) _ _ gl rfl (HOG9.out.ext (by (with_reducible repeat first|exact eR _|apply eD|apply eN|apply eA|apply eO|apply eS|apply eC);all_goals first|omega|simp <;> omega)) _ 1 _ [(⟨(k : Int), n, til⟩ : Gr)] rfl rfl (new_listAt rfl [(⟨(k : Int), n, til⟩ : Gr)] _ _ (by kernel_rfl)) (by omega) (by omega) (by simp; omega) ?_; intro GA6 gc6 gl6 w6 HGL HO6 hB6 hgl1 hgl2 hg6; have HO6' := lh HO6; have HB6 := lh hB6; have HG6 := lh hg6; have HRG6 := lh (RowAt.below (HRG9.out.ext (by (with_reducible repeat first|exact eR _|apply eD|apply eN|apply eA|apply eO|apply eS|apply eC);all_goals first|omega|simp <;> omega)) hB6 (by omega)); have q6 := (HRG6.out.cell 2).trans (gs_q2 n GA gc gl); have f6 := HRG6.out.free 2; have l6 := HRG6.out.lt; clear HO6 hB6 hg6)
      go_roundw
      case rel =>
       refine ⟨CA4, cc4, cl4, LA5, lc5, ll5, GA6, gc6, gl6, k + 1, rfl, rfl, by go_num, by omega, by omega, by omega, by omega, HC1, HL9, lh (by rw [HGL.out, HGl.out, HG1.out]), lh (Owns.other ?_ (by show B+1+1+1 < _; omega) _), lh (Owns.other ?_ (by show B+1+1+1 < _; omega) _), lh (Owns.other HO6'.out (by show B+1+1+1 < _; omega) _), lh (RowAt.other ?_ (by show B ≠ B+1+1+1; omega) _), lh (RowAt.other ?_ (by show B+1 ≠ B+1+1+1; omega) _), lh (RowAt.other ?_ (by show B+1+1 ≠ B+1+1+1; omega) _), lh ?_, lh ?_⟩
       ·exact Owns.apart (HOC9.out.ext (by (with_reducible repeat first|exact eR _|apply eD|apply eN|apply eA|apply eO|apply eS|apply eC);all_goals first|omega|simp <;> omega)) (HOG9.out.ext (by (with_reducible repeat first|exact eR _|apply eD|apply eN|apply eA|apply eO|apply eS|apply eC);all_goals first|omega|simp <;> omega)) (by decide) HG6.out
       ·exact Owns.apart (HOL9.out.ext (by (with_reducible repeat first|exact eR _|apply eD|apply eN|apply eA|apply eO|apply eS|apply eC);all_goals first|omega|simp <;> omega)) (HOG9.out.ext (by (with_reducible repeat first|exact eR _|apply eD|apply eN|apply eA|apply eO|apply eS|apply eC);all_goals first|omega|simp <;> omega)) (by decide) HG6.out
       ·exact RowAt.below (HRE9.out.ext (by (with_reducible repeat first|exact eR _|apply eD|apply eN|apply eA|apply eO|apply eS|apply eC);all_goals first|omega|simp <;> omega)) HB6.out (by omega)
       ·exact RowAt.below (HRP9.out.ext (by (with_reducible repeat first|exact eR _|apply eD|apply eN|apply eA|apply eO|apply eS|apply eC);all_goals first|omega|simp <;> omega)) HB6.out (by omega)
       ·exact RowAt.below (HRR9.out.ext (by (with_reducible repeat first|exact eR _|apply eD|apply eN|apply eA|apply eO|apply eS|apply eC);all_goals first|omega|simp <;> omega)) HB6.out (by omega)
       ·have hst := HRG6.out.set 2 (.slice GA6 gl6.length gc6)
        rw [gs_set2] at hst
        exact hst
       ·exact Ext.setCell ((show Ext w _ from (by (with_reducible repeat first|exact HX9.out|exact eR _|apply eD|apply eN|apply eA|apply eO|apply eS|apply eC);all_goals first|omega|simp <;> omega)).grown HB6.out (by omega)) (by show _ ≤ B+1+1+1; omega) _
      case measure => simp [intOf]; omega
     ·have HL9 := lh (HLl.out.trans (HLn.out (by simp; omega)).symm)
      have d1 : decide ((0 : Int) < til) = false := by simpa using hu
      clear HLn HLy hu HSl' HLl
      go_upto_region 17 with (fail)
      have HX9 := HX7
      have hs9 := hs7
      have hll9 : ll.length ≤ k + 1 := by omega
      have HOC9 := HOC7
      have HOL9 := HOL7
      have HOG9 := HOG7
      have HRE9 := HRE7
      have HRP9 := HRP7
      have HRR9 := HRR7
      have HRG9 := HRG7
      have kX : rowOf W7 g8 0 3 = some (grC (⟨(k : Int), n, til⟩ : Gr)) := HU8.out.all rfl (by omega)
      clear HOC7 HOL7 HOG7 HRE7 HRP7 HRR7 HRG7 HU8 HX7 c2 d1
      have qG_2 : W7.cell? ⟨B+1+1+1, 2, none⟩ = some (.slice GA gl.length gc) := (HRG9.out.cell 2).trans (gs_q2 n GA gc gl)
      have hlG9 := HRG9.out.lt
      go_wp2_with (at_builtin; refine app_from grT grE rfl _ _ rfl (B+1+1+1+1) _ _ gl rfl (HOG9.out.ext (by (with_reducible repeat first|exact eR _|apply eD|apply eN|apply eA|apply eO|apply eS|apply eC);all_goals first|omega|simp <;> omega)) _ 1 _ [(⟨(k : Int), n, til⟩ : Gr)] rfl rfl (new_listAt rfl [(⟨(k : Int), n, til⟩ : Gr)] _ _ (by kernel_rfl)) (by omega) (by omega) (by simp; omega) ?_; intro GA6 gc6 gl6 w6 HGL HO6 hB6 hgl1 hgl2 hg6; have HO6' := lh HO6; have HB6 := lh hB6; have HG6 := lh hg6; have HRG6 := lh (RowAt.below (HRG9.out.ext (by (with_reducible repeat first|exact eR _|apply eD|apply eN|apply eA|apply eO|apply eS|apply eC);all_goals first|omega|simp <;> omega)) hB6 (by omega)); have q6 := (HRG6.out.cell 2).trans (gs_q2 n GA gc gl); have f6 := HRG6.out.free 2; have l6 := HRG6.out.lt; clear HO6 hB6 hg6)
      go_roundw
      case rel =>
       refine ⟨CA4, cc4, cl4, LsA, lsc, ll, GA6, gc6, gl6, k + 1, rfl, rfl, by go_num, by omega, by omega, by omega, by omega, HC1, HL9, lh (by rw [HGL.out, HGl.out, HG1.out]), lh (Owns.other ?_ (by show B+1+1+1 < _; omega) _), lh (Owns.other ?_ (by show B+1+1+1 < _; omega) _), lh (Owns.other HO6'.out (by show B+1+1+1 < _; omega) _), lh (RowAt.other ?_ (by show B ≠ B+1+1+1; omega) _), lh (RowAt.other ?_ (by show B+1 ≠ B+1+1+1; omega) _), lh (RowAt.other ?_ (by show B+1+1 ≠ B+1+1+1; omega) _), lh ?_, lh ?_⟩
       ·exact Owns.apart (HOC9.out.ext (by (with_reducible repeat first|exact eR _|apply eD|apply eN|apply eA|apply eO|apply eS|apply eC);all_goals first|omega|simp <;> omega)) (HOG9.out.ext (by (with_reducible repeat first|exact eR _|apply eD|apply eN|apply eA|apply eO|apply eS|apply eC);all_goals first|omega|simp <;> omega)) (by decide) HG6.out
       ·exact Owns.apart (HOL9.out.ext (by (with_reducible repeat first|exact eR _|apply eD|apply eN|apply eA|apply eO|apply eS|apply eC);all_goals first|omega|simp <;> omega)) (HOG9.out.ext (by (with_reducible repeat first|exact eR _|apply eD|apply eN|apply eA|apply eO|apply eS|apply eC);all_goals first|omega|simp <;> omega)) (by decide) HG6.out
       ·exact RowAt.below (HRE9.out.ext (by (with_reducible repeat first|exact eR _|apply eD|apply eN|apply eA|apply eO|apply eS|apply eC);all_goals first|omega|simp <;> omega)) HB6.out (by omega)
       ·exact RowAt.below (HRP9.out.ext (by (with_reducible repeat first|exact eR _|apply eD|apply eN|apply eA|apply eO|apply eS|apply eC);all_goals first|omega|simp <;> omega)) HB6.out (by omega)
       ·exact RowAt.below (HRR9.out.ext (by (with_reducible repeat first|exact eR _|apply eD|apply eN|apply eA|apply eO|apply eS|apply eC);all_goals first|omega|simp <;> omega)) HB6.out (by omega)
       ·have hst := HRG6.out.set 2 (.slice GA6 gl6.length gc6)
        rw [gs_set2] at hst
        exact hst
       ·exact Ext.setCell ((show Ext w _ from (by (with_reducible repeat first|exact HX9.out|exact eR _|apply eD|apply eN|apply eA|apply eO|apply eS|apply eC);all_goals first|omega|simp <;> omega)).grown HB6.out (by omega)) (by show _ ≤ B+1+1+1; omega) _
      case measure => simp [intOf]; omega
  ·have e1 : k = l.length := by omega
   subst e1
   have HMk' := lh (fun W hx r1 r2 r3 => HMk.out GA gc CA cc LsA lsc gl cl ll W HGl HCl HLl hx r1 r2 r3)
   have HRG1 := HRG
   have kG : rowOf wr (B+1+1+1) 0 3 = some (gsC (tGs n GA gc gl)) := HRG.out.all rfl (by omega)
   clear HMk HGl HCl HLl HD HLo HHi HSl HCf qE_0
   go_upto_region 18 with (fail)
   refine wp_region_softR 7 (softsL [.eq (.agg (kyC (theKey 1))), .eq (.agg (gsC (tGs n GA gc gl))), .eq (.agg (epC (tEp n))), .eq (.slice CA cl.length cc), .eq (.slice LsA ll.length lsc), .eq (.agg #[.int .i64 p0, .int .i64 p1]), toldS wr.heap.size (tEp n) ⟨p0, p1⟩ l]) (by kernel_rfl) (by kernel_rfl) (lt_cons ?_ (lt_cons ?_ (lt_cons ?_ (lt_cons ?_ (lt_cons ?_ (lt_cons ?_ (lt_cons ?_ lt_none))))))) ?_
   ·
    refine sop rfl fun xs W HW hsW HD Q' HQ => ?_; simp only [fillAt, dstOf, lc0, lcs, obs, Act.put, lsa, lsz, lss, nz, Nat.reduceAdd] at HQ ⊢
    go_wp2_with (go_at_call 32; refine (HKy.out 1 _).mono ?_; rintro e w1 ⟨rfl, hx⟩)
    exact HQ.out _ _ hx rfl
   ·
    refine sop rfl fun xs W HW hsW HD Q' HQ => ?_; simp only [fillAt, dstOf, lc0, lcs, obs, Act.put, lsa, lsz, lss, nz, Nat.reduceAdd] at HQ ⊢
    have hc := (row_extW HW.out (b := B+1+1+1) (by omega) 0 3).trans kG
    go_wp2
    exact HQ.out _ _ (eR _) rfl
   ·
    refine sop rfl fun xs W HW hsW HD Q' HQ => ?_; simp only [fillAt, dstOf, lc0, lcs, obs, Act.put, lsa, lsz, lss, nz, Nat.reduceAdd] at HQ ⊢
    have hc := (row_extW HW.out (b := B) (by omega) 0 38).trans kE
    go_wp2
    exact HQ.out _ _ (eR _) rfl
   ·
    refine sop rfl fun xs W HW hsW HD Q' HQ => ?_; simp only [fillAt, dstOf, lc0, lcs, obs, Act.put, lsa, lsz, lss, nz, Nat.reduceAdd] at HQ ⊢
    go_wp2
    exact HQ.out _ _ (eR _) rfl
   ·
    refine sop rfl fun xs W HW hsW HD Q' HQ => ?_; simp only [fillAt, dstOf, lc0, lcs, obs, Act.put, lsa, lsz, lss, nz, Nat.reduceAdd] at HQ ⊢
    go_wp2
    exact HQ.out _ _ (eR _) rfl
   ·
    refine sop rfl fun xs W HW hsW HD Q' HQ => ?_; simp only [fillAt, dstOf, lc0, lcs, obs, Act.put, lsa, lsz, lss, nz, Nat.reduceAdd] at HQ ⊢
    have hc := (HW.out.cell (p := ⟨B+1, 0, none⟩) (by show B+1 < _; omega)).trans qP_0
    have hc2 := (HW.out.cell (p := ⟨B+1, 1, none⟩) (by show B+1 < _; omega)).trans qP_1
    go_wp2
    exact HQ.out _ _ (eR _) rfl
   ·
    refine sop rfl fun xs W HW hsW HD Q' HQ => ?_; simp only [fillAt, dstOf, lc0, lcs, obs, Act.put, lsa, lsz, lss, nz, Nat.reduceAdd] at HQ ⊢
    have hd0 : xs 0 = .agg (kyC (theKey 1)) := (HD.out 0 (dk (by kernel_rfl)))
    generalize xs 0 = x0 at hd0 HQ ⊢; subst hd0
    have hd1 : xs 1 = .agg (gsC (tGs n GA gc gl)) := (HD.out 1 (dk (by kernel_rfl)))
    generalize xs 1 = x1 at hd1 HQ ⊢; subst hd1
    have hd2 : xs 2 = .agg (epC (tEp n)) := (HD.out 2 (dk (by kernel_rfl)))
    generalize xs 2 = x2 at hd2 HQ ⊢; subst hd2
    have hd3 : xs 3 = .slice CA cl.length cc := (HD.out 3 (dk (by kernel_rfl)))
    generalize xs 3 = x3 at hd3 HQ ⊢; subst hd3
    have hd4 : xs 4 = .slice LsA ll.length lsc := (HD.out 4 (dk (by kernel_rfl)))
    generalize xs 4 = x4 at hd4 HQ ⊢; subst hd4
    have hd5 : xs 5 = .agg #[.int .i64 p0, .int .i64 p1] := (HD.out 5 (dk (by kernel_rfl)))
    generalize xs 5 = x5 at hd5 HQ ⊢; subst hd5
    go_wp2_with (go_at_call 22; refine (HMk'.out _ (HX.out.trans HW.out) ((HOG.out.ext HW.out).reads grE) ((HOC.out.ext HW.out).reads cfE) ((HOL.out.ext HW.out).reads leE)).mono ?_; rintro e w1 ⟨⟨LA, lc, rfl, ho⟩, hx⟩)
    exact HQ.out _ _ hx ⟨LA, lc, rfl, ho.lower hsW⟩
   intro xs W8 hW hS
   obtain ⟨LA, lc, h6, ho6⟩ : (toldS wr.heap.size (tEp n) ⟨p0, p1⟩ l).S (xs 6) W8 := hS 6 (by omega)
   simp only [fillAt, dstOf, lc0, lcs, obs, Act.put, lsa, lsz, lss, nz, Nat.reduceAdd]
   generalize xs 6 = y6 at h6 ⊢
   subst h6
   have HX8 := lh hW
   have HO6 := lh ho6
   have hs8 := hW.size
   have room : roomOf W8 (B+1+1) 0 37 = true := by rw [(HRR.out.ext hW).room]; rfl
   have hfT := hfR LA lc
   clear hW hS ho6 kG kE qP_0 qP_1 HMk' hfR
   refine wpAny_putTail4 rp_ty (i1 := 7) (i2 := 8) (i3 := 9) (i4 := 10) (v4 := .int .i64 0) rfl rfl rfl rfl (by kernel_rfl) (by kernel_rfl) (by kernel_rfl) (by kernel_rfl) (by kernel_rfl) (by kernel_rfl) (by kernel_rfl) (by kernel_rfl) (by kernel_rfl) (fun _ _ _ _ _ h => h) rfl rfl (fun _ => run_assign _ _ rfl) rfl rfl room hfT ?_
   simp only [fillAt, dstOf, lc0, lcs, obs, Act.put, lsa, lsz, lss, nz, Nat.reduceAdd]
   go_wp2
   refine post_two (v1 := .agg (rpC (tR (tEp n) ⟨p0, p1⟩ l LA lc))) (v2 := .int .i64 0) Tryz.results27 rfl ⟨_, rfl, rp_loaded (((HRR.out.ext HX8.out).store (ds := rpC (tR (tEp n) ⟨p0, p1⟩ l LA lc)) rfl).all rfl (by omega))⟩ rfl ⟨⟨LA, lc, rfl, ?_⟩, Ext.setCells (HX.out.trans HX8.out) (by omega) _ _⟩
   exact (HO6.out.others (by omega) _ _).lower (by omega)
theorem tLn_ok {n : Int} {p : Clk} {l : List Dd} {i : Nat} (h : DdsOk l) (h0 : 1 ≤ n) (h1 : n ≤ 65536) (hn : okClk p = true) (hi : i < 10) : LnOk (tLn (tEp n) p l i) := by
 unfold tLn
 split
 ·refine ⟨tCf_ok h0 h1 hn hi, noLe_ok, ?_⟩
  intro y hy
  simp only [List.mem_cons, List.not_mem_nil, or_false] at hy
  unfold i64
  rcases hy with rfl | rfl <;> omega
 ·refine ⟨noCf_ok, ?_, ?_⟩
  ·show LeOk (if 0 < (ddAt l i).until_ then tLe n l i else noLe)
   split
   ·exact tLe_ok h h0 h1 hi
   ·exact noLe_ok
  ·intro y hy
   simp only [List.mem_cons, List.not_mem_nil, or_false] at hy
   unfold i64
   rcases hy with rfl | rfl
   ·omega
   ·split <;> omega
theorem tR_ok {n : Int} {p : Clk} {l : List Dd} (h : DdsOk l) (h0 : 1 ≤ n) (h1 : n ≤ 65536) (hn : okClk p = true) (LA : Option Addr) (lc : Nat) : RpOk (tR (tEp n) p l LA lc) := by
 have hl := okClk_lims hn
 refine ⟨⟨epName_len _, epName_byt _⟩, ⟨makeN_len _ _ _, makeN_byt _ _ _⟩, ?_, ?_⟩
 ·intro x hx
  obtain ⟨i, hi, rfl⟩ := List.mem_map.1 hx
  exact tLn_ok h h0 h1 hn (by have := (mem_idx.1 hi).1; have := h.len; omega)
 ·intro y hy
  change y ∈ [n, p.lo, p.hi, (1 : Int)] at hy
  simp only [List.mem_cons, List.not_mem_nil, or_false] at hy
  unfold i64
  rcases hy with rfl | rfl | rfl | rfl <;> omega
theorem tLns_len (e : Ep) (p : Clk) (l : List Dd) : (tLns e p l).length ≤ l.length := by simpa [tLns] using idx_len l l.length
theorem ddsOk_of {l : List Dd} (h10 : l.length ≤ 10) (h : ∀ s ∈ l, 0 ≤ s.until_ ∧ s.until_ ≤ 65535) : DdsOk l := by
 have h2 : ∀ i, 0 ≤ (ddAt l i).until_ ∧ (ddAt l i).until_ ≤ 65535 := fun i => by
  by_cases hi : i < l.length
  ·rw [ddAt_get hi]; exact h _ (List.getElem_mem hi)
  ·unfold ddAt
   rw [List.getD_eq_getElem?_getD, List.getElem?_eq_none (by omega)]
   show 0 ≤ (0 : Int) ∧ (0 : Int) ≤ 65535
   omega
 exact ⟨h10, fun i => (h2 i).1, fun i => (h2 i).2⟩
theorem anyR_snoc (f : Nat → Bool) (k : Nat) : (List.range (k + 1)).any f = ((List.range k).any f || f k) := by rw [List.range_succ, List.any_append]; simp
theorem ln_le_cells {w : World} {b o : Nat} {x : Ln} (h : ∀ j v, (lnL x)[j]? = some v → w.cell? ⟨b, o + j, none⟩ = some v) : rowOf w b (o + 39) 20 = some (leC x.le) := by
 refine rowOf_some (le_size _) fun i hi => ?_
 have e : (lnL x)[39 + i]? = (leL x.le)[i]? := by
  unfold lnL
  rw [List.getElem?_append_right (by show 39 ≤ 39 + i; omega)]
  congr 1
  show 39 + i - 39 = i
  omega
 have hi' : i < (leL x.le).length := hi
 have e2 : (leC x.le)[i]? = (leL x.le)[i]? := by unfold leC; simp
 rw [e2, List.getElem?_eq_getElem hi']
 rw [Nat.add_assoc]
 exact h (39 + i) _ (by rw [e, List.getElem?_eq_getElem hi'])
theorem made_ok (n : Int) (DA : Option Addr) (dc : Nat) (l : List Dd) (lo wd : Int) (w : World) (hn : 0 ≤ n ∧ n ≤ 65535) (hdl : l.length ≤ 9223372036854775807) (hd : Reads 3 ddL w w.heap.size DA l) (hdi : ∀ s ∈ l, 0 ≤ s.until_ ∧ s.until_ ≤ 65535) (hlo : 0 ≤ lo ∧ lo ≤ 65535) (hwd : 0 ≤ wd ∧ wd ≤ 255) (hk : KonstP w) (hr : RKonst w) :
  Calls Tryz.prog 6 #[.int .u16 n, .slice DA l.length dc, .int .u16 lo, .int .u8 wd] w fun o w' => o = .returned (.bool true) ∧ Ext w w' := by
 have HS := lh (fun (W : World) (hx : Ext w W) => lsanity_any W (RowAt.ext hk hx) (RowAt.ext hr hx))
 obtain ⟨n0, n1⟩ := hn
 obtain ⟨l0, l1⟩ := hlo
 obtain ⟨w0, w1⟩ := hwd
 by_cases h10 : l.length ≤ 10
 ·have hok := ddsOk_of h10 hdi
  have hclk : okClk ⟨lo, lo + wd⟩ = true := by simp only [okClk, Bool.and_eq_true, decide_eq_true_eq]; omega
  have HT := lh (fun (W : World) (hx : Ext w W) => told_any (1 + n) DA dc l ⟨lo, lo + wd⟩ W hok (hd.on hx) (by omega) (by omega) hclk (RowAt.ext hk hx) (RowAt.ext hr hx))
  have HRO := lh (tR_ok hok (n := 1 + n) (by omega) (by omega) hclk)
  have HCk := lh (check_t (n := 1 + n) hok hclk (by show lo + wd < _; omega))
  have HCl := lh (closed_t (n := 1 + n) (now := ⟨lo, lo + wd⟩) (l := l))
  have HRf := lh (refutes_t (n := 1 + n) (l := l) hclk)
  have HEo := lh (tEp_ok (n := 1 + n) (by omega) (by omega))
  have HKs := lh (fun (W : World) => lkeys_is W)
  have HD := lh hd
  have HLo := lh hok.lo
  have HHi := lh hok.hi
  have hdd : decide ((10 : Int) < l.length) = false := by simp; omega
  have hfe := ep_fits (tEp (1 + n))
  have hfR := fun A c => rp_fits (tR (tEp (1 + n)) ⟨lo, lo + wd⟩ l A c)
  have hep : (⟨1 + n, zeros32 16, 1, 2, none, 0, [], none, 0, [], 0, zeros32 16⟩ : Ep) = tEp (1 + n) := rfl
  have hlen := tLns_len (tEp (1 + n)) ⟨lo, lo + wd⟩ l
  clear hok hd hdi hclk
  go_enter Tryz.func6, Tryz.ntmps6
  go_upto_region 5 with (fail)
  refine wp_world (fun W => Ext w W ∧ RowAt W w.heap.size (epC (tEp (1 + n))) ∧ RowAt W (w.heap.size + 1) #[.int .i64 lo, .int .i64 (lo + wd)]) ⟨(by (with_reducible repeat first|exact eR _|apply eD|apply eN|apply eA|apply eO|apply eS|apply eC);all_goals first|omega|simp <;> omega), ?_, ?_⟩ ?_
  ·exact (by (repeat (first | with_reducible exact rfl | with_reducible refine RowAt.drew ?_ | with_reducible refine RowAt.later ?_ _ | with_reducible exact RowAt.newAt (by first | rfl | omega | (simp [later_size, setCells_size]; done) | (simp [later_size, setCells_size]; omega)) | with_reducible refine RowAt.alloc ?_ _ | with_reducible refine RowAt.store (cs := epC noEp) ?_ ?_ | with_reducible refine RowAt.others ?_ ?_ _ _ | with_reducible refine RowAt.other ?_ ?_ _)); all_goals first | omega | (simp; done) | (simp; omega) | (simp [go_sem]; done))
  ·exact (by (repeat (first | with_reducible exact rfl | with_reducible refine RowAt.drew ?_ | with_reducible refine RowAt.later ?_ _ | with_reducible exact RowAt.newAt (by first | rfl | omega | (simp [later_size, setCells_size]; done) | (simp [later_size, setCells_size]; omega)) | with_reducible refine RowAt.alloc ?_ _ | with_reducible refine RowAt.store (cs := #[.int .i64 0, .int .i64 0]) ?_ ?_ | with_reducible refine RowAt.others ?_ ?_ _ _ | with_reducible refine RowAt.other ?_ ?_ _)); all_goals first | omega | (simp; done) | (simp; omega) | (simp [go_sem]; done))
  obtain ⟨B, hB⟩ : ∃ B, w.heap.size = B := ⟨_, rfl⟩
  rw [hB]
  rintro W1 ⟨x1, uE, uP⟩
  have HX1 := lh x1
  have HUE := lh uE
  have HUP := lh uP
  have hlP := uP.lt
  have kE : rowOf W1 B 0 38 = some (epC (tEp (1 + n))) := uE.all rfl (by omega)
  have qP_0 : W1.cell? ⟨B+1, 0, none⟩ = some (.int .i64 lo) := uP.cell 0
  have qP_1 : W1.cell? ⟨B+1, 1, none⟩ = some (.int .i64 (lo + wd)) := uP.cell 1
  clear x1 uE uP hdd
  go_upto_region 8 with (go_at_call 27; refine (HT.out _ HX1.out).mono ?_; rintro r w' ⟨⟨LA, lc, rfl, ho⟩, hxl⟩; have HO1 := lh ho; clear ho; obtain ⟨xk, rfl⟩ := hxl.asLater; clear hxl)
  refine wp_world (fun W => Ext W1 W ∧ RowAt W (W1.heap.size + xk.n) (rpC (tR (tEp (1 + n)) ⟨lo, lo + wd⟩ l LA lc)) ∧ Reads 59 lnL W W.heap.size LA (tLns (tEp (1 + n)) ⟨lo, lo + wd⟩ l)) ⟨(by (with_reducible repeat first|exact eR _|apply eD|apply eN|apply eA|apply eO|apply eS|apply eC);all_goals first|omega|simp <;> omega), RowAt.store (RowAt.newAt (later_size _ _).symm) rfl, ?_⟩ ?_
  ·have h := HO1.out.reads lnE
   exact h.on (Ext.setCells (Ext.alloc (eR _) _) (Nat.le_of_eq (later_size _ _)) _ _)
  obtain ⟨g, hg⟩ : ∃ g, W1.heap.size + xk.n = g := ⟨_, rfl⟩
  rw [hg]
  rintro W2 ⟨x2, u11, rd⟩
  have HX2 := lh (HX1.out.trans x2)
  have HXX2 := lh x2
  have HU11 := lh u11
  have HRD := lh rd
  have hl11 := u11.lt
  have hs12 := x2.size
  have kE : rowOf W2 B 0 38 = some (epC (tEp (1 + n))) := (HUE.out.ext x2).all rfl (by omega)
  have kR : rowOf W2 g 0 37 = some (rpC (tR (tEp (1 + n)) ⟨lo, lo + wd⟩ l LA lc)) := u11.all rfl (by omega)
  have HRO' := lh (HRO.out LA lc)
  have HCk' := lh (HCk.out LA lc)
  have HCl' := lh (HCl.out LA lc)
  have HRf' := lh (HRf.out LA lc)
  have HLs : Hid ((tR (tEp (1 + n)) ⟨lo, lo + wd⟩ l LA lc).LA = LA ∧ (tR (tEp (1 + n)) ⟨lo, lo + wd⟩ l LA lc).lc = lc ∧ (tR (tEp (1 + n)) ⟨lo, lo + wd⟩ l LA lc).lines = tLns (tEp (1 + n)) ⟨lo, lo + wd⟩ l) := lh ⟨rfl, rfl, rfl⟩
  have HG19 : Hid ((rpC (tR (tEp (1 + n)) ⟨lo, lo + wd⟩ l LA lc))[19]? = some (.slice LA (tLns (tEp (1 + n)) ⟨lo, lo + wd⟩ l).length lc)) := lh (rp_g19 _)
  have hfR' := hfR LA lc
  clear x2 u11 rd hg HO1 HT HRO HCk HCl HRf hfR qP_0 qP_1
  generalize tR (tEp (1 + n)) ⟨lo, lo + wd⟩ l LA lc = R at *
  generalize tLns (tEp (1 + n)) ⟨lo, lo + wd⟩ l = L at *
  have HCk2 : Hid (∀ (A : Option Addr) (c : Nat) (W : World), Ext W2 W → ReadsKy W W.heap.size A theKeys → Calls Tryz.prog 28 #[.slice A theKeys.length c, .agg (epC (tEp (1 + n))), .agg (rpC R)] W fun e w' => e = .returned (.tuple #[.int .i64 (-1), .int .i64 0]) ∧ Ext W w') := lh (fun A c W hx h => by
   have h := acheck_any A c theKeys (tEp (1 + n)) R W ring_ok h HEo.out (tEp_short _) (tEp_at _ W) HRO'.out (by rw [HLs.out.2.2]; omega) (by rw [HLs.out.1, HLs.out.2.2]; exact HRD.out.on hx) (RowAt.ext hk (HX2.out.trans hx))
   rw [HCk'.out] at h
   exact h)
  have HClW : Hid (∀ W : World, Ext W2 W → Calls Tryz.prog 25 #[.agg (rpC R)] W fun e w' => e = .returned (.bool (!((List.range l.length).any (openD ⟨lo, lo + wd⟩ l)))) ∧ Ext W w') := lh (fun W hx => by
   have h := aclosed_any R W (by rw [HLs.out.2.2]; omega) (by rw [HLs.out.1, HLs.out.2.2]; exact HRD.out.on hx)
   rw [HCl'.out] at h
   exact h)
  have HRfW : Hid (∀ (x : Ln), x ∈ L → LnOk x → ∀ (A : Option Addr) (c : Nat) (W : World), Ext W2 W → ReadsKy W W.heap.size A theKeys → Calls Tryz.prog 30 #[.slice A theKeys.length c, .agg (epC (tEp (1 + n))), .agg (rpC R), .agg (leC x.le)] W fun e w' => e = .returned (.bool false) ∧ Ext W w') := lh (fun x hm hox A c W hx h => by
   have h := arefutes_any A c theKeys (tEp (1 + n)) R x.le W ring_ok h (by rw [HLs.out.2.2]; omega) (by rw [HLs.out.1, HLs.out.2.2]; exact HRD.out.on hx) hox.le (RowAt.ext hk (HX2.out.trans hx))
   rw [HRf'.out x hm] at h
   exact h)
  have HLok : Hid (∀ x ∈ L, LnOk x) := lh (fun x hx => HRO'.out.lines x (by rw [HLs.out.2.2]; exact hx))
  clear HRO' HCk' HCl' HRf' HEo HLs
  refine wp_region_soft 8 (softsL [readKs theKeys, .eq (.agg (epC (tEp (1 + n)))), .eq (.agg (rpC R)), .eq (.tuple #[.int .i64 (-1), .int .i64 0]), .eq (.tuple #[.int .i64 (-1), .int .i64 0]), .eq (.int .i64 (-1)), .eq (.int .i64 0), .eq (.int .i64 (-1))]) (by kernel_rfl) (by kernel_rfl) (lt_cons ?_ (lt_cons ?_ (lt_cons ?_ (lt_cons ?_ (lt_cons ?_ (lt_cons ?_ (lt_cons ?_ (lt_cons ?_ (lt_none))))))))) ?_
  any_goals (refine sop rfl fun xs W HW hsW HD Q' HQ => ?_; simp only [fillAt, dstOf, lc0, lcs, obs, Act.put, lsa, lsz, lss, nz, Nat.reduceAdd] at HQ ⊢)
  ·
   go_wp2_with (go_at_call 29; refine (HKs.out _).mono ?_; rintro e w1 ⟨⟨A, c, rfl, h1⟩, hx⟩)
   exact HQ.out _ _ hx ⟨A, c, rfl, h1⟩
  ·
   have hc := (row_extW HW.out (b := B) (by omega) 0 38).trans kE
   go_wp2
   exact HQ.out _ _ (eR _) rfl
  ·
   have hc := (row_extW HW.out (b := g) (by omega) 0 37).trans kR
   go_wp2
   exact HQ.out _ _ (eR _) rfl
  ·
   have hs0 : (readKs theKeys).S (xs 0) W := (HD.out 0 (dk (by kernel_rfl)))
   have hd1 : xs 1 = .agg (epC (tEp (1 + n))) := (HD.out 1 (dk (by kernel_rfl)))
   generalize xs 1 = x1 at hd1 HQ ⊢; subst hd1
   have hd2 : xs 2 = .agg (rpC R) := (HD.out 2 (dk (by kernel_rfl)))
   generalize xs 2 = x2 at hd2 HQ ⊢; subst hd2
   obtain ⟨A0, c0, h0, hr0⟩ := hs0
   generalize xs 0 = x0 at h0 HQ ⊢; subst h0
   go_wp2_with (go_at_call 28; refine (HCk2.out A0 c0 _ HW.out hr0).mono ?_; rintro e w1 ⟨rfl, hx⟩)
   exact HQ.out _ _ hx rfl
  ·
   have hd3 : xs 3 = .tuple #[.int .i64 (-1), .int .i64 0] := (HD.out 3 (dk (by kernel_rfl)))
   generalize xs 3 = x3 at hd3 HQ ⊢; subst hd3
   go_wp2
   exact HQ.out _ _ (eR _) rfl
  ·
   have hd4 : xs 4 = .tuple #[.int .i64 (-1), .int .i64 0] := (HD.out 4 (dk (by kernel_rfl)))
   generalize xs 4 = x4 at hd4 HQ ⊢; subst hd4
   go_wp2
   exact HQ.out _ _ (eR _) rfl
  ·
   have hd4 : xs 4 = .tuple #[.int .i64 (-1), .int .i64 0] := (HD.out 4 (dk (by kernel_rfl)))
   generalize xs 4 = x4 at hd4 HQ ⊢; subst hd4
   go_wp2
   exact HQ.out _ _ (eR _) rfl
  ·
   have hd5 : xs 5 = .int .i64 (-1) := (HD.out 5 (dk (by kernel_rfl)))
   generalize xs 5 = x5 at hd5 HQ ⊢; subst hd5
   go_wp2
   exact HQ.out _ _ (eR _) rfl
  intro xs W3 hW hS
  have h6 : xs 6 = .int .i64 0 := hS 6 (by omega)
  have h7 : xs 7 = .int .i64 (-1) := hS 7 (by omega)
  simp only [fillAt, dstOf, lc0, lcs, obs, Act.put, lsa, lsz, lss, nz, Nat.reduceAdd, List.drop_succ_cons, List.drop_zero, List.drop_nil]
  generalize xs 6 = x6 at *; subst h6
  generalize xs 7 = x7 at *; subst h7
  have HW3 := lh (HX2.out.trans hW)
  have HWW3 := lh hW
  clear hS hW kE kR
  go_wp2
  clear HCk2
  have hs23 := HWW3.out.size
  have HUP3 := lh (HUP.out.ext (HXX2.out.trans HWW3.out))
  go_loopw [15, 16] (fun o i wr => ∃ (k : Nat) (ob : Bool), o = .bool ob ∧ i = .int .i64 k ∧ k ≤ l.length ∧ Hid (ob = (List.range k).any (openD ⟨lo, lo + wd⟩ l)) ∧ Hid (Ext W3 wr)) (fun _ i _ => l.length - (intOf i).toNat)
  case atStart => exact ⟨0, false, rfl, rfl, Nat.zero_le _, lh rfl, lh (eR _)⟩
  case round =>
   obtain ⟨k, ob, rfl, rfl, hkl, HOb, HX⟩ := hrel
   have hsz := HX.out.size
   by_cases hlt : k < l.length
   ·obtain ⟨b, off, rfl, hb, hcel⟩ := reads_at ddE (HD.out.ext (HW3.out.trans HX.out) (Nat.le_refl _)) k hlt
    have hb2 : b < wr.heap.size := by omega
    have c0 : wr.cell? ⟨b, off + k * 3, none⟩ = some (.bool (ddAt l k).is) := by rw [ddAt_get hlt]; exact hcel.2 0 _ rfl
    have c1 : wr.cell? ⟨b, off + k * 3 + 1, none⟩ = some (.bool (ddAt l k).conf) := by rw [ddAt_get hlt]; exact hcel.2 1 _ rfl
    have c2 : wr.cell? ⟨b, off + k * 3 + 2, none⟩ = some (.int .u16 (ddAt l k).until_) := by rw [ddAt_get hlt]; exact hcel.2 2 _ rfl
    have u := HUP3.out.ext HX.out
    have qP_0 : wr.cell? ⟨B+1, 0, none⟩ = some (.int .i64 lo) := u.cell 0
    have hlu := u.lt
    have HN : Hid ((List.range (k + 1)).any (openD ⟨lo, lo + wd⟩ l) = (ob || ((ddAt l k).is && !(ddAt l k).conf && decide (lo < (ddAt l k).until_)))) := lh (by rw [anyR_snoc, ← HOb.out]; rfl)
    have u0 := HLo.out k
    have u1 := HHi.out k
    clear hcel u HOb HClW HRfW
    generalize ddAt l k = d at *
    obtain ⟨is, conf, til⟩ := d
    simp only at *
    go_upto_region 15 with (fail)
    cases is with
    | false =>
     refine wp_region_later (by kernel_rfl) (by kernel_rfl) ?_
     repeat (first | go_big_quiet_step ((fail)) | quiet_step ((fail)))
     refine wpQuiet_nil ?_
     rintro _ ⟨xq, rfl⟩
     go_wp2
     go_roundw
     case rel => exact ⟨k + 1, ob, rfl, by go_num, by omega, lh (by rw [HN.out]; simp), lh (HX.out.onto _)⟩
     case measure => simp [intOf]; omega
    | true =>
     cases conf with
     | true =>
      refine wp_region_later (by kernel_rfl) (by kernel_rfl) ?_
      repeat (first | go_big_quiet_step ((fail)) | quiet_step ((fail)))
      refine wpQuiet_nil ?_
      rintro _ ⟨xq, rfl⟩
      go_wp2
      go_roundw
      case rel => exact ⟨k + 1, ob, rfl, by go_num, by omega, lh (by rw [HN.out]; simp), lh (HX.out.onto _)⟩
      case measure => simp [intOf]; omega
     | false =>
      by_cases hu : lo < til
      ·have d1 : decide (lo < til) = true := by simpa using hu
       have HN2 : Hid ((List.range (k + 1)).any (openD ⟨lo, lo + wd⟩ l) = true) := lh (by rw [HN.out, d1]; simp)
       clear hu HN
       refine wp_region_later (by kernel_rfl) (by kernel_rfl) ?_
       repeat (first | go_big_quiet_step ((fail)) | quiet_step ((fail)))
       refine wpQuiet_nil ?_
       rintro _ ⟨xq, rfl⟩
       go_wp2
       go_roundw
       case rel => exact ⟨k + 1, true, rfl, by go_num, by omega, lh HN2.out.symm, lh (HX.out.onto _)⟩
       case measure => simp [intOf]; omega
      ·have d1 : decide (lo < til) = false := by simpa using hu
       have HN2 : Hid ((List.range (k + 1)).any (openD ⟨lo, lo + wd⟩ l) = ob) := lh (by rw [HN.out, d1]; simp)
       clear hu HN
       refine wp_region_later (by kernel_rfl) (by kernel_rfl) ?_
       repeat (first | go_big_quiet_step ((fail)) | quiet_step ((fail)))
       refine wpQuiet_nil ?_
       rintro _ ⟨xq, rfl⟩
       go_wp2
       go_roundw
       case rel => exact ⟨k + 1, ob, rfl, by go_num, by omega, lh HN2.out.symm, lh (HX.out.onto _)⟩
       case measure => simp [intOf]; omega
   ·have e1 : k = l.length := by omega
    subst e1
    have HClO : Hid (∀ W : World, Ext W2 W → Calls Tryz.prog 25 #[.agg (rpC R)] W fun e w' => e = .returned (.bool (!ob)) ∧ Ext W w') := lh (fun W hx => by rw [HOb.out]; exact HClW.out W hx)
    clear HClW HOb HUP3 HLo HHi HD
    go_wp2
    go_loopw [17] (fun i wr => ∃ j : Nat, i = .int .i64 j ∧ j ≤ L.length ∧ Hid (Ext W3 wr)) (fun i _ => L.length - (intOf i).toNat)
    case atStart => exact ⟨0, rfl, Nat.zero_le _, HX⟩
    case round =>
     obtain ⟨j, rfl, hjl, HY⟩ := hrel
     have HXY := lh (HWW3.out.trans HY.out)
     have hsy := HY.out.size
     have u11 := HU11.out.ext HXY.out
     have hl11y := u11.lt
     have q19 : wr.cell? ⟨g, 19, none⟩ = some (.slice LA L.length lc) := (u11.cell 19).trans HG19.out
     have kR : rowOf wr g 0 37 = some (rpC R) := u11.all rfl (by omega)
     clear u11
     by_cases hlj : j < L.length
     ·obtain ⟨b, off, rfl, hb, hrow, hcel⟩ := reads_at lnE (HRD.out.on HXY.out) j hlj
      have kE : rowOf wr B 0 38 = some (epC (tEp (1 + n))) := (HUE.out.ext (HXX2.out.trans HXY.out)).all rfl (by omega)
      have kLe := ln_le_cells hcel
      have HRx := lh (fun A c W hx h => HRfW.out L[j] (List.getElem_mem hlj) (HLok.out _ (List.getElem_mem hlj)) A c W hx h)
      clear hrow hcel HRfW HLok HClO
      generalize L[j] = x at *
      have hfl := le_fits x.le
      go_upto_region 20 with (fail)
      refine wp_region_soft 9 (softsL [readKs theKeys, .eq (.agg (epC (tEp (1 + n)))), .eq (.agg (rpC R)), .eq (.pointer (some ⟨g, 19, none⟩)), .eq (.slice (some ⟨b, off, none⟩) L.length lc), .eq (.int .i64 j), .eq (.pointer (some ⟨b, off + j * 59, none⟩)), .eq (.pointer (some ⟨b, off + j * 59 + 39, none⟩)), .eq (.agg (leC x.le))]) (by kernel_rfl) (by kernel_rfl) (lt_cons ?_ (lt_cons ?_ (lt_cons ?_ (lt_cons ?_ (lt_cons ?_ (lt_cons ?_ (lt_cons ?_ (lt_cons ?_ (lt_cons ?_ (lt_none)))))))))) ?_
      any_goals (refine sop rfl fun xs W HW hsW HD Q' HQ => ?_; simp only [fillAt, dstOf, lc0, lcs, obs, Act.put, lsa, lsz, lss, nz, Nat.reduceAdd] at HQ ⊢)
      ·
       go_wp2_with (go_at_call 29; refine (HKs.out _).mono ?_; rintro e w1 ⟨⟨A, c, rfl, h1⟩, hx⟩)
       exact HQ.out _ _ hx ⟨A, c, rfl, h1⟩
      ·
       have hc := (row_extW HW.out (b := B) (by omega) 0 38).trans kE
       go_wp2
       exact HQ.out _ _ (eR _) rfl
      ·
       have hc := (row_extW HW.out (b := g) (by omega) 0 37).trans kR
       go_wp2
       exact HQ.out _ _ (eR _) rfl
      ·
       go_wp2
       exact HQ.out _ _ (eR _) rfl
      ·
       have hd3 : xs 3 = .pointer (some ⟨g, 19, none⟩) := (HD.out 3 (dk (by kernel_rfl)))
       generalize xs 3 = x3 at hd3 HQ ⊢; subst hd3
       have hc : W.cell? ⟨g, 19, none⟩ = some (.slice (some ⟨b, off, none⟩) L.length lc) := (HW.out.cell (p := ⟨g, 19, none⟩) (by show g < _; omega)).trans q19
       go_wp2
       exact HQ.out _ _ (eR _) rfl
      ·
       go_wp2
       exact HQ.out _ _ (eR _) rfl
      ·
       have hd4 : xs 4 = .slice (some ⟨b, off, none⟩) L.length lc := (HD.out 4 (dk (by kernel_rfl)))
       generalize xs 4 = x4 at hd4 HQ ⊢; subst hd4
       have hd5 : xs 5 = .int .i64 j := (HD.out 5 (dk (by kernel_rfl)))
       generalize xs 5 = x5 at hd5 HQ ⊢; subst hd5
       go_wp2
       exact HQ.out _ _ (eR _) rfl
      ·
       have hd6 : xs 6 = .pointer (some ⟨b, off + j * 59, none⟩) := (HD.out 6 (dk (by kernel_rfl)))
       generalize xs 6 = x6 at hd6 HQ ⊢; subst hd6
       go_wp2
       exact HQ.out _ _ (eR _) rfl
      ·
       have hd7 : xs 7 = .pointer (some ⟨b, off + j * 59 + 39, none⟩) := (HD.out 7 (dk (by kernel_rfl)))
       generalize xs 7 = x7 at hd7 HQ ⊢; subst hd7
       have hc := (row_extW HW.out (b := b) (by omega) (off+j*59+39) 20).trans kLe
       go_wp2
       exact HQ.out _ _ (eR _) rfl
      intro xs W5 hW hS
      have h0 : (readKs theKeys).S (xs 0) W5 := hS 0 (by omega)
      have h1 : xs 1 = .agg (epC (tEp (1 + n))) := hS 1 (by omega)
      have h2 : xs 2 = .agg (rpC R) := hS 2 (by omega)
      have h8 : xs 8 = .agg (leC x.le) := hS 8 (by omega)
      simp only [fillAt, dstOf, lc0, lcs, obs, Act.put, lsa, lsz, lss, nz, Nat.reduceAdd, List.drop_succ_cons, List.drop_zero, List.drop_nil]
      generalize xs 1 = x1 at *; subst h1
      generalize xs 2 = x2 at *; subst h2
      generalize xs 8 = x8 at *; subst h8
      have HW5 := lh (HXY.out.trans hW)
      have HWW5 := lh hW
      clear hS hW kE kR q19 kLe
      obtain ⟨A0, c0, h0, hr0⟩ := h0
      generalize xs 0 = x0 at *
      subst h0
      go_wp2_with (go_at_call 30; refine (HRx.out A0 c0 _ (HXY.out.trans HWW5.out) hr0).mono ?_; rintro e w' ⟨rfl, hxl⟩; obtain ⟨xl, rfl⟩ := hxl.asLater; clear hxl)
      go_roundw
      case rel => exact ⟨j + 1, by go_num, by omega, lh ((HY.out.trans HWW5.out).onto _)⟩
      case measure => simp [intOf]; omega
     ·clear HRfW HLok
      cases ob
      all_goals
       go_wp2_with (first | (go_at_call 16; refine (HS.out _ (HW3.out.trans HY.out)).mono ?_; rintro e w' ⟨rfl, hxl⟩; obtain ⟨xl, rfl⟩ := hxl.asLater; clear hxl) | (go_at_call 25; refine (HClO.out _ (HXY.out.onto _)).mono ?_; rintro e w' ⟨rfl, hxl⟩; obtain ⟨xl, rfl⟩ := hxl.asLater; clear hxl))
       go_ret
       exact ⟨rfl, (by (with_reducible repeat first|exact HW3.out.trans HY.out|exact eR _|apply eD|apply eN|apply eA|apply eO|apply eS|apply eC);all_goals first|omega|simp <;> omega)⟩
 ·have hdd : decide ((10 : Int) < l.length) = true := by simp; omega
  clear hd hdi h10
  go_enter Tryz.func6, Tryz.ntmps6
  go_wp2_with (go_at_call 16; refine (HS.out _ (by (with_reducible repeat first|exact eR _|apply eD|apply eN|apply eA|apply eO|apply eS|apply eC);all_goals first|omega|simp <;> omega)).mono ?_; rintro e w' ⟨rfl, hxl⟩; obtain ⟨xl, rfl⟩ := hxl.asLater; clear hxl)
  go_ret
  exact ⟨rfl, (by (with_reducible repeat first|exact eR _|apply eD|apply eN|apply eA|apply eO|apply eS|apply eC);all_goals first|omega|simp <;> omega)⟩
end Go.Proofs.YtpfhmcdcmepfdaaGreatDoor

namespace Go.Proofs.YtpfhmcdcmepfdaaGreatDoor
open Go.ChangeShapes Go.WideShapes Go.ChangeAt Go.ChangeMaps Go.RowKit
open Go.Proofs
theorem laidMa {W : World} (h : laidMetH Tryz.prog Rows.accountMadeIsAcceptedRow.laid W) : Konst 1 W ∧ RKonst W := by
 rw [MakeChecks.laidMetH_plain _ _ _ (by kernel_rfl)] at h
 obtain ⟨ps, ⟨ga, ta, csa, fa, pa, qa, hga, hta, hva, hda, ⟨g0, t0, cs0, f0, p0, q0, hg0, ht0, hv0, hd0, ⟨g1, t1, cs1, f1, p1, q1, hg1, ht1, hv1, hd1, _, rfl⟩, rfl⟩, rfl⟩, _, hf⟩ := h
 obtain rfl := Option.some.inj ((show Tryz.prog.globalNamed "weirgate/weirgateref02.constants" = some 0 by kernel_rfl).symm.trans hg0)
 obtain rfl := Option.some.inj ((show Tryz.prog.globalNamed "weirgate/hash.constants" = some 1 by kernel_rfl).symm.trans hg1)
 obtain rfl := Option.some.inj ((show (Tryz.prog.globals[(0 : Nat)]?).map (·.type) = some 264 by kernel_rfl).symm.trans ht0)
 obtain rfl := Option.some.inj ((show (Tryz.prog.globals[(1 : Nat)]?).map (·.type) = some 264 by kernel_rfl).symm.trans ht1)
 rw [laidRK] at hd0
 rw [laidK] at hd1
 exact ⟨table_at hg1 hv1 hd1 (fun x hx => by simp [hx]) hf, table_at hg0 hv0 hd0 (fun x hx => by simp [hx]) hf⟩
theorem accountMadeIsAccepted_lifted (os : Os) (started : os.Started) (H : Type) (enc : TypeId × Value → H) :
  ReturnsInHanded {} Tryz.checked os 6 .any (fun w args => (Rows.accountMadeIsAcceptedSpec.pre enc Tryz.prog Tryz.f6 Rows.accountMadeIsAcceptedRow.domain false w args ∧ laidMetH Tryz.prog Rows.accountMadeIsAcceptedRow.laid w) ∧ sizedMet enc Tryz.prog Tryz.f6 (OpenSpec.ofChange Rows.accountMadeIsAcceptedSpec) false w args)
   (Rows.accountMadeIsAcceptedSpec.post enc Tryz.prog Tryz.f6 false true false false) := by
 refine returnsInHanded_of_change_and (C := Tryz.checked) (X := fun w _ => laidMetH Tryz.prog Rows.accountMadeIsAcceptedRow.laid w) (fun _ _ _ hh h => h.of_heap hh) Tryz.own started (by kernel_rfl) Tryz.func6
  (ChangeSpec.witness_shaped (enc := enc) (C := Tryz.checked) (os := os) (X := fun w _ => laidMetH Tryz.prog Rows.accountMadeIsAcceptedRow.laid w) false (World.laidAll Tryz.prog os Rows.accountMadeIsAcceptedRow.laid) #[.int .u16 0, .slice none 0 0, .int .u16 0, .int .u8 0] 8 (World.laidAll_os _ _ _)
   (World.shaped_of_ZipB (by kernel_rfl) (by kernel_rfl)) (by kernel_rfl) (by kernel_rfl) (by kernel_rfl)
   (by rw [MakeChecks.laidMetH_plain _ _ _ (by kernel_rfl)]; exact laidMet_laidAll _ (by kernel_rfl) (by kernel_rfl))) ?_
 intro W base args ds gs before hval0 hW hcnd hSz hL _
 have hval : ∀ (j : Nat) t v, Tryz.f6.params[j]? = some t → args[j]? = some v → Value.okWide Tryz.prog W .any base t v := hval0
 have hW' := hW
 obtain ⟨p, q, hA0, hV, rfl, hfz, hnd⟩ := hW
 have hA : DataW.TrodAll enc Tryz.prog W 0 (fun _ => true) true Tryz.f6.params.toList args.toList ds p := hA0
 rw [Tryz.params6] at hA hval
 obtain ⟨rfl, rfl⟩ := trodVars_none hV
 clear hA0 hval0 hcnd
 obtain ⟨v0, vs0, d0, ds0, p0, q0, ea0, rfl, rfl, h0, hA⟩ := trodAll_cons hA
 obtain ⟨v1, vs1, d1, ds1, p1, q1, rfl, rfl, rfl, h1, hA⟩ := trodAll_cons hA
 obtain ⟨v2, vs2, d2, ds2, p2, q2, rfl, rfl, rfl, h2, hA⟩ := trodAll_cons hA
 obtain ⟨v3, vs3, d3, ds3, p3, q3, rfl, rfl, rfl, h3, hA⟩ := trodAll_cons hA
 obtain ⟨rfl, rfl, rfl⟩ := trodAll_nil hA
 obtain rfl : args = #[v0, v1, v2, v3] := by cases args; simp_all
 obtain ⟨hk, hrk⟩ := laidMa hL
 obtain ⟨n, rfl, _, _, w0⟩ := open_int Tryz.underlying77 (hval 0 77 v0 rfl rfl) h0
 obtain ⟨DA, dc, l, rfl, hd1, hd2, hd3, hd4⟩ := open_deeds (hval 1 78 v1 rfl rfl) h1
 obtain ⟨lo, rfl, _, _, w2⟩ := open_int Tryz.underlying77 (hval 2 77 v2 rfl rfl) h2
 obtain ⟨wd, rfl, _, _, w3⟩ := open_int Tryz.underlying5 (hval 3 5 v3 rfl rfl) h3
 have main := made_ok n DA dc l lo wd W (u16_wf w0) (by unfold maxLen at hd2; omega) hd3 hd4 (u16_wf w2) (u8_wf w3) hk hrk
 refine main.mono fun e' W' ⟨he, hx⟩ => ?_
 subst he
 exact ⟨_, rfl, law_post Tryz.laidOut (by kernel_rfl) rfl hW' hx 4 (by kernel_rfl) Tryz.underlying4 rfl rfl rfl⟩
end Go.Proofs.YtpfhmcdcmepfdaaGreatDoor