/- weirgatelaw31.EpochChangesAreSeen, the lifted law: it returns true for every secret, chain, epoch and byte, and leaves its arguments as they were; the listed tables hold what the program's text lays (the card ties them). No other condition. -/
import Derived.WalkKit
import Derived.WalkSpells
import Derived.WalkLawsBesides
import Derived.Deep.QuietTactic
import Derived.BigQuiet
import Derived.Test.YtpojnhikgjcgmaaGreatDoorEYn
import Derived.Test.YtpojnhikgjcgmaaGreatDoorTie
import Derived.Test.YtpojnhikgjcgmaaGreatDoorCards
import Derived.ProofKit
import Derived.Lay
import Derived.ChangeMaps5
import Derived.SevenTiedAt
import Derived.Stop.Joined
set_option maxRecDepth 100000
set_option maxHeartbeats 64000000
set_option linter.unusedVariables false
set_option linter.unusedSimpArgs false
namespace Go.Proofs.YtpojnhikgjcgmaaGreatDoor
open Go.RowKit
def softE (l : List Oper) (n : Nat) : Bool :=
 decide (n = l.length) && Region.seqB .any l.toArray (l.length - n) n (fullL l.length n) &&
 ((List.range n).all fun i => (depsOf l i).all (fun j => decide (j < i))) &&
 ((List.range n).all fun i => (List.range n).all fun j => decide (j = i) || decide (dstOf l j ≠ dstOf l i) || decide (dstOf l j = none))
section
variable {P : Program} {id : Nat} {Q : Exit → Act → World → Prop} {a0 : Act} {w0 : World} {l : List Oper}
theorem wpAny_softE {n : Nat} (L : Nat → Soft) (hB : softE l n = true)
  (hop : ∀ i, i < n → ∀ o, l[i]? = some o → ∀ xs w, Ext w0 w → (∀ j, j ∈ depsOf l i → (L j).S (xs j) w) → ∀ Q' : Exit → Act → World → Prop, (∀ v w', Ext w w' → (L i).S v w' → Q' .normal ((fillAt l a0 xs n).put o.dst v) w') → wpList P l.toArray Q' [o] (fillAt l a0 xs n) w)
  (hend : ∀ xs w, Ext w0 w → (∀ i, i < n → (L i).S (xs i) w) → wpList P l.toArray Q (l.drop n) (fillAt l a0 xs n) w) :
  ∀ (f : Nat) (listed : Array Bool) (xs : Nat → Value) (w : World), HeadInv .any l.toArray n listed → cntU listed n = f → Ext w0 w → (∀ i, i < n → listed.getD i false = true → (L i).S (xs i) w) →
   wpAny P .any l.toArray Q (f + (l.length - n)) listed (fillAt l a0 xs n) w := by
 simp only [softE, Bool.and_eq_true, decide_eq_true_eq, List.all_eq_true, List.mem_range, Bool.or_eq_true] at hB
 obtain ⟨⟨⟨hn, hseq⟩, hdeps⟩, hdst⟩ := hB
 have hn' : n = l.toArray.size := by simpa using hn
 have hn2 : l.toArray.size = l.length := by simp
 intro f
 induction f with
 | zero =>
  intro listed xs w inv hcnt hx hS
  have hall := cnt_zero n hcnt
  have he : listed = fullL l.length n := by
   have hsz := inv.size
   apply Array.ext (by rw [hsz]; simp [fullL])
   intro i h1 h2
   have hil : i < l.length := by rw [hsz] at h1; simpa using h1
   have e2 : (fullL l.length n)[i] = decide (i < n) := by simp [fullL]
   rw [e2]
   by_cases hi : i < n
   ·have := hall i hi
    simp [h1] at this
    rw [this]; simp [hi]
   ·have := inv.tail i (by omega) (by simpa using hil)
    simp [h1] at this
    rw [this]; simp [hi]
  rw [Nat.zero_add]
  have hdl : (l.drop n).length = l.length - n := by simp
  have := wpAny_of_seq (md := .any) (P := P) (ops := l.toArray) (Q' := Q) (l.drop n) n listed (fillAt l a0 xs n) w (fun j => by simp [List.getElem?_drop]) (by rw [hdl, he]; exact hseq) (hend xs w hx (fun i hi => hS i hi (hall i hi)))
  rwa [hdl] at this
 | succ f ih =>
  intro listed xs w inv hcnt hx hS
  obtain ⟨i0, hi0, hu0, hmin⟩ := cnt_pos n (by omega : 0 < cntU listed n)
  have hi0s : i0 < listed.size := by rw [inv.size]; omega
  have hu0' := getD_in hi0s hu0
  have hl0 : i0 < l.length := by omega
  have hready : i0 ∈ Region.ready .any l.toArray listed := by
   refine mem_ready.2 ⟨hu0', l[i0], by simp [hl0], fun e he hb => ?_⟩
   have hd : e.on ∈ depsOf l i0 := by
    simp only [depsOf, List.getElem?_eq_getElem hl0, Option.map_some, Option.getD_some, List.mem_map, List.mem_filter]
    exact ⟨e, ⟨by simpa using he, hb⟩, rfl⟩
   exact hmin _ (hdeps i0 hi0 _ hd)
  rw [show f + 1 + (l.length - n) = (f + (l.length - n)) + 1 by omega]
  refine ⟨fun h0 => (by rw [h0] at hready; cases hready), fun i hi => ?_⟩
  have hin : i < n := by
   rcases Nat.lt_or_ge i n with h | h
   ·exact h
   ·have hisz : i < l.toArray.size := by
     obtain ⟨_, o, ho, _⟩ := mem_ready.1 hi
     exact (Array.getElem?_eq_some_iff.1 ho).1
    exfalso; omega
  obtain ⟨hun, o, ho, hall⟩ := mem_ready.1 hi
  have ho' : l[i]? = some o := by simpa using ho
  have hu := getD_both hun
  refine wpOp_of_one ho ?_
  refine hop i hin o ho' xs w hx (fun j hj => ?_) _ (fun v w' hx' hv => ?_)
  ·have hji := hdeps i hin j hj
   refine hS j (by omega) ?_
   simp only [depsOf, ho', Option.map_some, Option.getD_some, List.mem_map, List.mem_filter] at hj
   obtain ⟨e, ⟨he, hb⟩, rfl⟩ := hj
   exact hall e (by simpa using he) hb
  ·show wpAny P .any l.toArray Q (f + (l.length - n)) (listed.setIfInBounds i true) _ w'
   have ed : o.dst = dstOf l i := by simp [dstOf, ho']
   rw [ed, fill_put n hin (fun j hj hji => by
    rcases hdst i hin j hj with (h | h) | h
    ·exact absurd h hji
    ·exact .inl h
    ·exact .inr h)]
   refine ih _ _ w' (inv.set hi hin) (by have := cnt_set (by rw [inv.size]; omega) hu n hin; omega) (hx.trans hx') (fun j hj hlj => ?_)
   by_cases e : j = i
   ·subst e
    have : updAt xs j v j = v := by simp [updAt]
    rw [this]
    exact hv
   ·have : updAt xs i v j = xs j := by simp [updAt, e]
    rw [this]
    rw [getD_set_ne false (Ne.symm e)] at hlj
    exact (L j).on _ _ _ (hS j hj hlj) hx'
theorem wp_region_softE (n : Nat) (L : Nat → Soft) (hm : P.follows .mixedOrders = true) (hB : softE l n = true)
  (hop : ∀ i, i < n → ∀ o, l[i]? = some o → ∀ xs w, Ext w0 w → (∀ j, j ∈ depsOf l i → (L j).S (xs j) w) → ∀ Q' : Exit → Act → World → Prop, (∀ v w', Ext w w' → (L i).S v w' → Q' .normal ((fillAt l a0 xs n).put o.dst v) w') → wpList P l.toArray Q' [o] (fillAt l a0 xs n) w)
  (hend : ∀ xs w, Ext w0 w → (∀ i, i < n → (L i).S (xs i) w) → wpList P l.toArray Q (l.drop n) (fillAt l a0 xs n) w) : (Code.region id l.toArray true).wp P Q a0 w0 := by
 refine wp_region_any hm ?_
 have hn : n = l.length := by
  simp only [softE, Bool.and_eq_true, decide_eq_true_eq] at hB
  exact hB.1.1.1
 have inv0 : HeadInv .any l.toArray n (Array.replicate l.toArray.size false) :=
  ⟨by simp, fun j oj _ hl => (by rw [getD_replicate_false] at hl; cases hl), fun t _ ht => getD_in (by simpa using ht) (getD_replicate_false _ _)⟩
 have hc0 : ∀ m, cntU (Array.replicate l.toArray.size false) m = m := by
  intro m
  induction m with
  | zero => rfl
  | succ m ih => rw [cntU, ih, getD_replicate_false]; rfl
 have := wpAny_softE (P := P) (Q := Q) (a0 := a0) (w0 := w0) L hB hop hend n _ (fun i => ((dstOf l i).map fun t => a0.tmps.getD t undef).getD undef) { w0 with drawn := w0.drawn + 1 } inv0 (hc0 n) (Ext.drew (Ext.refl w0)) (fun i _ hl => (by rw [getD_replicate_false] at hl; cases hl))
 rw [fill_self] at this
 have e : n + (l.length - n) = l.toArray.size := by simp; omega
 rwa [e] at this
end
end Go.Proofs.YtpojnhikgjcgmaaGreatDoor

namespace Go.Proofs.YtpojnhikgjcgmaaGreatDoor
open Go.RowKit Go.Shelf Go.Maps
open Go.Proofs
theorem Reads.take {α : Type} {size : Nat} {enc : α → List Value} {w : World} {B : Nat} {A : Option Addr} {l : List α} (h : Reads size enc w B A l) (n : Nat) : Reads size enc w B A (l.take n) := by
 intro hn
 rw [List.length_take] at hn
 obtain ⟨b, off, h1, h2, h3⟩ := h (by omega)
 refine ⟨b, off, h1, h2, fun i hi j v hv => ?_⟩
 rw [List.length_take] at hi
 rw [List.getElem_take] at hv
 exact h3 i (by omega) j v hv
theorem ChAt.take {w : World} {A : Option Addr} {l : List Ep} (h : ChAt w A l) (n : Nat) : ChAt w A (l.take n) := ⟨h.rd.take n, fun e he => h.ok e (List.mem_of_mem_take he)⟩
def tupS (E : Int) : Soft := ⟨fun v _ => ∃ A n c, v = .tuple #[.slice A n c, .int .i64 E], fun _ _ _ h _ => h⟩
def slS : Soft := ⟨fun v _ => ∃ A n c, v = .slice A n c, fun _ _ _ h _ => h⟩
theorem echeck_any (Ar : Option Addr) (cr : Nat) (ring : List Ky) (A : Option Addr) (c : Nat) (l : List Ep) (w : World) (hg : RingOk ring) (hrk : ReadsKy w w.heap.size Ar ring) (hl : l.length ≤ 100) (hcap : l.length ≤ c) (hc : ChAt w A l) (hk : KonstP w) :
  Calls Tryz.prog 32 #[.slice Ar ring.length cr, .slice A l.length c] w fun r w' => r = .returned (.tuple #[.int .i64 (checkAll ring l).1, .int .i64 (checkAll ring l).2]) ∧ Ext w w' := by
 have HC := lh hc
 have HAp := lh (fun (b off : Nat) (k : Nat) (hA : A = some ⟨b, off, none⟩) (h : k < l.length) (W : World) (hx : Ext w W) => append_any Ar cr ring (some ⟨b, off, none⟩) c (l.take k) l[k] W hg (hrk.on hx) (by rw [List.length_take]; omega) (hA ▸ (hc.take k).on hx) (fun h => by cases h) (hc.ok _ (List.getElem_mem h)).1 (hc.ok _ (List.getElem_mem h)).2.1 ((hc.ok _ (List.getElem_mem h)).2.2.on hx) (RowAt.ext hk hx))
 have HN : Hid ((∀ i, i < l.length → appendE ring (l.take i) (l.getD i noEp) = 0) → checkAll ring l = (-1, 0)) := lh (fun h => fstBad_none h)
 have HB : Hid (∀ k, k < l.length → (∀ i, i < k → appendE ring (l.take i) (l.getD i noEp) = 0) → appendE ring (l.take k) (l.getD k noEp) ≠ 0 → checkAll ring l = ((k : Int), appendE ring (l.take k) (l.getD k noEp))) := lh (fun k hk h0 h1 => fstBad_hit hk h0 h1)
 generalize checkAll ring l = R at *
 obtain ⟨R1, R2⟩ := R
 clear hrk hc hk
 go_enter Tryz.func32, Tryz.ntmps32
 go_wp2
 go_loopw [6, 7, 8, 9, 12] (fun _ _ _ _ i wr => ∃ k : Nat, k ≤ l.length ∧ i = .int .i64 k ∧ Hid (∀ i, i < k → appendE ring (l.take i) (l.getD i noEp) = 0) ∧ Hid (Ext w wr)) (fun _ _ _ _ i _ => l.length - (intOf i).toNat)
 case atStart => exact ⟨0, Nat.zero_le _, rfl, lh (fun i hi => by omega), lh (eR _)⟩
 case round =>
  obtain ⟨k, hk, rfl, HZ, HX⟩ := hrel
  generalize hwA : wr = wA at *
  clear hwA
  by_cases hlt : k < l.length
  ·obtain ⟨b, off, rfl, hb, kr⟩ := epr_at (HC.out.rd.on HX.out) k hlt
   have HAk := lh (HAp.out b off k rfl hlt)
   have HBk := lh (HB.out k hlt HZ.out)
   have HZk := lh (fun (h : appendE ring (l.take k) (l.getD k noEp) = 0) (i : Nat) (hi : i < k + 1) => (show appendE ring (l.take i) (l.getD i noEp) = 0 from by
    by_cases e : i = k
    ·rw [e]; exact h
    ·exact HZ.out i (by omega)))
   rw [ep_getD hlt] at HBk HZk
   unfold AppOut at HAk
   have htl : (l.take k).length = k := by rw [List.length_take]; omega
   rw [htl] at HAk
   generalize appendE ring (l.take k) l[k] = E at *
   generalize appL ring (l.take k) l[k] = LL at *
   generalize l[k] = e at *
   have hfe := ep_fits e
   clear htl HAp HB HN HC
   go_upto_region 4 with (fail)
   refine wp_world (fun W => Ext wA W ∧ RowAt W wA.heap.size (epC e)) ⟨(by (with_reducible repeat first|exact eR _|apply eD|apply eN|apply eA|apply eO|apply eS|apply eC);all_goals first|omega|simp <;> omega), RowAt.store (RowAt.new _ _ _) rfl⟩ ?_
   obtain ⟨g, hgg⟩ : ∃ g, wA.heap.size = g := ⟨_, rfl⟩
   rw [hgg]
   rintro W4 ⟨x4, u4⟩
   have HX4 := lh (HX.out.trans x4)
   have hlg := u4.lt
   have k4 : rowOf W4 g 0 38 = some (epC e) := u4.all rfl (by omega)
   clear x4 u4 kr
   have hbl : b < W4.heap.size := by omega
   have hkc : k ≤ c := by omega
   refine wp_region_softE 11 (softsL [.eq (.slice Ar ring.length cr), .eq (.slice (some ⟨b, off, none⟩) l.length c), .eq (.int .i64 k), .eq (.slice (some ⟨b, off, none⟩) k c), .eq (.agg (epC e)), tupS E, tupS E, slS, .eq (.int .i64 E), slS, .eq (.int .i64 E)]) (by kernel_rfl) (by kernel_rfl) (lt_cons ?_ (lt_cons ?_ (lt_cons ?_ (lt_cons ?_ (lt_cons ?_ (lt_cons ?_ (lt_cons ?_ (lt_cons ?_ (lt_cons ?_ (lt_cons ?_ (lt_cons ?_ (lt_none)))))))))))) ?_
   ·
    refine sop rfl fun xs W HW hsW HD Q' HQ => ?_; simp only [fillAt, dstOf, lc0, lcs, obs, Act.put, lsa, lsz, lss, nz, Nat.reduceAdd] at HQ ⊢
    go_wp2
    exact HQ.out _ _ (eR _) rfl
   ·
    refine sop rfl fun xs W HW hsW HD Q' HQ => ?_; simp only [fillAt, dstOf, lc0, lcs, obs, Act.put, lsa, lsz, lss, nz, Nat.reduceAdd] at HQ ⊢
    go_wp2
    exact HQ.out _ _ (eR _) rfl
   ·
    refine sop rfl fun xs W HW hsW HD Q' HQ => ?_; simp only [fillAt, dstOf, lc0, lcs, obs, Act.put, lsa, lsz, lss, nz, Nat.reduceAdd] at HQ ⊢
    go_wp2
    exact HQ.out _ _ (eR _) rfl
   ·
    refine sop rfl fun xs W HW hsW HD Q' HQ => ?_; simp only [fillAt, dstOf, lc0, lcs, obs, Act.put, lsa, lsz, lss, nz, Nat.reduceAdd] at HQ ⊢
    have hd1 : xs 1 = .slice (some ⟨b, off, none⟩) l.length c := (HD.out 1 (dk (by kernel_rfl)))
    generalize xs 1 = x1 at hd1 HQ ⊢; subst hd1
    have hd2 : xs 2 = .int .i64 k := (HD.out 2 (dk (by kernel_rfl)))
    generalize xs 2 = x2 at hd2 HQ ⊢; subst hd2
    go_wp2
    exact HQ.out _ _ (eR _) rfl
   ·
    refine sop rfl fun xs W HW hsW HD Q' HQ => ?_; simp only [fillAt, dstOf, lc0, lcs, obs, Act.put, lsa, lsz, lss, nz, Nat.reduceAdd] at HQ ⊢
    have hc := (row_extW HW.out (b := g) (by omega) 0 38).trans k4
    go_wp2
    exact HQ.out _ _ (eR _) rfl
   ·
    refine sop rfl fun xs W HW hsW HD Q' HQ => ?_; simp only [fillAt, dstOf, lc0, lcs, obs, Act.put, lsa, lsz, lss, nz, Nat.reduceAdd] at HQ ⊢
    have hd0 : xs 0 = .slice Ar ring.length cr := (HD.out 0 (dk (by kernel_rfl)))
    generalize xs 0 = x0 at hd0 HQ ⊢; subst hd0
    have hd3 : xs 3 = .slice (some ⟨b, off, none⟩) k c := (HD.out 3 (dk (by kernel_rfl)))
    generalize xs 3 = x3 at hd3 HQ ⊢; subst hd3
    have hd4 : xs 4 = .agg (epC e) := (HD.out 4 (dk (by kernel_rfl)))
    generalize xs 4 = x4 at hd4 HQ ⊢; subst hd4
    go_wp2_with (go_at_call 34; refine (HAk.out _ (HX4.out.trans HW.out)).mono ?_; rintro r w1 ⟨⟨A', c', l', rfl, _, _⟩, hx⟩)
    exact HQ.out _ _ hx ⟨A', _, c', rfl⟩
   ·
    refine sop rfl fun xs W HW hsW HD Q' HQ => ?_; simp only [fillAt, dstOf, lc0, lcs, obs, Act.put, lsa, lsz, lss, nz, Nat.reduceAdd] at HQ ⊢
    have hs5 : (tupS E).S (xs 5) W := (HD.out 5 (dk (by kernel_rfl)))
    obtain ⟨A5, n5, c5, h5⟩ := hs5
    generalize xs 5 = x5 at h5 HQ ⊢; subst h5
    go_wp2
    exact HQ.out _ _ (eR _) ⟨A5, n5, c5, rfl⟩
   ·
    refine sop rfl fun xs W HW hsW HD Q' HQ => ?_; simp only [fillAt, dstOf, lc0, lcs, obs, Act.put, lsa, lsz, lss, nz, Nat.reduceAdd] at HQ ⊢
    have hs6 : (tupS E).S (xs 6) W := (HD.out 6 (dk (by kernel_rfl)))
    obtain ⟨A6, n6, c6, h6⟩ := hs6
    generalize xs 6 = x6 at h6 HQ ⊢; subst h6
    go_wp2
    exact HQ.out _ _ (eR _) ⟨A6, n6, c6, rfl⟩
   ·
    refine sop rfl fun xs W HW hsW HD Q' HQ => ?_; simp only [fillAt, dstOf, lc0, lcs, obs, Act.put, lsa, lsz, lss, nz, Nat.reduceAdd] at HQ ⊢
    have hs6 : (tupS E).S (xs 6) W := (HD.out 6 (dk (by kernel_rfl)))
    obtain ⟨A6, n6, c6, h6⟩ := hs6
    generalize xs 6 = x6 at h6 HQ ⊢; subst h6
    go_wp2
    exact HQ.out _ _ (eR _) rfl
   ·
    refine sop rfl fun xs W HW hsW HD Q' HQ => ?_; simp only [fillAt, dstOf, lc0, lcs, obs, Act.put, lsa, lsz, lss, nz, Nat.reduceAdd] at HQ ⊢
    have hs7 : (slS).S (xs 7) W := (HD.out 7 (dk (by kernel_rfl)))
    obtain ⟨A7, n7, c7, h7⟩ := hs7
    generalize xs 7 = x7 at h7 HQ ⊢; subst h7
    go_wp2
    exact HQ.out _ _ (eR _) ⟨A7, n7, c7, rfl⟩
   ·
    refine sop rfl fun xs W HW hsW HD Q' HQ => ?_; simp only [fillAt, dstOf, lc0, lcs, obs, Act.put, lsa, lsz, lss, nz, Nat.reduceAdd] at HQ ⊢
    have hd8 : xs 8 = .int .i64 E := (HD.out 8 (dk (by kernel_rfl)))
    generalize xs 8 = x8 at hd8 HQ ⊢; subst hd8
    go_wp2
    exact HQ.out _ _ (eR _) rfl
   intro xs W5 hW hS
   have h9 : (slS).S (xs 9) W5 := hS 9 (by omega)
   have h10 : xs 10 = .int .i64 E := hS 10 (by omega)
   simp only [fillAt, dstOf, lc0, lcs, obs, Act.put, lsa, lsz, lss, nz, Nat.reduceAdd, List.drop_succ_cons, List.drop_zero, List.drop_nil]
   generalize xs 10 = x10 at *; subst h10
   have HW5 := lh (HX4.out.trans hW)
   have HWW5 := lh hW
   clear hS hW k4
   obtain ⟨A9, n9, c9, h9'⟩ := h9
   generalize xs 9 = x9 at *
   subst h9'
   by_cases e0 : E = 0
   ·have HZ2 := lh (HZk.out e0)
    have de : (E != 0) = false := by simpa using e0
    clear e0 HBk HZk HAk
    go_wp2
    go_roundw
    case rel => exact ⟨k + 1, by omega, by go_num, HZ2, lh (by (with_reducible repeat first|exact HW5.out|exact eR _|apply eD|apply eN|apply eA|apply eO|apply eS|apply eC);all_goals first|omega|simp <;> omega)⟩
    case measure => simp [intOf]; omega
   ·have hR := HBk.out e0
    have h1 : R1 = k := by injection hR
    have h2 : R2 = E := by injection hR
    have de : (E != 0) = true := by simpa using e0
    clear HBk HZk HAk hR
    subst h1 h2
    go_wp2
    refine bodyPost_ret (v := .tuple #[.int .i64 k, .int .i64 R2]) ?_ rfl ⟨rfl, (by (with_reducible repeat first|exact HW5.out|exact eR _|apply eD|apply eN|apply eA|apply eO|apply eS|apply eC);all_goals first|omega|simp <;> omega)⟩
    simp [results, Tryz.results32, go_sem, ↓IntWalk.iteOmega]
  ·have HR := lh (HN.out (fun i hi => HZ.out i (by omega)))
   have h1 : R1 = -1 := by have := HR.out; injection this
   have h2 : R2 = 0 := by have := HR.out; injection this
   subst h1 h2
   go_wp2
   refine bodyPost_ret (v := .tuple #[.int .i64 (-1), .int .i64 0]) ?_ rfl ⟨rfl, HX.out⟩
   simp [results, Tryz.results32, go_sem, ↓IntWalk.iteOmega]
theorem ownsEp_cap {base : Nat} {w : World} {A : Option Addr} {c : Nat} {l : List Ep} (h : OwnsEp base w A c l) : l.length ≤ c := by
 rcases Owns.cases h with ⟨_, _, rfl⟩ | ⟨g, cur, _, _, _, hc, _⟩
 ·exact Nat.zero_le _
 ·exact hc
theorem owns_row {base : Nat} {w : World} {A : Option Addr} {c : Nat} {l : List Ep} (h : OwnsEp base w A c l) (k : Nat) (hk : k < l.length) : ∃ g, A = some ⟨g, 0, none⟩ ∧ base ≤ g ∧ g < w.heap.size ∧ roomOf w g (k * 38) 38 = true := by
 rcases Owns.cases h with ⟨_, _, rfl⟩ | ⟨g, cur, hA, hb, hg, hc, _, hsz, _⟩
 ·simp at hk
 ·have hr : RowAt w g cur := ⟨_, hg⟩
  refine ⟨g, hA, hb, hr.lt, ?_⟩
  rw [hr.room]
  have : k * 38 + 38 ≤ cur.size := by rw [hsz]; have := Nat.mul_le_mul_right 38 (show k + 1 ≤ c by omega); omega
  simp; omega
theorem reads_setRow {w : World} {B g : Nat} {l : List Ep} (h : Reads 38 epL w B (some ⟨g, 0, none⟩) l) (k : Nat) (hk : k < l.length) (x : Ep) : Reads 38 epL (w.setCells g (k * 38) (epC x).toList) B (some ⟨g, 0, none⟩) (l.set k x) := by
 intro hn
 obtain ⟨b, off, e, hb, hc⟩ := h (by omega)
 injection e with e
 injection e with e1 e2
 subst e1 e2
 refine ⟨_, _, rfl, hb, fun i hi j v hv => ?_⟩
 have hi2 : i < l.length := by simpa using hi
 have hj : j < 38 := by
  have h1 := (List.getElem?_eq_some_iff.1 hv).1
  rwa [epE.len] at h1
 have hlen : (epC x).toList.length = 38 := epE.len x
 rw [setCells_cell_if, hlen]
 by_cases e : i = k
 ·subst e
  have hx : (l.set i x)[i] = x := by simp
  rw [hx] at hv
  rw [if_pos ⟨rfl, by omega, by omega⟩]
  have hold : ∃ u, (epL l[i])[j]? = some u := ⟨_, List.getElem?_eq_getElem (by rw [epE.len]; exact hj)⟩
  obtain ⟨u, hu⟩ := hold
  rw [hc i hi2 j u hu]
  have hd : (epC x).toList.getD (0 + i * 38 + j - i * 38) undef = v := by
   rw [show 0 + i * 38 + j - i * 38 = j by omega, List.getD_eq_getElem?_getD]
   show ((epL x)[j]?).getD undef = v
   rw [hv]
   rfl
  simp only [Option.map_some, hd]
 ·have hx : (l.set k x)[i] = l[i] := List.getElem_set_ne (Ne.symm e) _
  rw [hx] at hv
  rw [if_neg (fun h3 => ?_)]
  ·exact hc i hi2 j v hv
  ·obtain ⟨_, h4, h5⟩ := h3
   rcases Nat.lt_or_gt_of_ne e with h6 | h6
   ·have := Nat.mul_le_mul_right 38 (show i + 1 ≤ k by omega); omega
   ·have := Nat.mul_le_mul_right 38 (show k + 1 ≤ i by omega); omega
theorem set_in {α : Type} {P : α → Prop} {l : List α} {k : Nat} {x : α} (h : ∀ e ∈ l, P e) (hx : P x) : ∀ e ∈ l.set k x, P e := by
 intro e he
 rcases List.mem_or_eq_of_mem_set he with h1 | rfl
 ·exact h e h1
 ·exact hx
theorem one_ok {s : ByteArray} (h1 : 1 ≤ s.size) (h2 : s.size ≤ 64) : okKy (oneKey s) = true := by
 unfold okKy oneKey
 simp only [Bool.and_eq_true, decide_eq_true_eq]
 refine ⟨⟨⟨⟨⟨⟨by decide, by decide⟩, by omega⟩, by omega⟩, by decide⟩, by decide⟩, by decide⟩
theorem ring_one {s : ByteArray} (h1 : 1 ≤ s.size) (h2 : s.size ≤ 64) : RingOk [oneKey s] := by
 apply ringB_is
 have h := one_ok h1 h2
 unfold ringB
 simp only [Bool.and_eq_true, List.all_eq_true, List.mem_range, decide_eq_true_eq]
 refine ⟨fun i hi => ?_, by simp⟩
 have e : i = 0 := by simpa using hi
 subst e
 simp [ringAt, h]
theorem made_hi {k : Ky} {L : List Ep} (h : IssuedOk k L) (hlast : lastHi L < 1099511627776) : ∀ e ∈ L, e.hi < 1099511627776 := by
 intro e he
 obtain ⟨i, hi, rfl⟩ := List.getElem_of_mem he
 have h1 := issued_hi h (L.length - 1) i (by omega) (by omega)
 have h2 := (last_some (l := L) (by omega)).2.2
 omega
theorem changes_ok (s : ByteArray) (A : Option Addr) (c : Nat) (l : List Ep) (e : Ep) (n : Int) (w : World) (hs63 : s.size < 9223372036854775808) (hl : l.length ≤ 9223372036854775807) (hc : EpsIn w A l) (hok : EpOk e) (ha : EpAt w e) (hn0 : 0 ≤ n) (hn1 : n < 256) (hk : KonstP w) (hr : RKonst w) :
  Calls Tryz.prog 6 #[.string s, .slice A l.length c, .agg (epC e), .int .u8 n] w fun r w' => r = .returned (.bool true) ∧ Ext w w' := by
 have HS := lh (fun (W : World) (hx : Ext w W) => esanity_any W (RowAt.ext hk hx))
 have HF := lh (fun (W : World) (hx : Ext w W) => rfew31_any A c l 8 W hl (hc.on hx))
 have HE := lh (fun (W : World) (hx : Ext w W) => rshortEp_any e W (ha.on hx) hok.pul hok.rvl (fun p hp => (hok.pu p hp).2))
 have hfe := ep_fits e
 have hfk := ky_fits (oneKey s)
 by_cases hs : s.size < 1
 ·have d1 : decide ((s.size : Int) < 1) = true := decide_eq_true (by omega)
  clear hc hok ha hk hr HF HE
  go_enter Tryz.func6, Tryz.ntmps6
  go_wp2_with (go_at_call 12; refine (HS.out _ (by (with_reducible repeat first|exact eR _|apply eD|apply eN|apply eA|apply eO|apply eS|apply eC);all_goals first|omega|simp <;> omega)).mono ?_; rintro e w' ⟨rfl, hxl⟩; obtain ⟨xl, rfl⟩ := hxl.asLater; clear hxl)
  go_ret
  exact ⟨rfl, (by (with_reducible repeat first|exact eR _|apply eD|apply eN|apply eA|apply eO|apply eS|apply eC);all_goals first|omega|simp <;> omega)⟩
 by_cases hs2 : 64 < s.size
 ·have d1 : decide ((s.size : Int) < 1) = false := decide_eq_false (by omega)
  have d2 : decide ((64 : Int) < (s.size : Int)) = true := decide_eq_true (by omega)
  clear hc hok ha hk hr HF HE
  go_enter Tryz.func6, Tryz.ntmps6
  go_wp2_with (go_at_call 12; refine (HS.out _ (by (with_reducible repeat first|exact eR _|apply eD|apply eN|apply eA|apply eO|apply eS|apply eC);all_goals first|omega|simp <;> omega)).mono ?_; rintro e w' ⟨rfl, hxl⟩; obtain ⟨xl, rfl⟩ := hxl.asLater; clear hxl)
  go_ret
  exact ⟨rfl, (by (with_reducible repeat first|exact eR _|apply eD|apply eN|apply eA|apply eO|apply eS|apply eC);all_goals first|omega|simp <;> omega)⟩
 have d1 : decide ((s.size : Int) < 1) = false := decide_eq_false (by omega)
 have d2 : decide ((64 : Int) < (s.size : Int)) = false := decide_eq_false (by omega)
 cases hF : fewEp l 8 with
 | false =>
  rw [hF] at HF
  clear hc hok ha hk hr HE hF hs hs2
  go_enter Tryz.func6, Tryz.ntmps6
  go_wp2_with (first | (go_at_call 23; refine (HF.out _ (by (with_reducible repeat first|exact eR _|apply eD|apply eN|apply eA|apply eO|apply eS|apply eC);all_goals first|omega|simp <;> omega)).mono ?_; rintro e w' ⟨rfl, hxl⟩; obtain ⟨xl, rfl⟩ := hxl.asLater; clear hxl) | (go_at_call 12; refine (HS.out _ (by (with_reducible repeat first|exact eR _|apply eD|apply eN|apply eA|apply eO|apply eS|apply eC);all_goals first|omega|simp <;> omega)).mono ?_; rintro e w' ⟨rfl, hxl⟩; obtain ⟨xl, rfl⟩ := hxl.asLater; clear hxl))
  go_ret
  exact ⟨rfl, (by (with_reducible repeat first|exact eR _|apply eD|apply eN|apply eA|apply eO|apply eS|apply eC);all_goals first|omega|simp <;> omega)⟩
 | true =>
 rw [hF] at HF
 obtain ⟨hl8, hsh⟩ := fewEp_is hF
 cases hE : shortEp e with
 | false =>
  rw [hE] at HE
  clear hc hok ha hk hr hE hF hs hs2 hsh
  go_enter Tryz.func6, Tryz.ntmps6
  go_wp2_with (first | (go_at_call 23; refine (HF.out _ (by (with_reducible repeat first|exact eR _|apply eD|apply eN|apply eA|apply eO|apply eS|apply eC);all_goals first|omega|simp <;> omega)).mono ?_; rintro e w' ⟨rfl, hxl⟩; obtain ⟨xl, rfl⟩ := hxl.asLater; clear hxl) | (go_at_call 10; refine (HE.out _ (by (with_reducible repeat first|exact eR _|apply eD|apply eN|apply eA|apply eO|apply eS|apply eC);all_goals first|omega|simp <;> omega)).mono ?_; rintro e w' ⟨rfl, hxl⟩; obtain ⟨xl, rfl⟩ := hxl.asLater; clear hxl) | (go_at_call 12; refine (HS.out _ (by (with_reducible repeat first|exact eR _|apply eD|apply eN|apply eA|apply eO|apply eS|apply eC);all_goals first|omega|simp <;> omega)).mono ?_; rintro e w' ⟨rfl, hxl⟩; obtain ⟨xl, rfl⟩ := hxl.asLater; clear hxl))
  go_ret
  exact ⟨rfl, (by (with_reducible repeat first|exact eR _|apply eD|apply eN|apply eA|apply eO|apply eS|apply eC);all_goals first|omega|simp <;> omega)⟩
 | true =>
 rw [hE] at HE
 have hes := shortEp_is hE
 have hml := made_len (oneKey s) l
 have HIs := lh (made_issued (oneKey s) l)
 have HM := lh (fun (W : World) (hx : Ext w W) => made_any (oneKey s) A c l W (show s.size ≤ 64 by omega) (show i64 (1 : Int) by unfold i64; decide) (by omega) ((hc.on hx).ch hsh) (RowAt.ext hr hx))
 unfold MadeOut at HM
 have HRg := lh (ring_one (s := s) (by omega) (by omega))
 have HOk := lh hok
 have HEs := lh hes
 have HA := lh ha
 have HK : Hid (KonstP w) := lh hk
 clear hc hok ha hk hr hE hF hs hs2 hsh hes
 generalize madeN (oneKey s) l = L at *
 go_enter Tryz.func6, Tryz.ntmps6
 go_upto_region 3 with (first | (go_at_call 23; refine (HF.out _ (by (with_reducible repeat first|exact eR _|apply eD|apply eN|apply eA|apply eO|apply eS|apply eC);all_goals first|omega|simp <;> omega)).mono ?_; rintro e w' ⟨rfl, hxl⟩; obtain ⟨xl, rfl⟩ := hxl.asLater; clear hxl) | (go_at_call 10; refine (HE.out _ (by (with_reducible repeat first|exact eR _|apply eD|apply eN|apply eA|apply eO|apply eS|apply eC);all_goals first|omega|simp <;> omega)).mono ?_; rintro e w' ⟨rfl, hxl⟩; obtain ⟨xl, rfl⟩ := hxl.asLater; clear hxl))
 refine wp_world (fun W => Ext w W ∧ RowAt W w.heap.size (epC e)) ⟨(by (with_reducible repeat first|exact eR _|apply eD|apply eN|apply eA|apply eO|apply eS|apply eC);all_goals first|omega|simp <;> omega), (RowAt.new _ _ _).later _⟩ ?_
 obtain ⟨B, hB⟩ : ∃ B, w.heap.size = B := ⟨_, rfl⟩
 rw [hB]
 rintro W1 ⟨x1, u0⟩
 have HX1 := lh x1
 have HU0 := lh u0
 have hl1 := u0.lt
 clear x1 u0 HF HE
 go_upto_region 4 with (fail)
 refine wp_world (fun W => Ext W1 W ∧ RowAt W W1.heap.size (kyC (oneKey s))) ⟨(by (with_reducible repeat first|exact eR _|apply eD|apply eN|apply eA|apply eO|apply eS|apply eC);all_goals first|omega|simp <;> omega), RowAt.store (RowAt.new _ _ _) rfl⟩ ?_
 obtain ⟨g, hg⟩ : ∃ g, W1.heap.size = g := ⟨_, rfl⟩
 rw [hg]
 rintro W2 ⟨x2, u1⟩
 have HX2 := lh (HX1.out.trans x2)
 have HU02 := lh (HU0.out.ext x2)
 have HU12 := lh u1
 have hl2 := u1.lt
 have k1 : rowOf W2 g 0 5 = some (kyC (oneKey s)) := u1.all rfl (by omega)
 clear x2 u1 HX1 HU0
 go_wp2_with (go_at_call 24; refine (show Hid _ from ?_).out)
 refine lh ?_
 refine (HM.out W2 HX2.out).mono ?_
 rintro r w3 ⟨⟨A2, c2, rfl, ho, hch⟩, hx3⟩
 have HO3 := lh ho
 have HC3 := lh hch
 have HX3 := lh (HX2.out.trans hx3)
 have HU03 := lh (HU02.out.ext hx3)
 have HU13 := lh (HU12.out.ext hx3)
 have hs3 := hx3.size
 clear ho hch hx3 HX2 HU02 HU12 HM k1
 by_cases h2 : L.length < 2
 ·have d3 : decide ((L.length : Int) < 2) = true := decide_eq_true (by omega)
  have d4 : decide (L.length < 2) = true := decide_eq_true h2
  clear h2
  go_wp2_with (go_at_call 12; refine (HS.out _ (by (with_reducible repeat first|exact HX3.out|exact eR _|apply eD|apply eN|apply eA|apply eO|apply eS|apply eC);all_goals first|omega|simp <;> omega)).mono ?_; rintro e w' ⟨rfl, hxl⟩; obtain ⟨xl, rfl⟩ := hxl.asLater; clear hxl)
  go_ret
  exact ⟨rfl, (by (with_reducible repeat first|exact HX3.out|exact eR _|apply eD|apply eN|apply eA|apply eO|apply eS|apply eC);all_goals first|omega|simp <;> omega)⟩
 have d3 : decide ((L.length : Int) < 2) = false := decide_eq_false (by omega)
 have d4 : decide (L.length < 2) = false := decide_eq_false h2
 obtain ⟨m, hm⟩ : ∃ m, L.length = m + 1 := ⟨L.length - 1, by omega⟩
 have hm1 : 1 ≤ m := by omega
 have dm : (L.length : Int) - 1 = (m : Int) := by omega
 have hmL : m < L.length := by omega
 obtain ⟨b, off, rfl, hb, kr⟩ := epr_at HC3.out.rd m hmL
 have q18 : w3.cell? ⟨b, off + m * 38 + 18, none⟩ = some (.int .i64 L[m].hi) := (rowOf_cell kr (i := 18) (by omega)).trans (ep_g18 _)
 have hlh : lastHi L = L[m].hi := by
  have h := (last_some (l := L) (by omega)).2.2
  rw [h]
  congr 1
  simp [hm]
 clear h2
 by_cases h40 : 1099511627776 ≤ L[m].hi
 ·generalize L[m].hi = H at *
  have d5 : decide ((1099511627776 : Int) ≤ H) = true := decide_eq_true h40
  clear h40 hlh kr
  go_wp2_with (go_at_call 12; refine (HS.out _ (by (with_reducible repeat first|exact HX3.out|exact eR _|apply eD|apply eN|apply eA|apply eO|apply eS|apply eC);all_goals first|omega|simp <;> omega)).mono ?_; rintro e w' ⟨rfl, hxl⟩; obtain ⟨xl, rfl⟩ := hxl.asLater; clear hxl)
  go_ret
  exact ⟨rfl, (by (with_reducible repeat first|exact HX3.out|exact eR _|apply eD|apply eN|apply eA|apply eO|apply eS|apply eC);all_goals first|omega|simp <;> omega)⟩
 have HHi := lh (made_hi HIs.out (by rw [hlh]; omega))
 generalize L[m].hi = H at *
 have d5 : decide ((1099511627776 : Int) ≤ H) = false := decide_eq_false h40
 clear h40 hlh kr
 have hmL2 : L.length ≤ m + 1 := by omega
 clear hm
 obtain ⟨i, hni⟩ : ∃ i : Nat, n % (m : Int) = i := ⟨(n % (m : Int)).toNat, by have := Int.emod_nonneg n (show (m : Int) ≠ 0 by omega); omega⟩
 have him : i < m := by have := Int.emod_lt_of_pos n (show (0 : Int) < m by omega); omega
 have hiL : i < L.length := by omega
 have ki : rowOf w3 b (off + i * 38) 38 = some (epC L[i]) := by
  obtain ⟨b', off', e', _, h⟩ := epr_at HC3.out.rd i hiL
  injection e' with e'
  injection e' with e1 e2
  subst e1 e2
  exact h
 have HOi := lh (HC3.out.ok _ (List.getElem_mem hiL))
 have HCh : Hid ((okEp e = true → epName L[i] ≠ epName e) → (checkAll [oneKey s] (L.set i e)).2 ≠ 0 ∧ ((checkAll [oneKey s] (L.set i e)).1 = i ∨ (checkAll [oneKey s] (L.set i e)).1 = (i : Int) + 1)) := lh (fun h => chain_change (made_chain HIs.out HHi.out) i (by omega) e h)
 have HV := lh (fun (W : World) (hx : Ext w W) => revalid_any e W (HA.out.on hx) (by have := HEs.out.pu; omega) HOk.out.rvl (fun p hp => by have := HEs.out.what p hp; omega))
 have HN := lh (fun (W : World) (hx : Ext w W) => ename_any e W HOk.out HEs.out (HA.out.on hx) (RowAt.ext HK.out hx))
 have HNi := lh (fun (W : World) (hx : Ext w3 W) => ename_any L[i] W HOi.out.1 HOi.out.2.1 (HOi.out.2.2.on hx) (RowAt.ext HK.out (HX3.out.trans hx)))
 have hq : ∀ W, (binOp .eql 23 (.agg (dgC (epName L[i]))) (.agg (dgC (epName e)))).run Tryz.prog W = .ok (.bool (decide (epName L[i] = epName e))) W := fun W => eq_dg2 ⟨epName_len _, epName_byt _⟩ ⟨epName_len _, epName_byt _⟩ W
 generalize L[i] = z at *
 have hfz := ep_fits z
 generalize epName z = D1 at *
 generalize epName e = D2 at *
 have kB : rowOf w3 B 0 38 = some (epC e) := HU03.out.all rfl (by omega)
 have hB3 : B < w3.heap.size := by have := HU03.out.lt; omega
 go_upto_region 8 with (fail)
 rw [hni]
 cases hV : okEp e with
 | false =>
  rw [hV] at HV
  have HR := lh (HCh.out (fun h => by rw [hV] at h; cases h))
  clear hV HCh hq HN HNi
  refine wp_region_later (by kernel_rfl) (by kernel_rfl) ?_
  repeat (first | go_big_quiet_step ((go_at_call 14; exact quietE (HV.out _ (HX3.out.onto _)))) | quiet_step ((go_at_call 14; exact quietE (HV.out _ (HX3.out.onto _)))))
  refine wpQuiet_nil ?_
  rintro _ ⟨xq, rfl⟩
  go_upto_region 11 with (at_builtin; refine (show Hid _ from ?_).out)
  refine lh ?_
  refine app_reads epT epE rfl _ _ rfl w3.heap.size _ _ [] rfl (show OwnsEp w3.heap.size ((later w3 xq).alloc (.cells #[] 30)) (some ⟨w3.heap.size + xq.n, 0, none⟩) 0 [] from owns_fresh epE [] (later w3 xq) #[] (w3.heap.size + xq.n) w3.heap.size (later_size _ _).symm (by rw [later_size]; omega) rfl (by decide)) _ _ _ L rfl ((HC3.out.rd.on ((ext_later w3 xq).alloc _))) (fun h => by cases h) (by simp; omega) (by simp; omega) (by simp [World.size_alloc, later_size]; omega) ?_
  intro A6 c6 l6 w6 HL6 hO6 hB6 hl61 hl62 _
  have hL6 : l6 = L := by have h := HL6.out; simpa using h
  subst hL6
  have HX36 : Hid (Ext w3 w6) := lh (Ext.grown ((ext_later w3 xq).alloc _) hB6 (Nat.le_refl _))
  have HO6 := lh hO6
  clear hO6 hB6 hl61 hl62 HL6
  obtain ⟨g6, rfl, hg6, hg6l, m6⟩ := owns_row HO6.out i hiL
  have HX6 := lh (HX3.out.trans HX36.out)
  have HU06 := lh (HU03.out.ext HX36.out)
  have HU16 := lh (HU13.out.ext HX36.out)
  have k6 : rowOf w6 B 0 38 = some (epC e) := HU06.out.all rfl (by omega)
  have hs6 := HX36.out.size
  have hlB : B < w3.heap.size := by omega
  have hlg : g < w3.heap.size := HU13.out.lt
  have hOc := (Owns.cases HO6.out)
  have hlc : l6.length ≤ c6 := ownsEp_cap HO6.out
  have HR6 := lh (reads_setRow (HO6.out.reads epE) i hiL e)
  clear hOc ki kB HU03 HU13
  go_upto_region 12 with (fail)
  refine wp_world (fun W => Ext w3 W ∧ RowAt W g (kyC (oneKey s)) ∧ Reads 38 epL W W.heap.size (some ⟨g6, 0, none⟩) (l6.set i e)) ⟨Ext.setCells HX36.out hg6 _ _, HU16.out.others (by omega) _ _, by have h := HR6.out; rwa [show w6.heap.size = (w6.setCells g6 (i * 38) (epC e).toList).heap.size from (setCells_size _ _ _ _).symm] at h⟩ ?_
  rintro W7 ⟨x7, u7, r7⟩
  have HX7 := lh (HX3.out.trans x7)
  have hl7 := u7.lt
  have k7 : rowOf W7 g 0 5 = some (kyC (oneKey s)) := u7.all rfl (by omega)
  have HC7 : Hid (ChAt W7 (some ⟨g6, 0, none⟩) (l6.set i e)) := lh ⟨r7, set_in (fun x hx => ⟨(HC3.out.ok x hx).1, (HC3.out.ok x hx).2.1, (HC3.out.ok x hx).2.2.on x7⟩) ⟨HOk.out, HEs.out, HA.out.on (HX3.out.trans x7)⟩⟩
  have hset : (l6.set i e).length = l6.length := by simp
  clear x7 u7 r7 HR6 HX6 HU06 HU16 k6 m6 HO6 HX36 HC3
  go_wp2_with (go_at_call 32; refine (show Hid _ from ?_).out)
  refine lh ?_
  refine calls_world (fun W => Ext W7 W ∧ ReadsKy W W.heap.size (some ⟨W7.heap.size, 0, none⟩) [oneKey s]) ⟨(eR _).alloc _, reads_freshB kyE [oneKey s] W7 _ _ (by kernel_rfl) _ rfl⟩ ?_
  obtain ⟨rk, hrk⟩ : ∃ rk, W7.heap.size = rk := ⟨_, rfl⟩
  rw [hrk]
  rintro W8 ⟨x8, hrd⟩
  have HCk := echeck_any (some ⟨rk, 0, none⟩) 1 [oneKey s] (some ⟨g6, 0, none⟩) c6 (l6.set i e) W8 HRg.out hrd (by omega) (by omega) (HC7.out.on x8) (RowAt.ext HK.out (HX7.out.trans x8))
  rw [hset] at HCk
  refine HCk.mono ?_
  rintro r w9 ⟨rfl, hx9⟩
  have HX9 := lh ((HX7.out.trans x8).trans hx9)
  obtain ⟨hR2, hR1⟩ := HR.out
  generalize (checkAll [oneKey s] (l6.set i e)).1 = R1 at *
  generalize (checkAll [oneKey s] (l6.set i e)).2 = R2 at *
  have dR : (R2 != 0) = true := by simpa using hR2
  clear x8 hrd HCk hx9 HX7 HC7 HR k7 hset hR2
  rcases hR1 with hR1 | hR1
  ·subst hR1
   go_wp2_with (go_at_call 12; refine (HS.out _ (by (with_reducible repeat first|exact HX9.out|exact eR _|apply eD|apply eN|apply eA|apply eO|apply eS|apply eC);all_goals first|omega|simp <;> omega)).mono ?_; rintro e w' ⟨rfl, hxl⟩; obtain ⟨xl, rfl⟩ := hxl.asLater; clear hxl)
   go_ret
   exact ⟨rfl, (by (with_reducible repeat first|exact HX9.out|exact eR _|apply eD|apply eN|apply eA|apply eO|apply eS|apply eC);all_goals first|omega|simp <;> omega)⟩
  ·subst hR1
   have dne : ((i : Int) + 1 == (i : Int)) = false := by rw [beq_eq_false_iff_ne]; omega
   go_wp2_with (go_at_call 12; refine (HS.out _ (by (with_reducible repeat first|exact HX9.out|exact eR _|apply eD|apply eN|apply eA|apply eO|apply eS|apply eC);all_goals first|omega|simp <;> omega)).mono ?_; rintro e w' ⟨rfl, hxl⟩; obtain ⟨xl, rfl⟩ := hxl.asLater; clear hxl)
   go_ret
   exact ⟨rfl, (by (with_reducible repeat first|exact HX9.out|exact eR _|apply eD|apply eN|apply eA|apply eO|apply eS|apply eC);all_goals first|omega|simp <;> omega)⟩
 | true =>
  rw [hV] at HV
  cases hD : decide (D1 = D2) with
  | true =>
   rw [hD] at hq
   clear hV HCh hD
   refine wp_region_later (by kernel_rfl) (by kernel_rfl) ?_
   repeat (first | go_big_quiet_step ((first | (go_at_call 14; exact quietE (HV.out _ (HX3.out.onto _))) | (go_at_call 15; first | with_reducible exact quietE (HN.out _ (HX3.out.onto _)) | with_reducible exact quietE (HNi.out _ (ext_later _ _))))) | quiet_step ((first | (go_at_call 14; exact quietE (HV.out _ (HX3.out.onto _))) | (go_at_call 15; first | with_reducible exact quietE (HN.out _ (HX3.out.onto _)) | with_reducible exact quietE (HNi.out _ (ext_later _ _))))))
   refine wpQuiet_nil ?_
   rintro _ ⟨xq, rfl⟩
   go_wp2_with (go_at_call 12; refine (HS.out _ (by (with_reducible repeat first|exact HX3.out|exact eR _|apply eD|apply eN|apply eA|apply eO|apply eS|apply eC);all_goals first|omega|simp <;> omega)).mono ?_; rintro e w' ⟨rfl, hxl⟩; obtain ⟨xl, rfl⟩ := hxl.asLater; clear hxl)
   go_ret
   exact ⟨rfl, (by (with_reducible repeat first|exact HX3.out|exact eR _|apply eD|apply eN|apply eA|apply eO|apply eS|apply eC);all_goals first|omega|simp <;> omega)⟩
  | false =>
   rw [hD] at hq
   have HR := lh (HCh.out (fun _ => of_decide_eq_false hD))
   clear hV HCh hD
   refine wp_region_later (by kernel_rfl) (by kernel_rfl) ?_
   repeat (first | go_big_quiet_step ((first | (go_at_call 14; exact quietE (HV.out _ (HX3.out.onto _))) | (go_at_call 15; first | with_reducible exact quietE (HN.out _ (HX3.out.onto _)) | with_reducible exact quietE (HNi.out _ (ext_later _ _))))) | quiet_step ((first | (go_at_call 14; exact quietE (HV.out _ (HX3.out.onto _))) | (go_at_call 15; first | with_reducible exact quietE (HN.out _ (HX3.out.onto _)) | with_reducible exact quietE (HNi.out _ (ext_later _ _))))))
   refine wpQuiet_nil ?_
   rintro _ ⟨xq, rfl⟩
   go_upto_region 11 with (at_builtin; refine (show Hid _ from ?_).out)
   refine lh ?_
   refine app_reads epT epE rfl _ _ rfl w3.heap.size _ _ [] rfl (show OwnsEp w3.heap.size ((later w3 xq).alloc (.cells #[] 30)) (some ⟨w3.heap.size + xq.n, 0, none⟩) 0 [] from owns_fresh epE [] (later w3 xq) #[] (w3.heap.size + xq.n) w3.heap.size (later_size _ _).symm (by rw [later_size]; omega) rfl (by decide)) _ _ _ L rfl ((HC3.out.rd.on ((ext_later w3 xq).alloc _))) (fun h => by cases h) (by simp; omega) (by simp; omega) (by simp [World.size_alloc, later_size]; omega) ?_
   intro A6 c6 l6 w6 HL6 hO6 hB6 hl61 hl62 _
   have hL6 : l6 = L := by have h := HL6.out; simpa using h
   subst hL6
   have HX36 : Hid (Ext w3 w6) := lh (Ext.grown ((ext_later w3 xq).alloc _) hB6 (Nat.le_refl _))
   have HO6 := lh hO6
   clear hO6 hB6 hl61 hl62 HL6
   obtain ⟨g6, rfl, hg6, hg6l, m6⟩ := owns_row HO6.out i hiL
   have HX6 := lh (HX3.out.trans HX36.out)
   have HU06 := lh (HU03.out.ext HX36.out)
   have HU16 := lh (HU13.out.ext HX36.out)
   have k6 : rowOf w6 B 0 38 = some (epC e) := HU06.out.all rfl (by omega)
   have hs6 := HX36.out.size
   have hlB : B < w3.heap.size := by omega
   have hlg : g < w3.heap.size := HU13.out.lt
   have hOc := (Owns.cases HO6.out)
   have hlc : l6.length ≤ c6 := ownsEp_cap HO6.out
   have HR6 := lh (reads_setRow (HO6.out.reads epE) i hiL e)
   clear hOc ki kB HU03 HU13
   go_upto_region 12 with (fail)
   refine wp_world (fun W => Ext w3 W ∧ RowAt W g (kyC (oneKey s)) ∧ Reads 38 epL W W.heap.size (some ⟨g6, 0, none⟩) (l6.set i e)) ⟨Ext.setCells HX36.out hg6 _ _, HU16.out.others (by omega) _ _, by have h := HR6.out; rwa [show w6.heap.size = (w6.setCells g6 (i * 38) (epC e).toList).heap.size from (setCells_size _ _ _ _).symm] at h⟩ ?_
   rintro W7 ⟨x7, u7, r7⟩
   have HX7 := lh (HX3.out.trans x7)
   have hl7 := u7.lt
   have k7 : rowOf W7 g 0 5 = some (kyC (oneKey s)) := u7.all rfl (by omega)
   have HC7 : Hid (ChAt W7 (some ⟨g6, 0, none⟩) (l6.set i e)) := lh ⟨r7, set_in (fun x hx => ⟨(HC3.out.ok x hx).1, (HC3.out.ok x hx).2.1, (HC3.out.ok x hx).2.2.on x7⟩) ⟨HOk.out, HEs.out, HA.out.on (HX3.out.trans x7)⟩⟩
   have hset : (l6.set i e).length = l6.length := by simp
   clear x7 u7 r7 HR6 HX6 HU06 HU16 k6 m6 HO6 HX36 HC3
   go_wp2_with (go_at_call 32; refine (show Hid _ from ?_).out)
   refine lh ?_
   refine calls_world (fun W => Ext W7 W ∧ ReadsKy W W.heap.size (some ⟨W7.heap.size, 0, none⟩) [oneKey s]) ⟨(eR _).alloc _, reads_freshB kyE [oneKey s] W7 _ _ (by kernel_rfl) _ rfl⟩ ?_
   obtain ⟨rk, hrk⟩ : ∃ rk, W7.heap.size = rk := ⟨_, rfl⟩
   rw [hrk]
   rintro W8 ⟨x8, hrd⟩
   have HCk := echeck_any (some ⟨rk, 0, none⟩) 1 [oneKey s] (some ⟨g6, 0, none⟩) c6 (l6.set i e) W8 HRg.out hrd (by omega) (by omega) (HC7.out.on x8) (RowAt.ext HK.out (HX7.out.trans x8))
   rw [hset] at HCk
   refine HCk.mono ?_
   rintro r w9 ⟨rfl, hx9⟩
   have HX9 := lh ((HX7.out.trans x8).trans hx9)
   obtain ⟨hR2, hR1⟩ := HR.out
   generalize (checkAll [oneKey s] (l6.set i e)).1 = R1 at *
   generalize (checkAll [oneKey s] (l6.set i e)).2 = R2 at *
   have dR : (R2 != 0) = true := by simpa using hR2
   clear x8 hrd HCk hx9 HX7 HC7 HR k7 hset hR2
   rcases hR1 with hR1 | hR1
   ·subst hR1
    go_wp2_with (go_at_call 12; refine (HS.out _ (by (with_reducible repeat first|exact HX9.out|exact eR _|apply eD|apply eN|apply eA|apply eO|apply eS|apply eC);all_goals first|omega|simp <;> omega)).mono ?_; rintro e w' ⟨rfl, hxl⟩; obtain ⟨xl, rfl⟩ := hxl.asLater; clear hxl)
    go_ret
    exact ⟨rfl, (by (with_reducible repeat first|exact HX9.out|exact eR _|apply eD|apply eN|apply eA|apply eO|apply eS|apply eC);all_goals first|omega|simp <;> omega)⟩
   ·subst hR1
    have dne : ((i : Int) + 1 == (i : Int)) = false := by rw [beq_eq_false_iff_ne]; omega
    go_wp2_with (go_at_call 12; refine (HS.out _ (by (with_reducible repeat first|exact HX9.out|exact eR _|apply eD|apply eN|apply eA|apply eO|apply eS|apply eC);all_goals first|omega|simp <;> omega)).mono ?_; rintro e w' ⟨rfl, hxl⟩; obtain ⟨xl, rfl⟩ := hxl.asLater; clear hxl)
    go_ret
    exact ⟨rfl, (by (with_reducible repeat first|exact HX9.out|exact eR _|apply eD|apply eN|apply eA|apply eO|apply eS|apply eC);all_goals first|omega|simp <;> omega)⟩
end Go.Proofs.YtpojnhikgjcgmaaGreatDoor

namespace Go.Proofs.YtpojnhikgjcgmaaGreatDoor
open Go.ChangeShapes Go.WideShapes Go.ChangeAt Go.ChangeMaps Go.RowKit
open Go.Proofs
theorem laidEc {W : World} (h : laidMetH Tryz.prog Rows.epochChangesAreSeenRow.laid W) : Konst 0 W ∧ RKonst W := by
 rw [MakeChecks.laidMetH_plain _ _ _ (by kernel_rfl)] at h
 obtain ⟨ps, ⟨ga, ta, csa, fa, pa, qa, hga, hta, hva, hda, ⟨g0, t0, cs0, f0, p0, q0, hg0, ht0, hv0, hd0, ⟨g1, t1, cs1, f1, p1, q1, hg1, ht1, hv1, hd1, _, rfl⟩, rfl⟩, rfl⟩, _, hf⟩ := h
 obtain rfl := Option.some.inj ((show Tryz.prog.globalNamed "weirgate/weirgateref02.constants" = some 1 by kernel_rfl).symm.trans hg0)
 obtain rfl := Option.some.inj ((show Tryz.prog.globalNamed "weirgate/hash.constants" = some 0 by kernel_rfl).symm.trans hg1)
 obtain rfl := Option.some.inj ((show (Tryz.prog.globals[(1 : Nat)]?).map (·.type) = some 258 by kernel_rfl).symm.trans ht0)
 obtain rfl := Option.some.inj ((show (Tryz.prog.globals[(0 : Nat)]?).map (·.type) = some 258 by kernel_rfl).symm.trans ht1)
 rw [laidRK] at hd0
 rw [laidK] at hd1
 exact ⟨table_at hg1 hv1 hd1 (fun x hx => by simp [hx]) hf, table_at hg0 hv0 hd0 (fun x hx => by simp [hx]) hf⟩
theorem epochChangesAreSeen_lifted (os : Os) (started : os.Started) (H : Type) (enc : TypeId × Value → H) :
  ReturnsInHanded {} Tryz.checked os 6 .any (fun w args => (Rows.epochChangesAreSeenSpec.pre enc Tryz.prog Tryz.f6 Rows.epochChangesAreSeenRow.domain false w args ∧ laidMetH Tryz.prog Rows.epochChangesAreSeenRow.laid w) ∧ sizedMet enc Tryz.prog Tryz.f6 (OpenSpec.ofChange Rows.epochChangesAreSeenSpec) false w args)
   (Rows.epochChangesAreSeenSpec.post enc Tryz.prog Tryz.f6 false true false false) := by
 refine returnsInHanded_of_change_and (C := Tryz.checked) (X := fun w _ => laidMetH Tryz.prog Rows.epochChangesAreSeenRow.laid w) (fun _ _ _ hh h => h.of_heap hh) Tryz.own started (by kernel_rfl) Tryz.func6
  (ChangeSpec.witness_shaped (enc := enc) (C := Tryz.checked) (os := os) (X := fun w _ => laidMetH Tryz.prog Rows.epochChangesAreSeenRow.laid w) false (World.laidAll Tryz.prog os Rows.epochChangesAreSeenRow.laid) #[.string ByteArray.empty, .slice none 0 0, .agg (epC noEp), .int .u8 0] 8 (World.laidAll_os _ _ _)
   (World.shaped_of_ZipB (by kernel_rfl) (by kernel_rfl)) (by kernel_rfl) (by kernel_rfl) (by kernel_rfl)
   (by rw [MakeChecks.laidMetH_plain _ _ _ (by kernel_rfl)]; exact laidMet_laidAll _ (by kernel_rfl) (by kernel_rfl))) ?_
 intro W base args ds gs before hval0 hW hcnd hSz hL _
 have hval : ∀ (j : Nat) t v, Tryz.f6.params[j]? = some t → args[j]? = some v → Value.okWide Tryz.prog W .any base t v := hval0
 have hW' := hW
 obtain ⟨p, q, hA0, hV, rfl, hfz, hnd⟩ := hW
 have hA : DataW.TrodAll enc Tryz.prog W 0 (fun _ => true) true Tryz.f6.params.toList args.toList ds p := hA0
 rw [Tryz.params6] at hA hval
 obtain ⟨rfl, rfl⟩ := trodVars_none hV
 clear hA0 hval0 hcnd
 obtain ⟨v0, vs0, d0, ds0, p0, q0, ea0, rfl, rfl, h0, hA⟩ := trodAll_cons hA
 obtain ⟨v1, vs1, d1, ds1, p1, q1, rfl, rfl, rfl, h1, hA⟩ := trodAll_cons hA
 obtain ⟨v2, vs2, d2, ds2, p2, q2, rfl, rfl, rfl, h2, hA⟩ := trodAll_cons hA
 obtain ⟨v3, vs3, d3, ds3, p3, q3, rfl, rfl, rfl, h3, hA⟩ := trodAll_cons hA
 obtain ⟨rfl, rfl, rfl⟩ := trodAll_nil hA
 obtain rfl : args = #[v0, v1, v2, v3] := by cases args; simp_all
 obtain ⟨hk, hrk⟩ := laidEc hL
 obtain ⟨s, rfl, _, _, hs⟩ := open_string Tryz.underlying9 (hval 0 9 v0 rfl rfl) h0
 obtain ⟨A, c, l, rfl, hl, hc⟩ := open_eps (hval 1 45 v1 rfl rfl) h1
 obtain ⟨e, rfl, he⟩ := open_ep (hval 2 30 v2 rfl rfl) h2
 obtain ⟨n, rfl, _, _, hn⟩ := open_int Tryz.underlying5 (hval 3 5 v3 rfl rfl) h3
 have hn2 : 0 ≤ n ∧ n < 256 := by simp [Lit.wf, IntKind.min, IntKind.max, IntKind.signed, IntKind.bits] at hn; omega
 obtain ⟨hok, ha⟩ := ep_ok he
 have main := changes_ok s A c l e n W (by unfold maxLen at hs; omega) hl hc hok ha hn2.1 hn2.2 hk hrk
 refine main.mono fun e' W' ⟨he, hx⟩ => ?_
 subst he
 exact ⟨_, rfl, law_post Tryz.laidOut (by kernel_rfl) rfl hW' hx 4 (by kernel_rfl) Tryz.underlying4 rfl rfl rfl⟩
end Go.Proofs.YtpojnhikgjcgmaaGreatDoor