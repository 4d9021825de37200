/- Walks of the program's Merge: statements alike; and Merge at any two entries. -/
import Derived.Test.YtpjacgcaibaggaaGreatDoorProg
import Derived.Test.YtpjacgcaibaggaaGreatDoorExt
import Derived.WalkKit
import Derived.WalkSpells
import Derived.WalkLawsBesides
import Derived.Deep.QuietTactic
import Derived.BigQuiet
import Derived.Test.YtpjacgcaibaggaaGreatDoorSoft
import Derived.Test.YtpjacgcaibaggaaGreatDoorMq
import Derived.Test.YtpjacgcaibaggaaGreatDoorMm
set_option linter.unusedVariables false
set_option linter.unusedSimpArgs false
namespace Go.Proofs.YtpjacgcaibaggaaGreatDoor
open Go.RowKit
/-- Each operation before the last of the head is waited for within the head; each behind the head waits for one between the head's last and itself. -/
def tail2B (ops : Array Oper) (n : Nat) : Bool :=
  decide (0 < n) && ((List.range (n - 1)).all fun i => (List.range n).any fun j => decide (i < j) && Region.waitsFor .any ops j i) &&
  ((List.range ops.size).all fun t => decide (t < n) || (List.range t).any fun j => decide (n - 1 ≤ j) && Region.waitsFor .any ops t j)
theorem tail2_waits {ops : Array Oper} {n : Nat} {listed : Array Bool} (hB : tail2B ops n = true) (inv : HeadInv .any ops n listed) {i : Nat} (hi : i < n) (hun : listed.getD i true = false) : ∀ t, n ≤ t → t ∉ Region.ready .any ops listed := by
  intro t ht hr
  simp only [tail2B, Bool.and_eq_true, decide_eq_true_eq, List.all_eq_true, List.mem_range, Bool.or_eq_true, List.any_eq_true] at hB
  obtain ⟨⟨h0, hs⟩, hc⟩ := hB
  obtain ⟨_, ot, hot, hall⟩ := mem_ready.1 hr
  have htlt : t < ops.size := (Array.getElem?_eq_some_iff.1 hot).1
  have hlast : listed.getD (n - 1) false = true := by
    rcases hc t htlt with k | ⟨j, hj, hnj, hw⟩
    · omega
    · obtain ⟨oj, hoj, e, he, hb, hon⟩ := Region.waitsFor_spec hw
      have : oj = ot := Option.some.inj (hoj.symm.trans hot)
      subst this
      have h2 := hall e he hb
      rw [hon] at h2
      by_cases hjn : n ≤ j
      · have h3 := inv.tail j hjn (by omega)
        rw [getD_both h3] at h2
        cases h2
      · have : j = n - 1 := by omega
        subst this
        exact h2
  have hdown : ∀ d i, n - 1 - i = d → i < n → listed.getD i false = true := by
    intro d
    induction d using Nat.strongRecOn with
    | _ d ih =>
      intro i hd hi
      by_cases hin : i = n - 1
      · rw [hin]; exact hlast
      · obtain ⟨j, hj, hij, hw⟩ := hs i (by omega)
        obtain ⟨oj, hoj, e, he, hb, hon⟩ := Region.waitsFor_spec hw
        have hl := ih (n - 1 - j) (by omega) j rfl hj
        have := inv.closed j oj hoj hl e he hb
        rwa [hon] at this
  have := hdown _ i rfl hi
  rw [getD_both hun] at this
  cases this
def softR (l : List Oper) (n : Nat) : Bool :=
  decide (n < l.length) && tail2B l.toArray n &&
  ((List.range n).all fun i => (depsOf l i).all (fun j => decide (j < i))) &&
  ((List.range n).all fun i => (List.range n).all fun j => decide (j = i) || decide (dstOf l j ≠ dstOf l i) || decide (dstOf l j = none))
section
variable {P : Program} {id : Nat} {Q : Exit → Act → World → Prop} {a0 : Act} {w0 : World} {l : List Oper}
theorem wpAny_softR {n : Nat} (L : Nat → Soft) (hB : softR l n = true)
    (hop : ∀ i, i < n → ∀ o, l[i]? = some o → ∀ xs w, Ext w0 w → (∀ j, j ∈ depsOf l i → (L j).S (xs j) w) → ∀ Q' : Exit → Act → World → Prop, (∀ v w', Ext w w' → (L i).S v w' → Q' .normal ((fillAt l a0 xs n).put o.dst v) w') → wpList P l.toArray Q' [o] (fillAt l a0 xs n) w)
    (hend : ∀ xs w, Ext w0 w → (∀ i, i < n → (L i).S (xs i) w) → wpAny P .any l.toArray Q (l.length - n) (fullL l.length n) (fillAt l a0 xs n) w) :
    ∀ (f : Nat) (listed : Array Bool) (xs : Nat → Value) (w : World), HeadInv .any l.toArray n listed → cntU listed n = f → Ext w0 w → (∀ i, i < n → listed.getD i false = true → (L i).S (xs i) w) →
      wpAny P .any l.toArray Q (f + (l.length - n)) listed (fillAt l a0 xs n) w := by
  simp only [softR, Bool.and_eq_true, decide_eq_true_eq, List.all_eq_true, List.mem_range, Bool.or_eq_true] at hB
  obtain ⟨⟨⟨hn, hT⟩, hdeps⟩, hdst⟩ := hB
  have hn' : n < l.toArray.size := by simpa using hn
  intro f
  induction f with
  | zero =>
    intro listed xs w inv hcnt hx hS
    have hall := cnt_zero n hcnt
    have he : listed = fullL l.length n := by
      have hsz := inv.size
      apply Array.ext (by rw [hsz]; simp [fullL])
      intro i h1 h2
      have hil : i < l.length := by rw [hsz] at h1; simpa using h1
      have e2 : (fullL l.length n)[i] = decide (i < n) := by simp [fullL]
      rw [e2]
      by_cases hi : i < n
      · have := hall i hi
        simp [h1] at this
        rw [this]; simp [hi]
      · have := inv.tail i (by omega) (by simpa using hil)
        simp [h1] at this
        rw [this]; simp [hi]
    rw [Nat.zero_add]
    rw [he]
    exact hend xs w hx (fun i hi => hS i hi (hall i hi))
  | succ f ih =>
    intro listed xs w inv hcnt hx hS
    obtain ⟨i0, hi0, hu0, hmin⟩ := cnt_pos n (by omega : 0 < cntU listed n)
    have hi0s : i0 < listed.size := by rw [inv.size]; omega
    have hu0' := getD_in hi0s hu0
    have hl0 : i0 < l.length := by omega
    have hready : i0 ∈ Region.ready .any l.toArray listed := by
      refine mem_ready.2 ⟨hu0', l[i0], by simp [hl0], fun e he hb => ?_⟩
      have hd : e.on ∈ depsOf l i0 := by
        simp only [depsOf, List.getElem?_eq_getElem hl0, Option.map_some, Option.getD_some, List.mem_map, List.mem_filter]
        exact ⟨e, ⟨by simpa using he, hb⟩, rfl⟩
      exact hmin _ (hdeps i0 hi0 _ hd)
    rw [show f + 1 + (l.length - n) = (f + (l.length - n)) + 1 by omega]
    refine ⟨fun h0 => (by rw [h0] at hready; cases hready), fun i hi => ?_⟩
    have hin : i < n := by
      rcases Nat.lt_or_ge i n with h | h
      · exact h
      · exact absurd hi (tail2_waits hT inv hi0 hu0' i h)
    obtain ⟨hun, o, ho, hall⟩ := mem_ready.1 hi
    have ho' : l[i]? = some o := by simpa using ho
    have hu := getD_both hun
    refine wpOp_of_one ho ?_
    refine hop i hin o ho' xs w hx (fun j hj => ?_) _ (fun v w' hx' hv => ?_)
    · have hji := hdeps i hin j hj
      refine hS j (by omega) ?_
      simp only [depsOf, ho', Option.map_some, Option.getD_some, List.mem_map, List.mem_filter] at hj
      obtain ⟨e, ⟨he, hb⟩, rfl⟩ := hj
      exact hall e (by simpa using he) hb
    · show wpAny P .any l.toArray Q (f + (l.length - n)) (listed.setIfInBounds i true) _ w'
      have ed : o.dst = dstOf l i := by simp [dstOf, ho']
      rw [ed, fill_put n hin (fun j hj hji => by
        rcases hdst i hin j hj with (h | h) | h
        · exact absurd h hji
        · exact .inl h
        · exact .inr h)]
      refine ih _ _ w' (inv.set hi hin) (by have := cnt_set (by rw [inv.size]; omega) hu n hin; omega) (hx.trans hx') (fun j hj hlj => ?_)
      by_cases e : j = i
      · subst e
        have : updAt xs j v j = v := by simp [updAt]
        rw [this]
        exact hv
      · have : updAt xs i v j = xs j := by simp [updAt, e]
        rw [this]
        rw [getD_set_ne false (Ne.symm e)] at hlj
        exact (L j).on _ _ _ (hS j hj hlj) hx'

theorem wp_region_softR (n : Nat) (L : Nat → Soft) (hm : P.follows .mixedOrders = true) (hB : softR l n = true)
    (hop : ∀ i, i < n → ∀ o, l[i]? = some o → ∀ xs w, Ext w0 w → (∀ j, j ∈ depsOf l i → (L j).S (xs j) w) → ∀ Q' : Exit → Act → World → Prop, (∀ v w', Ext w w' → (L i).S v w' → Q' .normal ((fillAt l a0 xs n).put o.dst v) w') → wpList P l.toArray Q' [o] (fillAt l a0 xs n) w)
    (hend : ∀ xs w, Ext w0 w → (∀ i, i < n → (L i).S (xs i) w) → wpAny P .any l.toArray Q (l.length - n) (fullL l.length n) (fillAt l a0 xs n) w) : (Code.region id l.toArray true).wp P Q a0 w0 := by
  refine wp_region_any hm ?_
  have hn : n < l.length := by
    simp only [softR, Bool.and_eq_true, decide_eq_true_eq] at hB
    exact hB.1.1.1
  have inv0 : HeadInv .any l.toArray n (Array.replicate l.toArray.size false) :=
    ⟨by simp, fun j oj _ hl => (by rw [getD_replicate_false] at hl; cases hl), fun t _ ht => getD_in (by simpa using ht) (getD_replicate_false _ _)⟩
  have hc0 : ∀ m, cntU (Array.replicate l.toArray.size false) m = m := by
    intro m
    induction m with
    | zero => rfl
    | succ m ih => rw [cntU, ih, getD_replicate_false]; rfl
  have := wpAny_softR (P := P) (Q := Q) (a0 := a0) (w0 := w0) L hB hop hend n _ (fun i => ((dstOf l i).map fun t => a0.tmps.getD t undef).getD undef) { w0 with drawn := w0.drawn + 1 } inv0 (hc0 n) (Ext.drew (Ext.refl w0)) (fun i _ hl => (by rw [getD_replicate_false] at hl; cases hl))
  rw [fill_self] at this
  have e : n + (l.length - n) = l.toArray.size := by simp; omega
  rwa [e] at this
end
end Go.Proofs.YtpjacgcaibaggaaGreatDoor

namespace Go.Proofs.YtpjacgcaibaggaaGreatDoor
open Go.RowKit Go.Shelf
open Go.Proofs
open Go.Proofs.Sp (Sp)

set_option maxRecDepth 100000 in
set_option maxHeartbeats 400000 in
theorem emerge_name (a b : En) (A B : Option Addr) (ca cb : Nat) (la lb : List Sp) (w : World) (ha : VIn a A ca la w) (hb : VIn b B cb lb w) (h : ¬ (a.st.addr = b.st.addr ∧ a.st.var = b.st.var)) :
    Calls Tryz.prog 30 #[.agg (entC a), .agg (entC b)] w fun e' w' => e' = .returned (.tuple #[.agg (entC noEn), .int .i64 5]) ∧ Ext w w' := by
  have hf : fitsRow 45 (entC noEn) = true := ent_fits_of (e := noEn) rfl
  have hfa : fitsRow 45 (entC a) = true := ent_fits_of ha.hv
  have hfb : fitsRow 45 (entC b) = true := ent_fits_of hb.hv
  clear ha hb
  cases h1 : (a.st.addr.toList == b.st.addr.toList) with
  | false =>
    clear h
    go_enter Tryz.func30, Tryz.ntmps30
    go_wp2
    refine post_two (v1 := .agg (entC noEn)) (v2 := .int .i64 5) Tryz.results30 rfl ⟨_, rfl, ent_loaded (row_stored (RowAt.newAt (cs := entC noEn) (t := 58) (by simp)) (ent_size _) (ent_size _))⟩ rfl ⟨rfl, Ext.setCells ((((Ext.refl w).alloc _).alloc _).alloc _) (by omega) _ _⟩
  | true =>
    have h2 : (a.st.var.toList == b.st.var.toList) = false := by
      rw [str_beq] at h1 ⊢
      simp only [decide_eq_true_eq] at h1
      simp only [decide_eq_false_iff_not]
      exact fun k => h ⟨h1, k⟩
    clear h
    go_enter Tryz.func30, Tryz.ntmps30
    go_wp2
    refine post_two (v1 := .agg (entC noEn)) (v2 := .int .i64 5) Tryz.results30 rfl ⟨_, rfl, ent_loaded (row_stored (RowAt.newAt (cs := entC noEn) (t := 58) (by simp)) (ent_size _) (ent_size _))⟩ rfl ⟨rfl, Ext.setCells ((((Ext.refl w).alloc _).alloc _).alloc _) (by omega) _ _⟩
theorem alloc_setCells_at (w : World) (c cs : Array Value) (t : TypeId) (b m j : Nat) : ((w.alloc (.cells c t)).setCells b 0 cs.toList).cell? ⟨m, j, none⟩ = if m = b then (if b = w.heap.size then (if cs.size = c.size then cs[j]? else lostCell ((w.alloc (.cells c t)).setCells b 0 cs.toList) m j) else lostCell ((w.alloc (.cells c t)).setCells b 0 cs.toList) m j) else (w.alloc (.cells c t)).cell? ⟨m, j, none⟩ := by
  by_cases h : m = b
  · rw [if_pos h]
    by_cases hb : b = w.heap.size
    · rw [if_pos hb]
      by_cases hs : cs.size = c.size
      · rw [if_pos hs, h]
        exact ((RowAt.newAt hb).store hs).cell j
      · rw [if_neg hs]; rfl
    · rw [if_neg hb]; rfl
  · rw [if_neg h, setCells_cell_if, if_neg (fun k => h k.1)]
attribute [local go_sem ↓] setCells_cell_or
attribute [local go_sem ↓ 2000] alloc_setCells_at
theorem row_ext {w w' : World} (hx : Ext w w') {b : Nat} (hb : b < w.heap.size) (o n : Nat) : rowOf w' b o n = rowOf w b o n := rowOf_congr (fun i _ => hx.cell (p := ⟨b, o + i, none⟩) hb)
def ent2 (e f : En) : Array Value := ⟨(entC e).toList ++ (entC f).toList⟩
def twoEnt (x y : Value) : Sem Next := do pure (.value (← Instr.buildSlice 124 2 #[(0, x), (1, y)]))
theorem twoEnt_x (ρ : Operand → Value) (dst : Option Tmp) (x y : Operand) (t : TypeId) (pos : String) (after : Array Edge) (guard : Option (Nat × Bool)) : execOp ρ { dst, op := .buildSlice 124 2 #[(0, x), (1, y)], type := t, pos, after, guard } = twoEnt (ρ x) (ρ y) := by kernel_rfl
theorem twoEnt_run (e f : En) (W : World) : (twoEnt (.agg (entC e)) (.agg (entC f))).run Tryz.prog W = .ok (.value (.slice (some ⟨W.heap.size, 0, none⟩) 2 2)) (W.alloc (.cells (ent2 e f) 58)) := by kernel_rfl
attribute [local go_sem ↓] twoEnt_x
attribute [local go_sem] twoEnt_run
theorem ent2_a (e f : En) : rowSub (ent2 e f) 0 45 = some (entC e) := by kernel_rfl
theorem ent2_b (e f : En) : rowSub (ent2 e f) 45 45 = some (entC f) := by kernel_rfl
def bytSoft (base : Nat) (s : ByteArray) : Soft := ⟨fun v w => ∃ g c, v = .slice (some ⟨g, 0, none⟩) s.size c ∧ base ≤ g ∧ s.size ≤ c ∧ ByteAt w g (bts s), fun v w w' ⟨g, c, h1, h2, h3, h4⟩ hx => ⟨g, c, h1, h2, h3, h4.ext hx⟩⟩
def tupSoft (R : Res) (base : Nat) : Soft := ⟨fun v w => ∃ u, v = .tuple #[u, .int .i64 R.n] ∧ (resSoft R base).S u w, fun v w w' ⟨u, h1, h2⟩ hx => ⟨u, h1, (resSoft R base).on u w w' h2 hx⟩⟩
def softsE (L : List Soft) (i : Nat) : Soft := L.getD i Soft.any
def EMrgRel (n0 : Nat) (W3 : World) (a b : En) (la lb : List Sp) (g : Nat) (i v : Value) (wr : World) : Prop := ∃ (k : Nat) (A' : Option Addr) (c' : Nat) (out : List Sp), k ≤ lb.length ∧ i = .int .i64 k ∧ v = .slice A' out.length c' ∧ Hid (out = addAll la (lb.take k)) ∧ Hid (Keep n0 (g + 1) wr A' c' out) ∧ Hid (ByteAt wr g (bts (mrgB b.bytes (lb.take k) a.bytes))) ∧ Hid (Ext W3 wr)
theorem eadd_is (A : Option Addr) (c : Nat) (l : List Sp) (s : Sp) (W : World) (n : Int) (hsi : SetIn l n) (hn : n ≤ 65536) (hn0 : 0 ≤ n) (h0 : 0 ≤ s.1) (h1 : s.1 < s.2) (h2 : s.2 ≤ n) (hA : plainA A) (hr : ReadsSp W W.heap.size A l) :
    Calls Tryz.prog 64 #[.slice A l.length c, .agg #[.int .i64 s.1, .int .i64 s.2]] W fun e w' => ∃ A' c', e = .returned (.slice A' (Sp.rAdd l s).length c') ∧ OwnsSp W.heap.size w' A' c' (Sp.rAdd l s) ∧ Ext W w' := by
  have hll := hsi.len hn0
  refine (add_any A c l s W hA (fun t ht => ?_) (by omega) hr).mono ?_
  · rcases List.mem_append.1 ht with k | k
    · have i1 := hsi.1.2 t k
      have i2 := hsi.2 t k
      omega
    · simp at k; subst k; omega
  rintro e w' ⟨A', c', out, rfl, HS, _, ho, hx⟩
  have hset := of_set HS.out
  have hadd := Sp.rAdd_spec hsi.1 s
  have eo : out = Sp.rAdd l s := Sp.IsSet.ext hset.1 hadd.1 (fun x => (hset.2 x).trans (((Sp.mem_append _ _ x).trans (or_congr Iff.rfl (Sp.mem_one _ x))).trans (hadd.2 x).symm))
  subst eo
  exact ⟨A', c', rfl, ho, hx⟩
set_option maxRecDepth 100000 in
set_option maxHeartbeats 4000000 in
theorem emerge_gt (a b : En) (A B : Option Addr) (ca cb : Nat) (la lb : List Sp) (w : World) (ha : VIn a A ca la w) (hb : VIn b B cb lb w) (h : a.st.addr = b.st.addr ∧ a.st.var = b.st.var) (hk : Konst 0 w) (hc : 0 < cmpN a.st b.st) :
    Calls Tryz.prog 30 #[.agg (entC a), .agg (entC b)] w fun e' w' => PutIs (mergeN a b la lb) e' w w' := by
  have e1 : decide (cmpN a.st b.st < 0) = false := by simp; omega
  have e2 : decide (cmpN a.st b.st = 0) = false := by simp; omega
  have HBest : Hid (bestN a b la lb = ⟨a, la, 0⟩) := Lib.hid (by unfold bestN; rw [if_neg (by omega), if_neg (by omega)])
  clear hc
  have hfa : fitsRow 45 (entC a) = true := ent_fits_of ha.hv
  have hfb : fitsRow 45 (entC b) = true := ent_fits_of hb.hv
  have HA := Lib.hid ha
  have HB := Lib.hid hb
  have HK := Lib.hid hk
  have HBt := Lib.hid (fun W => better_any b.st a.st W hb.hb hb.hs ha.hb ha.hs)
  have HCp := Lib.hid (fun W => compare_any a.st b.st W ha.hb ha.hs hb.hb hb.hs)
  have HSm := Lib.hid (fun W => same_is a.st b.st W ha.hb hb.hb ha.hby hb.hby)
  have n1 : (a.st.addr.toList == b.st.addr.toList) = true := by rw [str_beq]; simpa using h.1
  have n2 : (a.st.var.toList == b.st.var.toList) = true := by rw [str_beq]; simpa using h.2
  have q1 : decide (0 < cmpN b.st a.st) = decide (cmpN a.st b.st < 0) := by rw [cmpN_anti a.st b.st, decide_eq_decide]; omega
  have q2 : (cmpN a.st b.st == 0) = decide (cmpN a.st b.st = 0) := by rw [Bool.eq_iff_iff]; simp
  have HN := Lib.hid h
  rw [q1, e1] at HBt
  generalize cmpN a.st b.st = cc at *
  rw [e2] at q2
  clear ha hb hk h q1 e1 e2
  go_enter Tryz.func30, Tryz.ntmps30
  go_upto_region 4 with (fail)
  refine wp_world (fun W => Ext w W ∧ RowAt W w.heap.size (entC a) ∧ RowAt W (w.heap.size + 1) (entC b) ∧ RowAt W (w.heap.size + 1 + 1) (entC noEn) ∧ RowAt W (w.heap.size + 1 + 1 + 1) (entC a)) ⟨(by (repeat (first | with_reducible exact Ext.refl _ | with_reducible exact Ext.refl _ | with_reducible refine Ext.drew ?_ | with_reducible refine Ext.drewN ?_ _ | with_reducible refine Ext.alloc ?_ _ | with_reducible refine Ext.onto ?_ _ | (with_reducible refine Ext.setCells ?_ ?_ _ _; rotate_left; focus (first | omega | (simp; done) | (simp; omega))) | (with_reducible refine Ext.setCell ?_ ?_ _; rotate_left; focus (first | omega | (simp; done) | (simp; omega)))))), (by (repeat (first | with_reducible exact RowAt.new _ _ _ | with_reducible refine RowAt.drew ?_ | with_reducible refine RowAt.later ?_ _ | with_reducible exact RowAt.newAt (by first | rfl | omega | (simp [later_size, setCells_size]; done) | (simp [later_size, setCells_size]; omega)) | with_reducible refine RowAt.alloc ?_ _ | with_reducible apply RowAt.store | with_reducible refine RowAt.others ?_ ?_ _ _ | with_reducible refine RowAt.other ?_ ?_ _)); all_goals first | omega | (simp; done) | (simp; omega) | (simp [go_sem]; done)), (by (repeat (first | with_reducible exact RowAt.new _ _ _ | with_reducible refine RowAt.drew ?_ | with_reducible refine RowAt.later ?_ _ | with_reducible exact RowAt.newAt (by first | rfl | omega | (simp [later_size, setCells_size]; done) | (simp [later_size, setCells_size]; omega)) | with_reducible refine RowAt.alloc ?_ _ | with_reducible apply RowAt.store | with_reducible refine RowAt.others ?_ ?_ _ _ | with_reducible refine RowAt.other ?_ ?_ _)); all_goals first | omega | (simp; done) | (simp; omega) | (simp [go_sem]; done)), (by (repeat (first | with_reducible exact RowAt.new _ _ _ | with_reducible refine RowAt.drew ?_ | with_reducible refine RowAt.later ?_ _ | with_reducible exact RowAt.newAt (by first | rfl | omega | (simp [later_size, setCells_size]; done) | (simp [later_size, setCells_size]; omega)) | with_reducible refine RowAt.alloc ?_ _ | with_reducible apply RowAt.store | with_reducible refine RowAt.others ?_ ?_ _ _ | with_reducible refine RowAt.other ?_ ?_ _)); all_goals first | omega | (simp; done) | (simp; omega) | (simp [go_sem]; done)), (RowAt.newAt (cs := entC noEn) (t := 58) (by simp)).store (by rw [ent_size, ent_size])⟩ ?_
  rintro W0 ⟨x0, r0, r1, r2, r3⟩
  have HX0 := Lib.hid x0
  have HR0 := Lib.hid r0
  have HR1 := Lib.hid r1
  have HR2 := Lib.hid r2
  have HR3 := Lib.hid r3
  have hl0 := r0.lt
  have hl1 := r1.lt
  have hl2 := r2.lt
  have hl3 := r3.lt
  have row0 : rowOf W0 w.heap.size 0 41 = some (stmC a.st) := by rw [r0.row, if_neg (by omega), ent_stm]
  have row1 : rowOf W0 (w.heap.size + 1) 0 41 = some (stmC b.st) := by rw [r1.row, if_neg (by omega), ent_stm]
  have row1e : rowOf W0 (w.heap.size + 1) 0 45 = some (entC b) := r1.all (ent_size _).symm (by omega)
  have room3 : roomOf W0 (w.heap.size + 1 + 1 + 1) 0 45 = true := by rw [r3.room, ent_size]; rfl
  clear x0 r0 r1 r2 r3 n1 n2
  go_upto_region 6 with (go_at_call 66; refine (HBt.out _).mono ?_; rintro e w' ⟨rfl, hxl⟩; obtain ⟨xl, rfl⟩ := hxl.asLater; clear hxl)
  refine wp_world (fun W => Ext w W ∧ RowAt W w.heap.size (entC a) ∧ RowAt W (w.heap.size + 1) (entC b) ∧ RowAt W (w.heap.size + 1 + 1) (entC noEn) ∧ RowAt W (w.heap.size + 1 + 1 + 1) (entC a)) ⟨HX0.out.onto _, HR0.out.later _, HR1.out.later _, HR2.out.later _, HR3.out.later _⟩ ?_
  clear hl0 hl1 hl2 hl3 row0 row1 row1e room3 HX0 HR0 HR1 HR2 HR3
  rintro W1 ⟨x1, r0, r1, r2, r3⟩
  have HX1 := Lib.hid x1
  have HR0 := Lib.hid r0
  have HR1 := Lib.hid r1
  have HR2 := Lib.hid r2
  have HR3 := Lib.hid r3
  have hl0 := r0.lt
  have hl1 := r1.lt
  have hl2 := r2.lt
  have hl3 := r3.lt
  have x42 : W1.cell? ⟨w.heap.size + 1 + 1 + 1, 42, none⟩ = some (.slice A la.length ca) := by rw [← HA.out.hv]; exact (r3.cell 42).trans (ent_g42 a)
  have hlX := HA.out.val.len
  clear x1 r0 r1 r2 r3
  go_upto_region 9 with (first
    | (go_at_call 67; refine (clone_any A ca la _ HA.out.hA (by omega) (HA.out.hr.on HX1.out)).mono ?_; rintro e w2 ⟨A1, c1, rfl, ho, hx⟩; have HO := Lib.hid ho; have HXc := Lib.hid hx; have f42 := (HR3.out.ext hx).free 42; have g42 := (HR3.out.ext hx).cell 42; have f41 := (HR3.out.ext hx).free 41; have g41 := (HR3.out.ext hx).cell 41; have s0 : w2.cell? ⟨w.heap.size, 41, none⟩ = some (.bool a.soft) := ((HR0.out.ext hx).cell 41).trans (ent_g41 a); have s1 : w2.cell? ⟨w.heap.size + 1, 41, none⟩ = some (.bool b.soft) := ((HR1.out.ext hx).cell 41).trans (ent_g41 b); have row0 : rowOf w2 w.heap.size 0 41 = some (stmC a.st) := by rw [(HR0.out.ext hx).row, if_neg (by omega), ent_stm]
       have row1 : rowOf w2 (w.heap.size + 1) 0 41 = some (stmC b.st) := by rw [(HR1.out.ext hx).row, if_neg (by omega), ent_stm]
       have hsz2 := hx.size
       clear ho hx)
    | (go_at_call 68; refine (HCp.out _).mono ?_; rintro e w' ⟨rfl, hxl⟩; obtain ⟨xl, rfl⟩ := hxl.asLater; clear hxl))
  refine wp_world (fun W => Ext w W ∧ RowAt W w.heap.size (entC a) ∧ RowAt W (w.heap.size + 1) (entC b) ∧ RowAt W (w.heap.size + 1 + 1) (entC noEn) ∧ RowAt W (w.heap.size + 1 + 1 + 1) (entC { a with hv := .slice A1 la.length c1 }) ∧ OwnsSp (w.heap.size + 1 + 1 + 1 + 1) W A1 c1 la) ⟨((HX1.out.trans HXc.out).setCell (p := ⟨w.heap.size + 1 + 1 + 1, 42, none⟩) (by show w.heap.size ≤ w.heap.size + 1 + 1 + 1; omega) _).onto _, ((HR0.out.ext HXc.out).other (p := ⟨w.heap.size + 1 + 1 + 1, 42, none⟩) (by show w.heap.size ≠ w.heap.size + 1 + 1 + 1; omega) _).later _, ((HR1.out.ext HXc.out).other (p := ⟨w.heap.size + 1 + 1 + 1, 42, none⟩) (by show w.heap.size + 1 ≠ w.heap.size + 1 + 1 + 1; omega) _).later _, ((HR2.out.ext HXc.out).other (p := ⟨w.heap.size + 1 + 1 + 1, 42, none⟩) (by show w.heap.size + 1 + 1 ≠ w.heap.size + 1 + 1 + 1; omega) _).later _, by rw [← ent_set42]; exact ((HR3.out.ext HXc.out).set 42 _).later _, ((HO.out.other (p := ⟨w.heap.size + 1 + 1 + 1, 42, none⟩) (by show w.heap.size + 1 + 1 + 1 < _; omega) _).later _).lower (by omega)⟩ ?_
  clear f42 g42 f41 g41 s0 s1 row0 row1 x42 hl0 hl1 hl2 hl3 HX1 HR0 HR1 HR2 HR3 HO HXc hsz2 q2 HCp HBt
  rintro W2 ⟨x2, r0, r1, r2, r3, ho2⟩
  have HX2 := Lib.hid x2
  have HO2 := Lib.hid ho2
  obtain ⟨Y, hY⟩ : ∃ Y : En, ({ a with hv := .slice A1 la.length c1 } : En) = Y := ⟨_, rfl⟩
  have HY := Lib.hid hY
  rw [hY] at r3
  have hYv : Y.hv = .slice A1 la.length c1 := by rw [← hY]
  have HYw : Hid (Y.whole = (a).whole) := Lib.hid (by rw [← hY])
  have HYs : Hid (Y.st = (a).st) := Lib.hid (by rw [← hY])
  have hfY : fitsRow 45 (entC Y) = true := ent_fits_of hYv
  have HR0 := Lib.hid r0
  have HR1 := Lib.hid r1
  have HR2 := Lib.hid r2
  have HR3 := Lib.hid r3
  have hl0 := r0.lt
  have hl1 := r1.lt
  have hl2 := r2.lt
  have hl3 := r3.lt
  have rowY : rowOf W2 (w.heap.size + 1 + 1 + 1) 0 45 = some (entC Y) := r3.all (ent_size _).symm (by omega)
  have room2 : roomOf W2 (w.heap.size + 1 + 1) 0 45 = true := by rw [r2.room, ent_size]; rfl
  have row0 : rowOf W2 w.heap.size 0 41 = some (stmC a.st) := by rw [r0.row, if_neg (by omega), ent_stm]
  have row1 : rowOf W2 (w.heap.size + 1) 0 41 = some (stmC b.st) := by rw [r1.row, if_neg (by omega), ent_stm]
  have rowa : rowOf W2 w.heap.size 0 45 = some (entC a) := r0.all (ent_size _).symm (by omega)
  have rowb : rowOf W2 (w.heap.size + 1) 0 45 = some (entC b) := r1.all (ent_size _).symm (by omega)
  clear x2 r0 r1 r2 r3 ho2 hY
  cases hsm : sameN a.st b.st with
  | false =>
    rw [hsm] at HSm
    have HM : Hid (mergeN a b la lb = ⟨a, la, 0⟩) := Lib.hid (by rw [mergeN, if_neg (fun k => k HN.out), if_pos hsm, HBest.out])
    clear hsm
    go_wp2_with (go_at_call 69; refine (HSm.out _).mono ?_; rintro e w' ⟨rfl, hxl⟩; obtain ⟨xl, rfl⟩ := hxl.asLater; clear hxl)
    have hx : Ext w ((later W2 xl).setCells (w.heap.size + 1 + 1) 0 (entC Y).toList) := (HX2.out.onto _).setCells (by omega) _ _
    have ho : OwnsSp (w.heap.size + 1 + 1 + 1 + 1) ((later W2 xl).setCells (w.heap.size + 1 + 1) 0 (entC Y).toList) A1 c1 la := (HO2.out.later _).others (by omega) _ _
    refine post_two (v1 := .agg (entC Y)) (v2 := .int .i64 0) Tryz.results30 rfl ⟨_, rfl, ent_loaded (row_stored (HR2.out.later _) (ent_size _) (ent_size _))⟩ rfl ⟨A1, c1, by rw [HM.out, ← HY.out], OwnsSp.plain ho, ho.none0, by rw [HM.out]; exact ho.reads spE, hx⟩
  | true =>
    rw [hsm] at HSm
    go_upto_region 11 with (go_at_call 69; refine (HSm.out _).mono ?_; rintro e w' ⟨rfl, hxl⟩; obtain ⟨xl, rfl⟩ := hxl.asLater; clear hxl)
    go_wp2
    refine wp_world (fun W => Ext W2 W ∧ rowOf W (W2.heap.size + xl.n) 0 45 = some (entC a) ∧ rowOf W (W2.heap.size + xl.n) 45 45 = some (entC b) ∧ W2.heap.size + xl.n < W.heap.size) ⟨(by (repeat (first | with_reducible exact Ext.refl _ | with_reducible exact Ext.refl _ | with_reducible refine Ext.drew ?_ | with_reducible refine Ext.drewN ?_ _ | with_reducible refine Ext.alloc ?_ _ | with_reducible refine Ext.onto ?_ _ | (with_reducible refine Ext.setCells ?_ ?_ _ _; rotate_left; focus (first | omega | (simp; done) | (simp; omega))) | (with_reducible refine Ext.setCell ?_ ?_ _; rotate_left; focus (first | omega | (simp; done) | (simp; omega)))))), by rw [rowOf_alloc, if_pos (by simp [later_size]), if_neg (by omega), ent2_a], by rw [rowOf_alloc, if_pos (by simp [later_size]), if_neg (by omega), ent2_b], by simp [later_size]⟩ ?_
    have hB2 : W2.heap.size ≤ W2.heap.size + xl.n := by omega
    generalize W2.heap.size + xl.n = B3 at *
    rintro W3 ⟨x3, rA, rB, hB3⟩
    have HX3 := Lib.hid x3
    clear x3
    have hA44 : (entC a)[44]? = some (.bool a.whole) := ent_g44 a
    have hB44 : (entC b)[44]? = some (.bool b.whole) := ent_g44 b
    cases hwa : a.whole with
    | true =>
      rw [hwa] at hA44
      refine wp_loop_rounds 1 ?_
      rw [rounds_succ]
      go_wp2
      have HM : Hid (mergeN a b la lb = ⟨{ a with bytes := a.bytes, whole := true }, la, 0⟩) := Lib.hid (by rw [mergeN, if_neg (fun k => k HN.out), if_neg (by rw [hsm]; decide), if_pos hwa, HBest.out])
      clear hsm hwa
      refine wp_world (fun W => Ext W2 W ∧ RowAt W W3.heap.size (entC a)) ⟨(HX3.out.alloc _).setCells (by omega) _ _, (RowAt.newAt (cs := entC noEn) (t := 58) rfl).store (by rw [ent_size, ent_size])⟩ ?_
      have hE : w.heap.size + 1 + 1 + 1 < W3.heap.size := Nat.lt_of_lt_of_le hl3 HX3.out.size
      generalize W3.heap.size = E at *
      rintro W4 ⟨x4, rE⟩
      clear HX3 rA rB hB3 hB2
      have HX4 := Lib.hid x4
      have k42 : W4.cell? ⟨E, 42, none⟩ = some (.slice A la.length ca) := by rw [← HA.out.hv]; exact (rE.cell 42).trans (ent_g42 a)
      have k43 : W4.cell? ⟨E, 43, none⟩ = some (.string (a).bytes) := (rE.cell 43).trans (ent_g43 a)
      have hEl := rE.lt
      have hlA := HA.out.val.len
      have r3' := HR3.out.ext x4
      have f42 := r3'.free 42
      have f43 := r3'.free 43
      have f44 := r3'.free 44
      have g42 := (r3'.cell 42).trans (ent_g42 Y)
      have g43 := (r3'.cell 43).trans (ent_g43 Y)
      have g44 := (r3'.cell 44).trans (ent_g44 Y)
      have hl3' := r3'.lt
      clear x4 rE r3' hA44 hB44 rowY room2 row0 row1 rowa rowb
      go_region_with (go_at_call 67; refine (clone_any A ca la _ HA.out.hA (by omega) (HA.out.hr.on (HX2.out.trans (HX4.out.trans (by (repeat (first | with_reducible exact Ext.refl _ | with_reducible exact Ext.refl _ | with_reducible refine Ext.drew ?_ | with_reducible refine Ext.drewN ?_ _ | with_reducible refine Ext.alloc ?_ _ | with_reducible refine Ext.onto ?_ _ | (with_reducible refine Ext.setCells ?_ ?_ _ _; rotate_left; focus (first | omega | (simp; done) | (simp; omega))) | (with_reducible refine Ext.setCell ?_ ?_ _; rotate_left; focus (first | omega | (simp; done) | (simp; omega)))))))))).mono ?_; rintro e wc ⟨A5, c5, rfl, ho, hx⟩; have hxx := (show Ext W4 _ from (by (repeat (first | with_reducible exact Ext.refl _ | with_reducible exact Ext.refl _ | with_reducible refine Ext.drew ?_ | with_reducible refine Ext.drewN ?_ _ | with_reducible refine Ext.alloc ?_ _ | with_reducible refine Ext.onto ?_ _ | (with_reducible refine Ext.setCells ?_ ?_ _ _; rotate_left; focus (first | omega | (simp; done) | (simp; omega))) | (with_reducible refine Ext.setCell ?_ ?_ _; rotate_left; focus (first | omega | (simp; done) | (simp; omega))))))).trans hx; have HO5 := Lib.hid ho; have HX5 := Lib.hid hxx; have c43 := (hxx.cell (p := ⟨E, 43, none⟩) hEl).trans k43; have p42 := (hxx.frozen (p := ⟨w.heap.size + 1 + 1 + 1, 42, none⟩) hl3').trans f42; have p43 := (hxx.frozen (p := ⟨w.heap.size + 1 + 1 + 1, 43, none⟩) hl3').trans f43; have p44 := (hxx.frozen (p := ⟨w.heap.size + 1 + 1 + 1, 44, none⟩) hl3').trans f44; have q42 := (hxx.cell (p := ⟨w.heap.size + 1 + 1 + 1, 42, none⟩) hl3').trans g42; have q43 := (hxx.cell (p := ⟨w.heap.size + 1 + 1 + 1, 43, none⟩) hl3').trans g43; have q44 := (hxx.cell (p := ⟨w.heap.size + 1 + 1 + 1, 44, none⟩) hl3').trans g44; clear ho hx hxx)
      all_goals (go_upto_region 16 with (fail))
      all_goals
        refine wp_world (fun W => Ext w W ∧ RowAt W (w.heap.size + 1 + 1) (entC noEn) ∧ RowAt W (w.heap.size + 1 + 1 + 1) (entC { Y with hv := .slice A5 la.length c5, bytes := (a).bytes, whole := true }) ∧ OwnsSp (w.heap.size + 1 + 1 + 1 + 1) W A5 c5 la) ⟨?_, ?_, ?_, ?_⟩ ?_
        · have ht3 : w.heap.size ≤ w.heap.size + 1 + 1 + 1 := by omega
          exact (((HX2.out.trans (HX4.out.trans HX5.out)).setCell (p := ⟨w.heap.size + 1 + 1 + 1, 42, none⟩) ht3 _).setCell (p := ⟨w.heap.size + 1 + 1 + 1, 43, none⟩) ht3 _).setCell (p := ⟨w.heap.size + 1 + 1 + 1, 44, none⟩) ht3 _
        · have hne : w.heap.size + 1 + 1 ≠ w.heap.size + 1 + 1 + 1 := by omega
          exact (((HR2.out.ext (HX4.out.trans HX5.out)).other (p := ⟨w.heap.size + 1 + 1 + 1, 42, none⟩) hne _).other (p := ⟨w.heap.size + 1 + 1 + 1, 43, none⟩) hne _).other (p := ⟨w.heap.size + 1 + 1 + 1, 44, none⟩) hne _
        · have z1 := (HR3.out.ext (HX4.out.trans HX5.out)).set 42 (.slice A5 la.length c5)
          rw [ent_set42] at z1
          have z2 := z1.set 43 (.string (a).bytes)
          rw [ent_set43] at z2
          have z3 := z2.set 44 (.bool true)
          rw [ent_set44] at z3
          exact z3
        · have hlt : w.heap.size + 1 + 1 + 1 < w.heap.size + 1 + 1 + 1 + 1 := by omega
          exact (((HO5.out.lower (by have := HX4.out.size; have := HX5.out.size; first | omega | (simp; omega))).other (p := ⟨w.heap.size + 1 + 1 + 1, 42, none⟩) hlt _).other (p := ⟨w.heap.size + 1 + 1 + 1, 43, none⟩) hlt _).other (p := ⟨w.heap.size + 1 + 1 + 1, 44, none⟩) hlt _
        rintro W5 ⟨x5, r2, r3, ho5⟩
        have HX6 := Lib.hid x5
        have HR6 := Lib.hid r2
        have HO6 := Lib.hid ho5
        have rowY : rowOf W5 (w.heap.size + 1 + 1 + 1) 0 45 = some (entC { Y with hv := .slice A5 la.length c5, bytes := (a).bytes, whole := true }) := r3.all (ent_size _).symm (by omega)
        have room2 : roomOf W5 (w.heap.size + 1 + 1) 0 45 = true := by rw [r2.room, ent_size]; rfl
        have hl2' := r2.lt
        have hl3' := r3.lt
        have hfZ : fitsRow 45 (entC { Y with hv := .slice A5 la.length c5, bytes := (a).bytes, whole := true }) = true := ent_fits_of rfl
        clear x5 r2 r3 ho5 f42 f43 f44 g42 g43 g44 p42 p43 p44 q42 q43 q44 c43 k42 k43
        go_wp2
        have hx : Ext w (W5.setCells (w.heap.size + 1 + 1) 0 (entC { Y with hv := .slice A5 la.length c5, bytes := (a).bytes, whole := true }).toList) := HX6.out.setCells (by omega) _ _
        have ho : OwnsSp (w.heap.size + 1 + 1 + 1 + 1) (W5.setCells (w.heap.size + 1 + 1) 0 (entC { Y with hv := .slice A5 la.length c5, bytes := (a).bytes, whole := true }).toList) A5 c5 la := HO6.out.others (by omega) _ _
        refine post_two (v1 := .agg (entC { Y with hv := .slice A5 la.length c5, bytes := (a).bytes, whole := true })) (v2 := .int .i64 0) Tryz.results30 rfl ⟨_, rfl, ent_loaded (row_stored HR6.out (ent_size _) (ent_size _))⟩ rfl ⟨A5, c5, by rw [HM.out, ← HY.out], OwnsSp.plain ho, ho.none0, by rw [HM.out]; exact ho.reads spE, hx⟩
    | false =>
      rw [hwa] at hA44
      cases hwb : b.whole with
      | true =>
        rw [hwb] at hB44
        have HM : Hid (mergeN a b la lb = ⟨{ a with bytes := b.bytes, whole := true }, lb, 0⟩) := Lib.hid (by rw [mergeN, if_neg (fun k => k HN.out), if_neg (by rw [hsm]; decide), if_neg (by rw [hwa]; decide), if_pos hwb, HBest.out])
        clear hsm hwa hwb
        refine wp_loop_rounds 2 ?_
        rw [rounds_succ]
        go_wp2
        rw [rounds_succ]
        refine wp_world (fun W => Ext W3 W) ((((Ext.refl W3).alloc _)).setCells (Nat.le_refl _) _ _) ?_
        rintro Wn xn
        replace rA := (row_ext xn hB3 0 45).trans rA
        replace rB := (row_ext xn hB3 45 45).trans rB
        replace hB3 := Nat.lt_of_lt_of_le hB3 xn.size
        replace HX3 := Lib.hid (HX3.out.trans xn)
        clear xn
        obtain ⟨W3, rfl⟩ : ∃ W, W = Wn := ⟨Wn, rfl⟩
        go_wp2
        refine wp_world (fun W => Ext W2 W ∧ RowAt W W3.heap.size (entC b)) ⟨(HX3.out.alloc _).setCells (by omega) _ _, (RowAt.newAt (cs := entC noEn) (t := 58) rfl).store (by rw [ent_size, ent_size])⟩ ?_
        have hE : w.heap.size + 1 + 1 + 1 < W3.heap.size := Nat.lt_of_lt_of_le hl3 HX3.out.size
        generalize W3.heap.size = E at *
        rintro W4 ⟨x4, rE⟩
        clear HX3 rA rB hB3 hB2
        have HX4 := Lib.hid x4
        have k42 : W4.cell? ⟨E, 42, none⟩ = some (.slice B lb.length cb) := by rw [← HB.out.hv]; exact (rE.cell 42).trans (ent_g42 b)
        have k43 : W4.cell? ⟨E, 43, none⟩ = some (.string (b).bytes) := (rE.cell 43).trans (ent_g43 b)
        have hEl := rE.lt
        have hlA := HB.out.val.len
        have r3' := HR3.out.ext x4
        have f42 := r3'.free 42
        have f43 := r3'.free 43
        have f44 := r3'.free 44
        have g42 := (r3'.cell 42).trans (ent_g42 Y)
        have g43 := (r3'.cell 43).trans (ent_g43 Y)
        have g44 := (r3'.cell 44).trans (ent_g44 Y)
        have hl3' := r3'.lt
        clear x4 rE r3' hA44 hB44 rowY room2 row0 row1 rowa rowb
        go_region_with (go_at_call 67; refine (clone_any B cb lb _ HB.out.hA (by omega) (HB.out.hr.on (HX2.out.trans (HX4.out.trans (by (repeat (first | with_reducible exact Ext.refl _ | with_reducible exact Ext.refl _ | with_reducible refine Ext.drew ?_ | with_reducible refine Ext.drewN ?_ _ | with_reducible refine Ext.alloc ?_ _ | with_reducible refine Ext.onto ?_ _ | (with_reducible refine Ext.setCells ?_ ?_ _ _; rotate_left; focus (first | omega | (simp; done) | (simp; omega))) | (with_reducible refine Ext.setCell ?_ ?_ _; rotate_left; focus (first | omega | (simp; done) | (simp; omega)))))))))).mono ?_; rintro e wc ⟨A5, c5, rfl, ho, hx⟩; have hxx := (show Ext W4 _ from (by (repeat (first | with_reducible exact Ext.refl _ | with_reducible exact Ext.refl _ | with_reducible refine Ext.drew ?_ | with_reducible refine Ext.drewN ?_ _ | with_reducible refine Ext.alloc ?_ _ | with_reducible refine Ext.onto ?_ _ | (with_reducible refine Ext.setCells ?_ ?_ _ _; rotate_left; focus (first | omega | (simp; done) | (simp; omega))) | (with_reducible refine Ext.setCell ?_ ?_ _; rotate_left; focus (first | omega | (simp; done) | (simp; omega))))))).trans hx; have HO5 := Lib.hid ho; have HX5 := Lib.hid hxx; have c43 := (hxx.cell (p := ⟨E, 43, none⟩) hEl).trans k43; have p42 := (hxx.frozen (p := ⟨w.heap.size + 1 + 1 + 1, 42, none⟩) hl3').trans f42; have p43 := (hxx.frozen (p := ⟨w.heap.size + 1 + 1 + 1, 43, none⟩) hl3').trans f43; have p44 := (hxx.frozen (p := ⟨w.heap.size + 1 + 1 + 1, 44, none⟩) hl3').trans f44; have q42 := (hxx.cell (p := ⟨w.heap.size + 1 + 1 + 1, 42, none⟩) hl3').trans g42; have q43 := (hxx.cell (p := ⟨w.heap.size + 1 + 1 + 1, 43, none⟩) hl3').trans g43; have q44 := (hxx.cell (p := ⟨w.heap.size + 1 + 1 + 1, 44, none⟩) hl3').trans g44; clear ho hx hxx)
        all_goals (go_upto_region 16 with (fail))
        all_goals
          refine wp_world (fun W => Ext w W ∧ RowAt W (w.heap.size + 1 + 1) (entC noEn) ∧ RowAt W (w.heap.size + 1 + 1 + 1) (entC { Y with hv := .slice A5 lb.length c5, bytes := (b).bytes, whole := true }) ∧ OwnsSp (w.heap.size + 1 + 1 + 1 + 1) W A5 c5 lb) ⟨?_, ?_, ?_, ?_⟩ ?_
          · have ht3 : w.heap.size ≤ w.heap.size + 1 + 1 + 1 := by omega
            exact (((HX2.out.trans (HX4.out.trans HX5.out)).setCell (p := ⟨w.heap.size + 1 + 1 + 1, 42, none⟩) ht3 _).setCell (p := ⟨w.heap.size + 1 + 1 + 1, 43, none⟩) ht3 _).setCell (p := ⟨w.heap.size + 1 + 1 + 1, 44, none⟩) ht3 _
          · have hne : w.heap.size + 1 + 1 ≠ w.heap.size + 1 + 1 + 1 := by omega
            exact (((HR2.out.ext (HX4.out.trans HX5.out)).other (p := ⟨w.heap.size + 1 + 1 + 1, 42, none⟩) hne _).other (p := ⟨w.heap.size + 1 + 1 + 1, 43, none⟩) hne _).other (p := ⟨w.heap.size + 1 + 1 + 1, 44, none⟩) hne _
          · have z1 := (HR3.out.ext (HX4.out.trans HX5.out)).set 42 (.slice A5 lb.length c5)
            rw [ent_set42] at z1
            have z2 := z1.set 43 (.string (b).bytes)
            rw [ent_set43] at z2
            have z3 := z2.set 44 (.bool true)
            rw [ent_set44] at z3
            exact z3
          · have hlt : w.heap.size + 1 + 1 + 1 < w.heap.size + 1 + 1 + 1 + 1 := by omega
            exact (((HO5.out.lower (by have := HX4.out.size; have := HX5.out.size; first | omega | (simp; omega))).other (p := ⟨w.heap.size + 1 + 1 + 1, 42, none⟩) hlt _).other (p := ⟨w.heap.size + 1 + 1 + 1, 43, none⟩) hlt _).other (p := ⟨w.heap.size + 1 + 1 + 1, 44, none⟩) hlt _
          rintro W5 ⟨x5, r2, r3, ho5⟩
          have HX6 := Lib.hid x5
          have HR6 := Lib.hid r2
          have HO6 := Lib.hid ho5
          have rowY : rowOf W5 (w.heap.size + 1 + 1 + 1) 0 45 = some (entC { Y with hv := .slice A5 lb.length c5, bytes := (b).bytes, whole := true }) := r3.all (ent_size _).symm (by omega)
          have room2 : roomOf W5 (w.heap.size + 1 + 1) 0 45 = true := by rw [r2.room, ent_size]; rfl
          have hl2' := r2.lt
          have hl3' := r3.lt
          have hfZ : fitsRow 45 (entC { Y with hv := .slice A5 lb.length c5, bytes := (b).bytes, whole := true }) = true := ent_fits_of rfl
          clear x5 r2 r3 ho5 f42 f43 f44 g42 g43 g44 p42 p43 p44 q42 q43 q44 c43 k42 k43
          go_wp2
          have hx : Ext w (W5.setCells (w.heap.size + 1 + 1) 0 (entC { Y with hv := .slice A5 lb.length c5, bytes := (b).bytes, whole := true }).toList) := HX6.out.setCells (by omega) _ _
          have ho : OwnsSp (w.heap.size + 1 + 1 + 1 + 1) (W5.setCells (w.heap.size + 1 + 1) 0 (entC { Y with hv := .slice A5 lb.length c5, bytes := (b).bytes, whole := true }).toList) A5 c5 lb := HO6.out.others (by omega) _ _
          refine post_two (v1 := .agg (entC { Y with hv := .slice A5 lb.length c5, bytes := (b).bytes, whole := true })) (v2 := .int .i64 0) Tryz.results30 rfl ⟨_, rfl, ent_loaded (row_stored HR6.out (ent_size _) (ent_size _))⟩ rfl ⟨A5, c5, by rw [HM.out, ← HY.out], OwnsSp.plain ho, ho.none0, by rw [HM.out]; exact ho.reads spE, hx⟩
      | false =>
        rw [hwb] at hB44
        have HM : Hid (mergeN a b la lb = { settleN a (addAll la lb) (mrgB b.bytes lb a.bytes) with n := 0 }) := Lib.hid (by rw [mergeN, if_neg (fun k => k HN.out), if_neg (by rw [hsm]; decide), if_neg (by rw [hwa]; decide), if_neg (by rw [hwb]; decide), HBest.out])
        have HSz := Lib.hid (sameN_iff hsm).1
        have HWX : Hid ((a).whole = false) := Lib.hid (hwa)
        have HWA : Hid (a.whole = false) := Lib.hid hwa
        clear hsm hwa hwb
        refine wp_loop_rounds 3 ?_
        rw [rounds_succ]
        go_wp2
        rw [rounds_succ]
        refine wp_world (fun W => Ext W3 W) ((((Ext.refl W3).alloc _)).setCells (Nat.le_refl _) _ _) ?_
        rintro Wn xn
        replace rA := (row_ext xn hB3 0 45).trans rA
        replace rB := (row_ext xn hB3 45 45).trans rB
        replace hB3 := Nat.lt_of_lt_of_le hB3 xn.size
        replace HX3 := Lib.hid (HX3.out.trans xn)
        clear xn
        obtain ⟨W3, rfl⟩ : ∃ W, W = Wn := ⟨Wn, rfl⟩
        go_wp2
        rw [rounds_succ]
        refine wp_world (fun W => Ext W3 W) ((((Ext.refl W3).alloc _)).setCells (Nat.le_refl _) _ _) ?_
        rintro Wn xn
        replace rA := (row_ext xn hB3 0 45).trans rA
        replace rB := (row_ext xn hB3 45 45).trans rB
        replace hB3 := Nat.lt_of_lt_of_le hB3 xn.size
        replace HX3 := Lib.hid (HX3.out.trans xn)
        clear xn
        obtain ⟨W3, rfl⟩ : ∃ W, W = Wn := ⟨Wn, rfl⟩
        go_wp2
        have HBv := HB.out.val
        have HAv := HA.out.val
        have hA42 : ∀ W, Ext W2 W → W.cell? ⟨w.heap.size, 42, none⟩ = some (.slice A la.length ca) := fun W hx => by rw [← HA.out.hv]; exact ((HR0.out.ext hx).cell 42).trans (ent_g42 a)
        have hA43 : ∀ W, Ext W2 W → W.cell? ⟨w.heap.size, 43, none⟩ = some (.string a.bytes) := fun W hx => ((HR0.out.ext hx).cell 43).trans (ent_g43 a)
        have HH42 := Lib.hid hA42
        have HH43 := Lib.hid hA43
        have HBV := Lib.hid HBv
        have HAV := Lib.hid HAv
        have hl0' : w.heap.size < W3.heap.size := Nat.lt_of_lt_of_le hl0 HX3.out.size
        have hl3' : w.heap.size + 1 + 1 + 1 < W3.heap.size := Nat.lt_of_lt_of_le hl3 HX3.out.size
        clear hA42 hA43 HBv HAv rA rB hB3 hB2 hA44 hB44 row0 row1 rowa rowb rowY room2
        refine wp_region_softE 7 (softsE [.eq (.pointer (some ⟨w.heap.size, 42, none⟩)), .eq (.slice A la.length ca), .eq (.pointer (some ⟨w.heap.size, 43, none⟩)), .eq (.string a.bytes), bytSoft W3.heap.size a.bytes, .eq (.slice A la.length ca), bytSoft W3.heap.size a.bytes]) (by kernel_rfl) (by kernel_rfl) (lt_cons ?_ (lt_cons ?_ (lt_cons ?_ (lt_cons ?_ (lt_cons ?_ (lt_cons ?_ (lt_cons ?_ lt_none))))))) ?_
        ·
          intro o ho xs W hW hd Q' hQ; obtain rfl := Option.some.inj ho; clear ho; simp only [fillAt, dstOf, List.getElem?_cons_zero, List.getElem?_cons_succ, Option.bind_some, Act.put, List.setIfInBounds_toArray, List.set_cons_zero, List.set_cons_succ, Nat.zero_add, Nat.reduceAdd] at hQ ⊢; have HQ := Lib.hid hQ; have HD := Lib.hid hd; have HW := Lib.hid hW; have hsW := hW.size; clear hQ hd hW
          go_wp2
          exact HQ.out _ _ (Ext.refl _) rfl
        ·
          intro o ho xs W hW hd Q' hQ; obtain rfl := Option.some.inj ho; clear ho; simp only [fillAt, dstOf, List.getElem?_cons_zero, List.getElem?_cons_succ, Option.bind_some, Act.put, List.setIfInBounds_toArray, List.set_cons_zero, List.set_cons_succ, Nat.zero_add, Nat.reduceAdd] at hQ ⊢; have HQ := Lib.hid hQ; have HD := Lib.hid hd; have HW := Lib.hid hW; have hsW := hW.size; clear hQ hd hW
          have hd0 : xs 0 = .pointer (some ⟨w.heap.size, 42, none⟩) := (HD.out 0 (of_decide_eq_true (by kernel_rfl)))
          generalize xs 0 = x0 at hd0 HQ ⊢; subst hd0
          have hc := HH42.out _ (HX3.out.trans HW.out)
          go_wp2
          exact HQ.out _ _ (Ext.refl _) rfl
        ·
          intro o ho xs W hW hd Q' hQ; obtain rfl := Option.some.inj ho; clear ho; simp only [fillAt, dstOf, List.getElem?_cons_zero, List.getElem?_cons_succ, Option.bind_some, Act.put, List.setIfInBounds_toArray, List.set_cons_zero, List.set_cons_succ, Nat.zero_add, Nat.reduceAdd] at hQ ⊢; have HQ := Lib.hid hQ; have HD := Lib.hid hd; have HW := Lib.hid hW; have hsW := hW.size; clear hQ hd hW
          go_wp2
          exact HQ.out _ _ (Ext.refl _) rfl
        ·
          intro o ho xs W hW hd Q' hQ; obtain rfl := Option.some.inj ho; clear ho; simp only [fillAt, dstOf, List.getElem?_cons_zero, List.getElem?_cons_succ, Option.bind_some, Act.put, List.setIfInBounds_toArray, List.set_cons_zero, List.set_cons_succ, Nat.zero_add, Nat.reduceAdd] at hQ ⊢; have HQ := Lib.hid hQ; have HD := Lib.hid hd; have HW := Lib.hid hW; have hsW := hW.size; clear hQ hd hW
          have hd2 : xs 2 = .pointer (some ⟨w.heap.size, 43, none⟩) := (HD.out 2 (of_decide_eq_true (by kernel_rfl)))
          generalize xs 2 = x2 at hd2 HQ ⊢; subst hd2
          have hc := HH43.out _ (HX3.out.trans HW.out)
          go_wp2
          exact HQ.out _ _ (Ext.refl _) rfl
        ·
          intro o ho xs W hW hd Q' hQ; obtain rfl := Option.some.inj ho; clear ho; simp only [fillAt, dstOf, List.getElem?_cons_zero, List.getElem?_cons_succ, Option.bind_some, Act.put, List.setIfInBounds_toArray, List.set_cons_zero, List.set_cons_succ, Nat.zero_add, Nat.reduceAdd] at hQ ⊢; have HQ := Lib.hid hQ; have HD := Lib.hid hd; have HW := Lib.hid hW; have hsW := hW.size; clear hQ hd hW
          have hd3 : xs 3 = .string a.bytes := (HD.out 3 (of_decide_eq_true (by kernel_rfl)))
          generalize xs 3 = x3 at hd3 HQ ⊢; subst hd3
          have hge := grownCap_ge W a.bytes.size 0 5
          go_wp2
          rw [strConv]
          go_wp2
          exact HQ.out _ _ (ext_bytes W 5 a.bytes) ⟨W.heap.size, _, rfl, hsW, hge, bytes_at W 5 a.bytes⟩
        ·
          intro o ho xs W hW hd Q' hQ; obtain rfl := Option.some.inj ho; clear ho; simp only [fillAt, dstOf, List.getElem?_cons_zero, List.getElem?_cons_succ, Option.bind_some, Act.put, List.setIfInBounds_toArray, List.set_cons_zero, List.set_cons_succ, Nat.zero_add, Nat.reduceAdd] at hQ ⊢; have HQ := Lib.hid hQ; have HD := Lib.hid hd; have HW := Lib.hid hW; have hsW := hW.size; clear hQ hd hW
          have hd1 : xs 1 = (.slice A la.length ca) := (HD.out 1 (of_decide_eq_true (by kernel_rfl)))
          generalize xs 1 = x1 at hd1 HQ ⊢; subst hd1
          go_wp2
          exact HQ.out _ _ (Ext.refl _) rfl
        ·
          intro o ho xs W hW hd Q' hQ; obtain rfl := Option.some.inj ho; clear ho; simp only [fillAt, dstOf, List.getElem?_cons_zero, List.getElem?_cons_succ, Option.bind_some, Act.put, List.setIfInBounds_toArray, List.set_cons_zero, List.set_cons_succ, Nat.zero_add, Nat.reduceAdd] at hQ ⊢; have HQ := Lib.hid hQ; have HD := Lib.hid hd; have HW := Lib.hid hW; have hsW := hW.size; clear hQ hd hW
          obtain ⟨g, cap, h4, hg, hcap, hby⟩ : (bytSoft W3.heap.size a.bytes).S (xs 4) W := (HD.out 4 (of_decide_eq_true (by kernel_rfl)))
          have HBy := Lib.hid hby
          clear hby
          generalize xs 4 = x4 at h4 HQ ⊢; subst h4
          go_wp2
          exact HQ.out _ _ (Ext.refl _) ⟨g, cap, rfl, hg, hcap, HBy.out⟩
        intro xs W5 hW hS
        have h1 : xs 5 = .slice A la.length ca := hS 5 (by omega)
        obtain ⟨g, cap, h4, hg, hcap, hby⟩ : (bytSoft W3.heap.size a.bytes).S (xs 6) W5 := hS 6 (by omega)
        simp only [fillAt, dstOf, List.getElem?_cons_zero, List.getElem?_cons_succ, Option.bind_some, Act.put, List.setIfInBounds_toArray, List.set_cons_zero, List.set_cons_succ, Nat.zero_add, Nat.reduceAdd, List.drop_succ_cons, List.drop_zero, List.drop_nil]
        generalize xs 5 = y1 at *; subst h1
        generalize xs 6 = y4 at *; subst h4
        have HX5 := Lib.hid hW
        have HBy := Lib.hid hby
        have hgl := hby.1
        clear hS hW hby
        have hb42 : W5.cell? ⟨w.heap.size + 1, 42, none⟩ = some (.slice B lb.length cb) := by rw [← HB.out.hv]; exact ((HR1.out.ext (HX3.out.trans HX5.out)).cell 42).trans (ent_g42 b)
        have hl1' := (HR1.out.ext (HX3.out.trans HX5.out)).lt
        go_wp2
        go_loopw [89, 9] (EMrgRel w.heap.size W3 a b la lb g) (fun i _ _ => lb.length - (intOf i).toNat)
        
        case atStart => exact ⟨0, A, ca, la, Nat.zero_le _, rfl, rfl, Lib.hid rfl, Lib.hid ((HA.out.keep _).ext (HX2.out.trans (HX3.out.trans HX5.out))), Lib.hid HBy.out, HX5⟩
        case round =>
          obtain ⟨k, A', c', out, hk, rfl, rfl, HO, HKp, HBy2, HX6⟩ := hrel
          have hxw : Ext w wr := HX2.out.trans (HX3.out.trans HX6.out)
          have hsw := hxw.size
          have hsi := addAll_in (lb.take k) HAV.out.si (fun s hs => by
            have i1 := HBV.out.si.1.2 s (List.mem_of_mem_take hs)
            have i2 := HBV.out.si.2 s (List.mem_of_mem_take hs)
            have i3 := HSz.out
            omega)
          rw [← HO.out] at hsi
          have HSI := Lib.hid hsi.1
          have hlb0 := HBV.out.len
          have hgw := HBy2.out.1
          have hbd : ∀ s ∈ lb, 0 ≤ s.1 ∧ s.1 < s.2 ∧ s.2 ≤ b.bytes.size := fun s hs => by
            have h1 := HBV.out.si.1.2 s hs
            have h2 := HBV.out.si.2 s hs
            have h3 := HBV.out.bs
            omega
          have hD : (mrgB b.bytes (lb.take k) a.bytes).size = b.bytes.size := (mrg_get b.bytes (lb.take k) a.bytes (fun s hs => hbd s (List.mem_of_mem_take hs)) (by have h1 := HAV.out.bs; have h2 := HSz.out; have h3 := HBV.out.bs; omega)).1
          have hsz1 := HBV.out.bs
          have hsz2 := HBV.out.sz
          have hsz0 := HBV.out.z0
          have hsza := HAV.out.bs
          have HSz' := HSz.out
          clear hsi
          by_cases hlt : k < lb.length
          · obtain ⟨bb, off, rfl, hbb, y1, y2⟩ := ReadsSp.cell (HB.out.hr.on hxw) k hlt
            have hin := List.getElem_mem hlt
            have i1 := hbd _ hin
            have HJ := Lib.hid (addAll_snoc la lb k hlt)
            have HJB := Lib.hid (mrgB_snoc b.bytes lb a.bytes k hlt)
            rw [← HO.out] at HJ
            generalize lb[k] = s at *
            obtain ⟨s1, s2⟩ := s
            simp only [] at y1 y2 i1
            obtain ⟨f, rfl⟩ : ∃ f : Nat, s1 = f := ⟨s1.toNat, by omega⟩
            obtain ⟨t, rfl⟩ : ∃ t : Nat, s2 = t := ⟨s2.toNat, by omega⟩
            generalize mrgB b.bytes (lb.take k) a.bytes = D at *
            have hb43 : ∀ W, Ext wr W → W.cell? ⟨w.heap.size + 1, 43, none⟩ = some (.string b.bytes) := fun W hx => ((HR1.out.ext (HX3.out.trans (HX6.out.trans hx))).cell 43).trans (ent_g43 b)
            have HB43 := Lib.hid hb43
            have HAd := Lib.hid (fun W (p : ReadsSp W W.heap.size A' out) => eadd_is A' c' out ((f : Int), (t : Int)) W a.st.size HSI.out HAV.out.sz HAV.out.z0 (by simp only []; omega) (by simp only []; omega) (by simp only []; omega) HKp.out.plain p)
            rw [← HJ.out] at HAd
            clear hin hb43 hbd
            go_wp2_with (go_at_call 64; refine (HAd.out _ (HKp.out.ext (by (repeat (first | with_reducible exact Ext.refl _ | with_reducible exact Ext.refl _ | with_reducible refine Ext.drew ?_ | with_reducible refine Ext.drewN ?_ _ | with_reducible refine Ext.alloc ?_ _ | with_reducible refine Ext.onto ?_ _ | (with_reducible refine Ext.setCells ?_ ?_ _ _; rotate_left; focus (first | omega | (simp; done) | (simp; omega))) | (with_reducible refine Ext.setCell ?_ ?_ _; rotate_left; focus (first | omega | (simp; done) | (simp; omega))))))).reads).mono ?_; rintro e w6 ⟨A2, c2, rfl, ho, hx6⟩; have hxx := (show Ext wr _ from (by (repeat (first | with_reducible exact Ext.refl _ | with_reducible exact Ext.refl _ | with_reducible refine Ext.drew ?_ | with_reducible refine Ext.drewN ?_ _ | with_reducible refine Ext.alloc ?_ _ | with_reducible refine Ext.onto ?_ _ | (with_reducible refine Ext.setCells ?_ ?_ _ _; rotate_left; focus (first | omega | (simp; done) | (simp; omega))) | (with_reducible refine Ext.setCell ?_ ?_ _; rotate_left; focus (first | omega | (simp; done) | (simp; omega))))))).trans hx6; have p0 : w6.cell? ⟨wr.heap.size, 0, none⟩ = some (.int .i64 f) := (hx6.cell (p := ⟨wr.heap.size, 0, none⟩) (by simp)).trans (by rw [alloc_cell_if, if_pos (by simp)]; rfl); have p1 : w6.cell? ⟨wr.heap.size, 1, none⟩ = some (.int .i64 t) := (hx6.cell (p := ⟨wr.heap.size, 1, none⟩) (by simp)).trans (by rw [alloc_cell_if, if_pos (by simp)]; rfl); have b43 := HB43.out _ hxx; have hp6 : wr.heap.size < w6.heap.size := (by have := hx6.size; simp at this; omega); have HO6 := Lib.hid ho; have HX7 := Lib.hid hxx; have HBy6 := Lib.hid (HBy2.out.ext hxx); have hn6 : w.heap.size + 1 < w6.heap.size := Nat.lt_of_lt_of_le (HR1.out.ext (HX3.out.trans HX6.out)).lt hxx.size; have hsz6 := hxx.size; clear ho hx6 hxx)
            have HLt := Lib.hid hlt
            have hft : f < t := by omega
            have htb : t ≤ b.bytes.size := by omega
            have htc : t ≤ cap := by omega
            have hfc : f < cap := by omega
            have hxs : (b.bytes.extract f t).size = t - f := extract_sz htb
            clear y1 y2 i1 HAd
            refine wp_region_later_tail 15 (by kernel_rfl) (by kernel_rfl) ?_
            simp only [List.take_succ_cons, List.take_zero, List.drop_succ_cons, List.drop_zero]
            repeat (first | go_big_quiet_step (fail) | quiet_step (fail))
            refine wpQuiet_nil ?_
            rintro _ ⟨xq, rfl⟩
            have hby7 : ByteAt (later w6 xq) g (bts D) := HBy6.out.ext (ext_later _ _)
            have hroom : roomOf (later w6 xq) g f (min (b.bytes.extract f t).size (t - f)) = true := hby7.room f _ (by rw [hxs, Nat.min_self, bts_length]; omega)
            have hH7 := Lib.hid hby7
            clear hby7
            go_wp2_with (with_reducible refine wpList_copy_str (.tmp 103) (.tmp 110) 118 9 5 (by kernel_rfl) u8_size g f (t - f) (t - f) rfl (b.bytes.extract f t) rfl hroom ?_)
            rw [List.take_of_length_le (l := (cells8 (bts (b.bytes.extract f t))).toList) (i := t - f) (by simp [cells8, bts_length, hxs])]
            go_roundw
            case rel =>
              have hkl := HLt.out
              refine ⟨k + 1, A2, c2, addAll la (lb.take (k + 1)), by omega, by go_num, rfl, Lib.hid rfl, Lib.hid (.inr ?_), Lib.hid ?_, Lib.hid ?_⟩
              · exact ((HO6.out.lower (by first | omega | (simp; omega))).later _).others (by omega) _ _
              · have q := hH7.out.copied (x := bts (b.bytes.extract f t)) (p := f) (by rw [bts_length, bts_length, hxs]; omega)
                have hj := HJB.out
                simp only [Int.toNat_natCast] at hj
                rw [hj, bts_over]
                exact q
              · exact ((HX6.out.trans HX7.out).onto _).setCells hg _ _
            case measure =>
              have hkl := HLt.out
              simp [intOf]; omega
          · have e : k = lb.length := by omega
            have ho := HO.out
            have hb2 := HBy2.out
            rw [e, List.take_length] at ho hb2
            rw [e, List.take_length] at hD
            have HOe := Lib.hid ho
            have HB3 := Lib.hid hb2
            clear ho hb2 HBy2 HO
            have hpos : 0 < b.bytes.size := by have h1 := HAV.out.pos HWA.out; omega
            generalize mrgB b.bytes lb a.bytes = D at *
            have hDl : (bts D).length = b.bytes.size := by rw [bts_length, hD]
            have hYw : Y.whole = false := HYw.out.trans HWX.out
            have hrY := HR3.out.ext (HX3.out.trans HX6.out)
            have hr2 := HR2.out.ext (HX3.out.trans HX6.out)
            have rowY : rowOf wr (w.heap.size + 1 + 1 + 1) 0 45 = some (entC Y) := hrY.all (ent_size _).symm (by omega)
            have hlY := hrY.lt
            have HR2w := Lib.hid hr2
            have HR3w := Lib.hid hrY
            have HK2 := Lib.hid (RowAt.ext HK.out hxw)
            have hlen : out.length ≤ 65536 := by have h1 := HSI.out.len HAV.out.z0; have h2 := HAV.out.sz; omega
            have hXs : (a).st.size = a.st.size := by first | rfl | exact HSz.out.symm | (rw [HEX.out])
            obtain ⟨R, hR⟩ : ∃ R, settleN Y out D = R := ⟨_, rfl⟩
            have hss := settle_same a (.slice A1 la.length c1) (a).bytes D out
            rw [show (⟨(a).st, (a).soft, .slice A1 la.length c1, (a).bytes, (a).whole⟩ : En) = Y from HY.out, hR] at hss
            have HSS := Lib.hid hss
            have HSet := Lib.hid (fun W (hx : Ext wr W) (A5 : Option Addr) (c5 : Nat) (p : OwnsSp (w.heap.size + 1 + 1 + 1 + 1) W A5 c5 out) => settleE_any Y ⟨A1, _, c1, hYv⟩ A5 c5 out (some ⟨g, 0, none⟩) cap (bts D) (w.heap.size + 1 + 1 + 1 + 1) W hYw (by rw [HYs.out]; exact HA.out.val.z0) (by rw [HYs.out]; exact HA.out.val.sz) (by rw [HYs.out, hXs]; exact HSI.out) p (by omega) (by omega) ((HB3.out.ext hx).reads) (RowAt.ext HK2.out hx) (by rw [HYs.out]; exact HA.out.hb) (by rw [HYs.out]; exact HA.out.hby))
            have hab : a.bytes.size = b.bytes.size := by have h1 := HAV.out.bs; have h2 := HSz.out; have h3 := HBV.out.bs; omega
            rw [nums_bts, hR, hDl, ← hab] at HSet
            clear hab
            clear hss hR hbd hlt hk hsz1 hsz2 hsz0 hsza HSz' hpos hDl hrY hr2 hYw
            go_wp2
            refine wp_region_softR 6 (softsE [.eq (.agg (entC Y)), .eq (.slice A' out.length c'), ownSoft out (w.heap.size + 1 + 1 + 1 + 1), .eq (.slice (some ⟨g, 0, none⟩) a.bytes.size cap), tupSoft R (w.heap.size + 1 + 1 + 1 + 1), tupSoft R (w.heap.size + 1 + 1 + 1 + 1)]) (by kernel_rfl) (by kernel_rfl) (lt_cons ?_ (lt_cons ?_ (lt_cons ?_ (lt_cons ?_ (lt_cons ?_ (lt_cons ?_ lt_none)))))) ?_
            ·
              intro o ho xs W hW hd Q' hQ; obtain rfl := Option.some.inj ho; clear ho; simp only [fillAt, dstOf, List.getElem?_cons_zero, List.getElem?_cons_succ, Option.bind_some, Act.put, List.setIfInBounds_toArray, List.set_cons_zero, List.set_cons_succ, Nat.zero_add, Nat.reduceAdd] at hQ ⊢; have HQ := Lib.hid hQ; have HD := Lib.hid hd; have HW := Lib.hid hW; have hsW := hW.size; clear hQ hd hW
              have hrow := (row_ext HW.out hlY 0 45).trans rowY
              go_wp2
              exact HQ.out _ _ (Ext.refl _) rfl
            ·
              intro o ho xs W hW hd Q' hQ; obtain rfl := Option.some.inj ho; clear ho; simp only [fillAt, dstOf, List.getElem?_cons_zero, List.getElem?_cons_succ, Option.bind_some, Act.put, List.setIfInBounds_toArray, List.set_cons_zero, List.set_cons_succ, Nat.zero_add, Nat.reduceAdd] at hQ ⊢; have HQ := Lib.hid hQ; have HD := Lib.hid hd; have HW := Lib.hid hW; have hsW := hW.size; clear hQ hd hW
              go_wp2
              exact HQ.out _ _ (Ext.refl _) rfl
            ·
              intro o ho xs W hW hd Q' hQ; obtain rfl := Option.some.inj ho; clear ho; simp only [fillAt, dstOf, List.getElem?_cons_zero, List.getElem?_cons_succ, Option.bind_some, Act.put, List.setIfInBounds_toArray, List.set_cons_zero, List.set_cons_succ, Nat.zero_add, Nat.reduceAdd] at hQ ⊢; have HQ := Lib.hid hQ; have HD := Lib.hid hd; have HW := Lib.hid hW; have hsW := hW.size; clear hQ hd hW
              have hd1 : xs 1 = .slice A' out.length c' := (HD.out 1 (of_decide_eq_true (by kernel_rfl)))
              generalize xs 1 = x1 at hd1 HQ ⊢; subst hd1
              go_wp2_with (go_at_call 67; refine (clone_any A' c' out _ HKp.out.plain (by omega) (HKp.out.ext HW.out).reads).mono ?_; rintro e wc ⟨A5, c5, rfl, ho, hx⟩)
              exact HQ.out _ _ hx ⟨A5, c5, rfl, ho.lower (by have h6 := HX6.out.size; omega)⟩
            ·
              intro o ho xs W hW hd Q' hQ; obtain rfl := Option.some.inj ho; clear ho; simp only [fillAt, dstOf, List.getElem?_cons_zero, List.getElem?_cons_succ, Option.bind_some, Act.put, List.setIfInBounds_toArray, List.set_cons_zero, List.set_cons_succ, Nat.zero_add, Nat.reduceAdd] at hQ ⊢; have HQ := Lib.hid hQ; have HD := Lib.hid hd; have HW := Lib.hid hW; have hsW := hW.size; clear hQ hd hW
              go_wp2
              exact HQ.out _ _ (Ext.refl _) rfl
            ·
              intro o ho xs W hW hd Q' hQ; obtain rfl := Option.some.inj ho; clear ho; simp only [fillAt, dstOf, List.getElem?_cons_zero, List.getElem?_cons_succ, Option.bind_some, Act.put, List.setIfInBounds_toArray, List.set_cons_zero, List.set_cons_succ, Nat.zero_add, Nat.reduceAdd] at hQ ⊢; have HQ := Lib.hid hQ; have HD := Lib.hid hd; have HW := Lib.hid hW; have hsW := hW.size; clear hQ hd hW
              have hd0 : xs 0 = .agg (entC Y) := (HD.out 0 (of_decide_eq_true (by kernel_rfl)))
              generalize xs 0 = x0 at hd0 HQ ⊢; subst hd0
              obtain ⟨A5, c5, h2, ho2⟩ : (ownSoft out (w.heap.size + 1 + 1 + 1 + 1)).S (xs 2) W := (HD.out 2 (of_decide_eq_true (by kernel_rfl)))
              generalize xs 2 = x2 at h2 HQ ⊢; subst h2
              have hd3 : xs 3 = .slice (some ⟨g, 0, none⟩) a.bytes.size cap := (HD.out 3 (of_decide_eq_true (by kernel_rfl)))
              generalize xs 3 = x3 at hd3 HQ ⊢; subst hd3
              have HO2 := Lib.hid ho2
              clear ho2
              go_wp2_with (go_at_call 63; refine (HSet.out _ HW.out A5 c5 HO2.out).mono ?_; rintro e ws ⟨v, rfl, hrs, hx⟩)
              exact HQ.out _ _ hx ⟨v, rfl, hrs⟩
            ·
              intro o ho xs W hW hd Q' hQ; obtain rfl := Option.some.inj ho; clear ho; simp only [fillAt, dstOf, List.getElem?_cons_zero, List.getElem?_cons_succ, Option.bind_some, Act.put, List.setIfInBounds_toArray, List.set_cons_zero, List.set_cons_succ, Nat.zero_add, Nat.reduceAdd] at hQ ⊢; have HQ := Lib.hid hQ; have HD := Lib.hid hd; have HW := Lib.hid hW; have hsW := hW.size; clear hQ hd hW
              obtain ⟨v, h4, hrs⟩ : (tupSoft R (w.heap.size + 1 + 1 + 1 + 1)).S (xs 4) W := (HD.out 4 (of_decide_eq_true (by kernel_rfl)))
              generalize xs 4 = x4 at h4 HQ ⊢; subst h4
              go_wp2
              exact HQ.out _ _ (Ext.refl _) ⟨v, rfl, hrs⟩
            intro xs W6 hW hS
            obtain ⟨v, h5, A6, c6, rfl, hor⟩ : (tupSoft R (w.heap.size + 1 + 1 + 1 + 1)).S (xs 5) W6 := hS 5 (by omega)
            simp only [fillAt, dstOf, List.getElem?_cons_zero, List.getElem?_cons_succ, Option.bind_some, Act.put, List.setIfInBounds_toArray, List.set_cons_zero, List.set_cons_succ, Nat.zero_add, Nat.reduceAdd]
            generalize xs 5 = y5 at *; subst h5
            have HX9 := Lib.hid hW
            have HOr := Lib.hid hor
            have room3 : roomOf W6 (w.heap.size + 1 + 1 + 1) 0 45 = true := by rw [(HR3w.out.ext HX9.out).room, ent_size]; rfl
            have hfR : fitsRow 45 (entC { R.e with hv := .slice A6 R.l.length c6 }) = true := ent_fits_of rfl
            clear hS hW hor rowY
            refine wpAny_take (i := 7) (v := .int .i64 R.n) rfl (by kernel_rfl) (by kernel_rfl) (by kernel_rfl) (fun _ _ _ h => h) (Or.inl ⟨by rfl, by intro w; go_simp⟩) ?_
            refine wpAny_take (i := 6) (v := .agg (entC { R.e with hv := .slice A6 R.l.length c6 })) rfl (by kernel_rfl) (by kernel_rfl) (by kernel_rfl) (fun _ _ _ h => h) (Or.inl ⟨by rfl, by intro w; go_simp⟩) ?_
            refine wpAny_ready (rs := [8]) (by kernel_rfl) (by simp) ?_
            refine AllReady.cons rfl (fun K hK => ?_) AllReady.nil
            go_wp2
            refine wpAny_done (by kernel_rfl) ?_ _
            go_upto_region 26 with (fail)
            refine wp_world (fun W => Ext w W ∧ RowAt W (w.heap.size + 1 + 1) (entC noEn) ∧ RowAt W (w.heap.size + 1 + 1 + 1) (entC { R.e with hv := .slice A6 R.l.length c6 }) ∧ OwnOr (w.heap.size + 1 + 1 + 1 + 1) W A6 c6 R.l) ⟨?_, ?_, ?_, ?_⟩ ?_
            · exact (hxw.trans HX9.out).setCells (by omega) _ _
            · exact (HR2w.out.ext HX9.out).others (by omega) _ _
            · exact (HR3w.out.ext HX9.out).store (by rw [ent_size, ent_size])
            · exact HOr.out.others (by omega) _ _
            rintro W7 ⟨x7, r2, r3, ho7⟩
            have HX7 := Lib.hid x7
            have HR7 := Lib.hid r2
            have HO7 := Lib.hid ho7
            have rowR : rowOf W7 (w.heap.size + 1 + 1 + 1) 0 45 = some (entC { R.e with hv := .slice A6 R.l.length c6 }) := r3.all (ent_size _).symm (by omega)
            have room2 : roomOf W7 (w.heap.size + 1 + 1) 0 45 = true := by rw [r2.room, ent_size]; rfl
            have hl2' := r2.lt
            have hl3' := r3.lt
            clear x7 r2 r3 ho7 room3 HX9 HOr
            go_wp2
            have hx : Ext w (W7.setCells (w.heap.size + 1 + 1) 0 (entC { R.e with hv := .slice A6 R.l.length c6 }).toList) := HX7.out.setCells (by omega) _ _
            have ho : OwnOr (w.heap.size + 1 + 1 + 1 + 1) (W7.setCells (w.heap.size + 1 + 1) 0 (entC { R.e with hv := .slice A6 R.l.length c6 }).toList) A6 c6 R.l := HO7.out.others (by omega) _ _
            have hs := HSS.out
            have hm := HM.out
            rw [← HOe.out] at hm
            refine post_two (v1 := .agg (entC { R.e with hv := .slice A6 R.l.length c6 })) (v2 := .int .i64 0) Tryz.results30 rfl ⟨_, rfl, ent_loaded (row_stored HR7.out (ent_size _) (ent_size _))⟩ rfl ⟨A6, c6, ?_, ho.plain, ho.none0, ?_, hx⟩
            · rw [hm, hs.1, hs.2.2]
            · rw [hm, ← hs.1]; exact ho.reads
set_option maxRecDepth 100000 in
set_option maxHeartbeats 4000000 in
theorem emerge_lt (a b : En) (A B : Option Addr) (ca cb : Nat) (la lb : List Sp) (w : World) (ha : VIn a A ca la w) (hb : VIn b B cb lb w) (h : a.st.addr = b.st.addr ∧ a.st.var = b.st.var) (hk : Konst 0 w) (hc : cmpN a.st b.st < 0) :
    Calls Tryz.prog 30 #[.agg (entC a), .agg (entC b)] w fun e' w' => PutIs (mergeN a b la lb) e' w w' := by
  have e1 : decide (cmpN a.st b.st < 0) = true := by simpa using hc
  have e2 : decide (cmpN a.st b.st = 0) = false := by simp; omega
  have HBest : Hid (bestN a b la lb = ⟨b, lb, 0⟩) := Lib.hid (by unfold bestN; rw [if_pos hc, if_neg (by omega)])
  clear hc
  have hfa : fitsRow 45 (entC a) = true := ent_fits_of ha.hv
  have hfb : fitsRow 45 (entC b) = true := ent_fits_of hb.hv
  have HA := Lib.hid ha
  have HB := Lib.hid hb
  have HK := Lib.hid hk
  have HBt := Lib.hid (fun W => better_any b.st a.st W hb.hb hb.hs ha.hb ha.hs)
  have HCp := Lib.hid (fun W => compare_any a.st b.st W ha.hb ha.hs hb.hb hb.hs)
  have HSm := Lib.hid (fun W => same_is a.st b.st W ha.hb hb.hb ha.hby hb.hby)
  have n1 : (a.st.addr.toList == b.st.addr.toList) = true := by rw [str_beq]; simpa using h.1
  have n2 : (a.st.var.toList == b.st.var.toList) = true := by rw [str_beq]; simpa using h.2
  have q1 : decide (0 < cmpN b.st a.st) = decide (cmpN a.st b.st < 0) := by rw [cmpN_anti a.st b.st, decide_eq_decide]; omega
  have q2 : (cmpN a.st b.st == 0) = decide (cmpN a.st b.st = 0) := by rw [Bool.eq_iff_iff]; simp
  have HN := Lib.hid h
  rw [q1, e1] at HBt
  generalize cmpN a.st b.st = cc at *
  rw [e2] at q2
  clear ha hb hk h q1 e1 e2
  go_enter Tryz.func30, Tryz.ntmps30
  go_upto_region 4 with (fail)
  refine wp_world (fun W => Ext w W ∧ RowAt W w.heap.size (entC a) ∧ RowAt W (w.heap.size + 1) (entC b) ∧ RowAt W (w.heap.size + 1 + 1) (entC noEn) ∧ RowAt W (w.heap.size + 1 + 1 + 1) (entC a)) ⟨(by (repeat (first | with_reducible exact Ext.refl _ | with_reducible exact Ext.refl _ | with_reducible refine Ext.drew ?_ | with_reducible refine Ext.drewN ?_ _ | with_reducible refine Ext.alloc ?_ _ | with_reducible refine Ext.onto ?_ _ | (with_reducible refine Ext.setCells ?_ ?_ _ _; rotate_left; focus (first | omega | (simp; done) | (simp; omega))) | (with_reducible refine Ext.setCell ?_ ?_ _; rotate_left; focus (first | omega | (simp; done) | (simp; omega)))))), (by (repeat (first | with_reducible exact RowAt.new _ _ _ | with_reducible refine RowAt.drew ?_ | with_reducible refine RowAt.later ?_ _ | with_reducible exact RowAt.newAt (by first | rfl | omega | (simp [later_size, setCells_size]; done) | (simp [later_size, setCells_size]; omega)) | with_reducible refine RowAt.alloc ?_ _ | with_reducible apply RowAt.store | with_reducible refine RowAt.others ?_ ?_ _ _ | with_reducible refine RowAt.other ?_ ?_ _)); all_goals first | omega | (simp; done) | (simp; omega) | (simp [go_sem]; done)), (by (repeat (first | with_reducible exact RowAt.new _ _ _ | with_reducible refine RowAt.drew ?_ | with_reducible refine RowAt.later ?_ _ | with_reducible exact RowAt.newAt (by first | rfl | omega | (simp [later_size, setCells_size]; done) | (simp [later_size, setCells_size]; omega)) | with_reducible refine RowAt.alloc ?_ _ | with_reducible apply RowAt.store | with_reducible refine RowAt.others ?_ ?_ _ _ | with_reducible refine RowAt.other ?_ ?_ _)); all_goals first | omega | (simp; done) | (simp; omega) | (simp [go_sem]; done)), (by (repeat (first | with_reducible exact RowAt.new _ _ _ | with_reducible refine RowAt.drew ?_ | with_reducible refine RowAt.later ?_ _ | with_reducible exact RowAt.newAt (by first | rfl | omega | (simp [later_size, setCells_size]; done) | (simp [later_size, setCells_size]; omega)) | with_reducible refine RowAt.alloc ?_ _ | with_reducible apply RowAt.store | with_reducible refine RowAt.others ?_ ?_ _ _ | with_reducible refine RowAt.other ?_ ?_ _)); all_goals first | omega | (simp; done) | (simp; omega) | (simp [go_sem]; done)), (RowAt.newAt (cs := entC noEn) (t := 58) (by simp)).store (by rw [ent_size, ent_size])⟩ ?_
  rintro W0 ⟨x0, r0, r1, r2, r3⟩
  have HX0 := Lib.hid x0
  have HR0 := Lib.hid r0
  have HR1 := Lib.hid r1
  have HR2 := Lib.hid r2
  have HR3 := Lib.hid r3
  have hl0 := r0.lt
  have hl1 := r1.lt
  have hl2 := r2.lt
  have hl3 := r3.lt
  have row0 : rowOf W0 w.heap.size 0 41 = some (stmC a.st) := by rw [r0.row, if_neg (by omega), ent_stm]
  have row1 : rowOf W0 (w.heap.size + 1) 0 41 = some (stmC b.st) := by rw [r1.row, if_neg (by omega), ent_stm]
  have row1e : rowOf W0 (w.heap.size + 1) 0 45 = some (entC b) := r1.all (ent_size _).symm (by omega)
  have room3 : roomOf W0 (w.heap.size + 1 + 1 + 1) 0 45 = true := by rw [r3.room, ent_size]; rfl
  clear x0 r0 r1 r2 r3 n1 n2
  go_upto_region 6 with (go_at_call 66; refine (HBt.out _).mono ?_; rintro e w' ⟨rfl, hxl⟩; obtain ⟨xl, rfl⟩ := hxl.asLater; clear hxl)
  refine wp_world (fun W => Ext w W ∧ RowAt W w.heap.size (entC a) ∧ RowAt W (w.heap.size + 1) (entC b) ∧ RowAt W (w.heap.size + 1 + 1) (entC noEn) ∧ RowAt W (w.heap.size + 1 + 1 + 1) (entC b)) ⟨(HX0.out.onto _).setCells (by omega) _ _, (HR0.out.later _).others (by omega) _ _, (HR1.out.later _).others (by omega) _ _, (HR2.out.later _).others (by omega) _ _, (HR3.out.later _).store (by rw [ent_size, ent_size])⟩ ?_
  clear hl0 hl1 hl2 hl3 row0 row1 row1e room3 HX0 HR0 HR1 HR2 HR3
  rintro W1 ⟨x1, r0, r1, r2, r3⟩
  have HX1 := Lib.hid x1
  have HR0 := Lib.hid r0
  have HR1 := Lib.hid r1
  have HR2 := Lib.hid r2
  have HR3 := Lib.hid r3
  have hl0 := r0.lt
  have hl1 := r1.lt
  have hl2 := r2.lt
  have hl3 := r3.lt
  have x42 : W1.cell? ⟨w.heap.size + 1 + 1 + 1, 42, none⟩ = some (.slice B lb.length cb) := by rw [← HB.out.hv]; exact (r3.cell 42).trans (ent_g42 b)
  have hlX := HB.out.val.len
  clear x1 r0 r1 r2 r3
  go_upto_region 9 with (first
    | (go_at_call 67; refine (clone_any B cb lb _ HB.out.hA (by omega) (HB.out.hr.on HX1.out)).mono ?_; rintro e w2 ⟨A1, c1, rfl, ho, hx⟩; have HO := Lib.hid ho; have HXc := Lib.hid hx; have f42 := (HR3.out.ext hx).free 42; have g42 := (HR3.out.ext hx).cell 42; have f41 := (HR3.out.ext hx).free 41; have g41 := (HR3.out.ext hx).cell 41; have s0 : w2.cell? ⟨w.heap.size, 41, none⟩ = some (.bool a.soft) := ((HR0.out.ext hx).cell 41).trans (ent_g41 a); have s1 : w2.cell? ⟨w.heap.size + 1, 41, none⟩ = some (.bool b.soft) := ((HR1.out.ext hx).cell 41).trans (ent_g41 b); have row0 : rowOf w2 w.heap.size 0 41 = some (stmC a.st) := by rw [(HR0.out.ext hx).row, if_neg (by omega), ent_stm]
       have row1 : rowOf w2 (w.heap.size + 1) 0 41 = some (stmC b.st) := by rw [(HR1.out.ext hx).row, if_neg (by omega), ent_stm]
       have hsz2 := hx.size
       clear ho hx)
    | (go_at_call 68; refine (HCp.out _).mono ?_; rintro e w' ⟨rfl, hxl⟩; obtain ⟨xl, rfl⟩ := hxl.asLater; clear hxl))
  refine wp_world (fun W => Ext w W ∧ RowAt W w.heap.size (entC a) ∧ RowAt W (w.heap.size + 1) (entC b) ∧ RowAt W (w.heap.size + 1 + 1) (entC noEn) ∧ RowAt W (w.heap.size + 1 + 1 + 1) (entC { b with hv := .slice A1 lb.length c1 }) ∧ OwnsSp (w.heap.size + 1 + 1 + 1 + 1) W A1 c1 lb) ⟨((HX1.out.trans HXc.out).setCell (p := ⟨w.heap.size + 1 + 1 + 1, 42, none⟩) (by show w.heap.size ≤ w.heap.size + 1 + 1 + 1; omega) _).onto _, ((HR0.out.ext HXc.out).other (p := ⟨w.heap.size + 1 + 1 + 1, 42, none⟩) (by show w.heap.size ≠ w.heap.size + 1 + 1 + 1; omega) _).later _, ((HR1.out.ext HXc.out).other (p := ⟨w.heap.size + 1 + 1 + 1, 42, none⟩) (by show w.heap.size + 1 ≠ w.heap.size + 1 + 1 + 1; omega) _).later _, ((HR2.out.ext HXc.out).other (p := ⟨w.heap.size + 1 + 1 + 1, 42, none⟩) (by show w.heap.size + 1 + 1 ≠ w.heap.size + 1 + 1 + 1; omega) _).later _, by rw [← ent_set42]; exact ((HR3.out.ext HXc.out).set 42 _).later _, ((HO.out.other (p := ⟨w.heap.size + 1 + 1 + 1, 42, none⟩) (by show w.heap.size + 1 + 1 + 1 < _; omega) _).later _).lower (by omega)⟩ ?_
  clear f42 g42 f41 g41 s0 s1 row0 row1 x42 hl0 hl1 hl2 hl3 HX1 HR0 HR1 HR2 HR3 HO HXc hsz2 q2 HCp HBt
  rintro W2 ⟨x2, r0, r1, r2, r3, ho2⟩
  have HX2 := Lib.hid x2
  have HO2 := Lib.hid ho2
  obtain ⟨Y, hY⟩ : ∃ Y : En, ({ b with hv := .slice A1 lb.length c1 } : En) = Y := ⟨_, rfl⟩
  have HY := Lib.hid hY
  rw [hY] at r3
  have hYv : Y.hv = .slice A1 lb.length c1 := by rw [← hY]
  have HYw : Hid (Y.whole = (b).whole) := Lib.hid (by rw [← hY])
  have HYs : Hid (Y.st = (b).st) := Lib.hid (by rw [← hY])
  have hfY : fitsRow 45 (entC Y) = true := ent_fits_of hYv
  have HR0 := Lib.hid r0
  have HR1 := Lib.hid r1
  have HR2 := Lib.hid r2
  have HR3 := Lib.hid r3
  have hl0 := r0.lt
  have hl1 := r1.lt
  have hl2 := r2.lt
  have hl3 := r3.lt
  have rowY : rowOf W2 (w.heap.size + 1 + 1 + 1) 0 45 = some (entC Y) := r3.all (ent_size _).symm (by omega)
  have room2 : roomOf W2 (w.heap.size + 1 + 1) 0 45 = true := by rw [r2.room, ent_size]; rfl
  have row0 : rowOf W2 w.heap.size 0 41 = some (stmC a.st) := by rw [r0.row, if_neg (by omega), ent_stm]
  have row1 : rowOf W2 (w.heap.size + 1) 0 41 = some (stmC b.st) := by rw [r1.row, if_neg (by omega), ent_stm]
  have rowa : rowOf W2 w.heap.size 0 45 = some (entC a) := r0.all (ent_size _).symm (by omega)
  have rowb : rowOf W2 (w.heap.size + 1) 0 45 = some (entC b) := r1.all (ent_size _).symm (by omega)
  clear x2 r0 r1 r2 r3 ho2 hY
  cases hsm : sameN a.st b.st with
  | false =>
    rw [hsm] at HSm
    have HM : Hid (mergeN a b la lb = ⟨b, lb, 0⟩) := Lib.hid (by rw [mergeN, if_neg (fun k => k HN.out), if_pos hsm, HBest.out])
    clear hsm
    go_wp2_with (go_at_call 69; refine (HSm.out _).mono ?_; rintro e w' ⟨rfl, hxl⟩; obtain ⟨xl, rfl⟩ := hxl.asLater; clear hxl)
    have hx : Ext w ((later W2 xl).setCells (w.heap.size + 1 + 1) 0 (entC Y).toList) := (HX2.out.onto _).setCells (by omega) _ _
    have ho : OwnsSp (w.heap.size + 1 + 1 + 1 + 1) ((later W2 xl).setCells (w.heap.size + 1 + 1) 0 (entC Y).toList) A1 c1 lb := (HO2.out.later _).others (by omega) _ _
    refine post_two (v1 := .agg (entC Y)) (v2 := .int .i64 0) Tryz.results30 rfl ⟨_, rfl, ent_loaded (row_stored (HR2.out.later _) (ent_size _) (ent_size _))⟩ rfl ⟨A1, c1, by rw [HM.out, ← HY.out], OwnsSp.plain ho, ho.none0, by rw [HM.out]; exact ho.reads spE, hx⟩
  | true =>
    rw [hsm] at HSm
    go_upto_region 11 with (go_at_call 69; refine (HSm.out _).mono ?_; rintro e w' ⟨rfl, hxl⟩; obtain ⟨xl, rfl⟩ := hxl.asLater; clear hxl)
    go_wp2
    refine wp_world (fun W => Ext W2 W ∧ rowOf W (W2.heap.size + xl.n) 0 45 = some (entC a) ∧ rowOf W (W2.heap.size + xl.n) 45 45 = some (entC b) ∧ W2.heap.size + xl.n < W.heap.size) ⟨(by (repeat (first | with_reducible exact Ext.refl _ | with_reducible exact Ext.refl _ | with_reducible refine Ext.drew ?_ | with_reducible refine Ext.drewN ?_ _ | with_reducible refine Ext.alloc ?_ _ | with_reducible refine Ext.onto ?_ _ | (with_reducible refine Ext.setCells ?_ ?_ _ _; rotate_left; focus (first | omega | (simp; done) | (simp; omega))) | (with_reducible refine Ext.setCell ?_ ?_ _; rotate_left; focus (first | omega | (simp; done) | (simp; omega)))))), by rw [rowOf_alloc, if_pos (by simp [later_size]), if_neg (by omega), ent2_a], by rw [rowOf_alloc, if_pos (by simp [later_size]), if_neg (by omega), ent2_b], by simp [later_size]⟩ ?_
    have hB2 : W2.heap.size ≤ W2.heap.size + xl.n := by omega
    generalize W2.heap.size + xl.n = B3 at *
    rintro W3 ⟨x3, rA, rB, hB3⟩
    have HX3 := Lib.hid x3
    clear x3
    have hA44 : (entC a)[44]? = some (.bool a.whole) := ent_g44 a
    have hB44 : (entC b)[44]? = some (.bool b.whole) := ent_g44 b
    cases hwa : a.whole with
    | true =>
      rw [hwa] at hA44
      refine wp_loop_rounds 1 ?_
      rw [rounds_succ]
      go_wp2
      have HM : Hid (mergeN a b la lb = ⟨{ b with bytes := a.bytes, whole := true }, la, 0⟩) := Lib.hid (by rw [mergeN, if_neg (fun k => k HN.out), if_neg (by rw [hsm]; decide), if_pos hwa, HBest.out])
      clear hsm hwa
      refine wp_world (fun W => Ext W2 W ∧ RowAt W W3.heap.size (entC a)) ⟨(HX3.out.alloc _).setCells (by omega) _ _, (RowAt.newAt (cs := entC noEn) (t := 58) rfl).store (by rw [ent_size, ent_size])⟩ ?_
      have hE : w.heap.size + 1 + 1 + 1 < W3.heap.size := Nat.lt_of_lt_of_le hl3 HX3.out.size
      generalize W3.heap.size = E at *
      rintro W4 ⟨x4, rE⟩
      clear HX3 rA rB hB3 hB2
      have HX4 := Lib.hid x4
      have k42 : W4.cell? ⟨E, 42, none⟩ = some (.slice A la.length ca) := by rw [← HA.out.hv]; exact (rE.cell 42).trans (ent_g42 a)
      have k43 : W4.cell? ⟨E, 43, none⟩ = some (.string (a).bytes) := (rE.cell 43).trans (ent_g43 a)
      have hEl := rE.lt
      have hlA := HA.out.val.len
      have r3' := HR3.out.ext x4
      have f42 := r3'.free 42
      have f43 := r3'.free 43
      have f44 := r3'.free 44
      have g42 := (r3'.cell 42).trans (ent_g42 Y)
      have g43 := (r3'.cell 43).trans (ent_g43 Y)
      have g44 := (r3'.cell 44).trans (ent_g44 Y)
      have hl3' := r3'.lt
      clear x4 rE r3' hA44 hB44 rowY room2 row0 row1 rowa rowb
      go_region_with (go_at_call 67; refine (clone_any A ca la _ HA.out.hA (by omega) (HA.out.hr.on (HX2.out.trans (HX4.out.trans (by (repeat (first | with_reducible exact Ext.refl _ | with_reducible exact Ext.refl _ | with_reducible refine Ext.drew ?_ | with_reducible refine Ext.drewN ?_ _ | with_reducible refine Ext.alloc ?_ _ | with_reducible refine Ext.onto ?_ _ | (with_reducible refine Ext.setCells ?_ ?_ _ _; rotate_left; focus (first | omega | (simp; done) | (simp; omega))) | (with_reducible refine Ext.setCell ?_ ?_ _; rotate_left; focus (first | omega | (simp; done) | (simp; omega)))))))))).mono ?_; rintro e wc ⟨A5, c5, rfl, ho, hx⟩; have hxx := (show Ext W4 _ from (by (repeat (first | with_reducible exact Ext.refl _ | with_reducible exact Ext.refl _ | with_reducible refine Ext.drew ?_ | with_reducible refine Ext.drewN ?_ _ | with_reducible refine Ext.alloc ?_ _ | with_reducible refine Ext.onto ?_ _ | (with_reducible refine Ext.setCells ?_ ?_ _ _; rotate_left; focus (first | omega | (simp; done) | (simp; omega))) | (with_reducible refine Ext.setCell ?_ ?_ _; rotate_left; focus (first | omega | (simp; done) | (simp; omega))))))).trans hx; have HO5 := Lib.hid ho; have HX5 := Lib.hid hxx; have c43 := (hxx.cell (p := ⟨E, 43, none⟩) hEl).trans k43; have p42 := (hxx.frozen (p := ⟨w.heap.size + 1 + 1 + 1, 42, none⟩) hl3').trans f42; have p43 := (hxx.frozen (p := ⟨w.heap.size + 1 + 1 + 1, 43, none⟩) hl3').trans f43; have p44 := (hxx.frozen (p := ⟨w.heap.size + 1 + 1 + 1, 44, none⟩) hl3').trans f44; have q42 := (hxx.cell (p := ⟨w.heap.size + 1 + 1 + 1, 42, none⟩) hl3').trans g42; have q43 := (hxx.cell (p := ⟨w.heap.size + 1 + 1 + 1, 43, none⟩) hl3').trans g43; have q44 := (hxx.cell (p := ⟨w.heap.size + 1 + 1 + 1, 44, none⟩) hl3').trans g44; clear ho hx hxx)
      all_goals (go_upto_region 16 with (fail))
      all_goals
        refine wp_world (fun W => Ext w W ∧ RowAt W (w.heap.size + 1 + 1) (entC noEn) ∧ RowAt W (w.heap.size + 1 + 1 + 1) (entC { Y with hv := .slice A5 la.length c5, bytes := (a).bytes, whole := true }) ∧ OwnsSp (w.heap.size + 1 + 1 + 1 + 1) W A5 c5 la) ⟨?_, ?_, ?_, ?_⟩ ?_
        · have ht3 : w.heap.size ≤ w.heap.size + 1 + 1 + 1 := by omega
          exact (((HX2.out.trans (HX4.out.trans HX5.out)).setCell (p := ⟨w.heap.size + 1 + 1 + 1, 42, none⟩) ht3 _).setCell (p := ⟨w.heap.size + 1 + 1 + 1, 43, none⟩) ht3 _).setCell (p := ⟨w.heap.size + 1 + 1 + 1, 44, none⟩) ht3 _
        · have hne : w.heap.size + 1 + 1 ≠ w.heap.size + 1 + 1 + 1 := by omega
          exact (((HR2.out.ext (HX4.out.trans HX5.out)).other (p := ⟨w.heap.size + 1 + 1 + 1, 42, none⟩) hne _).other (p := ⟨w.heap.size + 1 + 1 + 1, 43, none⟩) hne _).other (p := ⟨w.heap.size + 1 + 1 + 1, 44, none⟩) hne _
        · have z1 := (HR3.out.ext (HX4.out.trans HX5.out)).set 42 (.slice A5 la.length c5)
          rw [ent_set42] at z1
          have z2 := z1.set 43 (.string (a).bytes)
          rw [ent_set43] at z2
          have z3 := z2.set 44 (.bool true)
          rw [ent_set44] at z3
          exact z3
        · have hlt : w.heap.size + 1 + 1 + 1 < w.heap.size + 1 + 1 + 1 + 1 := by omega
          exact (((HO5.out.lower (by have := HX4.out.size; have := HX5.out.size; first | omega | (simp; omega))).other (p := ⟨w.heap.size + 1 + 1 + 1, 42, none⟩) hlt _).other (p := ⟨w.heap.size + 1 + 1 + 1, 43, none⟩) hlt _).other (p := ⟨w.heap.size + 1 + 1 + 1, 44, none⟩) hlt _
        rintro W5 ⟨x5, r2, r3, ho5⟩
        have HX6 := Lib.hid x5
        have HR6 := Lib.hid r2
        have HO6 := Lib.hid ho5
        have rowY : rowOf W5 (w.heap.size + 1 + 1 + 1) 0 45 = some (entC { Y with hv := .slice A5 la.length c5, bytes := (a).bytes, whole := true }) := r3.all (ent_size _).symm (by omega)
        have room2 : roomOf W5 (w.heap.size + 1 + 1) 0 45 = true := by rw [r2.room, ent_size]; rfl
        have hl2' := r2.lt
        have hl3' := r3.lt
        have hfZ : fitsRow 45 (entC { Y with hv := .slice A5 la.length c5, bytes := (a).bytes, whole := true }) = true := ent_fits_of rfl
        clear x5 r2 r3 ho5 f42 f43 f44 g42 g43 g44 p42 p43 p44 q42 q43 q44 c43 k42 k43
        go_wp2
        have hx : Ext w (W5.setCells (w.heap.size + 1 + 1) 0 (entC { Y with hv := .slice A5 la.length c5, bytes := (a).bytes, whole := true }).toList) := HX6.out.setCells (by omega) _ _
        have ho : OwnsSp (w.heap.size + 1 + 1 + 1 + 1) (W5.setCells (w.heap.size + 1 + 1) 0 (entC { Y with hv := .slice A5 la.length c5, bytes := (a).bytes, whole := true }).toList) A5 c5 la := HO6.out.others (by omega) _ _
        refine post_two (v1 := .agg (entC { Y with hv := .slice A5 la.length c5, bytes := (a).bytes, whole := true })) (v2 := .int .i64 0) Tryz.results30 rfl ⟨_, rfl, ent_loaded (row_stored HR6.out (ent_size _) (ent_size _))⟩ rfl ⟨A5, c5, by rw [HM.out, ← HY.out], OwnsSp.plain ho, ho.none0, by rw [HM.out]; exact ho.reads spE, hx⟩
    | false =>
      rw [hwa] at hA44
      cases hwb : b.whole with
      | true =>
        rw [hwb] at hB44
        have HM : Hid (mergeN a b la lb = ⟨{ b with bytes := b.bytes, whole := true }, lb, 0⟩) := Lib.hid (by rw [mergeN, if_neg (fun k => k HN.out), if_neg (by rw [hsm]; decide), if_neg (by rw [hwa]; decide), if_pos hwb, HBest.out])
        clear hsm hwa hwb
        refine wp_loop_rounds 2 ?_
        rw [rounds_succ]
        go_wp2
        rw [rounds_succ]
        refine wp_world (fun W => Ext W3 W) ((((Ext.refl W3).alloc _)).setCells (Nat.le_refl _) _ _) ?_
        rintro Wn xn
        replace rA := (row_ext xn hB3 0 45).trans rA
        replace rB := (row_ext xn hB3 45 45).trans rB
        replace hB3 := Nat.lt_of_lt_of_le hB3 xn.size
        replace HX3 := Lib.hid (HX3.out.trans xn)
        clear xn
        obtain ⟨W3, rfl⟩ : ∃ W, W = Wn := ⟨Wn, rfl⟩
        go_wp2
        refine wp_world (fun W => Ext W2 W ∧ RowAt W W3.heap.size (entC b)) ⟨(HX3.out.alloc _).setCells (by omega) _ _, (RowAt.newAt (cs := entC noEn) (t := 58) rfl).store (by rw [ent_size, ent_size])⟩ ?_
        have hE : w.heap.size + 1 + 1 + 1 < W3.heap.size := Nat.lt_of_lt_of_le hl3 HX3.out.size
        generalize W3.heap.size = E at *
        rintro W4 ⟨x4, rE⟩
        clear HX3 rA rB hB3 hB2
        have HX4 := Lib.hid x4
        have k42 : W4.cell? ⟨E, 42, none⟩ = some (.slice B lb.length cb) := by rw [← HB.out.hv]; exact (rE.cell 42).trans (ent_g42 b)
        have k43 : W4.cell? ⟨E, 43, none⟩ = some (.string (b).bytes) := (rE.cell 43).trans (ent_g43 b)
        have hEl := rE.lt
        have hlA := HB.out.val.len
        have r3' := HR3.out.ext x4
        have f42 := r3'.free 42
        have f43 := r3'.free 43
        have f44 := r3'.free 44
        have g42 := (r3'.cell 42).trans (ent_g42 Y)
        have g43 := (r3'.cell 43).trans (ent_g43 Y)
        have g44 := (r3'.cell 44).trans (ent_g44 Y)
        have hl3' := r3'.lt
        clear x4 rE r3' hA44 hB44 rowY room2 row0 row1 rowa rowb
        go_region_with (go_at_call 67; refine (clone_any B cb lb _ HB.out.hA (by omega) (HB.out.hr.on (HX2.out.trans (HX4.out.trans (by (repeat (first | with_reducible exact Ext.refl _ | with_reducible exact Ext.refl _ | with_reducible refine Ext.drew ?_ | with_reducible refine Ext.drewN ?_ _ | with_reducible refine Ext.alloc ?_ _ | with_reducible refine Ext.onto ?_ _ | (with_reducible refine Ext.setCells ?_ ?_ _ _; rotate_left; focus (first | omega | (simp; done) | (simp; omega))) | (with_reducible refine Ext.setCell ?_ ?_ _; rotate_left; focus (first | omega | (simp; done) | (simp; omega)))))))))).mono ?_; rintro e wc ⟨A5, c5, rfl, ho, hx⟩; have hxx := (show Ext W4 _ from (by (repeat (first | with_reducible exact Ext.refl _ | with_reducible exact Ext.refl _ | with_reducible refine Ext.drew ?_ | with_reducible refine Ext.drewN ?_ _ | with_reducible refine Ext.alloc ?_ _ | with_reducible refine Ext.onto ?_ _ | (with_reducible refine Ext.setCells ?_ ?_ _ _; rotate_left; focus (first | omega | (simp; done) | (simp; omega))) | (with_reducible refine Ext.setCell ?_ ?_ _; rotate_left; focus (first | omega | (simp; done) | (simp; omega))))))).trans hx; have HO5 := Lib.hid ho; have HX5 := Lib.hid hxx; have c43 := (hxx.cell (p := ⟨E, 43, none⟩) hEl).trans k43; have p42 := (hxx.frozen (p := ⟨w.heap.size + 1 + 1 + 1, 42, none⟩) hl3').trans f42; have p43 := (hxx.frozen (p := ⟨w.heap.size + 1 + 1 + 1, 43, none⟩) hl3').trans f43; have p44 := (hxx.frozen (p := ⟨w.heap.size + 1 + 1 + 1, 44, none⟩) hl3').trans f44; have q42 := (hxx.cell (p := ⟨w.heap.size + 1 + 1 + 1, 42, none⟩) hl3').trans g42; have q43 := (hxx.cell (p := ⟨w.heap.size + 1 + 1 + 1, 43, none⟩) hl3').trans g43; have q44 := (hxx.cell (p := ⟨w.heap.size + 1 + 1 + 1, 44, none⟩) hl3').trans g44; clear ho hx hxx)
        all_goals (go_upto_region 16 with (fail))
        all_goals
          refine wp_world (fun W => Ext w W ∧ RowAt W (w.heap.size + 1 + 1) (entC noEn) ∧ RowAt W (w.heap.size + 1 + 1 + 1) (entC { Y with hv := .slice A5 lb.length c5, bytes := (b).bytes, whole := true }) ∧ OwnsSp (w.heap.size + 1 + 1 + 1 + 1) W A5 c5 lb) ⟨?_, ?_, ?_, ?_⟩ ?_
          · have ht3 : w.heap.size ≤ w.heap.size + 1 + 1 + 1 := by omega
            exact (((HX2.out.trans (HX4.out.trans HX5.out)).setCell (p := ⟨w.heap.size + 1 + 1 + 1, 42, none⟩) ht3 _).setCell (p := ⟨w.heap.size + 1 + 1 + 1, 43, none⟩) ht3 _).setCell (p := ⟨w.heap.size + 1 + 1 + 1, 44, none⟩) ht3 _
          · have hne : w.heap.size + 1 + 1 ≠ w.heap.size + 1 + 1 + 1 := by omega
            exact (((HR2.out.ext (HX4.out.trans HX5.out)).other (p := ⟨w.heap.size + 1 + 1 + 1, 42, none⟩) hne _).other (p := ⟨w.heap.size + 1 + 1 + 1, 43, none⟩) hne _).other (p := ⟨w.heap.size + 1 + 1 + 1, 44, none⟩) hne _
          · have z1 := (HR3.out.ext (HX4.out.trans HX5.out)).set 42 (.slice A5 lb.length c5)
            rw [ent_set42] at z1
            have z2 := z1.set 43 (.string (b).bytes)
            rw [ent_set43] at z2
            have z3 := z2.set 44 (.bool true)
            rw [ent_set44] at z3
            exact z3
          · have hlt : w.heap.size + 1 + 1 + 1 < w.heap.size + 1 + 1 + 1 + 1 := by omega
            exact (((HO5.out.lower (by have := HX4.out.size; have := HX5.out.size; first | omega | (simp; omega))).other (p := ⟨w.heap.size + 1 + 1 + 1, 42, none⟩) hlt _).other (p := ⟨w.heap.size + 1 + 1 + 1, 43, none⟩) hlt _).other (p := ⟨w.heap.size + 1 + 1 + 1, 44, none⟩) hlt _
          rintro W5 ⟨x5, r2, r3, ho5⟩
          have HX6 := Lib.hid x5
          have HR6 := Lib.hid r2
          have HO6 := Lib.hid ho5
          have rowY : rowOf W5 (w.heap.size + 1 + 1 + 1) 0 45 = some (entC { Y with hv := .slice A5 lb.length c5, bytes := (b).bytes, whole := true }) := r3.all (ent_size _).symm (by omega)
          have room2 : roomOf W5 (w.heap.size + 1 + 1) 0 45 = true := by rw [r2.room, ent_size]; rfl
          have hl2' := r2.lt
          have hl3' := r3.lt
          have hfZ : fitsRow 45 (entC { Y with hv := .slice A5 lb.length c5, bytes := (b).bytes, whole := true }) = true := ent_fits_of rfl
          clear x5 r2 r3 ho5 f42 f43 f44 g42 g43 g44 p42 p43 p44 q42 q43 q44 c43 k42 k43
          go_wp2
          have hx : Ext w (W5.setCells (w.heap.size + 1 + 1) 0 (entC { Y with hv := .slice A5 lb.length c5, bytes := (b).bytes, whole := true }).toList) := HX6.out.setCells (by omega) _ _
          have ho : OwnsSp (w.heap.size + 1 + 1 + 1 + 1) (W5.setCells (w.heap.size + 1 + 1) 0 (entC { Y with hv := .slice A5 lb.length c5, bytes := (b).bytes, whole := true }).toList) A5 c5 lb := HO6.out.others (by omega) _ _
          refine post_two (v1 := .agg (entC { Y with hv := .slice A5 lb.length c5, bytes := (b).bytes, whole := true })) (v2 := .int .i64 0) Tryz.results30 rfl ⟨_, rfl, ent_loaded (row_stored HR6.out (ent_size _) (ent_size _))⟩ rfl ⟨A5, c5, by rw [HM.out, ← HY.out], OwnsSp.plain ho, ho.none0, by rw [HM.out]; exact ho.reads spE, hx⟩
      | false =>
        rw [hwb] at hB44
        have HM : Hid (mergeN a b la lb = { settleN b (addAll la lb) (mrgB b.bytes lb a.bytes) with n := 0 }) := Lib.hid (by rw [mergeN, if_neg (fun k => k HN.out), if_neg (by rw [hsm]; decide), if_neg (by rw [hwa]; decide), if_neg (by rw [hwb]; decide), HBest.out])
        have HSz := Lib.hid (sameN_iff hsm).1
        have HWX : Hid ((b).whole = false) := Lib.hid (hwb)
        have HWA : Hid (a.whole = false) := Lib.hid hwa
        clear hsm hwa hwb
        refine wp_loop_rounds 3 ?_
        rw [rounds_succ]
        go_wp2
        rw [rounds_succ]
        refine wp_world (fun W => Ext W3 W) ((((Ext.refl W3).alloc _)).setCells (Nat.le_refl _) _ _) ?_
        rintro Wn xn
        replace rA := (row_ext xn hB3 0 45).trans rA
        replace rB := (row_ext xn hB3 45 45).trans rB
        replace hB3 := Nat.lt_of_lt_of_le hB3 xn.size
        replace HX3 := Lib.hid (HX3.out.trans xn)
        clear xn
        obtain ⟨W3, rfl⟩ : ∃ W, W = Wn := ⟨Wn, rfl⟩
        go_wp2
        rw [rounds_succ]
        refine wp_world (fun W => Ext W3 W) ((((Ext.refl W3).alloc _)).setCells (Nat.le_refl _) _ _) ?_
        rintro Wn xn
        replace rA := (row_ext xn hB3 0 45).trans rA
        replace rB := (row_ext xn hB3 45 45).trans rB
        replace hB3 := Nat.lt_of_lt_of_le hB3 xn.size
        replace HX3 := Lib.hid (HX3.out.trans xn)
        clear xn
        obtain ⟨W3, rfl⟩ : ∃ W, W = Wn := ⟨Wn, rfl⟩
        go_wp2
        have HBv := HB.out.val
        have HAv := HA.out.val
        have hA42 : ∀ W, Ext W2 W → W.cell? ⟨w.heap.size, 42, none⟩ = some (.slice A la.length ca) := fun W hx => by rw [← HA.out.hv]; exact ((HR0.out.ext hx).cell 42).trans (ent_g42 a)
        have hA43 : ∀ W, Ext W2 W → W.cell? ⟨w.heap.size, 43, none⟩ = some (.string a.bytes) := fun W hx => ((HR0.out.ext hx).cell 43).trans (ent_g43 a)
        have HH42 := Lib.hid hA42
        have HH43 := Lib.hid hA43
        have HBV := Lib.hid HBv
        have HAV := Lib.hid HAv
        have hl0' : w.heap.size < W3.heap.size := Nat.lt_of_lt_of_le hl0 HX3.out.size
        have hl3' : w.heap.size + 1 + 1 + 1 < W3.heap.size := Nat.lt_of_lt_of_le hl3 HX3.out.size
        clear hA42 hA43 HBv HAv rA rB hB3 hB2 hA44 hB44 row0 row1 rowa rowb rowY room2
        refine wp_region_softE 7 (softsE [.eq (.pointer (some ⟨w.heap.size, 42, none⟩)), .eq (.slice A la.length ca), .eq (.pointer (some ⟨w.heap.size, 43, none⟩)), .eq (.string a.bytes), bytSoft W3.heap.size a.bytes, .eq (.slice A la.length ca), bytSoft W3.heap.size a.bytes]) (by kernel_rfl) (by kernel_rfl) (lt_cons ?_ (lt_cons ?_ (lt_cons ?_ (lt_cons ?_ (lt_cons ?_ (lt_cons ?_ (lt_cons ?_ lt_none))))))) ?_
        ·
          intro o ho xs W hW hd Q' hQ; obtain rfl := Option.some.inj ho; clear ho; simp only [fillAt, dstOf, List.getElem?_cons_zero, List.getElem?_cons_succ, Option.bind_some, Act.put, List.setIfInBounds_toArray, List.set_cons_zero, List.set_cons_succ, Nat.zero_add, Nat.reduceAdd] at hQ ⊢; have HQ := Lib.hid hQ; have HD := Lib.hid hd; have HW := Lib.hid hW; have hsW := hW.size; clear hQ hd hW
          go_wp2
          exact HQ.out _ _ (Ext.refl _) rfl
        ·
          intro o ho xs W hW hd Q' hQ; obtain rfl := Option.some.inj ho; clear ho; simp only [fillAt, dstOf, List.getElem?_cons_zero, List.getElem?_cons_succ, Option.bind_some, Act.put, List.setIfInBounds_toArray, List.set_cons_zero, List.set_cons_succ, Nat.zero_add, Nat.reduceAdd] at hQ ⊢; have HQ := Lib.hid hQ; have HD := Lib.hid hd; have HW := Lib.hid hW; have hsW := hW.size; clear hQ hd hW
          have hd0 : xs 0 = .pointer (some ⟨w.heap.size, 42, none⟩) := (HD.out 0 (of_decide_eq_true (by kernel_rfl)))
          generalize xs 0 = x0 at hd0 HQ ⊢; subst hd0
          have hc := HH42.out _ (HX3.out.trans HW.out)
          go_wp2
          exact HQ.out _ _ (Ext.refl _) rfl
        ·
          intro o ho xs W hW hd Q' hQ; obtain rfl := Option.some.inj ho; clear ho; simp only [fillAt, dstOf, List.getElem?_cons_zero, List.getElem?_cons_succ, Option.bind_some, Act.put, List.setIfInBounds_toArray, List.set_cons_zero, List.set_cons_succ, Nat.zero_add, Nat.reduceAdd] at hQ ⊢; have HQ := Lib.hid hQ; have HD := Lib.hid hd; have HW := Lib.hid hW; have hsW := hW.size; clear hQ hd hW
          go_wp2
          exact HQ.out _ _ (Ext.refl _) rfl
        ·
          intro o ho xs W hW hd Q' hQ; obtain rfl := Option.some.inj ho; clear ho; simp only [fillAt, dstOf, List.getElem?_cons_zero, List.getElem?_cons_succ, Option.bind_some, Act.put, List.setIfInBounds_toArray, List.set_cons_zero, List.set_cons_succ, Nat.zero_add, Nat.reduceAdd] at hQ ⊢; have HQ := Lib.hid hQ; have HD := Lib.hid hd; have HW := Lib.hid hW; have hsW := hW.size; clear hQ hd hW
          have hd2 : xs 2 = .pointer (some ⟨w.heap.size, 43, none⟩) := (HD.out 2 (of_decide_eq_true (by kernel_rfl)))
          generalize xs 2 = x2 at hd2 HQ ⊢; subst hd2
          have hc := HH43.out _ (HX3.out.trans HW.out)
          go_wp2
          exact HQ.out _ _ (Ext.refl _) rfl
        ·
          intro o ho xs W hW hd Q' hQ; obtain rfl := Option.some.inj ho; clear ho; simp only [fillAt, dstOf, List.getElem?_cons_zero, List.getElem?_cons_succ, Option.bind_some, Act.put, List.setIfInBounds_toArray, List.set_cons_zero, List.set_cons_succ, Nat.zero_add, Nat.reduceAdd] at hQ ⊢; have HQ := Lib.hid hQ; have HD := Lib.hid hd; have HW := Lib.hid hW; have hsW := hW.size; clear hQ hd hW
          have hd3 : xs 3 = .string a.bytes := (HD.out 3 (of_decide_eq_true (by kernel_rfl)))
          generalize xs 3 = x3 at hd3 HQ ⊢; subst hd3
          have hge := grownCap_ge W a.bytes.size 0 5
          go_wp2
          rw [strConv]
          go_wp2
          exact HQ.out _ _ (ext_bytes W 5 a.bytes) ⟨W.heap.size, _, rfl, hsW, hge, bytes_at W 5 a.bytes⟩
        ·
          intro o ho xs W hW hd Q' hQ; obtain rfl := Option.some.inj ho; clear ho; simp only [fillAt, dstOf, List.getElem?_cons_zero, List.getElem?_cons_succ, Option.bind_some, Act.put, List.setIfInBounds_toArray, List.set_cons_zero, List.set_cons_succ, Nat.zero_add, Nat.reduceAdd] at hQ ⊢; have HQ := Lib.hid hQ; have HD := Lib.hid hd; have HW := Lib.hid hW; have hsW := hW.size; clear hQ hd hW
          have hd1 : xs 1 = (.slice A la.length ca) := (HD.out 1 (of_decide_eq_true (by kernel_rfl)))
          generalize xs 1 = x1 at hd1 HQ ⊢; subst hd1
          go_wp2
          exact HQ.out _ _ (Ext.refl _) rfl
        ·
          intro o ho xs W hW hd Q' hQ; obtain rfl := Option.some.inj ho; clear ho; simp only [fillAt, dstOf, List.getElem?_cons_zero, List.getElem?_cons_succ, Option.bind_some, Act.put, List.setIfInBounds_toArray, List.set_cons_zero, List.set_cons_succ, Nat.zero_add, Nat.reduceAdd] at hQ ⊢; have HQ := Lib.hid hQ; have HD := Lib.hid hd; have HW := Lib.hid hW; have hsW := hW.size; clear hQ hd hW
          obtain ⟨g, cap, h4, hg, hcap, hby⟩ : (bytSoft W3.heap.size a.bytes).S (xs 4) W := (HD.out 4 (of_decide_eq_true (by kernel_rfl)))
          have HBy := Lib.hid hby
          clear hby
          generalize xs 4 = x4 at h4 HQ ⊢; subst h4
          go_wp2
          exact HQ.out _ _ (Ext.refl _) ⟨g, cap, rfl, hg, hcap, HBy.out⟩
        intro xs W5 hW hS
        have h1 : xs 5 = .slice A la.length ca := hS 5 (by omega)
        obtain ⟨g, cap, h4, hg, hcap, hby⟩ : (bytSoft W3.heap.size a.bytes).S (xs 6) W5 := hS 6 (by omega)
        simp only [fillAt, dstOf, List.getElem?_cons_zero, List.getElem?_cons_succ, Option.bind_some, Act.put, List.setIfInBounds_toArray, List.set_cons_zero, List.set_cons_succ, Nat.zero_add, Nat.reduceAdd, List.drop_succ_cons, List.drop_zero, List.drop_nil]
        generalize xs 5 = y1 at *; subst h1
        generalize xs 6 = y4 at *; subst h4
        have HX5 := Lib.hid hW
        have HBy := Lib.hid hby
        have hgl := hby.1
        clear hS hW hby
        have hb42 : W5.cell? ⟨w.heap.size + 1, 42, none⟩ = some (.slice B lb.length cb) := by rw [← HB.out.hv]; exact ((HR1.out.ext (HX3.out.trans HX5.out)).cell 42).trans (ent_g42 b)
        have hl1' := (HR1.out.ext (HX3.out.trans HX5.out)).lt
        go_wp2
        go_loopw [89, 9] (EMrgRel w.heap.size W3 a b la lb g) (fun i _ _ => lb.length - (intOf i).toNat)
        
        case atStart => exact ⟨0, A, ca, la, Nat.zero_le _, rfl, rfl, Lib.hid rfl, Lib.hid ((HA.out.keep _).ext (HX2.out.trans (HX3.out.trans HX5.out))), Lib.hid HBy.out, HX5⟩
        case round =>
          obtain ⟨k, A', c', out, hk, rfl, rfl, HO, HKp, HBy2, HX6⟩ := hrel
          have hxw : Ext w wr := HX2.out.trans (HX3.out.trans HX6.out)
          have hsw := hxw.size
          have hsi := addAll_in (lb.take k) HAV.out.si (fun s hs => by
            have i1 := HBV.out.si.1.2 s (List.mem_of_mem_take hs)
            have i2 := HBV.out.si.2 s (List.mem_of_mem_take hs)
            have i3 := HSz.out
            omega)
          rw [← HO.out] at hsi
          have HSI := Lib.hid hsi.1
          have hlb0 := HBV.out.len
          have hgw := HBy2.out.1
          have hbd : ∀ s ∈ lb, 0 ≤ s.1 ∧ s.1 < s.2 ∧ s.2 ≤ b.bytes.size := fun s hs => by
            have h1 := HBV.out.si.1.2 s hs
            have h2 := HBV.out.si.2 s hs
            have h3 := HBV.out.bs
            omega
          have hD : (mrgB b.bytes (lb.take k) a.bytes).size = b.bytes.size := (mrg_get b.bytes (lb.take k) a.bytes (fun s hs => hbd s (List.mem_of_mem_take hs)) (by have h1 := HAV.out.bs; have h2 := HSz.out; have h3 := HBV.out.bs; omega)).1
          have hsz1 := HBV.out.bs
          have hsz2 := HBV.out.sz
          have hsz0 := HBV.out.z0
          have hsza := HAV.out.bs
          have HSz' := HSz.out
          clear hsi
          by_cases hlt : k < lb.length
          · obtain ⟨bb, off, rfl, hbb, y1, y2⟩ := ReadsSp.cell (HB.out.hr.on hxw) k hlt
            have hin := List.getElem_mem hlt
            have i1 := hbd _ hin
            have HJ := Lib.hid (addAll_snoc la lb k hlt)
            have HJB := Lib.hid (mrgB_snoc b.bytes lb a.bytes k hlt)
            rw [← HO.out] at HJ
            generalize lb[k] = s at *
            obtain ⟨s1, s2⟩ := s
            simp only [] at y1 y2 i1
            obtain ⟨f, rfl⟩ : ∃ f : Nat, s1 = f := ⟨s1.toNat, by omega⟩
            obtain ⟨t, rfl⟩ : ∃ t : Nat, s2 = t := ⟨s2.toNat, by omega⟩
            generalize mrgB b.bytes (lb.take k) a.bytes = D at *
            have hb43 : ∀ W, Ext wr W → W.cell? ⟨w.heap.size + 1, 43, none⟩ = some (.string b.bytes) := fun W hx => ((HR1.out.ext (HX3.out.trans (HX6.out.trans hx))).cell 43).trans (ent_g43 b)
            have HB43 := Lib.hid hb43
            have HAd := Lib.hid (fun W (p : ReadsSp W W.heap.size A' out) => eadd_is A' c' out ((f : Int), (t : Int)) W a.st.size HSI.out HAV.out.sz HAV.out.z0 (by simp only []; omega) (by simp only []; omega) (by simp only []; omega) HKp.out.plain p)
            rw [← HJ.out] at HAd
            clear hin hb43 hbd
            go_wp2_with (go_at_call 64; refine (HAd.out _ (HKp.out.ext (by (repeat (first | with_reducible exact Ext.refl _ | with_reducible exact Ext.refl _ | with_reducible refine Ext.drew ?_ | with_reducible refine Ext.drewN ?_ _ | with_reducible refine Ext.alloc ?_ _ | with_reducible refine Ext.onto ?_ _ | (with_reducible refine Ext.setCells ?_ ?_ _ _; rotate_left; focus (first | omega | (simp; done) | (simp; omega))) | (with_reducible refine Ext.setCell ?_ ?_ _; rotate_left; focus (first | omega | (simp; done) | (simp; omega))))))).reads).mono ?_; rintro e w6 ⟨A2, c2, rfl, ho, hx6⟩; have hxx := (show Ext wr _ from (by (repeat (first | with_reducible exact Ext.refl _ | with_reducible exact Ext.refl _ | with_reducible refine Ext.drew ?_ | with_reducible refine Ext.drewN ?_ _ | with_reducible refine Ext.alloc ?_ _ | with_reducible refine Ext.onto ?_ _ | (with_reducible refine Ext.setCells ?_ ?_ _ _; rotate_left; focus (first | omega | (simp; done) | (simp; omega))) | (with_reducible refine Ext.setCell ?_ ?_ _; rotate_left; focus (first | omega | (simp; done) | (simp; omega))))))).trans hx6; have p0 : w6.cell? ⟨wr.heap.size, 0, none⟩ = some (.int .i64 f) := (hx6.cell (p := ⟨wr.heap.size, 0, none⟩) (by simp)).trans (by rw [alloc_cell_if, if_pos (by simp)]; rfl); have p1 : w6.cell? ⟨wr.heap.size, 1, none⟩ = some (.int .i64 t) := (hx6.cell (p := ⟨wr.heap.size, 1, none⟩) (by simp)).trans (by rw [alloc_cell_if, if_pos (by simp)]; rfl); have b43 := HB43.out _ hxx; have hp6 : wr.heap.size < w6.heap.size := (by have := hx6.size; simp at this; omega); have HO6 := Lib.hid ho; have HX7 := Lib.hid hxx; have HBy6 := Lib.hid (HBy2.out.ext hxx); have hn6 : w.heap.size + 1 < w6.heap.size := Nat.lt_of_lt_of_le (HR1.out.ext (HX3.out.trans HX6.out)).lt hxx.size; have hsz6 := hxx.size; clear ho hx6 hxx)
            have HLt := Lib.hid hlt
            have hft : f < t := by omega
            have htb : t ≤ b.bytes.size := by omega
            have htc : t ≤ cap := by omega
            have hfc : f < cap := by omega
            have hxs : (b.bytes.extract f t).size = t - f := extract_sz htb
            clear y1 y2 i1 HAd
            refine wp_region_later_tail 15 (by kernel_rfl) (by kernel_rfl) ?_
            simp only [List.take_succ_cons, List.take_zero, List.drop_succ_cons, List.drop_zero]
            repeat (first | go_big_quiet_step (fail) | quiet_step (fail))
            refine wpQuiet_nil ?_
            rintro _ ⟨xq, rfl⟩
            have hby7 : ByteAt (later w6 xq) g (bts D) := HBy6.out.ext (ext_later _ _)
            have hroom : roomOf (later w6 xq) g f (min (b.bytes.extract f t).size (t - f)) = true := hby7.room f _ (by rw [hxs, Nat.min_self, bts_length]; omega)
            have hH7 := Lib.hid hby7
            clear hby7
            go_wp2_with (with_reducible refine wpList_copy_str (.tmp 103) (.tmp 110) 118 9 5 (by kernel_rfl) u8_size g f (t - f) (t - f) rfl (b.bytes.extract f t) rfl hroom ?_)
            rw [List.take_of_length_le (l := (cells8 (bts (b.bytes.extract f t))).toList) (i := t - f) (by simp [cells8, bts_length, hxs])]
            go_roundw
            case rel =>
              have hkl := HLt.out
              refine ⟨k + 1, A2, c2, addAll la (lb.take (k + 1)), by omega, by go_num, rfl, Lib.hid rfl, Lib.hid (.inr ?_), Lib.hid ?_, Lib.hid ?_⟩
              · exact ((HO6.out.lower (by first | omega | (simp; omega))).later _).others (by omega) _ _
              · have q := hH7.out.copied (x := bts (b.bytes.extract f t)) (p := f) (by rw [bts_length, bts_length, hxs]; omega)
                have hj := HJB.out
                simp only [Int.toNat_natCast] at hj
                rw [hj, bts_over]
                exact q
              · exact ((HX6.out.trans HX7.out).onto _).setCells hg _ _
            case measure =>
              have hkl := HLt.out
              simp [intOf]; omega
          · have e : k = lb.length := by omega
            have ho := HO.out
            have hb2 := HBy2.out
            rw [e, List.take_length] at ho hb2
            rw [e, List.take_length] at hD
            have HOe := Lib.hid ho
            have HB3 := Lib.hid hb2
            clear ho hb2 HBy2 HO
            have hpos : 0 < b.bytes.size := by have h1 := HAV.out.pos HWA.out; omega
            generalize mrgB b.bytes lb a.bytes = D at *
            have hDl : (bts D).length = b.bytes.size := by rw [bts_length, hD]
            have hYw : Y.whole = false := HYw.out.trans HWX.out
            have hrY := HR3.out.ext (HX3.out.trans HX6.out)
            have hr2 := HR2.out.ext (HX3.out.trans HX6.out)
            have rowY : rowOf wr (w.heap.size + 1 + 1 + 1) 0 45 = some (entC Y) := hrY.all (ent_size _).symm (by omega)
            have hlY := hrY.lt
            have HR2w := Lib.hid hr2
            have HR3w := Lib.hid hrY
            have HK2 := Lib.hid (RowAt.ext HK.out hxw)
            have hlen : out.length ≤ 65536 := by have h1 := HSI.out.len HAV.out.z0; have h2 := HAV.out.sz; omega
            have hXs : (b).st.size = a.st.size := by first | rfl | exact HSz.out.symm | (rw [HEX.out])
            obtain ⟨R, hR⟩ : ∃ R, settleN Y out D = R := ⟨_, rfl⟩
            have hss := settle_same b (.slice A1 lb.length c1) (b).bytes D out
            rw [show (⟨(b).st, (b).soft, .slice A1 lb.length c1, (b).bytes, (b).whole⟩ : En) = Y from HY.out, hR] at hss
            have HSS := Lib.hid hss
            have HSet := Lib.hid (fun W (hx : Ext wr W) (A5 : Option Addr) (c5 : Nat) (p : OwnsSp (w.heap.size + 1 + 1 + 1 + 1) W A5 c5 out) => settleE_any Y ⟨A1, _, c1, hYv⟩ A5 c5 out (some ⟨g, 0, none⟩) cap (bts D) (w.heap.size + 1 + 1 + 1 + 1) W hYw (by rw [HYs.out]; exact HB.out.val.z0) (by rw [HYs.out]; exact HB.out.val.sz) (by rw [HYs.out, hXs]; exact HSI.out) p (by omega) (by omega) ((HB3.out.ext hx).reads) (RowAt.ext HK2.out hx) (by rw [HYs.out]; exact HB.out.hb) (by rw [HYs.out]; exact HB.out.hby))
            have hab : a.bytes.size = b.bytes.size := by have h1 := HAV.out.bs; have h2 := HSz.out; have h3 := HBV.out.bs; omega
            rw [nums_bts, hR, hDl, ← hab] at HSet
            clear hab
            clear hss hR hbd hlt hk hsz1 hsz2 hsz0 hsza HSz' hpos hDl hrY hr2 hYw
            go_wp2
            refine wp_region_softR 6 (softsE [.eq (.agg (entC Y)), .eq (.slice A' out.length c'), ownSoft out (w.heap.size + 1 + 1 + 1 + 1), .eq (.slice (some ⟨g, 0, none⟩) a.bytes.size cap), tupSoft R (w.heap.size + 1 + 1 + 1 + 1), tupSoft R (w.heap.size + 1 + 1 + 1 + 1)]) (by kernel_rfl) (by kernel_rfl) (lt_cons ?_ (lt_cons ?_ (lt_cons ?_ (lt_cons ?_ (lt_cons ?_ (lt_cons ?_ lt_none)))))) ?_
            ·
              intro o ho xs W hW hd Q' hQ; obtain rfl := Option.some.inj ho; clear ho; simp only [fillAt, dstOf, List.getElem?_cons_zero, List.getElem?_cons_succ, Option.bind_some, Act.put, List.setIfInBounds_toArray, List.set_cons_zero, List.set_cons_succ, Nat.zero_add, Nat.reduceAdd] at hQ ⊢; have HQ := Lib.hid hQ; have HD := Lib.hid hd; have HW := Lib.hid hW; have hsW := hW.size; clear hQ hd hW
              have hrow := (row_ext HW.out hlY 0 45).trans rowY
              go_wp2
              exact HQ.out _ _ (Ext.refl _) rfl
            ·
              intro o ho xs W hW hd Q' hQ; obtain rfl := Option.some.inj ho; clear ho; simp only [fillAt, dstOf, List.getElem?_cons_zero, List.getElem?_cons_succ, Option.bind_some, Act.put, List.setIfInBounds_toArray, List.set_cons_zero, List.set_cons_succ, Nat.zero_add, Nat.reduceAdd] at hQ ⊢; have HQ := Lib.hid hQ; have HD := Lib.hid hd; have HW := Lib.hid hW; have hsW := hW.size; clear hQ hd hW
              go_wp2
              exact HQ.out _ _ (Ext.refl _) rfl
            ·
              intro o ho xs W hW hd Q' hQ; obtain rfl := Option.some.inj ho; clear ho; simp only [fillAt, dstOf, List.getElem?_cons_zero, List.getElem?_cons_succ, Option.bind_some, Act.put, List.setIfInBounds_toArray, List.set_cons_zero, List.set_cons_succ, Nat.zero_add, Nat.reduceAdd] at hQ ⊢; have HQ := Lib.hid hQ; have HD := Lib.hid hd; have HW := Lib.hid hW; have hsW := hW.size; clear hQ hd hW
              have hd1 : xs 1 = .slice A' out.length c' := (HD.out 1 (of_decide_eq_true (by kernel_rfl)))
              generalize xs 1 = x1 at hd1 HQ ⊢; subst hd1
              go_wp2_with (go_at_call 67; refine (clone_any A' c' out _ HKp.out.plain (by omega) (HKp.out.ext HW.out).reads).mono ?_; rintro e wc ⟨A5, c5, rfl, ho, hx⟩)
              exact HQ.out _ _ hx ⟨A5, c5, rfl, ho.lower (by have h6 := HX6.out.size; omega)⟩
            ·
              intro o ho xs W hW hd Q' hQ; obtain rfl := Option.some.inj ho; clear ho; simp only [fillAt, dstOf, List.getElem?_cons_zero, List.getElem?_cons_succ, Option.bind_some, Act.put, List.setIfInBounds_toArray, List.set_cons_zero, List.set_cons_succ, Nat.zero_add, Nat.reduceAdd] at hQ ⊢; have HQ := Lib.hid hQ; have HD := Lib.hid hd; have HW := Lib.hid hW; have hsW := hW.size; clear hQ hd hW
              go_wp2
              exact HQ.out _ _ (Ext.refl _) rfl
            ·
              intro o ho xs W hW hd Q' hQ; obtain rfl := Option.some.inj ho; clear ho; simp only [fillAt, dstOf, List.getElem?_cons_zero, List.getElem?_cons_succ, Option.bind_some, Act.put, List.setIfInBounds_toArray, List.set_cons_zero, List.set_cons_succ, Nat.zero_add, Nat.reduceAdd] at hQ ⊢; have HQ := Lib.hid hQ; have HD := Lib.hid hd; have HW := Lib.hid hW; have hsW := hW.size; clear hQ hd hW
              have hd0 : xs 0 = .agg (entC Y) := (HD.out 0 (of_decide_eq_true (by kernel_rfl)))
              generalize xs 0 = x0 at hd0 HQ ⊢; subst hd0
              obtain ⟨A5, c5, h2, ho2⟩ : (ownSoft out (w.heap.size + 1 + 1 + 1 + 1)).S (xs 2) W := (HD.out 2 (of_decide_eq_true (by kernel_rfl)))
              generalize xs 2 = x2 at h2 HQ ⊢; subst h2
              have hd3 : xs 3 = .slice (some ⟨g, 0, none⟩) a.bytes.size cap := (HD.out 3 (of_decide_eq_true (by kernel_rfl)))
              generalize xs 3 = x3 at hd3 HQ ⊢; subst hd3
              have HO2 := Lib.hid ho2
              clear ho2
              go_wp2_with (go_at_call 63; refine (HSet.out _ HW.out A5 c5 HO2.out).mono ?_; rintro e ws ⟨v, rfl, hrs, hx⟩)
              exact HQ.out _ _ hx ⟨v, rfl, hrs⟩
            ·
              intro o ho xs W hW hd Q' hQ; obtain rfl := Option.some.inj ho; clear ho; simp only [fillAt, dstOf, List.getElem?_cons_zero, List.getElem?_cons_succ, Option.bind_some, Act.put, List.setIfInBounds_toArray, List.set_cons_zero, List.set_cons_succ, Nat.zero_add, Nat.reduceAdd] at hQ ⊢; have HQ := Lib.hid hQ; have HD := Lib.hid hd; have HW := Lib.hid hW; have hsW := hW.size; clear hQ hd hW
              obtain ⟨v, h4, hrs⟩ : (tupSoft R (w.heap.size + 1 + 1 + 1 + 1)).S (xs 4) W := (HD.out 4 (of_decide_eq_true (by kernel_rfl)))
              generalize xs 4 = x4 at h4 HQ ⊢; subst h4
              go_wp2
              exact HQ.out _ _ (Ext.refl _) ⟨v, rfl, hrs⟩
            intro xs W6 hW hS
            obtain ⟨v, h5, A6, c6, rfl, hor⟩ : (tupSoft R (w.heap.size + 1 + 1 + 1 + 1)).S (xs 5) W6 := hS 5 (by omega)
            simp only [fillAt, dstOf, List.getElem?_cons_zero, List.getElem?_cons_succ, Option.bind_some, Act.put, List.setIfInBounds_toArray, List.set_cons_zero, List.set_cons_succ, Nat.zero_add, Nat.reduceAdd]
            generalize xs 5 = y5 at *; subst h5
            have HX9 := Lib.hid hW
            have HOr := Lib.hid hor
            have room3 : roomOf W6 (w.heap.size + 1 + 1 + 1) 0 45 = true := by rw [(HR3w.out.ext HX9.out).room, ent_size]; rfl
            have hfR : fitsRow 45 (entC { R.e with hv := .slice A6 R.l.length c6 }) = true := ent_fits_of rfl
            clear hS hW hor rowY
            refine wpAny_take (i := 7) (v := .int .i64 R.n) rfl (by kernel_rfl) (by kernel_rfl) (by kernel_rfl) (fun _ _ _ h => h) (Or.inl ⟨by rfl, by intro w; go_simp⟩) ?_
            refine wpAny_take (i := 6) (v := .agg (entC { R.e with hv := .slice A6 R.l.length c6 })) rfl (by kernel_rfl) (by kernel_rfl) (by kernel_rfl) (fun _ _ _ h => h) (Or.inl ⟨by rfl, by intro w; go_simp⟩) ?_
            refine wpAny_ready (rs := [8]) (by kernel_rfl) (by simp) ?_
            refine AllReady.cons rfl (fun K hK => ?_) AllReady.nil
            go_wp2
            refine wpAny_done (by kernel_rfl) ?_ _
            go_upto_region 26 with (fail)
            refine wp_world (fun W => Ext w W ∧ RowAt W (w.heap.size + 1 + 1) (entC noEn) ∧ RowAt W (w.heap.size + 1 + 1 + 1) (entC { R.e with hv := .slice A6 R.l.length c6 }) ∧ OwnOr (w.heap.size + 1 + 1 + 1 + 1) W A6 c6 R.l) ⟨?_, ?_, ?_, ?_⟩ ?_
            · exact (hxw.trans HX9.out).setCells (by omega) _ _
            · exact (HR2w.out.ext HX9.out).others (by omega) _ _
            · exact (HR3w.out.ext HX9.out).store (by rw [ent_size, ent_size])
            · exact HOr.out.others (by omega) _ _
            rintro W7 ⟨x7, r2, r3, ho7⟩
            have HX7 := Lib.hid x7
            have HR7 := Lib.hid r2
            have HO7 := Lib.hid ho7
            have rowR : rowOf W7 (w.heap.size + 1 + 1 + 1) 0 45 = some (entC { R.e with hv := .slice A6 R.l.length c6 }) := r3.all (ent_size _).symm (by omega)
            have room2 : roomOf W7 (w.heap.size + 1 + 1) 0 45 = true := by rw [r2.room, ent_size]; rfl
            have hl2' := r2.lt
            have hl3' := r3.lt
            clear x7 r2 r3 ho7 room3 HX9 HOr
            go_wp2
            have hx : Ext w (W7.setCells (w.heap.size + 1 + 1) 0 (entC { R.e with hv := .slice A6 R.l.length c6 }).toList) := HX7.out.setCells (by omega) _ _
            have ho : OwnOr (w.heap.size + 1 + 1 + 1 + 1) (W7.setCells (w.heap.size + 1 + 1) 0 (entC { R.e with hv := .slice A6 R.l.length c6 }).toList) A6 c6 R.l := HO7.out.others (by omega) _ _
            have hs := HSS.out
            have hm := HM.out
            rw [← HOe.out] at hm
            refine post_two (v1 := .agg (entC { R.e with hv := .slice A6 R.l.length c6 })) (v2 := .int .i64 0) Tryz.results30 rfl ⟨_, rfl, ent_loaded (row_stored HR7.out (ent_size _) (ent_size _))⟩ rfl ⟨A6, c6, ?_, ho.plain, ho.none0, ?_, hx⟩
            · rw [hm, hs.1, hs.2.2]
            · rw [hm, ← hs.1]; exact ho.reads
end Go.Proofs.YtpjacgcaibaggaaGreatDoor

namespace Go.Proofs.YtpjacgcaibaggaaGreatDoor
open Go.RowKit Go.Shelf
open Go.Proofs
open Go.Proofs.Sp (Sp)

attribute [local go_sem ↓] setCells_cell_or
attribute [local go_sem ↓ 2000] alloc_setCells_at
attribute [local go_sem ↓] twoEnt_x
attribute [local go_sem] twoEnt_run
set_option maxRecDepth 100000 in
set_option maxHeartbeats 4000000 in
theorem emerge_eqt (a b : En) (A B : Option Addr) (ca cb : Nat) (la lb : List Sp) (w : World) (ha : VIn a A ca la w) (hb : VIn b B cb lb w) (h : a.st.addr = b.st.addr ∧ a.st.var = b.st.var) (hk : Konst 0 w) (hc : cmpN a.st b.st = 0) (hso : a.soft = true) :
    Calls Tryz.prog 30 #[.agg (entC a), .agg (entC b)] w fun e' w' => PutIs (mergeN a b la lb) e' w w' := by
  have e1 : decide (cmpN a.st b.st < 0) = false := by simp; omega
  have e2 : decide (cmpN a.st b.st = 0) = true := by simpa using hc
  obtain ⟨X, hX⟩ : ∃ X : En, X = { a with soft := a.soft || b.soft } := ⟨_, rfl⟩
  have HVX := Lib.hid (show VIn X A ca la w from by rw [hX]; exact ⟨ha.hv, val_of ha.val rfl rfl rfl, ha.hb, ha.hby, ha.hs, ha.hA, ha.z, ha.hr⟩)
  have HEX := Lib.hid hX
  have HBest : Hid (bestN a b la lb = ⟨X, la, 0⟩) := Lib.hid (by unfold bestN; rw [if_pos hc, if_neg (by omega), hX])
  have HXW : Hid (a.whole = X.whole) := Lib.hid (by rw [hX])
  clear hX
  clear hc
  have hfa : fitsRow 45 (entC a) = true := ent_fits_of ha.hv
  have hfb : fitsRow 45 (entC b) = true := ent_fits_of hb.hv
  have HA := Lib.hid ha
  have HB := Lib.hid hb
  have HK := Lib.hid hk
  have HBt := Lib.hid (fun W => better_any b.st a.st W hb.hb hb.hs ha.hb ha.hs)
  have HCp := Lib.hid (fun W => compare_any a.st b.st W ha.hb ha.hs hb.hb hb.hs)
  have HSm := Lib.hid (fun W => same_is a.st b.st W ha.hb hb.hb ha.hby hb.hby)
  have n1 : (a.st.addr.toList == b.st.addr.toList) = true := by rw [str_beq]; simpa using h.1
  have n2 : (a.st.var.toList == b.st.var.toList) = true := by rw [str_beq]; simpa using h.2
  have q1 : decide (0 < cmpN b.st a.st) = decide (cmpN a.st b.st < 0) := by rw [cmpN_anti a.st b.st, decide_eq_decide]; omega
  have q2 : (cmpN a.st b.st == 0) = decide (cmpN a.st b.st = 0) := by rw [Bool.eq_iff_iff]; simp
  have HN := Lib.hid h
  rw [q1, e1] at HBt
  generalize cmpN a.st b.st = cc at *
  rw [e2] at q2
  clear ha hb hk h q1 e1 e2
  go_enter Tryz.func30, Tryz.ntmps30
  go_upto_region 4 with (fail)
  refine wp_world (fun W => Ext w W ∧ RowAt W w.heap.size (entC a) ∧ RowAt W (w.heap.size + 1) (entC b) ∧ RowAt W (w.heap.size + 1 + 1) (entC noEn) ∧ RowAt W (w.heap.size + 1 + 1 + 1) (entC a)) ⟨(by (repeat (first | with_reducible exact Ext.refl _ | with_reducible exact Ext.refl _ | with_reducible refine Ext.drew ?_ | with_reducible refine Ext.drewN ?_ _ | with_reducible refine Ext.alloc ?_ _ | with_reducible refine Ext.onto ?_ _ | (with_reducible refine Ext.setCells ?_ ?_ _ _; rotate_left; focus (first | omega | (simp; done) | (simp; omega))) | (with_reducible refine Ext.setCell ?_ ?_ _; rotate_left; focus (first | omega | (simp; done) | (simp; omega)))))), (by (repeat (first | with_reducible exact RowAt.new _ _ _ | with_reducible refine RowAt.drew ?_ | with_reducible refine RowAt.later ?_ _ | with_reducible exact RowAt.newAt (by first | rfl | omega | (simp [later_size, setCells_size]; done) | (simp [later_size, setCells_size]; omega)) | with_reducible refine RowAt.alloc ?_ _ | with_reducible apply RowAt.store | with_reducible refine RowAt.others ?_ ?_ _ _ | with_reducible refine RowAt.other ?_ ?_ _)); all_goals first | omega | (simp; done) | (simp; omega) | (simp [go_sem]; done)), (by (repeat (first | with_reducible exact RowAt.new _ _ _ | with_reducible refine RowAt.drew ?_ | with_reducible refine RowAt.later ?_ _ | with_reducible exact RowAt.newAt (by first | rfl | omega | (simp [later_size, setCells_size]; done) | (simp [later_size, setCells_size]; omega)) | with_reducible refine RowAt.alloc ?_ _ | with_reducible apply RowAt.store | with_reducible refine RowAt.others ?_ ?_ _ _ | with_reducible refine RowAt.other ?_ ?_ _)); all_goals first | omega | (simp; done) | (simp; omega) | (simp [go_sem]; done)), (by (repeat (first | with_reducible exact RowAt.new _ _ _ | with_reducible refine RowAt.drew ?_ | with_reducible refine RowAt.later ?_ _ | with_reducible exact RowAt.newAt (by first | rfl | omega | (simp [later_size, setCells_size]; done) | (simp [later_size, setCells_size]; omega)) | with_reducible refine RowAt.alloc ?_ _ | with_reducible apply RowAt.store | with_reducible refine RowAt.others ?_ ?_ _ _ | with_reducible refine RowAt.other ?_ ?_ _)); all_goals first | omega | (simp; done) | (simp; omega) | (simp [go_sem]; done)), (RowAt.newAt (cs := entC noEn) (t := 58) (by simp)).store (by rw [ent_size, ent_size])⟩ ?_
  rintro W0 ⟨x0, r0, r1, r2, r3⟩
  have HX0 := Lib.hid x0
  have HR0 := Lib.hid r0
  have HR1 := Lib.hid r1
  have HR2 := Lib.hid r2
  have HR3 := Lib.hid r3
  have hl0 := r0.lt
  have hl1 := r1.lt
  have hl2 := r2.lt
  have hl3 := r3.lt
  have row0 : rowOf W0 w.heap.size 0 41 = some (stmC a.st) := by rw [r0.row, if_neg (by omega), ent_stm]
  have row1 : rowOf W0 (w.heap.size + 1) 0 41 = some (stmC b.st) := by rw [r1.row, if_neg (by omega), ent_stm]
  have row1e : rowOf W0 (w.heap.size + 1) 0 45 = some (entC b) := r1.all (ent_size _).symm (by omega)
  have room3 : roomOf W0 (w.heap.size + 1 + 1 + 1) 0 45 = true := by rw [r3.room, ent_size]; rfl
  clear x0 r0 r1 r2 r3 n1 n2
  go_upto_region 6 with (go_at_call 66; refine (HBt.out _).mono ?_; rintro e w' ⟨rfl, hxl⟩; obtain ⟨xl, rfl⟩ := hxl.asLater; clear hxl)
  refine wp_world (fun W => Ext w W ∧ RowAt W w.heap.size (entC a) ∧ RowAt W (w.heap.size + 1) (entC b) ∧ RowAt W (w.heap.size + 1 + 1) (entC noEn) ∧ RowAt W (w.heap.size + 1 + 1 + 1) (entC a)) ⟨HX0.out.onto _, HR0.out.later _, HR1.out.later _, HR2.out.later _, HR3.out.later _⟩ ?_
  clear hl0 hl1 hl2 hl3 row0 row1 row1e room3 HX0 HR0 HR1 HR2 HR3
  rintro W1 ⟨x1, r0, r1, r2, r3⟩
  have HX1 := Lib.hid x1
  have HR0 := Lib.hid r0
  have HR1 := Lib.hid r1
  have HR2 := Lib.hid r2
  have HR3 := Lib.hid r3
  have hl0 := r0.lt
  have hl1 := r1.lt
  have hl2 := r2.lt
  have hl3 := r3.lt
  have x42 : W1.cell? ⟨w.heap.size + 1 + 1 + 1, 42, none⟩ = some (.slice A la.length ca) := by rw [← HA.out.hv]; exact (r3.cell 42).trans (ent_g42 a)
  have hlX := HA.out.val.len
  clear x1 r0 r1 r2 r3
  go_upto_region 9 with (first
    | (go_at_call 67; refine (clone_any A ca la _ HA.out.hA (by omega) (HA.out.hr.on HX1.out)).mono ?_; rintro e w2 ⟨A1, c1, rfl, ho, hx⟩; have HO := Lib.hid ho; have HXc := Lib.hid hx; have f42 := (HR3.out.ext hx).free 42; have g42 := (HR3.out.ext hx).cell 42; have f41 := (HR3.out.ext hx).free 41; have g41 := (HR3.out.ext hx).cell 41; have s0 : w2.cell? ⟨w.heap.size, 41, none⟩ = some (.bool a.soft) := ((HR0.out.ext hx).cell 41).trans (ent_g41 a); have s1 : w2.cell? ⟨w.heap.size + 1, 41, none⟩ = some (.bool b.soft) := ((HR1.out.ext hx).cell 41).trans (ent_g41 b); have row0 : rowOf w2 w.heap.size 0 41 = some (stmC a.st) := by rw [(HR0.out.ext hx).row, if_neg (by omega), ent_stm]
       have row1 : rowOf w2 (w.heap.size + 1) 0 41 = some (stmC b.st) := by rw [(HR1.out.ext hx).row, if_neg (by omega), ent_stm]
       have hsz2 := hx.size
       clear ho hx)
    | (go_at_call 68; refine (HCp.out _).mono ?_; rintro e w' ⟨rfl, hxl⟩; obtain ⟨xl, rfl⟩ := hxl.asLater; clear hxl))
  have hXe : ∀ v, ({ a with hv := v, soft := true } : En) = { X with hv := v } := fun v => by rw [HEX.out, hso]; rfl
  have ht3 : w.heap.size ≤ w.heap.size + 1 + 1 + 1 := by omega
  have hn0 : w.heap.size ≠ w.heap.size + 1 + 1 + 1 := by omega
  have hn1 : w.heap.size + 1 ≠ w.heap.size + 1 + 1 + 1 := by omega
  have hn2 : w.heap.size + 1 + 1 ≠ w.heap.size + 1 + 1 + 1 := by omega
  refine wp_world (fun W => Ext w W ∧ RowAt W w.heap.size (entC a) ∧ RowAt W (w.heap.size + 1) (entC b) ∧ RowAt W (w.heap.size + 1 + 1) (entC noEn) ∧ RowAt W (w.heap.size + 1 + 1 + 1) (entC { X with hv := .slice A1 la.length c1 }) ∧ OwnsSp (w.heap.size + 1 + 1 + 1 + 1) W A1 c1 la) ⟨?_, ?_, ?_, ?_, ?_, ?_⟩ ?_
  · exact (((HX1.out.trans HXc.out).setCell (p := ⟨w.heap.size + 1 + 1 + 1, 42, none⟩) ht3 _).onto _).setCell (p := ⟨w.heap.size + 1 + 1 + 1, 41, none⟩) ht3 _
  · exact (((HR0.out.ext HXc.out).other (p := ⟨w.heap.size + 1 + 1 + 1, 42, none⟩) hn0 _).later _).other (p := ⟨w.heap.size + 1 + 1 + 1, 41, none⟩) hn0 _
  · exact (((HR1.out.ext HXc.out).other (p := ⟨w.heap.size + 1 + 1 + 1, 42, none⟩) hn1 _).later _).other (p := ⟨w.heap.size + 1 + 1 + 1, 41, none⟩) hn1 _
  · exact (((HR2.out.ext HXc.out).other (p := ⟨w.heap.size + 1 + 1 + 1, 42, none⟩) hn2 _).later _).other (p := ⟨w.heap.size + 1 + 1 + 1, 41, none⟩) hn2 _
  · have z := (HR3.out.ext HXc.out).set 42 (.slice A1 la.length c1)
    rw [ent_set42] at z
    have z2 := (z.later xl).set 41 (.bool true)
    rw [ent_set41] at z2
    rw [← hXe]
    exact z2
  · exact (((HO.out.other (p := ⟨w.heap.size + 1 + 1 + 1, 42, none⟩) (by show w.heap.size + 1 + 1 + 1 < _; omega) _).later _).other (p := ⟨w.heap.size + 1 + 1 + 1, 41, none⟩) (by show w.heap.size + 1 + 1 + 1 < _; omega) _).lower (by omega)
  clear hXe ht3 hn0 hn1 hn2 hso
  clear f42 g42 f41 g41 s0 s1 row0 row1 x42 hl0 hl1 hl2 hl3 HX1 HR0 HR1 HR2 HR3 HO HXc hsz2 q2 HCp HBt
  rintro W2 ⟨x2, r0, r1, r2, r3, ho2⟩
  have HX2 := Lib.hid x2
  have HO2 := Lib.hid ho2
  obtain ⟨Y, hY⟩ : ∃ Y : En, ({ X with hv := .slice A1 la.length c1 } : En) = Y := ⟨_, rfl⟩
  have HY := Lib.hid hY
  rw [hY] at r3
  have hYv : Y.hv = .slice A1 la.length c1 := by rw [← hY]
  have HYw : Hid (Y.whole = (X).whole) := Lib.hid (by rw [← hY])
  have HYs : Hid (Y.st = (X).st) := Lib.hid (by rw [← hY])
  have hfY : fitsRow 45 (entC Y) = true := ent_fits_of hYv
  have HR0 := Lib.hid r0
  have HR1 := Lib.hid r1
  have HR2 := Lib.hid r2
  have HR3 := Lib.hid r3
  have hl0 := r0.lt
  have hl1 := r1.lt
  have hl2 := r2.lt
  have hl3 := r3.lt
  have rowY : rowOf W2 (w.heap.size + 1 + 1 + 1) 0 45 = some (entC Y) := r3.all (ent_size _).symm (by omega)
  have room2 : roomOf W2 (w.heap.size + 1 + 1) 0 45 = true := by rw [r2.room, ent_size]; rfl
  have row0 : rowOf W2 w.heap.size 0 41 = some (stmC a.st) := by rw [r0.row, if_neg (by omega), ent_stm]
  have row1 : rowOf W2 (w.heap.size + 1) 0 41 = some (stmC b.st) := by rw [r1.row, if_neg (by omega), ent_stm]
  have rowa : rowOf W2 w.heap.size 0 45 = some (entC a) := r0.all (ent_size _).symm (by omega)
  have rowb : rowOf W2 (w.heap.size + 1) 0 45 = some (entC b) := r1.all (ent_size _).symm (by omega)
  clear x2 r0 r1 r2 r3 ho2 hY
  cases hsm : sameN a.st b.st with
  | false =>
    rw [hsm] at HSm
    have HM : Hid (mergeN a b la lb = ⟨X, la, 0⟩) := Lib.hid (by rw [mergeN, if_neg (fun k => k HN.out), if_pos hsm, HBest.out])
    clear hsm
    go_wp2_with (go_at_call 69; refine (HSm.out _).mono ?_; rintro e w' ⟨rfl, hxl⟩; obtain ⟨xl, rfl⟩ := hxl.asLater; clear hxl)
    have hx : Ext w ((later W2 xl).setCells (w.heap.size + 1 + 1) 0 (entC Y).toList) := (HX2.out.onto _).setCells (by omega) _ _
    have ho : OwnsSp (w.heap.size + 1 + 1 + 1 + 1) ((later W2 xl).setCells (w.heap.size + 1 + 1) 0 (entC Y).toList) A1 c1 la := (HO2.out.later _).others (by omega) _ _
    refine post_two (v1 := .agg (entC Y)) (v2 := .int .i64 0) Tryz.results30 rfl ⟨_, rfl, ent_loaded (row_stored (HR2.out.later _) (ent_size _) (ent_size _))⟩ rfl ⟨A1, c1, by rw [HM.out, ← HY.out], OwnsSp.plain ho, ho.none0, by rw [HM.out]; exact ho.reads spE, hx⟩
  | true =>
    rw [hsm] at HSm
    go_upto_region 11 with (go_at_call 69; refine (HSm.out _).mono ?_; rintro e w' ⟨rfl, hxl⟩; obtain ⟨xl, rfl⟩ := hxl.asLater; clear hxl)
    go_wp2
    refine wp_world (fun W => Ext W2 W ∧ rowOf W (W2.heap.size + xl.n) 0 45 = some (entC a) ∧ rowOf W (W2.heap.size + xl.n) 45 45 = some (entC b) ∧ W2.heap.size + xl.n < W.heap.size) ⟨(by (repeat (first | with_reducible exact Ext.refl _ | with_reducible exact Ext.refl _ | with_reducible refine Ext.drew ?_ | with_reducible refine Ext.drewN ?_ _ | with_reducible refine Ext.alloc ?_ _ | with_reducible refine Ext.onto ?_ _ | (with_reducible refine Ext.setCells ?_ ?_ _ _; rotate_left; focus (first | omega | (simp; done) | (simp; omega))) | (with_reducible refine Ext.setCell ?_ ?_ _; rotate_left; focus (first | omega | (simp; done) | (simp; omega)))))), by rw [rowOf_alloc, if_pos (by simp [later_size]), if_neg (by omega), ent2_a], by rw [rowOf_alloc, if_pos (by simp [later_size]), if_neg (by omega), ent2_b], by simp [later_size]⟩ ?_
    have hB2 : W2.heap.size ≤ W2.heap.size + xl.n := by omega
    generalize W2.heap.size + xl.n = B3 at *
    rintro W3 ⟨x3, rA, rB, hB3⟩
    have HX3 := Lib.hid x3
    clear x3
    have hA44 : (entC a)[44]? = some (.bool a.whole) := ent_g44 a
    have hB44 : (entC b)[44]? = some (.bool b.whole) := ent_g44 b
    cases hwa : a.whole with
    | true =>
      rw [hwa] at hA44
      refine wp_loop_rounds 1 ?_
      rw [rounds_succ]
      go_wp2
      have HM : Hid (mergeN a b la lb = ⟨{ X with bytes := a.bytes, whole := true }, la, 0⟩) := Lib.hid (by rw [mergeN, if_neg (fun k => k HN.out), if_neg (by rw [hsm]; decide), if_pos hwa, HBest.out])
      clear hsm hwa
      refine wp_world (fun W => Ext W2 W ∧ RowAt W W3.heap.size (entC a)) ⟨(HX3.out.alloc _).setCells (by omega) _ _, (RowAt.newAt (cs := entC noEn) (t := 58) rfl).store (by rw [ent_size, ent_size])⟩ ?_
      have hE : w.heap.size + 1 + 1 + 1 < W3.heap.size := Nat.lt_of_lt_of_le hl3 HX3.out.size
      generalize W3.heap.size = E at *
      rintro W4 ⟨x4, rE⟩
      clear HX3 rA rB hB3 hB2
      have HX4 := Lib.hid x4
      have k42 : W4.cell? ⟨E, 42, none⟩ = some (.slice A la.length ca) := by rw [← HA.out.hv]; exact (rE.cell 42).trans (ent_g42 a)
      have k43 : W4.cell? ⟨E, 43, none⟩ = some (.string (a).bytes) := (rE.cell 43).trans (ent_g43 a)
      have hEl := rE.lt
      have hlA := HA.out.val.len
      have r3' := HR3.out.ext x4
      have f42 := r3'.free 42
      have f43 := r3'.free 43
      have f44 := r3'.free 44
      have g42 := (r3'.cell 42).trans (ent_g42 Y)
      have g43 := (r3'.cell 43).trans (ent_g43 Y)
      have g44 := (r3'.cell 44).trans (ent_g44 Y)
      have hl3' := r3'.lt
      clear x4 rE r3' hA44 hB44 rowY room2 row0 row1 rowa rowb
      go_region_with (go_at_call 67; refine (clone_any A ca la _ HA.out.hA (by omega) (HA.out.hr.on (HX2.out.trans (HX4.out.trans (by (repeat (first | with_reducible exact Ext.refl _ | with_reducible exact Ext.refl _ | with_reducible refine Ext.drew ?_ | with_reducible refine Ext.drewN ?_ _ | with_reducible refine Ext.alloc ?_ _ | with_reducible refine Ext.onto ?_ _ | (with_reducible refine Ext.setCells ?_ ?_ _ _; rotate_left; focus (first | omega | (simp; done) | (simp; omega))) | (with_reducible refine Ext.setCell ?_ ?_ _; rotate_left; focus (first | omega | (simp; done) | (simp; omega)))))))))).mono ?_; rintro e wc ⟨A5, c5, rfl, ho, hx⟩; have hxx := (show Ext W4 _ from (by (repeat (first | with_reducible exact Ext.refl _ | with_reducible exact Ext.refl _ | with_reducible refine Ext.drew ?_ | with_reducible refine Ext.drewN ?_ _ | with_reducible refine Ext.alloc ?_ _ | with_reducible refine Ext.onto ?_ _ | (with_reducible refine Ext.setCells ?_ ?_ _ _; rotate_left; focus (first | omega | (simp; done) | (simp; omega))) | (with_reducible refine Ext.setCell ?_ ?_ _; rotate_left; focus (first | omega | (simp; done) | (simp; omega))))))).trans hx; have HO5 := Lib.hid ho; have HX5 := Lib.hid hxx; have c43 := (hxx.cell (p := ⟨E, 43, none⟩) hEl).trans k43; have p42 := (hxx.frozen (p := ⟨w.heap.size + 1 + 1 + 1, 42, none⟩) hl3').trans f42; have p43 := (hxx.frozen (p := ⟨w.heap.size + 1 + 1 + 1, 43, none⟩) hl3').trans f43; have p44 := (hxx.frozen (p := ⟨w.heap.size + 1 + 1 + 1, 44, none⟩) hl3').trans f44; have q42 := (hxx.cell (p := ⟨w.heap.size + 1 + 1 + 1, 42, none⟩) hl3').trans g42; have q43 := (hxx.cell (p := ⟨w.heap.size + 1 + 1 + 1, 43, none⟩) hl3').trans g43; have q44 := (hxx.cell (p := ⟨w.heap.size + 1 + 1 + 1, 44, none⟩) hl3').trans g44; clear ho hx hxx)
      all_goals (go_upto_region 16 with (fail))
      all_goals
        refine wp_world (fun W => Ext w W ∧ RowAt W (w.heap.size + 1 + 1) (entC noEn) ∧ RowAt W (w.heap.size + 1 + 1 + 1) (entC { Y with hv := .slice A5 la.length c5, bytes := (a).bytes, whole := true }) ∧ OwnsSp (w.heap.size + 1 + 1 + 1 + 1) W A5 c5 la) ⟨?_, ?_, ?_, ?_⟩ ?_
        · have ht3 : w.heap.size ≤ w.heap.size + 1 + 1 + 1 := by omega
          exact (((HX2.out.trans (HX4.out.trans HX5.out)).setCell (p := ⟨w.heap.size + 1 + 1 + 1, 42, none⟩) ht3 _).setCell (p := ⟨w.heap.size + 1 + 1 + 1, 43, none⟩) ht3 _).setCell (p := ⟨w.heap.size + 1 + 1 + 1, 44, none⟩) ht3 _
        · have hne : w.heap.size + 1 + 1 ≠ w.heap.size + 1 + 1 + 1 := by omega
          exact (((HR2.out.ext (HX4.out.trans HX5.out)).other (p := ⟨w.heap.size + 1 + 1 + 1, 42, none⟩) hne _).other (p := ⟨w.heap.size + 1 + 1 + 1, 43, none⟩) hne _).other (p := ⟨w.heap.size + 1 + 1 + 1, 44, none⟩) hne _
        · have z1 := (HR3.out.ext (HX4.out.trans HX5.out)).set 42 (.slice A5 la.length c5)
          rw [ent_set42] at z1
          have z2 := z1.set 43 (.string (a).bytes)
          rw [ent_set43] at z2
          have z3 := z2.set 44 (.bool true)
          rw [ent_set44] at z3
          exact z3
        · have hlt : w.heap.size + 1 + 1 + 1 < w.heap.size + 1 + 1 + 1 + 1 := by omega
          exact (((HO5.out.lower (by have := HX4.out.size; have := HX5.out.size; first | omega | (simp; omega))).other (p := ⟨w.heap.size + 1 + 1 + 1, 42, none⟩) hlt _).other (p := ⟨w.heap.size + 1 + 1 + 1, 43, none⟩) hlt _).other (p := ⟨w.heap.size + 1 + 1 + 1, 44, none⟩) hlt _
        rintro W5 ⟨x5, r2, r3, ho5⟩
        have HX6 := Lib.hid x5
        have HR6 := Lib.hid r2
        have HO6 := Lib.hid ho5
        have rowY : rowOf W5 (w.heap.size + 1 + 1 + 1) 0 45 = some (entC { Y with hv := .slice A5 la.length c5, bytes := (a).bytes, whole := true }) := r3.all (ent_size _).symm (by omega)
        have room2 : roomOf W5 (w.heap.size + 1 + 1) 0 45 = true := by rw [r2.room, ent_size]; rfl
        have hl2' := r2.lt
        have hl3' := r3.lt
        have hfZ : fitsRow 45 (entC { Y with hv := .slice A5 la.length c5, bytes := (a).bytes, whole := true }) = true := ent_fits_of rfl
        clear x5 r2 r3 ho5 f42 f43 f44 g42 g43 g44 p42 p43 p44 q42 q43 q44 c43 k42 k43
        go_wp2
        have hx : Ext w (W5.setCells (w.heap.size + 1 + 1) 0 (entC { Y with hv := .slice A5 la.length c5, bytes := (a).bytes, whole := true }).toList) := HX6.out.setCells (by omega) _ _
        have ho : OwnsSp (w.heap.size + 1 + 1 + 1 + 1) (W5.setCells (w.heap.size + 1 + 1) 0 (entC { Y with hv := .slice A5 la.length c5, bytes := (a).bytes, whole := true }).toList) A5 c5 la := HO6.out.others (by omega) _ _
        refine post_two (v1 := .agg (entC { Y with hv := .slice A5 la.length c5, bytes := (a).bytes, whole := true })) (v2 := .int .i64 0) Tryz.results30 rfl ⟨_, rfl, ent_loaded (row_stored HR6.out (ent_size _) (ent_size _))⟩ rfl ⟨A5, c5, by rw [HM.out, ← HY.out], OwnsSp.plain ho, ho.none0, by rw [HM.out]; exact ho.reads spE, hx⟩
    | false =>
      rw [hwa] at hA44
      cases hwb : b.whole with
      | true =>
        rw [hwb] at hB44
        have HM : Hid (mergeN a b la lb = ⟨{ X with bytes := b.bytes, whole := true }, lb, 0⟩) := Lib.hid (by rw [mergeN, if_neg (fun k => k HN.out), if_neg (by rw [hsm]; decide), if_neg (by rw [hwa]; decide), if_pos hwb, HBest.out])
        clear hsm hwa hwb
        refine wp_loop_rounds 2 ?_
        rw [rounds_succ]
        go_wp2
        rw [rounds_succ]
        refine wp_world (fun W => Ext W3 W) ((((Ext.refl W3).alloc _)).setCells (Nat.le_refl _) _ _) ?_
        rintro Wn xn
        replace rA := (row_ext xn hB3 0 45).trans rA
        replace rB := (row_ext xn hB3 45 45).trans rB
        replace hB3 := Nat.lt_of_lt_of_le hB3 xn.size
        replace HX3 := Lib.hid (HX3.out.trans xn)
        clear xn
        obtain ⟨W3, rfl⟩ : ∃ W, W = Wn := ⟨Wn, rfl⟩
        go_wp2
        refine wp_world (fun W => Ext W2 W ∧ RowAt W W3.heap.size (entC b)) ⟨(HX3.out.alloc _).setCells (by omega) _ _, (RowAt.newAt (cs := entC noEn) (t := 58) rfl).store (by rw [ent_size, ent_size])⟩ ?_
        have hE : w.heap.size + 1 + 1 + 1 < W3.heap.size := Nat.lt_of_lt_of_le hl3 HX3.out.size
        generalize W3.heap.size = E at *
        rintro W4 ⟨x4, rE⟩
        clear HX3 rA rB hB3 hB2
        have HX4 := Lib.hid x4
        have k42 : W4.cell? ⟨E, 42, none⟩ = some (.slice B lb.length cb) := by rw [← HB.out.hv]; exact (rE.cell 42).trans (ent_g42 b)
        have k43 : W4.cell? ⟨E, 43, none⟩ = some (.string (b).bytes) := (rE.cell 43).trans (ent_g43 b)
        have hEl := rE.lt
        have hlA := HB.out.val.len
        have r3' := HR3.out.ext x4
        have f42 := r3'.free 42
        have f43 := r3'.free 43
        have f44 := r3'.free 44
        have g42 := (r3'.cell 42).trans (ent_g42 Y)
        have g43 := (r3'.cell 43).trans (ent_g43 Y)
        have g44 := (r3'.cell 44).trans (ent_g44 Y)
        have hl3' := r3'.lt
        clear x4 rE r3' hA44 hB44 rowY room2 row0 row1 rowa rowb
        go_region_with (go_at_call 67; refine (clone_any B cb lb _ HB.out.hA (by omega) (HB.out.hr.on (HX2.out.trans (HX4.out.trans (by (repeat (first | with_reducible exact Ext.refl _ | with_reducible exact Ext.refl _ | with_reducible refine Ext.drew ?_ | with_reducible refine Ext.drewN ?_ _ | with_reducible refine Ext.alloc ?_ _ | with_reducible refine Ext.onto ?_ _ | (with_reducible refine Ext.setCells ?_ ?_ _ _; rotate_left; focus (first | omega | (simp; done) | (simp; omega))) | (with_reducible refine Ext.setCell ?_ ?_ _; rotate_left; focus (first | omega | (simp; done) | (simp; omega)))))))))).mono ?_; rintro e wc ⟨A5, c5, rfl, ho, hx⟩; have hxx := (show Ext W4 _ from (by (repeat (first | with_reducible exact Ext.refl _ | with_reducible exact Ext.refl _ | with_reducible refine Ext.drew ?_ | with_reducible refine Ext.drewN ?_ _ | with_reducible refine Ext.alloc ?_ _ | with_reducible refine Ext.onto ?_ _ | (with_reducible refine Ext.setCells ?_ ?_ _ _; rotate_left; focus (first | omega | (simp; done) | (simp; omega))) | (with_reducible refine Ext.setCell ?_ ?_ _; rotate_left; focus (first | omega | (simp; done) | (simp; omega))))))).trans hx; have HO5 := Lib.hid ho; have HX5 := Lib.hid hxx; have c43 := (hxx.cell (p := ⟨E, 43, none⟩) hEl).trans k43; have p42 := (hxx.frozen (p := ⟨w.heap.size + 1 + 1 + 1, 42, none⟩) hl3').trans f42; have p43 := (hxx.frozen (p := ⟨w.heap.size + 1 + 1 + 1, 43, none⟩) hl3').trans f43; have p44 := (hxx.frozen (p := ⟨w.heap.size + 1 + 1 + 1, 44, none⟩) hl3').trans f44; have q42 := (hxx.cell (p := ⟨w.heap.size + 1 + 1 + 1, 42, none⟩) hl3').trans g42; have q43 := (hxx.cell (p := ⟨w.heap.size + 1 + 1 + 1, 43, none⟩) hl3').trans g43; have q44 := (hxx.cell (p := ⟨w.heap.size + 1 + 1 + 1, 44, none⟩) hl3').trans g44; clear ho hx hxx)
        all_goals (go_upto_region 16 with (fail))
        all_goals
          refine wp_world (fun W => Ext w W ∧ RowAt W (w.heap.size + 1 + 1) (entC noEn) ∧ RowAt W (w.heap.size + 1 + 1 + 1) (entC { Y with hv := .slice A5 lb.length c5, bytes := (b).bytes, whole := true }) ∧ OwnsSp (w.heap.size + 1 + 1 + 1 + 1) W A5 c5 lb) ⟨?_, ?_, ?_, ?_⟩ ?_
          · have ht3 : w.heap.size ≤ w.heap.size + 1 + 1 + 1 := by omega
            exact (((HX2.out.trans (HX4.out.trans HX5.out)).setCell (p := ⟨w.heap.size + 1 + 1 + 1, 42, none⟩) ht3 _).setCell (p := ⟨w.heap.size + 1 + 1 + 1, 43, none⟩) ht3 _).setCell (p := ⟨w.heap.size + 1 + 1 + 1, 44, none⟩) ht3 _
          · have hne : w.heap.size + 1 + 1 ≠ w.heap.size + 1 + 1 + 1 := by omega
            exact (((HR2.out.ext (HX4.out.trans HX5.out)).other (p := ⟨w.heap.size + 1 + 1 + 1, 42, none⟩) hne _).other (p := ⟨w.heap.size + 1 + 1 + 1, 43, none⟩) hne _).other (p := ⟨w.heap.size + 1 + 1 + 1, 44, none⟩) hne _
          · have z1 := (HR3.out.ext (HX4.out.trans HX5.out)).set 42 (.slice A5 lb.length c5)
            rw [ent_set42] at z1
            have z2 := z1.set 43 (.string (b).bytes)
            rw [ent_set43] at z2
            have z3 := z2.set 44 (.bool true)
            rw [ent_set44] at z3
            exact z3
          · have hlt : w.heap.size + 1 + 1 + 1 < w.heap.size + 1 + 1 + 1 + 1 := by omega
            exact (((HO5.out.lower (by have := HX4.out.size; have := HX5.out.size; first | omega | (simp; omega))).other (p := ⟨w.heap.size + 1 + 1 + 1, 42, none⟩) hlt _).other (p := ⟨w.heap.size + 1 + 1 + 1, 43, none⟩) hlt _).other (p := ⟨w.heap.size + 1 + 1 + 1, 44, none⟩) hlt _
          rintro W5 ⟨x5, r2, r3, ho5⟩
          have HX6 := Lib.hid x5
          have HR6 := Lib.hid r2
          have HO6 := Lib.hid ho5
          have rowY : rowOf W5 (w.heap.size + 1 + 1 + 1) 0 45 = some (entC { Y with hv := .slice A5 lb.length c5, bytes := (b).bytes, whole := true }) := r3.all (ent_size _).symm (by omega)
          have room2 : roomOf W5 (w.heap.size + 1 + 1) 0 45 = true := by rw [r2.room, ent_size]; rfl
          have hl2' := r2.lt
          have hl3' := r3.lt
          have hfZ : fitsRow 45 (entC { Y with hv := .slice A5 lb.length c5, bytes := (b).bytes, whole := true }) = true := ent_fits_of rfl
          clear x5 r2 r3 ho5 f42 f43 f44 g42 g43 g44 p42 p43 p44 q42 q43 q44 c43 k42 k43
          go_wp2
          have hx : Ext w (W5.setCells (w.heap.size + 1 + 1) 0 (entC { Y with hv := .slice A5 lb.length c5, bytes := (b).bytes, whole := true }).toList) := HX6.out.setCells (by omega) _ _
          have ho : OwnsSp (w.heap.size + 1 + 1 + 1 + 1) (W5.setCells (w.heap.size + 1 + 1) 0 (entC { Y with hv := .slice A5 lb.length c5, bytes := (b).bytes, whole := true }).toList) A5 c5 lb := HO6.out.others (by omega) _ _
          refine post_two (v1 := .agg (entC { Y with hv := .slice A5 lb.length c5, bytes := (b).bytes, whole := true })) (v2 := .int .i64 0) Tryz.results30 rfl ⟨_, rfl, ent_loaded (row_stored HR6.out (ent_size _) (ent_size _))⟩ rfl ⟨A5, c5, by rw [HM.out, ← HY.out], OwnsSp.plain ho, ho.none0, by rw [HM.out]; exact ho.reads spE, hx⟩
      | false =>
        rw [hwb] at hB44
        have HM : Hid (mergeN a b la lb = { settleN X (addAll la lb) (mrgB b.bytes lb a.bytes) with n := 0 }) := Lib.hid (by rw [mergeN, if_neg (fun k => k HN.out), if_neg (by rw [hsm]; decide), if_neg (by rw [hwa]; decide), if_neg (by rw [hwb]; decide), HBest.out])
        have HSz := Lib.hid (sameN_iff hsm).1
        have HWX : Hid ((X).whole = false) := Lib.hid ((HXW.out.symm.trans hwa))
        have HWA : Hid (a.whole = false) := Lib.hid hwa
        clear hsm hwa hwb
        refine wp_loop_rounds 3 ?_
        rw [rounds_succ]
        go_wp2
        rw [rounds_succ]
        refine wp_world (fun W => Ext W3 W) ((((Ext.refl W3).alloc _)).setCells (Nat.le_refl _) _ _) ?_
        rintro Wn xn
        replace rA := (row_ext xn hB3 0 45).trans rA
        replace rB := (row_ext xn hB3 45 45).trans rB
        replace hB3 := Nat.lt_of_lt_of_le hB3 xn.size
        replace HX3 := Lib.hid (HX3.out.trans xn)
        clear xn
        obtain ⟨W3, rfl⟩ : ∃ W, W = Wn := ⟨Wn, rfl⟩
        go_wp2
        rw [rounds_succ]
        refine wp_world (fun W => Ext W3 W) ((((Ext.refl W3).alloc _)).setCells (Nat.le_refl _) _ _) ?_
        rintro Wn xn
        replace rA := (row_ext xn hB3 0 45).trans rA
        replace rB := (row_ext xn hB3 45 45).trans rB
        replace hB3 := Nat.lt_of_lt_of_le hB3 xn.size
        replace HX3 := Lib.hid (HX3.out.trans xn)
        clear xn
        obtain ⟨W3, rfl⟩ : ∃ W, W = Wn := ⟨Wn, rfl⟩
        go_wp2
        have HBv := HB.out.val
        have HAv := HA.out.val
        have hA42 : ∀ W, Ext W2 W → W.cell? ⟨w.heap.size, 42, none⟩ = some (.slice A la.length ca) := fun W hx => by rw [← HA.out.hv]; exact ((HR0.out.ext hx).cell 42).trans (ent_g42 a)
        have hA43 : ∀ W, Ext W2 W → W.cell? ⟨w.heap.size, 43, none⟩ = some (.string a.bytes) := fun W hx => ((HR0.out.ext hx).cell 43).trans (ent_g43 a)
        have HH42 := Lib.hid hA42
        have HH43 := Lib.hid hA43
        have HBV := Lib.hid HBv
        have HAV := Lib.hid HAv
        have hl0' : w.heap.size < W3.heap.size := Nat.lt_of_lt_of_le hl0 HX3.out.size
        have hl3' : w.heap.size + 1 + 1 + 1 < W3.heap.size := Nat.lt_of_lt_of_le hl3 HX3.out.size
        clear hA42 hA43 HBv HAv rA rB hB3 hB2 hA44 hB44 row0 row1 rowa rowb rowY room2
        refine wp_region_softE 7 (softsE [.eq (.pointer (some ⟨w.heap.size, 42, none⟩)), .eq (.slice A la.length ca), .eq (.pointer (some ⟨w.heap.size, 43, none⟩)), .eq (.string a.bytes), bytSoft W3.heap.size a.bytes, .eq (.slice A la.length ca), bytSoft W3.heap.size a.bytes]) (by kernel_rfl) (by kernel_rfl) (lt_cons ?_ (lt_cons ?_ (lt_cons ?_ (lt_cons ?_ (lt_cons ?_ (lt_cons ?_ (lt_cons ?_ lt_none))))))) ?_
        ·
          intro o ho xs W hW hd Q' hQ; obtain rfl := Option.some.inj ho; clear ho; simp only [fillAt, dstOf, List.getElem?_cons_zero, List.getElem?_cons_succ, Option.bind_some, Act.put, List.setIfInBounds_toArray, List.set_cons_zero, List.set_cons_succ, Nat.zero_add, Nat.reduceAdd] at hQ ⊢; have HQ := Lib.hid hQ; have HD := Lib.hid hd; have HW := Lib.hid hW; have hsW := hW.size; clear hQ hd hW
          go_wp2
          exact HQ.out _ _ (Ext.refl _) rfl
        ·
          intro o ho xs W hW hd Q' hQ; obtain rfl := Option.some.inj ho; clear ho; simp only [fillAt, dstOf, List.getElem?_cons_zero, List.getElem?_cons_succ, Option.bind_some, Act.put, List.setIfInBounds_toArray, List.set_cons_zero, List.set_cons_succ, Nat.zero_add, Nat.reduceAdd] at hQ ⊢; have HQ := Lib.hid hQ; have HD := Lib.hid hd; have HW := Lib.hid hW; have hsW := hW.size; clear hQ hd hW
          have hd0 : xs 0 = .pointer (some ⟨w.heap.size, 42, none⟩) := (HD.out 0 (of_decide_eq_true (by kernel_rfl)))
          generalize xs 0 = x0 at hd0 HQ ⊢; subst hd0
          have hc := HH42.out _ (HX3.out.trans HW.out)
          go_wp2
          exact HQ.out _ _ (Ext.refl _) rfl
        ·
          intro o ho xs W hW hd Q' hQ; obtain rfl := Option.some.inj ho; clear ho; simp only [fillAt, dstOf, List.getElem?_cons_zero, List.getElem?_cons_succ, Option.bind_some, Act.put, List.setIfInBounds_toArray, List.set_cons_zero, List.set_cons_succ, Nat.zero_add, Nat.reduceAdd] at hQ ⊢; have HQ := Lib.hid hQ; have HD := Lib.hid hd; have HW := Lib.hid hW; have hsW := hW.size; clear hQ hd hW
          go_wp2
          exact HQ.out _ _ (Ext.refl _) rfl
        ·
          intro o ho xs W hW hd Q' hQ; obtain rfl := Option.some.inj ho; clear ho; simp only [fillAt, dstOf, List.getElem?_cons_zero, List.getElem?_cons_succ, Option.bind_some, Act.put, List.setIfInBounds_toArray, List.set_cons_zero, List.set_cons_succ, Nat.zero_add, Nat.reduceAdd] at hQ ⊢; have HQ := Lib.hid hQ; have HD := Lib.hid hd; have HW := Lib.hid hW; have hsW := hW.size; clear hQ hd hW
          have hd2 : xs 2 = .pointer (some ⟨w.heap.size, 43, none⟩) := (HD.out 2 (of_decide_eq_true (by kernel_rfl)))
          generalize xs 2 = x2 at hd2 HQ ⊢; subst hd2
          have hc := HH43.out _ (HX3.out.trans HW.out)
          go_wp2
          exact HQ.out _ _ (Ext.refl _) rfl
        ·
          intro o ho xs W hW hd Q' hQ; obtain rfl := Option.some.inj ho; clear ho; simp only [fillAt, dstOf, List.getElem?_cons_zero, List.getElem?_cons_succ, Option.bind_some, Act.put, List.setIfInBounds_toArray, List.set_cons_zero, List.set_cons_succ, Nat.zero_add, Nat.reduceAdd] at hQ ⊢; have HQ := Lib.hid hQ; have HD := Lib.hid hd; have HW := Lib.hid hW; have hsW := hW.size; clear hQ hd hW
          have hd3 : xs 3 = .string a.bytes := (HD.out 3 (of_decide_eq_true (by kernel_rfl)))
          generalize xs 3 = x3 at hd3 HQ ⊢; subst hd3
          have hge := grownCap_ge W a.bytes.size 0 5
          go_wp2
          rw [strConv]
          go_wp2
          exact HQ.out _ _ (ext_bytes W 5 a.bytes) ⟨W.heap.size, _, rfl, hsW, hge, bytes_at W 5 a.bytes⟩
        ·
          intro o ho xs W hW hd Q' hQ; obtain rfl := Option.some.inj ho; clear ho; simp only [fillAt, dstOf, List.getElem?_cons_zero, List.getElem?_cons_succ, Option.bind_some, Act.put, List.setIfInBounds_toArray, List.set_cons_zero, List.set_cons_succ, Nat.zero_add, Nat.reduceAdd] at hQ ⊢; have HQ := Lib.hid hQ; have HD := Lib.hid hd; have HW := Lib.hid hW; have hsW := hW.size; clear hQ hd hW
          have hd1 : xs 1 = (.slice A la.length ca) := (HD.out 1 (of_decide_eq_true (by kernel_rfl)))
          generalize xs 1 = x1 at hd1 HQ ⊢; subst hd1
          go_wp2
          exact HQ.out _ _ (Ext.refl _) rfl
        ·
          intro o ho xs W hW hd Q' hQ; obtain rfl := Option.some.inj ho; clear ho; simp only [fillAt, dstOf, List.getElem?_cons_zero, List.getElem?_cons_succ, Option.bind_some, Act.put, List.setIfInBounds_toArray, List.set_cons_zero, List.set_cons_succ, Nat.zero_add, Nat.reduceAdd] at hQ ⊢; have HQ := Lib.hid hQ; have HD := Lib.hid hd; have HW := Lib.hid hW; have hsW := hW.size; clear hQ hd hW
          obtain ⟨g, cap, h4, hg, hcap, hby⟩ : (bytSoft W3.heap.size a.bytes).S (xs 4) W := (HD.out 4 (of_decide_eq_true (by kernel_rfl)))
          have HBy := Lib.hid hby
          clear hby
          generalize xs 4 = x4 at h4 HQ ⊢; subst h4
          go_wp2
          exact HQ.out _ _ (Ext.refl _) ⟨g, cap, rfl, hg, hcap, HBy.out⟩
        intro xs W5 hW hS
        have h1 : xs 5 = .slice A la.length ca := hS 5 (by omega)
        obtain ⟨g, cap, h4, hg, hcap, hby⟩ : (bytSoft W3.heap.size a.bytes).S (xs 6) W5 := hS 6 (by omega)
        simp only [fillAt, dstOf, List.getElem?_cons_zero, List.getElem?_cons_succ, Option.bind_some, Act.put, List.setIfInBounds_toArray, List.set_cons_zero, List.set_cons_succ, Nat.zero_add, Nat.reduceAdd, List.drop_succ_cons, List.drop_zero, List.drop_nil]
        generalize xs 5 = y1 at *; subst h1
        generalize xs 6 = y4 at *; subst h4
        have HX5 := Lib.hid hW
        have HBy := Lib.hid hby
        have hgl := hby.1
        clear hS hW hby
        have hb42 : W5.cell? ⟨w.heap.size + 1, 42, none⟩ = some (.slice B lb.length cb) := by rw [← HB.out.hv]; exact ((HR1.out.ext (HX3.out.trans HX5.out)).cell 42).trans (ent_g42 b)
        have hl1' := (HR1.out.ext (HX3.out.trans HX5.out)).lt
        go_wp2
        go_loopw [89, 9] (EMrgRel w.heap.size W3 a b la lb g) (fun i _ _ => lb.length - (intOf i).toNat)
        
        case atStart => exact ⟨0, A, ca, la, Nat.zero_le _, rfl, rfl, Lib.hid rfl, Lib.hid ((HA.out.keep _).ext (HX2.out.trans (HX3.out.trans HX5.out))), Lib.hid HBy.out, HX5⟩
        case round =>
          obtain ⟨k, A', c', out, hk, rfl, rfl, HO, HKp, HBy2, HX6⟩ := hrel
          have hxw : Ext w wr := HX2.out.trans (HX3.out.trans HX6.out)
          have hsw := hxw.size
          have hsi := addAll_in (lb.take k) HAV.out.si (fun s hs => by
            have i1 := HBV.out.si.1.2 s (List.mem_of_mem_take hs)
            have i2 := HBV.out.si.2 s (List.mem_of_mem_take hs)
            have i3 := HSz.out
            omega)
          rw [← HO.out] at hsi
          have HSI := Lib.hid hsi.1
          have hlb0 := HBV.out.len
          have hgw := HBy2.out.1
          have hbd : ∀ s ∈ lb, 0 ≤ s.1 ∧ s.1 < s.2 ∧ s.2 ≤ b.bytes.size := fun s hs => by
            have h1 := HBV.out.si.1.2 s hs
            have h2 := HBV.out.si.2 s hs
            have h3 := HBV.out.bs
            omega
          have hD : (mrgB b.bytes (lb.take k) a.bytes).size = b.bytes.size := (mrg_get b.bytes (lb.take k) a.bytes (fun s hs => hbd s (List.mem_of_mem_take hs)) (by have h1 := HAV.out.bs; have h2 := HSz.out; have h3 := HBV.out.bs; omega)).1
          have hsz1 := HBV.out.bs
          have hsz2 := HBV.out.sz
          have hsz0 := HBV.out.z0
          have hsza := HAV.out.bs
          have HSz' := HSz.out
          clear hsi
          by_cases hlt : k < lb.length
          · obtain ⟨bb, off, rfl, hbb, y1, y2⟩ := ReadsSp.cell (HB.out.hr.on hxw) k hlt
            have hin := List.getElem_mem hlt
            have i1 := hbd _ hin
            have HJ := Lib.hid (addAll_snoc la lb k hlt)
            have HJB := Lib.hid (mrgB_snoc b.bytes lb a.bytes k hlt)
            rw [← HO.out] at HJ
            generalize lb[k] = s at *
            obtain ⟨s1, s2⟩ := s
            simp only [] at y1 y2 i1
            obtain ⟨f, rfl⟩ : ∃ f : Nat, s1 = f := ⟨s1.toNat, by omega⟩
            obtain ⟨t, rfl⟩ : ∃ t : Nat, s2 = t := ⟨s2.toNat, by omega⟩
            generalize mrgB b.bytes (lb.take k) a.bytes = D at *
            have hb43 : ∀ W, Ext wr W → W.cell? ⟨w.heap.size + 1, 43, none⟩ = some (.string b.bytes) := fun W hx => ((HR1.out.ext (HX3.out.trans (HX6.out.trans hx))).cell 43).trans (ent_g43 b)
            have HB43 := Lib.hid hb43
            have HAd := Lib.hid (fun W (p : ReadsSp W W.heap.size A' out) => eadd_is A' c' out ((f : Int), (t : Int)) W a.st.size HSI.out HAV.out.sz HAV.out.z0 (by simp only []; omega) (by simp only []; omega) (by simp only []; omega) HKp.out.plain p)
            rw [← HJ.out] at HAd
            clear hin hb43 hbd
            go_wp2_with (go_at_call 64; refine (HAd.out _ (HKp.out.ext (by (repeat (first | with_reducible exact Ext.refl _ | with_reducible exact Ext.refl _ | with_reducible refine Ext.drew ?_ | with_reducible refine Ext.drewN ?_ _ | with_reducible refine Ext.alloc ?_ _ | with_reducible refine Ext.onto ?_ _ | (with_reducible refine Ext.setCells ?_ ?_ _ _; rotate_left; focus (first | omega | (simp; done) | (simp; omega))) | (with_reducible refine Ext.setCell ?_ ?_ _; rotate_left; focus (first | omega | (simp; done) | (simp; omega))))))).reads).mono ?_; rintro e w6 ⟨A2, c2, rfl, ho, hx6⟩; have hxx := (show Ext wr _ from (by (repeat (first | with_reducible exact Ext.refl _ | with_reducible exact Ext.refl _ | with_reducible refine Ext.drew ?_ | with_reducible refine Ext.drewN ?_ _ | with_reducible refine Ext.alloc ?_ _ | with_reducible refine Ext.onto ?_ _ | (with_reducible refine Ext.setCells ?_ ?_ _ _; rotate_left; focus (first | omega | (simp; done) | (simp; omega))) | (with_reducible refine Ext.setCell ?_ ?_ _; rotate_left; focus (first | omega | (simp; done) | (simp; omega))))))).trans hx6; have p0 : w6.cell? ⟨wr.heap.size, 0, none⟩ = some (.int .i64 f) := (hx6.cell (p := ⟨wr.heap.size, 0, none⟩) (by simp)).trans (by rw [alloc_cell_if, if_pos (by simp)]; rfl); have p1 : w6.cell? ⟨wr.heap.size, 1, none⟩ = some (.int .i64 t) := (hx6.cell (p := ⟨wr.heap.size, 1, none⟩) (by simp)).trans (by rw [alloc_cell_if, if_pos (by simp)]; rfl); have b43 := HB43.out _ hxx; have hp6 : wr.heap.size < w6.heap.size := (by have := hx6.size; simp at this; omega); have HO6 := Lib.hid ho; have HX7 := Lib.hid hxx; have HBy6 := Lib.hid (HBy2.out.ext hxx); have hn6 : w.heap.size + 1 < w6.heap.size := Nat.lt_of_lt_of_le (HR1.out.ext (HX3.out.trans HX6.out)).lt hxx.size; have hsz6 := hxx.size; clear ho hx6 hxx)
            have HLt := Lib.hid hlt
            have hft : f < t := by omega
            have htb : t ≤ b.bytes.size := by omega
            have htc : t ≤ cap := by omega
            have hfc : f < cap := by omega
            have hxs : (b.bytes.extract f t).size = t - f := extract_sz htb
            clear y1 y2 i1 HAd
            refine wp_region_later_tail 15 (by kernel_rfl) (by kernel_rfl) ?_
            simp only [List.take_succ_cons, List.take_zero, List.drop_succ_cons, List.drop_zero]
            repeat (first | go_big_quiet_step (fail) | quiet_step (fail))
            refine wpQuiet_nil ?_
            rintro _ ⟨xq, rfl⟩
            have hby7 : ByteAt (later w6 xq) g (bts D) := HBy6.out.ext (ext_later _ _)
            have hroom : roomOf (later w6 xq) g f (min (b.bytes.extract f t).size (t - f)) = true := hby7.room f _ (by rw [hxs, Nat.min_self, bts_length]; omega)
            have hH7 := Lib.hid hby7
            clear hby7
            go_wp2_with (with_reducible refine wpList_copy_str (.tmp 103) (.tmp 110) 118 9 5 (by kernel_rfl) u8_size g f (t - f) (t - f) rfl (b.bytes.extract f t) rfl hroom ?_)
            rw [List.take_of_length_le (l := (cells8 (bts (b.bytes.extract f t))).toList) (i := t - f) (by simp [cells8, bts_length, hxs])]
            go_roundw
            case rel =>
              have hkl := HLt.out
              refine ⟨k + 1, A2, c2, addAll la (lb.take (k + 1)), by omega, by go_num, rfl, Lib.hid rfl, Lib.hid (.inr ?_), Lib.hid ?_, Lib.hid ?_⟩
              · exact ((HO6.out.lower (by first | omega | (simp; omega))).later _).others (by omega) _ _
              · have q := hH7.out.copied (x := bts (b.bytes.extract f t)) (p := f) (by rw [bts_length, bts_length, hxs]; omega)
                have hj := HJB.out
                simp only [Int.toNat_natCast] at hj
                rw [hj, bts_over]
                exact q
              · exact ((HX6.out.trans HX7.out).onto _).setCells hg _ _
            case measure =>
              have hkl := HLt.out
              simp [intOf]; omega
          · have e : k = lb.length := by omega
            have ho := HO.out
            have hb2 := HBy2.out
            rw [e, List.take_length] at ho hb2
            rw [e, List.take_length] at hD
            have HOe := Lib.hid ho
            have HB3 := Lib.hid hb2
            clear ho hb2 HBy2 HO
            have hpos : 0 < b.bytes.size := by have h1 := HAV.out.pos HWA.out; omega
            generalize mrgB b.bytes lb a.bytes = D at *
            have hDl : (bts D).length = b.bytes.size := by rw [bts_length, hD]
            have hYw : Y.whole = false := HYw.out.trans HWX.out
            have hrY := HR3.out.ext (HX3.out.trans HX6.out)
            have hr2 := HR2.out.ext (HX3.out.trans HX6.out)
            have rowY : rowOf wr (w.heap.size + 1 + 1 + 1) 0 45 = some (entC Y) := hrY.all (ent_size _).symm (by omega)
            have hlY := hrY.lt
            have HR2w := Lib.hid hr2
            have HR3w := Lib.hid hrY
            have HK2 := Lib.hid (RowAt.ext HK.out hxw)
            have hlen : out.length ≤ 65536 := by have h1 := HSI.out.len HAV.out.z0; have h2 := HAV.out.sz; omega
            have hXs : (X).st.size = a.st.size := by first | rfl | exact HSz.out.symm | (rw [HEX.out])
            obtain ⟨R, hR⟩ : ∃ R, settleN Y out D = R := ⟨_, rfl⟩
            have hss := settle_same X (.slice A1 la.length c1) (X).bytes D out
            rw [show (⟨(X).st, (X).soft, .slice A1 la.length c1, (X).bytes, (X).whole⟩ : En) = Y from HY.out, hR] at hss
            have HSS := Lib.hid hss
            have HSet := Lib.hid (fun W (hx : Ext wr W) (A5 : Option Addr) (c5 : Nat) (p : OwnsSp (w.heap.size + 1 + 1 + 1 + 1) W A5 c5 out) => settleE_any Y ⟨A1, _, c1, hYv⟩ A5 c5 out (some ⟨g, 0, none⟩) cap (bts D) (w.heap.size + 1 + 1 + 1 + 1) W hYw (by rw [HYs.out]; exact HVX.out.val.z0) (by rw [HYs.out]; exact HVX.out.val.sz) (by rw [HYs.out, hXs]; exact HSI.out) p (by omega) (by omega) ((HB3.out.ext hx).reads) (RowAt.ext HK2.out hx) (by rw [HYs.out]; exact HVX.out.hb) (by rw [HYs.out]; exact HVX.out.hby))
            have hab : a.bytes.size = b.bytes.size := by have h1 := HAV.out.bs; have h2 := HSz.out; have h3 := HBV.out.bs; omega
            rw [nums_bts, hR, hDl, ← hab] at HSet
            clear hab
            clear hss hR hbd hlt hk hsz1 hsz2 hsz0 hsza HSz' hpos hDl hrY hr2 hYw
            go_wp2
            refine wp_region_softR 6 (softsE [.eq (.agg (entC Y)), .eq (.slice A' out.length c'), ownSoft out (w.heap.size + 1 + 1 + 1 + 1), .eq (.slice (some ⟨g, 0, none⟩) a.bytes.size cap), tupSoft R (w.heap.size + 1 + 1 + 1 + 1), tupSoft R (w.heap.size + 1 + 1 + 1 + 1)]) (by kernel_rfl) (by kernel_rfl) (lt_cons ?_ (lt_cons ?_ (lt_cons ?_ (lt_cons ?_ (lt_cons ?_ (lt_cons ?_ lt_none)))))) ?_
            ·
              intro o ho xs W hW hd Q' hQ; obtain rfl := Option.some.inj ho; clear ho; simp only [fillAt, dstOf, List.getElem?_cons_zero, List.getElem?_cons_succ, Option.bind_some, Act.put, List.setIfInBounds_toArray, List.set_cons_zero, List.set_cons_succ, Nat.zero_add, Nat.reduceAdd] at hQ ⊢; have HQ := Lib.hid hQ; have HD := Lib.hid hd; have HW := Lib.hid hW; have hsW := hW.size; clear hQ hd hW
              have hrow := (row_ext HW.out hlY 0 45).trans rowY
              go_wp2
              exact HQ.out _ _ (Ext.refl _) rfl
            ·
              intro o ho xs W hW hd Q' hQ; obtain rfl := Option.some.inj ho; clear ho; simp only [fillAt, dstOf, List.getElem?_cons_zero, List.getElem?_cons_succ, Option.bind_some, Act.put, List.setIfInBounds_toArray, List.set_cons_zero, List.set_cons_succ, Nat.zero_add, Nat.reduceAdd] at hQ ⊢; have HQ := Lib.hid hQ; have HD := Lib.hid hd; have HW := Lib.hid hW; have hsW := hW.size; clear hQ hd hW
              go_wp2
              exact HQ.out _ _ (Ext.refl _) rfl
            ·
              intro o ho xs W hW hd Q' hQ; obtain rfl := Option.some.inj ho; clear ho; simp only [fillAt, dstOf, List.getElem?_cons_zero, List.getElem?_cons_succ, Option.bind_some, Act.put, List.setIfInBounds_toArray, List.set_cons_zero, List.set_cons_succ, Nat.zero_add, Nat.reduceAdd] at hQ ⊢; have HQ := Lib.hid hQ; have HD := Lib.hid hd; have HW := Lib.hid hW; have hsW := hW.size; clear hQ hd hW
              have hd1 : xs 1 = .slice A' out.length c' := (HD.out 1 (of_decide_eq_true (by kernel_rfl)))
              generalize xs 1 = x1 at hd1 HQ ⊢; subst hd1
              go_wp2_with (go_at_call 67; refine (clone_any A' c' out _ HKp.out.plain (by omega) (HKp.out.ext HW.out).reads).mono ?_; rintro e wc ⟨A5, c5, rfl, ho, hx⟩)
              exact HQ.out _ _ hx ⟨A5, c5, rfl, ho.lower (by have h6 := HX6.out.size; omega)⟩
            ·
              intro o ho xs W hW hd Q' hQ; obtain rfl := Option.some.inj ho; clear ho; simp only [fillAt, dstOf, List.getElem?_cons_zero, List.getElem?_cons_succ, Option.bind_some, Act.put, List.setIfInBounds_toArray, List.set_cons_zero, List.set_cons_succ, Nat.zero_add, Nat.reduceAdd] at hQ ⊢; have HQ := Lib.hid hQ; have HD := Lib.hid hd; have HW := Lib.hid hW; have hsW := hW.size; clear hQ hd hW
              go_wp2
              exact HQ.out _ _ (Ext.refl _) rfl
            ·
              intro o ho xs W hW hd Q' hQ; obtain rfl := Option.some.inj ho; clear ho; simp only [fillAt, dstOf, List.getElem?_cons_zero, List.getElem?_cons_succ, Option.bind_some, Act.put, List.setIfInBounds_toArray, List.set_cons_zero, List.set_cons_succ, Nat.zero_add, Nat.reduceAdd] at hQ ⊢; have HQ := Lib.hid hQ; have HD := Lib.hid hd; have HW := Lib.hid hW; have hsW := hW.size; clear hQ hd hW
              have hd0 : xs 0 = .agg (entC Y) := (HD.out 0 (of_decide_eq_true (by kernel_rfl)))
              generalize xs 0 = x0 at hd0 HQ ⊢; subst hd0
              obtain ⟨A5, c5, h2, ho2⟩ : (ownSoft out (w.heap.size + 1 + 1 + 1 + 1)).S (xs 2) W := (HD.out 2 (of_decide_eq_true (by kernel_rfl)))
              generalize xs 2 = x2 at h2 HQ ⊢; subst h2
              have hd3 : xs 3 = .slice (some ⟨g, 0, none⟩) a.bytes.size cap := (HD.out 3 (of_decide_eq_true (by kernel_rfl)))
              generalize xs 3 = x3 at hd3 HQ ⊢; subst hd3
              have HO2 := Lib.hid ho2
              clear ho2
              go_wp2_with (go_at_call 63; refine (HSet.out _ HW.out A5 c5 HO2.out).mono ?_; rintro e ws ⟨v, rfl, hrs, hx⟩)
              exact HQ.out _ _ hx ⟨v, rfl, hrs⟩
            ·
              intro o ho xs W hW hd Q' hQ; obtain rfl := Option.some.inj ho; clear ho; simp only [fillAt, dstOf, List.getElem?_cons_zero, List.getElem?_cons_succ, Option.bind_some, Act.put, List.setIfInBounds_toArray, List.set_cons_zero, List.set_cons_succ, Nat.zero_add, Nat.reduceAdd] at hQ ⊢; have HQ := Lib.hid hQ; have HD := Lib.hid hd; have HW := Lib.hid hW; have hsW := hW.size; clear hQ hd hW
              obtain ⟨v, h4, hrs⟩ : (tupSoft R (w.heap.size + 1 + 1 + 1 + 1)).S (xs 4) W := (HD.out 4 (of_decide_eq_true (by kernel_rfl)))
              generalize xs 4 = x4 at h4 HQ ⊢; subst h4
              go_wp2
              exact HQ.out _ _ (Ext.refl _) ⟨v, rfl, hrs⟩
            intro xs W6 hW hS
            obtain ⟨v, h5, A6, c6, rfl, hor⟩ : (tupSoft R (w.heap.size + 1 + 1 + 1 + 1)).S (xs 5) W6 := hS 5 (by omega)
            simp only [fillAt, dstOf, List.getElem?_cons_zero, List.getElem?_cons_succ, Option.bind_some, Act.put, List.setIfInBounds_toArray, List.set_cons_zero, List.set_cons_succ, Nat.zero_add, Nat.reduceAdd]
            generalize xs 5 = y5 at *; subst h5
            have HX9 := Lib.hid hW
            have HOr := Lib.hid hor
            have room3 : roomOf W6 (w.heap.size + 1 + 1 + 1) 0 45 = true := by rw [(HR3w.out.ext HX9.out).room, ent_size]; rfl
            have hfR : fitsRow 45 (entC { R.e with hv := .slice A6 R.l.length c6 }) = true := ent_fits_of rfl
            clear hS hW hor rowY
            refine wpAny_take (i := 7) (v := .int .i64 R.n) rfl (by kernel_rfl) (by kernel_rfl) (by kernel_rfl) (fun _ _ _ h => h) (Or.inl ⟨by rfl, by intro w; go_simp⟩) ?_
            refine wpAny_take (i := 6) (v := .agg (entC { R.e with hv := .slice A6 R.l.length c6 })) rfl (by kernel_rfl) (by kernel_rfl) (by kernel_rfl) (fun _ _ _ h => h) (Or.inl ⟨by rfl, by intro w; go_simp⟩) ?_
            refine wpAny_ready (rs := [8]) (by kernel_rfl) (by simp) ?_
            refine AllReady.cons rfl (fun K hK => ?_) AllReady.nil
            go_wp2
            refine wpAny_done (by kernel_rfl) ?_ _
            go_upto_region 26 with (fail)
            refine wp_world (fun W => Ext w W ∧ RowAt W (w.heap.size + 1 + 1) (entC noEn) ∧ RowAt W (w.heap.size + 1 + 1 + 1) (entC { R.e with hv := .slice A6 R.l.length c6 }) ∧ OwnOr (w.heap.size + 1 + 1 + 1 + 1) W A6 c6 R.l) ⟨?_, ?_, ?_, ?_⟩ ?_
            · exact (hxw.trans HX9.out).setCells (by omega) _ _
            · exact (HR2w.out.ext HX9.out).others (by omega) _ _
            · exact (HR3w.out.ext HX9.out).store (by rw [ent_size, ent_size])
            · exact HOr.out.others (by omega) _ _
            rintro W7 ⟨x7, r2, r3, ho7⟩
            have HX7 := Lib.hid x7
            have HR7 := Lib.hid r2
            have HO7 := Lib.hid ho7
            have rowR : rowOf W7 (w.heap.size + 1 + 1 + 1) 0 45 = some (entC { R.e with hv := .slice A6 R.l.length c6 }) := r3.all (ent_size _).symm (by omega)
            have room2 : roomOf W7 (w.heap.size + 1 + 1) 0 45 = true := by rw [r2.room, ent_size]; rfl
            have hl2' := r2.lt
            have hl3' := r3.lt
            clear x7 r2 r3 ho7 room3 HX9 HOr
            go_wp2
            have hx : Ext w (W7.setCells (w.heap.size + 1 + 1) 0 (entC { R.e with hv := .slice A6 R.l.length c6 }).toList) := HX7.out.setCells (by omega) _ _
            have ho : OwnOr (w.heap.size + 1 + 1 + 1 + 1) (W7.setCells (w.heap.size + 1 + 1) 0 (entC { R.e with hv := .slice A6 R.l.length c6 }).toList) A6 c6 R.l := HO7.out.others (by omega) _ _
            have hs := HSS.out
            have hm := HM.out
            rw [← HOe.out] at hm
            refine post_two (v1 := .agg (entC { R.e with hv := .slice A6 R.l.length c6 })) (v2 := .int .i64 0) Tryz.results30 rfl ⟨_, rfl, ent_loaded (row_stored HR7.out (ent_size _) (ent_size _))⟩ rfl ⟨A6, c6, ?_, ho.plain, ho.none0, ?_, hx⟩
            · rw [hm, hs.1, hs.2.2]
            · rw [hm, ← hs.1]; exact ho.reads
set_option maxRecDepth 100000 in
set_option maxHeartbeats 4000000 in
theorem emerge_eqf (a b : En) (A B : Option Addr) (ca cb : Nat) (la lb : List Sp) (w : World) (ha : VIn a A ca la w) (hb : VIn b B cb lb w) (h : a.st.addr = b.st.addr ∧ a.st.var = b.st.var) (hk : Konst 0 w) (hc : cmpN a.st b.st = 0) (hso : a.soft = false) :
    Calls Tryz.prog 30 #[.agg (entC a), .agg (entC b)] w fun e' w' => PutIs (mergeN a b la lb) e' w w' := by
  have e1 : decide (cmpN a.st b.st < 0) = false := by simp; omega
  have e2 : decide (cmpN a.st b.st = 0) = true := by simpa using hc
  obtain ⟨X, hX⟩ : ∃ X : En, X = { a with soft := a.soft || b.soft } := ⟨_, rfl⟩
  have HVX := Lib.hid (show VIn X A ca la w from by rw [hX]; exact ⟨ha.hv, val_of ha.val rfl rfl rfl, ha.hb, ha.hby, ha.hs, ha.hA, ha.z, ha.hr⟩)
  have HEX := Lib.hid hX
  have HBest : Hid (bestN a b la lb = ⟨X, la, 0⟩) := Lib.hid (by unfold bestN; rw [if_pos hc, if_neg (by omega), hX])
  have HXW : Hid (a.whole = X.whole) := Lib.hid (by rw [hX])
  clear hX
  clear hc
  have hfa : fitsRow 45 (entC a) = true := ent_fits_of ha.hv
  have hfb : fitsRow 45 (entC b) = true := ent_fits_of hb.hv
  have HA := Lib.hid ha
  have HB := Lib.hid hb
  have HK := Lib.hid hk
  have HBt := Lib.hid (fun W => better_any b.st a.st W hb.hb hb.hs ha.hb ha.hs)
  have HCp := Lib.hid (fun W => compare_any a.st b.st W ha.hb ha.hs hb.hb hb.hs)
  have HSm := Lib.hid (fun W => same_is a.st b.st W ha.hb hb.hb ha.hby hb.hby)
  have n1 : (a.st.addr.toList == b.st.addr.toList) = true := by rw [str_beq]; simpa using h.1
  have n2 : (a.st.var.toList == b.st.var.toList) = true := by rw [str_beq]; simpa using h.2
  have q1 : decide (0 < cmpN b.st a.st) = decide (cmpN a.st b.st < 0) := by rw [cmpN_anti a.st b.st, decide_eq_decide]; omega
  have q2 : (cmpN a.st b.st == 0) = decide (cmpN a.st b.st = 0) := by rw [Bool.eq_iff_iff]; simp
  have HN := Lib.hid h
  rw [q1, e1] at HBt
  generalize cmpN a.st b.st = cc at *
  rw [e2] at q2
  clear ha hb hk h q1 e1 e2
  go_enter Tryz.func30, Tryz.ntmps30
  go_upto_region 4 with (fail)
  refine wp_world (fun W => Ext w W ∧ RowAt W w.heap.size (entC a) ∧ RowAt W (w.heap.size + 1) (entC b) ∧ RowAt W (w.heap.size + 1 + 1) (entC noEn) ∧ RowAt W (w.heap.size + 1 + 1 + 1) (entC a)) ⟨(by (repeat (first | with_reducible exact Ext.refl _ | with_reducible exact Ext.refl _ | with_reducible refine Ext.drew ?_ | with_reducible refine Ext.drewN ?_ _ | with_reducible refine Ext.alloc ?_ _ | with_reducible refine Ext.onto ?_ _ | (with_reducible refine Ext.setCells ?_ ?_ _ _; rotate_left; focus (first | omega | (simp; done) | (simp; omega))) | (with_reducible refine Ext.setCell ?_ ?_ _; rotate_left; focus (first | omega | (simp; done) | (simp; omega)))))), (by (repeat (first | with_reducible exact RowAt.new _ _ _ | with_reducible refine RowAt.drew ?_ | with_reducible refine RowAt.later ?_ _ | with_reducible exact RowAt.newAt (by first | rfl | omega | (simp [later_size, setCells_size]; done) | (simp [later_size, setCells_size]; omega)) | with_reducible refine RowAt.alloc ?_ _ | with_reducible apply RowAt.store | with_reducible refine RowAt.others ?_ ?_ _ _ | with_reducible refine RowAt.other ?_ ?_ _)); all_goals first | omega | (simp; done) | (simp; omega) | (simp [go_sem]; done)), (by (repeat (first | with_reducible exact RowAt.new _ _ _ | with_reducible refine RowAt.drew ?_ | with_reducible refine RowAt.later ?_ _ | with_reducible exact RowAt.newAt (by first | rfl | omega | (simp [later_size, setCells_size]; done) | (simp [later_size, setCells_size]; omega)) | with_reducible refine RowAt.alloc ?_ _ | with_reducible apply RowAt.store | with_reducible refine RowAt.others ?_ ?_ _ _ | with_reducible refine RowAt.other ?_ ?_ _)); all_goals first | omega | (simp; done) | (simp; omega) | (simp [go_sem]; done)), (by (repeat (first | with_reducible exact RowAt.new _ _ _ | with_reducible refine RowAt.drew ?_ | with_reducible refine RowAt.later ?_ _ | with_reducible exact RowAt.newAt (by first | rfl | omega | (simp [later_size, setCells_size]; done) | (simp [later_size, setCells_size]; omega)) | with_reducible refine RowAt.alloc ?_ _ | with_reducible apply RowAt.store | with_reducible refine RowAt.others ?_ ?_ _ _ | with_reducible refine RowAt.other ?_ ?_ _)); all_goals first | omega | (simp; done) | (simp; omega) | (simp [go_sem]; done)), (RowAt.newAt (cs := entC noEn) (t := 58) (by simp)).store (by rw [ent_size, ent_size])⟩ ?_
  rintro W0 ⟨x0, r0, r1, r2, r3⟩
  have HX0 := Lib.hid x0
  have HR0 := Lib.hid r0
  have HR1 := Lib.hid r1
  have HR2 := Lib.hid r2
  have HR3 := Lib.hid r3
  have hl0 := r0.lt
  have hl1 := r1.lt
  have hl2 := r2.lt
  have hl3 := r3.lt
  have row0 : rowOf W0 w.heap.size 0 41 = some (stmC a.st) := by rw [r0.row, if_neg (by omega), ent_stm]
  have row1 : rowOf W0 (w.heap.size + 1) 0 41 = some (stmC b.st) := by rw [r1.row, if_neg (by omega), ent_stm]
  have row1e : rowOf W0 (w.heap.size + 1) 0 45 = some (entC b) := r1.all (ent_size _).symm (by omega)
  have room3 : roomOf W0 (w.heap.size + 1 + 1 + 1) 0 45 = true := by rw [r3.room, ent_size]; rfl
  clear x0 r0 r1 r2 r3 n1 n2
  go_upto_region 6 with (go_at_call 66; refine (HBt.out _).mono ?_; rintro e w' ⟨rfl, hxl⟩; obtain ⟨xl, rfl⟩ := hxl.asLater; clear hxl)
  refine wp_world (fun W => Ext w W ∧ RowAt W w.heap.size (entC a) ∧ RowAt W (w.heap.size + 1) (entC b) ∧ RowAt W (w.heap.size + 1 + 1) (entC noEn) ∧ RowAt W (w.heap.size + 1 + 1 + 1) (entC a)) ⟨HX0.out.onto _, HR0.out.later _, HR1.out.later _, HR2.out.later _, HR3.out.later _⟩ ?_
  clear hl0 hl1 hl2 hl3 row0 row1 row1e room3 HX0 HR0 HR1 HR2 HR3
  rintro W1 ⟨x1, r0, r1, r2, r3⟩
  have HX1 := Lib.hid x1
  have HR0 := Lib.hid r0
  have HR1 := Lib.hid r1
  have HR2 := Lib.hid r2
  have HR3 := Lib.hid r3
  have hl0 := r0.lt
  have hl1 := r1.lt
  have hl2 := r2.lt
  have hl3 := r3.lt
  have x42 : W1.cell? ⟨w.heap.size + 1 + 1 + 1, 42, none⟩ = some (.slice A la.length ca) := by rw [← HA.out.hv]; exact (r3.cell 42).trans (ent_g42 a)
  have hlX := HA.out.val.len
  clear x1 r0 r1 r2 r3
  go_upto_region 9 with (first
    | (go_at_call 67; refine (clone_any A ca la _ HA.out.hA (by omega) (HA.out.hr.on HX1.out)).mono ?_; rintro e w2 ⟨A1, c1, rfl, ho, hx⟩; have HO := Lib.hid ho; have HXc := Lib.hid hx; have f42 := (HR3.out.ext hx).free 42; have g42 := (HR3.out.ext hx).cell 42; have f41 := (HR3.out.ext hx).free 41; have g41 := (HR3.out.ext hx).cell 41; have s0 : w2.cell? ⟨w.heap.size, 41, none⟩ = some (.bool a.soft) := ((HR0.out.ext hx).cell 41).trans (ent_g41 a); have s1 : w2.cell? ⟨w.heap.size + 1, 41, none⟩ = some (.bool b.soft) := ((HR1.out.ext hx).cell 41).trans (ent_g41 b); have row0 : rowOf w2 w.heap.size 0 41 = some (stmC a.st) := by rw [(HR0.out.ext hx).row, if_neg (by omega), ent_stm]
       have row1 : rowOf w2 (w.heap.size + 1) 0 41 = some (stmC b.st) := by rw [(HR1.out.ext hx).row, if_neg (by omega), ent_stm]
       have hsz2 := hx.size
       clear ho hx)
    | (go_at_call 68; refine (HCp.out _).mono ?_; rintro e w' ⟨rfl, hxl⟩; obtain ⟨xl, rfl⟩ := hxl.asLater; clear hxl))
  have hXe : ∀ v, ({ a with hv := v, soft := b.soft } : En) = { X with hv := v } := fun v => by rw [HEX.out, hso]; rfl
  have ht3 : w.heap.size ≤ w.heap.size + 1 + 1 + 1 := by omega
  have hn0 : w.heap.size ≠ w.heap.size + 1 + 1 + 1 := by omega
  have hn1 : w.heap.size + 1 ≠ w.heap.size + 1 + 1 + 1 := by omega
  have hn2 : w.heap.size + 1 + 1 ≠ w.heap.size + 1 + 1 + 1 := by omega
  refine wp_world (fun W => Ext w W ∧ RowAt W w.heap.size (entC a) ∧ RowAt W (w.heap.size + 1) (entC b) ∧ RowAt W (w.heap.size + 1 + 1) (entC noEn) ∧ RowAt W (w.heap.size + 1 + 1 + 1) (entC { X with hv := .slice A1 la.length c1 }) ∧ OwnsSp (w.heap.size + 1 + 1 + 1 + 1) W A1 c1 la) ⟨?_, ?_, ?_, ?_, ?_, ?_⟩ ?_
  · exact (((HX1.out.trans HXc.out).setCell (p := ⟨w.heap.size + 1 + 1 + 1, 42, none⟩) ht3 _).onto _).setCell (p := ⟨w.heap.size + 1 + 1 + 1, 41, none⟩) ht3 _
  · exact (((HR0.out.ext HXc.out).other (p := ⟨w.heap.size + 1 + 1 + 1, 42, none⟩) hn0 _).later _).other (p := ⟨w.heap.size + 1 + 1 + 1, 41, none⟩) hn0 _
  · exact (((HR1.out.ext HXc.out).other (p := ⟨w.heap.size + 1 + 1 + 1, 42, none⟩) hn1 _).later _).other (p := ⟨w.heap.size + 1 + 1 + 1, 41, none⟩) hn1 _
  · exact (((HR2.out.ext HXc.out).other (p := ⟨w.heap.size + 1 + 1 + 1, 42, none⟩) hn2 _).later _).other (p := ⟨w.heap.size + 1 + 1 + 1, 41, none⟩) hn2 _
  · have z := (HR3.out.ext HXc.out).set 42 (.slice A1 la.length c1)
    rw [ent_set42] at z
    have z2 := (z.later xl).set 41 (.bool b.soft)
    rw [ent_set41] at z2
    rw [← hXe]
    exact z2
  · exact (((HO.out.other (p := ⟨w.heap.size + 1 + 1 + 1, 42, none⟩) (by show w.heap.size + 1 + 1 + 1 < _; omega) _).later _).other (p := ⟨w.heap.size + 1 + 1 + 1, 41, none⟩) (by show w.heap.size + 1 + 1 + 1 < _; omega) _).lower (by omega)
  clear hXe ht3 hn0 hn1 hn2 hso
  clear f42 g42 f41 g41 s0 s1 row0 row1 x42 hl0 hl1 hl2 hl3 HX1 HR0 HR1 HR2 HR3 HO HXc hsz2 q2 HCp HBt
  rintro W2 ⟨x2, r0, r1, r2, r3, ho2⟩
  have HX2 := Lib.hid x2
  have HO2 := Lib.hid ho2
  obtain ⟨Y, hY⟩ : ∃ Y : En, ({ X with hv := .slice A1 la.length c1 } : En) = Y := ⟨_, rfl⟩
  have HY := Lib.hid hY
  rw [hY] at r3
  have hYv : Y.hv = .slice A1 la.length c1 := by rw [← hY]
  have HYw : Hid (Y.whole = (X).whole) := Lib.hid (by rw [← hY])
  have HYs : Hid (Y.st = (X).st) := Lib.hid (by rw [← hY])
  have hfY : fitsRow 45 (entC Y) = true := ent_fits_of hYv
  have HR0 := Lib.hid r0
  have HR1 := Lib.hid r1
  have HR2 := Lib.hid r2
  have HR3 := Lib.hid r3
  have hl0 := r0.lt
  have hl1 := r1.lt
  have hl2 := r2.lt
  have hl3 := r3.lt
  have rowY : rowOf W2 (w.heap.size + 1 + 1 + 1) 0 45 = some (entC Y) := r3.all (ent_size _).symm (by omega)
  have room2 : roomOf W2 (w.heap.size + 1 + 1) 0 45 = true := by rw [r2.room, ent_size]; rfl
  have row0 : rowOf W2 w.heap.size 0 41 = some (stmC a.st) := by rw [r0.row, if_neg (by omega), ent_stm]
  have row1 : rowOf W2 (w.heap.size + 1) 0 41 = some (stmC b.st) := by rw [r1.row, if_neg (by omega), ent_stm]
  have rowa : rowOf W2 w.heap.size 0 45 = some (entC a) := r0.all (ent_size _).symm (by omega)
  have rowb : rowOf W2 (w.heap.size + 1) 0 45 = some (entC b) := r1.all (ent_size _).symm (by omega)
  clear x2 r0 r1 r2 r3 ho2 hY
  cases hsm : sameN a.st b.st with
  | false =>
    rw [hsm] at HSm
    have HM : Hid (mergeN a b la lb = ⟨X, la, 0⟩) := Lib.hid (by rw [mergeN, if_neg (fun k => k HN.out), if_pos hsm, HBest.out])
    clear hsm
    go_wp2_with (go_at_call 69; refine (HSm.out _).mono ?_; rintro e w' ⟨rfl, hxl⟩; obtain ⟨xl, rfl⟩ := hxl.asLater; clear hxl)
    have hx : Ext w ((later W2 xl).setCells (w.heap.size + 1 + 1) 0 (entC Y).toList) := (HX2.out.onto _).setCells (by omega) _ _
    have ho : OwnsSp (w.heap.size + 1 + 1 + 1 + 1) ((later W2 xl).setCells (w.heap.size + 1 + 1) 0 (entC Y).toList) A1 c1 la := (HO2.out.later _).others (by omega) _ _
    refine post_two (v1 := .agg (entC Y)) (v2 := .int .i64 0) Tryz.results30 rfl ⟨_, rfl, ent_loaded (row_stored (HR2.out.later _) (ent_size _) (ent_size _))⟩ rfl ⟨A1, c1, by rw [HM.out, ← HY.out], OwnsSp.plain ho, ho.none0, by rw [HM.out]; exact ho.reads spE, hx⟩
  | true =>
    rw [hsm] at HSm
    go_upto_region 11 with (go_at_call 69; refine (HSm.out _).mono ?_; rintro e w' ⟨rfl, hxl⟩; obtain ⟨xl, rfl⟩ := hxl.asLater; clear hxl)
    go_wp2
    refine wp_world (fun W => Ext W2 W ∧ rowOf W (W2.heap.size + xl.n) 0 45 = some (entC a) ∧ rowOf W (W2.heap.size + xl.n) 45 45 = some (entC b) ∧ W2.heap.size + xl.n < W.heap.size) ⟨(by (repeat (first | with_reducible exact Ext.refl _ | with_reducible exact Ext.refl _ | with_reducible refine Ext.drew ?_ | with_reducible refine Ext.drewN ?_ _ | with_reducible refine Ext.alloc ?_ _ | with_reducible refine Ext.onto ?_ _ | (with_reducible refine Ext.setCells ?_ ?_ _ _; rotate_left; focus (first | omega | (simp; done) | (simp; omega))) | (with_reducible refine Ext.setCell ?_ ?_ _; rotate_left; focus (first | omega | (simp; done) | (simp; omega)))))), by rw [rowOf_alloc, if_pos (by simp [later_size]), if_neg (by omega), ent2_a], by rw [rowOf_alloc, if_pos (by simp [later_size]), if_neg (by omega), ent2_b], by simp [later_size]⟩ ?_
    have hB2 : W2.heap.size ≤ W2.heap.size + xl.n := by omega
    generalize W2.heap.size + xl.n = B3 at *
    rintro W3 ⟨x3, rA, rB, hB3⟩
    have HX3 := Lib.hid x3
    clear x3
    have hA44 : (entC a)[44]? = some (.bool a.whole) := ent_g44 a
    have hB44 : (entC b)[44]? = some (.bool b.whole) := ent_g44 b
    cases hwa : a.whole with
    | true =>
      rw [hwa] at hA44
      refine wp_loop_rounds 1 ?_
      rw [rounds_succ]
      go_wp2
      have HM : Hid (mergeN a b la lb = ⟨{ X with bytes := a.bytes, whole := true }, la, 0⟩) := Lib.hid (by rw [mergeN, if_neg (fun k => k HN.out), if_neg (by rw [hsm]; decide), if_pos hwa, HBest.out])
      clear hsm hwa
      refine wp_world (fun W => Ext W2 W ∧ RowAt W W3.heap.size (entC a)) ⟨(HX3.out.alloc _).setCells (by omega) _ _, (RowAt.newAt (cs := entC noEn) (t := 58) rfl).store (by rw [ent_size, ent_size])⟩ ?_
      have hE : w.heap.size + 1 + 1 + 1 < W3.heap.size := Nat.lt_of_lt_of_le hl3 HX3.out.size
      generalize W3.heap.size = E at *
      rintro W4 ⟨x4, rE⟩
      clear HX3 rA rB hB3 hB2
      have HX4 := Lib.hid x4
      have k42 : W4.cell? ⟨E, 42, none⟩ = some (.slice A la.length ca) := by rw [← HA.out.hv]; exact (rE.cell 42).trans (ent_g42 a)
      have k43 : W4.cell? ⟨E, 43, none⟩ = some (.string (a).bytes) := (rE.cell 43).trans (ent_g43 a)
      have hEl := rE.lt
      have hlA := HA.out.val.len
      have r3' := HR3.out.ext x4
      have f42 := r3'.free 42
      have f43 := r3'.free 43
      have f44 := r3'.free 44
      have g42 := (r3'.cell 42).trans (ent_g42 Y)
      have g43 := (r3'.cell 43).trans (ent_g43 Y)
      have g44 := (r3'.cell 44).trans (ent_g44 Y)
      have hl3' := r3'.lt
      clear x4 rE r3' hA44 hB44 rowY room2 row0 row1 rowa rowb
      go_region_with (go_at_call 67; refine (clone_any A ca la _ HA.out.hA (by omega) (HA.out.hr.on (HX2.out.trans (HX4.out.trans (by (repeat (first | with_reducible exact Ext.refl _ | with_reducible exact Ext.refl _ | with_reducible refine Ext.drew ?_ | with_reducible refine Ext.drewN ?_ _ | with_reducible refine Ext.alloc ?_ _ | with_reducible refine Ext.onto ?_ _ | (with_reducible refine Ext.setCells ?_ ?_ _ _; rotate_left; focus (first | omega | (simp; done) | (simp; omega))) | (with_reducible refine Ext.setCell ?_ ?_ _; rotate_left; focus (first | omega | (simp; done) | (simp; omega)))))))))).mono ?_; rintro e wc ⟨A5, c5, rfl, ho, hx⟩; have hxx := (show Ext W4 _ from (by (repeat (first | with_reducible exact Ext.refl _ | with_reducible exact Ext.refl _ | with_reducible refine Ext.drew ?_ | with_reducible refine Ext.drewN ?_ _ | with_reducible refine Ext.alloc ?_ _ | with_reducible refine Ext.onto ?_ _ | (with_reducible refine Ext.setCells ?_ ?_ _ _; rotate_left; focus (first | omega | (simp; done) | (simp; omega))) | (with_reducible refine Ext.setCell ?_ ?_ _; rotate_left; focus (first | omega | (simp; done) | (simp; omega))))))).trans hx; have HO5 := Lib.hid ho; have HX5 := Lib.hid hxx; have c43 := (hxx.cell (p := ⟨E, 43, none⟩) hEl).trans k43; have p42 := (hxx.frozen (p := ⟨w.heap.size + 1 + 1 + 1, 42, none⟩) hl3').trans f42; have p43 := (hxx.frozen (p := ⟨w.heap.size + 1 + 1 + 1, 43, none⟩) hl3').trans f43; have p44 := (hxx.frozen (p := ⟨w.heap.size + 1 + 1 + 1, 44, none⟩) hl3').trans f44; have q42 := (hxx.cell (p := ⟨w.heap.size + 1 + 1 + 1, 42, none⟩) hl3').trans g42; have q43 := (hxx.cell (p := ⟨w.heap.size + 1 + 1 + 1, 43, none⟩) hl3').trans g43; have q44 := (hxx.cell (p := ⟨w.heap.size + 1 + 1 + 1, 44, none⟩) hl3').trans g44; clear ho hx hxx)
      all_goals (go_upto_region 16 with (fail))
      all_goals
        refine wp_world (fun W => Ext w W ∧ RowAt W (w.heap.size + 1 + 1) (entC noEn) ∧ RowAt W (w.heap.size + 1 + 1 + 1) (entC { Y with hv := .slice A5 la.length c5, bytes := (a).bytes, whole := true }) ∧ OwnsSp (w.heap.size + 1 + 1 + 1 + 1) W A5 c5 la) ⟨?_, ?_, ?_, ?_⟩ ?_
        · have ht3 : w.heap.size ≤ w.heap.size + 1 + 1 + 1 := by omega
          exact (((HX2.out.trans (HX4.out.trans HX5.out)).setCell (p := ⟨w.heap.size + 1 + 1 + 1, 42, none⟩) ht3 _).setCell (p := ⟨w.heap.size + 1 + 1 + 1, 43, none⟩) ht3 _).setCell (p := ⟨w.heap.size + 1 + 1 + 1, 44, none⟩) ht3 _
        · have hne : w.heap.size + 1 + 1 ≠ w.heap.size + 1 + 1 + 1 := by omega
          exact (((HR2.out.ext (HX4.out.trans HX5.out)).other (p := ⟨w.heap.size + 1 + 1 + 1, 42, none⟩) hne _).other (p := ⟨w.heap.size + 1 + 1 + 1, 43, none⟩) hne _).other (p := ⟨w.heap.size + 1 + 1 + 1, 44, none⟩) hne _
        · have z1 := (HR3.out.ext (HX4.out.trans HX5.out)).set 42 (.slice A5 la.length c5)
          rw [ent_set42] at z1
          have z2 := z1.set 43 (.string (a).bytes)
          rw [ent_set43] at z2
          have z3 := z2.set 44 (.bool true)
          rw [ent_set44] at z3
          exact z3
        · have hlt : w.heap.size + 1 + 1 + 1 < w.heap.size + 1 + 1 + 1 + 1 := by omega
          exact (((HO5.out.lower (by have := HX4.out.size; have := HX5.out.size; first | omega | (simp; omega))).other (p := ⟨w.heap.size + 1 + 1 + 1, 42, none⟩) hlt _).other (p := ⟨w.heap.size + 1 + 1 + 1, 43, none⟩) hlt _).other (p := ⟨w.heap.size + 1 + 1 + 1, 44, none⟩) hlt _
        rintro W5 ⟨x5, r2, r3, ho5⟩
        have HX6 := Lib.hid x5
        have HR6 := Lib.hid r2
        have HO6 := Lib.hid ho5
        have rowY : rowOf W5 (w.heap.size + 1 + 1 + 1) 0 45 = some (entC { Y with hv := .slice A5 la.length c5, bytes := (a).bytes, whole := true }) := r3.all (ent_size _).symm (by omega)
        have room2 : roomOf W5 (w.heap.size + 1 + 1) 0 45 = true := by rw [r2.room, ent_size]; rfl
        have hl2' := r2.lt
        have hl3' := r3.lt
        have hfZ : fitsRow 45 (entC { Y with hv := .slice A5 la.length c5, bytes := (a).bytes, whole := true }) = true := ent_fits_of rfl
        clear x5 r2 r3 ho5 f42 f43 f44 g42 g43 g44 p42 p43 p44 q42 q43 q44 c43 k42 k43
        go_wp2
        have hx : Ext w (W5.setCells (w.heap.size + 1 + 1) 0 (entC { Y with hv := .slice A5 la.length c5, bytes := (a).bytes, whole := true }).toList) := HX6.out.setCells (by omega) _ _
        have ho : OwnsSp (w.heap.size + 1 + 1 + 1 + 1) (W5.setCells (w.heap.size + 1 + 1) 0 (entC { Y with hv := .slice A5 la.length c5, bytes := (a).bytes, whole := true }).toList) A5 c5 la := HO6.out.others (by omega) _ _
        refine post_two (v1 := .agg (entC { Y with hv := .slice A5 la.length c5, bytes := (a).bytes, whole := true })) (v2 := .int .i64 0) Tryz.results30 rfl ⟨_, rfl, ent_loaded (row_stored HR6.out (ent_size _) (ent_size _))⟩ rfl ⟨A5, c5, by rw [HM.out, ← HY.out], OwnsSp.plain ho, ho.none0, by rw [HM.out]; exact ho.reads spE, hx⟩
    | false =>
      rw [hwa] at hA44
      cases hwb : b.whole with
      | true =>
        rw [hwb] at hB44
        have HM : Hid (mergeN a b la lb = ⟨{ X with bytes := b.bytes, whole := true }, lb, 0⟩) := Lib.hid (by rw [mergeN, if_neg (fun k => k HN.out), if_neg (by rw [hsm]; decide), if_neg (by rw [hwa]; decide), if_pos hwb, HBest.out])
        clear hsm hwa hwb
        refine wp_loop_rounds 2 ?_
        rw [rounds_succ]
        go_wp2
        rw [rounds_succ]
        refine wp_world (fun W => Ext W3 W) ((((Ext.refl W3).alloc _)).setCells (Nat.le_refl _) _ _) ?_
        rintro Wn xn
        replace rA := (row_ext xn hB3 0 45).trans rA
        replace rB := (row_ext xn hB3 45 45).trans rB
        replace hB3 := Nat.lt_of_lt_of_le hB3 xn.size
        replace HX3 := Lib.hid (HX3.out.trans xn)
        clear xn
        obtain ⟨W3, rfl⟩ : ∃ W, W = Wn := ⟨Wn, rfl⟩
        go_wp2
        refine wp_world (fun W => Ext W2 W ∧ RowAt W W3.heap.size (entC b)) ⟨(HX3.out.alloc _).setCells (by omega) _ _, (RowAt.newAt (cs := entC noEn) (t := 58) rfl).store (by rw [ent_size, ent_size])⟩ ?_
        have hE : w.heap.size + 1 + 1 + 1 < W3.heap.size := Nat.lt_of_lt_of_le hl3 HX3.out.size
        generalize W3.heap.size = E at *
        rintro W4 ⟨x4, rE⟩
        clear HX3 rA rB hB3 hB2
        have HX4 := Lib.hid x4
        have k42 : W4.cell? ⟨E, 42, none⟩ = some (.slice B lb.length cb) := by rw [← HB.out.hv]; exact (rE.cell 42).trans (ent_g42 b)
        have k43 : W4.cell? ⟨E, 43, none⟩ = some (.string (b).bytes) := (rE.cell 43).trans (ent_g43 b)
        have hEl := rE.lt
        have hlA := HB.out.val.len
        have r3' := HR3.out.ext x4
        have f42 := r3'.free 42
        have f43 := r3'.free 43
        have f44 := r3'.free 44
        have g42 := (r3'.cell 42).trans (ent_g42 Y)
        have g43 := (r3'.cell 43).trans (ent_g43 Y)
        have g44 := (r3'.cell 44).trans (ent_g44 Y)
        have hl3' := r3'.lt
        clear x4 rE r3' hA44 hB44 rowY room2 row0 row1 rowa rowb
        go_region_with (go_at_call 67; refine (clone_any B cb lb _ HB.out.hA (by omega) (HB.out.hr.on (HX2.out.trans (HX4.out.trans (by (repeat (first | with_reducible exact Ext.refl _ | with_reducible exact Ext.refl _ | with_reducible refine Ext.drew ?_ | with_reducible refine Ext.drewN ?_ _ | with_reducible refine Ext.alloc ?_ _ | with_reducible refine Ext.onto ?_ _ | (with_reducible refine Ext.setCells ?_ ?_ _ _; rotate_left; focus (first | omega | (simp; done) | (simp; omega))) | (with_reducible refine Ext.setCell ?_ ?_ _; rotate_left; focus (first | omega | (simp; done) | (simp; omega)))))))))).mono ?_; rintro e wc ⟨A5, c5, rfl, ho, hx⟩; have hxx := (show Ext W4 _ from (by (repeat (first | with_reducible exact Ext.refl _ | with_reducible exact Ext.refl _ | with_reducible refine Ext.drew ?_ | with_reducible refine Ext.drewN ?_ _ | with_reducible refine Ext.alloc ?_ _ | with_reducible refine Ext.onto ?_ _ | (with_reducible refine Ext.setCells ?_ ?_ _ _; rotate_left; focus (first | omega | (simp; done) | (simp; omega))) | (with_reducible refine Ext.setCell ?_ ?_ _; rotate_left; focus (first | omega | (simp; done) | (simp; omega))))))).trans hx; have HO5 := Lib.hid ho; have HX5 := Lib.hid hxx; have c43 := (hxx.cell (p := ⟨E, 43, none⟩) hEl).trans k43; have p42 := (hxx.frozen (p := ⟨w.heap.size + 1 + 1 + 1, 42, none⟩) hl3').trans f42; have p43 := (hxx.frozen (p := ⟨w.heap.size + 1 + 1 + 1, 43, none⟩) hl3').trans f43; have p44 := (hxx.frozen (p := ⟨w.heap.size + 1 + 1 + 1, 44, none⟩) hl3').trans f44; have q42 := (hxx.cell (p := ⟨w.heap.size + 1 + 1 + 1, 42, none⟩) hl3').trans g42; have q43 := (hxx.cell (p := ⟨w.heap.size + 1 + 1 + 1, 43, none⟩) hl3').trans g43; have q44 := (hxx.cell (p := ⟨w.heap.size + 1 + 1 + 1, 44, none⟩) hl3').trans g44; clear ho hx hxx)
        all_goals (go_upto_region 16 with (fail))
        all_goals
          refine wp_world (fun W => Ext w W ∧ RowAt W (w.heap.size + 1 + 1) (entC noEn) ∧ RowAt W (w.heap.size + 1 + 1 + 1) (entC { Y with hv := .slice A5 lb.length c5, bytes := (b).bytes, whole := true }) ∧ OwnsSp (w.heap.size + 1 + 1 + 1 + 1) W A5 c5 lb) ⟨?_, ?_, ?_, ?_⟩ ?_
          · have ht3 : w.heap.size ≤ w.heap.size + 1 + 1 + 1 := by omega
            exact (((HX2.out.trans (HX4.out.trans HX5.out)).setCell (p := ⟨w.heap.size + 1 + 1 + 1, 42, none⟩) ht3 _).setCell (p := ⟨w.heap.size + 1 + 1 + 1, 43, none⟩) ht3 _).setCell (p := ⟨w.heap.size + 1 + 1 + 1, 44, none⟩) ht3 _
          · have hne : w.heap.size + 1 + 1 ≠ w.heap.size + 1 + 1 + 1 := by omega
            exact (((HR2.out.ext (HX4.out.trans HX5.out)).other (p := ⟨w.heap.size + 1 + 1 + 1, 42, none⟩) hne _).other (p := ⟨w.heap.size + 1 + 1 + 1, 43, none⟩) hne _).other (p := ⟨w.heap.size + 1 + 1 + 1, 44, none⟩) hne _
          · have z1 := (HR3.out.ext (HX4.out.trans HX5.out)).set 42 (.slice A5 lb.length c5)
            rw [ent_set42] at z1
            have z2 := z1.set 43 (.string (b).bytes)
            rw [ent_set43] at z2
            have z3 := z2.set 44 (.bool true)
            rw [ent_set44] at z3
            exact z3
          · have hlt : w.heap.size + 1 + 1 + 1 < w.heap.size + 1 + 1 + 1 + 1 := by omega
            exact (((HO5.out.lower (by have := HX4.out.size; have := HX5.out.size; first | omega | (simp; omega))).other (p := ⟨w.heap.size + 1 + 1 + 1, 42, none⟩) hlt _).other (p := ⟨w.heap.size + 1 + 1 + 1, 43, none⟩) hlt _).other (p := ⟨w.heap.size + 1 + 1 + 1, 44, none⟩) hlt _
          rintro W5 ⟨x5, r2, r3, ho5⟩
          have HX6 := Lib.hid x5
          have HR6 := Lib.hid r2
          have HO6 := Lib.hid ho5
          have rowY : rowOf W5 (w.heap.size + 1 + 1 + 1) 0 45 = some (entC { Y with hv := .slice A5 lb.length c5, bytes := (b).bytes, whole := true }) := r3.all (ent_size _).symm (by omega)
          have room2 : roomOf W5 (w.heap.size + 1 + 1) 0 45 = true := by rw [r2.room, ent_size]; rfl
          have hl2' := r2.lt
          have hl3' := r3.lt
          have hfZ : fitsRow 45 (entC { Y with hv := .slice A5 lb.length c5, bytes := (b).bytes, whole := true }) = true := ent_fits_of rfl
          clear x5 r2 r3 ho5 f42 f43 f44 g42 g43 g44 p42 p43 p44 q42 q43 q44 c43 k42 k43
          go_wp2
          have hx : Ext w (W5.setCells (w.heap.size + 1 + 1) 0 (entC { Y with hv := .slice A5 lb.length c5, bytes := (b).bytes, whole := true }).toList) := HX6.out.setCells (by omega) _ _
          have ho : OwnsSp (w.heap.size + 1 + 1 + 1 + 1) (W5.setCells (w.heap.size + 1 + 1) 0 (entC { Y with hv := .slice A5 lb.length c5, bytes := (b).bytes, whole := true }).toList) A5 c5 lb := HO6.out.others (by omega) _ _
          refine post_two (v1 := .agg (entC { Y with hv := .slice A5 lb.length c5, bytes := (b).bytes, whole := true })) (v2 := .int .i64 0) Tryz.results30 rfl ⟨_, rfl, ent_loaded (row_stored HR6.out (ent_size _) (ent_size _))⟩ rfl ⟨A5, c5, by rw [HM.out, ← HY.out], OwnsSp.plain ho, ho.none0, by rw [HM.out]; exact ho.reads spE, hx⟩
      | false =>
        rw [hwb] at hB44
        have HM : Hid (mergeN a b la lb = { settleN X (addAll la lb) (mrgB b.bytes lb a.bytes) with n := 0 }) := Lib.hid (by rw [mergeN, if_neg (fun k => k HN.out), if_neg (by rw [hsm]; decide), if_neg (by rw [hwa]; decide), if_neg (by rw [hwb]; decide), HBest.out])
        have HSz := Lib.hid (sameN_iff hsm).1
        have HWX : Hid ((X).whole = false) := Lib.hid ((HXW.out.symm.trans hwa))
        have HWA : Hid (a.whole = false) := Lib.hid hwa
        clear hsm hwa hwb
        refine wp_loop_rounds 3 ?_
        rw [rounds_succ]
        go_wp2
        rw [rounds_succ]
        refine wp_world (fun W => Ext W3 W) ((((Ext.refl W3).alloc _)).setCells (Nat.le_refl _) _ _) ?_
        rintro Wn xn
        replace rA := (row_ext xn hB3 0 45).trans rA
        replace rB := (row_ext xn hB3 45 45).trans rB
        replace hB3 := Nat.lt_of_lt_of_le hB3 xn.size
        replace HX3 := Lib.hid (HX3.out.trans xn)
        clear xn
        obtain ⟨W3, rfl⟩ : ∃ W, W = Wn := ⟨Wn, rfl⟩
        go_wp2
        rw [rounds_succ]
        refine wp_world (fun W => Ext W3 W) ((((Ext.refl W3).alloc _)).setCells (Nat.le_refl _) _ _) ?_
        rintro Wn xn
        replace rA := (row_ext xn hB3 0 45).trans rA
        replace rB := (row_ext xn hB3 45 45).trans rB
        replace hB3 := Nat.lt_of_lt_of_le hB3 xn.size
        replace HX3 := Lib.hid (HX3.out.trans xn)
        clear xn
        obtain ⟨W3, rfl⟩ : ∃ W, W = Wn := ⟨Wn, rfl⟩
        go_wp2
        have HBv := HB.out.val
        have HAv := HA.out.val
        have hA42 : ∀ W, Ext W2 W → W.cell? ⟨w.heap.size, 42, none⟩ = some (.slice A la.length ca) := fun W hx => by rw [← HA.out.hv]; exact ((HR0.out.ext hx).cell 42).trans (ent_g42 a)
        have hA43 : ∀ W, Ext W2 W → W.cell? ⟨w.heap.size, 43, none⟩ = some (.string a.bytes) := fun W hx => ((HR0.out.ext hx).cell 43).trans (ent_g43 a)
        have HH42 := Lib.hid hA42
        have HH43 := Lib.hid hA43
        have HBV := Lib.hid HBv
        have HAV := Lib.hid HAv
        have hl0' : w.heap.size < W3.heap.size := Nat.lt_of_lt_of_le hl0 HX3.out.size
        have hl3' : w.heap.size + 1 + 1 + 1 < W3.heap.size := Nat.lt_of_lt_of_le hl3 HX3.out.size
        clear hA42 hA43 HBv HAv rA rB hB3 hB2 hA44 hB44 row0 row1 rowa rowb rowY room2
        refine wp_region_softE 7 (softsE [.eq (.pointer (some ⟨w.heap.size, 42, none⟩)), .eq (.slice A la.length ca), .eq (.pointer (some ⟨w.heap.size, 43, none⟩)), .eq (.string a.bytes), bytSoft W3.heap.size a.bytes, .eq (.slice A la.length ca), bytSoft W3.heap.size a.bytes]) (by kernel_rfl) (by kernel_rfl) (lt_cons ?_ (lt_cons ?_ (lt_cons ?_ (lt_cons ?_ (lt_cons ?_ (lt_cons ?_ (lt_cons ?_ lt_none))))))) ?_
        ·
          intro o ho xs W hW hd Q' hQ; obtain rfl := Option.some.inj ho; clear ho; simp only [fillAt, dstOf, List.getElem?_cons_zero, List.getElem?_cons_succ, Option.bind_some, Act.put, List.setIfInBounds_toArray, List.set_cons_zero, List.set_cons_succ, Nat.zero_add, Nat.reduceAdd] at hQ ⊢; have HQ := Lib.hid hQ; have HD := Lib.hid hd; have HW := Lib.hid hW; have hsW := hW.size; clear hQ hd hW
          go_wp2
          exact HQ.out _ _ (Ext.refl _) rfl
        ·
          intro o ho xs W hW hd Q' hQ; obtain rfl := Option.some.inj ho; clear ho; simp only [fillAt, dstOf, List.getElem?_cons_zero, List.getElem?_cons_succ, Option.bind_some, Act.put, List.setIfInBounds_toArray, List.set_cons_zero, List.set_cons_succ, Nat.zero_add, Nat.reduceAdd] at hQ ⊢; have HQ := Lib.hid hQ; have HD := Lib.hid hd; have HW := Lib.hid hW; have hsW := hW.size; clear hQ hd hW
          have hd0 : xs 0 = .pointer (some ⟨w.heap.size, 42, none⟩) := (HD.out 0 (of_decide_eq_true (by kernel_rfl)))
          generalize xs 0 = x0 at hd0 HQ ⊢; subst hd0
          have hc := HH42.out _ (HX3.out.trans HW.out)
          go_wp2
          exact HQ.out _ _ (Ext.refl _) rfl
        ·
          intro o ho xs W hW hd Q' hQ; obtain rfl := Option.some.inj ho; clear ho; simp only [fillAt, dstOf, List.getElem?_cons_zero, List.getElem?_cons_succ, Option.bind_some, Act.put, List.setIfInBounds_toArray, List.set_cons_zero, List.set_cons_succ, Nat.zero_add, Nat.reduceAdd] at hQ ⊢; have HQ := Lib.hid hQ; have HD := Lib.hid hd; have HW := Lib.hid hW; have hsW := hW.size; clear hQ hd hW
          go_wp2
          exact HQ.out _ _ (Ext.refl _) rfl
        ·
          intro o ho xs W hW hd Q' hQ; obtain rfl := Option.some.inj ho; clear ho; simp only [fillAt, dstOf, List.getElem?_cons_zero, List.getElem?_cons_succ, Option.bind_some, Act.put, List.setIfInBounds_toArray, List.set_cons_zero, List.set_cons_succ, Nat.zero_add, Nat.reduceAdd] at hQ ⊢; have HQ := Lib.hid hQ; have HD := Lib.hid hd; have HW := Lib.hid hW; have hsW := hW.size; clear hQ hd hW
          have hd2 : xs 2 = .pointer (some ⟨w.heap.size, 43, none⟩) := (HD.out 2 (of_decide_eq_true (by kernel_rfl)))
          generalize xs 2 = x2 at hd2 HQ ⊢; subst hd2
          have hc := HH43.out _ (HX3.out.trans HW.out)
          go_wp2
          exact HQ.out _ _ (Ext.refl _) rfl
        ·
          intro o ho xs W hW hd Q' hQ; obtain rfl := Option.some.inj ho; clear ho; simp only [fillAt, dstOf, List.getElem?_cons_zero, List.getElem?_cons_succ, Option.bind_some, Act.put, List.setIfInBounds_toArray, List.set_cons_zero, List.set_cons_succ, Nat.zero_add, Nat.reduceAdd] at hQ ⊢; have HQ := Lib.hid hQ; have HD := Lib.hid hd; have HW := Lib.hid hW; have hsW := hW.size; clear hQ hd hW
          have hd3 : xs 3 = .string a.bytes := (HD.out 3 (of_decide_eq_true (by kernel_rfl)))
          generalize xs 3 = x3 at hd3 HQ ⊢; subst hd3
          have hge := grownCap_ge W a.bytes.size 0 5
          go_wp2
          rw [strConv]
          go_wp2
          exact HQ.out _ _ (ext_bytes W 5 a.bytes) ⟨W.heap.size, _, rfl, hsW, hge, bytes_at W 5 a.bytes⟩
        ·
          intro o ho xs W hW hd Q' hQ; obtain rfl := Option.some.inj ho; clear ho; simp only [fillAt, dstOf, List.getElem?_cons_zero, List.getElem?_cons_succ, Option.bind_some, Act.put, List.setIfInBounds_toArray, List.set_cons_zero, List.set_cons_succ, Nat.zero_add, Nat.reduceAdd] at hQ ⊢; have HQ := Lib.hid hQ; have HD := Lib.hid hd; have HW := Lib.hid hW; have hsW := hW.size; clear hQ hd hW
          have hd1 : xs 1 = (.slice A la.length ca) := (HD.out 1 (of_decide_eq_true (by kernel_rfl)))
          generalize xs 1 = x1 at hd1 HQ ⊢; subst hd1
          go_wp2
          exact HQ.out _ _ (Ext.refl _) rfl
        ·
          intro o ho xs W hW hd Q' hQ; obtain rfl := Option.some.inj ho; clear ho; simp only [fillAt, dstOf, List.getElem?_cons_zero, List.getElem?_cons_succ, Option.bind_some, Act.put, List.setIfInBounds_toArray, List.set_cons_zero, List.set_cons_succ, Nat.zero_add, Nat.reduceAdd] at hQ ⊢; have HQ := Lib.hid hQ; have HD := Lib.hid hd; have HW := Lib.hid hW; have hsW := hW.size; clear hQ hd hW
          obtain ⟨g, cap, h4, hg, hcap, hby⟩ : (bytSoft W3.heap.size a.bytes).S (xs 4) W := (HD.out 4 (of_decide_eq_true (by kernel_rfl)))
          have HBy := Lib.hid hby
          clear hby
          generalize xs 4 = x4 at h4 HQ ⊢; subst h4
          go_wp2
          exact HQ.out _ _ (Ext.refl _) ⟨g, cap, rfl, hg, hcap, HBy.out⟩
        intro xs W5 hW hS
        have h1 : xs 5 = .slice A la.length ca := hS 5 (by omega)
        obtain ⟨g, cap, h4, hg, hcap, hby⟩ : (bytSoft W3.heap.size a.bytes).S (xs 6) W5 := hS 6 (by omega)
        simp only [fillAt, dstOf, List.getElem?_cons_zero, List.getElem?_cons_succ, Option.bind_some, Act.put, List.setIfInBounds_toArray, List.set_cons_zero, List.set_cons_succ, Nat.zero_add, Nat.reduceAdd, List.drop_succ_cons, List.drop_zero, List.drop_nil]
        generalize xs 5 = y1 at *; subst h1
        generalize xs 6 = y4 at *; subst h4
        have HX5 := Lib.hid hW
        have HBy := Lib.hid hby
        have hgl := hby.1
        clear hS hW hby
        have hb42 : W5.cell? ⟨w.heap.size + 1, 42, none⟩ = some (.slice B lb.length cb) := by rw [← HB.out.hv]; exact ((HR1.out.ext (HX3.out.trans HX5.out)).cell 42).trans (ent_g42 b)
        have hl1' := (HR1.out.ext (HX3.out.trans HX5.out)).lt
        go_wp2
        go_loopw [89, 9] (EMrgRel w.heap.size W3 a b la lb g) (fun i _ _ => lb.length - (intOf i).toNat)
        
        case atStart => exact ⟨0, A, ca, la, Nat.zero_le _, rfl, rfl, Lib.hid rfl, Lib.hid ((HA.out.keep _).ext (HX2.out.trans (HX3.out.trans HX5.out))), Lib.hid HBy.out, HX5⟩
        case round =>
          obtain ⟨k, A', c', out, hk, rfl, rfl, HO, HKp, HBy2, HX6⟩ := hrel
          have hxw : Ext w wr := HX2.out.trans (HX3.out.trans HX6.out)
          have hsw := hxw.size
          have hsi := addAll_in (lb.take k) HAV.out.si (fun s hs => by
            have i1 := HBV.out.si.1.2 s (List.mem_of_mem_take hs)
            have i2 := HBV.out.si.2 s (List.mem_of_mem_take hs)
            have i3 := HSz.out
            omega)
          rw [← HO.out] at hsi
          have HSI := Lib.hid hsi.1
          have hlb0 := HBV.out.len
          have hgw := HBy2.out.1
          have hbd : ∀ s ∈ lb, 0 ≤ s.1 ∧ s.1 < s.2 ∧ s.2 ≤ b.bytes.size := fun s hs => by
            have h1 := HBV.out.si.1.2 s hs
            have h2 := HBV.out.si.2 s hs
            have h3 := HBV.out.bs
            omega
          have hD : (mrgB b.bytes (lb.take k) a.bytes).size = b.bytes.size := (mrg_get b.bytes (lb.take k) a.bytes (fun s hs => hbd s (List.mem_of_mem_take hs)) (by have h1 := HAV.out.bs; have h2 := HSz.out; have h3 := HBV.out.bs; omega)).1
          have hsz1 := HBV.out.bs
          have hsz2 := HBV.out.sz
          have hsz0 := HBV.out.z0
          have hsza := HAV.out.bs
          have HSz' := HSz.out
          clear hsi
          by_cases hlt : k < lb.length
          · obtain ⟨bb, off, rfl, hbb, y1, y2⟩ := ReadsSp.cell (HB.out.hr.on hxw) k hlt
            have hin := List.getElem_mem hlt
            have i1 := hbd _ hin
            have HJ := Lib.hid (addAll_snoc la lb k hlt)
            have HJB := Lib.hid (mrgB_snoc b.bytes lb a.bytes k hlt)
            rw [← HO.out] at HJ
            generalize lb[k] = s at *
            obtain ⟨s1, s2⟩ := s
            simp only [] at y1 y2 i1
            obtain ⟨f, rfl⟩ : ∃ f : Nat, s1 = f := ⟨s1.toNat, by omega⟩
            obtain ⟨t, rfl⟩ : ∃ t : Nat, s2 = t := ⟨s2.toNat, by omega⟩
            generalize mrgB b.bytes (lb.take k) a.bytes = D at *
            have hb43 : ∀ W, Ext wr W → W.cell? ⟨w.heap.size + 1, 43, none⟩ = some (.string b.bytes) := fun W hx => ((HR1.out.ext (HX3.out.trans (HX6.out.trans hx))).cell 43).trans (ent_g43 b)
            have HB43 := Lib.hid hb43
            have HAd := Lib.hid (fun W (p : ReadsSp W W.heap.size A' out) => eadd_is A' c' out ((f : Int), (t : Int)) W a.st.size HSI.out HAV.out.sz HAV.out.z0 (by simp only []; omega) (by simp only []; omega) (by simp only []; omega) HKp.out.plain p)
            rw [← HJ.out] at HAd
            clear hin hb43 hbd
            go_wp2_with (go_at_call 64; refine (HAd.out _ (HKp.out.ext (by (repeat (first | with_reducible exact Ext.refl _ | with_reducible exact Ext.refl _ | with_reducible refine Ext.drew ?_ | with_reducible refine Ext.drewN ?_ _ | with_reducible refine Ext.alloc ?_ _ | with_reducible refine Ext.onto ?_ _ | (with_reducible refine Ext.setCells ?_ ?_ _ _; rotate_left; focus (first | omega | (simp; done) | (simp; omega))) | (with_reducible refine Ext.setCell ?_ ?_ _; rotate_left; focus (first | omega | (simp; done) | (simp; omega))))))).reads).mono ?_; rintro e w6 ⟨A2, c2, rfl, ho, hx6⟩; have hxx := (show Ext wr _ from (by (repeat (first | with_reducible exact Ext.refl _ | with_reducible exact Ext.refl _ | with_reducible refine Ext.drew ?_ | with_reducible refine Ext.drewN ?_ _ | with_reducible refine Ext.alloc ?_ _ | with_reducible refine Ext.onto ?_ _ | (with_reducible refine Ext.setCells ?_ ?_ _ _; rotate_left; focus (first | omega | (simp; done) | (simp; omega))) | (with_reducible refine Ext.setCell ?_ ?_ _; rotate_left; focus (first | omega | (simp; done) | (simp; omega))))))).trans hx6; have p0 : w6.cell? ⟨wr.heap.size, 0, none⟩ = some (.int .i64 f) := (hx6.cell (p := ⟨wr.heap.size, 0, none⟩) (by simp)).trans (by rw [alloc_cell_if, if_pos (by simp)]; rfl); have p1 : w6.cell? ⟨wr.heap.size, 1, none⟩ = some (.int .i64 t) := (hx6.cell (p := ⟨wr.heap.size, 1, none⟩) (by simp)).trans (by rw [alloc_cell_if, if_pos (by simp)]; rfl); have b43 := HB43.out _ hxx; have hp6 : wr.heap.size < w6.heap.size := (by have := hx6.size; simp at this; omega); have HO6 := Lib.hid ho; have HX7 := Lib.hid hxx; have HBy6 := Lib.hid (HBy2.out.ext hxx); have hn6 : w.heap.size + 1 < w6.heap.size := Nat.lt_of_lt_of_le (HR1.out.ext (HX3.out.trans HX6.out)).lt hxx.size; have hsz6 := hxx.size; clear ho hx6 hxx)
            have HLt := Lib.hid hlt
            have hft : f < t := by omega
            have htb : t ≤ b.bytes.size := by omega
            have htc : t ≤ cap := by omega
            have hfc : f < cap := by omega
            have hxs : (b.bytes.extract f t).size = t - f := extract_sz htb
            clear y1 y2 i1 HAd
            refine wp_region_later_tail 15 (by kernel_rfl) (by kernel_rfl) ?_
            simp only [List.take_succ_cons, List.take_zero, List.drop_succ_cons, List.drop_zero]
            repeat (first | go_big_quiet_step (fail) | quiet_step (fail))
            refine wpQuiet_nil ?_
            rintro _ ⟨xq, rfl⟩
            have hby7 : ByteAt (later w6 xq) g (bts D) := HBy6.out.ext (ext_later _ _)
            have hroom : roomOf (later w6 xq) g f (min (b.bytes.extract f t).size (t - f)) = true := hby7.room f _ (by rw [hxs, Nat.min_self, bts_length]; omega)
            have hH7 := Lib.hid hby7
            clear hby7
            go_wp2_with (with_reducible refine wpList_copy_str (.tmp 103) (.tmp 110) 118 9 5 (by kernel_rfl) u8_size g f (t - f) (t - f) rfl (b.bytes.extract f t) rfl hroom ?_)
            rw [List.take_of_length_le (l := (cells8 (bts (b.bytes.extract f t))).toList) (i := t - f) (by simp [cells8, bts_length, hxs])]
            go_roundw
            case rel =>
              have hkl := HLt.out
              refine ⟨k + 1, A2, c2, addAll la (lb.take (k + 1)), by omega, by go_num, rfl, Lib.hid rfl, Lib.hid (.inr ?_), Lib.hid ?_, Lib.hid ?_⟩
              · exact ((HO6.out.lower (by first | omega | (simp; omega))).later _).others (by omega) _ _
              · have q := hH7.out.copied (x := bts (b.bytes.extract f t)) (p := f) (by rw [bts_length, bts_length, hxs]; omega)
                have hj := HJB.out
                simp only [Int.toNat_natCast] at hj
                rw [hj, bts_over]
                exact q
              · exact ((HX6.out.trans HX7.out).onto _).setCells hg _ _
            case measure =>
              have hkl := HLt.out
              simp [intOf]; omega
          · have e : k = lb.length := by omega
            have ho := HO.out
            have hb2 := HBy2.out
            rw [e, List.take_length] at ho hb2
            rw [e, List.take_length] at hD
            have HOe := Lib.hid ho
            have HB3 := Lib.hid hb2
            clear ho hb2 HBy2 HO
            have hpos : 0 < b.bytes.size := by have h1 := HAV.out.pos HWA.out; omega
            generalize mrgB b.bytes lb a.bytes = D at *
            have hDl : (bts D).length = b.bytes.size := by rw [bts_length, hD]
            have hYw : Y.whole = false := HYw.out.trans HWX.out
            have hrY := HR3.out.ext (HX3.out.trans HX6.out)
            have hr2 := HR2.out.ext (HX3.out.trans HX6.out)
            have rowY : rowOf wr (w.heap.size + 1 + 1 + 1) 0 45 = some (entC Y) := hrY.all (ent_size _).symm (by omega)
            have hlY := hrY.lt
            have HR2w := Lib.hid hr2
            have HR3w := Lib.hid hrY
            have HK2 := Lib.hid (RowAt.ext HK.out hxw)
            have hlen : out.length ≤ 65536 := by have h1 := HSI.out.len HAV.out.z0; have h2 := HAV.out.sz; omega
            have hXs : (X).st.size = a.st.size := by first | rfl | exact HSz.out.symm | (rw [HEX.out])
            obtain ⟨R, hR⟩ : ∃ R, settleN Y out D = R := ⟨_, rfl⟩
            have hss := settle_same X (.slice A1 la.length c1) (X).bytes D out
            rw [show (⟨(X).st, (X).soft, .slice A1 la.length c1, (X).bytes, (X).whole⟩ : En) = Y from HY.out, hR] at hss
            have HSS := Lib.hid hss
            have HSet := Lib.hid (fun W (hx : Ext wr W) (A5 : Option Addr) (c5 : Nat) (p : OwnsSp (w.heap.size + 1 + 1 + 1 + 1) W A5 c5 out) => settleE_any Y ⟨A1, _, c1, hYv⟩ A5 c5 out (some ⟨g, 0, none⟩) cap (bts D) (w.heap.size + 1 + 1 + 1 + 1) W hYw (by rw [HYs.out]; exact HVX.out.val.z0) (by rw [HYs.out]; exact HVX.out.val.sz) (by rw [HYs.out, hXs]; exact HSI.out) p (by omega) (by omega) ((HB3.out.ext hx).reads) (RowAt.ext HK2.out hx) (by rw [HYs.out]; exact HVX.out.hb) (by rw [HYs.out]; exact HVX.out.hby))
            have hab : a.bytes.size = b.bytes.size := by have h1 := HAV.out.bs; have h2 := HSz.out; have h3 := HBV.out.bs; omega
            rw [nums_bts, hR, hDl, ← hab] at HSet
            clear hab
            clear hss hR hbd hlt hk hsz1 hsz2 hsz0 hsza HSz' hpos hDl hrY hr2 hYw
            go_wp2
            refine wp_region_softR 6 (softsE [.eq (.agg (entC Y)), .eq (.slice A' out.length c'), ownSoft out (w.heap.size + 1 + 1 + 1 + 1), .eq (.slice (some ⟨g, 0, none⟩) a.bytes.size cap), tupSoft R (w.heap.size + 1 + 1 + 1 + 1), tupSoft R (w.heap.size + 1 + 1 + 1 + 1)]) (by kernel_rfl) (by kernel_rfl) (lt_cons ?_ (lt_cons ?_ (lt_cons ?_ (lt_cons ?_ (lt_cons ?_ (lt_cons ?_ lt_none)))))) ?_
            ·
              intro o ho xs W hW hd Q' hQ; obtain rfl := Option.some.inj ho; clear ho; simp only [fillAt, dstOf, List.getElem?_cons_zero, List.getElem?_cons_succ, Option.bind_some, Act.put, List.setIfInBounds_toArray, List.set_cons_zero, List.set_cons_succ, Nat.zero_add, Nat.reduceAdd] at hQ ⊢; have HQ := Lib.hid hQ; have HD := Lib.hid hd; have HW := Lib.hid hW; have hsW := hW.size; clear hQ hd hW
              have hrow := (row_ext HW.out hlY 0 45).trans rowY
              go_wp2
              exact HQ.out _ _ (Ext.refl _) rfl
            ·
              intro o ho xs W hW hd Q' hQ; obtain rfl := Option.some.inj ho; clear ho; simp only [fillAt, dstOf, List.getElem?_cons_zero, List.getElem?_cons_succ, Option.bind_some, Act.put, List.setIfInBounds_toArray, List.set_cons_zero, List.set_cons_succ, Nat.zero_add, Nat.reduceAdd] at hQ ⊢; have HQ := Lib.hid hQ; have HD := Lib.hid hd; have HW := Lib.hid hW; have hsW := hW.size; clear hQ hd hW
              go_wp2
              exact HQ.out _ _ (Ext.refl _) rfl
            ·
              intro o ho xs W hW hd Q' hQ; obtain rfl := Option.some.inj ho; clear ho; simp only [fillAt, dstOf, List.getElem?_cons_zero, List.getElem?_cons_succ, Option.bind_some, Act.put, List.setIfInBounds_toArray, List.set_cons_zero, List.set_cons_succ, Nat.zero_add, Nat.reduceAdd] at hQ ⊢; have HQ := Lib.hid hQ; have HD := Lib.hid hd; have HW := Lib.hid hW; have hsW := hW.size; clear hQ hd hW
              have hd1 : xs 1 = .slice A' out.length c' := (HD.out 1 (of_decide_eq_true (by kernel_rfl)))
              generalize xs 1 = x1 at hd1 HQ ⊢; subst hd1
              go_wp2_with (go_at_call 67; refine (clone_any A' c' out _ HKp.out.plain (by omega) (HKp.out.ext HW.out).reads).mono ?_; rintro e wc ⟨A5, c5, rfl, ho, hx⟩)
              exact HQ.out _ _ hx ⟨A5, c5, rfl, ho.lower (by have h6 := HX6.out.size; omega)⟩
            ·
              intro o ho xs W hW hd Q' hQ; obtain rfl := Option.some.inj ho; clear ho; simp only [fillAt, dstOf, List.getElem?_cons_zero, List.getElem?_cons_succ, Option.bind_some, Act.put, List.setIfInBounds_toArray, List.set_cons_zero, List.set_cons_succ, Nat.zero_add, Nat.reduceAdd] at hQ ⊢; have HQ := Lib.hid hQ; have HD := Lib.hid hd; have HW := Lib.hid hW; have hsW := hW.size; clear hQ hd hW
              go_wp2
              exact HQ.out _ _ (Ext.refl _) rfl
            ·
              intro o ho xs W hW hd Q' hQ; obtain rfl := Option.some.inj ho; clear ho; simp only [fillAt, dstOf, List.getElem?_cons_zero, List.getElem?_cons_succ, Option.bind_some, Act.put, List.setIfInBounds_toArray, List.set_cons_zero, List.set_cons_succ, Nat.zero_add, Nat.reduceAdd] at hQ ⊢; have HQ := Lib.hid hQ; have HD := Lib.hid hd; have HW := Lib.hid hW; have hsW := hW.size; clear hQ hd hW
              have hd0 : xs 0 = .agg (entC Y) := (HD.out 0 (of_decide_eq_true (by kernel_rfl)))
              generalize xs 0 = x0 at hd0 HQ ⊢; subst hd0
              obtain ⟨A5, c5, h2, ho2⟩ : (ownSoft out (w.heap.size + 1 + 1 + 1 + 1)).S (xs 2) W := (HD.out 2 (of_decide_eq_true (by kernel_rfl)))
              generalize xs 2 = x2 at h2 HQ ⊢; subst h2
              have hd3 : xs 3 = .slice (some ⟨g, 0, none⟩) a.bytes.size cap := (HD.out 3 (of_decide_eq_true (by kernel_rfl)))
              generalize xs 3 = x3 at hd3 HQ ⊢; subst hd3
              have HO2 := Lib.hid ho2
              clear ho2
              go_wp2_with (go_at_call 63; refine (HSet.out _ HW.out A5 c5 HO2.out).mono ?_; rintro e ws ⟨v, rfl, hrs, hx⟩)
              exact HQ.out _ _ hx ⟨v, rfl, hrs⟩
            ·
              intro o ho xs W hW hd Q' hQ; obtain rfl := Option.some.inj ho; clear ho; simp only [fillAt, dstOf, List.getElem?_cons_zero, List.getElem?_cons_succ, Option.bind_some, Act.put, List.setIfInBounds_toArray, List.set_cons_zero, List.set_cons_succ, Nat.zero_add, Nat.reduceAdd] at hQ ⊢; have HQ := Lib.hid hQ; have HD := Lib.hid hd; have HW := Lib.hid hW; have hsW := hW.size; clear hQ hd hW
              obtain ⟨v, h4, hrs⟩ : (tupSoft R (w.heap.size + 1 + 1 + 1 + 1)).S (xs 4) W := (HD.out 4 (of_decide_eq_true (by kernel_rfl)))
              generalize xs 4 = x4 at h4 HQ ⊢; subst h4
              go_wp2
              exact HQ.out _ _ (Ext.refl _) ⟨v, rfl, hrs⟩
            intro xs W6 hW hS
            obtain ⟨v, h5, A6, c6, rfl, hor⟩ : (tupSoft R (w.heap.size + 1 + 1 + 1 + 1)).S (xs 5) W6 := hS 5 (by omega)
            simp only [fillAt, dstOf, List.getElem?_cons_zero, List.getElem?_cons_succ, Option.bind_some, Act.put, List.setIfInBounds_toArray, List.set_cons_zero, List.set_cons_succ, Nat.zero_add, Nat.reduceAdd]
            generalize xs 5 = y5 at *; subst h5
            have HX9 := Lib.hid hW
            have HOr := Lib.hid hor
            have room3 : roomOf W6 (w.heap.size + 1 + 1 + 1) 0 45 = true := by rw [(HR3w.out.ext HX9.out).room, ent_size]; rfl
            have hfR : fitsRow 45 (entC { R.e with hv := .slice A6 R.l.length c6 }) = true := ent_fits_of rfl
            clear hS hW hor rowY
            refine wpAny_take (i := 7) (v := .int .i64 R.n) rfl (by kernel_rfl) (by kernel_rfl) (by kernel_rfl) (fun _ _ _ h => h) (Or.inl ⟨by rfl, by intro w; go_simp⟩) ?_
            refine wpAny_take (i := 6) (v := .agg (entC { R.e with hv := .slice A6 R.l.length c6 })) rfl (by kernel_rfl) (by kernel_rfl) (by kernel_rfl) (fun _ _ _ h => h) (Or.inl ⟨by rfl, by intro w; go_simp⟩) ?_
            refine wpAny_ready (rs := [8]) (by kernel_rfl) (by simp) ?_
            refine AllReady.cons rfl (fun K hK => ?_) AllReady.nil
            go_wp2
            refine wpAny_done (by kernel_rfl) ?_ _
            go_upto_region 26 with (fail)
            refine wp_world (fun W => Ext w W ∧ RowAt W (w.heap.size + 1 + 1) (entC noEn) ∧ RowAt W (w.heap.size + 1 + 1 + 1) (entC { R.e with hv := .slice A6 R.l.length c6 }) ∧ OwnOr (w.heap.size + 1 + 1 + 1 + 1) W A6 c6 R.l) ⟨?_, ?_, ?_, ?_⟩ ?_
            · exact (hxw.trans HX9.out).setCells (by omega) _ _
            · exact (HR2w.out.ext HX9.out).others (by omega) _ _
            · exact (HR3w.out.ext HX9.out).store (by rw [ent_size, ent_size])
            · exact HOr.out.others (by omega) _ _
            rintro W7 ⟨x7, r2, r3, ho7⟩
            have HX7 := Lib.hid x7
            have HR7 := Lib.hid r2
            have HO7 := Lib.hid ho7
            have rowR : rowOf W7 (w.heap.size + 1 + 1 + 1) 0 45 = some (entC { R.e with hv := .slice A6 R.l.length c6 }) := r3.all (ent_size _).symm (by omega)
            have room2 : roomOf W7 (w.heap.size + 1 + 1) 0 45 = true := by rw [r2.room, ent_size]; rfl
            have hl2' := r2.lt
            have hl3' := r3.lt
            clear x7 r2 r3 ho7 room3 HX9 HOr
            go_wp2
            have hx : Ext w (W7.setCells (w.heap.size + 1 + 1) 0 (entC { R.e with hv := .slice A6 R.l.length c6 }).toList) := HX7.out.setCells (by omega) _ _
            have ho : OwnOr (w.heap.size + 1 + 1 + 1 + 1) (W7.setCells (w.heap.size + 1 + 1) 0 (entC { R.e with hv := .slice A6 R.l.length c6 }).toList) A6 c6 R.l := HO7.out.others (by omega) _ _
            have hs := HSS.out
            have hm := HM.out
            rw [← HOe.out] at hm
            refine post_two (v1 := .agg (entC { R.e with hv := .slice A6 R.l.length c6 })) (v2 := .int .i64 0) Tryz.results30 rfl ⟨_, rfl, ent_loaded (row_stored HR7.out (ent_size _) (ent_size _))⟩ rfl ⟨A6, c6, ?_, ho.plain, ho.none0, ?_, hx⟩
            · rw [hm, hs.1, hs.2.2]
            · rw [hm, ← hs.1]; exact ho.reads
theorem emerge_any (a b : En) (A B : Option Addr) (ca cb : Nat) (la lb : List Sp) (w : World) (ha : VIn a A ca la w) (hb : VIn b B cb lb w) (hk : Konst 0 w) :
    Calls Tryz.prog 30 #[.agg (entC a), .agg (entC b)] w fun e' w' => PutIs (mergeN a b la lb) e' w w' := by
  by_cases h : a.st.addr = b.st.addr ∧ a.st.var = b.st.var
  · by_cases h1 : cmpN a.st b.st < 0
    · exact emerge_lt a b A B ca cb la lb w ha hb h hk h1
    · by_cases h2 : cmpN a.st b.st = 0
      · cases hso : a.soft with
        | true => exact emerge_eqt a b A B ca cb la lb w ha hb h hk h2 hso
        | false => exact emerge_eqf a b A B ca cb la lb w ha hb h hk h2 hso
      · exact emerge_gt a b A B ca cb la lb w ha hb h hk (by omega)
  · refine (emerge_name a b A B ca cb la lb w ha hb h).mono ?_
    rintro e' w' ⟨rfl, hx⟩
    have hm : mergeN a b la lb = ⟨noEn, [], 5⟩ := by rw [mergeN, if_pos h]
    rw [hm]
    exact ⟨none, 0, rfl, plainA_none, fun _ => rfl, Reads.nil _ _ _ _ _, hx⟩
end Go.Proofs.YtpjacgcaibaggaaGreatDoor
