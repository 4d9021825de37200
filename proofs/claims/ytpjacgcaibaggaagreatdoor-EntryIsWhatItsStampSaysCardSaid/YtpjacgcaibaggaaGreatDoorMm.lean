/- Walks of entries: the program's Valid. -/
import Derived.Test.YtpjacgcaibaggaaGreatDoorProg
import Derived.Test.YtpjacgcaibaggaaGreatDoorExt
import Derived.WalkKit
import Derived.WalkSpells
import Derived.WalkLawsBesides
import Derived.Deep.QuietTactic
import Derived.BigQuiet
import Derived.Test.YtpjacgcaibaggaaGreatDoorMs
import Derived.Test.YtpjacgcaibaggaaGreatDoorSoft
import Derived.Test.YtpjacgcaibaggaaGreatDoorMc
import Derived.Test.YtpjacgcaibaggaaGreatDoorMi
import Derived.Lib.ConvBytes
import Derived.Test.YtpjacgcaibaggaaGreatDoorLt
set_option linter.unusedVariables false
set_option linter.unusedSimpArgs false
namespace Go.Proofs.YtpjacgcaibaggaaGreatDoor
open Go.RowKit Go.Shelf
open Go.Proofs
open Go.Proofs.Sp (Sp)

def goodP (s : Sp) : Bool := decide (0 ≤ s.1) && decide (s.1 < s.2) && decide (s.2 ≤ 1099511627776)
theorem okAt_good {l : List Sp} {i : Nat} (hi : i < l.length) : okAt l i = (goodP l[i] && !(decide (l[i].1 ≤ if i = 0 then -1 else (l.getD (i - 1) (0, 0)).2))) := by
  rw [Bool.eq_iff_iff, okAt_iff, getD_at hi]
  simp only [goodP, Bool.and_eq_true, decide_eq_true_eq, Bool.not_eq_true', decide_eq_false_iff_not]
  by_cases h0 : i = 0
  · rw [if_pos h0]; omega
  · rw [if_neg h0]; omega
/-! ### Trim -/
end Go.Proofs.YtpjacgcaibaggaaGreatDoor

namespace Go.Proofs.YtpjacgcaibaggaaGreatDoor
open Go.RowKit

def softE (l : List Oper) (n : Nat) : Bool :=
  decide (n = l.length) && Region.seqB .any l.toArray (l.length - n) n (fullL l.length n) &&
  ((List.range n).all fun i => (depsOf l i).all (fun j => decide (j < i))) &&
  ((List.range n).all fun i => (List.range n).all fun j => decide (j = i) || decide (dstOf l j ≠ dstOf l i) || decide (dstOf l j = none))
section
variable {P : Program} {id : Nat} {Q : Exit → Act → World → Prop} {a0 : Act} {w0 : World} {l : List Oper}
theorem wpAny_softE {n : Nat} (L : Nat → Soft) (hB : softE l n = true)
    (hop : ∀ i, i < n → ∀ o, l[i]? = some o → ∀ xs w, Ext w0 w → (∀ j, j ∈ depsOf l i → (L j).S (xs j) w) → ∀ Q' : Exit → Act → World → Prop, (∀ v w', Ext w w' → (L i).S v w' → Q' .normal ((fillAt l a0 xs n).put o.dst v) w') → wpList P l.toArray Q' [o] (fillAt l a0 xs n) w)
    (hend : ∀ xs w, Ext w0 w → (∀ i, i < n → (L i).S (xs i) w) → wpList P l.toArray Q (l.drop n) (fillAt l a0 xs n) w) :
    ∀ (f : Nat) (listed : Array Bool) (xs : Nat → Value) (w : World), HeadInv .any l.toArray n listed → cntU listed n = f → Ext w0 w → (∀ i, i < n → listed.getD i false = true → (L i).S (xs i) w) →
      wpAny P .any l.toArray Q (f + (l.length - n)) listed (fillAt l a0 xs n) w := by
  simp only [softE, Bool.and_eq_true, decide_eq_true_eq, List.all_eq_true, List.mem_range, Bool.or_eq_true] at hB
  obtain ⟨⟨⟨hn, hseq⟩, hdeps⟩, hdst⟩ := hB
  have hn' : n = l.toArray.size := by simpa using hn
  have hn2 : l.toArray.size = l.length := by simp
  intro f
  induction f with
  | zero =>
    intro listed xs w inv hcnt hx hS
    have hall := cnt_zero n hcnt
    have he : listed = fullL l.length n := by
      have hsz := inv.size
      apply Array.ext (by rw [hsz]; simp [fullL])
      intro i h1 h2
      have hil : i < l.length := by rw [hsz] at h1; simpa using h1
      have e2 : (fullL l.length n)[i] = decide (i < n) := by simp [fullL]
      rw [e2]
      by_cases hi : i < n
      · have := hall i hi
        simp [h1] at this
        rw [this]; simp [hi]
      · have := inv.tail i (by omega) (by simpa using hil)
        simp [h1] at this
        rw [this]; simp [hi]
    rw [Nat.zero_add]
    have hdl : (l.drop n).length = l.length - n := by simp
    have := wpAny_of_seq (md := .any) (P := P) (ops := l.toArray) (Q' := Q) (l.drop n) n listed (fillAt l a0 xs n) w (fun j => by simp [List.getElem?_drop]) (by rw [hdl, he]; exact hseq) (hend xs w hx (fun i hi => hS i hi (hall i hi)))
    rwa [hdl] at this
  | succ f ih =>
    intro listed xs w inv hcnt hx hS
    obtain ⟨i0, hi0, hu0, hmin⟩ := cnt_pos n (by omega : 0 < cntU listed n)
    have hi0s : i0 < listed.size := by rw [inv.size]; omega
    have hu0' := getD_in hi0s hu0
    have hl0 : i0 < l.length := by omega
    have hready : i0 ∈ Region.ready .any l.toArray listed := by
      refine mem_ready.2 ⟨hu0', l[i0], by simp [hl0], fun e he hb => ?_⟩
      have hd : e.on ∈ depsOf l i0 := by
        simp only [depsOf, List.getElem?_eq_getElem hl0, Option.map_some, Option.getD_some, List.mem_map, List.mem_filter]
        exact ⟨e, ⟨by simpa using he, hb⟩, rfl⟩
      exact hmin _ (hdeps i0 hi0 _ hd)
    rw [show f + 1 + (l.length - n) = (f + (l.length - n)) + 1 by omega]
    refine ⟨fun h0 => (by rw [h0] at hready; cases hready), fun i hi => ?_⟩
    have hin : i < n := by
      rcases Nat.lt_or_ge i n with h | h
      · exact h
      · have hisz : i < l.toArray.size := by
          obtain ⟨_, o, ho, _⟩ := mem_ready.1 hi
          exact (Array.getElem?_eq_some_iff.1 ho).1
        exfalso; omega
    obtain ⟨hun, o, ho, hall⟩ := mem_ready.1 hi
    have ho' : l[i]? = some o := by simpa using ho
    have hu := getD_both hun
    refine wpOp_of_one ho ?_
    refine hop i hin o ho' xs w hx (fun j hj => ?_) _ (fun v w' hx' hv => ?_)
    · have hji := hdeps i hin j hj
      refine hS j (by omega) ?_
      simp only [depsOf, ho', Option.map_some, Option.getD_some, List.mem_map, List.mem_filter] at hj
      obtain ⟨e, ⟨he, hb⟩, rfl⟩ := hj
      exact hall e (by simpa using he) hb
    · show wpAny P .any l.toArray Q (f + (l.length - n)) (listed.setIfInBounds i true) _ w'
      have ed : o.dst = dstOf l i := by simp [dstOf, ho']
      rw [ed, fill_put n hin (fun j hj hji => by
        rcases hdst i hin j hj with (h | h) | h
        · exact absurd h hji
        · exact .inl h
        · exact .inr h)]
      refine ih _ _ w' (inv.set hi hin) (by have := cnt_set (by rw [inv.size]; omega) hu n hin; omega) (hx.trans hx') (fun j hj hlj => ?_)
      by_cases e : j = i
      · subst e
        have : updAt xs j v j = v := by simp [updAt]
        rw [this]
        exact hv
      · have : updAt xs i v j = xs j := by simp [updAt, e]
        rw [this]
        rw [getD_set_ne false (Ne.symm e)] at hlj
        exact (L j).on _ _ _ (hS j hj hlj) hx'

/-- THE LAW. -/
theorem wp_region_softE (n : Nat) (L : Nat → Soft) (hm : P.follows .mixedOrders = true) (hB : softE l n = true)
    (hop : ∀ i, i < n → ∀ o, l[i]? = some o → ∀ xs w, Ext w0 w → (∀ j, j ∈ depsOf l i → (L j).S (xs j) w) → ∀ Q' : Exit → Act → World → Prop, (∀ v w', Ext w w' → (L i).S v w' → Q' .normal ((fillAt l a0 xs n).put o.dst v) w') → wpList P l.toArray Q' [o] (fillAt l a0 xs n) w)
    (hend : ∀ xs w, Ext w0 w → (∀ i, i < n → (L i).S (xs i) w) → wpList P l.toArray Q (l.drop n) (fillAt l a0 xs n) w) : (Code.region id l.toArray true).wp P Q a0 w0 := by
  refine wp_region_any hm ?_
  have hn : n = l.length := by
    simp only [softE, Bool.and_eq_true, decide_eq_true_eq] at hB
    exact hB.1.1.1
  have inv0 : HeadInv .any l.toArray n (Array.replicate l.toArray.size false) :=
    ⟨by simp, fun j oj _ hl => (by rw [getD_replicate_false] at hl; cases hl), fun t _ ht => getD_in (by simpa using ht) (getD_replicate_false _ _)⟩
  have hc0 : ∀ m, cntU (Array.replicate l.toArray.size false) m = m := by
    intro m
    induction m with
    | zero => rfl
    | succ m ih => rw [cntU, ih, getD_replicate_false]; rfl
  have := wpAny_softE (P := P) (Q := Q) (a0 := a0) (w0 := w0) L hB hop hend n _ (fun i => ((dstOf l i).map fun t => a0.tmps.getD t undef).getD undef) { w0 with drawn := w0.drawn + 1 } inv0 (hc0 n) (Ext.drew (Ext.refl w0)) (fun i _ hl => (by rw [getD_replicate_false] at hl; cases hl))
  rw [fill_self] at this
  have e : n + (l.length - n) = l.toArray.size := by simp; omega
  rwa [e] at this
end
end Go.Proofs.YtpjacgcaibaggaaGreatDoor

namespace Go.Proofs.YtpjacgcaibaggaaGreatDoor
open Go.RowKit Go.Shelf
open Go.Proofs
open Go.Proofs.Sp (Sp)

theorem copy_none (b : Nat) (more : ByteArray) (W : World) : (Builtin.copy_ #[118, 9] 3 #[.slice (some ⟨b, 0, none⟩) 0 0, .string more]).run Tryz.prog W = .ok (.int .i64 0) W := by
  have h := run_copy_str (P := Tryz.prog) W 118 9 3 5 b 0 0 0 more (by kernel_rfl) u8_size (by rw [Nat.min_zero]; simp [roomOf])
  rw [Nat.min_zero, List.take_zero] at h
  exact h
set_option maxRecDepth 100000 in
set_option maxHeartbeats 2000000 in
theorem put_any0 (e : En) (A : Option Addr) (c : Nat) (l : List Sp) (f : Nat) (more : ByteArray) (w : World) (RS : Soft) (N : Int) (hv : e.hv = .slice A l.length c) (hw : e.whole = false) (hm0 : more.size = 0) (h2 : (f : Int) + more.size ≤ e.st.size) (h3 : e.st.size ≤ 65536) (hb : (e.bytes.size : Int) = e.st.size)
    (hA : plainA A) (hbd : bdSp l) (hlen : l.length * 16 ≤ 140737488350000) (hr : ReadsSp w w.heap.size A l) (hRS2 : ∀ v W m vs, m < w.heap.size + 2 → RS.S v W → RS.S v (W.setCells m 0 vs)) (hRS : ∀ v W, RS.S v W → ∃ x, v = .agg (entC x) ∧ fitsRow 45 (entC x) = true)
    (HSet : ∀ (A' : Option Addr) (c' : Nat) (out : List Sp) (Ab : Option Addr) (cb : Nat) (W : World), Ext w W → (∃ srt, SortedOf (l ++ [((f : Int), (f : Int) + more.size)]) srt ∧ out = Sp.joined srt) → out.length ≤ l.length + 1 → OwnsSp (w.heap.size + 2) W A' c' out → ReadsB W W.heap.size Ab (Sha.over (bts e.bytes) f (bts more)) →
      Calls Tryz.prog 63 #[.agg (entC e), .slice A' out.length c', .slice Ab (Sha.over (bts e.bytes) f (bts more)).length cb] W fun e' w' => ∃ v, e' = .returned (.tuple #[v, .int .i64 N]) ∧ RS.S v w' ∧ Ext W w') :
    Calls Tryz.prog 28 #[.agg (entC e), .int .i64 f, .string more] w fun e' w' => ∃ v, e' = .returned (.tuple #[v, .int .i64 N]) ∧ RS.S v w' ∧ Ext w w' := by
  have hc44 : (entC e)[44]? = some (.bool false) := by rw [ent_g44, hw]
  have hc42 : (entC e)[42]? = some (.slice A l.length c) := by rw [ent_g42, hv]
  have HA := Lib.hid hA
  have HBd := Lib.hid hbd
  have HR := Lib.hid hr
  have HRS := Lib.hid hRS
  have HRS2 := Lib.hid hRS2
  have HS := Lib.hid HSet
  have HV := Lib.hid hv
  have d1 : decide ((f : Int) < 0) = false := by simp <;> omega
  have d2 : decide (e.st.size < (f : Int)) = false := by simp <;> omega
  have d3 : decide (e.st.size - (f : Int) < (more.size : Int)) = false := by simp <;> omega
  clear hA hbd hr hRS hRS2 HSet hv hw
  go_enter Tryz.func28, Tryz.ntmps28
  go_wp2
  rw [strConv]
  have hx0 : Ext w (Lib.bytesWorld ((w.alloc (.cells (entC e) 58)).alloc (.cells (entC noEn) 58)) 5 e.bytes) := (((Ext.refl w).alloc _).alloc _).trans (ext_bytes _ _ _)
  have hba : ByteAt (Lib.bytesWorld ((w.alloc (.cells (entC e) 58)).alloc (.cells (entC noEn) 58)) 5 e.bytes) (w.heap.size + 2) (bts e.bytes) := by
    have := bytes_at ((w.alloc (.cells (entC e) 58)).alloc (.cells (entC noEn) 58)) 5 e.bytes
    rw [World.size_alloc, World.size_alloc] at this
    exact this
  have hr1 : RowAt (Lib.bytesWorld ((w.alloc (.cells (entC e) 58)).alloc (.cells (entC noEn) 58)) 5 e.bytes) w.heap.size (entC e) := ((RowAt.new w (entC e) 58).alloc _).ext (ext_bytes _ _ _)
  have hr2 : RowAt (Lib.bytesWorld ((w.alloc (.cells (entC e) 58)).alloc (.cells (entC noEn) 58)) 5 e.bytes) (w.heap.size + 1) (entC noEn) := (RowAt.newAt (w := w.alloc (.cells (entC e) 58)) (by simp)).ext (ext_bytes _ _ _)
  have hge := grownCap_ge ((w.alloc (.cells (entC e) 58)).alloc (.cells (entC noEn) 58)) e.bytes.size 0 5
  generalize grownCap ((w.alloc (.cells (entC e) 58)).alloc (.cells (entC noEn) 58)) e.bytes.size 0 5 = cap at *
  generalize Lib.bytesWorld ((w.alloc (.cells (entC e) 58)).alloc (.cells (entC noEn) 58)) 5 e.bytes = W at *
  have hbl : (bts e.bytes).length = e.bytes.size := bts_length _
  have hml : (bts more).length = more.size := bts_length _
  have hroom : roomOf W (w.heap.size + 2) f more.size = true := hba.room f more.size (by omega)
  have HX0 := Lib.hid hx0
  have HBA := Lib.hid hba
  have HR1 := Lib.hid hr1
  have HR2 := Lib.hid hr2
  have hov : Sha.over (bts e.bytes) f (bts more) = bts e.bytes := by
    have : bts more = [] := List.eq_nil_of_length_eq_zero (by omega)
    rw [this]
    simp [Sha.over]
  have hq1 : f + more.size ≤ cap := by omega
  have HX0 := Lib.hid hx0
  have HBA := Lib.hid hba
  have HR1 := Lib.hid hr1
  have HR2 := Lib.hid hr2
  have HOv := Lib.hid hov
  clear hx0 hba hr1 hr2 d1 d2 d3 hov
  go_wp2
  rw [copy_none]
  have hxa := HX0.out
  have hbb : ByteAt W (w.heap.size + 2) (Sha.over (bts e.bytes) f (bts more)) := by rw [HOv.out]; exact HBA.out
  have hra := HR1.out
  have hrb := HR2.out
  have HM0 := Lib.hid hm0
  clear HOv hm0
  generalize W = W2 at *
  have hol : (Sha.over (bts e.bytes) f (bts more)).length = e.bytes.size := by rw [over_len (by omega), bts_length]
  have HOl := Lib.hid hol
  have hrow : rowOf W2 w.heap.size 0 45 = some (entC e) := hra.all (ent_size e).symm (by omega)
  have hroom2 : roomOf W2 (w.heap.size + 1) 0 45 = true := by rw [hrb.room]; rfl
  have hca : W2.cell? ⟨w.heap.size, 42, none⟩ = some (.slice A l.length c) := (hra.cell 42).trans hc42
  have hl1 := hra.lt
  have hl2 := hrb.lt
  have HX := Lib.hid hxa
  have HBB := Lib.hid hbb
  have HRb := Lib.hid hrb
  clear hxa hbb hra hrb HX0 HBA HR1 HR2 hroom hol hc42 hc44
  go_wp2
  refine wp_region_soft 14 (putSoft e A c l f more (f + more.size) w.heap.size (.slice (some ⟨w.heap.size + 1 + 1, 0, none⟩) e.bytes.size cap) (fun out => (∃ srt, SortedOf (l ++ [((f : Int), (f : Int) + more.size)]) srt ∧ out = Sp.joined srt) ∧ out.length ≤ l.length + 1) RS N) (by kernel_rfl) (by kernel_rfl) (lt_cons ?_ (lt_cons ?_ (lt_cons ?_ (lt_cons ?_ (lt_cons ?_ (lt_cons ?_ (lt_cons ?_ (lt_cons ?_ (lt_cons ?_ (lt_cons ?_ (lt_cons ?_ (lt_cons ?_ (lt_cons ?_ (lt_cons ?_ lt_none)))))))))))))) ?_
  · intro o ho xs W hW hd Q' hQ; obtain rfl := Option.some.inj ho; clear ho; simp only [fillAt, dstOf, List.getElem?_cons_zero, List.getElem?_cons_succ, Option.bind_some, Act.put, List.setIfInBounds_toArray, List.set_cons_zero, List.set_cons_succ, Nat.zero_add, Nat.reduceAdd] at hQ ⊢; have HQ := Lib.hid hQ; have HD := Lib.hid hd; have HW := Lib.hid hW; have hsW := hW.size; clear hQ hd hW
    have hrow0 : rowOf W w.heap.size 0 45 = some (entC e) := by rw [rowOf_congr (w := W2) (fun i _ => HW.out.cell (p := ⟨w.heap.size, 0 + i, none⟩) hl1)]; exact hrow
    go_wp2
    exact HQ.out _ _ (Ext.refl _) rfl
  · intro o ho xs W hW hd Q' hQ; obtain rfl := Option.some.inj ho; clear ho; simp only [fillAt, dstOf, List.getElem?_cons_zero, List.getElem?_cons_succ, Option.bind_some, Act.put, List.setIfInBounds_toArray, List.set_cons_zero, List.set_cons_succ, Nat.zero_add, Nat.reduceAdd] at hQ ⊢; have HQ := Lib.hid hQ; have HD := Lib.hid hd; have HW := Lib.hid hW; have hsW := hW.size; clear hQ hd hW
    go_wp2
    exact HQ.out _ _ (Ext.refl _) rfl
  · intro o ho xs W hW hd Q' hQ; obtain rfl := Option.some.inj ho; clear ho; simp only [fillAt, dstOf, List.getElem?_cons_zero, List.getElem?_cons_succ, Option.bind_some, Act.put, List.setIfInBounds_toArray, List.set_cons_zero, List.set_cons_succ, Nat.zero_add, Nat.reduceAdd] at hQ ⊢; have HQ := Lib.hid hQ; have HD := Lib.hid hd; have HW := Lib.hid hW; have hsW := hW.size; clear hQ hd hW
    have h1 : xs 1 = .pointer (some ⟨w.heap.size, 42, none⟩) := (HD.out 1 (of_decide_eq_true (by kernel_rfl)))
    generalize xs 1 = x1 at h1 HQ ⊢; subst h1
    have hca0 : W.cell? ⟨w.heap.size, 42, none⟩ = some (.slice A l.length c) := (HW.out.cell (p := ⟨w.heap.size, 42, none⟩) hl1).trans hca
    go_wp2
    exact HQ.out _ _ (Ext.refl _) rfl
  · intro o ho xs W hW hd Q' hQ; obtain rfl := Option.some.inj ho; clear ho; simp only [fillAt, dstOf, List.getElem?_cons_zero, List.getElem?_cons_succ, Option.bind_some, Act.put, List.setIfInBounds_toArray, List.set_cons_zero, List.set_cons_succ, Nat.zero_add, Nat.reduceAdd] at hQ ⊢; have HQ := Lib.hid hQ; have HD := Lib.hid hd; have HW := Lib.hid hW; have hsW := hW.size; clear hQ hd hW
    go_wp2
    exact HQ.out _ _ (Ext.refl _) rfl
  · intro o ho xs W hW hd Q' hQ; obtain rfl := Option.some.inj ho; clear ho; simp only [fillAt, dstOf, List.getElem?_cons_zero, List.getElem?_cons_succ, Option.bind_some, Act.put, List.setIfInBounds_toArray, List.set_cons_zero, List.set_cons_succ, Nat.zero_add, Nat.reduceAdd] at hQ ⊢; have HQ := Lib.hid hQ; have HD := Lib.hid hd; have HW := Lib.hid hW; have hsW := hW.size; clear hQ hd hW
    go_wp2
    exact HQ.out _ _ (Ext.refl _) rfl
  · intro o ho xs W hW hd Q' hQ; obtain rfl := Option.some.inj ho; clear ho; simp only [fillAt, dstOf, List.getElem?_cons_zero, List.getElem?_cons_succ, Option.bind_some, Act.put, List.setIfInBounds_toArray, List.set_cons_zero, List.set_cons_succ, Nat.zero_add, Nat.reduceAdd] at hQ ⊢; have HQ := Lib.hid hQ; have HD := Lib.hid hd; have HW := Lib.hid hW; have hsW := hW.size; clear hQ hd hW
    go_wp2
    exact HQ.out _ _ (Ext.refl _) rfl
  · intro o ho xs W hW hd Q' hQ; obtain rfl := Option.some.inj ho; clear ho; simp only [fillAt, dstOf, List.getElem?_cons_zero, List.getElem?_cons_succ, Option.bind_some, Act.put, List.setIfInBounds_toArray, List.set_cons_zero, List.set_cons_succ, Nat.zero_add, Nat.reduceAdd] at hQ ⊢; have HQ := Lib.hid hQ; have HD := Lib.hid hd; have HW := Lib.hid hW; have hsW := hW.size; clear hQ hd hW
    have h5 : xs 5 = .string more := (HD.out 5 (of_decide_eq_true (by kernel_rfl)))
    generalize xs 5 = x5 at h5 HQ ⊢; subst h5
    go_wp2
    exact HQ.out _ _ (Ext.refl _) rfl
  · intro o ho xs W hW hd Q' hQ; obtain rfl := Option.some.inj ho; clear ho; simp only [fillAt, dstOf, List.getElem?_cons_zero, List.getElem?_cons_succ, Option.bind_some, Act.put, List.setIfInBounds_toArray, List.set_cons_zero, List.set_cons_succ, Nat.zero_add, Nat.reduceAdd] at hQ ⊢; have HQ := Lib.hid hQ; have HD := Lib.hid hd; have HW := Lib.hid hW; have hsW := hW.size; clear hQ hd hW
    have h4 : xs 4 = .int .i64 (f : Int) := (HD.out 4 (of_decide_eq_true (by kernel_rfl)))
    generalize xs 4 = x4 at h4 HQ ⊢; subst h4
    have h6 : xs 6 = .int .i64 (more.size : Int) := (HD.out 6 (of_decide_eq_true (by kernel_rfl)))
    generalize xs 6 = x6 at h6 HQ ⊢; subst h6
    go_wp2
    exact HQ.out _ _ (Ext.refl _) rfl
  · intro o ho xs W hW hd Q' hQ; obtain rfl := Option.some.inj ho; clear ho; simp only [fillAt, dstOf, List.getElem?_cons_zero, List.getElem?_cons_succ, Option.bind_some, Act.put, List.setIfInBounds_toArray, List.set_cons_zero, List.set_cons_succ, Nat.zero_add, Nat.reduceAdd] at hQ ⊢; have HQ := Lib.hid hQ; have HD := Lib.hid hd; have HW := Lib.hid hW; have hsW := hW.size; clear hQ hd hW
    have h3 : xs 3 = .int .i64 (f : Int) := (HD.out 3 (of_decide_eq_true (by kernel_rfl)))
    generalize xs 3 = x3 at h3 HQ ⊢; subst h3
    have h7 : xs 7 = .int .i64 ((f : Int) + more.size) := (HD.out 7 (of_decide_eq_true (by kernel_rfl)))
    generalize xs 7 = x7 at h7 HQ ⊢; subst h7
    go_wp2
    exact HQ.out _ _ (Ext.refl _) rfl
  · intro o ho xs W hW hd Q' hQ; obtain rfl := Option.some.inj ho; clear ho; simp only [fillAt, dstOf, List.getElem?_cons_zero, List.getElem?_cons_succ, Option.bind_some, Act.put, List.setIfInBounds_toArray, List.set_cons_zero, List.set_cons_succ, Nat.zero_add, Nat.reduceAdd] at hQ ⊢; have HQ := Lib.hid hQ; have HD := Lib.hid hd; have HW := Lib.hid hW; have hsW := hW.size; clear hQ hd hW
    have h2 : xs 2 = .slice A l.length c := (HD.out 2 (of_decide_eq_true (by kernel_rfl)))
    generalize xs 2 = x2 at h2 HQ ⊢; subst h2
    have h8 : xs 8 = .agg #[.int .i64 (f : Int), .int .i64 ((f : Int) + more.size)] := (HD.out 8 (of_decide_eq_true (by kernel_rfl)))
    generalize xs 8 = x8 at h8 HQ ⊢; subst h8
    go_wp2_with (go_at_call 64; refine (add_any A c l ((f : Int), (f : Int) + more.size) _ HA.out (fun s hs => by
        rcases List.mem_append.1 hs with hs | hs
        · exact HBd.out s hs
        · simp at hs; subst hs; exact ⟨by show (-4611686018427387904 : Int) ≤ f; omega, by show (f : Int) ≤ _; omega⟩) (by omega) (HR.out.on (HX.out.trans HW.out))).mono ?_; rintro e' w1 ⟨A', c', out, rfl, HSo, hol', ho, hx⟩)
    exact HQ.out _ _ hx ⟨A', c', out, rfl, ⟨HSo.out, hol'⟩, ho.lower (by have := HBB.out.1; have := HW.out.size; omega)⟩
  · intro o ho xs W hW hd Q' hQ; obtain rfl := Option.some.inj ho; clear ho; simp only [fillAt, dstOf, List.getElem?_cons_zero, List.getElem?_cons_succ, Option.bind_some, Act.put, List.setIfInBounds_toArray, List.set_cons_zero, List.set_cons_succ, Nat.zero_add, Nat.reduceAdd] at hQ ⊢; have HQ := Lib.hid hQ; have HD := Lib.hid hd; have HW := Lib.hid hW; have hsW := hW.size; clear hQ hd hW
    go_wp2
    exact HQ.out _ _ (Ext.refl _) rfl
  · intro o ho xs W hW hd Q' hQ; obtain rfl := Option.some.inj ho; clear ho; simp only [fillAt, dstOf, List.getElem?_cons_zero, List.getElem?_cons_succ, Option.bind_some, Act.put, List.setIfInBounds_toArray, List.set_cons_zero, List.set_cons_succ, Nat.zero_add, Nat.reduceAdd] at hQ ⊢; have HQ := Lib.hid hQ; have HD := Lib.hid hd; have HW := Lib.hid hW; have hsW := hW.size; clear hQ hd hW
    have h0 : xs 0 = .agg (entC e) := (HD.out 0 (of_decide_eq_true (by kernel_rfl)))
    obtain ⟨A', c', out, h9, ⟨hp1, hp2⟩, ho⟩ : ∃ (A' : Option Addr) (c' : Nat) (out : List Sp), xs 9 = .slice A' out.length c' ∧ ((∃ srt, SortedOf (l ++ [((f : Int), (f : Int) + more.size)]) srt ∧ out = Sp.joined srt) ∧ out.length ≤ l.length + 1) ∧ OwnsSp (w.heap.size + 2) W A' c' out := (HD.out 9 (of_decide_eq_true (by kernel_rfl)))
    have h10 : xs 10 = .slice (some ⟨w.heap.size + 1 + 1, 0, none⟩) e.bytes.size cap := (HD.out 10 (of_decide_eq_true (by kernel_rfl)))
    generalize xs 0 = x0 at h0 HQ ⊢; subst h0
    generalize xs 9 = x9 at h9 HQ ⊢; subst h9
    generalize xs 10 = x10 at h10 HQ ⊢; subst h10
    have HP1 := Lib.hid hp1
    have HO := Lib.hid ho
    clear hp1 ho
    go_wp2_with (go_at_call 63; rw [← HOl.out]; refine (HS.out A' c' out (some ⟨w.heap.size + 1 + 1, 0, none⟩) cap _ (HX.out.trans HW.out) HP1.out hp2 HO.out ((HBB.out.ext HW.out).reads)).mono ?_; rintro e' w1 ⟨v, rfl, hrs, hx⟩)
    rw [HOl.out]
    exact HQ.out _ _ hx ⟨v, rfl, hrs⟩
  · intro o ho xs W hW hd Q' hQ; obtain rfl := Option.some.inj ho; clear ho; simp only [fillAt, dstOf, List.getElem?_cons_zero, List.getElem?_cons_succ, Option.bind_some, Act.put, List.setIfInBounds_toArray, List.set_cons_zero, List.set_cons_succ, Nat.zero_add, Nat.reduceAdd] at hQ ⊢; have HQ := Lib.hid hQ; have HD := Lib.hid hd; have HW := Lib.hid hW; have hsW := hW.size; clear hQ hd hW
    obtain ⟨u, h11, hu⟩ : ∃ u, xs 11 = .tuple #[u, .int .i64 N] ∧ RS.S u W := (HD.out 11 (of_decide_eq_true (by kernel_rfl)))
    generalize xs 11 = x11 at h11 HQ ⊢; subst h11
    go_wp2
    exact HQ.out _ _ (Ext.refl _) hu
  · intro o ho xs W hW hd Q' hQ; obtain rfl := Option.some.inj ho; clear ho; simp only [fillAt, dstOf, List.getElem?_cons_zero, List.getElem?_cons_succ, Option.bind_some, Act.put, List.setIfInBounds_toArray, List.set_cons_zero, List.set_cons_succ, Nat.zero_add, Nat.reduceAdd] at hQ ⊢; have HQ := Lib.hid hQ; have HD := Lib.hid hd; have HW := Lib.hid hW; have hsW := hW.size; clear hQ hd hW
    obtain ⟨u, h11, hu⟩ : ∃ u, xs 11 = .tuple #[u, .int .i64 N] ∧ RS.S u W := (HD.out 11 (of_decide_eq_true (by kernel_rfl)))
    generalize xs 11 = x11 at h11 HQ ⊢; subst h11
    go_wp2
    exact HQ.out _ _ (Ext.refl _) rfl
  · intro xs W hW hS
    have h12 : RS.S (xs 12) W := hS 12 (by omega)
    have h13 : xs 13 = .int .i64 N := hS 13 (by omega)
    obtain ⟨x, hx, hf⟩ := HRS.out _ _ h12
    simp only [fillAt, dstOf, List.getElem?_cons_zero, List.getElem?_cons_succ, Option.bind_some, Act.put, List.setIfInBounds_toArray, List.set_cons_zero, List.set_cons_succ, Nat.zero_add, Nat.reduceAdd, List.drop_succ_cons, List.drop_zero]
    generalize xs 12 = x12 at *; subst hx
    generalize xs 13 = x13 at *; subst h13
    have H12 := Lib.hid h12
    have HW := Lib.hid hW
    have hrr : RowAt W (w.heap.size + 1) (entC noEn) := HRb.out.ext hW
    have hroom3 : roomOf W (w.heap.size + 1) 0 45 = true := by rw [hrr.room]; rfl
    have HRR := Lib.hid hrr
    clear h12 hW hS hrr
    go_wp2
    refine post_two (v1 := .agg (entC x)) (v2 := .int .i64 N) Tryz.results28 rfl ⟨_, rfl, ent_loaded (row_stored HRR.out (ent_size _) (ent_size _))⟩ rfl ⟨_, rfl, HRS2.out _ _ _ _ (by omega) H12.out, (HX.out.trans HW.out).setCells (by omega) _ _⟩

/-- What the program's Put returns. -/
def PutIs (r : Res) (e' : Ending) (w w' : World) : Prop := ∃ A c, e' = .returned (.tuple #[.agg (entC { r.e with hv := .slice A r.l.length c }), .int .i64 r.n]) ∧ plainA A ∧ (A = none → c = 0) ∧ ReadsSp w' w'.heap.size A r.l ∧ Ext w w'
theorem plain_none : plainA none := fun a h => (by cases h)
def OwnOr (base : Nat) (w : World) (A : Option Addr) (c : Nat) (l : List Sp) : Prop := A = none ∧ c = 0 ∧ l = [] ∨ OwnsSp base w A c l
/-- The same, and the spans lie where they lay, or in new memory. -/
def PutFar (A0 : Option Addr) (r : Res) (e' : Ending) (w w' : World) : Prop := ∃ A c, e' = .returned (.tuple #[.agg (entC { r.e with hv := .slice A r.l.length c }), .int .i64 r.n]) ∧ plainA A ∧ (A = none → c = 0) ∧ ReadsSp w' w'.heap.size A r.l ∧ (∀ a, A = some a → A0 = some a ∨ w.heap.size ≤ a.block) ∧ Ext w w'
theorem OwnOr.far {base : Nat} {w : World} {A : Option Addr} {c : Nat} {l : List Sp} (h : OwnOr base w A c l) {a : Addr} (ha : A = some a) : base ≤ a.block := by
  rcases h with ⟨h, _⟩ | h
  · rw [h] at ha; cases ha
  · rcases Owns.cases h with ⟨h, _⟩ | ⟨g, cur, h1, h2, _⟩
    · rw [h] at ha; cases ha
    · rw [h1] at ha
      cases ha
      exact h2
theorem OwnOr.plain {base : Nat} {w : World} {A : Option Addr} {c : Nat} {l : List Sp} (h : OwnOr base w A c l) : plainA A := by
  rcases h with ⟨rfl, _⟩ | h
  · exact plain_none
  · exact OwnsSp.plain h
theorem OwnOr.none0 {base : Nat} {w : World} {A : Option Addr} {c : Nat} {l : List Sp} (h : OwnOr base w A c l) : A = none → c = 0 := by
  rcases h with ⟨_, rfl, _⟩ | h
  · exact fun _ => rfl
  · exact Owns.none0 h
theorem OwnOr.reads {base : Nat} {w : World} {A : Option Addr} {c : Nat} {l : List Sp} (h : OwnOr base w A c l) : ReadsSp w w.heap.size A l := by
  rcases h with ⟨_, _, rfl⟩ | h
  · exact Reads.nil _ _ _ _ _
  · exact Owns.reads spE h
theorem OwnOr.ext {base : Nat} {w w' : World} {A : Option Addr} {c : Nat} {l : List Sp} (h : OwnOr base w A c l) (hx : Ext w w') : OwnOr base w' A c l := h.imp id (fun k => Owns.ext k hx)
theorem OwnOr.others {base : Nat} {w : World} {A : Option Addr} {c : Nat} {l : List Sp} (h : OwnOr base w A c l) {m : Nat} (hm : m < base) (o : Nat) (vs : List Value) : OwnOr base (w.setCells m o vs) A c l := h.imp id (fun k => Owns.others k hm o vs)
def resSoft (r : Res) (base : Nat) : Soft := ⟨fun v w => ∃ A c, v = .agg (entC { r.e with hv := .slice A r.l.length c }) ∧ OwnOr base w A c r.l, fun v w w' ⟨A, c, h1, h2⟩ hx => ⟨A, c, h1, h2.ext hx⟩⟩
theorem covers_of (l : List Sp) (n : Int) (b : Bool) (h : fullB l n = b) : coversB l (0, n) b := by
  subst h
  exact fullB_iff
set_option maxRecDepth 100000 in
theorem settleE_any (e : En) (hv : ∃ A n c, e.hv = .slice A n c) (A' : Option Addr) (c' : Nat) (out : List Sp) (Ab : Option Addr) (cb : Nat) (bl : List Int) (base : Nat) (W : World) (hw : e.whole = false) (h0 : 0 ≤ e.st.size) (h1 : e.st.size ≤ 65536) (hsi : SetIn out e.st.size)
    (ho : OwnsSp base W A' c' out) (hbl : 0 < bl.length) (hbl2 : bl.length ≤ 65536) (hrb : ReadsB W W.heap.size Ab bl) (hk : Konst 0 W) (hb : e.st.body.length = 16) (hby : Byt e.st.body) :
    Calls Tryz.prog 63 #[.agg (entC e), .slice A' out.length c', .slice Ab bl.length cb] W fun e' w' => ∃ v, e' = .returned (.tuple #[v, .int .i64 (settleN e out (strOfNums bl)).n]) ∧ (resSoft (settleN e out (strOfNums bl)) base).S v w' ∧ Ext W w' := by
  obtain ⟨Ae, ne, ce, hv⟩ := hv
  have hlen := hsi.len h0
  cases hf : fullB out e.st.size with
  | false =>
    have e1 : settleN e out (strOfNums bl) = ⟨{ e with bytes := strOfNums bl }, out, 0⟩ := by rw [settleN, if_neg (by rw [hf]; decide)]
    rw [e1]
    refine (settle_no e Ae ne ce A' c' out Ab cb bl W hv h0 h1 hsi.1 (hsi.bd2 (by omega)) (by omega) (ho.reads spE) ho.none0 hbl hbl2 hrb hk (covers_of _ _ _ hf)).mono ?_
    rintro e' w' ⟨rfl, hx⟩
    exact ⟨_, rfl, ⟨A', c', rfl, .inr (ho.ext hx)⟩, hx⟩
  | true =>
    by_cases hd : Wire.digest 34 [bts (strOfNums bl)] = e.st.body
    · have e1 : settleN e out (strOfNums bl) = ⟨{ e with bytes := strOfNums bl, whole := true }, out, 0⟩ := by rw [settleN, if_pos hf, if_pos hd]
      rw [e1]
      refine (settle_ok e Ae ne ce A' c' out Ab cb bl W hv h0 h1 hsi.1 (hsi.bd2 (by omega)) (by omega) (ho.reads spE) ho.none0 hbl hbl2 hrb hk (covers_of _ _ _ hf) hb hby hd).mono ?_
      rintro e' w' ⟨rfl, hx⟩
      exact ⟨_, rfl, ⟨A', c', rfl, .inr (ho.ext hx)⟩, hx⟩
    · have e1 : settleN e out (strOfNums bl) = ⟨emptyEn e.st e.soft, [], 8⟩ := by rw [settleN, if_pos hf, if_neg hd]
      rw [e1]
      refine (settle_bad e Ae ne ce A' c' out Ab cb bl W hv h0 h1 hsi.1 (hsi.bd2 (by omega)) (by omega) (ho.reads spE) ho.none0 hbl hbl2 hrb hk (covers_of _ _ _ hf) hb hby hd).mono ?_
      rintro e' w' ⟨rfl, hx⟩
      exact ⟨_, rfl, ⟨none, 0, rfl, .inl ⟨rfl, rfl, rfl⟩⟩, hx⟩
theorem hv_is {e : En} {v : Value} (h : e.hv = v) : ({ e with hv := v } : En) = e := by subst h; rfl
set_option maxHeartbeats 400000 in
theorem eput_far (e : En) (A : Option Addr) (c : Nat) (l : List Sp) (f : Int) (more : ByteArray) (w : World) (hv : e.hv = .slice A l.length c) (hval : Val e l) (hf63 : -9223372036854775808 ≤ f ∧ f ≤ 9223372036854775807) (hm : more.size ≤ 9223372036854775807)
    (hb : e.st.body.length = 16) (hby : Byt e.st.body) (hk : Konst 0 w) (hA : plainA A) (hz : A = none → c = 0) (hr : ReadsSp w w.heap.size A l) :
    Calls Tryz.prog 28 #[.agg (entC e), .int .i64 f, .string more] w fun e' w' => PutFar A (putN e l f more) e' w w' := by
  have hz0 := hval.z0
  have hz1 := hval.sz
  have hbs := hval.bs
  have hvs := hv_is hv
  cases hw : e.whole with
  | true =>
    have e1 : putN e l f more = ⟨e, l, 4⟩ := by rw [putN, if_pos hw]
    rw [e1]
    refine (put_whole e A l.length c f more w hv hw).mono ?_
    rintro e' w' ⟨rfl, hx⟩
    exact ⟨A, c, by rw [hvs], hA, hz, hr.on hx, fun _ k => .inl k, hx⟩
  | false =>
    by_cases hc : f < 0 ∨ e.st.size < f ∨ e.st.size < f + more.size
    · have e1 : putN e l f more = ⟨e, l, 1⟩ := by rw [putN, if_neg (by rw [hw]; decide), if_pos hc]
      rw [e1]
      have hc44 : (entC e)[44]? = some (.bool false) := by rw [ent_g44, hw]
      have hfit : fitsRow 45 (entC e) = true := ent_fits_of hv
      have HA := Lib.hid hA
      have HZ := Lib.hid hz
      have HR := Lib.hid hr
      clear hA hz hr hk hval hb hby e1 hw hv
      by_cases hc1 : f < 0
      · have d1 : decide (f < 0) = true := by simpa using hc1
        clear hc hc1
        go_enter Tryz.func28, Tryz.ntmps28
        go_wp2
        refine post_two (v1 := .agg (entC e)) (v2 := .int .i64 1) Tryz.results28 rfl ⟨_, rfl, ent_loaded (row_stored (RowAt.newAt (cs := entC noEn) (t := 58) (by simp)) (ent_size _) (ent_size _))⟩ rfl ⟨A, c, by rw [hvs], HA.out, HZ.out, HR.out.on (Ext.setCells (((Ext.refl w).alloc _).alloc _) (by omega) _ _), fun _ k => .inl k, Ext.setCells (((Ext.refl w).alloc _).alloc _) (by omega) _ _⟩
      · have d1 : decide (f < 0) = false := by simpa using hc1
        by_cases hc2 : e.st.size < f
        · have d2 : decide (e.st.size < f) = true := by simpa using hc2
          clear hc hc1 hc2
          go_enter Tryz.func28, Tryz.ntmps28
          go_wp2
          refine post_two (v1 := .agg (entC e)) (v2 := .int .i64 1) Tryz.results28 rfl ⟨_, rfl, ent_loaded (row_stored (RowAt.newAt (cs := entC noEn) (t := 58) (by simp)) (ent_size _) (ent_size _))⟩ rfl ⟨A, c, by rw [hvs], HA.out, HZ.out, HR.out.on (Ext.setCells (((Ext.refl w).alloc _).alloc _) (by omega) _ _), fun _ k => .inl k, Ext.setCells (((Ext.refl w).alloc _).alloc _) (by omega) _ _⟩
        · have d2 : decide (e.st.size < f) = false := by simpa using hc2
          have d3 : decide (e.st.size - f < more.size) = true := by simp; omega
          clear hc
          go_enter Tryz.func28, Tryz.ntmps28
          go_wp2
          refine post_two (v1 := .agg (entC e)) (v2 := .int .i64 1) Tryz.results28 rfl ⟨_, rfl, ent_loaded (row_stored (RowAt.newAt (cs := entC noEn) (t := 58) (by simp)) (ent_size _) (ent_size _))⟩ rfl ⟨A, c, by rw [hvs], HA.out, HZ.out, HR.out.on (Ext.setCells (((Ext.refl w).alloc _).alloc _) (by omega) _ _), fun _ k => .inl k, Ext.setCells (((Ext.refl w).alloc _).alloc _) (by omega) _ _⟩
    · obtain ⟨p, rfl⟩ : ∃ p : Nat, f = p := ⟨f.toNat, by omega⟩
      have hps : (p : Int) + more.size ≤ e.st.size := by omega
      have hpm : p + more.size ≤ e.bytes.size := by omega
      have hll := hval.len
      have hadd := rAdd_in (f := (p : Int)) (t := (p : Int) + more.size) hval.si (by omega) hps
      have e1 : putN e l p more = settleN e (Sp.rAdd l ((p : Int), (p : Int) + more.size)) (strOfNums (Sha.over (bts e.bytes) p (bts more))) := by rw [putN, if_neg (by rw [hw]; decide), if_neg hc, Int.toNat_natCast]; rfl
      rw [e1]
      have hol : (Sha.over (bts e.bytes) p (bts more)).length = e.bytes.size := by rw [over_len (by rw [bts_length, bts_length]; exact hpm), bts_length]
      have hpos := hval.pos hw
      have HSet : ∀ (A' : Option Addr) (c' : Nat) (out : List Sp) (Ab : Option Addr) (cb : Nat) (W : World), Ext w W → (∃ srt, SortedOf (l ++ [((p : Int), (p : Int) + more.size)]) srt ∧ out = Sp.joined srt) → out.length ≤ l.length + 1 → OwnsSp (w.heap.size + 2) W A' c' out → ReadsB W W.heap.size Ab (Sha.over (bts e.bytes) p (bts more)) →
          Calls Tryz.prog 63 #[.agg (entC e), .slice A' out.length c', .slice Ab (Sha.over (bts e.bytes) p (bts more)).length cb] W fun e' w' => ∃ v, e' = .returned (.tuple #[v, .int .i64 (settleN e (Sp.rAdd l ((p : Int), (p : Int) + more.size)) (strOfNums (Sha.over (bts e.bytes) p (bts more)))).n]) ∧ (resSoft (settleN e (Sp.rAdd l ((p : Int), (p : Int) + more.size)) (strOfNums (Sha.over (bts e.bytes) p (bts more)))) (w.heap.size + 2)).S v w' ∧ Ext W w' := by
        intro A' c' out Ab cb W hx hsrt _ ho hrb
        have hset := of_set hsrt
        have eo : out = Sp.rAdd l ((p : Int), (p : Int) + more.size) := Sp.IsSet.ext hset.1 hadd.1.1 (fun x => (hset.2 x).trans (((Sp.mem_append _ _ x).trans (or_congr Iff.rfl (Sp.mem_one _ x))).trans (hadd.2 x).symm))
        subst eo
        exact settleE_any e ⟨A, l.length, c, hv⟩ A' c' _ Ab cb _ (w.heap.size + 2) W hw hz0 hz1 hadd.1 ho (by omega) (by omega) hrb (RowAt.ext hk hx) hb hby
      generalize settleN e (Sp.rAdd l ((p : Int), (p : Int) + more.size)) (strOfNums (Sha.over (bts e.bytes) p (bts more))) = r at *
      have hfin : Calls Tryz.prog 28 #[.agg (entC e), .int .i64 p, .string more] w fun e' w' => ∃ v, e' = .returned (.tuple #[v, .int .i64 r.n]) ∧ (resSoft r (w.heap.size + 2)).S v w' ∧ Ext w w' := by
        by_cases hm0 : more.size = 0
        · exact put_any0 e A c l p more w (resSoft r (w.heap.size + 2)) r.n hv hw hm0 hps hz1 hbs hA (bdSp_of (hval.si.bd2 (by omega))) (by omega) hr (fun v W m vs hm' ⟨A1, c1, h1, h2⟩ => ⟨A1, c1, h1, h2.others hm' 0 vs⟩) (fun v W ⟨A1, c1, h1, _⟩ => ⟨_, h1, ent_fits_of rfl⟩) HSet
        · exact put_any e A c l p more w (resSoft r (w.heap.size + 2)) r.n hv hw (by omega) hps hz1 hbs hA (bdSp_of (hval.si.bd2 (by omega))) (by omega) hr (fun v W m vs hm' ⟨A1, c1, h1, h2⟩ => ⟨A1, c1, h1, h2.others hm' 0 vs⟩) (fun v W ⟨A1, c1, h1, _⟩ => ⟨_, h1, ent_fits_of rfl⟩) HSet
      refine hfin.mono ?_
      rintro e' w' ⟨v, rfl, ⟨A1, c1, rfl, ho⟩, hx⟩
      exact ⟨A1, c1, rfl, ho.plain, ho.none0, ho.reads, fun a k => .inr (by have := ho.far k; omega), hx⟩
theorem eput_any (e : En) (A : Option Addr) (c : Nat) (l : List Sp) (f : Int) (more : ByteArray) (w : World) (hv : e.hv = .slice A l.length c) (hval : Val e l) (hf63 : -9223372036854775808 ≤ f ∧ f ≤ 9223372036854775807) (hm : more.size ≤ 9223372036854775807)
    (hb : e.st.body.length = 16) (hby : Byt e.st.body) (hk : Konst 0 w) (hA : plainA A) (hz : A = none → c = 0) (hr : ReadsSp w w.heap.size A l) :
    Calls Tryz.prog 28 #[.agg (entC e), .int .i64 f, .string more] w fun e' w' => PutIs (putN e l f more) e' w w' :=
  (eput_far e A c l f more w hv hval hf63 hm hb hby hk hA hz hr).mono fun _ _ ⟨A', c', h1, h2, h3, h4, _, h6⟩ => ⟨A', c', h1, h2, h3, h4, h6⟩
end Go.Proofs.YtpjacgcaibaggaaGreatDoor

namespace Go.Proofs.YtpjacgcaibaggaaGreatDoor
open Go.RowKit Go.Shelf
open Go.Proofs
open Go.Proofs.Sp (Sp)

def missN (e : En) (l : List Sp) (s1 s2 : Int) : List Sp := if min s2 e.st.size ≤ max s1 0 then [] else rMissing l (max s1 0, min s2 e.st.size)
set_option maxHeartbeats 400000 in
theorem emissE_any (e : En) (A : Option Addr) (c : Nat) (l : List Sp) (s1 s2 : Int) (w : World) (hv : e.hv = .slice A l.length c) (h0 : 0 ≤ e.st.size) (h1 : e.st.size ≤ 65536)
    (hs : Sp.IsSet l) (hb : bd2 l) (hl : l.length ≤ 65536) (hr : ReadsSp w w.heap.size A l) (z : A = none → c = 0) :
    Calls Tryz.prog 58 #[.agg (entC e), .agg #[.int .i64 s1, .int .i64 s2]] w fun e' w' => ∃ A' c' out, e' = .returned (.slice A' out.length c') ∧ Hid (out = missN e l s1 s2) ∧ OwnsSp w.heap.size w' A' c' out ∧ Ext w w' := by
  have hc42 : (entC e)[42]? = some (.slice A l.length c) := by rw [ent_g42, hv]
  have HR := Lib.hid hr
  have HZ := Lib.hid z
  have HS := Lib.hid hs
  have HBd := Lib.hid hb
  obtain ⟨m, hm⟩ : ∃ m, missN e l s1 s2 = m := ⟨_, rfl⟩
  rw [hm]
  have HM := Lib.hid hm
  have hm1 : (if s1 < 0 then 0 else s1) = max s1 0 := by split <;> omega
  have hm2 : (if e.st.size < s2 then e.st.size else s2) = min s2 e.st.size := by split <;> omega
  clear hr hm hv z hs hb
  by_cases hc : min s2 e.st.size ≤ max s1 0
  · have e1 : m = [] := by rw [← HM.out, missN, if_pos hc]
    subst e1
    have d1 : decide (min s2 e.st.size ≤ max s1 0) = true := by simpa using hc
    clear hc
    go_enter Tryz.func58, Tryz.ntmps58
    go_wp2
    go_region
    all_goals
      go_wp2
      go_ret
      exact ⟨none, 0, [], rfl, Lib.hid rfl, Owns.nil _ _ _ _ _, (by (repeat (first | with_reducible exact Ext.refl _ | with_reducible exact Ext.refl _ | with_reducible refine Ext.drew ?_ | with_reducible refine Ext.drewN ?_ _ | with_reducible refine Ext.alloc ?_ _ | with_reducible refine Ext.onto ?_ _ | (with_reducible refine Ext.setCells ?_ ?_ _ _; rotate_left; focus (first | omega | (simp; done) | (simp; omega))) | (with_reducible refine Ext.setCell ?_ ?_ _; rotate_left; focus (first | omega | (simp; done) | (simp; omega))))))⟩
  · have e1 : m = rMissing l (max s1 0, min s2 e.st.size) := by rw [← HM.out, missN, if_neg hc]
    have E1 := Lib.hid e1
    have d1 : decide (min s2 e.st.size ≤ max s1 0) = false := by simpa using hc
    have hq1 : -4611686018427387904 ≤ max s1 0 ∧ max s1 0 ≤ 4611686018427387903 := by omega
    have hq2 : -4611686018427387904 ≤ min s2 e.st.size ∧ min s2 e.st.size ≤ 4611686018427387903 := by omega
    clear hc e1
    go_enter Tryz.func58, Tryz.ntmps58
    go_wp2
    go_region
    all_goals
      go_wp2_with (go_at_call 99; refine (missing_any A c l (max s1 0, min s2 e.st.size) _ HS.out HBd.out ⟨hq1, hq2⟩ (by omega) (HR.out.on (by (repeat (first | with_reducible exact Ext.refl _ | with_reducible exact Ext.refl _ | with_reducible refine Ext.drew ?_ | with_reducible refine Ext.drewN ?_ _ | with_reducible refine Ext.alloc ?_ _ | with_reducible refine Ext.onto ?_ _ | (with_reducible refine Ext.setCells ?_ ?_ _ _; rotate_left; focus (first | omega | (simp; done) | (simp; omega))) | (with_reducible refine Ext.setCell ?_ ?_ _; rotate_left; focus (first | omega | (simp; done) | (simp; omega))))))) HZ.out).mono ?_; rintro e' w2 ⟨A2, c2, out, rfl, HS2, hol2, ho2, hx2⟩; have HO2 := Lib.hid ho2; have HX2 := Lib.hid hx2; clear ho2 hx2)
      go_ret
      exact ⟨A2, c2, out, rfl, Lib.hid ((setOf_uniq HS2.out (rMissing_spec l (max s1 0, min s2 e.st.size))).trans E1.out.symm), HO2.out.lower (by simp <;> omega), Ext.trans (by (repeat (first | with_reducible exact Ext.refl _ | with_reducible exact Ext.refl _ | with_reducible refine Ext.drew ?_ | with_reducible refine Ext.drewN ?_ _ | with_reducible refine Ext.alloc ?_ _ | with_reducible refine Ext.onto ?_ _ | (with_reducible refine Ext.setCells ?_ ?_ _ _; rotate_left; focus (first | omega | (simp; done) | (simp; omega))) | (with_reducible refine Ext.setCell ?_ ?_ _; rotate_left; focus (first | omega | (simp; done) | (simp; omega)))))) HX2.out⟩
/-! ### right, Begin -/
set_option maxHeartbeats 1000000 in
theorem right_any (s : St) (w : World) (h1 : s.addr.size ≤ 9223372036854775807) (h2 : s.var.size ≤ 9223372036854775807) (h3 : s.tags.size ≤ 9223372036854775807) :
    Calls Tryz.prog 61 #[.agg (stmC s)] w fun e' w' => e' = .returned (.bool (rightB s)) ∧ Ext w w' := by
  go_enter Tryz.func61, Tryz.ntmps61
  go_wp2_with (go_at_call 100; refine (within_any _ _ _ _).mono ?_; rintro e w' ⟨rfl, rfl⟩)
  all_goals
    go_ret
    refine ⟨ret_bool ?_, (by (repeat (first | with_reducible exact Ext.refl _ | with_reducible exact Ext.refl _ | with_reducible refine Ext.drew ?_ | with_reducible refine Ext.drewN ?_ _ | with_reducible refine Ext.alloc ?_ _ | with_reducible refine Ext.onto ?_ _ | (with_reducible refine Ext.setCells ?_ ?_ _ _; rotate_left; focus (first | omega | (simp; done) | (simp; omega))) | (with_reducible refine Ext.setCell ?_ ?_ _; rotate_left; focus (first | omega | (simp; done) | (simp; omega))))))⟩
    first
      | (simp_all [rightB]; done)
      | (rw [Bool.eq_iff_iff]; simp_all [rightB]; done)
      | (rw [Bool.eq_iff_iff]; simp_all [rightB]; omega)
theorem odigest_e (D : List Int) (w : World) (hk : Konst 0 w) (h : Wire.digest 34 [[]] = D) :
    Calls Tryz.prog 24 #[.string ⟨#[]⟩] w fun e w' => e = .returned (.agg (cells8 D)) ∧ Ext w w' := odigest_is ⟨#[]⟩ D w hk (by decide) h
set_option maxRecDepth 100000 in
set_option maxHeartbeats 400000 in
theorem beginE_any (s : St) (w : World) (h1 : s.addr.size ≤ 9223372036854775807) (h2 : s.var.size ≤ 9223372036854775807) (h3 : s.tags.size ≤ 9223372036854775807) (hb : s.body.length = 16) (hby : Byt s.body) (hk : Konst 0 w) :
    Calls Tryz.prog 27 #[.agg (stmC s)] w fun e' w' => e' = .returned (.tuple #[.agg (entC (beginN s).1), .int .i64 (beginN s).2]) ∧ Ext w w' := by
  obtain ⟨D, hD⟩ : ∃ D, Wire.digest 34 [[]] = D := ⟨_, rfl⟩
  have hq := neq_dig2 hb (by rw [← hD]; exact digest_length _ _) hby (by rw [← hD]; exact digest_byt _ _) (b := D)
  obtain ⟨p, hp⟩ : ∃ p, beginN s = p := ⟨_, rfl⟩
  rw [hp]
  have HP := Lib.hid hp
  have HD := Lib.hid hD
  have HK := Lib.hid hk
  have HRt := Lib.hid (fun W => right_any s W h1 h2 h3)
  have hf0 : fitsRow 45 (entC noEn) = true := ent_fits_of rfl
  clear hp hD hk hb hby h1 h2 h3
  cases hr : rightB s with
  | false =>
    have e : p = (noEn, 1) := by rw [← HP.out, beginN, if_pos hr]
    subst e
    rw [hr] at HRt
    clear hr hq
    go_enter Tryz.func27, Tryz.ntmps27
    go_wp2_with (go_at_call 61; refine (HRt.out _).mono ?_; rintro e w' ⟨rfl, hxl⟩; obtain ⟨xl, rfl⟩ := hxl.asLater; clear hxl)
    refine post_two (v1 := .agg (entC (noEn))) (v2 := .int .i64 1) Tryz.results27 rfl ⟨_, rfl, ent_loaded (row_stored ((by (repeat (first | with_reducible exact RowAt.newAt (cs := entC noEn) (t := 58) (by simp) | with_reducible refine RowAt.drew ?_ | with_reducible refine RowAt.later ?_ _ | with_reducible exact RowAt.newAt (by first | rfl | omega | (simp [later_size, setCells_size]; done) | (simp [later_size, setCells_size]; omega)) | with_reducible refine RowAt.alloc ?_ _ | with_reducible apply RowAt.store | with_reducible refine RowAt.others ?_ ?_ _ _ | with_reducible refine RowAt.other ?_ ?_ _)); all_goals first | omega | (simp; done) | (simp; omega) | (simp [go_sem]; done))) (ent_size _) (ent_size _))⟩ rfl ⟨rfl, (by (repeat (first | with_reducible exact Ext.refl _ | with_reducible exact Ext.refl _ | with_reducible refine Ext.drew ?_ | with_reducible refine Ext.drewN ?_ _ | with_reducible refine Ext.alloc ?_ _ | with_reducible refine Ext.onto ?_ _ | (with_reducible refine Ext.setCells ?_ ?_ _ _; rotate_left; focus (first | omega | (simp; done) | (simp; omega))) | (with_reducible refine Ext.setCell ?_ ?_ _; rotate_left; focus (first | omega | (simp; done) | (simp; omega))))))⟩
  | true =>
    have hz := rightB_z hr
    have HR1 := Lib.hid hr
    rw [hr] at HRt
    clear hr
    by_cases c2 : 65536 < s.size
    · have e : p = (noEn, 2) := by rw [← HP.out, beginN, if_neg (by rw [HR1.out]; decide), if_pos c2]
      subst e
      have d2 : decide (65536 < s.size) = true := by simpa using c2
      clear hq
      go_enter Tryz.func27, Tryz.ntmps27
      go_wp2_with (go_at_call 61; refine (HRt.out _).mono ?_; rintro e w' ⟨rfl, hxl⟩; obtain ⟨xl, rfl⟩ := hxl.asLater; clear hxl)
      refine post_two (v1 := .agg (entC (noEn))) (v2 := .int .i64 2) Tryz.results27 rfl ⟨_, rfl, ent_loaded (row_stored ((by (repeat (first | with_reducible exact RowAt.newAt (cs := entC noEn) (t := 58) (by simp) | with_reducible refine RowAt.drew ?_ | with_reducible refine RowAt.later ?_ _ | with_reducible exact RowAt.newAt (by first | rfl | omega | (simp [later_size, setCells_size]; done) | (simp [later_size, setCells_size]; omega)) | with_reducible refine RowAt.alloc ?_ _ | with_reducible apply RowAt.store | with_reducible refine RowAt.others ?_ ?_ _ _ | with_reducible refine RowAt.other ?_ ?_ _)); all_goals first | omega | (simp; done) | (simp; omega) | (simp [go_sem]; done))) (ent_size _) (ent_size _))⟩ rfl ⟨rfl, (by (repeat (first | with_reducible exact Ext.refl _ | with_reducible exact Ext.refl _ | with_reducible refine Ext.drew ?_ | with_reducible refine Ext.drewN ?_ _ | with_reducible refine Ext.alloc ?_ _ | with_reducible refine Ext.onto ?_ _ | (with_reducible refine Ext.setCells ?_ ?_ _ _; rotate_left; focus (first | omega | (simp; done) | (simp; omega))) | (with_reducible refine Ext.setCell ?_ ?_ _; rotate_left; focus (first | omega | (simp; done) | (simp; omega))))))⟩
    · have d2 : decide (65536 < s.size) = false := by simpa using c2
      by_cases c3 : s.size = 0
      · have e1 : (s.size == 0) = true := by simpa using c3
        by_cases c4 : s.body = D
        · have e : p = (emptyEn s false, 0) := by rw [← HP.out, beginN, if_neg (by rw [HR1.out]; decide), if_neg c2, if_neg (by rw [HD.out]; exact fun h => h.2 c4)]
          subst e
          have hd : decide (s.body = D) = true := by simpa using c4
          simp only [hd, Bool.not_true] at hq
          clear hd c4 c3
          go_enter Tryz.func27, Tryz.ntmps27
          go_wp2_with (go_at_call 61; refine (HRt.out _).mono ?_; rintro e w' ⟨rfl, hxl⟩; obtain ⟨xl, rfl⟩ := hxl.asLater; clear hxl)
          refine wp_region_later (by kernel_rfl) (by kernel_rfl) ?_
          repeat (first | go_big_quiet_step ((go_at_call 24; exact quietE (odigest_e D _ (RowAt.ext HK.out (((((Ext.refl _).alloc _).alloc _).onto _).onto _)) HD.out))) | quiet_step ((go_at_call 24; exact quietE (odigest_e D _ (RowAt.ext HK.out (((((Ext.refl _).alloc _).alloc _).onto _).onto _)) HD.out))))
          refine wpQuiet_nil ?_
          rintro _ ⟨xq, rfl⟩
          have hfn : fitsRow 45 (entC (emptyEn s false)) = true := ent_fits_of rfl
          go_wp2_with (go_at_call 62; refine (empty_any s false _ (by omega) (by omega)).mono ?_; rintro e w' ⟨rfl, hxl⟩; obtain ⟨xl, rfl⟩ := hxl.asLater; clear hxl)
          refine post_two (v1 := .agg (entC (emptyEn s false))) (v2 := .int .i64 0) Tryz.results27 rfl ⟨_, rfl, ent_loaded (row_stored ((by (repeat (first | with_reducible exact RowAt.newAt (cs := entC noEn) (t := 58) (by simp) | with_reducible refine RowAt.drew ?_ | with_reducible refine RowAt.later ?_ _ | with_reducible exact RowAt.newAt (by first | rfl | omega | (simp [later_size, setCells_size]; done) | (simp [later_size, setCells_size]; omega)) | with_reducible refine RowAt.alloc ?_ _ | with_reducible apply RowAt.store | with_reducible refine RowAt.others ?_ ?_ _ _ | with_reducible refine RowAt.other ?_ ?_ _)); all_goals first | omega | (simp; done) | (simp; omega) | (simp [go_sem]; done))) (ent_size _) (ent_size _))⟩ rfl ⟨rfl, (by (repeat (first | with_reducible exact Ext.refl _ | with_reducible exact Ext.refl _ | with_reducible refine Ext.drew ?_ | with_reducible refine Ext.drewN ?_ _ | with_reducible refine Ext.alloc ?_ _ | with_reducible refine Ext.onto ?_ _ | (with_reducible refine Ext.setCells ?_ ?_ _ _; rotate_left; focus (first | omega | (simp; done) | (simp; omega))) | (with_reducible refine Ext.setCell ?_ ?_ _; rotate_left; focus (first | omega | (simp; done) | (simp; omega))))))⟩
        · have e : p = (noEn, 8) := by rw [← HP.out, beginN, if_neg (by rw [HR1.out]; decide), if_neg c2, if_pos (by rw [HD.out]; exact ⟨c3, c4⟩)]
          subst e
          have hd : decide (s.body = D) = false := by simpa using c4
          simp only [hd, Bool.not_false] at hq
          clear hd c4 c3
          go_enter Tryz.func27, Tryz.ntmps27
          go_wp2_with (go_at_call 61; refine (HRt.out _).mono ?_; rintro e w' ⟨rfl, hxl⟩; obtain ⟨xl, rfl⟩ := hxl.asLater; clear hxl)
          refine wp_region_later (by kernel_rfl) (by kernel_rfl) ?_
          repeat (first | go_big_quiet_step ((go_at_call 24; exact quietE (odigest_e D _ (RowAt.ext HK.out (((((Ext.refl _).alloc _).alloc _).onto _).onto _)) HD.out))) | quiet_step ((go_at_call 24; exact quietE (odigest_e D _ (RowAt.ext HK.out (((((Ext.refl _).alloc _).alloc _).onto _).onto _)) HD.out))))
          refine wpQuiet_nil ?_
          rintro _ ⟨xq, rfl⟩
          go_wp2
          refine post_two (v1 := .agg (entC (noEn))) (v2 := .int .i64 8) Tryz.results27 rfl ⟨_, rfl, ent_loaded (row_stored ((by (repeat (first | with_reducible exact RowAt.newAt (cs := entC noEn) (t := 58) (by simp) | with_reducible refine RowAt.drew ?_ | with_reducible refine RowAt.later ?_ _ | with_reducible exact RowAt.newAt (by first | rfl | omega | (simp [later_size, setCells_size]; done) | (simp [later_size, setCells_size]; omega)) | with_reducible refine RowAt.alloc ?_ _ | with_reducible apply RowAt.store | with_reducible refine RowAt.others ?_ ?_ _ _ | with_reducible refine RowAt.other ?_ ?_ _)); all_goals first | omega | (simp; done) | (simp; omega) | (simp [go_sem]; done))) (ent_size _) (ent_size _))⟩ rfl ⟨rfl, (by (repeat (first | with_reducible exact Ext.refl _ | with_reducible exact Ext.refl _ | with_reducible refine Ext.drew ?_ | with_reducible refine Ext.drewN ?_ _ | with_reducible refine Ext.alloc ?_ _ | with_reducible refine Ext.onto ?_ _ | (with_reducible refine Ext.setCells ?_ ?_ _ _; rotate_left; focus (first | omega | (simp; done) | (simp; omega))) | (with_reducible refine Ext.setCell ?_ ?_ _; rotate_left; focus (first | omega | (simp; done) | (simp; omega))))))⟩
      · have e : p = (emptyEn s false, 0) := by rw [← HP.out, beginN, if_neg (by rw [HR1.out]; decide), if_neg c2, if_neg (fun h => c3 h.1)]
        subst e
        have e1 : (s.size == 0) = false := by simpa using c3
        clear c3
        go_enter Tryz.func27, Tryz.ntmps27
        go_wp2_with (go_at_call 61; refine (HRt.out _).mono ?_; rintro e w' ⟨rfl, hxl⟩; obtain ⟨xl, rfl⟩ := hxl.asLater; clear hxl)
        refine wp_region_later (by kernel_rfl) (by kernel_rfl) ?_
        repeat (first | go_big_quiet_step (fail) | quiet_step (fail))
        refine wpQuiet_nil ?_
        rintro _ ⟨xq, rfl⟩
        have hfn : fitsRow 45 (entC (emptyEn s false)) = true := ent_fits_of rfl
        go_wp2_with (go_at_call 62; refine (empty_any s false _ (by omega) (by omega)).mono ?_; rintro e w' ⟨rfl, hxl⟩; obtain ⟨xl, rfl⟩ := hxl.asLater; clear hxl)
        refine post_two (v1 := .agg (entC (emptyEn s false))) (v2 := .int .i64 0) Tryz.results27 rfl ⟨_, rfl, ent_loaded (row_stored ((by (repeat (first | with_reducible exact RowAt.newAt (cs := entC noEn) (t := 58) (by simp) | with_reducible refine RowAt.drew ?_ | with_reducible refine RowAt.later ?_ _ | with_reducible exact RowAt.newAt (by first | rfl | omega | (simp [later_size, setCells_size]; done) | (simp [later_size, setCells_size]; omega)) | with_reducible refine RowAt.alloc ?_ _ | with_reducible apply RowAt.store | with_reducible refine RowAt.others ?_ ?_ _ _ | with_reducible refine RowAt.other ?_ ?_ _)); all_goals first | omega | (simp; done) | (simp; omega) | (simp [go_sem]; done))) (ent_size _) (ent_size _))⟩ rfl ⟨rfl, (by (repeat (first | with_reducible exact Ext.refl _ | with_reducible exact Ext.refl _ | with_reducible refine Ext.drew ?_ | with_reducible refine Ext.drewN ?_ _ | with_reducible refine Ext.alloc ?_ _ | with_reducible refine Ext.onto ?_ _ | (with_reducible refine Ext.setCells ?_ ?_ _ _; rotate_left; focus (first | omega | (simp; done) | (simp; omega))) | (with_reducible refine Ext.setCell ?_ ?_ _; rotate_left; focus (first | omega | (simp; done) | (simp; omega))))))⟩
end Go.Proofs.YtpjacgcaibaggaaGreatDoor

namespace Go.Proofs.YtpjacgcaibaggaaGreatDoor
open Go.RowKit Go.Shelf
open Go.Proofs
open Go.Proofs.Sp (Sp)

theorem dropW_nil (p : UInt8 → Bool) : ∀ l : List UInt8, l.dropWhile p = [] ↔ ∀ b ∈ l, p b = true
  | [] => ⟨fun _ b h => (by cases h), fun _ => rfl⟩
  | a :: l => by
    rw [List.dropWhile_cons]
    by_cases h : p a = true
    · rw [if_pos h, dropW_nil p l]
      exact ⟨fun k b hb => (List.mem_cons.1 hb).elim (fun e => e ▸ h) (k b), fun k b hb => k b (List.mem_cons_of_mem _ hb)⟩
    · rw [if_neg h]
      exact ⟨fun k => (by cases k), fun k => absurd (k a (by simp)) h⟩
theorem dropW_head (p : UInt8 → Bool) : ∀ (l : List UInt8) (a : UInt8) (t : List UInt8), l.dropWhile p = a :: t → p a = false
  | [], _, _, h => (by cases h)
  | b :: l, a, t, h => by
    rw [List.dropWhile_cons] at h
    by_cases hb : p b = true
    · rw [if_pos hb] at h; exact dropW_head p l a t h
    · rw [if_neg hb] at h
      injection h with h1 _
      subst h1
      simpa using hb
theorem dropW_mem (p : UInt8 → Bool) : ∀ (l : List UInt8) (a : UInt8), a ∈ l.dropWhile p → a ∈ l
  | [], _, h => (by cases h)
  | b :: l, a, h => by
    rw [List.dropWhile_cons] at h
    by_cases hb : p b = true
    · rw [if_pos hb] at h; exact List.mem_cons_of_mem _ (dropW_mem p l a h)
    · rw [if_neg hb] at h; exact h
theorem trimB_nil (l : List UInt8) (c : UInt8) : Lib.trimB l c = [] ↔ ∀ b ∈ l, b = c := by
  unfold Lib.trimB Lib.trimLeftB Lib.trimRightB
  rw [dropW_nil]
  constructor
  · intro h
    cases hr : l.reverse.dropWhile (· == c) with
    | nil =>
      rw [dropW_nil] at hr
      exact fun b hb => by simpa using hr b (by simpa using hb)
    | cons a t =>
      have h1 := dropW_head _ _ _ _ hr
      have h2 := h a (by rw [hr]; simp)
      rw [h2] at h1; cases h1
  · intro h b hb
    have hb2 : b ∈ l := by simpa using dropW_mem (· == c) l.reverse b (by simpa using hb)
    simpa using h b hb2
end Go.Proofs.YtpjacgcaibaggaaGreatDoor

namespace Go.Proofs.YtpjacgcaibaggaaGreatDoor
open Go.RowKit Go.Shelf
open Go.Proofs
open Go.Proofs.Sp (Sp)

def SegZ (b : ByteArray) (s : Sp) : Prop := ∀ k : Nat, s.1 ≤ k → (k : Int) < s.2 → (bts b).getD k 0 = 0
theorem ext_at (b : ByteArray) (p q : Nat) : (b.extract p q).data.toList = (b.data.toList.drop p).take (q - p) := by rw [Lib.extract_eq]
theorem bts_zero (b : ByteArray) {k : Nat} (h : k < b.size) : (bts b).getD k 0 = 0 ↔ b.data.toList[k]? = some 0 := by
  have hl : k < b.data.toList.length := by simpa using h
  unfold bts
  rw [List.getD_eq_getElem?_getD, List.getElem?_map, List.getElem?_eq_getElem hl]
  simp only [Option.map_some, Option.getD_some, Option.some.injEq]
  constructor
  · intro e
    apply UInt8.toNat_inj.1
    have : (b.data.toList[k]).toNat = 0 := by omega
    rw [this]; rfl
  · intro e; rw [e]; rfl
theorem seg_trim {b : ByteArray} {p q : Nat} (hq : q ≤ b.size) : Lib.trimB (b.extract p q).data.toList 0 = [] ↔ SegZ b ((p : Int), (q : Int)) := by
  rw [trimB_nil, ext_at]
  have hlen : b.data.toList.length = b.size := by simp
  constructor
  · intro h k h1 h2
    have h1' : p ≤ k := Int.ofNat_le.1 h1
    have h2' : k < q := Int.ofNat_lt.1 h2
    rw [bts_zero b (by omega), List.getElem?_eq_getElem (by omega)]
    congr 1
    apply h
    rw [List.mem_iff_getElem?]
    refine ⟨k - p, ?_⟩
    rw [List.getElem?_take, if_pos (by omega), List.getElem?_drop, show p + (k - p) = k by omega, List.getElem?_eq_getElem (by omega)]
  · intro h x hx
    obtain ⟨i, hi⟩ := List.mem_iff_getElem?.1 hx
    rw [List.getElem?_take] at hi
    split at hi
    · rw [List.getElem?_drop] at hi
      have hb := (List.getElem?_eq_some_iff.1 hi).1
      have h3 := h (p + i) (by show (p : Int) ≤ ((p + i : Nat) : Int); omega) (by show ((p + i : Nat) : Int) < (q : Int); omega)
      rw [bts_zero b (by omega), hi] at h3
      exact Option.some.inj h3
    · cases hi
theorem zero_missing {b : ByteArray} {l m : List Sp} (hm : SetOf (fun x => ((0 : Int) ≤ x ∧ x < b.size) ∧ ¬ Sp.mem l x) m) : zeroB b l = true ↔ ∀ s ∈ m, SegZ b s := by
  rw [zeroB_iff]
  constructor
  · intro h s hs k h1 h2
    have hk := (hm.2 k).1 ⟨s, hs, h1, h2⟩
    have hkb : k < b.size := by have := hk.1.2; omega
    rcases h k hkb with q | q
    · exact q
    · exact absurd q hk.2
  · intro h k hk
    by_cases hmem : Sp.mem l k
    · exact .inr hmem
    · obtain ⟨s, hs, h1, h2⟩ := (hm.2 k).2 ⟨⟨by omega, by omega⟩, hmem⟩
      exact .inl (h s hs k h1 h2)
theorem pcovers_any (A : Option Addr) (c : Nat) (l : List Sp) (n : Int) (w : World) (h0 : 0 ≤ n) (h1 : n ≤ 65536) (hsi : SetIn l n) (hr : ReadsSp w w.heap.size A l) (z : A = none → c = 0) :
    Calls Tryz.prog 102 #[.slice A l.length c, .agg #[.int .i64 0, .int .i64 n]] w fun e w' => e = .returned (.bool (fullB l n)) ∧ Ext w w' := by
  have hlen := hsi.len h0
  refine (covers_any A c l (0, n) w hsi.1 (hsi.bd2 (by omega)) ⟨⟨by show (-4611686018427387904 : Int) ≤ 0; omega, by show (0 : Int) ≤ _; omega⟩, by show _ ≤ n; omega, by show n ≤ _; omega⟩ (by omega) hr z).mono ?_
  rintro e w' ⟨b, rfl, hc, hx⟩
  rw [covers_full hc.out]
  exact ⟨rfl, hx⟩
def validSoft (e : En) (A : Option Addr) (c : Nat) (l m : List Sp) (base : Nat) (blk : Nat) : Nat → Soft
  | 0 => .eq (.pointer (some ⟨blk, 42, none⟩))
  | 1 => .eq (.slice A l.length c)
  | 2 => .eq (.agg (entC e))
  | 3 => .eq (.agg #[.int .i64 0, .int .i64 e.st.size])
  | 4 => ownSoft m base
  | 5 => .eq (.int .i64 m.length)
  | _ => .eq (.int .i64 0)
end Go.Proofs.YtpjacgcaibaggaaGreatDoor
