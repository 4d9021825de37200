/- slices.Grow and slices.Concat at spans. -/
import Derived.Test.YtpjacgcaibaggaaGreatDoorProg
import Derived.Test.YtpjacgcaibaggaaGreatDoorExt
import Derived.WalkKit
import Derived.WalkSpells
import Derived.WalkLawsBesides
import Derived.Deep.QuietTactic
import Derived.BigQuiet
import Derived.Test.YtpjacgcaibaggaaGreatDoorLz
import Derived.Test.YtpjacgcaibaggaaGreatDoorOj
import Derived.Lib.RowBridge
set_option linter.unusedVariables false
set_option linter.unusedSimpArgs false
namespace Go.Proofs.YtpjacgcaibaggaaGreatDoor
open Go.RowKit Go.Shelf Go.Sort
open Go.Proofs
open Go.Proofs.Sp (Sp)

theorem compact_spec (zs : List Int) (h : zs.Pairwise (· ≤ ·)) : (Lib.compact zs).Pairwise (· < ·) ∧ ∀ x, x ∈ Lib.compact zs ↔ x ∈ zs := by
  have key : ∀ m, m ≤ zs.length → (Lib.compactUpTo zs.toArray m).Pairwise (· < ·) ∧ ∀ x, x ∈ Lib.compactUpTo zs.toArray m ↔ ∃ j, ∃ hj : j < zs.length, j < m ∧ zs[j] = x := by
    intro m
    induction m with
    | zero => intro _; exact ⟨by simp [Lib.compactUpTo], fun x => by simp [Lib.compactUpTo]⟩
    | succ m ih =>
      intro hm
      obtain ⟨i1, i2⟩ := ih (by omega)
      have hg : zs.toArray[m]! = zs[m] := by rw [getElem!_pos zs.toArray m (by simp; omega)]; simp
      rw [Lib.compactUpTo_succ]
      by_cases hk : Lib.keeps zs.toArray m = true
      · rw [if_pos hk, hg]
        have hlt : ∀ j, ∀ hj : j < zs.length, j < m → zs[j] < zs[m] := by
          intro j hj hjm
          simp only [Lib.keeps, decide_eq_true_eq] at hk
          rcases hk with hk | hk
          · omega
          · have hg1 : zs.toArray[m - 1]! = zs[m - 1] := by rw [getElem!_pos zs.toArray (m - 1) (by simp; omega)]; simp
            rw [hg, hg1] at hk
            have h1 := List.pairwise_iff_getElem.1 h (m - 1) m (by omega) (by omega) (by omega)
            by_cases e : j = m - 1
            · subst e; omega
            · have h2 := List.pairwise_iff_getElem.1 h j (m - 1) hj (by omega) (by omega)
              omega
        refine ⟨List.pairwise_append.2 ⟨i1, List.pairwise_singleton _ _, fun a ha b hb => ?_⟩, fun x => ?_⟩
        · simp at hb; subst hb
          obtain ⟨j, hj, h1, rfl⟩ := (i2 a).1 ha
          exact hlt j hj h1
        · rw [List.mem_append, i2, List.mem_singleton]
          constructor
          · rintro (⟨j, hj, h1, h2⟩ | rfl)
            · exact ⟨j, hj, by omega, h2⟩
            · exact ⟨m, by omega, by omega, rfl⟩
          · rintro ⟨j, hj, h1, h2⟩
            by_cases e : j = m
            · subst e; exact .inr h2.symm
            · exact .inl ⟨j, hj, by omega, h2⟩
      · rw [if_neg hk, List.append_nil]
        refine ⟨i1, fun x => ?_⟩
        have hk' : ¬ (m = 0 ∨ zs.toArray[m]! ≠ zs.toArray[m - 1]!) := by simpa [Lib.keeps] using hk
        have hm0 : m ≠ 0 := fun e => hk' (.inl e)
        have hg1 : zs.toArray[m - 1]! = zs[m - 1] := by rw [getElem!_pos zs.toArray (m - 1) (by simp; omega)]; simp
        have he : zs[m] = zs[m - 1] := by
          by_cases e : zs[m] = zs[m - 1]
          · exact e
          · exact absurd (.inr (by rw [hg, hg1]; exact e)) hk'
        rw [i2]
        constructor
        · rintro ⟨j, hj, h1, h2⟩
          exact ⟨j, hj, by omega, h2⟩
        · rintro ⟨j, hj, h1, h2⟩
          by_cases e : j = m
          · subst e; exact ⟨j - 1, by omega, by omega, by rw [← h2, he]⟩
          · exact ⟨j, hj, by omega, h2⟩
  obtain ⟨h1, h2⟩ := key zs.length (Nat.le_refl _)
  refine ⟨h1, fun x => (h2 x).trans ?_⟩
  rw [List.mem_iff_getElem]
  constructor
  · rintro ⟨j, hj, _, e⟩; exact ⟨j, hj, e⟩
  · rintro ⟨j, hj, e⟩; exact ⟨j, hj, hj, e⟩

def encI (x : Int) : List Value := [.int .i64 x]
theorem iE : EncTy encI 1 := ⟨fun _ => rfl, fun x v hv => by simp [encI] at hv; subst hv; rfl⟩
theorem iT : ElemTy Tryz.prog 108 3 1 8 := ⟨by kernel_rfl, by kernel_rfl, by omega⟩
abbrev OwnsI (base : Nat) (w : World) (A : Option Addr) (c : Nat) (l : List Int) : Prop := Owns 3 1 encI base w A c l
abbrev ReadsI (w : World) (B : Nat) (A : Option Addr) (l : List Int) : Prop := Reads 1 encI w B A l
theorem ReadsI.cell {w : World} {B : Nat} {A : Option Addr} {l : List Int} (h : ReadsI w B A l) (i : Nat) (hi : i < l.length) : ∃ b off, A = some ⟨b, off, none⟩ ∧ b < B ∧ w.cell? ⟨b, off + i, none⟩ = some (.int .i64 l[i]) := by
  obtain ⟨b, off, h1, h2, h3⟩ := h (by omega)
  have := h3 i hi 0 _ rfl
  rw [Nat.mul_one, Nat.add_zero] at this
  exact ⟨b, off, h1, h2, this⟩
theorem flatI (l : List Int) : l.flatMap encI = l.map (Value.int .i64) := by
  induction l with
  | nil => rfl
  | cons x l ih => rw [List.flatMap_cons, ih]; rfl
theorem OwnsI.holds {base : Nat} {w : World} {g c : Nat} {cur : Array Value} {l : List Int} (h3 : w.heap[g]? = some (.cells cur 3 (0, 0))) (h4 : l.length ≤ c) (h6 : cur.size = c * 1) (h7 : cur.toList.take (l.length * 1) = l.flatMap encI) : Holds (Value.int .i64) w g 0 l.toArray := by
  intro j hj
  have hj' : j < l.length := by simpa using hj
  refine ⟨?_, by simp [World.frozen?, h3]⟩
  have e1 : (l.flatMap encI)[j]? = cur[j]? := by rw [← h7, List.getElem?_take, if_pos (by omega), Array.getElem?_toList]
  rw [flatI, List.getElem?_map, List.getElem?_eq_getElem hj'] at e1
  simp only [World.cell?, h3, Nat.zero_add]
  rw [getElem!_pos l.toArray j hj]
  simpa using e1.symm
theorem OwnsI.put {base n : Nat} {w : World} {g c : Nat} {cur : Array Value} {l : List Int} (os : Array Obj) (d : List Int) (hb : base ≤ g) (h3 : w.heap[g]? = some (.cells cur 3 (0, 0))) (h5 : c ≤ maxLen) (h6 : cur.size = c * 1) (hd : d.length ≤ c) (hl : l.length ≤ d.length) (hp : d.take l.length = l) :
    OwnsI base (grow (putRow (Value.int .i64) (Sort.ahead w n) g 0 d.toArray) os) (some ⟨g, 0, none⟩) c l ∧ ButS (· = g) w (grow (putRow (Value.int .i64) (Sort.ahead w n) g 0 d.toArray) os) := by
  have hg := (Array.getElem?_eq_some_iff.1 h3).1
  have hs : (putRow (Value.int .i64) (Sort.ahead w n) g 0 d.toArray).heap.size = w.heap.size := by simp [putRow, mapBlock, Sort.ahead]
  have hw : ∀ j, j < w.heap.size → (grow (putRow (Value.int .i64) (Sort.ahead w n) g 0 d.toArray) os).heap[j]? = (putRow (Value.int .i64) (Sort.ahead w n) g 0 d.toArray).heap[j]? := fun j hj => Array.getElem?_append_left (by rw [hs]; exact hj)
  refine ⟨Owns.mk iE hb (cur := putCells (Value.int .i64) 0 d.toArray cur) ?_ (by omega) h5 (by simpa [putCells] using h6) ?_, ⟨rfl, rfl, rfl, ?_, fun j hj hn => ?_⟩⟩
  · rw [hw g hg]
    simp only [putRow, mapBlock, Sort.ahead, Array.getElem?_modify, if_true, h3]
    rfl
  · rw [Nat.mul_one, flatI]
    apply List.ext_getElem?
    intro i
    rw [List.getElem?_take]
    by_cases hi : i < l.length
    · rw [if_pos hi, Array.getElem?_toList]
      have hc : i < cur.size := by omega
      simp only [putCells, Array.getElem?_mapIdx]
      rw [Array.getElem?_eq_getElem hc]
      have h8 : 0 ≤ i ∧ i < 0 + d.toArray.size := by simp; omega
      simp only [Option.map_some, if_pos h8, Nat.sub_zero]
      rw [getElem!_pos d.toArray i (by simp; omega)]
      have e : l[i]? = d[i]? := by
        have h9 := congrArg (fun q => q[i]?) hp
        simp only [List.getElem?_take, if_pos hi] at h9
        exact h9.symm
      rw [List.getElem?_map, e, List.getElem?_eq_getElem (by omega)]
      simp
    · rw [if_neg hi, List.getElem?_eq_none (by simp; omega)]
  · have : (grow (putRow (Value.int .i64) (Sort.ahead w n) g 0 d.toArray) os).heap.size = w.heap.size + os.size := by simp [grow, hs]
    omega
  · have hn' : ¬ j = g := hn
    rw [hw j hj]
    simp only [putRow, mapBlock, Sort.ahead, Array.getElem?_modify]
    rw [if_neg (Ne.symm hn')]
theorem ButS.below {g base : Nat} {w w' : World} (h : ButS (· = g) w w') (hb : base ≤ g) (hg : g < w.heap.size) : Below base w w' := ⟨h.os, h.tape, h.output, h.size, fun k hk => h.block k (by omega) (by omega)⟩

theorem insertionI_none (p : Option Addr) (cap : Nat) (w : World) :
    Calls Tryz.prog 270 #[.slice p 0 cap, .int .i64 0, .int .i64 0] w fun e w' => e = .returned (.tuple #[]) ∧ w' = w := by
  go_enter Tryz.func270, Tryz.ntmps270
  go_wp2
  refine wp_loop_rounds 1 ?_
  rw [rounds_succ]
  go_wp2
  go_end0
  exact ⟨rfl, rfl⟩
theorem pdqI_none (p : Option Addr) (cap : Nat) (lim : Int) (w : World) :
    Calls Tryz.prog 240 #[.slice p 0 cap, .int .i64 0, .int .i64 0, .int .i64 lim] w fun e w' => e = .returned (.tuple #[]) ∧ w' = w := by
  go_enter Tryz.func240, Tryz.ntmps240
  go_wp2
  refine wp_loop_rounds 1 ?_
  rw [rounds_succ]
  go_wp2_with (go_at_call 270; refine (insertionI_none _ _ _).mono ?_; rintro e w' ⟨rfl, rfl⟩)
  (try simp only [Exit.inBlock, Exit.then]); refine bodyPost_ret (results_none rfl _ _ _) rfl ?_
  exact ⟨rfl, rfl⟩
theorem sortI_none (p : Option Addr) (cap : Nat) (w : World) :
    Calls Tryz.prog 210 #[.slice p 0 cap] w fun e w' => e = .returned (.tuple #[]) ∧ w' = w := by
  have hl : ∀ W, Calls Tryz.prog 216 #[.int .u64 0] W fun e w' => e = .returned (.int .i64 (Lib.bitLen 0 : Nat)) ∧ w' = W := fun W => by
    have h := Any.bits_Len (SlLaysF0.n15.bits { Tryz.sortSp with }) 0 W (by omega) (by omega)
    exact h
  go_enter Tryz.func210, Tryz.ntmps210
  go_wp2_with (first | (go_at_call 216; refine (hl _).mono ?_; rintro e w' ⟨rfl, rfl⟩) | (go_at_call 240; refine (pdqI_none _ _ _ _).mono ?_; rintro e w' ⟨rfl, rfl⟩))
  go_end0
  exact ⟨rfl, rfl⟩
def msort (zs : List Int) : List Int := zs.mergeSort fun x y => decide (x ≤ y)
theorem msort_length (zs : List Int) : (msort zs).length = zs.length := List.length_mergeSort _
theorem msort_mem (zs : List Int) (x : Int) : x ∈ msort zs ↔ x ∈ zs := List.mem_mergeSort
theorem msort_sorted (zs : List Int) : (msort zs).Pairwise (· ≤ ·) := by
  have := List.pairwise_mergeSort (le := fun x y : Int => decide (x ≤ y)) (by intro a b c; simp; omega) (by intro a b; simp; omega) zs
  exact this.imp (fun h => by simpa using h)
theorem sortI_any (base : Nat) (A : Option Addr) (c : Nat) (zs : List Int) (w : World) (hlen : zs.length < 4611686018427387904) (ho : OwnsI base w A c zs) :
    Calls Tryz.prog 210 #[.slice A zs.length c] w fun e w' => e = .returned (.tuple #[]) ∧ OwnsI base w' A c (msort zs) ∧ Below base w w' := by
  rcases ho.cases with ⟨rfl, rfl, rfl⟩ | ⟨g, cur, rfl, h2, h3, h4, h5, h6, h7⟩
  · refine (sortI_none none 0 w).mono ?_
    rintro e w' ⟨rfl, rfl⟩
    exact ⟨rfl, by rw [show msort [] = [] by simp [msort]]; exact Owns.nil _ _ _ _ _, Below.refl _ _⟩
  · have hg : g < w.heap.size := (Array.getElem?_eq_some_iff.1 h3).1
    have hcon := Any.slices_Sort_int Tryz.sortI g 0 c zs w (OwnsI.holds (base := base) h3 h4 h6 h7) hg hlen
    change Calls Tryz.prog 210 _ _ _ at hcon
    refine hcon.mono ?_
    rintro e w' ⟨rfl, n, os, rfl⟩
    obtain ⟨k1, k2⟩ := OwnsI.put (n := n) (l := msort zs) os (msort zs) h2 h3 h5 h6 (by rw [msort_length]; exact h4) (Nat.le_refl _) (List.take_length ..)
    exact ⟨rfl, k1, k2.below h2 hg⟩
theorem compactI_any (base : Nat) (A : Option Addr) (c : Nat) (zs : List Int) (w : World) (hlen : zs.length < 4611686018427387904) (ho : OwnsI base w A c zs) :
    Calls Tryz.prog 211 #[.slice A zs.length c] w fun e w' => e = .returned (.slice A (Lib.compact zs).length c) ∧ OwnsI base w' A c (Lib.compact zs) ∧ Below base w w' := by
  rcases ho.cases with ⟨rfl, rfl, rfl⟩ | ⟨g, cur, rfl, h2, h3, h4, h5, h6, h7⟩
  · have hcon := Any.slices_Compact_int_empty Tryz.compactI none 0 w
    change Calls Tryz.prog 211 _ _ _ at hcon
    refine hcon.mono ?_
    rintro e w' ⟨rfl, rfl⟩
    exact ⟨rfl, Owns.nil _ _ _ _ _, Below.refl _ _⟩
  · have hg : g < w.heap.size := (Array.getElem?_eq_some_iff.1 h3).1
    have hcon := Any.slices_Compact_int Tryz.compactI g 0 c zs w (OwnsI.holds (base := base) h3 h4 h6 h7) (by omega) h4
    change Calls Tryz.prog 211 _ _ _ at hcon
    refine hcon.mono ?_
    rintro e w' ⟨rfl, n, hw⟩
    have hle := Lib.compact_length_le zs
    obtain ⟨k1, k2⟩ := OwnsI.put (n := n) (l := Lib.compact zs) #[] (Lib.compact zs ++ List.replicate (zs.length - (Lib.compact zs).length) 0) h2 h3 h5 h6 (by simp; omega) (by simp) (List.take_left' rfl)
    rw [grow_empty, ← hw] at k1 k2
    exact ⟨rfl, k1, k2.below h2 hg⟩
end Go.Proofs.YtpjacgcaibaggaaGreatDoor

namespace Go.Proofs.YtpjacgcaibaggaaGreatDoor
open Go.RowKit Go.Shelf Go.Sort
open Go.Proofs
open Go.Proofs.Sp (Sp)

set_option maxRecDepth 100000 in
theorem grow_any (n : Nat) (m : Int) (hm : m = n) (w : World) (hn : n * 16 ≤ 140737488355328) :
    Calls Tryz.prog 239 #[.slice none 0 0, .int .i64 m] w fun e w' => ∃ A' c', e = .returned (.slice A' 0 c') ∧ OwnsSp w.heap.size w' A' c' [] ∧ Ext w w' := by
  subst hm
  obtain ⟨i, hi, hz, h1, h2⟩ := info_parts spInfo
  by_cases h0 : n = 0
  · subst h0
    go_enter Tryz.func239, Tryz.ntmps239
    go_wp2
    go_ret
    exact ⟨none, 0, rfl, Owns.nil _ _ _ _ _, Ext.refl _⟩
  · have hcon := Any8.slices_Grow_grow Tryz.growSp i (.agg #[.int .i64 0, .int .i64 0]) hi hz (by omega) none 0 0 n [] w (Nat.le_refl _) (by omega) (by rw [h2]; omega) (by omega) (by simp) (fun _ => rfl) (fun a h => by cases h)
    change Calls Tryz.prog 239 _ _ _ at hcon
    refine hcon.mono ?_
    rintro e w' ⟨rfl, rfl⟩
    refine ⟨some ⟨w.heap.size, 0, none⟩, _, rfl, Owns.mk spE (Nat.le_refl _) (heap_alloc_new w.drew _) (Nat.zero_le _) (grownCap_le_maxLen _ _ _ _ (by unfold maxLen; omega)) ?_ (by simp), ((Ext.refl w).drew).alloc _⟩
    have hge := grownCap_ge w (0 + n) 0 (Tryz.growSp_ren.t 25)
    show _ = grownCap w (0 + n) 0 (Tryz.growSp_ren.t 25) * 2
    generalize grownCap w (0 + n) 0 (Tryz.growSp_ren.t 25) = cc at *
    simp [size_zeroCells, Value.cells]
    omega

set_option maxRecDepth 100000 in
set_option maxHeartbeats 1000000 in
theorem concat_any (b : Nat) (A1 : Option Addr) (c1 : Nat) (l1 : List Sp) (A2 : Option Addr) (c2 : Nat) (l2 : List Sp) (w : World) (hb : b < w.heap.size) (k1 : w.cell? ⟨b, 0, none⟩ = some (.slice A1 l1.length c1)) (k2 : w.cell? ⟨b, 1, none⟩ = some (.slice A2 l2.length c2))
    (r1 : ReadsSp w w.heap.size A1 l1) (r2 : ReadsSp w w.heap.size A2 l2) (z1 : A1 = none → c1 = 0) (z2 : A2 = none → c2 = 0) (hlen : (l1.length + l2.length) * 16 ≤ 140737488355328) :
    Calls Tryz.prog 209 #[.slice (some ⟨b, 0, none⟩) 2 2] w fun e w' => ∃ A' c' l', e = .returned (.slice A' l'.length c') ∧ Hid (l' = l1 ++ l2) ∧ OwnsSp w.heap.size w' A' c' l' ∧ Ext w w' := by
  have HR1 := Lib.hid r1
  have HR2 := Lib.hid r2
  have HZ1 := Lib.hid z1
  have HZ2 := Lib.hid z2
  clear r1 r2 z1 z2
  go_enter Tryz.func209, Tryz.ntmps209
  go_wp2
  refine wp_loop_rounds 3 ?_
  rw [rounds_succ]
  go_wp2
  rw [rounds_succ]
  go_wp2
  rw [rounds_succ]
  go_wp2_with (go_at_call 239; refine (grow_any (l1.length + l2.length) _ (by simp) _ (by omega)).mono ?_; rintro e w1 ⟨A3, c3, rfl, ho, hx⟩; have HO := Lib.hid ho; have HX := Lib.hid hx; have hszx := hx.size; have k1' := (hx.cell (p := ⟨b, 0, none⟩) hb).trans k1; have k2' := (hx.cell (p := ⟨b, 1, none⟩) hb).trans k2; clear ho hx)
  refine wp_loop_rounds 3 ?_
  rw [rounds_succ]
  go_wp2_with (at_builtin; refine app_reads spT spE rfl _ _ rfl w.heap.size A3 c3 [] rfl HO.out w.heap.size A1 c1 l1 rfl (HR1.out.ext HX.out (Nat.le_refl _)) HZ1.out (by simp; omega) (by simp; omega) hszx ?_; intro A4 c4 l4 w4 HL4 HO4 hB4 hl1 hl2 _; have hl1' : l4.length ≤ l1.length := (by simpa using hl1); have HO4' := Lib.hid HO4; have HB4 := Lib.hid hB4; have k2'' := (hB4.cell (p := ⟨b, 1, none⟩) hb).trans k2'; have hsz4 := hB4.size; clear HO4 hB4)
  rw [rounds_succ]
  go_wp2_with (at_builtin; refine app_reads spT spE rfl _ _ rfl w.heap.size A4 c4 l4 rfl HO4'.out w.heap.size A2 c2 l2 rfl ((HR2.out.ext HX.out (Nat.le_refl _)).below HB4.out) HZ2.out (by omega) (by omega) (by omega) ?_; intro A5 c5 l5 w5 HL5 HO5 hB5 hl3 hl4 _; have HO5' := Lib.hid HO5; have HB5 := Lib.hid hB5; clear HO5 hB5)
  rw [rounds_succ]
  go_wp2
  go_ret
  exact ⟨A5, c5, l5, rfl, Lib.hid (by rw [HL5.out, HL4.out, List.nil_append]), HO5'.out, (HX.out.grown HB4.out (Nat.le_refl _)).grown HB5.out (Nat.le_refl _)⟩
end Go.Proofs.YtpjacgcaibaggaaGreatDoor
