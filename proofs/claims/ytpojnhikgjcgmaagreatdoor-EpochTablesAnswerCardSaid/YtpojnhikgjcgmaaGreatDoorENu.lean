/- maps.Copy at digests. -/
import Derived.WalkKit
import Derived.WalkSpells
import Derived.WalkLawsBesides
import Derived.Deep.QuietTactic
import Derived.BigQuiet
import Derived.DeepKeys4
import Derived.Maps.Own
import Derived.Lib.SlMapMerge
import Derived.Maps.Ext
import Derived.Maps.RangeWalk
import Derived.Laws.IdiomRangeMap
import Derived.Test.YtpojnhikgjcgmaaGreatDoorEOw
set_option maxRecDepth 100000
set_option maxHeartbeats 64000000
set_option linter.unusedVariables false
set_option linter.unusedSimpArgs false
namespace Go.Proofs.YtpojnhikgjcgmaaGreatDoor
open Go.RowKit Go.Maps
open Go.Proofs
theorem laid_out : laidOutB Tryz.prog = true := by kernel_rfl
theorem key_dig : Keyed Tryz.prog 23 := Keyed.of_law (deep_law_laid laid_out (m := 2) (by omega) (dk (by kernel_rfl)) (by kernel_rfl) (by kernel_rfl))
theorem key_what : Keyed Tryz.prog 118 := Keyed.of_law (deep_law_laid laid_out (m := 2) (by omega) (dk (by kernel_rfl)) (by kernel_rfl) (by kernel_rfl))
def whatC (k : Int) (t : ByteArray) (s : Bool) : Value := .agg #[.int .i64 k, .string t, .bool s]
def whatL (k : Int) (t : ByteArray) (s : Bool) : Lit := .string (keyBytes [.int .i64 k, .string t.data.toList, .bool s])
theorem what_lits (d : Nat) (k : Int) (t : ByteArray) (s : Bool) (hk : (Lit.int .i64 k).wf = true) (ht : t.size ≤ maxLen) : Tryz.prog.keyLits (d + 2) 118 [.int .i64 k, .string t, .bool s] = some [.int .i64 k, .string t.data.toList, .bool s] := by
 have c3 : Tryz.prog.cellsOf 3 = 1 := by kernel_rfl
 have c9 : Tryz.prog.cellsOf 9 = 1 := by kernel_rfl
 have c4 : Tryz.prog.cellsOf 4 = 1 := by kernel_rfl
 have c : Tryz.prog.cellsOf 118 = 3 := by kernel_rfl
 simp [Program.keyLits, Tryz.underlying118, Tryz.underlying3, Tryz.underlying9, Tryz.underlying4, c, c3, c9, c4, hk, ht]
theorem what_key (k : Int) (t : ByteArray) (s : Bool) (hk : (Lit.int .i64 k).wf = true) (ht : t.size ≤ maxLen) : keyOf Tryz.prog 118 (whatC k t s) = some (whatL k t s) := by
 have e1 : Tryz.prog.keyType 118 = true := by kernel_rfl
 have e2 : (whatC k t s).formed Tryz.prog 118 = true := by kernel_rfl
 have e3 := what_lits (Tryz.prog.types.size - 1) k t s hk ht
 have e4 : Tryz.prog.types.size - 1 + 2 = Tryz.prog.types.size + 1 := by kernel_rfl
 rw [e4] at e3
 unfold keyOf
 rw [Tryz.underlying118]
 simp only [e1, e2, Bool.and_self, if_true]
 show Option.map _ (Tryz.prog.keyLits (Tryz.prog.types.size + 1) 118 [.int .i64 k, .string t, .bool s]) = _
 rw [e3]
 rfl
theorem len16 {a : List Int} (h : a.length = 16) : ∃ a0 a1 a2 a3 a4 a5 a6 a7 a8 a9 a10 a11 a12 a13 a14 a15, a = [a0, a1, a2, a3, a4, a5, a6, a7, a8, a9, a10, a11, a12, a13, a14, a15] := by
 match a, h with
 | [a0, a1, a2, a3, a4, a5, a6, a7, a8, a9, a10, a11, a12, a13, a14, a15], _ => exact ⟨_, _, _, _, _, _, _, _, _, _, _, _, _, _, _, _, rfl⟩
theorem dig_lits (d : Nat) (a : List Int) (hl : a.length = 16) (hw : ∀ x ∈ a, (Lit.int .u8 x).wf = true) : Tryz.prog.keyLits (d + 2) 23 (a.map (Value.int .u8)) = some (a.map (Lit.int .u8)) := by
 have c5 : Tryz.prog.cellsOf 5 = 1 := by kernel_rfl
 have c : Tryz.prog.cellsOf 23 = 16 := by kernel_rfl
 obtain ⟨a0, a1, a2, a3, a4, a5, a6, a7, a8, a9, a10, a11, a12, a13, a14, a15, rfl⟩ := len16 hl
 have hr : List.range 16 = [0, 1, 2, 3, 4, 5, 6, 7, 8, 9, 10, 11, 12, 13, 14, 15] := rfl
 simp only [List.mem_cons, List.not_mem_nil, or_false, forall_eq_or_imp, forall_eq] at hw
 obtain ⟨h0, h1, h2, h3, h4, h5, h6, h7, h8, h9, h10, h11, h12, h13, h14, h15⟩ := hw
 simp [Program.keyLits, Tryz.underlying23, Tryz.underlying5, c, c5, hr, h0, h1, h2, h3, h4, h5, h6, h7, h8, h9, h10, h11, h12, h13, h14, h15]
def digC (a : List Int) : Value := .agg (a.map (Value.int .u8)).toArray
def digL (a : List Int) : Lit := .string (keyBytes (a.map (Lit.int .u8)))
theorem dig_key (a : List Int) (hl : a.length = 16) (hw : ∀ x ∈ a, (Lit.int .u8 x).wf = true) : keyOf Tryz.prog 23 (digC a) = some (digL a) := by
 have e1 : Tryz.prog.keyType 23 = true := by kernel_rfl
 have c : Tryz.prog.cellsOf 23 = 16 := by kernel_rfl
 have e2 : (digC a).formed Tryz.prog 23 = true := by simp [digC, Value.formed, Tryz.underlying23, c, hl]
 have e3 := dig_lits (Tryz.prog.types.size - 1) a hl hw
 have e4 : Tryz.prog.types.size - 1 + 2 = Tryz.prog.types.size + 1 := by kernel_rfl
 rw [e4] at e3
 unfold keyOf
 rw [Tryz.underlying23]
 simp only [e1, e2, Bool.and_self, if_true]
 show Option.map _ (Tryz.prog.keyLits (Tryz.prog.types.size + 1) 23 (a.map (Value.int .u8)).toArray.toList) = _
 rw [List.toList_toArray, e3]
 rfl
theorem dig_inj {a b : List Int} (hl : a.length = 16) (hw : ∀ x ∈ a, (Lit.int .u8 x).wf = true) (hl' : b.length = 16) (hw' : ∀ x ∈ b, (Lit.int .u8 x).wf = true) (h : digL a = digL b) : a = b := by
 have := key_dig.inj (dig_key a hl hw) ((dig_key b hl' hw').trans (congrArg some h.symm))
 simp only [digC, Value.agg.injEq] at this
 have h2 := congrArg Array.toList this
 simp only [List.toList_toArray] at h2
 exact (List.map_inj_right (fun x y h => by injection h)).1 h2
theorem what_inj {k k' : Int} {t t' : ByteArray} {s s' : Bool} (hk : (Lit.int .i64 k).wf = true) (ht : t.size ≤ maxLen) (hk' : (Lit.int .i64 k').wf = true) (ht' : t'.size ≤ maxLen) (h : whatL k t s = whatL k' t' s') : k = k' ∧ t = t' ∧ s = s' := by
 have := key_what.inj (what_key k t s hk ht) ((what_key k' t' s' hk' ht').trans (congrArg some h.symm))
 simpa [whatC] using this
theorem lit_int {d : Nat} {a : Value} {L : List Lit} (h : Tryz.prog.keyLits (d + 1) 3 [a] = some L) : ∃ k, a = .int .i64 k := by
 cases a <;> simp [Program.keyLits, Tryz.underlying3] at h ⊢
 exact h.1.1
theorem lit_string {d : Nat} {a : Value} {L : List Lit} (h : Tryz.prog.keyLits (d + 1) 9 [a] = some L) : ∃ t, a = .string t := by
 cases a <;> simp [Program.keyLits, Tryz.underlying9] at h ⊢
theorem lit_bool {d : Nat} {a : Value} {L : List Lit} (h : Tryz.prog.keyLits (d + 1) 4 [a] = some L) : ∃ t, a = .bool t := by
 cases a <;> simp [Program.keyLits, Tryz.underlying4] at h ⊢
theorem what_cells {v : Value} {l : Lit} (h : keyOf Tryz.prog 118 v = some l) : ∃ k t s, v = whatC k t s := by
 obtain ⟨xs, L, rfl, hL, _⟩ := keyOf_top (by kernel_rfl) h
 have c : Tryz.prog.cellsOf 118 = 3 := by kernel_rfl
 have c3 : Tryz.prog.cellsOf 3 = 1 := by kernel_rfl
 have c9 : Tryz.prog.cellsOf 9 = 1 := by kernel_rfl
 have c4 : Tryz.prog.cellsOf 4 = 1 := by kernel_rfl
 obtain ⟨d, hd⟩ : ∃ d, Tryz.prog.types.size = d + 1 := ⟨Tryz.prog.types.size - 1, by kernel_rfl⟩
 rw [hd] at hL
 obtain ⟨l, rfl⟩ : ∃ l, xs = List.toArray l := ⟨xs.toList, by simp⟩
 simp only [List.toList_toArray] at hL
 have hl : l.length = 3 := by
  unfold Program.keyLits at hL
  rw [Tryz.underlying118] at hL
  simp only at hL
  split at hL
  ·next h2 => rw [h2.1, c]
  ·cases hL
 match l, hl, hL with
 | [a, b, e], _, hL =>
  unfold Program.keyLits at hL
  rw [Tryz.underlying118] at hL
  simp [c, c3, c9, c4, Option.bind_eq_some_iff] at hL
  obtain ⟨L1, h1, L2, ⟨L3, h2, L4, ⟨L5, h3, _⟩, _⟩, _⟩ := hL
  obtain ⟨k, rfl⟩ := lit_int h1
  obtain ⟨t, rfl⟩ := lit_string h2
  obtain ⟨s, rfl⟩ := lit_bool h3
  exact ⟨k, t, s, rfl⟩
theorem copyW_any {H : Type} (bd bs nd ns : Nat) (Dd Ds : DataW H) (w : World) (hd : w.ownsMap Tryz.prog 118 (plainElem Tryz.prog 3) bd nd Dd) (hs : w.ownsMap Tryz.prog 118 (plainElem Tryz.prog 3) bs ns Ds) (hne : bd ≠ bs) (hroom : nd + Maps.size Ds ≤ maxLen) :
  Calls Tryz.prog 75 #[.map (some bd), .map (some bs)] w fun e w' => e = .returned (.tuple #[]) ∧ w'.ownsMap Tryz.prog 118 (plainElem Tryz.prog 3) bd (nd + Maps.size Ds) (Lib.mergeD Dd Ds) ∧ w'.ownsMap Tryz.prog 118 (plainElem Tryz.prog 3) bs ns Ds ∧ w.grownBy w' (some bd) := by
 have hbd := hd.lt
 have hbs := hs.lt
 have K := key_what
 go_enter Tryz.func75, Tryz.ntmps75
 go_wp2_with (first
  | (at_range; refine wpList_range_own _ rfl _ 49 rfl 118 3 K Tryz.underlying49 (plainElem Tryz.prog 3) bs ns _ rfl hs ?_; intro w0 hrg0 hg0 hs0)
  | go_in)
 go_frame
 go_loopw [8] (fun _ wr => ∃ (left : Lit → Bool) (cnt : Nat) (Dout : DataW H), wr.ranges Tryz.prog 118 (plainElem Tryz.prog 3) bs w.heap.size ns Ds left cnt ∧ cnt ≤ Maps.size Ds ∧
   wr.ownsMap Tryz.prog 118 (plainElem Tryz.prog 3) bd (nd + (Maps.size Ds - cnt)) Dout ∧ Merged Dout Dd Ds left ∧ w.grownBy wr (some bd))
  (fun _ wr => wr.rangeLeft bs w.heap.size)
 case atStart =>
  exact ⟨_, _, Dd, hrg0, Nat.le_refl _, (hd.kept hg0 (by simp)).mono (by omega), merged_start Dd Ds, hg0.but _⟩
 case round =>
  obtain ⟨left, cnt, Dout, hrg, hcs, hout, hM, hgw⟩ := hrel
  go_wp2_with (first
   | (at_next; refine wpList_next_ranges _ rfl _ rfl 118 K (plainElem Tryz.prog 3) id id (fun key _ _ => ⟨key, rfl⟩) (fun v _ _ => ⟨v, rfl⟩) bs w.heap.size ns _ _ _ rfl hrg ?_ ?_)
   | go_in)
  ·-- nothing is left
   intro hc0 hl0
   go_wp2
   go_end0
   subst hc0
   have e := merged_eq K.one hM hl0 (hout.canon K) (hd.canonK K) (hs.canonK K)
   subst e
   exact ⟨rfl, by simpa using hout, hrg.owns, hgw⟩
  ·-- an entry has come
   intro x c kl yd yp w1 cnt1 hkey hlx hv hat hrg1 hlt hg1 hs1 hen
   have hout1 := hout.kept hg1 (fun e => by have := Option.some.inj e; omega)
   obtain ⟨xa, xb, xc, rfl⟩ := what_cells hkey
   unfold whatC at hkey hen
   have hbd1 := hout1.lt
   have hbs1 := hrg1.owns.lt
   have hrg2 := fun o => hrg1.kept (World.grownBy_alloc w1 o none) (by simp) (by simp)
   go_wp2_with (first
    | (at_mapUpdate; refine wpList_mapUpdate_own _ rfl _ _ _ 49 rfl 118 3 K Tryz.underlying49 (plainElem Tryz.prog 3) bd _ _ rfl (hout1.alloc _) (by omega) _ _ _ rfl rfl hkey yd yp hv ?_; intro w2 hout2 hg2; go_frame)
    | go_in)
   have hrg3 := (hrg2 _).kept hg2 (fun e => hne (Option.some.inj e).symm) (fun e => by have := Option.some.inj e; omega)
   go_roundw
   case rel =>
    exact ⟨_, cnt1, _, hrg3, by omega, hout2.mono (by omega), merged_step hM hout.isMap (K.key hkey) hat, ((hgw.andThen hg1 (fun j hj => .inl (by cases hj; exact Nat.le_refl _))).andThen (World.grownBy_alloc w1 _ none) (fun j hj => by cases hj)).andThen hg2 (fun j hj => .inr hj)⟩
   case measure => rw [hrg3.left_eq, hrg.left_eq]; exact hlt
theorem copyW_nil (pd : Option Nat) (w : World) :
  Calls Tryz.prog 75 #[.map pd, .map none] w fun e w' => e = .returned (.tuple #[]) ∧ w' = w.alloc (.mapIter none 0 #[] 0) := by
 have hrg := run_range_nilMap (P := Tryz.prog) w 49 _ _ Tryz.underlying49
 have hnx : ∀ ty, (Instr.next (.pointer (some ⟨w.heap.size, 0, none⟩)) false ty).run Tryz.prog (w.alloc (.mapIter none 0 #[] 0)) = _ := fun ty => run_next_nilMap _ ty 0 0 #[]
 go_enter Tryz.func75, Tryz.ntmps75
 go_wp2
 refine wp_loop_rounds 1 ?_
 rw [rounds_succ]
 go_wp2
 go_end0
 exact ⟨rfl, rfl⟩
theorem copyD_nil (pd : Option Nat) (w : World) :
  Calls Tryz.prog 76 #[.map pd, .map none] w fun e w' => e = .returned (.tuple #[]) ∧ w' = w.alloc (.mapIter none 0 #[] 0) := by
 have hrg := run_range_nilMap (P := Tryz.prog) w 50 _ _ Tryz.underlying50
 have hnx : ∀ ty, (Instr.next (.pointer (some ⟨w.heap.size, 0, none⟩)) false ty).run Tryz.prog (w.alloc (.mapIter none 0 #[] 0)) = _ := fun ty => run_next_nilMap _ ty 0 0 #[]
 go_enter Tryz.func76, Tryz.ntmps76
 go_wp2
 refine wp_loop_rounds 1 ?_
 rw [rounds_succ]
 go_wp2
 go_end0
 exact ⟨rfl, rfl⟩
theorem lit_u8 {d : Nat} {a : Value} {L : List Lit} (h : Tryz.prog.keyLits (d + 1) 5 [a] = some L) : ∃ k, a = .int .u8 k := by
 cases a <;> simp [Program.keyLits, Tryz.underlying5] at h ⊢
 exact h.1.1
theorem dig_cells {v : Value} {l : Lit} (h : keyOf Tryz.prog 23 v = some l) : ∃ a, v = .agg (dgC a) := by
 obtain ⟨xs, L, rfl, hL, _⟩ := keyOf_top (by kernel_rfl) h
 have c : Tryz.prog.cellsOf 23 = 16 := by kernel_rfl
 have c5 : Tryz.prog.cellsOf 5 = 1 := by kernel_rfl
 have hr : List.range 16 = [0, 1, 2, 3, 4, 5, 6, 7, 8, 9, 10, 11, 12, 13, 14, 15] := rfl
 obtain ⟨d, hd⟩ : ∃ d, Tryz.prog.types.size = d + 1 := ⟨Tryz.prog.types.size - 1, by kernel_rfl⟩
 rw [hd] at hL
 obtain ⟨l, rfl⟩ : ∃ l, xs = List.toArray l := ⟨xs.toList, by simp⟩
 simp only [List.toList_toArray] at hL
 have hl : l.length = 16 := by
  unfold Program.keyLits at hL
  rw [Tryz.underlying23] at hL
  simp only at hL
  split at hL
  ·next h2 => rw [h2, c]
  ·cases hL
 match l, hl, hL with
 | [x0, x1, x2, x3, x4, x5, x6, x7, x8, x9, x10, x11, x12, x13, x14, x15], _, hL =>
  unfold Program.keyLits at hL
  rw [Tryz.underlying23] at hL
  simp [c, c5, hr, Option.bind_eq_some_iff] at hL
  obtain ⟨_, h0, _, ⟨_, h1, _, ⟨_, h2, _, ⟨_, h3, _, ⟨_, h4, _, ⟨_, h5, _, ⟨_, h6, _, ⟨_, h7, _, ⟨_, h8, _, ⟨_, h9, _, ⟨_, h10, _, ⟨_, h11, _, ⟨_, h12, _, ⟨_, h13, _, ⟨_, h14, _, ⟨_, h15, _⟩, _⟩, _⟩, _⟩, _⟩, _⟩, _⟩, _⟩, _⟩, _⟩, _⟩, _⟩, _⟩, _⟩, _⟩, _⟩ := hL
  obtain ⟨k0, rfl⟩ := lit_u8 h0
  obtain ⟨k1, rfl⟩ := lit_u8 h1
  obtain ⟨k2, rfl⟩ := lit_u8 h2
  obtain ⟨k3, rfl⟩ := lit_u8 h3
  obtain ⟨k4, rfl⟩ := lit_u8 h4
  obtain ⟨k5, rfl⟩ := lit_u8 h5
  obtain ⟨k6, rfl⟩ := lit_u8 h6
  obtain ⟨k7, rfl⟩ := lit_u8 h7
  obtain ⟨k8, rfl⟩ := lit_u8 h8
  obtain ⟨k9, rfl⟩ := lit_u8 h9
  obtain ⟨k10, rfl⟩ := lit_u8 h10
  obtain ⟨k11, rfl⟩ := lit_u8 h11
  obtain ⟨k12, rfl⟩ := lit_u8 h12
  obtain ⟨k13, rfl⟩ := lit_u8 h13
  obtain ⟨k14, rfl⟩ := lit_u8 h14
  obtain ⟨k15, rfl⟩ := lit_u8 h15
  exact ⟨[k0, k1, k2, k3, k4, k5, k6, k7, k8, k9, k10, k11, k12, k13, k14, k15], rfl⟩
theorem grown_ext {w w' : World} (h : Ext w w') : w.grownBy w' none := by
 have k : Below w.heap.size w w' := h
 exact ⟨k.os, k.tape, k.output, k.size, fun i hi _ => k.block i hi⟩
theorem copyD_any {H : Type} (bd bs nd ns : Nat) (Dd Ds : DataW H) (w : World) (hd : w.ownsMap Tryz.prog 23 (plainElem Tryz.prog 4) bd nd Dd) (hs : w.ownsMap Tryz.prog 23 (plainElem Tryz.prog 4) bs ns Ds) (hne : bd ≠ bs) (hroom : nd + Maps.size Ds ≤ maxLen) :
  Calls Tryz.prog 76 #[.map (some bd), .map (some bs)] w fun e w' => e = .returned (.tuple #[]) ∧ w'.ownsMap Tryz.prog 23 (plainElem Tryz.prog 4) bd (nd + Maps.size Ds) (Lib.mergeD Dd Ds) ∧ w'.ownsMap Tryz.prog 23 (plainElem Tryz.prog 4) bs ns Ds ∧ w.grownBy w' (some bd) := by
 have hbd := hd.lt
 have hbs := hs.lt
 have K := key_dig
 go_enter Tryz.func76, Tryz.ntmps76
 go_wp2_with (first
  | (at_range; refine wpList_range_own _ rfl _ 50 rfl 23 4 K Tryz.underlying50 (plainElem Tryz.prog 4) bs ns _ rfl hs ?_; intro w0 hrg0 hg0 hs0)
  | go_in)
 go_frame
 go_loopw [8] (fun _ wr => ∃ (left : Lit → Bool) (cnt : Nat) (Dout : DataW H), wr.ranges Tryz.prog 23 (plainElem Tryz.prog 4) bs w.heap.size ns Ds left cnt ∧ cnt ≤ Maps.size Ds ∧
   wr.ownsMap Tryz.prog 23 (plainElem Tryz.prog 4) bd (nd + (Maps.size Ds - cnt)) Dout ∧ Merged Dout Dd Ds left ∧ w.grownBy wr (some bd))
  (fun _ wr => wr.rangeLeft bs w.heap.size)
 case atStart =>
  exact ⟨_, _, Dd, hrg0, Nat.le_refl _, (hd.kept hg0 (by simp)).mono (by omega), merged_start Dd Ds, hg0.but _⟩
 case round =>
  obtain ⟨left, cnt, Dout, hrg, hcs, hout, hM, hgw⟩ := hrel
  go_wp2_with (first
   | (at_next; refine wpList_next_ranges _ rfl _ rfl 23 K (plainElem Tryz.prog 4) id id (fun key _ _ => ⟨key, rfl⟩) (fun v _ _ => ⟨v, rfl⟩) bs w.heap.size ns _ _ _ rfl hrg ?_ ?_)
   | go_in)
  ·-- nothing is left
   intro hc0 hl0
   go_wp2
   go_end0
   subst hc0
   have e := merged_eq K.one hM hl0 (hout.canon K) (hd.canonK K) (hs.canonK K)
   subst e
   exact ⟨rfl, by simpa using hout, hrg.owns, hgw⟩
  ·-- an entry has come
   intro x c kl yd yp w1 cnt1 hkey hlx hv hat hrg1 hlt hg1 hs1 hen
   have hout1 := hout.kept hg1 (fun e => by have := Option.some.inj e; omega)
   obtain ⟨a, rfl⟩ := dig_cells hkey
   have hft : fitsRow 16 (dgC a) = true := by simp [fitsRow, dgC, Value.oneCell']
   have hbd1 := hout1.lt
   have hbs1 := hrg1.owns.lt
   have hs1a := Nat.le_of_eq hs1
   have hs1b := Nat.le_of_eq hs1.symm
   clear hs1
   go_upto_region 3 with (go_in)
   refine wp_world (fun W => Ext w1 W ∧ RowAt W w1.heap.size (dgC a)) ⟨(by (with_reducible repeat first|exact eR _|apply eD|apply eN|apply eA|apply eO|apply eS|apply eC);all_goals first|omega|simp <;> omega), RowAt.store (RowAt.new _ _ _) rfl⟩ ?_
   rintro W2 ⟨hx2, hr2⟩
   have hgn := grown_ext hx2
   have hout2 := hout1.kept hgn (by simp)
   have hrg2 := hrg1.kept hgn (by simp) (by simp)
   have k0 : rowOf W2 w1.heap.size 0 16 = some (dgC a) := hr2.all rfl (by omega)
   have hbd2 := hout2.lt
   have hbs2 := hrg2.owns.lt
   go_wp2_with (first
    | (at_mapUpdate; refine wpList_mapUpdate_own _ rfl _ _ _ 50 rfl 23 4 K Tryz.underlying50 (plainElem Tryz.prog 4) bd _ _ rfl hout2 (by omega) _ _ _ rfl rfl hkey yd yp hv ?_; intro w3 hout3 hg3; go_frame)
    | go_in)
   have hrg3 := hrg2.kept hg3 (fun e => hne (Option.some.inj e).symm) (fun e => by have := Option.some.inj e; omega)
   go_roundw
   case rel =>
    exact ⟨_, cnt1, _, hrg3, by omega, hout3.mono (by omega), merged_step hM hout.isMap (K.key hkey) hat, ((hgw.andThen hg1 (fun j hj => .inl (by cases hj; exact Nat.le_refl _))).andThen hgn (fun j hj => by cases hj)).andThen hg3 (fun j hj => .inr hj)⟩
   case measure => rw [hrg3.left_eq, hrg.left_eq]; exact hlt
end Go.Proofs.YtpojnhikgjcgmaaGreatDoor