/- Sets of bytes within bounds, plain. -/
import Derived.RangeFuncNested
import Derived.RangeFuncBound
import Derived.RangeFuncCalls
import Derived.RangeFuncLeaves
import Derived.Shelf.Abstract
import Derived.WalkKit
import Derived.WalkSpells
import Derived.WalkLawsBesides
import Derived.Deep.QuietTactic
import Derived.BigQuiet
import Derived.Shelf.RegionOpen
import Derived.OwnWalkIn
import Derived.TacticsInMore
import Derived.LoopNIn
import Derived.LoopIn
import Derived.Test.YtmgekdggahoboaaGreatDoorVLy
import Derived.Test.YtmgekdggahoboaaGreatDoorVSoF
import Derived.Test.YtmgekdggahoboaaGreatDoorVLz
import Derived.Lib.RowBridge
import Derived.Sort.QuietThIn
import Derived.Sort.QuietTacIn
import Derived.Sort.BigQuietIn
set_option maxRecDepth 100000
set_option maxHeartbeats 64000000
set_option linter.unusedVariables false
set_option linter.unusedSimpArgs false
namespace Go.Proofs.YtmgekdggahoboaaGreatDoor
open Go.RowKit
section
variable {F : Fence} {n : Nat} {P : Program}
def recOf (fn : FuncId) (tmps : Array Value) (ps : Array Tmp) (assign body : Code) (D : Nat) (st : LoopState) (pe : Option Code) : Loop :=
 { state := st, pending := pe, fn, tmps, params := ps, assign, body, defers := D }
def But (k : Nat) (w w' : World) : Prop := w.grownBy w' (some k)
theorem rf_enter {g : Operand} {ps : Array Tmp} {assign body : Code} {Q : Exit → Act → World → Prop} {a : Act} {w : World}
  (hro : F.round = none) (h1 : 1 ≤ n) {gf : Nat} {lb : Array Value} (hg : a.eval g = .func (.func gf) #[] lb) (hFg : F.fn gf) (eg : ∀ args w, (callFunc gf args).run P w = .ok (.enter gf args) w)
  (h : ∀ fn WL, F.fn fn → Ext w WL → WL.heap.size = w.heap.size + 2 → WL.heap[w.heap.size + 1]? = some (.loop (recOf fn a.tmps ps assign body w.heap.size .ready none)) →
   WL.heap[w.heap.size]? = some (.deferred (some [])) → CallsIn F (n - 1) P gf (#[.func (.yield (w.heap.size + 1)) #[] #[]] ++ lb) WL
   fun e W' => (∃ v, e = .returned v) ∧
    ((W'.heap[w.heap.size + 1]? = some (.loop (recOf fn a.tmps ps assign body w.heap.size .ready none)) ∧
     ∀ W'', But (w.heap.size + 1) W' W'' → Q .normal { a with defers := { target := .collected w.heap.size, args := #[] } :: a.defers } W'') ∨
     ∃ c, W'.heap[w.heap.size + 1]? = some (.loop (recOf fn a.tmps ps assign body w.heap.size .done (some c))) ∧
     ∀ W'', But (w.heap.size + 1) W' W'' → c.wpIn F n P Q { a with defers := { target := .collected w.heap.size, args := #[] } :: a.defers } W'')) :
  (Code.rangeFunc g ps assign body).wpIn F n P Q a w := by
 refine wpIn_rangeFunc ?_
 intro fn hfn
 rw [hro]
 obtain ⟨W1, hW1⟩ : ∃ W1, (w.alloc (.deferred (some []))).alloc (.loop (recOf fn a.tmps ps assign body w.heap.size .ready none)) = W1 := ⟨_, rfl⟩
 refine ⟨w.heap.size + 1, [{ target := .collected w.heap.size, args := #[] }], W1, { target := .fn (.func gf) lb, args := #[.func (.yield (w.heap.size + 1)) #[] #[]] }, W1, gf,
  #[.func (.yield (w.heap.size + 1)) #[] #[]] ++ lb, W1, ?_, ?_, ?_, ?_, fun _ => h1, ?_⟩
 ·rw [← hW1]; exact run_enterLoop_outer _ _ _ _ _
 ·simp only [resolve, hg]
  simp [go_sem]
 ·intro f' hf'; simp [Target.leads] at hf'; subst hf'; exact hFg
 ·simp [invoke, go_sem, eg]
 ·have hE : Ext w W1 := by rw [← hW1]; exact ((eR _).alloc _).alloc _
  have hS : W1.heap.size = w.heap.size + 2 := by rw [← hW1]; simp
  have hl0 : W1.heap[w.heap.size + 1]? = some (.loop (recOf fn a.tmps ps assign body w.heap.size .ready none)) := by
   rw [← hW1]; have := World.alloc_heap_new (w.alloc (.deferred (some []))) (.loop (recOf fn a.tmps ps assign body w.heap.size .ready none)); rwa [World.size_alloc] at this
  have hD0 : W1.heap[w.heap.size]? = some (.deferred (some [])) := by
   rw [← hW1]; exact (Below.heap_alloc _ _ _ (by simp)).trans (World.alloc_heap_new w _)
  exact (h fn W1 hfn hE hS hl0 hD0).mono fun e W' ⟨⟨v, hv⟩, hh⟩ => by
   subst hv
   rcases hh with ⟨hl, hq⟩ | ⟨c, hl, hq⟩
   ·exact ⟨none, _, by have := run_endLoop (P := P) hl (by simp [recOf]); exact this, hq _ (grownBy_putObj' _ _ _)⟩
   ·exact ⟨some c, _, by have := run_endLoop (P := P) hl (by simp [recOf]); exact this, hq _ (grownBy_putObj' _ _ _)⟩
def rfPost (l : Nat) (R : Ending → World → Prop) (fn : FuncId) (tmps : Array Value) (ps : Array Tmp) (assign body : Code) (D : Nat) : Exit → Act → World → Prop
 | .normal, _, W3 => W3.heap[l]? = some (.loop (recOf fn tmps ps assign body D .busy none)) ∧
   ∀ W4, But l W3 W4 → W4.heap[l]? = some (.loop (recOf fn tmps ps assign body D .ready none)) → R (.returned (.bool true)) W4
 | .ret, _, W3 => W3.heap[l]? = some (.loop (recOf fn tmps ps assign body D .busy none)) ∧
   ∀ W4, But l W3 W4 → W4.heap[l]? = some (.loop (recOf fn tmps ps assign body D .done (some .ret))) → R (.returned (.bool false)) W4
 | .exit id, _, W3 => W3.heap[l]? = some (.loop (recOf fn tmps ps assign body D .busy none)) ∧
   ∀ W4, But l W3 W4 → W4.heap[l]? = some (.loop (recOf fn tmps ps assign body D .done (some (.exit id)))) → R (.returned (.bool false)) W4
 | .goto t, _, W3 => W3.heap[l]? = some (.loop (recOf fn tmps ps assign body D .busy none)) ∧
   ∀ W4, But l W3 W4 → W4.heap[l]? = some (.loop (recOf fn tmps ps assign body D .done (some (.goto t)))) → R (.returned (.bool false)) W4
 | .panic _, _, _ => False
 | .outgrown, _, _ => False
theorem rf_round {l : Nat} {fn : FuncId} {tmps : Array Value} {ps : Array Tmp} {assign body : Code} {D : Nat} {W : World} {args : Array Value} {R : Ending → World → Prop}
  (hl : W.heap[l]? = some (.loop (recOf fn tmps ps assign body D .ready none))) (hF : F.fn fn) (hps : args.size = ps.size)
  (h : assign.wpIn (F.inRound l) n P (Exit.then (fun a₁ W1 => W1.heap[l]? = some (.loop (recOf fn tmps ps assign body D .ready none)) ∧
    ∀ W2, But l W1 W2 → W2.heap.size = W1.heap.size → W2.heap[l]? = some (.loop (recOf fn tmps ps assign body D .busy none)) →
     body.wpIn (F.inRound l) n P (rfPost l R fn tmps ps assign body D) a₁ W2) (fun _ _ _ => False))
   { tmps := (ps.zip args).foldl (fun t (p, v) => t.setIfInBounds p v) tmps, defers := [] } W) :
  YieldAt F n P l args W R := by
 refine ⟨fn, _, assign, body, run_yield hl hps, roundIn_of_wpIn hF (wpIn_mono h ?_)⟩
 rintro e a1 W1 hp
 cases e with
 | normal =>
  obtain ⟨hl1, hb⟩ := hp
  have hlt : l < W1.heap.size := (Array.getElem?_eq_some_iff.1 hl1).1
  refine ⟨_, run_beginRound hl1 rfl, ?_⟩
  refine wpIn_mono (hb _ (grownBy_putObj' _ _ _) (by simp) (World.putObj_heap_same hlt)) ?_
  rintro e a3 W3 hp3
  cases e with
  | normal =>
   obtain ⟨hl3, hr⟩ := hp3
   exact ⟨_, _, run_endRound none hl3, hr _ (grownBy_putObj' _ _ _) (World.putObj_heap_same (Array.getElem?_eq_some_iff.1 hl3).1)⟩
  | ret =>
   obtain ⟨hl3, hr⟩ := hp3
   exact ⟨_, _, run_endRound (some .ret) hl3, hr _ (grownBy_putObj' _ _ _) (World.putObj_heap_same (Array.getElem?_eq_some_iff.1 hl3).1)⟩
  | exit id =>
   obtain ⟨hl3, hr⟩ := hp3
   exact ⟨_, _, run_endRound (some (.exit id)) hl3, hr _ (grownBy_putObj' _ _ _) (World.putObj_heap_same (Array.getElem?_eq_some_iff.1 hl3).1)⟩
  | goto t =>
   obtain ⟨hl3, hr⟩ := hp3
   exact ⟨_, _, run_endRound (some (.goto t)) hl3, hr _ (grownBy_putObj' _ _ _) (World.putObj_heap_same (Array.getElem?_eq_some_iff.1 hl3).1)⟩
  | panic ch => exact hp3.elim
  | outgrown => exact hp3.elim
 | _ => exact hp.elim
end
structure ButS (S : Nat → Prop) (w w' : World) : Prop where
 os : w'.os = w.os
 tape : w'.tape = w.tape
 output : w'.output = w.output
 size : w.heap.size ≤ w'.heap.size
 block : ∀ k, k < w.heap.size → ¬ S k → w'.heap[k]? = w.heap[k]?
section
variable {S S' : Nat → Prop} {a b c : World}
theorem ButS.refl (S : Nat → Prop) (w : World) : ButS S w w := ⟨rfl, rfl, rfl, Nat.le_refl _, fun _ _ _ => rfl⟩
theorem ButS.trans (h : ButS S a b) (k : ButS S b c) : ButS S a c :=
 ⟨k.os.trans h.os, k.tape.trans h.tape, k.output.trans h.output, Nat.le_trans h.size k.size, fun i hi hs => (k.block i (Nat.lt_of_lt_of_le hi h.size) hs).trans (h.block i hi hs)⟩
theorem ButS.mono (h : ButS S a b) (hs : ∀ k, k < a.heap.size → S k → S' k) : ButS S' a b := ⟨h.os, h.tape, h.output, h.size, fun i hi hn => h.block i hi (fun e => hn (hs i hi e))⟩
theorem ButS.drew (h : ButS S a b) : ButS S a b.drew := ⟨h.os, h.tape, h.output, h.size, h.block⟩
theorem ButS.of_ext (h : Ext a b) : ButS S a b := by
 have k : Below a.heap.size a b := h
 exact ⟨k.os, k.tape, k.output, k.size, fun i hi _ => k.block i hi⟩
theorem ButS.ext (h : ButS S a b) (k : Ext b c) : ButS S a c := h.trans (ButS.of_ext k)
theorem ButS.alloc (h : ButS S a b) (o : Obj) : ButS S a (b.alloc o) := h.trans (ButS.of_ext (Ext.alloc (eR _) o))
theorem ButS.setCell (h : ButS S a b) {p : Addr} (hp : S p.block ∨ a.heap.size ≤ p.block) (u : Value) : ButS S a (b.setCell p u) :=
 ⟨h.os, h.tape, h.output, by simpa [World.setCell] using h.size, fun i hi hn => (Below.heap_setCell b p u i (fun e => by
  subst e
  rcases hp with hp | hp
  ·exact hn hp
  ·omega)).trans (h.block i hi hn)⟩
theorem ButS.of_but {k : Nat} (h : But k a b) (hk : a.heap.size ≤ k ∨ S k) : ButS S a b :=
 ⟨h.os, h.tape, h.output, h.size, fun i hi hn => h.block i hi (fun e => by
  cases e
  rcases hk with hk | hk
  ·omega
  ·exact hn hk)⟩
theorem ButS.toExt (h : ButS S a b) (hs : ∀ k, k < a.heap.size → ¬ S k) : Ext a b := ⟨h.os, h.tape, h.output, h.size, fun i hi => h.block i hi (hs i hi)⟩
theorem ButS.cell (h : ButS S a b) {p : Addr} (hp : p.block < a.heap.size) (hn : ¬ S p.block) : b.cell? p = a.cell? p := World.cell?_of_block (w := a) (h.block p.block hp hn)
theorem ButS.boxed (h : ButS S a b) {B : Nat} {t : TypeId} {v : Value} (hb : Boxed a B t v) (hn : ¬ S B) : Boxed b B t v := (h.block B hb.lt hn).trans hb
end
theorem ButS.back {S : Nat → Prop} {l : Nat} {a b : World} (h : ButS (fun k => S k ∨ k = l) a b) (he : b.heap[l]? = a.heap[l]?) : ButS S a b :=
 ⟨h.os, h.tape, h.output, h.size, fun k hk hn => by
  by_cases e : k = l
  ·subst e; exact he
  ·exact h.block k hk (fun hh => hh.elim hn e)⟩
theorem boxed_but {w w1 : World} {B : Nat} {t : TypeId} {v : Value} (h : Boxed w B t v) {l : Nat} (hb : But l w w1) (hne : B ≠ l) : Boxed w1 B t v := (hb.block B h.lt (fun e => hne (by injection e))).trans h
theorem new_but {w w1 : World} {l : Nat} {o : Obj} (hb : But l (w.alloc o) w1) (hne : w.heap.size ≠ l) : w1.heap[w.heap.size]? = some o :=
 (hb.block w.heap.size (by simp) (fun e => hne (by injection e))).trans (World.alloc_heap_new w o)
theorem cell_of_cells {w : World} {b : Nat} {cs : Array Value} {t : TypeId} (h : w.heap[b]? = some (.cells cs t (0, 0))) (i : Nat) : w.cell? ⟨b, i, none⟩ = cs[i]? := by simp [World.cell?, h]
end Go.Proofs.YtmgekdggahoboaaGreatDoor

namespace Go.Proofs.YtmgekdggahoboaaGreatDoor
open Go.RowKit Go.Shelf
open Go.Proofs
open Go.Proofs.Sp (Sp)
attribute [local go_sem] Oper.semAt_some
section
variable {F : Fence} {nF : Nat} {P : Program} {w : World} {ops : Array Oper} {rest : List Oper} {o : Oper} {a : Act} {Q : Exit → Act → World → Prop} {α : Type} {enc : α → List Value} {t e : TypeId} {size bytes : Nat}
theorem app_fromIn (T : ElemTy P t e size bytes) (E : EncTy enc size) (hgd : o.guard = none) (s x : Operand) (ho : o.op = .call { callee := .builtin .append, args := #[s, x], argTypes := #[t, t] })
  (base : Nat) (A : Option Addr) (c : Nat) (l : List α) (hs : a.eval s = .slice A l.length c) (hown : Owns e size enc base w A c l)
  (ad : Addr) (m c' : Nat) (news : List α) (hx : a.eval x = .slice (some ad) m c') (hm : news.length = m) (hnews : ∀ j u, (news.flatMap enc)[j]? = some u → w.cell? (ad.add j) = some u)
  (h63 : l.length + m ≤ 140737488355328) (hbytes : (l.length + m) * bytes ≤ 140737488355328) (hbase : base ≤ w.heap.size)
  (h : ∀ (A' : Option Addr) (c' : Nat) (l' : List α) (w' : World), Hid (l' = l ++ news) → Owns e size enc base w' A' c' l' → Below base w w' → l'.length ≤ l.length + m → l.length + m ≤ l'.length → w.grownBy w' (Value.slice A l.length c).ownBlock → wpListIn F nF P ops Q rest (a.put o.dst (.slice A' l'.length c')) w') :
  wpListIn F nF P ops Q (o :: rest) a w := by
 obtain ⟨i, z, hi, hz, h1, h2, h3⟩ := T.parts
 subst hm
 refine wpListIn_append_own w hgd s x t ho base e i z size bytes T.ut hi hz h1 h2 h3 T.pos _ l.length (l.flatMap enc) hs hown ad news.length c' (news.flatMap enc) hx (E.flat_len news) hnews (E.flat_one news) (by unfold maxLen; omega) hbytes hbase ?_
 intro v' w' k1 k2 k3
 have hl : (l ++ news).length = l.length + news.length := List.length_append
 have hv : ∃ A' c'', v' = .slice A' (l ++ news).length c'' := by
  rcases k1.2 with ⟨rfl, q⟩ | ⟨g, cap, cur, rfl, _⟩
  ·exact ⟨none, 0, by rw [hl, q]⟩
  ·exact ⟨_, _, by rw [hl]⟩
 obtain ⟨A', c'', rfl⟩ := hv
 refine h A' c'' (l ++ news) w' (lh rfl) ?_ (Below.of_grownBy k2 hown.blk hbase) (by omega) (by omega) k2
 ·unfold Owns
  rw [List.flatMap_append, hl]
  rw [hl] at k1
  exact k1
end
theorem Owns.butS {α : Type} {e : TypeId} {size base : Nat} {enc : α → List Value} {w w' : World} {A : Option Addr} {c : Nat} {l : List α} (h : Owns e size enc base w A c l) {S : Nat → Prop} (hb : ButS S w w') (hS : ∀ k, base ≤ k → ¬ S k) : Owns e size enc base w' A c l := by
 refine ⟨h.1, ?_⟩
 rcases h.2 with k | ⟨g, cap, cur, h1, h2, h3, h4⟩
 ·exact .inl k
 ·exact .inr ⟨g, cap, cur, h1, h2, (hb.block g (Array.getElem?_eq_some_iff.1 h3).1 (hS g h2)).trans h3, h4⟩
theorem Owns.but {α : Type} {e : TypeId} {size base : Nat} {enc : α → List Value} {w w' : World} {A : Option Addr} {c : Nat} {l : List α} (h : Owns e size enc base w A c l) {k : Nat} (hb : But k w w') (hk : k < base) : Owns e size enc base w' A c l :=
 h.butS (S := (· = k)) (ButS.of_but hb (.inr rfl)) (fun j hj e => by omega)
theorem Reads.butS {α : Type} {size : Nat} {enc : α → List Value} {w w' : World} {B : Nat} {A : Option Addr} {l : List α} (h : Reads size enc w B A l) {S : Nat → Prop} (hx : ButS S w w') (hB : B ≤ w.heap.size) (hS : ∀ k, k < B → ¬ S k) : Reads size enc w' B A l := by
 intro h0
 obtain ⟨b, off, h1, h2, h3⟩ := h h0
 exact ⟨b, off, h1, h2, fun i hi j v hv => (hx.cell (p := ⟨b, off + i * size + j, none⟩) (by show b < _; omega) (hS b h2)).trans (h3 i hi j v hv)⟩
theorem ButS.of_grownBy {S : Nat → Prop} {w w' : World} {row : Option Nat} (h : w.grownBy w' row) (hr : ∀ k, row = some k → S k) : ButS S w w' :=
 ⟨h.os, h.tape, h.output, h.size, fun k hk hn => h.block k hk (fun e => hn (hr k e.symm))⟩
theorem new_cellsAt {w : World} {b : Nat} (hb : b = w.heap.size) (cs : Array Value) (t : TypeId) : ∀ j u, cs.toList[j]? = some u → (w.alloc (.cells cs t)).cell? ((⟨b, 0, none⟩ : Addr).add j) = some u := by
 subst hb
 exact new_cells w cs t
theorem Boxed.ext {w w' : World} {B : Nat} {t : TypeId} {v : Value} (h : Boxed w B t v) (hx : Ext w w') : Boxed w' B t v := (hx.below.block B h.lt).trans h
theorem values1_in (F : Fence) (n : Nat) (hF : F.fn 244) (hro : F.round = none) (hn : 1 ≤ n) (l bl n0 : Nat) (A : Option Addr) (c : Nat) (ls : List Sp) (W : World)
  (hlen : ls.length ≤ 140737488355328) (hl : Boxed W bl 94 (.slice A ls.length c)) (hr : ReadsSp W n0 A ls) (hn0 : n0 ≤ W.heap.size) (S : Nat → Prop) (hS : ∀ k, k < n0 → ¬ S k) (hSb : ¬ S bl)
  (J : Nat → World → Prop) (h0 : J 0 W) (hJ : ∀ k W1 W2, J k W1 → Ext W1 W2 → J k W2)
  (hY : ∀ k (h : k < ls.length) W1, J k W1 → ButS S W W1 → YieldAt F (n - 1) Tryz.prog l #[.agg #[.int .i64 ls[k].1, .int .i64 ls[k].2]] W1 fun e W' => e = .returned (.bool true) ∧ J (k + 1) W' ∧ ButS S W1 W') :
  CallsIn F n Tryz.prog 244 #[.func (.yield l) #[] #[], .pointer (some ⟨bl, 0, none⟩)] W fun e W' => (∃ v, e = .returned v) ∧ J ls.length W' ∧ ButS S W W' := by
 refine callsIn_of_wp Tryz.func244 rfl hF ?_ hro
 simp only [Tryz.ntmps244, List.size_toArray, List.length_cons, List.length_nil, Nat.reduceAdd, Nat.reduceSub, Array.replicate_succ, Array.replicate_zero, List.push_toArray, List.append_toArray, List.nil_append, List.cons_append]
 have hcl := hl.cell
 have HY := lh hY
 have HJ := lh hJ
 have H0 := lh h0
 have HR := lh hr
 have HSn := lh hS
 have HSb := lh hSb
 clear hY hJ h0 hr hS hSb
 gi_wp2
 gi_loopw [7] (fun i wr => ∃ k : Nat, k ≤ ls.length ∧ i = .int .i64 k ∧ Hid (J k wr) ∧ Hid (ButS S W wr)) (fun i _ => ls.length - (intOf i).toNat)
 case atStart => exact ⟨0, Nat.zero_le _, rfl, H0, lh (ButS.refl _ _)⟩
 case round =>
  obtain ⟨k, hk, rfl, HJk, HB⟩ := hrel
  by_cases hlt : k < ls.length
  ·obtain ⟨b, off, rfl, hb, c1, c2⟩ := ReadsSp.cell (HR.out.butS HB.out hn0 HSn.out) k hlt
   have hsz := HB.out.size
   obtain ⟨fn, tmps, assign, body, hy, hR⟩ := HY.out k hlt (wr.alloc (.cells #[.int .i64 ls[k].1, .int .i64 ls[k].2] 54)) (HJ.out k _ _ HJk.out ((eR _).alloc _)) (HB.out.alloc _)
   have HRR := lh hR
   clear hR
   generalize ls[k] = s at *
   gi_wp2
   refine HRR.out.mono ?_
   rintro e W' ⟨rfl, hj, hb'⟩
   have HJ2 := lh hj
   have HB2 := lh ((HB.out.alloc _).trans hb')
   clear hj hb' hy HRR
   gi_wp2
   go_roundw
   case rel => exact ⟨k + 1, by omega, by go_num, HJ2, HB2⟩
   case measure => simp [intOf]; omega
  ·have e : k = ls.length := by omega
   subst e
   gi_wp2
   go_end0
   exact ⟨⟨_, rfl⟩, HJk.out, HB.out⟩
theorem appendSeq_ok (bl : Nat) (A : Option Addr) (c : Nat) (ls : List Sp) (w : World) (hlen : ls.length * 16 ≤ 140737488355328) (hbl : Boxed w bl 94 (.slice A ls.length c)) (hr : ReadsSp w w.heap.size A ls) :
  Calls Tryz.prog 280 #[.slice none 0 0, .func (.func 244) #[] #[.pointer (some ⟨bl, 0, none⟩)]] w fun e w' =>
   ∃ A' c', e = .returned (.slice A' ls.length c') ∧ OwnsSp w.heap.size w' A' c' ls ∧ Ext w w' := by
 have HP := lh hr
 have HBL := lh hbl
 have hbl' := hbl.lt
 clear hr hbl
 refine (callsIn_wide (n := 3)).1 ?_
 refine callsIn_of_wp_marks Tryz.func280 rfl trivial ?_ rfl
 simp only [Tryz.ntmps280, List.size_toArray, List.length_cons, List.length_nil, Nat.reduceAdd, Nat.reduceSub, Array.replicate_succ, Array.replicate_zero, List.push_toArray, List.append_toArray, List.nil_append, List.cons_append]
 gi_wp2
 have b1 : Boxed (w.alloc (.cells #[.slice none 0 0] 94)) w.heap.size 94 (.slice none 0 0) := Boxed.new w 94 _
 have b2 : Boxed (w.alloc (.cells #[.slice none 0 0] 94)) bl 94 (.slice A ls.length c) := HBL.out.alloc _
 have bs : (w.alloc (.cells #[.slice none 0 0] 94)).heap.size = w.heap.size + 1 := by simp
 have bx : Ext w (w.alloc (.cells #[.slice none 0 0] 94)) := (eR _).alloc _
 generalize (w.alloc (.cells #[.slice none 0 0] 94)) = W0 at b1 b2 bs bx ⊢
 refine rf_enter rfl (by omega) (gf := 244) (lb := #[.pointer (some ⟨bl, 0, none⟩)]) rfl trivial (enters_of Tryz.func244 (by kernel_rfl) rfl) ?_
 intro fn WL hfn hE hEs hl0 hD0
 have hEa := Nat.le_of_eq hEs
 have hEb := Nat.le_of_eq hEs.symm
 clear hEs
 refine CallsIn.mono (values1_in Fence.wide (3 - 1) trivial rfl (by omega) (W0.heap.size + 1) bl w.heap.size A c ls WL (by omega) (Boxed.ext b2 hE) (HP.out.ext (bx.trans hE) (Nat.le_refl _)) (by omega)
  (fun k => k = w.heap.size ∨ WL.heap.size ≤ k) (fun k hk => by omega) (by omega)
  (fun k W => ∃ A' c' l', Hid (l' = ls.take k) ∧ Boxed W w.heap.size 94 (.slice A' l'.length c') ∧ OwnsSp WL.heap.size W A' c' l')
  ⟨none, 0, [], lh rfl, Boxed.ext b1 hE, Owns.nil _ _ _ _ _⟩ (fun k W1 W2 ⟨A', c', l', h1, h2, h3⟩ hx => ⟨A', c', l', h1, Boxed.ext h2 hx, h3.ext hx⟩) ?hY) ?post
 case hY =>
  rintro k hk W1 ⟨A', c', l', HL, hbo, ho⟩ hBS
  have hsz1 := hBS.size
  have hrec := (hBS.block (W0.heap.size + 1) (by omega) (by omega)).trans hl0
  have hlt := (Array.getElem?_eq_some_iff.1 hrec).1
  have hll1 : l'.length ≤ k := by rw [HL.out, List.length_take]; omega
  have hll2 : k ≤ l'.length := by rw [HL.out, List.length_take]; omega
  have HTK : Hid (ls.take (k + 1) = ls.take k ++ [ls[k]]) := lh (List.take_succ_eq_append_getElem hk)
  generalize ls[k] = s at *
  obtain ⟨s1, s2⟩ := s
  refine rf_round hrec hfn rfl ?_
  have HREC := lh hrec
  have HBS := lh bs
  clear hrec bs
  gi_wp2
  refine ⟨(Below.heap_alloc _ _ _ hlt).trans HREC.out, ?_⟩
  intro W2 hb2 hs2 hr2
  have hbp2 : Boxed W2 w.heap.size 94 (.slice A' l'.length c') := boxed_but (hbo.alloc _) hb2 (by have := HBS.out; omega)
  have ho2 : OwnsSp WL.heap.size W2 A' c' l' := (ho.alloc _).but hb2 (by have := HBS.out; omega)
  have hnew := new_but hb2 (by omega)
  have c1 : W2.cell? ⟨W1.heap.size, 0, none⟩ = some (.int .i64 s1) := by rw [cell_of_cells hnew]; rfl
  have c2 : W2.cell? ⟨W1.heap.size, 1, none⟩ = some (.int .i64 s2) := by rw [cell_of_cells hnew]; rfl
  have c3 := hbp2.cell
  have hs2a : W2.heap.size ≤ W1.heap.size + 1 := Nat.le_of_eq hs2
  have hs2b : W1.heap.size + 1 ≤ W2.heap.size := Nat.le_of_eq hs2.symm
  have HB2 := lh hb2
  have HR2 := lh hr2
  have HO2 := lh ho2
  have HP2 := lh hbp2
  clear hb2 hr2 hnew hs2 ho hbo ho2 hbp2
  gi_wp2_with (gi_at_builtin; refine app_fromIn spT spE rfl _ _ rfl WL.heap.size _ _ l' rfl (HO2.out.alloc _) _ 1 _ [(s1, s2)] rfl rfl (new_cellsAt (by omega) _ _) (by omega) (by omega) (by simp; omega) ?_; intro A3 c3' l3 w3 HL3 HO3 hB hl1 hl2 hG; have HO3' := lh HO3; have HB3 := lh hB; have HG3 := lh hG; have hbp3 : Boxed w3 w.heap.size 94 (.slice A' l'.length c') := (hB.block _ (by have := HBS.out; omega)).trans (HP2.out.alloc _); have hc3 := hbp3.cell; have hf3 := hbp3.frozen; have HP3 := lh hbp3; have hsz3 := hB.size; clear HO3 hB hG hbp3)
  refine ⟨?_, ?_⟩
  ·refine (Below.heap_setCell _ _ _ _ (by show _ ≠ w.heap.size; have := HBS.out; omega)).trans ?_
   exact (HB3.out.block _ (by have := HBS.out; omega)).trans ((Below.heap_alloc _ _ _ (by omega)).trans HR2.out)
  intro W4 hb4 hr4
  refine ⟨rfl, ⟨A3, c3', l3, lh (by rw [HL3.out, HTK.out, HL.out]), boxed_but (HP3.out.set _) hb4 (by have := HBS.out; omega), (HO3'.out.other (p := ⟨w.heap.size, 0, none⟩) (by show w.heap.size < _; have := HBS.out; omega) _).but hb4 (by have := HBS.out; omega)⟩, ?_⟩
  refine ButS.back (l := W0.heap.size + 1) ?_ (hr4.trans HREC.out.symm)
  refine ButS.trans (b := W2) (ButS.trans (ButS.of_ext ((Ext.refl W1).alloc _)) (ButS.of_but HB2.out (.inr (.inr rfl)))) ?_
  refine ButS.trans (b := w3) (ButS.trans (ButS.of_ext ((Ext.refl W2).alloc _)) (ButS.of_grownBy HG3.out (fun k e => .inl (.inr (HO2.out.blk k e))))) ?_
  exact ((ButS.refl _ w3).setCell (p := ⟨w.heap.size, 0, none⟩) (.inl (.inl (.inl rfl))) _).trans (ButS.of_but hb4 (.inr (.inr rfl)))
 case post =>
  rintro e W' ⟨⟨v', rfl⟩, ⟨A', c', l', HL, hbo, ho⟩, hB⟩
  have hl' : l' = ls := by rw [HL.out, List.take_length]
  subst hl'
  refine ⟨⟨_, rfl⟩, .inl ⟨(hB.block _ (by omega) (by omega)).trans hl0, ?_⟩⟩
  intro W'' hBut
  have hK : W''.heap[W0.heap.size]? = some (.deferred (some [])) := (hBut.block _ (by have := hB.size; omega) (fun e => by injection e; omega)).trans ((hB.block _ (by omega) (by omega)).trans hD0)
  have hc := (boxed_but hbo hBut (by omega)).cell
  have HE : Hid (Ext w (W''.putObj W0.heap.size (.deferred none))) := by
   refine lh ?_
   have f1 : ButS (fun k => w.heap.size ≤ k) w W' := (ButS.of_ext (bx.trans hE)).trans (hB.mono (fun k _ e => by omega))
   have f2 : ButS (fun k => w.heap.size ≤ k) w W'' := f1.trans (ButS.of_but hBut (.inr (by omega)))
   exact (f2.trans (ButS.of_but (grownBy_putObj' W'' W0.heap.size (.deferred none)) (.inr (by omega)))).toExt (fun k hk => by omega)
  have HO : Hid (OwnsSp w.heap.size (W''.putObj W0.heap.size (.deferred none)) A' c' l') := lh (((ho.but hBut (by omega)).but (grownBy_putObj' W'' W0.heap.size (.deferred none)) (by omega)).lower (by omega))
  have HK := lh hK
  have HBS := lh bs
  clear hK bs hl0 hD0 hbo ho
  gi_wp2
  refine ⟨by simp, .inl ⟨_, _, rfl, run_takeDeferred HK.out, ?_⟩⟩
  exact ⟨_, results_tmp rfl _ _ _, A', c', rfl, HO.out, HE.out⟩
end Go.Proofs.YtmgekdggahoboaaGreatDoor

namespace Go.Proofs.YtmgekdggahoboaaGreatDoor
open Go.RowKit Go.Shelf Go.Sort
open Go.Proofs
open Go.Proofs.Sp (Sp)
abbrev BS (m : Int) := { s : Sp // m ≤ s.1 ∧ s.1 ≤ m + 9223372036854775807 }
instance (m : Int) : Inhabited (BS m) := ⟨⟨(m, 0), by show m ≤ m ∧ m ≤ m + 9223372036854775807; omega⟩⟩
def encBS {m : Int} (x : BS m) : List Value := encSp x.1
def cmpBS {m : Int} (x y : BS m) : Int := x.1.1 - y.1.1
theorem ltBS {m : Int} (x y : BS m) : ltOf cmpBS x y = decide (x.1.1 < y.1.1) := by
 unfold ltOf cmpBS
 rw [Bool.eq_iff_iff, decide_eq_true_iff, decide_eq_true_iff]
 omega
theorem swoBS {m : Int} : SWO (ltOf (cmpBS (m := m))) where
 irrefl x := by rw [ltBS]; simp
 trans x y z h1 h2 := by rw [ltBS] at *; simp at *; omega
 ntrans x y z h1 h2 := by rw [ltBS] at *; simp at *; omega
theorem of1_any {m : Int} (x y : BS m) (W : World) : Calls Tryz.prog 204 #[.agg #[.int .i64 x.1.1, .int .i64 x.1.2], .agg #[.int .i64 y.1.1, .int .i64 y.1.2]] W fun e w' => e = .returned (.int .i64 (cmpBS x y)) ∧ ∃ q os', w' = grow (W.drewN q) os' := by
 have h1 := x.2.1
 have h2 := x.2.2
 have h3 := y.2.1
 have h4 := y.2.2
 go_enter Tryz.func204, Tryz.ntmps204
 go_wp2
 go_ret
 exact ⟨rfl, 0, _, by rw [alloc_eq_grow, alloc_eq_grow, grow_grow]; rfl⟩
theorem cmpLaysBS (m : Int) (blk off size : Nat) (w : World) : CmpLays Tryz.prog 204 #[] (encBS (m := m)) 2 cmpBS blk off size w :=
 fun _ _ _ _ x y => of1_any x y _
theorem isAggSp (w : World) : (isAgg 54).run Tryz.prog w = .ok true w := by kernel_rfl
theorem sizeSp (w : World) : (Go.sizeOf 54).run Tryz.prog w = .ok 2 w := by kernel_rfl
theorem sortWorld_but {α : Type} (enc : α → List Value) [Inhabited α] (k : Nat) (w : World) (blk off m : Nat) (d : Array α) (os : Array Obj) : ButS (· = blk) w (sortWorldK enc k w blk off m d os) := by
 refine ⟨rfl, rfl, rfl, ?_, fun j hj hn => ?_⟩
 ·simp [sortWorldK, grow, putRowK, putRow, mapBlock, Sort.ahead]
 ·have hn' : ¬ j = blk := hn
  show ((putRowK enc k (Sort.ahead w m) blk off d).heap ++ os)[j]? = w.heap[j]?
  have hs : j < (putRowK enc k (Sort.ahead w m) blk off d).heap.size := by simp [putRowK, putRow, mapBlock, Sort.ahead]; exact hj
  rw [Array.getElem?_append_left hs]
  simp only [putRowK, putRow, mapBlock, Sort.ahead, Array.getElem?_modify]
  rw [if_neg (Ne.symm hn')]
theorem holds_sorted {α : Type} (enc : α → List Value) [Inhabited α] (k : Nat) {w : World} {blk off m : Nat} {d0 d : Array α} {os : Array Obj} (h0 : HoldsK enc k w blk off d0) (hs : d.size = d0.size) (hb : blk < w.heap.size) : HoldsK enc k (sortWorldK enc k w blk off m d os) blk off d :=
 holdsK_grow enc k _ os blk off d (by simp [putRowK, putRow, mapBlock, Sort.ahead]; exact hb) (holdsK_putRowK enc k (Sort.ahead w m) blk off d0 d h0 hs)
def bsOf {m : Int} (l : List Sp) (h : ∀ s ∈ l, m ≤ s.1 ∧ s.1 ≤ m + 9223372036854775807) : List (BS m) := l.attach.map fun s => ⟨s.1, h s.1 s.2⟩
theorem bsOf_map {m : Int} (l : List Sp) (h : ∀ s ∈ l, m ≤ s.1 ∧ s.1 ≤ m + 9223372036854775807) : (bsOf l h).map (·.1) = l := by
 unfold bsOf
 rw [List.map_map]
 conv => rhs; rw [← List.attach_map_subtype_val l]
 rfl
theorem bsOf_length {m : Int} (l : List Sp) (h : ∀ s ∈ l, m ≤ s.1 ∧ s.1 ≤ m + 9223372036854775807) : (bsOf l h).length = l.length := by simp [bsOf]
theorem insertion_none (p : Option Addr) (cap : Nat) (fv : Value) (w : World) :
  Calls Tryz.prog 295 #[.slice p 0 cap, .int .i64 0, .int .i64 0, fv] w fun e w' => e = .returned (.tuple #[]) ∧ w' = w := by
 go_enter Tryz.func295, Tryz.ntmps295
 go_wp2
 refine wp_loop_rounds 1 ?_
 rw [rounds_succ]
 go_wp2
 go_end0
 exact ⟨rfl, rfl⟩
theorem pdq_none (p : Option Addr) (cap : Nat) (lim : Int) (fv : Value) (w : World) :
  Calls Tryz.prog 281 #[.slice p 0 cap, .int .i64 0, .int .i64 0, .int .i64 lim, fv] w fun e w' => e = .returned (.tuple #[]) ∧ w' = w := by
 go_enter Tryz.func281, Tryz.ntmps281
 go_wp2
 refine wp_loop_rounds 1 ?_
 rw [rounds_succ]
 go_wp2_with (go_at_call 295; refine (insertion_none _ _ _ _).mono ?_; rintro e w' ⟨rfl, rfl⟩)
 (try simp only [Exit.inBlock, Exit.then]); refine bodyPost_ret (results_none rfl _ _ _) rfl ?_
 exact ⟨rfl, rfl⟩
theorem sort_none (p : Option Addr) (cap : Nat) (fv : Value) (w : World) :
  Calls Tryz.prog 243 #[.slice p 0 cap, fv] w fun e w' => e = .returned (.tuple #[]) ∧ w' = w := by
 have hl : ∀ W, Calls Tryz.prog 192 #[.int .u64 0] W fun e w' => e = .returned (.int .i64 (Lib.bitLen 0 : Nat)) ∧ w' = W := fun W => by
  have h := Any.bits_Len (SlLaysF0.n15.bits { Tryz.sortSp with }) 0 W (by omega) (by omega)
  exact h
 go_enter Tryz.func243, Tryz.ntmps243
 go_wp2_with (first | (go_at_call 192; refine (hl _).mono ?_; rintro e w' ⟨rfl, rfl⟩) | (go_at_call 281; refine (pdq_none _ _ _ _ _).mono ?_; rintro e w' ⟨rfl, rfl⟩))
 go_end0
 exact ⟨rfl, rfl⟩
theorem flat_enc {m : Int} (l : List (BS m)) : (flatK encBS 2 l.toArray).toList = (l.map (·.1)).flatMap encSp := by
 have hE : EncTy (encBS (m := m)) 2 := ⟨fun _ => rfl, fun x v hv => spE.one x.1 v hv⟩
 have e : (l.map (·.1)).flatMap encSp = l.flatMap encBS := by rw [List.flatMap_map]; rfl
 rw [e]
 apply List.ext_getElem?
 intro t
 by_cases ht : t < l.length * 2
 ·have h1 := hE.flat_get l (t / 2) (by omega) (t % 2) (by omega)
  rw [show t / 2 * 2 + t % 2 = t by omega] at h1
  rw [h1]
  simp only [flatK, Array.toList_map, Array.toList_range, List.getElem?_map, List.size_toArray]
  rw [List.getElem?_range ht]
  have h2 : (l.toArray)[t / 2]! = l[t / 2] := by
   rw [getElem!_pos l.toArray (t / 2) (by simp; omega)]
   simp
  simp only [Option.map_some, h2]
  have h3 : t % 2 = 0 ∨ t % 2 = 1 := by omega
  rcases h3 with h3 | h3 <;> rw [h3] <;> rfl
 ·rw [List.getElem?_eq_none (by simp; omega), List.getElem?_eq_none (by rw [hE.flat_len]; omega)]
def SortedOf (ls srt : List Sp) : Prop := srt.Perm ls ∧ srt.Pairwise (fun a b => a.1 ≤ b.1)
theorem sortFunc_any (m : Int) (base : Nat) (A : Option Addr) (c : Nat) (ls : List Sp) (w : World) (hbd : ∀ s ∈ ls, m ≤ s.1 ∧ s.1 ≤ m + 9223372036854775807) (hlen : ls.length < 4611686018427387904) (ho : OwnsSp base w A c ls) :
  Calls Tryz.prog 243 #[.slice A ls.length c, .func (.func 204) #[] #[]] w fun e w' => e = .returned (.tuple #[]) ∧
   ∃ srt, Hid (SortedOf ls srt) ∧ Hid (srt.length = ls.length) ∧ ReadsSp w' w'.heap.size A srt ∧ Below base w w' := by
 rcases ho.cases with ⟨rfl, rfl, rfl⟩ | ⟨g, cur, rfl, h2, h3, h4, h5, h6, h7⟩
 ·refine (sort_none none 0 _ w).mono ?_
  rintro e w' ⟨rfl, rfl⟩
  exact ⟨rfl, [], lh ⟨List.Perm.refl _, List.Pairwise.nil⟩, lh rfl, Reads.nil _ _ _ _ _, Below.refl _ _⟩
 ·have hg : g < w.heap.size := (Array.getElem?_eq_some_iff.1 h3).1
  have hfl : (flatK encBS 2 (bsOf ls hbd).toArray).toList = ls.flatMap encSp := by rw [flat_enc, bsOf_map]
  have hsz : (bsOf ls hbd).toArray.size = ls.length := by rw [List.size_toArray, bsOf_length]
  have hH : HoldsK encBS 2 w g 0 (bsOf ls hbd).toArray := by
   intro j hj
   have hj' : j < ls.length * 2 := by simpa [bsOf_length] using hj
   refine ⟨?_, by simp [World.frozen?, h3]⟩
   have e1 : (flatK encBS 2 (bsOf ls hbd).toArray)[j]? = cur[j]? := by
    rw [← Array.getElem?_toList, hfl, ← h7, List.getElem?_take, if_pos hj', Array.getElem?_toList]
   have e2 : (flatK encBS 2 (bsOf ls hbd).toArray)[j]? = some (flatK encBS 2 (bsOf ls hbd).toArray)[j]! := by
    rw [getElem!_pos _ j hj]; exact Array.getElem?_eq_getElem hj
   simp only [World.cell?, h3, Nat.zero_add, id]
   rw [← e1, e2]
   simp
  have hcon := AnyQ.slices_SortFunc Tryz.sortSp 2 isAggSp sizeSp encBS (fun _ => rfl) (fun x v hv => spE.one x.1 v hv) cmpBS swoBS 204 #[] g 0 c (bsOf ls hbd).toArray w (enters_of Tryz.func204 (by kernel_rfl) rfl) (cmpLaysBS m g 0 _ w) hH hg (by rw [hsz]; exact hlen)
  change Calls Tryz.prog 243 _ _ _ at hcon
  rw [hsz] at hcon
  refine hcon.mono ?_
  rintro e w' ⟨rfl, d', n, os, ⟨p1, _, p3⟩, hs, rfl⟩
  have hd : d'.size = ls.length := by rw [p1, hsz]
  have hperm : (d'.toList.map (·.1)).Perm ls := by
   have q : d'.toList.Perm (bsOf ls hbd) := by
    have := p3
    rw [Array.toList_extract, Array.toList_extract] at this
    simp only [List.extract_eq_take_drop, List.drop_zero, Nat.sub_zero] at this
    rw [List.take_of_length_le (by simp [hd]), List.take_of_length_le (by simp [bsOf_length])] at this
    exact this
   have := q.map (·.1)
   rwa [bsOf_map] at this
  refine ⟨rfl, d'.toList.map (·.1), lh ⟨hperm, ?_⟩, lh (by simp [hd]), ?_, ?_⟩
  ·rw [List.pairwise_map, List.pairwise_iff_getElem]
   intro i j hi hj hij
   have hi' : i < d'.size := by simpa using hi
   have hj' : j < d'.size := by simpa using hj
   have := hs i j (Nat.zero_le _) hij (by omega)
   rw [ltBS, decide_eq_false_iff_not, getElem!_pos d' i hi', getElem!_pos d' j hj'] at this
   simp only [Array.getElem_toList]
   omega
  ·intro h0
   refine ⟨g, 0, rfl, ?_, fun i hi j v hv => ?_⟩
   ·exact Nat.lt_of_lt_of_le hg (sortWorld_but encBS 2 w g 0 n d' os).size
   have hi' : i < d'.size := by simpa using hi
   have hj : j < 2 := by
    have := (List.getElem?_eq_some_iff.1 hv).1
    simpa [encSp] using this
   have hk := holds_sorted encBS 2 (m := n) (os := os) hH (d := d') (by rw [hd, hsz]) hg
   have hc := (hk (i * 2 + j) (by simp; omega)).1
   rw [Nat.zero_add] at hc
   rw [show 0 + i * 2 + j = i * 2 + j by omega, hc]
   rw [id, get_flatK _ _ _ _ (by omega), show (i * 2 + j) / 2 = i by omega, show (i * 2 + j) % 2 = j by omega, getElem!_pos d' i hi']
   have hv' : (encSp d'[i].1)[j]? = some v := by simpa using hv
   have h3 : j = 0 ∨ j = 1 := by omega
   rcases h3 with h3 | h3 <;> subst h3 <;> simp [encSp] at hv' <;> subst hv' <;> rfl
  ·have hb := sortWorld_but encBS 2 w g 0 n d' os
   exact ⟨hb.os, hb.tape, hb.output, hb.size, fun k hk => hb.block k (by omega) (by omega)⟩
theorem values_any (A : Option Addr) (n c : Nat) (w : World) :
  Calls Tryz.prog 203 #[.slice A n c] w fun e w' => e = .returned (.func (.func 244) #[] #[.pointer (some ⟨w.heap.size, 0, none⟩)]) ∧ w.alloc (.cells #[.slice A n c] 94) = w' := by
 go_enter Tryz.func203, Tryz.ntmps203
 go_wp2
 go_ret
 exact ⟨rfl, rfl⟩
theorem collect_ok (bl : Nat) (A : Option Addr) (c : Nat) (ls : List Sp) (w : World) (hlen : ls.length * 16 ≤ 140737488355328) (hbl : Boxed w bl 94 (.slice A ls.length c)) (hr : ReadsSp w w.heap.size A ls) :
  Calls Tryz.prog 242 #[.func (.func 244) #[] #[.pointer (some ⟨bl, 0, none⟩)]] w fun e w' =>
   ∃ A' c', e = .returned (.slice A' ls.length c') ∧ OwnsSp w.heap.size w' A' c' ls ∧ Ext w w' := by
 have H := lh (appendSeq_ok bl A c ls w hlen hbl hr)
 clear hbl hr
 go_enter Tryz.func242, Tryz.ntmps242
 go_wp2_with (go_at_call 280; refine H.out.mono ?_; rintro e w' ⟨A', c', rfl, ho, hx⟩)
 go_ret
 exact ⟨A', c', rfl, ho, hx⟩
def bdSp (ls : List Sp) : Prop := ∀ s ∈ ls, -4611686018427387904 ≤ s.1 ∧ s.1 ≤ 4611686018427387903
def bdW (m : Int) (ls : List Sp) : Prop := ∀ s ∈ ls, m ≤ s.1 ∧ s.1 ≤ m + 9223372036854775807
theorem bdSp.w {ls : List Sp} (h : bdSp ls) : bdW (-4611686018427387904) ls := fun s hs => by have := h s hs; omega
theorem sorted_ok (m : Int) (bl : Nat) (A : Option Addr) (c : Nat) (ls : List Sp) (w : World) (hbd : bdW m ls) (hlen : ls.length * 16 ≤ 140737488355328) (hbl : Boxed w bl 94 (.slice A ls.length c)) (hr : ReadsSp w w.heap.size A ls) :
  Calls Tryz.prog 202 #[.func (.func 244) #[] #[.pointer (some ⟨bl, 0, none⟩)], .func (.func 204) #[] #[]] w fun e w' =>
   ∃ A' c' srt, e = .returned (.slice A' srt.length c') ∧ Hid (SortedOf ls srt) ∧ Hid (srt.length = ls.length) ∧ ReadsSp w' w'.heap.size A' srt ∧ Ext w w' := by
 have H := lh (collect_ok bl A c ls w hlen hbl hr)
 have HB := lh hbd
 clear hbl hr hbd
 go_enter Tryz.func202, Tryz.ntmps202
 go_wp2_with (first
  | (go_at_call 242; refine H.out.mono ?_; rintro e w1 ⟨A', c', rfl, ho, hx⟩; have HO := lh ho; have HX := lh hx; clear ho hx)
  | (go_at_call 243; refine (sortFunc_any m w.heap.size A' c' ls _ HB.out (by omega) HO.out).mono ?_; rintro e w2 ⟨rfl, srt, h1, h2, h3, h4⟩; have H1 := h1; have H2 := h2; have H3 := lh h3; have H4 := lh h4; clear h1 h2 h3 h4))
 go_ret
 exact ⟨A', c', srt, by rw [H2.out]; rfl, H1, H2, H3.out, HX.out.grown H4.out (Nat.le_refl _)⟩
theorem own_last {base : Nat} {w : World} {A : Option Addr} {c : Nat} {pre : List Sp} {t : Sp} (h : OwnsSp base w A c (pre ++ [t])) : ∃ g, A = some ⟨g, 0, none⟩ ∧ base ≤ g ∧ g < w.heap.size ∧ w.cell? ⟨g, pre.length * 2 + 1, none⟩ = some (.int .i64 t.2) ∧
  w.frozen? ⟨g, pre.length * 2 + 1, none⟩ = false ∧ ∀ (m : Int) (w' : World), w'.heap[g]? = w.heap[g]? → OwnsSp base (w'.setCell ⟨g, pre.length * 2 + 1, none⟩ (.int .i64 m)) A c (pre ++ [(t.1, m)]) := by
 have hr := h.reads spE
 rcases h.cases with ⟨_, _, e⟩ | ⟨g, cur, rfl, h2, h3, h4, h5, h6, h7⟩
 ·simp at e
 ·obtain ⟨b, off, e1, _, _, c2⟩ := ReadsSp.cell hr pre.length (by simp)
  injection e1 with e1
  injection e1 with e1 e2
  subst e1 e2
  have hl : (pre ++ [t]).length = pre.length + 1 := by simp
  refine ⟨g, rfl, h2, (Array.getElem?_eq_some_iff.1 h3).1, by simpa using c2, by simp [World.frozen?, h3], fun m w' hw => ?_⟩
  have hb : (w'.setCell ⟨g, pre.length * 2 + 1, none⟩ (.int .i64 m)).heap[g]? = some (.cells (cur.setIfInBounds (pre.length * 2 + 1) (.int .i64 m)) 54 (0, 0)) := by
   simp only [World.setCell, Array.getElem?_modify, if_true, hw, h3]
   rfl
  refine Owns.mk spE h2 hb (by rw [List.length_append] at h4 ⊢; exact h4) h5 (by simpa using h6) ?_
  rw [Array.toList_setIfInBounds]
  have e3 : (pre ++ [(t.1, m)]).length = pre.length + 1 := by simp
  rw [e3]
  rw [hl] at h7
  rw [List.take_set]
  rw [h7, List.flatMap_append, List.flatMap_append]
  have e4 : (pre.flatMap encSp).length = pre.length * 2 := spE.flat_len pre
  rw [List.set_append_right _ _ (by rw [e4]; omega), e4]
  simp [encSp]
def SetOf (p : Int → Prop) (out : List Sp) : Prop := Sp.IsSet out ∧ ∀ x, Sp.mem out x ↔ p x
theorem out_cases (out : List Sp) : out = [] ∨ ∃ pre t, out = pre ++ [t] := by
 rcases List.eq_nil_or_concat out with h | ⟨l, t, h⟩
 ·exact .inl h
 ·exact .inr ⟨l, t, by rw [h, List.concat_eq_append]⟩
def OfRelS (w1 : World) (srt : List Sp) (i v : Value) (wr : World) : Prop := ∃ (k : Nat) (A' : Option Addr) (c' : Nat) (out : List Sp), k ≤ srt.length ∧ i = .int .i64 k ∧ v = .slice A' out.length c' ∧ out.length ≤ k ∧ Hid (out = Sp.joined (srt.take k)) ∧ Hid (OwnsSp w1.heap.size wr A' c' out) ∧ Hid (Ext w1 wr)
theorem joined_snoc (srt : List Sp) (k : Nat) (h : k < srt.length) : Sp.joined (srt.take (k + 1)) = Sp.step (Sp.joined (srt.take k)) srt[k] := by
 unfold Sp.joined
 rw [List.take_succ_eq_append_getElem h, List.foldl_append]; rfl
theorem of_anyW (m : Int) (A : Option Addr) (c : Nat) (ls : List Sp) (w : World) (hbd : bdW m ls) (hlen : ls.length * 16 ≤ 140737488355000) (hr : ReadsSp w w.heap.size A ls) :
  Calls Tryz.prog 162 #[.slice A ls.length c] w fun e w' => ∃ A' c' out, e = .returned (.slice A' out.length c') ∧ Hid (∃ srt, SortedOf ls srt ∧ out = Sp.joined srt) ∧ out.length ≤ ls.length ∧ OwnsSp w.heap.size w' A' c' out ∧ Ext w w' := by
 have HR := lh hr
 have HB := lh hbd
 clear hr hbd
 go_enter Tryz.func162, Tryz.ntmps162
 go_wp2_with (first
  | (go_at_call 203; refine (values_any _ _ _ _).mono ?_; rintro e w0 ⟨rfl, rfl⟩)
  | (go_at_call 202; refine (sorted_ok m w.heap.size A c ls _ HB.out (by omega) (Boxed.new w 94 _) (HR.out.on ((eR _).alloc _))).mono ?_; rintro e w1 ⟨A1, c1, srt, rfl, HS, HL, hr1, hx1⟩; have HR1 := lh hr1; have HX1 : Hid (Ext w w1) := lh (((Ext.refl w).alloc _).trans hx1); have hlen1 : srt.length ≤ ls.length := Nat.le_of_eq HL.out; clear hr1 hx1))
 go_loopw [13, 4] (OfRelS w1 srt) (fun i _ _ => srt.length - (intOf i).toNat)
 case atStart => exact ⟨0, none, 0, [], Nat.zero_le _, rfl, rfl, Nat.le_refl _, lh rfl, lh (Owns.nil _ _ _ _ _), lh (eR _)⟩
 case round =>
  obtain ⟨k, A', c', out, hk, rfl, rfl, hol, HO, HOw, HX⟩ := hrel
  have hsz := HX.out.size
  by_cases hlt : k < srt.length
  ·obtain ⟨b, off, rfl, hb, c1', c2'⟩ := ReadsSp.cell (HR1.out.ext HX.out (Nat.le_refl _)) k hlt
   have HJ := lh (joined_snoc srt k hlt)
   rw [← HO.out] at HJ
   generalize srt[k] = s at *
   obtain ⟨s1, s2⟩ := s
   simp only [] at c1' c2'
   by_cases hem : s2 ≤ s1
   ·have HJ2 : Hid (out = Sp.joined (srt.take (k + 1))) := lh (by rw [HJ.out, Sp.step_empty hem])
    go_wp2
    go_roundw
    case rel => exact ⟨k + 1, A', c', out, by omega, by go_num, rfl, by omega, HJ2, lh (HOw.out.alloc _), lh (HX.out.alloc _)⟩
    case measure => simp [intOf]; omega
   ·rcases out_cases out with rfl | ⟨pre, t, rfl⟩
    ·have HJ2 : Hid ([(s1, s2)] = Sp.joined (srt.take (k + 1))) := lh (by rw [HJ.out, Sp.step_nil (by show s1 < s2; omega)])
     go_wp2
     refine wp_region_later (by kernel_rfl) (by kernel_rfl) ?_
     repeat (first | go_big_quiet_step (fail) | quiet_step (fail))
     refine wpQuiet_nil ?_
     rintro _ ⟨xq, rfl⟩
     go_wp2_with (at_builtin; refine app_from spT spE rfl _ _ rfl w1.heap.size _ _ [] rfl (((HOw.out.alloc _).later _).alloc _) _ 1 _ [(s1, s2)] rfl rfl (new_cellsAt (by simp [later_size]) _ _) (by simp) (by simp) (by simp [later_size] <;> omega) ?_; intro A2 c2 l2 w2 HL2 HO2 hB hl1 hl2 _; have HO2' := lh HO2; have HB2 := lh hB; clear HO2 hB)
     go_roundw
     case rel => exact ⟨k + 1, A2, c2, l2, by omega, by go_num, rfl, by simp at hl1; omega, lh (by rw [HL2.out]; exact HJ2.out), HO2', lh ((((HX.out.alloc _).onto _).alloc _).grown HB2.out (Nat.le_refl _))⟩
     case measure => simp [intOf]; omega
    ·obtain ⟨g, rfl, hg1, hg2, c3, f3, hset⟩ := own_last HOw.out
     have HSet := lh hset
     clear hset
     obtain ⟨t1, t2⟩ := t
     simp only [] at c3
     have d0 : decide (0 < pre.length + 1) = true := by simp
     have d1 : decide (0 < (pre.length : Int) + 1) = true := by simp <;> omega
     have hol' : pre.length + 1 ≤ k := by simpa using hol
     by_cases hj : s1 ≤ t2
     ·have HJ2 : Hid (pre ++ [(t1, max t2 s2)] = Sp.joined (srt.take (k + 1))) := lh (by rw [HJ.out, Sp.step_join (by show s1 < s2; omega) hj])
      have d2 : decide (s1 ≤ t2) = true := by simp; omega
      go_wp2
      refine wp_region_later (by kernel_rfl) (by kernel_rfl) ?_
      repeat (first | go_big_quiet_step (fail) | quiet_step (fail))
      refine wpQuiet_nil ?_
      rintro _ ⟨xq, rfl⟩
      go_wp2
      refine wp_region_later_tail 14 (by kernel_rfl) (by kernel_rfl) ?_
      simp only [List.take_succ_cons, List.take_zero, List.drop_succ_cons, List.drop_zero]
      repeat (first | go_big_quiet_step (fail) | quiet_step (fail))
      refine wpQuiet_nil ?_
      rintro _ ⟨xq, rfl⟩
      go_wp2
      go_roundw
      case rel =>
       refine ⟨k + 1, some ⟨g, 0, none⟩, c', pre ++ [(t1, max t2 s2)], by omega, by go_num, by simp, by simp <;> omega, HJ2, lh (HSet.out _ _ ?_), lh (Ext.setCell (((HX.out.alloc _).onto _).onto _) hg1 _)⟩
       exact (Ext.below (((((Ext.refl wr).alloc _).onto _).onto _))).block g hg2
      case measure => simp [intOf]; omega
     ·have HJ2 : Hid (pre ++ [(t1, t2)] ++ [(s1, s2)] = Sp.joined (srt.take (k + 1))) := lh (by rw [HJ.out, Sp.step_more (by show s1 < s2; omega) (by show t2 < s1; omega)])
      have d2 : decide (s1 ≤ t2) = false := by simp; omega
      go_wp2
      refine wp_region_later (by kernel_rfl) (by kernel_rfl) ?_
      repeat (first | go_big_quiet_step (fail) | quiet_step (fail))
      refine wpQuiet_nil ?_
      rintro _ ⟨xq, rfl⟩
      go_wp2_with (at_builtin; refine app_from spT spE rfl _ _ rfl w1.heap.size _ _ (pre ++ [(t1, t2)]) (by rw [List.length_append]; rfl) (((HOw.out.alloc _).later _).alloc _) _ 1 _ [(s1, s2)] rfl rfl (new_cellsAt (by simp [later_size]) _ _) (by simp <;> omega) (by simp <;> omega) (by simp [later_size] <;> omega) ?_; intro A2 c2 l2 w2 HL2 HO2 hB hl1 hl2 _; have HO2' := lh HO2; have HB2 := lh hB; clear HO2 hB)
      go_roundw
      case rel => exact ⟨k + 1, A2, c2, l2, by omega, by go_num, rfl, by simp at hl1; omega, lh (by rw [HL2.out]; exact HJ2.out), HO2', lh ((((HX.out.alloc _).onto _).alloc _).grown HB2.out (Nat.le_refl _))⟩
      case measure => simp [intOf]; omega
  ·have e : k = srt.length := by omega
   subst e
   rw [List.take_length] at HO
   go_wp2
   go_ret
   exact ⟨A', c', out, rfl, lh ⟨srt, HS.out, HO.out⟩, by omega, HOw.out.lower HX1.out.size, HX1.out.trans HX.out⟩
theorem of_any (A : Option Addr) (c : Nat) (ls : List Sp) (w : World) (hbd : bdSp ls) (hlen : ls.length * 16 ≤ 140737488355000) (hr : ReadsSp w w.heap.size A ls) :
  Calls Tryz.prog 162 #[.slice A ls.length c] w fun e w' => ∃ A' c' out, e = .returned (.slice A' out.length c') ∧ Hid (∃ srt, SortedOf ls srt ∧ out = Sp.joined srt) ∧ out.length ≤ ls.length ∧ OwnsSp w.heap.size w' A' c' out ∧ Ext w w' := of_anyW _ A c ls w hbd.w hlen hr
def plainA (A : Option Addr) : Prop := ∀ a, A = some a → ∃ b off, a = ⟨b, off, none⟩
theorem OwnsSp.plain {base : Nat} {w : World} {A : Option Addr} {c : Nat} {l : List Sp} (h : OwnsSp base w A c l) : plainA A := by
 rintro a rfl
 rcases h.cases with ⟨k, _⟩ | ⟨g, cur, k, _⟩
 ·cases k
 ·injection k with k
  exact ⟨g, 0, k⟩
theorem spInfo : (Tryz.prog.info? 54).map (fun i => (i.zero, i.size, i.bytes)) = some (some (.agg #[.int .i64 0, .int .i64 0]), 2, 16) := by kernel_rfl
theorem clone_any (A : Option Addr) (c : Nat) (ls : List Sp) (w : World) (hA : plainA A) (hlen : ls.length * 16 ≤ 140737488355328) (hr : ReadsSp w w.heap.size A ls) :
  Calls Tryz.prog 163 #[.slice A ls.length c] w fun e w' => ∃ A' c', e = .returned (.slice A' ls.length c') ∧ OwnsSp w.heap.size w' A' c' ls ∧ Ext w w' := by
 obtain ⟨i, hi, hz, h1, h2⟩ := info_parts spInfo
 cases A with
 | none =>
  have hn : ls = [] := by
   rcases Nat.eq_zero_or_pos ls.length with q | q
   ·exact List.eq_nil_of_length_eq_zero q
   ·obtain ⟨b, off, k, _⟩ := hr q
    cases k
  subst hn
  have hcon := AnyE.slices_Clone_nil Tryz.cloneSp 0 c w
  change Calls Tryz.prog 163 _ _ _ at hcon
  refine hcon.mono ?_
  rintro e w' ⟨rfl, rfl⟩
  exact ⟨none, 0, rfl, Owns.nil _ _ _ _ _, eR _⟩
 | some a =>
  obtain ⟨b, off, rfl⟩ := hA a rfl
  have hcon := AnyE.slices_Clone Tryz.cloneSp i (.agg #[.int .i64 0, .int .i64 0]) 2 16 hi hz h1 h2 rfl (by decide) sizeSp b off ls.length c (ls.flatMap encSp) w (spE.flat_len ls) (by unfold maxLen; omega) hlen
   (fun j u hj => by
    have hj' := (List.getElem?_eq_some_iff.1 hj).1
    rw [spE.flat_len] at hj'
    obtain ⟨b', off', e1, _, h3⟩ := hr (by omega)
    injection e1 with e1
    injection e1 with e1 e2
    subst e1 e2
    have k := spE.flat_get ls (j / 2) (by omega) (j % 2) (by omega)
    rw [show j / 2 * 2 + j % 2 = j by omega, hj] at k
    have := h3 (j / 2) (by omega) (j % 2) u k.symm
    rw [show off + j / 2 * 2 + j % 2 = off + j by omega] at this
    exact this) (spE.flat_one ls)
  change Calls Tryz.prog 163 _ _ _ at hcon
  refine hcon.mono ?_
  rintro e w' ⟨v', rfl, k1, _, k3⟩
  have hv : ∃ A' c'', v' = .slice A' ls.length c'' := by
   rcases k1.2 with ⟨rfl, q⟩ | ⟨g, cap, cur, rfl, _⟩
   ·exact ⟨none, 0, by rw [q]⟩
   ·exact ⟨_, _, rfl⟩
  obtain ⟨A', c'', rfl⟩ := hv
  exact ⟨A', c'', rfl, k1, k3⟩
def ownSoft (ls : List Sp) (base : Nat) : Soft := ⟨fun v w => ∃ A c, v = .slice A ls.length c ∧ OwnsSp base w A c ls, fun v w w' ⟨A, c, h1, h2⟩ hx => ⟨A, c, h1, h2.ext hx⟩⟩
def oneSp (s : Sp) : Soft := ⟨fun v w => ∃ b, v = .slice (some ⟨b, 0, none⟩) 1 1 ∧ b < w.heap.size ∧ w.cell? ⟨b, 0, none⟩ = some (.int .i64 s.1) ∧ w.cell? ⟨b, 1, none⟩ = some (.int .i64 s.2), fun v w w' ⟨b, h1, h2, h3, h4⟩ hx => ⟨b, h1, Nat.lt_of_lt_of_le h2 hx.size, (hx.cell (p := ⟨b, 0, none⟩) h2).trans h3, (hx.cell (p := ⟨b, 1, none⟩) h2).trans h4⟩⟩
def addSoft (A : Option Addr) (c : Nat) (ls : List Sp) (s : Sp) (base : Nat) : Nat → Soft
 | 0 => .eq (.slice A ls.length c)
 | 1 => ownSoft ls base
 | 2 => .eq (.agg #[.int .i64 s.1, .int .i64 s.2])
 | _ => oneSp s
theorem one_cells {w : World} {b : Nat} {s : Sp} (h1 : w.cell? ⟨b, 0, none⟩ = some (.int .i64 s.1)) (h2 : w.cell? ⟨b, 1, none⟩ = some (.int .i64 s.2)) : ∀ j u, ([s].flatMap encSp)[j]? = some u → w.cell? ((⟨b, 0, none⟩ : Addr).add j) = some u := by
 intro j u hu
 rw [addr_add, Nat.zero_add]
 match j, hu with
 | 0, hu => simp [encSp] at hu; subst hu; exact h1
 | 1, hu => simp [encSp] at hu; subst hu; exact h2
 | j + 2, hu => simp [encSp] at hu
theorem mem_perm {a b : List Sp} (h : a.Perm b) (x : Int) : Sp.mem a x ↔ Sp.mem b x := by
 unfold Sp.mem
 constructor
 ·rintro ⟨s, hs, k⟩; exact ⟨s, h.mem_iff.1 hs, k⟩
 ·rintro ⟨s, hs, k⟩; exact ⟨s, h.mem_iff.2 hs, k⟩
theorem of_set {ls out : List Sp} (h : ∃ srt, SortedOf ls srt ∧ out = Sp.joined srt) : SetOf (Sp.mem ls) out := by
 obtain ⟨srt, ⟨h1, h2⟩, rfl⟩ := h
 obtain ⟨k1, k2⟩ := Sp.joined_spec h2
 exact ⟨k1, fun x => (k2 x).trans (mem_perm h1 x)⟩
theorem add_any (A : Option Addr) (c : Nat) (ls : List Sp) (s : Sp) (w : World) (hA : plainA A) (hbd : bdSp (ls ++ [s])) (hlen : ls.length * 16 ≤ 140737488350000) (hr : ReadsSp w w.heap.size A ls) :
  Calls Tryz.prog 123 #[.slice A ls.length c, .agg #[.int .i64 s.1, .int .i64 s.2]] w fun e w' => ∃ A' c' out, e = .returned (.slice A' out.length c') ∧ Hid (∃ srt, SortedOf (ls ++ [s]) srt ∧ out = Sp.joined srt) ∧ out.length ≤ ls.length + 1 ∧ OwnsSp w.heap.size w' A' c' out ∧ Ext w w' := by
 have HR := lh hr
 have HB := lh hbd
 have HA := lh hA
 clear hr hbd hA
 go_enter Tryz.func123, Tryz.ntmps123
 go_wp2
 refine wp_region_soft 4 (addSoft A c ls s (w.heap.size + 1)) (by kernel_rfl) (by kernel_rfl) (lt_cons ?_ (lt_cons ?_ (lt_cons ?_ (lt_cons ?_ lt_none)))) ?_
 ·refine sop rfl fun xs W HW hsW HD Q' HQ => ?_; simp only [fillAt, dstOf, lc0, lcs, obs, Act.put, lsa, lsz, lss, nz, Nat.reduceAdd] at HQ ⊢
  go_wp2
  exact HQ.out _ _ (eR _) rfl
 ·refine sop rfl fun xs W HW hsW HD Q' HQ => ?_; simp only [fillAt, dstOf, lc0, lcs, obs, Act.put, lsa, lsz, lss, nz, Nat.reduceAdd] at HQ ⊢
  have h0 : xs 0 = .slice A ls.length c := (HD.out 0 (dk (by kernel_rfl)))
  generalize xs 0 = x0 at h0 HQ ⊢; subst h0
  go_wp2_with (go_at_call 163; refine (clone_any A c ls _ HA.out (by omega) (HR.out.on (((eR _).alloc _).trans HW.out))).mono ?_; rintro e w1 ⟨A', c', rfl, ho, hx⟩)
  exact HQ.out _ _ hx ⟨A', c', rfl, ho.lower (by have := HW.out.size; simp at this; omega)⟩
 ·refine sop rfl fun xs W HW hsW HD Q' HQ => ?_; simp only [fillAt, dstOf, lc0, lcs, obs, Act.put, lsa, lsz, lss, nz, Nat.reduceAdd] at HQ ⊢
  have c1 : W.cell? ⟨w.heap.size, 0, none⟩ = some (.int .i64 s.1) := (HW.out.cell (p := ⟨w.heap.size, 0, none⟩) (by simp)).trans (by rw [alloc_cell_if, if_pos rfl]; rfl)
  have c2 : W.cell? ⟨w.heap.size, 1, none⟩ = some (.int .i64 s.2) := (HW.out.cell (p := ⟨w.heap.size, 1, none⟩) (by simp)).trans (by rw [alloc_cell_if, if_pos rfl]; rfl)
  go_wp2
  exact HQ.out _ _ (eR _) rfl
 ·refine sop rfl fun xs W HW hsW HD Q' HQ => ?_; simp only [fillAt, dstOf, lc0, lcs, obs, Act.put, lsa, lsz, lss, nz, Nat.reduceAdd] at HQ ⊢
  have h2 : xs 2 = .agg #[.int .i64 s.1, .int .i64 s.2] := (HD.out 2 (dk (by kernel_rfl)))
  generalize xs 2 = x2 at h2 HQ ⊢; subst h2
  go_wp2
  exact HQ.out _ _ ((eR _).alloc _) ⟨W.heap.size, rfl, by simp, by rw [alloc_cell_if, if_pos rfl]; rfl, by rw [alloc_cell_if, if_pos rfl]; rfl⟩
 ·intro xs W hW hS
  obtain ⟨A1, c1, h1, ho⟩ : (ownSoft ls (w.heap.size + 1)).S (xs 1) W := hS 1 (by omega)
  obtain ⟨b, h3, hb, k1, k2⟩ : (oneSp s).S (xs 3) W := hS 3 (by omega)
  simp only [fillAt, dstOf, lc0, lcs, obs, Act.put, lsa, lsz, lss, nz, Nat.reduceAdd, List.drop_succ_cons, List.drop_zero]
  generalize xs 1 = x1 at h1 ⊢; subst h1
  generalize xs 3 = x3 at h3 ⊢; subst h3
  have HO := lh ho
  have HW := lh hW
  have hsW := hW.size
  rw [World.size_alloc] at hsW
  have HK1 := lh k1
  have HK2 := lh k2
  clear ho hW k1 k2 hS
  go_wp2_with (first
   | (at_builtin; refine app_from spT spE rfl _ _ rfl (w.heap.size + 1) _ _ ls rfl HO.out ⟨b, 0, none⟩ 1 1 [s] rfl rfl (one_cells HK1.out HK2.out) (by omega) (by omega) (by omega) ?_; intro A2 c2 l2 w2 HL2 HO2 hB hl1 hl2 _; have HO2' := lh HO2; have HB2 := lh hB; clear HO2 hB)
   | (go_at_call 162; refine (of_any A2 c2 l2 _ (by rw [HL2.out]; exact HB.out) (by omega) (HO2'.out.reads spE)).mono ?_; rintro e w3 ⟨A3, c3, out, rfl, HS, hol, ho3, hx3⟩; have HO3 := lh ho3; have HX3 := lh hx3; clear ho3 hx3))
  go_ret
  have hsB := HB2.out.size
  have hEx : Ext w w2 := (((Ext.refl w).alloc _).trans HW.out).grown HB2.out (by omega)
  exact ⟨A3, c3, out, rfl, by have h := HS; rw [HL2.out] at h; exact h, by omega, HO3.out.lower (by omega), hEx.trans HX3.out⟩
end Go.Proofs.YtmgekdggahoboaaGreatDoor

namespace Go.Proofs.YtmgekdggahoboaaGreatDoor
open Go.RowKit Go.Shelf Go.Sort
open Go.Proofs
open Go.Proofs.Sp (Sp)
theorem compact_spec (zs : List Int) (h : zs.Pairwise (· ≤ ·)) : (Lib.compact zs).Pairwise (· < ·) ∧ ∀ x, x ∈ Lib.compact zs ↔ x ∈ zs := by
 have key : ∀ m, m ≤ zs.length → (Lib.compactUpTo zs.toArray m).Pairwise (· < ·) ∧ ∀ x, x ∈ Lib.compactUpTo zs.toArray m ↔ ∃ j, ∃ hj : j < zs.length, j < m ∧ zs[j] = x := by
  intro m
  induction m with
  | zero => intro _; exact ⟨by simp [Lib.compactUpTo], fun x => by simp [Lib.compactUpTo]⟩
  | succ m ih =>
   intro hm
   obtain ⟨i1, i2⟩ := ih (by omega)
   have hg : zs.toArray[m]! = zs[m] := by rw [getElem!_pos zs.toArray m (by simp; omega)]; simp
   rw [Lib.compactUpTo_succ]
   by_cases hk : Lib.keeps zs.toArray m = true
   ·rw [if_pos hk, hg]
    have hlt : ∀ j, ∀ hj : j < zs.length, j < m → zs[j] < zs[m] := by
     intro j hj hjm
     simp only [Lib.keeps, decide_eq_true_eq] at hk
     rcases hk with hk | hk
     ·omega
     ·have hg1 : zs.toArray[m - 1]! = zs[m - 1] := by rw [getElem!_pos zs.toArray (m - 1) (by simp; omega)]; simp
      rw [hg, hg1] at hk
      have h1 := List.pairwise_iff_getElem.1 h (m - 1) m (by omega) (by omega) (by omega)
      by_cases e : j = m - 1
      ·subst e; omega
      ·have h2 := List.pairwise_iff_getElem.1 h j (m - 1) hj (by omega) (by omega)
       omega
    refine ⟨List.pairwise_append.2 ⟨i1, List.pairwise_singleton _ _, fun a ha b hb => ?_⟩, fun x => ?_⟩
    ·simp at hb; subst hb
     obtain ⟨j, hj, h1, rfl⟩ := (i2 a).1 ha
     exact hlt j hj h1
    ·rw [List.mem_append, i2, List.mem_singleton]
     constructor
     ·rintro (⟨j, hj, h1, h2⟩ | rfl)
      ·exact ⟨j, hj, by omega, h2⟩
      ·exact ⟨m, by omega, by omega, rfl⟩
     ·rintro ⟨j, hj, h1, h2⟩
      by_cases e : j = m
      ·subst e; exact .inr h2.symm
      ·exact .inl ⟨j, hj, by omega, h2⟩
   ·rw [if_neg hk, List.append_nil]
    refine ⟨i1, fun x => ?_⟩
    have hk' : ¬ (m = 0 ∨ zs.toArray[m]! ≠ zs.toArray[m - 1]!) := by simpa [Lib.keeps] using hk
    have hm0 : m ≠ 0 := fun e => hk' (.inl e)
    have hg1 : zs.toArray[m - 1]! = zs[m - 1] := by rw [getElem!_pos zs.toArray (m - 1) (by simp; omega)]; simp
    have he : zs[m] = zs[m - 1] := by
     by_cases e : zs[m] = zs[m - 1]
     ·exact e
     ·exact absurd (.inr (by rw [hg, hg1]; exact e)) hk'
    rw [i2]
    constructor
    ·rintro ⟨j, hj, h1, h2⟩
     exact ⟨j, hj, by omega, h2⟩
    ·rintro ⟨j, hj, h1, h2⟩
     by_cases e : j = m
     ·subst e; exact ⟨j - 1, by omega, by omega, by rw [← h2, he]⟩
     ·exact ⟨j, hj, by omega, h2⟩
 obtain ⟨h1, h2⟩ := key zs.length (Nat.le_refl _)
 refine ⟨h1, fun x => (h2 x).trans ?_⟩
 rw [List.mem_iff_getElem]
 constructor
 ·rintro ⟨j, hj, _, e⟩; exact ⟨j, hj, e⟩
 ·rintro ⟨j, hj, e⟩; exact ⟨j, hj, hj, e⟩
def encI (x : Int) : List Value := [.int .i64 x]
theorem iE : EncTy encI 1 := ⟨fun _ => rfl, fun x v hv => by simp [encI] at hv; subst hv; rfl⟩
theorem iT : ElemTy Tryz.prog 46 3 1 8 := ⟨by kernel_rfl, by kernel_rfl, by omega⟩
abbrev OwnsI (base : Nat) (w : World) (A : Option Addr) (c : Nat) (l : List Int) : Prop := Owns 3 1 encI base w A c l
abbrev ReadsI (w : World) (B : Nat) (A : Option Addr) (l : List Int) : Prop := Reads 1 encI w B A l
theorem ReadsI.cell {w : World} {B : Nat} {A : Option Addr} {l : List Int} (h : ReadsI w B A l) (i : Nat) (hi : i < l.length) : ∃ b off, A = some ⟨b, off, none⟩ ∧ b < B ∧ w.cell? ⟨b, off + i, none⟩ = some (.int .i64 l[i]) := by
 obtain ⟨b, off, h1, h2, h3⟩ := h (by omega)
 have := h3 i hi 0 _ rfl
 rw [Nat.mul_one, Nat.add_zero] at this
 exact ⟨b, off, h1, h2, this⟩
theorem flatI (l : List Int) : l.flatMap encI = l.map (Value.int .i64) := by
 induction l with
 | nil => rfl
 | cons x l ih => rw [List.flatMap_cons, ih]; rfl
theorem OwnsI.holds {base : Nat} {w : World} {g c : Nat} {cur : Array Value} {l : List Int} (h3 : w.heap[g]? = some (.cells cur 3 (0, 0))) (h4 : l.length ≤ c) (h6 : cur.size = c * 1) (h7 : cur.toList.take (l.length * 1) = l.flatMap encI) : Holds (Value.int .i64) w g 0 l.toArray := by
 intro j hj
 have hj' : j < l.length := by simpa using hj
 refine ⟨?_, by simp [World.frozen?, h3]⟩
 have e1 : (l.flatMap encI)[j]? = cur[j]? := by rw [← h7, List.getElem?_take, if_pos (by omega), Array.getElem?_toList]
 rw [flatI, List.getElem?_map, List.getElem?_eq_getElem hj'] at e1
 simp only [World.cell?, h3, Nat.zero_add]
 rw [getElem!_pos l.toArray j hj]
 simpa using e1.symm
theorem OwnsI.put {base n : Nat} {w : World} {g c : Nat} {cur : Array Value} {l : List Int} (os : Array Obj) (d : List Int) (hb : base ≤ g) (h3 : w.heap[g]? = some (.cells cur 3 (0, 0))) (h5 : c ≤ maxLen) (h6 : cur.size = c * 1) (hd : d.length ≤ c) (hl : l.length ≤ d.length) (hp : d.take l.length = l) :
  OwnsI base (grow (putRow (Value.int .i64) (Sort.ahead w n) g 0 d.toArray) os) (some ⟨g, 0, none⟩) c l ∧ ButS (· = g) w (grow (putRow (Value.int .i64) (Sort.ahead w n) g 0 d.toArray) os) := by
 have hg := (Array.getElem?_eq_some_iff.1 h3).1
 have hs : (putRow (Value.int .i64) (Sort.ahead w n) g 0 d.toArray).heap.size = w.heap.size := by simp [putRow, mapBlock, Sort.ahead]
 have hw : ∀ j, j < w.heap.size → (grow (putRow (Value.int .i64) (Sort.ahead w n) g 0 d.toArray) os).heap[j]? = (putRow (Value.int .i64) (Sort.ahead w n) g 0 d.toArray).heap[j]? := fun j hj => Array.getElem?_append_left (by rw [hs]; exact hj)
 refine ⟨Owns.mk iE hb (cur := putCells (Value.int .i64) 0 d.toArray cur) ?_ (by omega) h5 (by simpa [putCells] using h6) ?_, ⟨rfl, rfl, rfl, ?_, fun j hj hn => ?_⟩⟩
 ·rw [hw g hg]
  simp only [putRow, mapBlock, Sort.ahead, Array.getElem?_modify, if_true, h3]
  rfl
 ·rw [Nat.mul_one, flatI]
  apply List.ext_getElem?
  intro i
  rw [List.getElem?_take]
  by_cases hi : i < l.length
  ·rw [if_pos hi, Array.getElem?_toList]
   have hc : i < cur.size := by omega
   simp only [putCells, Array.getElem?_mapIdx]
   rw [Array.getElem?_eq_getElem hc]
   have h8 : 0 ≤ i ∧ i < 0 + d.toArray.size := by simp; omega
   simp only [Option.map_some, if_pos h8, Nat.sub_zero]
   rw [getElem!_pos d.toArray i (by simp; omega)]
   have e : l[i]? = d[i]? := by
    have h9 := congrArg (fun q => q[i]?) hp
    simp only [List.getElem?_take, if_pos hi] at h9
    exact h9.symm
   rw [List.getElem?_map, e, List.getElem?_eq_getElem (by omega)]
   simp
  ·rw [if_neg hi, List.getElem?_eq_none (by simp; omega)]
 ·have : (grow (putRow (Value.int .i64) (Sort.ahead w n) g 0 d.toArray) os).heap.size = w.heap.size + os.size := by simp [grow, hs]
  omega
 ·have hn' : ¬ j = g := hn
  rw [hw j hj]
  simp only [putRow, mapBlock, Sort.ahead, Array.getElem?_modify]
  rw [if_neg (Ne.symm hn')]
theorem ButS.below {g base : Nat} {w w' : World} (h : ButS (· = g) w w') (hb : base ≤ g) (hg : g < w.heap.size) : Below base w w' := ⟨h.os, h.tape, h.output, h.size, fun k hk => h.block k (by omega) (by omega)⟩
theorem insertionI_none (p : Option Addr) (cap : Nat) (w : World) :
  Calls Tryz.prog 303 #[.slice p 0 cap, .int .i64 0, .int .i64 0] w fun e w' => e = .returned (.tuple #[]) ∧ w' = w := by
 go_enter Tryz.func303, Tryz.ntmps303
 go_wp2
 refine wp_loop_rounds 1 ?_
 rw [rounds_succ]
 go_wp2
 go_end0
 exact ⟨rfl, rfl⟩
theorem pdqI_none (p : Option Addr) (cap : Nat) (lim : Int) (w : World) :
  Calls Tryz.prog 283 #[.slice p 0 cap, .int .i64 0, .int .i64 0, .int .i64 lim] w fun e w' => e = .returned (.tuple #[]) ∧ w' = w := by
 go_enter Tryz.func283, Tryz.ntmps283
 go_wp2
 refine wp_loop_rounds 1 ?_
 rw [rounds_succ]
 go_wp2_with (go_at_call 303; refine (insertionI_none _ _ _).mono ?_; rintro e w' ⟨rfl, rfl⟩)
 (try simp only [Exit.inBlock, Exit.then]); refine bodyPost_ret (results_none rfl _ _ _) rfl ?_
 exact ⟨rfl, rfl⟩
theorem sortI_none (p : Option Addr) (cap : Nat) (w : World) :
  Calls Tryz.prog 247 #[.slice p 0 cap] w fun e w' => e = .returned (.tuple #[]) ∧ w' = w := by
 have hl : ∀ W, Calls Tryz.prog 192 #[.int .u64 0] W fun e w' => e = .returned (.int .i64 (Lib.bitLen 0 : Nat)) ∧ w' = W := fun W => by
  have h := Any.bits_Len (SlLaysF0.n15.bits { Tryz.sortSp with }) 0 W (by omega) (by omega)
  exact h
 go_enter Tryz.func247, Tryz.ntmps247
 go_wp2_with (first | (go_at_call 192; refine (hl _).mono ?_; rintro e w' ⟨rfl, rfl⟩) | (go_at_call 283; refine (pdqI_none _ _ _ _).mono ?_; rintro e w' ⟨rfl, rfl⟩))
 go_end0
 exact ⟨rfl, rfl⟩
def msort (zs : List Int) : List Int := zs.mergeSort fun x y => decide (x ≤ y)
theorem msort_length (zs : List Int) : (msort zs).length = zs.length := List.length_mergeSort _
theorem msort_mem (zs : List Int) (x : Int) : x ∈ msort zs ↔ x ∈ zs := List.mem_mergeSort
theorem msort_sorted (zs : List Int) : (msort zs).Pairwise (· ≤ ·) := by
 have := List.pairwise_mergeSort (le := fun x y : Int => decide (x ≤ y)) (by intro a b c; simp; omega) (by intro a b; simp; omega) zs
 exact this.imp (fun h => by simpa using h)
theorem sortI_any (base : Nat) (A : Option Addr) (c : Nat) (zs : List Int) (w : World) (hlen : zs.length < 4611686018427387904) (ho : OwnsI base w A c zs) :
  Calls Tryz.prog 247 #[.slice A zs.length c] w fun e w' => e = .returned (.tuple #[]) ∧ OwnsI base w' A c (msort zs) ∧ Below base w w' := by
 rcases ho.cases with ⟨rfl, rfl, rfl⟩ | ⟨g, cur, rfl, h2, h3, h4, h5, h6, h7⟩
 ·refine (sortI_none none 0 w).mono ?_
  rintro e w' ⟨rfl, rfl⟩
  exact ⟨rfl, by rw [show msort [] = [] by simp [msort]]; exact Owns.nil _ _ _ _ _, Below.refl _ _⟩
 ·have hg : g < w.heap.size := (Array.getElem?_eq_some_iff.1 h3).1
  have hcon := Any.slices_Sort_int Tryz.sortI g 0 c zs w (OwnsI.holds (base := base) h3 h4 h6 h7) hg hlen
  change Calls Tryz.prog 247 _ _ _ at hcon
  refine hcon.mono ?_
  rintro e w' ⟨rfl, n, os, rfl⟩
  obtain ⟨k1, k2⟩ := OwnsI.put (n := n) (l := msort zs) os (msort zs) h2 h3 h5 h6 (by rw [msort_length]; exact h4) (Nat.le_refl _) (List.take_length ..)
  exact ⟨rfl, k1, k2.below h2 hg⟩
theorem compactI_any (base : Nat) (A : Option Addr) (c : Nat) (zs : List Int) (w : World) (hlen : zs.length < 4611686018427387904) (ho : OwnsI base w A c zs) :
  Calls Tryz.prog 248 #[.slice A zs.length c] w fun e w' => e = .returned (.slice A (Lib.compact zs).length c) ∧ OwnsI base w' A c (Lib.compact zs) ∧ Below base w w' := by
 rcases ho.cases with ⟨rfl, rfl, rfl⟩ | ⟨g, cur, rfl, h2, h3, h4, h5, h6, h7⟩
 ·have hcon := Any.slices_Compact_int_empty Tryz.compactI none 0 w
  change Calls Tryz.prog 248 _ _ _ at hcon
  refine hcon.mono ?_
  rintro e w' ⟨rfl, rfl⟩
  exact ⟨rfl, Owns.nil _ _ _ _ _, Below.refl _ _⟩
 ·have hg : g < w.heap.size := (Array.getElem?_eq_some_iff.1 h3).1
  have hcon := Any.slices_Compact_int Tryz.compactI g 0 c zs w (OwnsI.holds (base := base) h3 h4 h6 h7) (by omega) h4
  change Calls Tryz.prog 248 _ _ _ at hcon
  refine hcon.mono ?_
  rintro e w' ⟨rfl, n, hw⟩
  have hle := Lib.compact_length_le zs
  obtain ⟨k1, k2⟩ := OwnsI.put (n := n) (l := Lib.compact zs) #[] (Lib.compact zs ++ List.replicate (zs.length - (Lib.compact zs).length) 0) h2 h3 h5 h6 (by simp; omega) (by simp) (List.take_left' rfl)
  rw [grow_empty, ← hw] at k1 k2
  exact ⟨rfl, k1, k2.below h2 hg⟩
end Go.Proofs.YtmgekdggahoboaaGreatDoor
namespace Go.Proofs.YtmgekdggahoboaaGreatDoor
open Go.RowKit Go.Shelf Go.Sort
open Go.Proofs
open Go.Proofs.Sp (Sp)
theorem grow_any (n : Nat) (m : Int) (hm : m = n) (w : World) (hn : n * 16 ≤ 140737488355328) :
  Calls Tryz.prog 282 #[.slice none 0 0, .int .i64 m] w fun e w' => ∃ A' c', e = .returned (.slice A' 0 c') ∧ OwnsSp w.heap.size w' A' c' [] ∧ Ext w w' := by
 subst hm
 obtain ⟨i, hi, hz, h1, h2⟩ := info_parts spInfo
 by_cases h0 : n = 0
 ·subst h0
  go_enter Tryz.func282, Tryz.ntmps282
  go_wp2
  go_ret
  exact ⟨none, 0, rfl, Owns.nil _ _ _ _ _, eR _⟩
 ·have hcon := Any8.slices_Grow_grow Tryz.growSp i (.agg #[.int .i64 0, .int .i64 0]) hi hz (by omega) none 0 0 n [] w (Nat.le_refl _) (by omega) (by rw [h2]; omega) (by omega) (by simp) (fun _ => rfl) (fun a h => by cases h)
  change Calls Tryz.prog 282 _ _ _ at hcon
  refine hcon.mono ?_
  rintro e w' ⟨rfl, rfl⟩
  refine ⟨some ⟨w.heap.size, 0, none⟩, _, rfl, Owns.mk spE (Nat.le_refl _) (heap_alloc_new w.drew _) (Nat.zero_le _) (grownCap_le_maxLen _ _ _ _ (by unfold maxLen; omega)) ?_ (by simp), ((Ext.refl w).drew).alloc _⟩
  have hge := grownCap_ge w (0 + n) 0 (Tryz.growSp_ren.t 25)
  show _ = grownCap w (0 + n) 0 (Tryz.growSp_ren.t 25) * 2
  generalize grownCap w (0 + n) 0 (Tryz.growSp_ren.t 25) = cc at *
  simp [size_zeroCells, Value.cells]
  omega
theorem concat_any (b : Nat) (A1 : Option Addr) (c1 : Nat) (l1 : List Sp) (A2 : Option Addr) (c2 : Nat) (l2 : List Sp) (w : World) (hb : b < w.heap.size) (k1 : w.cell? ⟨b, 0, none⟩ = some (.slice A1 l1.length c1)) (k2 : w.cell? ⟨b, 1, none⟩ = some (.slice A2 l2.length c2))
  (r1 : ReadsSp w w.heap.size A1 l1) (r2 : ReadsSp w w.heap.size A2 l2) (z1 : A1 = none → c1 = 0) (z2 : A2 = none → c2 = 0) (hlen : (l1.length + l2.length) * 16 ≤ 140737488355328) :
  Calls Tryz.prog 246 #[.slice (some ⟨b, 0, none⟩) 2 2] w fun e w' => ∃ A' c' l', e = .returned (.slice A' l'.length c') ∧ Hid (l' = l1 ++ l2) ∧ OwnsSp w.heap.size w' A' c' l' ∧ Ext w w' := by
 have HR1 := lh r1
 have HR2 := lh r2
 have HZ1 := lh z1
 have HZ2 := lh z2
 clear r1 r2 z1 z2
 go_enter Tryz.func246, Tryz.ntmps246
 go_wp2
 refine wp_loop_rounds 3 ?_
 rw [rounds_succ]
 go_wp2
 rw [rounds_succ]
 go_wp2
 rw [rounds_succ]
 go_wp2_with (go_at_call 282; refine (grow_any (l1.length + l2.length) _ (by simp) _ (by omega)).mono ?_; rintro e w1 ⟨A3, c3, rfl, ho, hx⟩; have HO := lh ho; have HX := lh hx; have hszx := hx.size; have k1' := (hx.cell (p := ⟨b, 0, none⟩) hb).trans k1; have k2' := (hx.cell (p := ⟨b, 1, none⟩) hb).trans k2; clear ho hx)
 refine wp_loop_rounds 3 ?_
 rw [rounds_succ]
 go_wp2_with (at_builtin; refine app_reads spT spE rfl _ _ rfl w.heap.size A3 c3 [] rfl HO.out w.heap.size A1 c1 l1 rfl (HR1.out.ext HX.out (Nat.le_refl _)) HZ1.out (by simp; omega) (by simp; omega) hszx ?_; intro A4 c4 l4 w4 HL4 HO4 hB4 hl1 hl2 _; have hl1' : l4.length ≤ l1.length := (by simpa using hl1); have HO4' := lh HO4; have HB4 := lh hB4; have k2'' := (hB4.cell (p := ⟨b, 1, none⟩) hb).trans k2'; have hsz4 := hB4.size; clear HO4 hB4)
 rw [rounds_succ]
 go_wp2_with (at_builtin; refine app_reads spT spE rfl _ _ rfl w.heap.size A4 c4 l4 rfl HO4'.out w.heap.size A2 c2 l2 rfl ((HR2.out.ext HX.out (Nat.le_refl _)).below HB4.out) HZ2.out (by omega) (by omega) (by omega) ?_; intro A5 c5 l5 w5 HL5 HO5 hB5 hl3 hl4 _; have HO5' := lh HO5; have HB5 := lh hB5; clear HO5 hB5)
 rw [rounds_succ]
 go_wp2
 go_ret
 exact ⟨A5, c5, l5, rfl, lh (by rw [HL5.out, HL4.out, List.nil_append]), HO5'.out, (HX.out.grown HB4.out (Nat.le_refl _)).grown HB5.out (Nat.le_refl _)⟩
end Go.Proofs.YtmgekdggahoboaaGreatDoor

namespace Go.Proofs.YtmgekdggahoboaaGreatDoor
open Go.RowKit
section
variable {F : Fence} {nF : Nat} {P : Program} {ops : Array Oper} {md : Region.Mode}
theorem wpAnyIn_of_seq {Q' : Exit → Act → World → Prop} : ∀ (l : List Oper) (k : Nat) (listed : Array Bool) (a : Act) (w : World), (∀ j, l[j]? = ops[k + j]?) →
  Region.seqB md ops l.length k listed = true → wpListIn F nF P ops Q' l a w → wpAnyIn F nF P md ops Q' l.length listed a w
 | [], _, _, _, _, _, hB, h => ⟨by simpa [Region.seqB] using hB, h⟩
 | o :: l, k, listed, a, w, hl, hB, h => by
  have h0 : ops[k]? = some o := by simpa using (hl 0).symm
  simp only [List.length_cons, Region.seqB, Bool.and_eq_true, decide_eq_true_eq] at hB
  refine ⟨fun h1 => (by rw [hB.1] at h1; cases h1), fun i hi => ?_⟩
  rw [hB.1] at hi
  have hik : i = k := by simpa using hi
  subst hik
  have hw : wpOpIn F nF P ops Q' i (wpListIn F nF P ops Q' l) a w := by unfold wpOpIn; simp only [h0]; exact h
  exact wpOpIn_mono (fun a' w' h' => wpAnyIn_of_seq l (i + 1) _ a' w' (fun j => by have := hl (j + 1); simpa [Nat.add_assoc, Nat.add_comm 1 j] using this) hB.2 h') hw
end
section
variable {F : Fence} {nF : Nat} {P : Program} {ops : Array Oper} {md : Region.Mode} {C : World → Prop}
def wpAnyLQIn (F : Fence) (nF : Nat) (P : Program) (md : Region.Mode) (ops : Array Oper) (C : World → Prop) (n : Nat) (L : Array Bool → Act → Prop) : Nat → Array Bool → Act → Prop
 | 0, listed, a => L listed a
 | f + 1, listed, a =>
  Region.ready md ops listed ≠ [] ∧ ∀ i ∈ Region.ready md ops listed, i < n ∧ qOpIn F nF P ops C i (wpAnyLQIn F nF P md ops C n L f (listed.setIfInBounds i true)) a
theorem wpAnyIn_of_headQ (hro : F.round = none) {n g : Nat} {L : Array Bool → Act → Prop} {Q' : Exit → Act → World → Prop} (hL : ∀ listed a w, C w → L listed a → wpAnyIn F nF P md ops Q' g listed a w) :
  ∀ (f : Nat) (listed : Array Bool) (a : Act) (w : World), C w → wpAnyLQIn F nF P md ops C n L f listed a → wpAnyIn F nF P md ops Q' (f + g) listed a w
 | 0, listed, a, w, hC, h => by rw [Nat.zero_add]; exact hL _ _ _ hC h
 | f + 1, listed, a, w, hC, h => by
  rw [show f + 1 + g = (f + g) + 1 by omega]
  exact ⟨fun h0 => absurd h0 h.1, fun i hi => wpOpIn_of_qOpIn hro hC (fun a' w' hC' h' => wpAnyIn_of_headQ hro hL f _ a' w' hC' h') (h.2 i hi).2⟩
theorem wpAnyLQIn_first {n i : Nat} {oi : Oper} {v : Value} {L : Array Bool → Act → Prop} (hi : ops[i]? = some oi) (hsel : ∀ (j : Nat) (o : Oper) cs b, ops[j]? = some o → o.op ≠ .select cs b)
  (hs : Region.sinkB md ops n = true) (hc : Region.chainB md ops n = true) (hn : n < ops.size) (hin : i < n)
  (hdone : ∀ listed a, L listed a → ∀ j ∈ Region.ready md ops listed, n ≤ j) :
  ∀ (f : Nat) (listed : Array Bool) (a : Act), HeadInv md ops n listed →
   (∀ j oj, ops[j]? = some oj → j ≠ i → listed.getD j true = false → (∀ e ∈ oj.after, Region.binds md e = true → e.on ≠ i) → oi.apart ops oj = true) →
   i ∈ Region.ready md ops listed → YieldsQuiet F nF P ops C oi v a →
   wpAnyLQIn F nF P md ops C n L f (listed.setIfInBounds i true) (a.put oi.dst v) → wpAnyLQIn F nF P md ops C n L (f + 1) listed a := by
 intro f
 induction f with
 | zero =>
  intro listed a inv _ hr hy H
  have hun := (mem_ready.1 hr).1
  refine ⟨fun h => (by rw [h] at hr; cases hr), fun j hj => ?_⟩
  have hjn : j < n := by
   rcases Nat.lt_or_ge j n with h | h
   ·exact h
   ·exact absurd hj (tail_waits hs hc hn inv _ i rfl hin hun j h)
  refine ⟨hjn, ?_⟩
  by_cases hji : j = i
  ·subst hji; exact hy.qOpIn hi H
  ·have := hdone _ _ H j (ready_mono hj hji)
   omega
 | succ f ih =>
  intro listed a inv hfree hr hy H
  have hun := (mem_ready.1 hr).1
  refine ⟨fun h => (by rw [h] at hr; cases hr), fun j hj => ?_⟩
  have hjn : j < n := by
   rcases Nat.lt_or_ge j n with h | h
   ·exact h
   ·exact absurd hj (tail_waits hs hc hn inv _ i rfl hin hun j h)
  refine ⟨hjn, ?_⟩
  by_cases hji : j = i
  ·subst hji; exact hy.qOpIn hi H
  ·have h1 := (H.2 j (ready_mono hj hji)).2
   obtain ⟨hjun, oj, hoj, hall⟩ := mem_ready.1 hj
   have hnot : ∀ e ∈ oj.after, Region.binds md e = true → e.on ≠ i := fun e he hb heq => by
    have h1 := hall e he hb
    rw [heq, getD_both hun] at h1
    cases h1
   have h2 := qOpIn_put hoj (hfree j oj hoj hji hjun hnot) (fun cs b => hsel i oi cs b hi) (fun cs b => hsel j oj cs b hoj) hy h1
   have hfree' : ∀ k ok, ops[k]? = some ok → k ≠ i → (listed.setIfInBounds j true).getD k true = false →
     (∀ e ∈ ok.after, Region.binds md e = true → e.on ≠ i) → oi.apart ops ok = true := fun k ok hk hki hun hno => by
    refine hfree k ok hk hki ?_ hno
    by_cases hjk : j = k
    ·subst hjk; exact hjun
    ·rw [getD_set_ne true hjk] at hun; exact hun
   refine qOpIn_mono (fun a' h3 => ih (listed.setIfInBounds j true) a' (inv.set hj hjn) hfree' (ready_mono hr (Ne.symm hji)) h3.1 ?_) h2
   rw [Array.setIfInBounds_comm _ _ hji]
   exact h3.2
theorem wpAnyLQIn_lex {n g : Nat} {Lq : Act → Prop} (hsel : Region.noSelect ops = true) (hs : Region.sinkB md ops n = true) (hc : Region.chainB md ops n = true) (hn : n < ops.size) :
  ∀ (l : List Oper) (k : Nat) (listed : Array Bool) (a : Act), (∀ j, j < l.length → l[j]? = ops[k + j]?) → k + l.length = n → HeadInv md ops n listed →
  Region.lexHead md ops g l.length k listed = true → wpQuietIn F nF P ops C Lq l a →
  wpAnyLQIn F nF P md ops C n (fun listed' a' => Region.seqB md ops g n listed' = true ∧ Lq a') l.length listed a
 | [], k, listed, a, _, hk, _, hB, h => by
  have : k = n := by simpa using hk
  subst this
  exact ⟨by simpa [Region.lexHead] using hB, h⟩
 | o :: l, k, listed, a, hl, hk, inv, hB, h => by
  have h0 : ops[k]? = some o := by simpa using (hl 0 (by simp)).symm
  simp only [List.length_cons, Region.lexHead, Bool.and_eq_true] at hB
  obtain ⟨⟨hr, hf⟩, hB'⟩ := hB
  have hkn : k < n := by simp only [List.length_cons] at hk; omega
  have hr' : k ∈ Region.ready md ops listed := by simpa using hr
  have hst : qOpIn F nF P ops C k (wpQuietIn F nF P ops C Lq l) a := by unfold qOpIn; simp only [h0]; exact h
  obtain ⟨v, hy, hK⟩ := yieldsQuiet_of_qOpIn h0 hst
  exact wpAnyLQIn_first h0 (Region.noSelect_spec hsel) hs hc hn hkn (fun listed' a' hL => seqB_ready hL.1) l.length listed a inv (Region.free_spec h0 hf) hr' hy
   (wpAnyLQIn_lex hsel hs hc hn l (k + 1) _ _ (fun j hj => by have := hl (j + 1) (by simp; omega); simpa [Nat.add_assoc, Nat.add_comm 1 j] using this) (by simp only [List.length_cons] at hk; omega) (inv.set hr' hkn) hB' hK)
theorem wpIn_region_quiet_tail (hro : F.round = none) {id : Nat} {Q : Exit → Act → World → Prop} {a : Act} {w : World} {l : List Oper} (n : Nat) (hm : P.follows .mixedOrders = true) (hB : Region.lexTailB .any l.toArray n = true) (hC : C { w with drawn := w.drawn + 1 })
  (h : wpQuietIn F nF P l.toArray C (fun a' => ∀ w', C w' → wpListIn F nF P l.toArray Q (l.drop n) a' w') (l.take n) a) : (Code.region id l.toArray true).wpIn F nF P Q a w := by
 simp only [Region.lexTailB, Bool.and_eq_true, decide_eq_true_eq] at hB
 obtain ⟨⟨⟨⟨hsel, hn⟩, hs⟩, hc⟩, hlex⟩ := hB
 have hn' : n < l.length := by simpa using hn
 have htl : (l.take n).length = n := by simp; omega
 have hdl : (l.drop n).length = l.toArray.size - n := by simp
 have inv0 : HeadInv .any l.toArray n (Array.replicate l.toArray.size false) :=
  ⟨by simp, fun j oj _ hl => (by rw [getD_replicate_false] at hl; cases hl), fun t _ ht => getD_in (by simpa using ht) (getD_replicate_false _ _)⟩
 have H := wpAnyLQIn_lex (md := .any) (C := C) (g := l.toArray.size - n) hsel hs hc hn (l.take n) 0 _ a (fun j hj => by
  have hj' : j < n := by rw [htl] at hj; exact hj
  simp [hj']) (by simpa using htl) inv0 (by rw [htl]; exact hlex) h
 refine wpIn_region_any hm ?_
 have := wpAnyIn_of_headQ hro (Q' := Q) (g := l.toArray.size - n) (fun listed a' w' hC' hL => by
  have := wpAnyIn_of_seq (md := .any) (Q' := Q) (l.drop n) n listed a' w' (fun j => by simp [List.getElem?_drop]) (by rw [hdl]; exact hL.1) (hL.2 w' hC')
  rwa [hdl] at this) _ _ _ _ hC H
 rw [htl, show n + (l.toArray.size - n) = l.toArray.size by omega] at this
 exact this
end
theorem wpIn_region_later_tail {F : Fence} {nF : Nat} (hro : F.round = none) {P : Program} {id : Nat} {Q : Exit → Act → World → Prop} {a : Act} {w : World} {l : List Oper} (n : Nat) (hm : P.follows .mixedOrders = true) (hB : Region.lexTailB .any l.toArray n = true)
  (h : wpQuietIn F nF P l.toArray (fun w' => ∃ x, w' = later w x) (fun a' => ∀ w', (∃ x, w' = later w x) → wpListIn F nF P l.toArray Q (l.drop n) a' w') (l.take n) a) : (Code.region id l.toArray true).wpIn F nF P Q a w :=
 wpIn_region_quiet_tail hro (C := fun w' => ∃ x, w' = later w x) n hm hB (later_drew w) h
end Go.Proofs.YtmgekdggahoboaaGreatDoor
namespace Go.Proofs.YtmgekdggahoboaaGreatDoor
open Go.RowKit Go.Shelf
open Go.Proofs
open Go.Proofs.Sp (Sp)
attribute [local go_sem] Oper.semAt_some
def endsOf (l1 l2 : List Sp) : List Int := Lib.compact (msort (Sp.ends (l1 ++ l2)))
theorem ends_length (l : List Sp) : (Sp.ends l).length = l.length * 2 := by
 induction l with
 | nil => rfl
 | cons s l ih => simp only [Sp.ends, List.flatMap_cons, List.length_append, List.length_cons, List.length_nil] at ih ⊢; omega
theorem ends_snoc (l : List Sp) (k : Nat) (h : k < l.length) : Sp.ends (l.take (k + 1)) = Sp.ends (l.take k) ++ [l[k].1, l[k].2] := by
 unfold Sp.ends
 rw [List.take_succ_eq_append_getElem h, List.flatMap_append]; rfl
theorem endsOf_length (l1 l2 : List Sp) : (endsOf l1 l2).length ≤ (l1.length + l2.length) * 2 := by
 have := Lib.compact_length_le (msort (Sp.ends (l1 ++ l2)))
 rw [msort_length, ends_length, List.length_append] at this
 exact this
theorem endsOf_sorted (l1 l2 : List Sp) : (endsOf l1 l2).Pairwise (· < ·) := (compact_spec _ (msort_sorted _)).1
theorem endsOf_mem (l1 l2 : List Sp) (x : Int) : x ∈ endsOf l1 l2 ↔ x ∈ Sp.ends (l1 ++ l2) := ((compact_spec _ (msort_sorted _)).2 x).trans (msort_mem _ x)
def CutS (bo B : Nat) (b : Nat) : Prop := b = bo ∨ B ≤ b
def PastTo (l : List Sp) (E : List Int) (n i : Nat) : Prop := ∀ q, ∀ h : q < l.length, q < i → ∀ hn : n - 1 < E.length, l[q].2 ≤ E[n - 1]
def CutRel (J : Nat → World → Prop) (bo : Nat) (l1 l2 : List Sp) (E : List Int) (W1 : World) (vi vj vn : Value) (wr : World) : Prop :=
 ∃ i j n : Nat, vi = .int .i64 i ∧ vj = .int .i64 j ∧ vn = .int .i64 n ∧ 1 ≤ n ∧ (n ≤ E.length ∨ n = 1) ∧ i ≤ l1.length ∧ j ≤ l2.length ∧ Hid (PastTo l1 E n i) ∧ Hid (PastTo l2 E n j) ∧ Hid (J (n - 1) wr) ∧ Hid (ButS (CutS bo W1.heap.size) W1 wr)
def atB (l : List Sp) (i : Nat) (p : Int) : Bool := decide (i < l.length) && decide ((l.getD i (0, 0)).1 ≤ p)
def InRel (wr : World) (p1 p2 : Int) (l : List Sp) (v : Value) (wx : World) : Prop := ∃ i : Nat, i ≤ l.length ∧ v = .int .i64 i ∧ Hid (∀ q, ∀ h : q < l.length, q < i → l[q].2 ≤ p1) ∧ Hid (Ext wr wx) ∧ wx.cell? ⟨wr.heap.size, 0, none⟩ = some (.int .i64 p1) ∧ wx.cell? ⟨wr.heap.size, 1, none⟩ = some (.int .i64 p2) ∧ wr.heap.size < wx.heap.size
def EndRel (W0 : World) (base : Nat) (lc : List Sp) (vi v : Value) (wr : World) : Prop := ∃ (k : Nat) (A' : Option Addr) (c' : Nat) (out : List Int), k ≤ lc.length ∧ vi = .int .i64 k ∧ v = .slice A' out.length c' ∧ Hid (out = Sp.ends (lc.take k)) ∧ out.length ≤ k * 2 ∧ Hid (OwnsI base wr A' c' out) ∧ Hid (Ext W0 wr)
theorem Owns.keep {α : Type} {e : TypeId} {size base : Nat} {enc : α → List Value} {w w' : World} {A : Option Addr} {c : Nat} {l : List α} (h : Owns e size enc base w A c l) (hb : ∀ g, base ≤ g → g < w.heap.size → w'.heap[g]? = w.heap[g]?) : Owns e size enc base w' A c l := by
 refine ⟨h.1, ?_⟩
 rcases h.2 with k | ⟨g, cap, cur, h1, h2, h3, h4⟩
 ·exact .inl k
 ·exact .inr ⟨g, cap, cur, h1, h2, (hb g h2 (Array.getElem?_eq_some_iff.1 h3).1).trans h3, h4⟩
theorem cut1_in (l ba bb bo n0 : Nat) (A1 : Option Addr) (c1 : Nat) (l1 : List Sp) (A2 : Option Addr) (c2 : Nat) (l2 : List Sp) (W : World)
  (hlen : (l1.length + l2.length) * 16 ≤ 140737488350000) (hba : Boxed W ba 94 (.slice A1 l1.length c1)) (hbb : Boxed W bb 94 (.slice A2 l2.length c2)) (hr1 : ReadsSp W n0 A1 l1) (hr2 : ReadsSp W n0 A2 l2)
  (z1 : A1 = none → c1 = 0) (z2 : A2 = none → c2 = 0) (hn0 : n0 ≤ bo) (hbo : bo < W.heap.size) (hao : ba ≠ bo) (hbo2 : bb ≠ bo)
  (J : Nat → Nat → World → Prop) (h0 : ∀ W1, Ext W W1 → J W1.heap.size 0 W1) (hJ : ∀ B k W1 W2, J B k W1 → Ext W1 W2 → J B k W2)
  (hY : ∀ B k (h : k < (Sp.pieces (endsOf l1 l2)).length) i j W1, Hid (Sp.past l1 (Sp.pieces (endsOf l1 l2))[k].1 i) → Hid (Sp.past l2 (Sp.pieces (endsOf l1 l2))[k].1 j) → J B k W1 → ButS (CutS bo B) W W1 → W.heap.size ≤ B → B ≤ W1.heap.size →
   YieldAt Fence.wide 1 Tryz.prog l #[.agg #[.int .i64 (Sp.pieces (endsOf l1 l2))[k].1, .int .i64 (Sp.pieces (endsOf l1 l2))[k].2], .agg #[.bool (atB l1 i (Sp.pieces (endsOf l1 l2))[k].1), .bool (atB l2 j (Sp.pieces (endsOf l1 l2))[k].1)]] W1 fun e W' => e = .returned (.bool true) ∧ J B (k + 1) W' ∧ ButS (CutS bo B) W1 W') :
  CallsIn Fence.wide 2 Tryz.prog 245 #[.func (.yield l) #[] #[], .pointer (some ⟨ba, 0, none⟩), .pointer (some ⟨bb, 0, none⟩)] W fun e W' => (∃ v, e = .returned v) ∧ ∃ B, W.heap.size ≤ B ∧ J B (Sp.pieces (endsOf l1 l2)).length W' ∧ ButS (CutS bo B) W W' := by
 refine callsIn_of_wp Tryz.func245 rfl trivial ?_ rfl
 simp only [Tryz.ntmps245, List.size_toArray, List.length_cons, List.length_nil, Nat.reduceAdd, Nat.reduceSub, Array.replicate_succ, Array.replicate_zero, List.push_toArray, List.append_toArray, List.nil_append, List.cons_append]
 have hca := hba.cell
 have hcb := hbb.cell
 have hla := hba.lt
 have hlb := hbb.lt
 have HBA := lh hba
 have HBB := lh hbb
 have HY := lh hY
 have HJ := lh hJ
 have H0 := lh h0
 have HR1 := lh hr1
 have HR2 := lh hr2
 have HZ1 := lh z1
 have HZ2 := lh z2
 clear hY hJ h0 hr1 hr2 z1 z2 hba hbb
 gi_wp2_with (refine ⟨trivial, ?_⟩; gi_at_call 246; refine (callsIn_wide.2 (concat_any W.heap.size A1 c1 l1 A2 c2 l2 _ (by simp) (by rw [alloc_cell_if, if_pos rfl]; rfl) (by rw [alloc_cell_if, if_pos rfl]; rfl) ((HR1.out.up (by omega)).on ((eR _).alloc _)) ((HR2.out.up (by omega)).on ((eR _).alloc _)) HZ1.out HZ2.out (by omega))).mono ?_; rintro e w1 ⟨A3, c3, lc, rfl, HLC, ho3, hx3⟩; have HO3 := lh (ho3.reads spE); have HX3 : Hid (Ext W w1) := lh (((Ext.refl W).alloc _).trans hx3); have hlc : lc.length ≤ l1.length + l2.length := (by rw [HLC.out, List.length_append]; omega); have hsz3 := HX3.out.size; clear ho3 hx3)
 gi_loopw [16, 4] (EndRel w1 w1.heap.size lc) (fun i _ _ => lc.length - (intOf i).toNat)
 case atStart => exact ⟨0, none, 0, [], Nat.zero_le _, rfl, rfl, lh rfl, Nat.le_refl _, lh (Owns.nil _ _ _ _ _), lh (eR _)⟩
 case round =>
  obtain ⟨k, A', c', out, hk, rfl, rfl, HE, hol, HOw, HX⟩ := hrel
  have hszr := HX.out.size
  by_cases hlt : k < lc.length
  ·obtain ⟨b, off, rfl, hb, d1, d2⟩ := ReadsSp.cell (HO3.out.ext HX.out (Nat.le_refl _)) k hlt
   have HS := lh (ends_snoc lc k hlt)
   rw [← HE.out] at HS
   generalize lc[k] = s at *
   obtain ⟨s1, s2⟩ := s
   simp only [] at d1 d2
   gi_wp2_with (gi_at_builtin; refine app_fromIn iT iE rfl _ _ rfl w1.heap.size _ _ out rfl ((HOw.out.alloc _).alloc _) _ 2 _ [s1, s2] rfl rfl (new_cellsAt (by simp) _ _) (by omega) (by omega) (by simp <;> omega) ?_; intro A5 c5 l5 w5 HL5 HO5 hB5 hl1 hl2 _; have HO5' := lh HO5; have HB5 := lh hB5; clear HO5 hB5)
   go_roundw
   case rel => exact ⟨k + 1, A5, c5, l5, by omega, by go_num, rfl, lh (by rw [HL5.out, HS.out]), by omega, HO5', lh (((HX.out.alloc _).alloc _).grown HB5.out (Nat.le_refl _))⟩
   case measure => simp [intOf]; omega
  ·have e : k = lc.length := by omega
   subst e
   have HE2 : Hid (out = Sp.ends (l1 ++ l2)) := lh (by rw [HE.out, List.take_length, HLC.out])
   gi_wp2_with (first
    | (refine ⟨trivial, ?_⟩; gi_at_call 247; refine (callsIn_wide.2 (sortI_any w1.heap.size A' c' out _ (by omega) HOw.out)).mono ?_; rintro e w6 ⟨rfl, ho6, hb6⟩; have HO6 := lh ho6; have HB6 := lh hb6; have hms := msort_length out; clear ho6 hb6)
    | (refine ⟨trivial, ?_⟩; gi_at_call 248; rw [← hms]; refine (callsIn_wide.2 (compactI_any w1.heap.size A' c' (msort out) _ (by omega) HO6.out)).mono ?_; rintro e w7 ⟨rfl, ho7, hb7⟩; have HO7 := lh ho7; have HB7 := lh hb7; clear ho7 hb7))
   have hEW : Ext W w7 := ((HX3.out.trans HX.out).grown HB6.out (by omega)).grown HB7.out (by omega)
   have HEW := lh hEW
   have hq : endsOf l1 l2 = Lib.compact (msort out) := by rw [endsOf, ← HE2.out]
   rw [hq] at HY
   have HQ := lh hq
   have HSt := lh (hq ▸ endsOf_sorted l1 l2)
   have hEl := endsOf_length l1 l2
   rw [hq] at hEl
   have hsz6 := HB6.out.size
   have hsz7 := HB7.out.size
   clear hq hEW hca hcb
   generalize Lib.compact (msort out) = E at HO7 HY HQ HSt hEl ⊢
   gi_loopw [7, 8, 9] (CutRel (J w7.heap.size) bo l1 l2 E w7) (fun _ _ v _ => E.length - (intOf v).toNat)
   case atStart => exact ⟨0, 0, 1, rfl, rfl, rfl, Nat.le_refl _, .inr rfl, Nat.zero_le _, Nat.zero_le _, lh (fun q _ h => absurd h (Nat.not_lt_zero _)), lh (fun q _ h => absurd h (Nat.not_lt_zero _)), lh (H0.out w7 HEW.out), lh (ButS.refl _ _)⟩
   case round =>
    obtain ⟨i, j, n, rfl, rfl, rfl, hn1, hn2, hi, hj, HP1, HP2, HJn, HB⟩ := hrel
    generalize wr = wo at *
    have hszB := HB.out.size
    have hszW := HEW.out.size
    have hca : wo.cell? ⟨ba, 0, none⟩ = some (.slice A1 l1.length c1) := (HB.out.boxed (Boxed.ext HBA.out HEW.out) (by unfold CutS; omega)).cell
    have hcb : wo.cell? ⟨bb, 0, none⟩ = some (.slice A2 l2.length c2) := (HB.out.boxed (Boxed.ext HBB.out HEW.out) (by unfold CutS; omega)).cell
    have HO8 : Hid (OwnsI w1.heap.size wo A' c' E) := lh (HO7.out.keep (fun g h1 h2 => HB.out.block g h2 (by unfold CutS; omega)))
    have HR1o : Hid (ReadsSp wo n0 A1 l1) := lh ((HR1.out.ext HEW.out (by omega)).butS HB.out (by omega) (fun k hk => by unfold CutS; omega))
    have HR2o : Hid (ReadsSp wo n0 A2 l2) := lh ((HR2.out.ext HEW.out (by omega)).butS HB.out (by omega) (fun k hk => by unfold CutS; omega))
    by_cases hlt : n < E.length
    ·obtain ⟨be, offe, rfl, hbe, e1⟩ := ReadsI.cell (HO8.out.reads iE) (n - 1) (by omega)
     obtain ⟨be', offe', eqA, _, e2⟩ := ReadsI.cell (HO8.out.reads iE) n hlt
     injection eqA with eqA
     injection eqA with eq1 eq2
     subst eq1 eq2
     obtain ⟨p1, hp1⟩ : ∃ p, E[n - 1] = p := ⟨_, rfl⟩
     obtain ⟨p2, hp2⟩ : ∃ p, E[n] = p := ⟨_, rfl⟩
     have hkp : n - 1 < (Sp.pieces E).length := by rw [Sp.pieces_length]; omega
     have HPv : Hid ((Sp.pieces E)[n - 1] = (p1, p2)) := lh (by
      have h1 := Sp.pieces_get E (n - 1) (by omega)
      rw [List.getElem?_eq_getElem hkp] at h1
      have h2 := Option.some.inj h1
      have e : n - 1 + 1 = n := by omega
      simp only [e] at h2
      rw [h2, hp1, hp2])
     have HK := lh hkp
     have HLE : Hid (p1 < p2) := lh (by rw [← hp1, ← hp2]; exact List.pairwise_iff_getElem.1 HSt.out (n - 1) n (by omega) hlt (by omega))
     have HP1' : Hid (∀ q, ∀ h : q < l1.length, q < i → l1[q].2 ≤ p1) := lh (fun q h k => by rw [← hp1]; exact HP1.out q h k (by omega))
     have HP2' : Hid (∀ q, ∀ h : q < l2.length, q < j → l2[q].2 ≤ p1) := lh (fun q h k => by rw [← hp1]; exact HP2.out q h k (by omega))
     have HN1 : Hid (∀ i', (∀ q, ∀ h : q < l1.length, q < i' → l1[q].2 ≤ p1) → PastTo l1 E (n + 1) i') := lh (fun i' hh q h k hn => by
      have h1 := hh q h k
      have h2 := HLE.out
      simp only [Nat.add_sub_cancel, hp2]
      omega)
     have HN2 : Hid (∀ i', (∀ q, ∀ h : q < l2.length, q < i' → l2[q].2 ≤ p1) → PastTo l2 E (n + 1) i') := lh (fun i' hh q h k hn => by
      have h1 := hh q h k
      have h2 := HLE.out
      simp only [Nat.add_sub_cancel, hp2]
      omega)
     rw [hp1] at e1
     rw [hp2] at e2
     clear hp1 hp2
     gi_wp2
     refine wpIn_wide.2 ?_
     go_region
     gi_wp2
     gi_loopw [7] (InRel wo p1 p2 l1) (fun v _ => l1.length - (intOf v).toNat)
     case atStart => exact ⟨i, hi, rfl, HP1', lh (((Ext.refl wo).alloc _).drew), (RowAt.drew (RowAt.new wo #[.int .i64 p1, .int .i64 p2] 54)).cell 0, (RowAt.drew (RowAt.new wo #[.int .i64 p1, .int .i64 p2] 54)).cell 1, by simp⟩
     case round =>
      obtain ⟨i1, hi1, rfl, HQ1, HXx, s1', s2', hsx⟩ := hrel
      generalize wr = wx at *
      have hcax : wx.cell? ⟨ba, 0, none⟩ = some (.slice A1 l1.length c1) := (HXx.out.cell (p := ⟨ba, 0, none⟩) (by show ba < _; omega)).trans hca
      have hcbx : wx.cell? ⟨bb, 0, none⟩ = some (.slice A2 l2.length c2) := (HXx.out.cell (p := ⟨bb, 0, none⟩) (by show bb < _; omega)).trans hcb
      by_cases hia : i1 < l1.length
      ·obtain ⟨b1, off1, rfl, hb1, x1c, x2c⟩ := ReadsSp.cell HR1o.out i1 hia
       have x1d := (HXx.out.cell (p := ⟨b1, off1 + i1 * 2, none⟩) (by show b1 < _; omega)).trans x1c
       have x2d := (HXx.out.cell (p := ⟨b1, off1 + i1 * 2 + 1, none⟩) (by show b1 < _; omega)).trans x2c
       have da0 : decide (i1 < l1.length) = true := by simpa using hia
       have da1 : decide ((i1 : Int) < (l1.length : Int)) = true := by simp; omega
       have HQs : Hid (l1[i1].2 ≤ p1 → ∀ q, ∀ h : q < l1.length, q < i1 + 1 → l1[q].2 ≤ p1) := lh (fun hh q h k => by
        by_cases e : q = i1
        ·subst e; exact hh
        ·exact HQ1.out q h (by omega))
       have HPq : Hid (p1 < l1[i1].2 → Sp.past l1 p1 i1) := lh (fun hh => ⟨hi1, fun q h k => HQ1.out q h k, fun _ => hh⟩)
       have HAt : Hid (atB l1 i1 p1 = decide (l1[i1].1 ≤ p1)) := lh (by simp [atB, hia])
       generalize l1[i1] = x at *
       obtain ⟨x1, x2⟩ := x
       simp only [] at x1c x2c x1d x2d
       by_cases hxp : x2 ≤ p1
       ·have dx : decide (x2 ≤ p1) = true := by simpa using hxp
        have HQn := lh (HQs.out hxp)
        gi_wp2
        refine wpIn_wide.2 ?_
        refine wp_region_later (by kernel_rfl) (by kernel_rfl) ?_
        repeat (first | go_big_quiet_step (fail) | quiet_step (fail))
        refine wpQuiet_nil ?_
        rintro _ ⟨xq, rfl⟩
        gi_wp2
        go_roundw
        case rel => exact ⟨i1 + 1, by omega, by go_num, HQn, lh (HXx.out.onto _), by rw [later_cell_if, if_pos (by omega)]; exact s1', by rw [later_cell_if, if_pos (by omega)]; exact s2', by rw [later_size]; omega⟩
        case measure => simp [intOf]; omega
       ·have dx : decide (x2 ≤ p1) = false := by simp; omega
        have HPs1 := lh (HPq.out (by show p1 < x2; omega))
        have HA1 := HAt
        gi_wp2
        refine wpIn_wide.2 ?_
        refine wp_region_later (by kernel_rfl) (by kernel_rfl) ?_
        repeat (first | go_big_quiet_step (fail) | quiet_step (fail))
        refine wpQuiet_nil ?_
        rintro _ ⟨xq, rfl⟩
        gi_wp2
        gi_loopw [8] (InRel wo p1 p2 l2) (fun v _ => l2.length - (intOf v).toNat)
        case atStart => exact ⟨j, hj, rfl, HP2', lh (HXx.out.onto _), by rw [later_cell_if, if_pos (by omega)]; exact s1', by rw [later_cell_if, if_pos (by omega)]; exact s2', by rw [later_size]; omega⟩
        case round =>
         obtain ⟨j1, hj1, rfl, HQ2, HXy, t1', t2', hsy⟩ := hrel
         generalize wr = wy at *
         have hcay := (HXy.out.cell (p := ⟨ba, 0, none⟩) (by show ba < _; omega)).trans hca
         have hcby := (HXy.out.cell (p := ⟨bb, 0, none⟩) (by show bb < _; omega)).trans hcb
         have x1y := (HXy.out.cell (p := ⟨b1, off1 + i1 * 2, none⟩) (by show b1 < _; omega)).trans x1c
         by_cases hjb : j1 < l2.length
         ·obtain ⟨b2, off2, rfl, hb2, y1o, y2o⟩ := ReadsSp.cell HR2o.out j1 hjb
          have y1c := (HXy.out.cell (p := ⟨b2, off2 + j1 * 2, none⟩) (by show b2 < _; omega)).trans y1o
          have y2c := (HXy.out.cell (p := ⟨b2, off2 + j1 * 2 + 1, none⟩) (by show b2 < _; omega)).trans y2o
          have db0 : decide (j1 < l2.length) = true := by simpa using hjb
          have db1 : decide ((j1 : Int) < (l2.length : Int)) = true := by simp; omega
          have HQs2 : Hid (l2[j1].2 ≤ p1 → ∀ q, ∀ h : q < l2.length, q < j1 + 1 → l2[q].2 ≤ p1) := lh (fun hh q h k => by
           by_cases e : q = j1
           ·subst e; exact hh
           ·exact HQ2.out q h (by omega))
          have HPq2 : Hid (p1 < l2[j1].2 → Sp.past l2 p1 j1) := lh (fun hh => ⟨hj1, fun q h k => HQ2.out q h k, fun _ => hh⟩)
          have HAt2 : Hid (atB l2 j1 p1 = decide (l2[j1].1 ≤ p1)) := lh (by simp [atB, hjb])
          generalize l2[j1] = y at *
          obtain ⟨y1, y2⟩ := y
          simp only [] at y1c y2c y1o y2o
          by_cases hyp : y2 ≤ p1
          ·have dy : decide (y2 ≤ p1) = true := by simpa using hyp
           have HQn2 := lh (HQs2.out hyp)
           gi_wp2
           refine wpIn_wide.2 ?_
           refine wp_region_later (by kernel_rfl) (by kernel_rfl) ?_
           repeat (first | go_big_quiet_step (fail) | quiet_step (fail))
           refine wpQuiet_nil ?_
           rintro _ ⟨xq, rfl⟩
           gi_wp2
           go_roundw
           case rel => exact ⟨j1 + 1, by omega, by go_num, HQn2, lh (HXy.out.onto _), by rw [later_cell_if, if_pos (by omega)]; exact t1', by rw [later_cell_if, if_pos (by omega)]; exact t2', by rw [later_size]; omega⟩
           case measure => simp [intOf]; omega
          ·have dy : decide (y2 ≤ p1) = false := by simp; omega
           have HPs2 := lh (HPq2.out (by show p1 < y2; omega))
           have HA2 := HAt2
           gi_wp2
           refine wpIn_wide.2 ?_
           refine wp_region_later (by kernel_rfl) (by kernel_rfl) ?_
           repeat (first | go_big_quiet_step (fail) | quiet_step (fail))
           refine wpQuiet_nil ?_
           rintro _ ⟨xq, rfl⟩
           gi_wp2
           refine wpIn_region_later_tail rfl 31 (by kernel_rfl) (by kernel_rfl) ?_
           simp only [List.take_succ_cons, List.take_zero, List.drop_succ_cons, List.drop_zero]
           repeat (first | gi_big_quiet_step (fail) | quiet_step_in (fail))
           refine wpQuietIn_nil ?_
           rintro _ ⟨xr, rfl⟩
           rw [later_later]
           have hy0 := HY.out w7.heap.size (n - 1) HK.out i1 j1 (later wy (xq.comp xr)) (by rw [HPv.out]; exact HPs1) (by rw [HPv.out]; exact HPs2) (HJ.out _ _ _ _ HJn.out (HXy.out.onto _)) (((ButS.of_ext HEW.out).trans HB.out).ext (HXy.out.onto _)) (by omega) (by have := (HXy.out.onto (xq.comp xr)).size; omega)
           simp only [HPv.out, HA1.out, HA2.out] at hy0
           obtain ⟨fn, tmps, assign, body, hy, hR⟩ := hy0
           have HRR := lh hR
           clear hR
           gi_wp2
           refine HRR.out.mono ?_
           rintro e W' ⟨rfl, hj', hb'⟩
           have HJ2 := lh hj'
           have HB2 : Hid (ButS (CutS bo w7.heap.size) w7 W') := lh ((HB.out.ext (HXy.out.onto _)).trans hb')
           clear hj' hb' hy HRR
           gi_wp2
           go_roundw
           case rel => exact ⟨i1, j1, n + 1, rfl, rfl, by go_num, by omega, .inl (by omega), by omega, by omega, lh (HN1.out i1 HQ1.out), lh (HN2.out j1 HQ2.out), lh (by have h := HJ2.out; rw [show n - 1 + 1 = n + 1 - 1 by omega] at h; exact h), HB2⟩
           case measure => simp [intOf]; omega
         ·have db0 : decide (j1 < l2.length) = false := by simpa using hjb
          have db1 : decide ((j1 : Int) < (l2.length : Int)) = false := by simp; omega
          have HPs2 : Hid (Sp.past l2 p1 j1) := lh ⟨hj1, fun q h k => HQ2.out q h k, fun h => absurd h hjb⟩
          have HA2 : Hid (atB l2 j1 p1 = false) := lh (by simp [atB, hjb])
          gi_wp2
          refine wpIn_wide.2 ?_
          refine wp_region_later (by kernel_rfl) (by kernel_rfl) ?_
          repeat (first | go_big_quiet_step (fail) | quiet_step (fail))
          refine wpQuiet_nil ?_
          rintro _ ⟨xq, rfl⟩
          gi_wp2
          refine wpIn_region_later_tail rfl 31 (by kernel_rfl) (by kernel_rfl) ?_
          simp only [List.take_succ_cons, List.take_zero, List.drop_succ_cons, List.drop_zero]
          repeat (first | gi_big_quiet_step (fail) | quiet_step_in (fail))
          refine wpQuietIn_nil ?_
          rintro _ ⟨xr, rfl⟩
          rw [later_later]
          have hy0 := HY.out w7.heap.size (n - 1) HK.out i1 j1 (later wy (xq.comp xr)) (by rw [HPv.out]; exact HPs1) (by rw [HPv.out]; exact HPs2) (HJ.out _ _ _ _ HJn.out (HXy.out.onto _)) (((ButS.of_ext HEW.out).trans HB.out).ext (HXy.out.onto _)) (by omega) (by have := (HXy.out.onto (xq.comp xr)).size; omega)
          simp only [HPv.out, HA1.out, HA2.out] at hy0
          obtain ⟨fn, tmps, assign, body, hy, hR⟩ := hy0
          have HRR := lh hR
          clear hR
          gi_wp2
          refine HRR.out.mono ?_
          rintro e W' ⟨rfl, hj', hb'⟩
          have HJ2 := lh hj'
          have HB2 : Hid (ButS (CutS bo w7.heap.size) w7 W') := lh ((HB.out.ext (HXy.out.onto _)).trans hb')
          clear hj' hb' hy HRR
          gi_wp2
          go_roundw
          case rel => exact ⟨i1, j1, n + 1, rfl, rfl, by go_num, by omega, .inl (by omega), by omega, by omega, lh (HN1.out i1 HQ1.out), lh (HN2.out j1 HQ2.out), lh (by have h := HJ2.out; rw [show n - 1 + 1 = n + 1 - 1 by omega] at h; exact h), HB2⟩
          case measure => simp [intOf]; omega
      ·have da0 : decide (i1 < l1.length) = false := by simpa using hia
       have da1 : decide ((i1 : Int) < (l1.length : Int)) = false := by simp; omega
       have HPs1 : Hid (Sp.past l1 p1 i1) := lh ⟨hi1, fun q h k => HQ1.out q h k, fun h => absurd h hia⟩
       have HA1 : Hid (atB l1 i1 p1 = false) := lh (by simp [atB, hia])
       gi_wp2
       refine wpIn_wide.2 ?_
       refine wp_region_later (by kernel_rfl) (by kernel_rfl) ?_
       repeat (first | go_big_quiet_step (fail) | quiet_step (fail))
       refine wpQuiet_nil ?_
       rintro _ ⟨xq, rfl⟩
       gi_wp2
       gi_loopw [8] (InRel wo p1 p2 l2) (fun v _ => l2.length - (intOf v).toNat)
       case atStart => exact ⟨j, hj, rfl, HP2', lh (HXx.out.onto _), by rw [later_cell_if, if_pos (by omega)]; exact s1', by rw [later_cell_if, if_pos (by omega)]; exact s2', by rw [later_size]; omega⟩
       case round =>
        obtain ⟨j1, hj1, rfl, HQ2, HXy, t1', t2', hsy⟩ := hrel
        generalize wr = wy at *
        have hcay := (HXy.out.cell (p := ⟨ba, 0, none⟩) (by show ba < _; omega)).trans hca
        have hcby := (HXy.out.cell (p := ⟨bb, 0, none⟩) (by show bb < _; omega)).trans hcb
        skip
        by_cases hjb : j1 < l2.length
        ·obtain ⟨b2, off2, rfl, hb2, y1o, y2o⟩ := ReadsSp.cell HR2o.out j1 hjb
         have y1c := (HXy.out.cell (p := ⟨b2, off2 + j1 * 2, none⟩) (by show b2 < _; omega)).trans y1o
         have y2c := (HXy.out.cell (p := ⟨b2, off2 + j1 * 2 + 1, none⟩) (by show b2 < _; omega)).trans y2o
         have db0 : decide (j1 < l2.length) = true := by simpa using hjb
         have db1 : decide ((j1 : Int) < (l2.length : Int)) = true := by simp; omega
         have HQs2 : Hid (l2[j1].2 ≤ p1 → ∀ q, ∀ h : q < l2.length, q < j1 + 1 → l2[q].2 ≤ p1) := lh (fun hh q h k => by
          by_cases e : q = j1
          ·subst e; exact hh
          ·exact HQ2.out q h (by omega))
         have HPq2 : Hid (p1 < l2[j1].2 → Sp.past l2 p1 j1) := lh (fun hh => ⟨hj1, fun q h k => HQ2.out q h k, fun _ => hh⟩)
         have HAt2 : Hid (atB l2 j1 p1 = decide (l2[j1].1 ≤ p1)) := lh (by simp [atB, hjb])
         generalize l2[j1] = y at *
         obtain ⟨y1, y2⟩ := y
         simp only [] at y1c y2c y1o y2o
         by_cases hyp : y2 ≤ p1
         ·have dy : decide (y2 ≤ p1) = true := by simpa using hyp
          have HQn2 := lh (HQs2.out hyp)
          gi_wp2
          refine wpIn_wide.2 ?_
          refine wp_region_later (by kernel_rfl) (by kernel_rfl) ?_
          repeat (first | go_big_quiet_step (fail) | quiet_step (fail))
          refine wpQuiet_nil ?_
          rintro _ ⟨xq, rfl⟩
          gi_wp2
          go_roundw
          case rel => exact ⟨j1 + 1, by omega, by go_num, HQn2, lh (HXy.out.onto _), by rw [later_cell_if, if_pos (by omega)]; exact t1', by rw [later_cell_if, if_pos (by omega)]; exact t2', by rw [later_size]; omega⟩
          case measure => simp [intOf]; omega
         ·have dy : decide (y2 ≤ p1) = false := by simp; omega
          have HPs2 := lh (HPq2.out (by show p1 < y2; omega))
          have HA2 := HAt2
          gi_wp2
          refine wpIn_wide.2 ?_
          refine wp_region_later (by kernel_rfl) (by kernel_rfl) ?_
          repeat (first | go_big_quiet_step (fail) | quiet_step (fail))
          refine wpQuiet_nil ?_
          rintro _ ⟨xq, rfl⟩
          gi_wp2
          refine wpIn_region_later_tail rfl 31 (by kernel_rfl) (by kernel_rfl) ?_
          simp only [List.take_succ_cons, List.take_zero, List.drop_succ_cons, List.drop_zero]
          repeat (first | gi_big_quiet_step (fail) | quiet_step_in (fail))
          refine wpQuietIn_nil ?_
          rintro _ ⟨xr, rfl⟩
          rw [later_later]
          have hy0 := HY.out w7.heap.size (n - 1) HK.out i1 j1 (later wy (xq.comp xr)) (by rw [HPv.out]; exact HPs1) (by rw [HPv.out]; exact HPs2) (HJ.out _ _ _ _ HJn.out (HXy.out.onto _)) (((ButS.of_ext HEW.out).trans HB.out).ext (HXy.out.onto _)) (by omega) (by have := (HXy.out.onto (xq.comp xr)).size; omega)
          simp only [HPv.out, HA1.out, HA2.out] at hy0
          obtain ⟨fn, tmps, assign, body, hy, hR⟩ := hy0
          have HRR := lh hR
          clear hR
          gi_wp2
          refine HRR.out.mono ?_
          rintro e W' ⟨rfl, hj', hb'⟩
          have HJ2 := lh hj'
          have HB2 : Hid (ButS (CutS bo w7.heap.size) w7 W') := lh ((HB.out.ext (HXy.out.onto _)).trans hb')
          clear hj' hb' hy HRR
          gi_wp2
          go_roundw
          case rel => exact ⟨i1, j1, n + 1, rfl, rfl, by go_num, by omega, .inl (by omega), by omega, by omega, lh (HN1.out i1 HQ1.out), lh (HN2.out j1 HQ2.out), lh (by have h := HJ2.out; rw [show n - 1 + 1 = n + 1 - 1 by omega] at h; exact h), HB2⟩
          case measure => simp [intOf]; omega
        ·have db0 : decide (j1 < l2.length) = false := by simpa using hjb
         have db1 : decide ((j1 : Int) < (l2.length : Int)) = false := by simp; omega
         have HPs2 : Hid (Sp.past l2 p1 j1) := lh ⟨hj1, fun q h k => HQ2.out q h k, fun h => absurd h hjb⟩
         have HA2 : Hid (atB l2 j1 p1 = false) := lh (by simp [atB, hjb])
         gi_wp2
         refine wpIn_wide.2 ?_
         refine wp_region_later (by kernel_rfl) (by kernel_rfl) ?_
         repeat (first | go_big_quiet_step (fail) | quiet_step (fail))
         refine wpQuiet_nil ?_
         rintro _ ⟨xq, rfl⟩
         gi_wp2
         refine wpIn_region_later_tail rfl 31 (by kernel_rfl) (by kernel_rfl) ?_
         simp only [List.take_succ_cons, List.take_zero, List.drop_succ_cons, List.drop_zero]
         repeat (first | gi_big_quiet_step (fail) | quiet_step_in (fail))
         refine wpQuietIn_nil ?_
         rintro _ ⟨xr, rfl⟩
         rw [later_later]
         have hy0 := HY.out w7.heap.size (n - 1) HK.out i1 j1 (later wy (xq.comp xr)) (by rw [HPv.out]; exact HPs1) (by rw [HPv.out]; exact HPs2) (HJ.out _ _ _ _ HJn.out (HXy.out.onto _)) (((ButS.of_ext HEW.out).trans HB.out).ext (HXy.out.onto _)) (by omega) (by have := (HXy.out.onto (xq.comp xr)).size; omega)
         simp only [HPv.out, HA1.out, HA2.out] at hy0
         obtain ⟨fn, tmps, assign, body, hy, hR⟩ := hy0
         have HRR := lh hR
         clear hR
         gi_wp2
         refine HRR.out.mono ?_
         rintro e W' ⟨rfl, hj', hb'⟩
         have HJ2 := lh hj'
         have HB2 : Hid (ButS (CutS bo w7.heap.size) w7 W') := lh ((HB.out.ext (HXy.out.onto _)).trans hb')
         clear hj' hb' hy HRR
         gi_wp2
         go_roundw
         case rel => exact ⟨i1, j1, n + 1, rfl, rfl, by go_num, by omega, .inl (by omega), by omega, by omega, lh (HN1.out i1 HQ1.out), lh (HN2.out j1 HQ2.out), lh (by have h := HJ2.out; rw [show n - 1 + 1 = n + 1 - 1 by omega] at h; exact h), HB2⟩
         case measure => simp [intOf]; omega
    ·gi_wp2
     go_end0
     refine ⟨⟨_, rfl⟩, w7.heap.size, HEW.out.size, ?_, (ButS.of_ext HEW.out).trans HB.out⟩
     rw [HQ.out, Sp.pieces_length]
     have h := HJn.out
     rw [show n - 1 = E.length - 1 by omega] at h
     exact h
end Go.Proofs.YtmgekdggahoboaaGreatDoor
namespace Go.Proofs.YtmgekdggahoboaaGreatDoor
open Go.RowKit Go.Shelf
open Go.Proofs
open Go.Proofs.Sp (Sp)
attribute [local go_sem] Oper.semAt_some
def minusOf (l1 l2 : List Sp) (k : Nat) : List Sp := ((Sp.pieces (endsOf l1 l2)).take k).filter fun p => hasB l1 p.1 && !(hasB l2 p.1)
theorem minusOf_snoc (l1 l2 : List Sp) (k : Nat) (h : k < (Sp.pieces (endsOf l1 l2)).length) : minusOf l1 l2 (k + 1) = minusOf l1 l2 k ++ (if hasB l1 (Sp.pieces (endsOf l1 l2))[k].1 && !(hasB l2 (Sp.pieces (endsOf l1 l2))[k].1) then [(Sp.pieces (endsOf l1 l2))[k]] else []) := by
 unfold minusOf
 rw [List.take_succ_eq_append_getElem h, List.filter_append]
 congr 1
 by_cases hh : (hasB l1 (Sp.pieces (endsOf l1 l2))[k].1 && !(hasB l2 (Sp.pieces (endsOf l1 l2))[k].1)) = true
 ·rw [if_pos hh]; exact List.filter_cons_of_pos hh
 ·rw [if_neg hh]; exact List.filter_cons_of_neg hh
theorem minusOf_len (l1 l2 : List Sp) (k : Nat) : (minusOf l1 l2 k).length ≤ k := by
 unfold minusOf
 exact Nat.le_trans (List.length_filter_le _ _) (by rw [List.length_take]; omega)
theorem atB_has {l : List Sp} (hs : Sp.IsSet l) {p : Int} {i : Nat} (h : Sp.past l p i) : atB l i p = hasB l p := by
 rw [Bool.eq_iff_iff, hasB_iff, Sp.past_mem hs h]
 simp only [atB, Bool.and_eq_true, decide_eq_true_eq]
 constructor
 ·rintro ⟨h1, h2⟩; exact ⟨h1, by simpa [h1] using h2⟩
 ·rintro ⟨h1, h2⟩; exact ⟨h1, by simpa [h1] using h2⟩
theorem minus_mem {l1 l2 : List Sp} {k : Nat} (hk : (Sp.pieces (endsOf l1 l2)).length ≤ k) (x : Int) : Sp.mem (minusOf l1 l2 k) x ↔ Sp.mem l1 x ∧ ¬ Sp.mem l2 x := by
 have hso := endsOf_sorted l1 l2
 have hE1 : ∀ t ∈ l1, t.1 ∈ endsOf l1 l2 ∧ t.2 ∈ endsOf l1 l2 := fun t ht => by
  have := Sp.mem_ends (l := l1 ++ l2) (s := t) (List.mem_append.2 (.inl ht))
  exact ⟨(endsOf_mem ..).2 this.1, (endsOf_mem ..).2 this.2⟩
 have hE2 : ∀ t ∈ l2, t.1 ∈ endsOf l1 l2 ∧ t.2 ∈ endsOf l1 l2 := fun t ht => by
  have := Sp.mem_ends (l := l1 ++ l2) (s := t) (List.mem_append.2 (.inr ht))
  exact ⟨(endsOf_mem ..).2 this.1, (endsOf_mem ..).2 this.2⟩
 unfold minusOf
 rw [List.take_of_length_le hk]
 constructor
 ·rintro ⟨s, hs, h1, h2⟩
  obtain ⟨hs1, hs2⟩ := List.mem_filter.1 hs
  obtain ⟨_, _, _, hn⟩ := Sp.pieces_none hso s hs1
  simp only [Bool.and_eq_true, Bool.not_eq_true', hasB_iff] at hs2
  refine ⟨(Sp.mem_piece hE1 hn h1 h2).2 hs2.1, fun hm => ?_⟩
  have := (Sp.mem_piece hE2 hn h1 h2).1 hm
  rw [← hasB_iff, hs2.2] at this
  cases this
 ·rintro ⟨⟨t, ht, a, b⟩, hno⟩
  obtain ⟨s, hs, h1, h2⟩ := Sp.pieces_cover hso (hE1 t ht).1 (hE1 t ht).2 a b
  obtain ⟨_, _, _, hn⟩ := Sp.pieces_none hso s hs
  refine ⟨s, List.mem_filter.2 ⟨hs, ?_⟩, h1, h2⟩
  simp only [Bool.and_eq_true, Bool.not_eq_true', hasB_iff]
  refine ⟨(Sp.mem_piece hE1 hn h1 h2).1 ⟨t, ht, a, b⟩, ?_⟩
  cases hh : hasB l2 s.1 with
  | false => rfl
  | true => exact absurd ((Sp.mem_piece hE2 hn h1 h2).2 (hasB_iff.1 hh)) hno
theorem cut_any (A1 : Option Addr) (n1 c1 : Nat) (A2 : Option Addr) (n2 c2 : Nat) (w : World) :
  Calls Tryz.prog 205 #[.slice A1 n1 c1, .slice A2 n2 c2] w fun e w' => e = .returned (.func (.func 245) #[] #[.pointer (some ⟨w.heap.size, 0, none⟩), .pointer (some ⟨w.heap.size + 1, 0, none⟩)]) ∧
   (w.alloc (.cells #[.slice A1 n1 c1] 94)).alloc (.cells #[.slice A2 n2 c2] 94) = w' := by
 go_enter Tryz.func205, Tryz.ntmps205
 go_wp2
 go_ret
 exact ⟨rfl, rfl⟩
def bd2 (l : List Sp) : Prop := ∀ s ∈ l, (-4611686018427387904 ≤ s.1 ∧ s.1 ≤ 4611686018427387903) ∧ -4611686018427387904 ≤ s.2 ∧ s.2 ≤ 4611686018427387903
theorem minus_bd {l1 l2 : List Sp} (h1 : bd2 l1) (h2 : bd2 l2) (k : Nat) : bdSp (minusOf l1 l2 k) := by
 intro s hs
 have hs1 := List.mem_of_mem_take (List.mem_filter.1 hs).1
 obtain ⟨_, hm, _⟩ := Sp.pieces_none (endsOf_sorted l1 l2) s hs1
 rw [endsOf_mem] at hm
 obtain ⟨t, ht, hx⟩ := List.mem_flatMap.1 hm
 have hb : (-4611686018427387904 ≤ t.1 ∧ t.1 ≤ 4611686018427387903) ∧ -4611686018427387904 ≤ t.2 ∧ t.2 ≤ 4611686018427387903 := by
  rcases List.mem_append.1 ht with ht | ht
  ·exact h1 t ht
  ·exact h2 t ht
 simp only [List.mem_cons, List.not_mem_nil, or_false] at hx
 rcases hx with hx | hx <;> rw [hx]
 ·exact hb.1
 ·exact hb.2
theorem pieces_le (l1 l2 : List Sp) : (Sp.pieces (endsOf l1 l2)).length ≤ (l1.length + l2.length) * 2 := by
 have := endsOf_length l1 l2
 rw [Sp.pieces_length]; omega
theorem minus_any (A1 : Option Addr) (c1 : Nat) (l1 : List Sp) (A2 : Option Addr) (c2 : Nat) (l2 : List Sp) (w : World) (hs1 : Sp.IsSet l1) (hs2 : Sp.IsSet l2) (hb1 : bd2 l1) (hb2 : bd2 l2)
  (hlen : (l1.length + l2.length) * 32 ≤ 140737488350000) (hr1 : ReadsSp w w.heap.size A1 l1) (hr2 : ReadsSp w w.heap.size A2 l2) (z1 : A1 = none → c1 = 0) (z2 : A2 = none → c2 = 0) :
  Calls Tryz.prog 164 #[.slice A1 l1.length c1, .slice A2 l2.length c2] w fun e w' => ∃ A' c' out, e = .returned (.slice A' out.length c') ∧ Hid (SetOf (fun x => Sp.mem l1 x ∧ ¬ Sp.mem l2 x) out) ∧ out.length ≤ (l1.length + l2.length) * 2 ∧ OwnsSp w.heap.size w' A' c' out ∧ Ext w w' := by
 have HR1 := lh hr1
 have HR2 := lh hr2
 have HZ1 := lh z1
 have HZ2 := lh z2
 have HS1 := lh hs1
 have HS2 := lh hs2
 have HB1 := lh hb1
 have HB2 := lh hb2
 have hpl := pieces_le l1 l2
 clear hr1 hr2 z1 z2 hs1 hs2 hb1 hb2
 refine (callsIn_wide (n := 3)).1 ?_
 refine callsIn_of_wp_marks Tryz.func164 rfl trivial ?_ rfl
 simp only [Tryz.ntmps164, List.size_toArray, List.length_cons, List.length_nil, Nat.reduceAdd, Nat.reduceSub, Array.replicate_succ, Array.replicate_zero, List.push_toArray, List.append_toArray, List.nil_append, List.cons_append]
 gi_wp2_with (refine ⟨trivial, ?_⟩; gi_at_call 205; refine (callsIn_wide.2 (cut_any _ _ _ _ _ _ _)).mono ?_; rintro e w2 ⟨rfl, rfl⟩)
 have b1 : Boxed (((w.alloc (.cells #[.slice none 0 0] 94)).alloc (.cells #[.slice A1 l1.length c1] 94)).alloc (.cells #[.slice A2 l2.length c2] 94)) w.heap.size 94 (.slice none 0 0) := ((Boxed.new w 94 _).alloc _).alloc _
 have b2 : Boxed (((w.alloc (.cells #[.slice none 0 0] 94)).alloc (.cells #[.slice A1 l1.length c1] 94)).alloc (.cells #[.slice A2 l2.length c2] 94)) (w.heap.size + 1) 94 (.slice A1 l1.length c1) := by
  have := Boxed.new (w.alloc (.cells #[.slice none 0 0] 94)) 94 (.slice A1 l1.length c1); rw [World.size_alloc] at this; exact this.alloc _
 have b3 : Boxed (((w.alloc (.cells #[.slice none 0 0] 94)).alloc (.cells #[.slice A1 l1.length c1] 94)).alloc (.cells #[.slice A2 l2.length c2] 94)) (w.heap.size + 1 + 1) 94 (.slice A2 l2.length c2) := by
  have := Boxed.new ((w.alloc (.cells #[.slice none 0 0] 94)).alloc (.cells #[.slice A1 l1.length c1] 94)) 94 (.slice A2 l2.length c2); rw [World.size_alloc, World.size_alloc] at this; exact this
 have bs : (((w.alloc (.cells #[.slice none 0 0] 94)).alloc (.cells #[.slice A1 l1.length c1] 94)).alloc (.cells #[.slice A2 l2.length c2] 94)).heap.size = w.heap.size + 3 := by simp
 have bx : Ext w (((w.alloc (.cells #[.slice none 0 0] 94)).alloc (.cells #[.slice A1 l1.length c1] 94)).alloc (.cells #[.slice A2 l2.length c2] 94)) := (((eR _).alloc _).alloc _).alloc _
 generalize (((w.alloc (.cells #[.slice none 0 0] 94)).alloc (.cells #[.slice A1 l1.length c1] 94)).alloc (.cells #[.slice A2 l2.length c2] 94)) = W0 at b1 b2 b3 bs bx ⊢
 have hbs1 := Nat.le_of_eq bs
 have hbs2 := Nat.le_of_eq bs.symm
 clear bs
 refine rf_enter rfl (by omega) (gf := 245) (lb := #[.pointer (some ⟨w.heap.size + 1, 0, none⟩), .pointer (some ⟨w.heap.size + 1 + 1, 0, none⟩)]) rfl trivial (enters_of Tryz.func245 (by kernel_rfl) rfl) ?_
 intro fn WL hfn hE hEs hl0 hD0
 have hEa := Nat.le_of_eq hEs
 have hEb := Nat.le_of_eq hEs.symm
 clear hEs
 refine CallsIn.mono (cut1_in (W0.heap.size + 1) (w.heap.size + 1) (w.heap.size + 1 + 1) w.heap.size w.heap.size A1 c1 l1 A2 c2 l2 WL (by omega) (Boxed.ext b2 hE) (Boxed.ext b3 hE) (HR1.out.ext (bx.trans hE) (Nat.le_refl _)) (HR2.out.ext (bx.trans hE) (Nat.le_refl _)) HZ1.out HZ2.out (Nat.le_refl _) (by omega) (by omega) (by omega)
  (fun B k W => ∃ A' c' l', Hid (l' = minusOf l1 l2 k) ∧ Boxed W w.heap.size 94 (.slice A' l'.length c') ∧ OwnsSp B W A' c' l')
  (fun W1 hx => ⟨none, 0, [], lh (by simp [minusOf]), Boxed.ext (Boxed.ext b1 hE) hx, Owns.nil _ _ _ _ _⟩) (fun B k W1 W2 ⟨A', c', l', h1, h2, h3⟩ hx => ⟨A', c', l', h1, Boxed.ext h2 hx, h3.ext hx⟩) ?hY) ?post
 case hY =>
  rintro B k hk i j W1 HPs1 HPs2 ⟨A', c', l', HL, hbo, ho⟩ hBS hB1 hB2
  have hsz1 := hBS.size
  have hrec := (hBS.block (W0.heap.size + 1) (by omega) (by unfold CutS; omega)).trans hl0
  have hlt := (Array.getElem?_eq_some_iff.1 hrec).1
  have hll : l'.length ≤ k := by rw [HL.out]; exact minusOf_len l1 l2 k
  have HSn := lh (minusOf_snoc l1 l2 k hk)
  rw [← HL.out, ← atB_has HS1.out HPs1.out, ← atB_has HS2.out HPs2.out] at HSn
  clear HPs1 HPs2
  generalize atB l1 i (Sp.pieces (endsOf l1 l2))[k].1 = q1 at *
  generalize atB l2 j (Sp.pieces (endsOf l1 l2))[k].1 = q2 at *
  generalize (Sp.pieces (endsOf l1 l2))[k] = s at *
  obtain ⟨s1, s2⟩ := s
  refine rf_round hrec hfn rfl ?_
  have HREC := lh hrec
  clear hrec
  gi_wp2
  refine ⟨(Below.heap_alloc _ _ _ (by simp; omega)).trans ((Below.heap_alloc _ _ _ hlt).trans HREC.out), ?_⟩
  intro W2 hb2 hs2 hr2
  have hbp2 : Boxed W2 w.heap.size 94 (.slice A' l'.length c') := boxed_but ((hbo.alloc _).alloc _) hb2 (by omega)
  have ho2 : OwnsSp B W2 A' c' l' := ((ho.alloc _).alloc _).but hb2 (by omega)
  have hs2a : W2.heap.size ≤ W1.heap.size + 1 + 1 := Nat.le_of_eq hs2
  have hs2b : W1.heap.size + 1 + 1 ≤ W2.heap.size := Nat.le_of_eq hs2.symm
  have hnew : W2.heap[W1.heap.size]? = some (.cells #[.int .i64 s1, .int .i64 s2] 54 (0, 0)) := (hb2.block _ (by simp; omega) (fun e => by injection e; omega)).trans ((Below.heap_alloc _ _ _ (by simp)).trans (World.alloc_heap_new W1 _))
  have hnew2 : W2.heap[W1.heap.size + 1]? = some (.cells #[.bool q1, .bool q2] 286 (0, 0)) := by
   refine (hb2.block _ (by simp) (fun e => by injection e; omega)).trans ?_
   have := World.alloc_heap_new (W1.alloc (.cells #[.int .i64 s1, .int .i64 s2] 54)) (.cells #[.bool q1, .bool q2] 286)
   rw [World.size_alloc] at this
   exact this
  have c1' : W2.cell? ⟨W1.heap.size, 0, none⟩ = some (.int .i64 s1) := by rw [cell_of_cells hnew]; rfl
  have c2' : W2.cell? ⟨W1.heap.size, 1, none⟩ = some (.int .i64 s2) := by rw [cell_of_cells hnew]; rfl
  have c4' : W2.cell? ⟨W1.heap.size + 1, 0, none⟩ = some (.bool q1) := by rw [cell_of_cells hnew2]; rfl
  have c5' : W2.cell? ⟨W1.heap.size + 1, 1, none⟩ = some (.bool q2) := by rw [cell_of_cells hnew2]; rfl
  have c3' := hbp2.cell
  have HBt2 := lh hb2
  have HR2' := lh hr2
  have HO2 := lh ho2
  have HP2 := lh hbp2
  have HW12 : Hid (ButS (fun b => CutS w.heap.size B b ∨ b = W0.heap.size + 1) W1 W2) := lh (ButS.trans (ButS.of_ext (((Ext.refl W1).alloc _).alloc _)) (ButS.of_but hb2 (.inr (.inr rfl))))
  clear hb2 hr2 hnew hnew2 hs2 ho hbo ho2 hbp2
  cases q1 with
  | true =>
   cases q2 with
   | false =>
    gi_wp2_with (gi_at_builtin; refine app_fromIn spT spE rfl _ _ rfl B _ _ l' rfl (HO2.out.alloc _) _ 1 _ [(s1, s2)] rfl rfl (new_cellsAt (by omega) _ _) (by omega) (by omega) (by simp; omega) ?_; intro A3 c3 l3 w3 HL3 HO3 hB hl1 hl2 hG; have HO3' := lh HO3; have HB3 := lh hB; have HG3 := lh hG; have hbp3 : Boxed w3 w.heap.size 94 (.slice A' l'.length c') := (hB.block _ (by omega)).trans (HP2.out.alloc _); have hc3 := hbp3.cell; have hf3 := hbp3.frozen; have HP3 := lh hbp3; have hsz3 := hB.size; clear HO3 hB hG hbp3)
    refine ⟨?_, ?_⟩
    ·refine (Below.heap_setCell _ _ _ _ (by show _ ≠ w.heap.size; omega)).trans ?_
     exact (HB3.out.block _ (by omega)).trans ((Below.heap_alloc _ _ _ (by omega)).trans HR2'.out)
    intro W4 hb4 hr4
    refine ⟨rfl, ⟨A3, c3, l3, lh (by rw [HL3.out, HSn.out]; rfl), boxed_but (HP3.out.set _) hb4 (by omega), (HO3'.out.other (p := ⟨w.heap.size, 0, none⟩) (by show w.heap.size < _; omega) _).but hb4 (by omega)⟩, ?_⟩
    refine ButS.back (l := W0.heap.size + 1) ?_ (hr4.trans HREC.out.symm)
    refine ButS.trans HW12.out ?_
    refine ButS.trans (b := w3) (ButS.trans (ButS.of_ext ((Ext.refl W2).alloc _)) (ButS.of_grownBy HG3.out (fun k e => .inl (.inr (HO2.out.blk k e))))) ?_
    exact ((ButS.refl _ w3).setCell (p := ⟨w.heap.size, 0, none⟩) (.inl (.inl (.inl rfl))) _).trans (ButS.of_but hb4 (.inr (.inr rfl)))
   | true =>
    gi_wp2
    refine ⟨HR2'.out, ?_⟩
    intro W4 hb4 hr4
    refine ⟨rfl, ⟨A', c', l', lh (by rw [HSn.out]; simp), boxed_but HP2.out hb4 (by omega), HO2.out.but hb4 (by omega)⟩, ?_⟩
    refine ButS.back (l := W0.heap.size + 1) ?_ (hr4.trans HREC.out.symm)
    exact ButS.trans HW12.out (ButS.of_but hb4 (.inr (.inr rfl)))
  | false =>
   gi_wp2
   refine ⟨HR2'.out, ?_⟩
   intro W4 hb4 hr4
   refine ⟨rfl, ⟨A', c', l', lh (by rw [HSn.out]; simp), boxed_but HP2.out hb4 (by omega), HO2.out.but hb4 (by omega)⟩, ?_⟩
   refine ButS.back (l := W0.heap.size + 1) ?_ (hr4.trans HREC.out.symm)
   exact ButS.trans HW12.out (ButS.of_but hb4 (.inr (.inr rfl)))
 case post =>
  rintro e W' ⟨⟨v', rfl⟩, B, hB1, ⟨A', c', l', HL, hbo, ho⟩, hB⟩
  have hl' : l'.length ≤ (l1.length + l2.length) * 2 := by rw [HL.out]; exact Nat.le_trans (minusOf_len _ _ _) hpl
  have HBd : Hid (bdSp l') := lh (by rw [HL.out]; exact minus_bd HB1.out HB2.out _)
  have HMm : Hid (∀ x, Sp.mem l' x ↔ Sp.mem l1 x ∧ ¬ Sp.mem l2 x) := lh (fun x => by rw [HL.out]; exact minus_mem (Nat.le_refl _) x)
  refine ⟨⟨_, rfl⟩, .inl ⟨(hB.block _ (by omega) (by unfold CutS; omega)).trans hl0, ?_⟩⟩
  intro W'' hBut
  have hK : W''.heap[W0.heap.size]? = some (.deferred (some [])) := (hBut.block _ (by have := hB.size; omega) (fun e => by injection e; omega)).trans ((hB.block _ (by omega) (by unfold CutS; omega)).trans hD0)
  have hc := (boxed_but hbo hBut (by omega)).cell
  have hEx : Ext w W'' := by
   have f1 : ButS (fun k => w.heap.size ≤ k) w W' := (ButS.of_ext (bx.trans hE)).trans (hB.mono (fun k _ e => by unfold CutS at e; omega))
   have f2 : ButS (fun k => w.heap.size ≤ k) w W'' := f1.trans (ButS.of_but hBut (.inr (by omega)))
   exact f2.toExt (fun k hk => by omega)
  have hszq := hEx.size
  have HEx := lh hEx
  have hKl := (Array.getElem?_eq_some_iff.1 hK).1
  have HO := lh ((ho.but hBut (by omega)).reads spE)
  have HK := lh hK
  clear hK hl0 hD0 hbo ho hB hBut hEx b1 b2 b3
  gi_wp2_with (refine ⟨trivial, ?_⟩; gi_at_call 162; refine (callsIn_wide.2 (of_any A' c' l' _ HBd.out (by omega) HO.out)).mono ?_; rintro e W3 ⟨A3, c3, out, rfl, HS, hol, ho3, hx3⟩; have HO3 := lh ho3; have HX3 := lh hx3; clear ho3 hx3)
  have hK3 : W3.heap[W0.heap.size]? = some (.deferred (some [])) := (HX3.out.below.block _ hKl).trans HK.out
  refine ⟨by simp, .inl ⟨_, _, rfl, run_takeDeferred hK3, ?_⟩⟩
  refine ⟨_, results_tmp rfl _ _ _, A3, c3, out, rfl, ?_, by omega, ?_, ?_⟩
  ·obtain ⟨k1, k2⟩ := of_set HS.out
   exact lh ⟨k1, fun x => (k2 x).trans (HMm.out x)⟩
  ·exact (HO3.out.but (grownBy_putObj' W3 W0.heap.size (.deferred none)) (by omega)).lower (by omega)
  ·have g1 : ButS (fun k => w.heap.size ≤ k) w W3 := ButS.of_ext (HEx.out.trans HX3.out)
   exact (g1.trans (ButS.of_but (grownBy_putObj' W3 W0.heap.size (.deferred none)) (.inr (by omega)))).toExt (fun k hk => by omega)
end Go.Proofs.YtmgekdggahoboaaGreatDoor

namespace Go.Proofs.YtmgekdggahoboaaGreatDoor
open Go.RowKit Go.Shelf
open Go.Proofs
open Go.Proofs.Sp (Sp)
def bd1 (s : Sp) : Prop := (-4611686018427387904 ≤ s.1 ∧ s.1 ≤ 4611686018427387903) ∧ -4611686018427387904 ≤ s.2 ∧ s.2 ≤ 4611686018427387903
theorem one_set {s : Sp} {out : List Sp} (h : SetOf (Sp.mem [s]) out) (hb : s.1 < s.2 → bd1 s) : bd2 out ∧ out.length ≤ 1 := by
 obtain ⟨h1, h2⟩ := h
 by_cases hs : s.1 < s.2
 ·have e : out = [s] := Sp.IsSet.ext h1 (Sp.IsSet.one hs) h2
  subst e
  exact ⟨fun t ht => by simp at ht; subst ht; exact hb hs, by simp⟩
 ·have e : out = [] := Sp.IsSet.ext h1 Sp.IsSet.nil (fun x => (h2 x).trans ((Sp.mem_one s x).trans ⟨fun k => by omega, fun k => (Sp.mem_nil x k).elim⟩))
  subst e
  exact ⟨fun t ht => (by cases ht), by simp⟩
theorem missing_anyW (A : Option Addr) (c : Nat) (l : List Sp) (s : Sp) (w : World) (hs : Sp.IsSet l) (hb : bd2 l) (hb1 : s.1 < s.2 → bd1 s) (hlen : l.length * 32 ≤ 140737488340000) (hr : ReadsSp w w.heap.size A l) (z : A = none → c = 0) :
  Calls Tryz.prog 124 #[.slice A l.length c, .agg #[.int .i64 s.1, .int .i64 s.2]] w fun e w' => ∃ A' c' out, e = .returned (.slice A' out.length c') ∧ Hid (SetOf (fun x => (s.1 ≤ x ∧ x < s.2) ∧ ¬ Sp.mem l x) out) ∧ out.length ≤ (1 + l.length) * 2 ∧ OwnsSp w.heap.size w' A' c' out ∧ Ext w w' := by
 have HR := lh hr
 have HZ := lh z
 have HS := lh hs
 have HB := lh hb
 have HB1 := lh hb1
 clear hr z hs hb hb1
 obtain ⟨s1, s2⟩ := s
 go_enter Tryz.func124, Tryz.ntmps124
 go_wp2_with (first
  | (go_at_call 162; refine (of_anyW s1 (some ⟨w.heap.size + 1, 0, none⟩) 1 [(s1, s2)] _ (fun t ht => by simp at ht; subst ht; simp only []; omega) (by simp) (fun _ => ⟨w.heap.size + 1, 0, rfl, by simp, fun i hi j v hv => by
    have : i = 0 := by simp at hi; omega
    subst this
    have hj := (List.getElem?_eq_some_iff.1 hv).1
    simp only [encSp, List.length_cons, List.length_nil] at hj
    rw [alloc_cell_if, if_pos (by simp)]
    have h3 : j = 0 ∨ j = 1 := by omega
    rcases h3 with h3 | h3 <;> subst h3 <;> simp [encSp] at hv <;> subst hv <;> rfl⟩)).mono ?_; rintro e w1 ⟨A1, c1, o1, rfl, HS1, hol, ho1, hx1⟩; have HSo := lh (of_set HS1.out); have HO1 := lh ho1; have HX1 : Hid (Ext w w1) := lh ((((Ext.refl w).alloc _).alloc _).trans hx1); have hol1 : o1.length ≤ 1 := hol; clear ho1 hx1)
  | (go_at_call 164; refine (minus_any A1 c1 o1 A c l _ HSo.out.1 HS.out (one_set HSo.out HB1.out).1 HB.out (by omega) (HO1.out.reads spE) (HR.out.on HX1.out) HO1.out.none0 HZ.out).mono ?_; rintro e w2 ⟨A2, c2, out, rfl, HS2, hol2, ho2, hx2⟩; have HO2 := lh ho2; have HX2 := lh hx2; clear ho2 hx2))
 go_ret
 refine ⟨A2, c2, out, rfl, lh ⟨HS2.out.1, fun x => (HS2.out.2 x).trans ?_⟩, by omega, HO2.out.lower HX1.out.size, HX1.out.trans HX2.out⟩
 show (Sp.mem o1 x ∧ ¬ Sp.mem l x) ↔ _
 rw [HSo.out.2 x, Sp.mem_one]
theorem missing_any (A : Option Addr) (c : Nat) (l : List Sp) (s : Sp) (w : World) (hs : Sp.IsSet l) (hb : bd2 l) (hb1 : bd1 s) (hlen : l.length * 32 ≤ 140737488340000) (hr : ReadsSp w w.heap.size A l) (z : A = none → c = 0) :
  Calls Tryz.prog 124 #[.slice A l.length c, .agg #[.int .i64 s.1, .int .i64 s.2]] w fun e w' => ∃ A' c' out, e = .returned (.slice A' out.length c') ∧ Hid (SetOf (fun x => (s.1 ≤ x ∧ x < s.2) ∧ ¬ Sp.mem l x) out) ∧ out.length ≤ (1 + l.length) * 2 ∧ OwnsSp w.heap.size w' A' c' out ∧ Ext w w' := missing_anyW A c l s w hs hb (fun _ => hb1) hlen hr z
def coversB (l : List Sp) (s : Sp) (b : Bool) : Prop := b = true ↔ ∀ x, s.1 ≤ x → x < s.2 → Sp.mem l x
theorem empty_covers {l out : List Sp} {s : Sp} (h : SetOf (fun x => (s.1 ≤ x ∧ x < s.2) ∧ ¬ Sp.mem l x) out) : coversB l s (decide (out.length = 0)) := by
 unfold coversB
 rw [decide_eq_true_iff]
 constructor
 ·intro e x h1 h2
  have e' : out = [] := List.eq_nil_of_length_eq_zero e
  subst e'
  exact Classical.byContradiction fun hn => Sp.mem_nil x ((h.2 x).2 ⟨⟨h1, h2⟩, hn⟩)
 ·intro hh
  cases out with
  | nil => rfl
  | cons t r =>
   have ht := h.1.2 t (List.mem_cons_self ..)
   obtain ⟨⟨k1, k2⟩, k3⟩ := (h.2 t.1).1 ((Sp.mem_cons ..).2 (.inl ⟨Int.le_refl _, ht⟩))
   exact absurd (hh _ k1 k2) k3
theorem covers_anyW (A : Option Addr) (c : Nat) (l : List Sp) (s : Sp) (w : World) (hs : Sp.IsSet l) (hb : bd2 l) (hb1 : s.1 < s.2 → bd1 s) (hlen : l.length * 32 ≤ 140737488330000) (hr : ReadsSp w w.heap.size A l) (z : A = none → c = 0) :
  Calls Tryz.prog 161 #[.slice A l.length c, .agg #[.int .i64 s.1, .int .i64 s.2]] w fun e w' => ∃ b, e = .returned (.bool b) ∧ Hid (coversB l s b) ∧ Ext w w' := by
 have HR := lh hr
 have HZ := lh z
 have HS := lh hs
 have HB := lh hb
 have HB1 := lh hb1
 clear hr z hs hb hb1
 go_enter Tryz.func161, Tryz.ntmps161
 go_wp2_with (go_at_call 124; refine (missing_anyW A c l s _ HS.out HB.out HB1.out (by omega) (HR.out.on ((eR _).alloc _)) HZ.out).mono ?_; rintro e w2 ⟨A2, c2, out, rfl, HS2, hol2, ho2, hx2⟩; have HX2 : Hid (Ext w w2) := lh (((Ext.refl w).alloc _).trans hx2); clear ho2 hx2)
 all_goals
  go_ret
  refine ⟨_, rfl, ?_, HX2.out⟩
  have h := empty_covers HS2.out
  have e : ((out.length : Int) == 0) = decide (out.length = 0) := by rw [Bool.eq_iff_iff]; simp
  rw [e]
  exact lh h
theorem covers_any (A : Option Addr) (c : Nat) (l : List Sp) (s : Sp) (w : World) (hs : Sp.IsSet l) (hb : bd2 l) (hb1 : bd1 s) (hlen : l.length * 32 ≤ 140737488330000) (hr : ReadsSp w w.heap.size A l) (z : A = none → c = 0) :
  Calls Tryz.prog 161 #[.slice A l.length c, .agg #[.int .i64 s.1, .int .i64 s.2]] w fun e w' => ∃ b, e = .returned (.bool b) ∧ Hid (coversB l s b) ∧ Ext w w' := covers_anyW A c l s w hs hb (fun _ => hb1) hlen hr z
end Go.Proofs.YtmgekdggahoboaaGreatDoor
namespace Go.Proofs.YtmgekdggahoboaaGreatDoor
open Go.RowKit Go.Shelf
open Go.Proofs
open Go.Proofs.Sp (Sp)
def SetIn (l : List Sp) (n : Int) : Prop := Sp.IsSet l ∧ ∀ s ∈ l, 0 ≤ s.1 ∧ s.2 ≤ n
theorem SetIn.mem {l : List Sp} {n : Int} (h : SetIn l n) {x : Int} (hx : Sp.mem l x) : 0 ≤ x ∧ x < n := by
 obtain ⟨s, hs, a, b⟩ := hx
 have := h.2 s hs
 omega
theorem SetIn.of_mem {l : List Sp} {n : Int} (h : Sp.IsSet l) (hm : ∀ x, Sp.mem l x → 0 ≤ x ∧ x < n) : SetIn l n := by
 refine ⟨h, fun s hs => ?_⟩
 have h1 := h.2 s hs
 have h2 := hm s.1 ⟨s, hs, Int.le_refl _, h1⟩
 have h3 := hm (s.2 - 1) ⟨s, hs, by omega, by omega⟩
 omega
theorem okAt_iff {l : List Sp} {i : Nat} : okAt l i = true ↔ (l.getD i (0, 0)).1 < (l.getD i (0, 0)).2 ∧ 0 ≤ (l.getD i (0, 0)).1 ∧ (l.getD i (0, 0)).2 ≤ 1099511627776 ∧ (i = 0 ∨ (l.getD (i - 1) (0, 0)).2 < (l.getD i (0, 0)).1) := by
 unfold okAt
 generalize l.getD i (0, 0) = s
 generalize l.getD (i - 1) (0, 0) = t
 simp only [emptyB, goodB, Bool.and_eq_true, Bool.or_eq_true, Bool.not_eq_true', decide_eq_true_eq, decide_eq_false_iff_not]
 constructor
 ·rintro ⟨⟨h1, h2⟩, h3⟩
  refine ⟨by omega, ?_, ?_, h3⟩
  ·rcases h2 with h2 | h2
   ·exact absurd h2 h1
   ·exact h2.1
  ·rcases h2 with h2 | h2
   ·exact absurd h2 h1
   ·exact h2.2
 ·rintro ⟨h1, h2, h3, h4⟩
  exact ⟨⟨by omega, .inr ⟨h2, h3⟩⟩, h4⟩
theorem getD_at {l : List Sp} {i : Nat} (h : i < l.length) : l.getD i (0, 0) = l[i] := by simp [h]
theorem setB_get {l : List Sp} (h : setB l = true) {i : Nat} (hi : i < l.length) : l[i].1 < l[i].2 ∧ 0 ≤ l[i].1 ∧ l[i].2 ≤ 1099511627776 ∧ (∀ h0 : 0 < i, (l[i - 1]'(by omega)).2 < l[i].1) := by
 have := okAt_iff.1 (List.all_eq_true.1 h i (List.mem_range.2 hi))
 rw [getD_at hi] at this
 refine ⟨this.1, this.2.1, this.2.2.1, fun h0 => ?_⟩
 have k := this.2.2.2
 rw [getD_at (show i - 1 < l.length by omega)] at k
 omega
theorem setB_set {l : List Sp} (h : setB l = true) : SetIn l 1099511627776 := by
 refine ⟨?_, fun s hs => ?_⟩
 ·suffices H : ∀ k, k ≤ l.length → Sp.IsSet (l.take k) by
   have := H l.length (Nat.le_refl _)
   rwa [List.take_length] at this
  intro k
  induction k with
  | zero => intro _; rw [List.take_zero]; exact Sp.IsSet.nil
  | succ k ih =>
   intro hk
   have hk' : k < l.length := by omega
   obtain ⟨a1, a2, a3, a4⟩ := setB_get h hk'
   rw [List.take_succ_eq_append_getElem hk', Sp.isSet_concat]
   refine ⟨ih (by omega), a1, fun a ha => ?_⟩
   by_cases k0 : k = 0
   ·subst k0; simp at ha
   ·have hk1 : k - 1 < l.length := by omega
    have e : l.take k = l.take (k - 1) ++ [l[k - 1]] := by
     have := List.take_succ_eq_append_getElem hk1
     rwa [show k - 1 + 1 = k by omega] at this
    have hi := ih (by omega)
    rw [e] at ha hi
    have a5 := a4 (by omega)
    rw [Sp.isSet_concat] at hi
    rcases List.mem_append.1 ha with ha | ha
    ·have := hi.2.2 a ha
     have := hi.2.1
     omega
    ·simp at ha; subst ha; exact a5
 ·obtain ⟨i, hi, rfl⟩ := List.getElem_of_mem hs
  obtain ⟨a1, a2, a3, _⟩ := setB_get h hi
  exact ⟨a2, a3⟩
theorem set_setB {l : List Sp} (h : SetIn l 1099511627776) : setB l = true := by
 refine setB_yes fun j hj => okAt_iff.2 ?_
 rw [getD_at hj]
 have h1 := h.1.2 l[j] (List.getElem_mem hj)
 have h2 := h.2 l[j] (List.getElem_mem hj)
 refine ⟨h1, h2.1, h2.2, ?_⟩
 by_cases h0 : j = 0
 ·exact .inl h0
 ·right
  rw [getD_at (show j - 1 < l.length by omega)]
  exact List.pairwise_iff_getElem.1 h.1.1 (j - 1) j (by omega) hj (by omega)
theorem set_len : ∀ (l : List Sp) {lo hi : Int}, Sp.IsSet l → (∀ s ∈ l, lo ≤ s.1 ∧ s.2 ≤ hi) → lo ≤ hi → (l.length : Int) ≤ hi - lo
 | [], lo, hi, _, _, h => by simp; omega
 | s :: l, lo, hi, hs, hb, h => by
  have h1 := hs.2 s (by simp)
  have h2 := hb s (by simp)
  have h3 := set_len l (lo := s.2) (hi := hi) hs.tail (fun t ht => by
   have h4 : s.2 < t.1 := (List.pairwise_cons.1 hs.1).1 t ht
   have h5 := hb t (by simp [ht])
   omega) h2.2
  rw [List.length_cons]
  push_cast
  omega
theorem SetIn.len {l : List Sp} {n : Int} (h : SetIn l n) (hn : 0 ≤ n) : (l.length : Int) ≤ n := by
 have := set_len l (lo := 0) (hi := n) h.1 h.2 hn
 omega
theorem SetIn.bd2 {l : List Sp} {n : Int} (h : SetIn l n) (hn : n ≤ 1099511627776) : bd2 l := fun s hs => by
 have h1 := h.1.2 s hs
 have h2 := h.2 s hs
 exact ⟨⟨by omega, by omega⟩, by omega, by omega⟩
def rMissing (l : List Sp) (s : Sp) : List Sp := if s.2 ≤ s.1 then [] else Sp.rMinus [s] l
theorem rMissing_spec (l : List Sp) (s : Sp) : SetOf (fun x => (s.1 ≤ x ∧ x < s.2) ∧ ¬ Sp.mem l x) (rMissing l s) := by
 unfold rMissing
 by_cases h : s.2 ≤ s.1
 ·rw [if_pos h]
  exact ⟨Sp.IsSet.nil, fun x => ⟨fun k => (Sp.mem_nil x k).elim, fun k => by omega⟩⟩
 ·rw [if_neg h]
  exact Sp.rMinus_one (by omega) l
theorem setOf_uniq {p : Int → Prop} {l m : List Sp} (h : SetOf p l) (k : SetOf p m) : l = m := Sp.IsSet.ext h.1 k.1 (fun x => (h.2 x).trans (k.2 x).symm)
theorem coversB_uniq {l : List Sp} {s : Sp} {a b : Bool} (h : coversB l s a) (k : coversB l s b) : a = b := by
 rw [Bool.eq_iff_iff]
 exact h.trans k.symm
end Go.Proofs.YtmgekdggahoboaaGreatDoor