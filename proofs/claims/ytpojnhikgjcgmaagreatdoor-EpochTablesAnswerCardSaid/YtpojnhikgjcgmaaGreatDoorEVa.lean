/- Ranges over functions: what a round may turn; slices.Values and slices.AppendSeq at spans. -/
import Derived.RangeFuncNested
import Derived.RangeFuncBound
import Derived.RangeFuncCalls
import Derived.RangeFuncLeaves
import Derived.Shelf.Abstract
import Derived.WalkKit
import Derived.WalkSpells
import Derived.WalkLawsBesides
import Derived.Deep.QuietTactic
import Derived.BigQuiet
import Derived.Shelf.RegionOpen
import Derived.OwnWalkIn
import Derived.TacticsInMore
import Derived.LoopNIn
import Derived.LoopIn
import Derived.Test.YtpojnhikgjcgmaaGreatDoorEEv
set_option linter.unusedVariables false
set_option linter.unusedSimpArgs false
namespace Go.Proofs.YtpojnhikgjcgmaaGreatDoor
open Go.RowKit
section
variable {F : Fence} {n : Nat} {P : Program}
def recOf (fn : FuncId) (tmps : Array Value) (ps : Array Tmp) (assign body : Code) (D : Nat) (st : LoopState) (pe : Option Code) : Loop :=
 { state := st, pending := pe, fn, tmps, params := ps, assign, body, defers := D }
def But (k : Nat) (w w' : World) : Prop := w.grownBy w' (some k)
theorem rf_enter {g : Operand} {ps : Array Tmp} {assign body : Code} {Q : Exit → Act → World → Prop} {a : Act} {w : World}
  (hro : F.round = none) (h1 : 1 ≤ n) {gf : Nat} {lb : Array Value} (hg : a.eval g = .func (.func gf) #[] lb) (hFg : F.fn gf) (eg : ∀ args w, (callFunc gf args).run P w = .ok (.enter gf args) w)
  (h : ∀ fn WL, F.fn fn → Ext w WL → WL.heap.size = w.heap.size + 2 → WL.heap[w.heap.size + 1]? = some (.loop (recOf fn a.tmps ps assign body w.heap.size .ready none)) →
   WL.heap[w.heap.size]? = some (.deferred (some [])) → CallsIn F (n - 1) P gf (#[.func (.yield (w.heap.size + 1)) #[] #[]] ++ lb) WL
   fun e W' => (∃ v, e = .returned v) ∧
    ((W'.heap[w.heap.size + 1]? = some (.loop (recOf fn a.tmps ps assign body w.heap.size .ready none)) ∧
     ∀ W'', But (w.heap.size + 1) W' W'' → Q .normal { a with defers := { target := .collected w.heap.size, args := #[] } :: a.defers } W'') ∨
     ∃ c, W'.heap[w.heap.size + 1]? = some (.loop (recOf fn a.tmps ps assign body w.heap.size .done (some c))) ∧
     ∀ W'', But (w.heap.size + 1) W' W'' → c.wpIn F n P Q { a with defers := { target := .collected w.heap.size, args := #[] } :: a.defers } W'')) :
  (Code.rangeFunc g ps assign body).wpIn F n P Q a w := by
 refine wpIn_rangeFunc ?_
 intro fn hfn
 rw [hro]
 obtain ⟨W1, hW1⟩ : ∃ W1, (w.alloc (.deferred (some []))).alloc (.loop (recOf fn a.tmps ps assign body w.heap.size .ready none)) = W1 := ⟨_, rfl⟩
 refine ⟨w.heap.size + 1, [{ target := .collected w.heap.size, args := #[] }], W1, { target := .fn (.func gf) lb, args := #[.func (.yield (w.heap.size + 1)) #[] #[]] }, W1, gf,
  #[.func (.yield (w.heap.size + 1)) #[] #[]] ++ lb, W1, ?_, ?_, ?_, ?_, fun _ => h1, ?_⟩
 ·rw [← hW1]; exact run_enterLoop_outer _ _ _ _ _
 ·simp only [resolve, hg]
  simp [go_sem]
 ·intro f' hf'; simp [Target.leads] at hf'; subst hf'; exact hFg
 ·simp [invoke, go_sem, eg]
 ·have hE : Ext w W1 := by rw [← hW1]; exact ((eR _).alloc _).alloc _
  have hS : W1.heap.size = w.heap.size + 2 := by rw [← hW1]; simp
  have hl0 : W1.heap[w.heap.size + 1]? = some (.loop (recOf fn a.tmps ps assign body w.heap.size .ready none)) := by
   rw [← hW1]; have := World.alloc_heap_new (w.alloc (.deferred (some []))) (.loop (recOf fn a.tmps ps assign body w.heap.size .ready none)); rwa [World.size_alloc] at this
  have hD0 : W1.heap[w.heap.size]? = some (.deferred (some [])) := by
   rw [← hW1]; exact (Below.heap_alloc _ _ _ (by simp)).trans (World.alloc_heap_new w _)
  exact (h fn W1 hfn hE hS hl0 hD0).mono fun e W' ⟨⟨v, hv⟩, hh⟩ => by
   subst hv
   rcases hh with ⟨hl, hq⟩ | ⟨c, hl, hq⟩
   ·exact ⟨none, _, by have := run_endLoop (P := P) hl (by simp [recOf]); exact this, hq _ (grownBy_putObj' _ _ _)⟩
   ·exact ⟨some c, _, by have := run_endLoop (P := P) hl (by simp [recOf]); exact this, hq _ (grownBy_putObj' _ _ _)⟩
def rfPost (l : Nat) (R : Ending → World → Prop) (fn : FuncId) (tmps : Array Value) (ps : Array Tmp) (assign body : Code) (D : Nat) : Exit → Act → World → Prop
 | .normal, _, W3 => W3.heap[l]? = some (.loop (recOf fn tmps ps assign body D .busy none)) ∧
   ∀ W4, But l W3 W4 → W4.heap[l]? = some (.loop (recOf fn tmps ps assign body D .ready none)) → R (.returned (.bool true)) W4
 | .ret, _, W3 => W3.heap[l]? = some (.loop (recOf fn tmps ps assign body D .busy none)) ∧
   ∀ W4, But l W3 W4 → W4.heap[l]? = some (.loop (recOf fn tmps ps assign body D .done (some .ret))) → R (.returned (.bool false)) W4
 | .exit id, _, W3 => W3.heap[l]? = some (.loop (recOf fn tmps ps assign body D .busy none)) ∧
   ∀ W4, But l W3 W4 → W4.heap[l]? = some (.loop (recOf fn tmps ps assign body D .done (some (.exit id)))) → R (.returned (.bool false)) W4
 | .goto t, _, W3 => W3.heap[l]? = some (.loop (recOf fn tmps ps assign body D .busy none)) ∧
   ∀ W4, But l W3 W4 → W4.heap[l]? = some (.loop (recOf fn tmps ps assign body D .done (some (.goto t)))) → R (.returned (.bool false)) W4
 | .panic _, _, _ => False
 | .outgrown, _, _ => False
theorem rf_round {l : Nat} {fn : FuncId} {tmps : Array Value} {ps : Array Tmp} {assign body : Code} {D : Nat} {W : World} {args : Array Value} {R : Ending → World → Prop}
  (hl : W.heap[l]? = some (.loop (recOf fn tmps ps assign body D .ready none))) (hF : F.fn fn) (hps : args.size = ps.size)
  (h : assign.wpIn (F.inRound l) n P (Exit.then (fun a₁ W1 => W1.heap[l]? = some (.loop (recOf fn tmps ps assign body D .ready none)) ∧
    ∀ W2, But l W1 W2 → W2.heap.size = W1.heap.size → W2.heap[l]? = some (.loop (recOf fn tmps ps assign body D .busy none)) →
     body.wpIn (F.inRound l) n P (rfPost l R fn tmps ps assign body D) a₁ W2) (fun _ _ _ => False))
   { tmps := (ps.zip args).foldl (fun t (p, v) => t.setIfInBounds p v) tmps, defers := [] } W) :
  YieldAt F n P l args W R := by
 refine ⟨fn, _, assign, body, run_yield hl hps, roundIn_of_wpIn hF (wpIn_mono h ?_)⟩
 rintro e a1 W1 hp
 cases e with
 | normal =>
  obtain ⟨hl1, hb⟩ := hp
  have hlt : l < W1.heap.size := (Array.getElem?_eq_some_iff.1 hl1).1
  refine ⟨_, run_beginRound hl1 rfl, ?_⟩
  refine wpIn_mono (hb _ (grownBy_putObj' _ _ _) (by simp) (World.putObj_heap_same hlt)) ?_
  rintro e a3 W3 hp3
  cases e with
  | normal =>
   obtain ⟨hl3, hr⟩ := hp3
   exact ⟨_, _, run_endRound none hl3, hr _ (grownBy_putObj' _ _ _) (World.putObj_heap_same (Array.getElem?_eq_some_iff.1 hl3).1)⟩
  | ret =>
   obtain ⟨hl3, hr⟩ := hp3
   exact ⟨_, _, run_endRound (some .ret) hl3, hr _ (grownBy_putObj' _ _ _) (World.putObj_heap_same (Array.getElem?_eq_some_iff.1 hl3).1)⟩
  | exit id =>
   obtain ⟨hl3, hr⟩ := hp3
   exact ⟨_, _, run_endRound (some (.exit id)) hl3, hr _ (grownBy_putObj' _ _ _) (World.putObj_heap_same (Array.getElem?_eq_some_iff.1 hl3).1)⟩
  | goto t =>
   obtain ⟨hl3, hr⟩ := hp3
   exact ⟨_, _, run_endRound (some (.goto t)) hl3, hr _ (grownBy_putObj' _ _ _) (World.putObj_heap_same (Array.getElem?_eq_some_iff.1 hl3).1)⟩
  | panic ch => exact hp3.elim
  | outgrown => exact hp3.elim
 | _ => exact hp.elim
end
structure ButS (S : Nat → Prop) (w w' : World) : Prop where
 os : w'.os = w.os
 tape : w'.tape = w.tape
 output : w'.output = w.output
 size : w.heap.size ≤ w'.heap.size
 block : ∀ k, k < w.heap.size → ¬ S k → w'.heap[k]? = w.heap[k]?
section
variable {S S' : Nat → Prop} {a b c : World}
theorem ButS.refl (S : Nat → Prop) (w : World) : ButS S w w := ⟨rfl, rfl, rfl, Nat.le_refl _, fun _ _ _ => rfl⟩
theorem ButS.trans (h : ButS S a b) (k : ButS S b c) : ButS S a c :=
 ⟨k.os.trans h.os, k.tape.trans h.tape, k.output.trans h.output, Nat.le_trans h.size k.size, fun i hi hs => (k.block i (Nat.lt_of_lt_of_le hi h.size) hs).trans (h.block i hi hs)⟩
theorem ButS.mono (h : ButS S a b) (hs : ∀ k, k < a.heap.size → S k → S' k) : ButS S' a b := ⟨h.os, h.tape, h.output, h.size, fun i hi hn => h.block i hi (fun e => hn (hs i hi e))⟩
theorem ButS.drew (h : ButS S a b) : ButS S a b.drew := ⟨h.os, h.tape, h.output, h.size, h.block⟩
theorem ButS.of_ext (h : Ext a b) : ButS S a b := by
 have k : Below a.heap.size a b := h
 exact ⟨k.os, k.tape, k.output, k.size, fun i hi _ => k.block i hi⟩
theorem ButS.ext (h : ButS S a b) (k : Ext b c) : ButS S a c := h.trans (ButS.of_ext k)
theorem ButS.alloc (h : ButS S a b) (o : Obj) : ButS S a (b.alloc o) := h.trans (ButS.of_ext (Ext.alloc (eR _) o))
theorem ButS.setCell (h : ButS S a b) {p : Addr} (hp : S p.block ∨ a.heap.size ≤ p.block) (u : Value) : ButS S a (b.setCell p u) :=
 ⟨h.os, h.tape, h.output, by simpa [World.setCell] using h.size, fun i hi hn => (Below.heap_setCell b p u i (fun e => by
  subst e
  rcases hp with hp | hp
  ·exact hn hp
  ·omega)).trans (h.block i hi hn)⟩
theorem ButS.of_but {k : Nat} (h : But k a b) (hk : a.heap.size ≤ k ∨ S k) : ButS S a b :=
 ⟨h.os, h.tape, h.output, h.size, fun i hi hn => h.block i hi (fun e => by
  cases e
  rcases hk with hk | hk
  ·omega
  ·exact hn hk)⟩
theorem ButS.toExt (h : ButS S a b) (hs : ∀ k, k < a.heap.size → ¬ S k) : Ext a b := ⟨h.os, h.tape, h.output, h.size, fun i hi => h.block i hi (hs i hi)⟩
theorem ButS.cell (h : ButS S a b) {p : Addr} (hp : p.block < a.heap.size) (hn : ¬ S p.block) : b.cell? p = a.cell? p := World.cell?_of_block (w := a) (h.block p.block hp hn)
theorem ButS.boxed (h : ButS S a b) {B : Nat} {t : TypeId} {v : Value} (hb : Boxed a B t v) (hn : ¬ S B) : Boxed b B t v := (h.block B hb.lt hn).trans hb
end
theorem ButS.back {S : Nat → Prop} {l : Nat} {a b : World} (h : ButS (fun k => S k ∨ k = l) a b) (he : b.heap[l]? = a.heap[l]?) : ButS S a b :=
 ⟨h.os, h.tape, h.output, h.size, fun k hk hn => by
  by_cases e : k = l
  ·subst e; exact he
  ·exact h.block k hk (fun hh => hh.elim hn e)⟩
theorem boxed_but {w w1 : World} {B : Nat} {t : TypeId} {v : Value} (h : Boxed w B t v) {l : Nat} (hb : But l w w1) (hne : B ≠ l) : Boxed w1 B t v := (hb.block B h.lt (fun e => hne (by injection e))).trans h
end Go.Proofs.YtpojnhikgjcgmaaGreatDoor

namespace Go.Proofs.YtpojnhikgjcgmaaGreatDoor
open Go.RowKit Go.Shelf
open Go.Proofs
open Go.Proofs.Sp (Sp)
attribute [local go_sem] Oper.semAt_some
section
variable {F : Fence} {nF : Nat} {P : Program} {w : World} {ops : Array Oper} {rest : List Oper} {o : Oper} {a : Act} {Q : Exit → Act → World → Prop} {α : Type} {enc : α → List Value} {t e : TypeId} {size bytes : Nat}
theorem app_fromIn (T : ElemTy P t e size bytes) (E : EncTy enc size) (hgd : o.guard = none) (s x : Operand) (ho : o.op = .call { callee := .builtin .append, args := #[s, x], argTypes := #[t, t] })
  (base : Nat) (A : Option Addr) (c : Nat) (l : List α) (hs : a.eval s = .slice A l.length c) (hown : Owns e size enc base w A c l)
  (ad : Addr) (m c' : Nat) (news : List α) (hx : a.eval x = .slice (some ad) m c') (hm : news.length = m) (hnews : ∀ j u, (news.flatMap enc)[j]? = some u → w.cell? (ad.add j) = some u)
  (h63 : l.length + m ≤ 140737488355328) (hbytes : (l.length + m) * bytes ≤ 140737488355328) (hbase : base ≤ w.heap.size)
  (h : ∀ (A' : Option Addr) (c' : Nat) (l' : List α) (w' : World), Hid (l' = l ++ news) → Owns e size enc base w' A' c' l' → Below base w w' → l'.length ≤ l.length + m → l.length + m ≤ l'.length → w.grownBy w' (Value.slice A l.length c).ownBlock → wpListIn F nF P ops Q rest (a.put o.dst (.slice A' l'.length c')) w') :
  wpListIn F nF P ops Q (o :: rest) a w := by
 obtain ⟨i, z, hi, hz, h1, h2, h3⟩ := T.parts
 subst hm
 refine wpListIn_append_own w hgd s x t ho base e i z size bytes T.ut hi hz h1 h2 h3 T.pos _ l.length (l.flatMap enc) hs hown ad news.length c' (news.flatMap enc) hx (E.flat_len news) hnews (E.flat_one news) (by unfold maxLen; omega) hbytes hbase ?_
 intro v' w' k1 k2 k3
 have hl : (l ++ news).length = l.length + news.length := List.length_append
 have hv : ∃ A' c'', v' = .slice A' (l ++ news).length c'' := by
  rcases k1.2 with ⟨rfl, q⟩ | ⟨g, cap, cur, rfl, _⟩
  ·exact ⟨none, 0, by rw [hl, q]⟩
  ·exact ⟨_, _, by rw [hl]⟩
 obtain ⟨A', c'', rfl⟩ := hv
 refine h A' c'' (l ++ news) w' (lh rfl) ?_ (Below.of_grownBy k2 hown.blk hbase) (by omega) (by omega) k2
 ·unfold Owns
  rw [List.flatMap_append, hl]
  rw [hl] at k1
  exact k1
end
theorem Owns.butS {α : Type} {e : TypeId} {size base : Nat} {enc : α → List Value} {w w' : World} {A : Option Addr} {c : Nat} {l : List α} (h : Owns e size enc base w A c l) {S : Nat → Prop} (hb : ButS S w w') (hS : ∀ k, base ≤ k → ¬ S k) : Owns e size enc base w' A c l := by
 refine ⟨h.1, ?_⟩
 rcases h.2 with k | ⟨g, cap, cur, h1, h2, h3, h4⟩
 ·exact .inl k
 ·exact .inr ⟨g, cap, cur, h1, h2, (hb.block g (Array.getElem?_eq_some_iff.1 h3).1 (hS g h2)).trans h3, h4⟩
theorem Owns.but {α : Type} {e : TypeId} {size base : Nat} {enc : α → List Value} {w w' : World} {A : Option Addr} {c : Nat} {l : List α} (h : Owns e size enc base w A c l) {k : Nat} (hb : But k w w') (hk : k < base) : Owns e size enc base w' A c l :=
 h.butS (S := (· = k)) (ButS.of_but hb (.inr rfl)) (fun j hj e => by omega)
theorem Reads.butS {α : Type} {size : Nat} {enc : α → List Value} {w w' : World} {B : Nat} {A : Option Addr} {l : List α} (h : Reads size enc w B A l) {S : Nat → Prop} (hx : ButS S w w') (hB : B ≤ w.heap.size) (hS : ∀ k, k < B → ¬ S k) : Reads size enc w' B A l := by
 intro h0
 obtain ⟨b, off, h1, h2, h3⟩ := h h0
 exact ⟨b, off, h1, h2, fun i hi j v hv => (hx.cell (p := ⟨b, off + i * size + j, none⟩) (by show b < _; omega) (hS b h2)).trans (h3 i hi j v hv)⟩
theorem ButS.of_grownBy {S : Nat → Prop} {w w' : World} {row : Option Nat} (h : w.grownBy w' row) (hr : ∀ k, row = some k → S k) : ButS S w w' :=
 ⟨h.os, h.tape, h.output, h.size, fun k hk hn => h.block k hk (fun e => hn (hr k e.symm))⟩
theorem new_cellsAt {w : World} {b : Nat} (hb : b = w.heap.size) (cs : Array Value) (t : TypeId) : ∀ j u, cs.toList[j]? = some u → (w.alloc (.cells cs t)).cell? ((⟨b, 0, none⟩ : Addr).add j) = some u := by
 subst hb
 exact new_cells w cs t
theorem Boxed.ext {w w' : World} {B : Nat} {t : TypeId} {v : Value} (h : Boxed w B t v) (hx : Ext w w') : Boxed w' B t v := (hx.below.block B h.lt).trans h
end Go.Proofs.YtpojnhikgjcgmaaGreatDoor