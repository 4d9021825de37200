/- Walk of law 35: EntryIsWhatItsStampSays. -/
import Derived.Test.YtpjacgcaibaggaaGreatDoorProg
import Derived.Test.YtpjacgcaibaggaaGreatDoorExt
import Derived.WalkKit
import Derived.WalkSpells
import Derived.WalkLawsBesides
import Derived.Deep.QuietTactic
import Derived.BigQuiet
import Derived.Test.YtpjacgcaibaggaaGreatDoorRowT
import Derived.RegionTactic
import Derived.Test.YtpjacgcaibaggaaGreatDoorOa
import Derived.ProofKit
import Derived.Lib.SmallJoins
import Derived.Deep.Slices
import Derived.Test.YtpjacgcaibaggaaGreatDoorMi
import Derived.Test.YtpjacgcaibaggaaGreatDoorMx
set_option linter.unusedVariables false
set_option linter.unusedSimpArgs false
namespace Go.Proofs.YtpjacgcaibaggaaGreatDoor
open Go.RowKit
open Go.Proofs

section
variable {P : Program} {ops : Array Oper} {Q : Exit → Act → World → Prop}
theorem run_extract {i : Nat} {t : TypeId} {x : Operand} {dst : Option Tmp} {pos : String} {after : Array Edge} {vs : Array Value} {v : Value} (ρ : Operand → Value) (w : World) (h : ρ x = .tuple vs) (hv : vs[i]? = some v) :
    (execOp ρ { dst, op := .extract x i, type := t, pos, after, guard := none }).run P w = .ok (.value v) w := by
  simp [execOp, h, hv, go_sem]
theorem wanted_none {op : Op} {dst : Option Tmp} {t : TypeId} {pos : String} {after : Array Edge} (y : Nat → Option Bool) : Region.wanted { dst, op, type := t, pos, after, guard := none } y = true := rfl
theorem wpAny_putTail {T : TypeId} {n : Nat} (hty : RowTy P T n) {i1 i2 i3 : Nat} {x tb d1 d2 : Tmp} {u1 u2 u3 : TypeId} {p1 p2 p3 : String} {f1 f2 f3 : Array Edge} {v2 : Value} {cs : Array Value} {B : Nat} {listed : Array Bool} {a : Act} {w : World}
    (h1 : ops[i1]? = some { dst := some d1, op := .extract (.tmp x) 0, type := u1, pos := p1, after := f1, guard := none })
    (h2 : ops[i2]? = some { dst := some d2, op := .extract (.tmp x) 1, type := u2, pos := p2, after := f2, guard := none })
    (h3 : ops[i3]? = some { dst := none, op := .store T (.tmp tb) (.tmp d1), type := u3, pos := p3, after := f3, guard := none })
    (hs : Region.noSelect ops = true)
    (g2 : Region.free .any ops listed i2 = true) (r2 : (Region.ready .any ops listed).contains i2 = true)
    (g1 : Region.free .any ops (listed.setIfInBounds i2 true) i1 = true) (r1 : (Region.ready .any ops (listed.setIfInBounds i2 true)).contains i1 = true)
    (r3 : Region.ready .any ops ((listed.setIfInBounds i2 true).setIfInBounds i1 true) = [i3])
    (r4 : Region.ready .any ops (((listed.setIfInBounds i2 true).setIfInBounds i1 true).setIfInBounds i3 true) = [])
    (hp : ∀ (d : Tmp) (v : Value) c a w, Q (.panic c) (a.put (some d) v) w → Q (.panic c) a w)
    (e2 : a.eval (.tmp x) = .tuple #[.agg cs, v2]) (e1 : (a.put (some d2) v2).eval (.tmp x) = .tuple #[.agg cs, v2])
    (e3 : ((a.put (some d2) v2).put (some d1) (.agg cs)).eval (.tmp tb) = .pointer (some ⟨B, 0, none⟩))
    (e4 : ((a.put (some d2) v2).put (some d1) (.agg cs)).eval (.tmp d1) = .agg cs)
    (room : roomOf w B 0 n = true) (fits : fitsRow n cs = true)
    (hQ : Q .normal ((a.put (some d2) v2).put (some d1) (.agg cs)) (w.setCells B 0 cs.toList)) :
    wpAny P .any ops Q 3 listed a w := by
  refine wpAny_take (i := i2) (v := v2) h2 hs g2 r2 (fun c a w h => hp _ _ c a w h) (Or.inl ⟨wanted_none _, fun w => run_extract _ w e2 rfl⟩) ?_
  refine wpAny_take (i := i1) (v := .agg cs) h1 hs g1 r1 (fun c a w h => hp _ _ c a w h) (Or.inl ⟨wanted_none _, fun w => run_extract _ w e1 rfl⟩) ?_
  refine wpAny_ready (rs := [i3]) r3 (by simp) ?_
  refine AllReady.cons h3 (fun K hK => ?_) AllReady.nil
  rw [if_pos (show Region.wanted _ _ = true from rfl)]
  unfold Oper.wp
  dsimp only
  rw [execOp_rowStore T n, e3, e4, run_rowStore hty, room, fits]
  show K _ _
  refine hK _ _ (wpAny_done r4 ?_ _)
  exact hQ
end
end Go.Proofs.YtpjacgcaibaggaaGreatDoor

namespace Go.Proofs.YtpjacgcaibaggaaGreatDoor
open Go.ChangeShapes Go.WideShapes Go.ChangeAt Go.RowKit Go.Joins Go.Deep
open Go.Proofs
open Go.Proofs.Sp (Sp)

abbrev Pc := Int × ByteArray
def encPc (p : Pc) : List Value := [.int .i64 p.1, .string p.2]
abbrev ReadsPc (w : World) (B : Nat) (A : Option Addr) (l : List Pc) : Prop := Reads 2 encPc w B A l
def PcIn (p : Pc) : Prop := -9223372036854775808 ≤ p.1 ∧ p.1 ≤ 9223372036854775807 ∧ p.2.size ≤ 9223372036854775807
theorem ReadsPc.cell {w : World} {B : Nat} {A : Option Addr} {l : List Pc} (h : ReadsPc w B A l) (i : Nat) (hi : i < l.length) : ∃ b off, A = some ⟨b, off, none⟩ ∧ b < B ∧ w.cell? ⟨b, off + i * 2, none⟩ = some (.int .i64 l[i].1) ∧ w.cell? ⟨b, off + i * 2 + 1, none⟩ = some (.string l[i].2) := by
  obtain ⟨b, off, h1, h2, h3⟩ := h (by omega)
  exact ⟨b, off, h1, h2, h3 i hi 0 _ rfl, h3 i hi 1 _ rfl⟩
theorem weights_all {H : Type} {P : Program} {e : TypeId} {d : DataW H} {n : Nat} (hn : n ∈ d.weights P e) : ∀ {ds : List (DataW H)}, d ∈ ds → n ∈ DataW.weightsAll P e ds
  | _ :: _, h => by
    rw [DataW.weightsAll, List.mem_append]
    rcases List.mem_cons.1 h with rfl | h
    · exact .inl hn
    · exact .inr (weights_all hn h)
section
variable {H : Type} {enc : TypeId × Value → H} {w : World} {base : Nat} {spare : Nat → Bool} {held : Bool}
set_option maxRecDepth 100000 in
theorem pc_of_trod {m : Nat} {v : Value} {x : DataW H × List MemPlace} (h : DataW.trod enc Tryz.prog w 0 (fun _ => true) held m 54 [v] = some x) :
    ∃ (A : Option Addr) (c : Nat) (l : List Pc), v = .slice A l.length c ∧ l.length ≤ maxLen ∧ ReadsPc w w.heap.size A l ∧ (∀ p ∈ l, PcIn p) ∧ ∀ p ∈ l, p.2.size ∈ x.1.weights Tryz.prog 54 := by
  have hC : Tryz.prog.cellsOf 63 = 2 := by kernel_rfl
  have hC1 : Tryz.prog.cellsOf 3 = 1 := by kernel_rfl
  have hC2 : Tryz.prog.cellsOf 9 = 1 := by kernel_rfl
  rcases open_slice Tryz.underlying54 h with ⟨hcs, _⟩ | ⟨a, len, cap, m, n, D, Pl, hcs, hb, hl, hm, hmm, hx, hi⟩
  · simp at hcs
    subst hcs
    exact ⟨none, 0, [], rfl, by simp, Reads.nil _ _ _ _ _, by simp, by simp⟩
  · simp at hcs
    subst hcs
    have hlm : len ≤ m := by rw [hmm]; simp; omega
    obtain ⟨l, hll, hq⟩ := list_each (((0 : Int), ⟨#[]⟩) : Pc) (fun i s => (w.cell? (a.add (i * 2)) = some (.int .i64 s.1) ∧ w.cell? (a.add (i * 2 + 1)) = some (.string s.2)) ∧ PcIn s ∧ s.2.size ∈ (D i).weights Tryz.prog 63) len (fun i hil => by
      obtain ⟨cs', hc, ht⟩ := hi i (by omega)
      rw [hC] at hc
      obtain ⟨_, hcl, hat⟩ := World.cells?_some hc
      obtain ⟨y0, y1, n', hD, _, g0, g1⟩ := trod_struct2 Tryz.underlying63 ht
      simp only [hC1, hC2] at g0 g1
      obtain ⟨x0, e0, _, wx⟩ := DataW.trod_int Tryz.underlying3 g0
      obtain ⟨x1, e1, hy1, wz⟩ := DataW.trod_string Tryz.underlying9 g1
      have hwt : x1.size ∈ (D i).weights Tryz.prog 63 := by
        rw [show D i = .agg [y0.1, y1.1] from (Prod.mk.inj hD).1, hy1, DataW.weights, Tryz.underlying63]
        simp only [Array.toList, List.map_cons, List.map_nil, DataW.weightsEach, DataW.weights, List.mem_append, List.append_nil, List.mem_singleton]
        exact .inr (by simp)
      match cs', hcl with
      | [c0, c1], _ =>
        simp at e0 e1
        subst e0 e1
        have a0 := hat 0 (by omega)
        have a1 := hat 1 (by omega)
        rw [add_add] at a0 a1
        exact ⟨(x0, x1), ⟨by simpa using a0, by simpa using a1⟩, by simp [Lit.wf, IntKind.min, IntKind.max, IntKind.signed, IntKind.bits] at wx; unfold maxLen at wz; exact ⟨⟨by show _ ≤ x0; omega, by show x0 ≤ _; omega, by show x1.size ≤ _; omega⟩, hwt⟩⟩)
    refine ⟨some a, cap, l, by rw [hll], by rw [hll]; omega, ?_, fun p hp => by
      obtain ⟨i, hi, rfl⟩ := List.getElem_of_mem hp
      have := (hq i (by omega)).2.1
      rwa [List.getD_eq_getElem?_getD, List.getElem?_eq_getElem hi, Option.getD_some] at this, fun p hp => by
      obtain ⟨i, hi, rfl⟩ := List.getElem_of_mem hp
      have := (hq i (by omega)).2.2
      rw [List.getD_eq_getElem?_getD, List.getElem?_eq_getElem hi, Option.getD_some] at this
      rw [hx, DataW.weights, Tryz.underlying54]
      simp only [List.mem_cons, List.mem_append]
      exact .inr (.inl (weights_all this (List.mem_map.2 ⟨i, List.mem_range.2 (by omega), rfl⟩)))⟩
    intro h0
    have h00 := (hq 0 (by omega)).1.1
    have ea : a.add (0 * 2) = a := by simp [Addr.add]
    rw [ea] at h00
    have hlt := cell_there h00
    have hs : a.spot = none := by
      unfold World.cell? at h00
      cases ho : w.heap[a.block]? with
      | none => simp [ho] at h00
      | some o => cases hs : a.spot with
        | none => rfl
        | some s => cases o <;> simp [ho, hs] at h00
    refine ⟨a.block, a.off, by cases a; simp at hs; simp [hs], hlt, fun i hi j v hv => ?_⟩
    have e1 : a.add (i * 2) = ⟨a.block, a.off + i * 2, none⟩ := by
      unfold Addr.add
      by_cases h : i * 2 = 0
      · rw [if_pos h, h]; cases a; simp at hs; simp [hs]
      · rw [if_neg h]
    have e2 : a.add (i * 2 + 1) = ⟨a.block, a.off + i * 2 + 1, none⟩ := by
      unfold Addr.add
      rw [if_neg (by omega)]; simp [Nat.add_assoc]
    have hqi := (hq i (by omega)).1
    rw [e1, e2, List.getD_eq_getElem?_getD, List.getElem?_eq_getElem hi, Option.getD_some] at hqi
    have hj : j < 2 := by
      have := (List.getElem?_eq_some_iff.1 hv).1
      simpa [encPc] using this
    have h3 : j = 0 ∨ j = 1 := by omega
    rcases h3 with h3 | h3 <;> subst h3 <;> simp [encPc] at hv <;> subst hv
    · exact hqi.1
    · exact hqi.2
set_option maxRecDepth 100000 in
theorem open_pieces {r : Reach} {b0 : Nat} {v : Value} {d : DataW H} {p : List MemPlace} (hv : Value.okWide Tryz.prog w r b0 54 v) (h : DataW.Trod enc Tryz.prog w 0 (fun _ => true) held 54 v d p) :
    ∃ (A : Option Addr) (c : Nat) (l : List Pc), v = .slice A l.length c ∧ l.length ≤ maxLen ∧ ReadsPc w w.heap.size A l ∧ (∀ p ∈ l, PcIn p) ∧ ∀ p ∈ l, p.2.size ∈ d.weights Tryz.prog 54 := by
  unfold Value.okWide at hv
  rw [Tryz.underlying54] at hv
  simp only [] at hv
  obtain ⟨fuel, hf⟩ := h
  cases v with
  | slice A n c => exact pc_of_trod hf
  | _ =>
    exfalso
    unfold Cell.okWide at hv
    rw [Tryz.underlying54] at hv
    simp only [] at hv
    unfold Cell.ok at hv
    rw [Tryz.underlying54] at hv
    simp at hv
end
end Go.Proofs.YtpjacgcaibaggaaGreatDoor

namespace Go.Proofs.YtpjacgcaibaggaaGreatDoor
open Go.RowKit
open Go.Proofs
open Go.Proofs.Sp (Sp)

theorem same_self (s : St) : sameN s s = true := by simp [sameN]
theorem begin_emp {s : St} (h : (beginN s).2 = 0) : (beginN s).1 = emptyEn s false := by
  unfold beginN at h ⊢
  split at h
  · exact absurd h (by decide)
  · rename_i h1
    rw [if_neg h1]
    split at h
    · exact absurd h (by decide)
    · rename_i h2
      rw [if_neg h2]
      split at h
      · exact absurd h (by decide)
      · rename_i h3
        rw [if_neg h3]
theorem begin_pair {s : St} (h : (beginN s).2 = 0) : beginN s = (emptyEn s false, 0) := by
  rw [← begin_emp h, ← h]
/-- Two entries of one stamp: Merge succeeds, and is Whole where one of both is. -/
theorem merge_own {a b : En} (la lb : List Sp) (h : a.st = b.st) : (mergeN a b la lb).n = 0 ∧ (a.whole = true ∨ b.whole = true → (mergeN a b la lb).e.whole = true) := by
  have hs : ¬ sameN a.st b.st = false := by rw [h, same_self]; decide
  have hb : (bestN a b la lb).n = 0 := by
    unfold bestN
    split
    · split <;> rfl
    · split <;> rfl
  unfold mergeN
  rw [if_neg (by rw [h]; simp), if_neg hs]
  split
  · exact ⟨rfl, fun _ => rfl⟩
  · rename_i h1
    split
    · exact ⟨rfl, fun _ => rfl⟩
    · rename_i h2
      exact ⟨rfl, fun k => by rcases k with k | k <;> contradiction⟩
theorem merge_st1 {a b : En} (la lb : List Sp) (h : a.st = b.st) : (mergeN a b la lb).e.st = a.st := by
  have hs : ¬ sameN a.st b.st = false := by rw [h, same_self]; decide
  have hb := best_is a b la lb
  unfold mergeN
  rw [if_neg (by rw [h]; simp), if_neg hs]
  have hbs : (bestN a b la lb).e.st = a.st := by
    rcases hb with k | k
    · exact k.1
    · rw [k.1, h]
  split
  · exact hbs
  · split
    · exact hbs
    · exact (settle_st (bestN a b la lb).e (addAll la lb) (mrgB b.bytes lb a.bytes)).1.trans hbs
theorem run_rev_get {α : Type} (l : List α) (k : Nat) (h : k < l.length) : l.reverse[k]'(by simpa using h) = l[l.length - 1 - k]'(by omega) := by
  simp
theorem runN_rev (s : St) (ps : List (Int × ByteArray)) (k : Nat) (h : k < ps.length) : runN s (ps.reverse.take (k + 1)) = putN (runN s (ps.reverse.take k)).e (runN s (ps.reverse.take k)).l (ps[ps.length - 1 - k]'(by omega)).1 (ps[ps.length - 1 - k]'(by omega)).2 := by
  rw [runN_snoc s ps.reverse k (by simpa using h), run_rev_get ps k h]
end Go.Proofs.YtpjacgcaibaggaaGreatDoor

namespace Go.Proofs.YtpjacgcaibaggaaGreatDoor
open Go.RowKit Go.Shelf
open Go.Proofs
open Go.Proofs.Sp (Sp)

/-- An entry lies in a block, and its spans are read. -/
def EntAt (W : World) (B X Y : Nat) (r : Res) (A : Option Addr) (c : Nat) : Prop := RowAt W B (entC { r.e with hv := .slice A r.l.length c }) ∧ plainA A ∧ (A = none → c = 0) ∧ ReadsSp W W.heap.size A r.l ∧ ∀ a, A = some a → a.block ≠ X ∧ a.block ≠ Y
theorem EntAt.ext {W W' : World} {B X Y : Nat} {r : Res} {A : Option Addr} {c : Nat} (h : EntAt W B X Y r A c) (hx : Ext W W') : EntAt W' B X Y r A c := ⟨h.1.ext hx, h.2.1, h.2.2.1, h.2.2.2.1.on hx, h.2.2.2.2⟩
theorem reads_others {w : World} {A : Option Addr} {l : List Sp} (h : ReadsSp w w.heap.size A l) {m : Nat} (hA : ∀ a, A = some a → a.block ≠ m) (o : Nat) (vs : List Value) : ReadsSp (w.setCells m o vs) (w.setCells m o vs).heap.size A l := fun h0 => by
  obtain ⟨b, off, h1, h2, h3⟩ := h h0
  refine ⟨b, off, h1, by rw [setCells_size]; exact h2, fun i hi j v hv => ?_⟩
  rw [setCells_cell_if, if_neg (fun k => hA _ h1 k.1)]
  exact h3 i hi j v hv
theorem EntAt.others {W : World} {B X Y : Nat} {r : Res} {A : Option Addr} {c : Nat} (h : EntAt W B X Y r A c) {m : Nat} (hm : B ≠ m) (hX : m = X ∨ m = Y) (o : Nat) (vs : List Value) : EntAt (W.setCells m o vs) B X Y r A c :=
  ⟨h.1.others hm o vs, h.2.1, h.2.2.1, reads_others h.2.2.2.1 (fun a k => hX.elim (fun e => e ▸ (h.2.2.2.2 a k).1) (fun e => e ▸ (h.2.2.2.2 a k).2)) o vs, h.2.2.2.2⟩
theorem putN_same (e : En) (v : Value) (l : List Sp) (f : Int) (m : ByteArray) : (putN { e with hv := v } l f m).l = (putN e l f m).l ∧ (putN { e with hv := v } l f m).n = (putN e l f m).n ∧ ∀ u, ({ (putN { e with hv := v } l f m).e with hv := u } : En) = { (putN e l f m).e with hv := u } := by
  unfold putN
  by_cases h1 : e.whole = true
  · rw [if_pos h1, if_pos h1]; exact ⟨rfl, rfl, fun _ => rfl⟩
  · rw [if_neg h1, if_neg h1]
    by_cases h2 : f < 0 ∨ e.st.size < f ∨ e.st.size < f + m.size
    · rw [if_pos h2, if_pos h2]; exact ⟨rfl, rfl, fun _ => rfl⟩
    · rw [if_neg h2, if_neg h2]; exact settle_same e v e.bytes _ _
theorem eput_run (r : Res) (A : Option Addr) (c : Nat) (f : Int) (m : ByteArray) (w : World) (hval : Val r.e r.l) (hf63 : -9223372036854775808 ≤ f ∧ f ≤ 9223372036854775807) (hm : m.size ≤ 9223372036854775807)
    (hb : r.e.st.body.length = 16) (hby : Byt r.e.st.body) (hk : Konst 0 w) (hA : plainA A) (hz : A = none → c = 0) (hr : ReadsSp w w.heap.size A r.l) :
    Calls Tryz.prog 28 #[.agg (entC { r.e with hv := .slice A r.l.length c }), .int .i64 f, .string m] w fun e' w' => PutFar A (putN r.e r.l f m) e' w w' := by
  refine (eput_far { r.e with hv := .slice A r.l.length c } A c r.l f m w rfl (val_of hval rfl rfl rfl) hf63 hm hb hby hk hA hz hr).mono ?_
  obtain ⟨s1, s2, s3⟩ := putN_same r.e (.slice A r.l.length c) r.l f m
  rintro e' w' ⟨A', c', h1, h2, h3, h4, h5, h6⟩
  rw [s1, s2, s3] at h1
  rw [s1] at h4
  exact ⟨A', c', h1, h2, h3, h4, h5, h6⟩
def putW (r : Res) (A0 : Option Addr) (base : Nat) : Soft := ⟨fun v W => ∃ A c, v = .tuple #[.agg (entC { r.e with hv := .slice A r.l.length c }), .int .i64 r.n] ∧ plainA A ∧ (A = none → c = 0) ∧ ReadsSp W W.heap.size A r.l ∧ ∀ a, A = some a → A0 = some a ∨ base ≤ a.block, fun v w w' ⟨A, c, h1, h2, h3, h4, h5⟩ hx => ⟨A, c, h1, h2, h3, h4.on hx, h5⟩⟩
def WRel (w : World) (B8 B10 : Nat) (s : St) (l : List Pc) (i : Value) (wr : World) : Prop := ∃ (k : Nat) (A8 : Option Addr) (c8 : Nat) (A10 : Option Addr) (c10 : Nat), k ≤ l.length ∧ i = .int .i64 k ∧ Hid (Ext w wr) ∧ Hid (RowAt wr w.heap.size (stmC s)) ∧ Hid (EntAt wr B8 B8 B10 (runN s (l.take k)) A8 c8) ∧ Hid (EntAt wr B10 B8 B10 (runN s (l.reverse.take k)) A10 c10)
theorem part_snoc {wh : ByteArray} {l : List Pc} {k : Nat} (h : k < l.length) (h1 : ∀ p ∈ l.take k, PartOf wh p) (h2 : PartOf wh l[k]) : ∀ p ∈ l.take (k + 1), PartOf wh p := fun p hp => by
  rw [List.take_succ_eq_append_getElem h] at hp
  rcases List.mem_append.1 hp with hp | hp
  · exact h1 p hp
  · rw [List.mem_singleton] at hp; subst hp; exact h2
theorem had_len {s : St} {wh : ByteArray} {ps : List Pc} (hv : Val (emptyEn s false) []) (hd : Wire.digest 34 [bts wh] = s.body) (hw : (wh.size : Int) = s.size) (hp : ∀ p ∈ ps, PartOf wh p) : (hadN ps).length ≤ wh.size := by
  have h := (run_whole hv hd hw ps hp).1
  have := h.len (by omega)
  omega
theorem neq_dg (s : St) (hb : s.body.length = 16) (hby : Byt s.body) (W : World) : (binOp .neq 24 (.agg (cells8 s.body)) (.agg (dgC s.body))).run Tryz.prog W = .ok (.bool false) W := by
  have h := neq_dig hb hb hby hby W
  simpa using h
def W2Rel (w : World) (B8 : Nat) (s : St) (a : En) (wh : ByteArray) (l : List Pc) (i h _f : Value) (wr : World) : Prop := ∃ (k : Nat) (A' : Option Addr) (c' : Nat), k ≤ l.length ∧ i = .int .i64 k ∧ h = .slice A' (hadN (l.take k)).length c' ∧ Hid (Ext w wr) ∧ Hid (RowAt wr w.heap.size (stmC s)) ∧ Hid (RowAt wr B8 (entC a)) ∧ (A' = none → c' = 0) ∧ Hid (ReadsSp wr wr.heap.size A' (hadN (l.take k))) ∧ Hid (∀ p ∈ l.take k, PartOf wh p)
set_option maxRecDepth 100000 in
set_option maxHeartbeats 6000000 in
theorem what_ok (s : St) (A : Option Addr) (c : Nat) (l : List Pc) (wh : ByteArray) (w : World) (hs : StIn s) (hseal : s.seal_.length = 16) (hl : l.length ≤ 9223372036854775807) (hr : ReadsPc w w.heap.size A l) (hp : ∀ p ∈ l, PcIn p) (hp2 : ∀ p ∈ l, p.2.size ≤ 140737488351232)
    (hwl : wh.size ≤ 9223372036854775807) (hk : Konst 0 w) (hrk : RKonst w) :
    Calls Tryz.prog 6 #[.agg (stmC s), .slice A l.length c, .string wh] w fun e' w' => e' = .returned (.bool true) ∧ Ext w w' := by
  have HK := Lib.hid hk
  have HRK := Lib.hid hrk
  have HS := Lib.hid hs
  have HSl := Lib.hid hseal
  have HR := Lib.hid hr
  have HP := Lib.hid hp
  have HP2 := Lib.hid hp2
  have HSan := Lib.hid (fun W (hx : Ext w W) => sanity_ok W (RowAt.ext hk hx) (RowAt.ext hrk hx))
  have HRt := Lib.hid (fun W => rright_any s W hs.h1 hs.h2 hs.h3)
  obtain ⟨⟨x, xn⟩, hx⟩ : ∃ p, beginN s = p := ⟨_, rfl⟩
  have hxv : x.hv = .slice none 0 0 := by have := begin_hv s; rw [hx] at this; exact this
  have HX0 : Hid (xn = 0 → x = emptyEn s false ∧ Val x []) := Lib.hid (fun h => by
    have h1 := begin_emp (s := s) (by rw [hx]; exact h)
    have h2 := val_iff.1 (begin_val (s := s) (by rw [hx]; exact h))
    rw [hx] at h1 h2
    exact ⟨h1, h2⟩)
  have hxf : fitsRow 45 (entC x) = true := ent_fits_of hxv
  have HBg := Lib.hid (fun W (hx : Ext w W) => beginE_any s W hs.h1 hs.h2 hs.h3 hs.hb hs.hby (RowAt.ext hk hx))
  rw [hx] at HBg
  clear hk hrk hs hseal hr hp hp2 hx
  go_enter Tryz.func6, Tryz.ntmps6
  go_wp2_with (first
    | (go_at_call 26; refine (show Hid _ from ?_).out)
    | (go_at_call 25; refine (show Hid _ from ?_).out)
    | (go_at_call 27; refine (show Hid _ from ?_).out)
    | (go_at_call 30; refine (show Hid _ from ?_).out))
  refine Lib.hid ?_
  refine calls_world (fun W => Ext w W ∧ RowAt W w.heap.size (stmC s)) ⟨(by (repeat (first | with_reducible exact Ext.refl _ | with_reducible exact Ext.refl _ | with_reducible refine Ext.drew ?_ | with_reducible refine Ext.drewN ?_ _ | with_reducible refine Ext.alloc ?_ _ | with_reducible refine Ext.onto ?_ _ | (with_reducible refine Ext.setCells ?_ ?_ _ _; rotate_left; focus (first | omega | (simp; done) | (simp; omega))) | (with_reducible refine Ext.setCell ?_ ?_ _; rotate_left; focus (first | omega | (simp; done) | (simp; omega)))))), RowAt.new _ _ _⟩ ?_
  rintro W1 ⟨x1, r1⟩
  have HX1 := Lib.hid x1
  have HR1 := Lib.hid r1
  have hl1 := r1.lt
  have c3 : W1.cell? ⟨w.heap.size, 3, none⟩ = some (.int .i64 s.size) := (r1.cell 3).trans (stm_g3 s)
  have row1 : rowOf W1 w.heap.size 0 41 = some (stmC s) := r1.all (stm_size _).symm (by omega)
  clear x1 r1
  refine (HRt.out _).mono ?_
  rintro e' w' ⟨rfl, hxl⟩; obtain ⟨xa, rfl⟩ := hxl.asLater; clear hxl
  obtain ⟨b1, e1⟩ : ∃ b, rightB s = b := ⟨_, rfl⟩
  rw [e1]
  cases b1 with
  | false =>
    go_wp2_with (first
      | (go_at_call 26; refine (show Hid _ from ?_).out)
      | (go_at_call 25; refine (show Hid _ from ?_).out)
      | (go_at_call 27; refine (show Hid _ from ?_).out)
      | (go_at_call 30; refine (show Hid _ from ?_).out))
    refine Lib.hid ?_
    refine (HSan.out _ (HX1.out.onto _)).mono ?_
    rintro e' w' ⟨rfl, hxl⟩; obtain ⟨xb, rfl⟩ := hxl.asLater; clear hxl
    go_wp2
    go_ret
    exact ⟨rfl, (HX1.out.onto _).onto _⟩
  | true =>
    by_cases b2 : 2000 < s.size
    · have d2 : decide (2000 < s.size) = true := by simpa using b2
      go_wp2_with (first
        | (go_at_call 26; refine (show Hid _ from ?_).out)
        | (go_at_call 25; refine (show Hid _ from ?_).out)
        | (go_at_call 27; refine (show Hid _ from ?_).out)
        | (go_at_call 30; refine (show Hid _ from ?_).out))
      refine Lib.hid ?_
      refine (HSan.out _ (HX1.out.onto _)).mono ?_
      rintro e' w' ⟨rfl, hxl⟩; obtain ⟨xb, rfl⟩ := hxl.asLater; clear hxl
      go_wp2
      go_ret
      exact ⟨rfl, (HX1.out.onto _).onto _⟩
    have d2 : decide (2000 < s.size) = false := by simpa using b2
    by_cases b3 : 30 < l.length
    · have d3 : decide (30 < (l.length : Int)) = true := by simp; omega
      go_wp2_with (first
        | (go_at_call 26; refine (show Hid _ from ?_).out)
        | (go_at_call 25; refine (show Hid _ from ?_).out)
        | (go_at_call 27; refine (show Hid _ from ?_).out)
        | (go_at_call 30; refine (show Hid _ from ?_).out))
      refine Lib.hid ?_
      refine (HSan.out _ (HX1.out.onto _)).mono ?_
      rintro e' w' ⟨rfl, hxl⟩; obtain ⟨xb, rfl⟩ := hxl.asLater; clear hxl
      go_wp2
      go_ret
      exact ⟨rfl, (HX1.out.onto _).onto _⟩
    have d3 : decide (30 < (l.length : Int)) = false := by simp; omega
    by_cases b4 : 2000 < wh.size
    · have d4 : decide (2000 < (wh.size : Int)) = true := by simp; omega
      go_wp2_with (first
        | (go_at_call 26; refine (show Hid _ from ?_).out)
        | (go_at_call 25; refine (show Hid _ from ?_).out)
        | (go_at_call 27; refine (show Hid _ from ?_).out)
        | (go_at_call 30; refine (show Hid _ from ?_).out))
      refine Lib.hid ?_
      refine (HSan.out _ (HX1.out.onto _)).mono ?_
      rintro e' w' ⟨rfl, hxl⟩; obtain ⟨xb, rfl⟩ := hxl.asLater; clear hxl
      go_wp2
      go_ret
      exact ⟨rfl, (HX1.out.onto _).onto _⟩
    have d4 : decide (2000 < (wh.size : Int)) = false := by simp; omega
    go_wp2_with (first
      | (go_at_call 26; refine (show Hid _ from ?_).out)
      | (go_at_call 25; refine (show Hid _ from ?_).out)
      | (go_at_call 27; refine (show Hid _ from ?_).out)
      | (go_at_call 30; refine (show Hid _ from ?_).out))
    refine Lib.hid ?_
    refine (HBg.out _ (HX1.out.onto _)).mono ?_
    rintro e' w' ⟨rfl, hxl⟩; obtain ⟨xb, rfl⟩ := hxl.asLater; clear hxl
    go_wp2_with (first
      | (go_at_call 26; refine (show Hid _ from ?_).out)
      | (go_at_call 25; refine (show Hid _ from ?_).out)
      | (go_at_call 27; refine (show Hid _ from ?_).out)
      | (go_at_call 30; refine (show Hid _ from ?_).out))
    refine Lib.hid ?_
    refine calls_world (fun W => Ext w W ∧ RowAt W w.heap.size (stmC s) ∧ RowAt W (W1.heap.size + (xa.comp xb).n) (entC x)) ⟨Ext.setCells ((HX1.out.onto _).alloc _) (by have := HX1.out.size; simp only [later_size, Later.comp_n]; omega) _ _, RowAt.others ((HR1.out.later _).alloc _) (by simp only [later_size, Later.comp_n]; omega) _ _, (RowAt.newAt (cs := entC noEn) (t := 58) (by simp [later_size])).store (by rw [ent_size, ent_size])⟩ ?_
    have hB8 : w.heap.size < W1.heap.size + (xa.comp xb).n := by omega
    generalize W1.heap.size + (xa.comp xb).n = B8 at *
    rintro W2 ⟨x2, r2s, r2x⟩
    have HX2 := Lib.hid x2
    have HR2s := Lib.hid r2s
    have HR2x := Lib.hid r2x
    have hl2s := r2s.lt
    have hl2x := r2x.lt
    clear x2 r2s r2x HX1 HR1 hl1 c3 row1
    refine (HBg.out _ HX2.out).mono ?_
    rintro e' w' ⟨rfl, hxl⟩; obtain ⟨xc, rfl⟩ := hxl.asLater; clear hxl
    go_upto_region 6 with (fail)
    refine wp_world (fun W => Ext w W ∧ RowAt W w.heap.size (stmC s) ∧ RowAt W B8 (entC x) ∧ RowAt W (W2.heap.size + xc.n) (entC x)) ⟨Ext.setCells ((HX2.out.onto _).alloc _) (by have := HX2.out.size; first | omega | (simp only [later_size]; omega)) _ _, RowAt.others ((HR2s.out.later _).alloc _) (by first | omega | (simp only [later_size]; omega)) _ _, RowAt.others ((HR2x.out.later _).alloc _) (by first | omega | (simp only [later_size]; omega)) _ _, (RowAt.newAt (cs := entC noEn) (t := 58) (by simp [later_size])).store (by rw [ent_size, ent_size])⟩ ?_
    have hB10 : B8 < W2.heap.size + xc.n := by omega
    generalize W2.heap.size + xc.n = B10 at *
    rintro W3 ⟨x3, r3s, r3x, r3y⟩
    have HX1 := Lib.hid x3
    have HR3s := Lib.hid r3s
    have HR3x := Lib.hid r3x
    have HR3y := Lib.hid r3y
    clear x3 r3s r3x r3y HX2 HR2s HR2x hl2s hl2x HBg HRt d2 d3 d4
    by_cases hz : xn = 0
    · subst hz
      obtain ⟨hxe, hval⟩ := HX0.out (by simp)
      subst hxe
      have HV := Lib.hid hval
      clear hval HX0
      have hl3 := HR3y.out.lt
      go_wp2
      go_loopw [12] (WRel w B8 B10 s l) (fun i _ => l.length - (intOf i).toNat)

      case atStart => exact ⟨0, none, 0, none, 0, Nat.zero_le _, rfl, HX1, HR3s, Lib.hid ⟨HR3x.out, plainA_none, fun _ => rfl, Reads.nil _ _ _ _ _, fun _ k => by cases k⟩, Lib.hid ⟨HR3y.out, plainA_none, fun _ => rfl, Reads.nil _ _ _ _ _, fun _ k => by cases k⟩⟩
      case round =>
        obtain ⟨k, A8, c8, A10, c10, hk, rfl, HXr, HRs, HE8, HE10⟩ := hrel
        clear HX1 HR3s HR3x HR3y hl3
        have hxr := HXr.out
        have hwl0 := HRs.out.lt
        have hw8 := HE8.out.1.lt
        have hw10 := HE10.out.1.lt
        by_cases hlt : k < l.length
        · have hr8 : ∃ r8, runN s (l.take k) = r8 := ⟨_, rfl⟩
          have hr10 : ∃ r10, runN s (l.reverse.take k) = r10 := ⟨_, rfl⟩
          obtain ⟨r8, hr8⟩ := hr8
          obtain ⟨r10, hr10⟩ := hr10
          have hn8 := runN_snoc s l k hlt
          have hn10 := runN_rev s l k hlt
          have hv8 := (run_val s (l.take k) HV.out)
          have hv10 := (run_val s (l.reverse.take k) HV.out)
          rw [hr8] at HE8 hn8 hv8
          rw [hr10] at HE10 hn10 hv10
          obtain ⟨b, off, hA, hbl, y1, y2⟩ := ReadsPc.cell HR.out k hlt
          obtain ⟨b', off', hA', _, z1, z2⟩ := ReadsPc.cell HR.out (l.length - 1 - k) (by omega)
          obtain ⟨rfl, rfl⟩ : b = b' ∧ off = off' := by rw [hA] at hA'; injection hA' with h1; injection h1 with h2 h3; exact ⟨h2, h3⟩
          have HPp := Lib.hid (HP.out _ (List.getElem_mem hlt))
          have HPq := Lib.hid (HP.out _ (List.getElem_mem (show l.length - 1 - k < l.length by omega)))
          generalize l[k] = p at *
          generalize l[l.length - 1 - k]'(by omega) = q at *
          have HN8 := Lib.hid hn8
          have HN10 := Lib.hid hn10
          have HV8 := Lib.hid hv8
          have HV10 := Lib.hid hv10
          obtain ⟨j, hj⟩ : ∃ j, l.length - 1 - k = j := ⟨_, rfl⟩
          have hjI : (l.length : Int) - 1 - k = j := by omega
          rw [hj] at z1 z2
          have HZ1 := Lib.hid z1
          have HZ2 := Lib.hid z2
          have HJ := Lib.hid hjI
          have hjl : j < l.length := by omega
          clear hj hjI
          clear hr8 hr10 hn8 hn10 hv8 hv10 hA' z1 z2
          subst hA
          obtain ⟨R8, hR8⟩ : ∃ R, runN s (l.take (k + 1)) = R := ⟨_, rfl⟩
          obtain ⟨R10, hR10⟩ : ∃ R, runN s (l.reverse.take (k + 1)) = R := ⟨_, rfl⟩
          rw [hR8] at HN8
          rw [hR10] at HN10
          have HM8 : Hid (putN r8.e r8.l p.1 p.2 = R8) := Lib.hid HN8.out.symm
          have HM10 : Hid (putN r10.e r10.l q.1 q.2 = R10) := Lib.hid HN10.out.symm
          have HRR8 := Lib.hid hR8
          have HRR10 := Lib.hid hR10
          clear hR8 hR10 HN8 HN10
          as_aux_lemma =>
            go_wp2
            have rowE : rowOf wr B8 0 45 = some (entC { (r8).e with hv := .slice A8 (r8).l.length c8 }) := (HE8).out.1.all (ent_size _).symm (by omega)
            have HPu := Lib.hid (fun W (hx : Ext wr W) => eput_run r8 A8 c8 (p).1 (p).2 W (HV8).out.1 ⟨(HPp).out.1, (HPp).out.2.1⟩ (HPp).out.2.2 (by rw [(HV8).out.2]; exact HS.out.hb) (by rw [(HV8).out.2]; exact HS.out.hby) (RowAt.ext HK.out (HXr.out.trans hx)) (HE8).out.2.1 (HE8).out.2.2.1 ((HE8).out.2.2.2.1.on hx))
            rw [(HM8).out] at HPu
            refine wp_region_softR 13 (softsE [.eq (.agg (entC { (r8).e with hv := .slice A8 (r8).l.length c8 })), .eq (.slice (some ⟨b, off, none⟩) l.length c), .eq (.int .i64 k), .eq (.pointer (some ⟨b, off + k * 2, none⟩)), .eq (.pointer (some ⟨b, off + k * 2, none⟩)), .eq (.int .i64 (p).1), .eq (.slice (some ⟨b, off, none⟩) l.length c), .eq (.int .i64 k), .eq (.pointer (some ⟨b, off + k * 2, none⟩)), .eq (.pointer (some ⟨b, off + k * 2 + 1, none⟩)), .eq (.string (p).2), putW R8 A8 wr.heap.size, putW R8 A8 wr.heap.size]) (by kernel_rfl) (by kernel_rfl) (lt_cons ?_ (lt_cons ?_ (lt_cons ?_ (lt_cons ?_ (lt_cons ?_ (lt_cons ?_ (lt_cons ?_ (lt_cons ?_ (lt_cons ?_ (lt_cons ?_ (lt_cons ?_ (lt_cons ?_ (lt_cons ?_ lt_none))))))))))))) ?_
            ·
              as_aux_lemma =>
                intro o ho xs W hW hd Q' hQ; obtain rfl := Option.some.inj ho; clear ho; simp only [fillAt, dstOf, List.getElem?_cons_zero, List.getElem?_cons_succ, Option.bind_some, Act.put, List.setIfInBounds_toArray, List.set_cons_zero, List.set_cons_succ, Nat.zero_add, Nat.reduceAdd] at hQ ⊢; have HQ := Lib.hid hQ; have HD := Lib.hid hd; have HW := Lib.hid hW; have hsW := hW.size; clear hQ hd hW
                have hrow := (row_ext HW.out ((HE8).out.1.lt) 0 45).trans rowE
                go_wp2
                exact HQ.out _ _ (Ext.refl _) rfl
            ·
              as_aux_lemma =>
                intro o ho xs W hW hd Q' hQ; obtain rfl := Option.some.inj ho; clear ho; simp only [fillAt, dstOf, List.getElem?_cons_zero, List.getElem?_cons_succ, Option.bind_some, Act.put, List.setIfInBounds_toArray, List.set_cons_zero, List.set_cons_succ, Nat.zero_add, Nat.reduceAdd] at hQ ⊢; have HQ := Lib.hid hQ; have HD := Lib.hid hd; have HW := Lib.hid hW; have hsW := hW.size; clear hQ hd hW
                go_wp2
                exact HQ.out _ _ (Ext.refl _) rfl
            ·
              as_aux_lemma =>
                intro o ho xs W hW hd Q' hQ; obtain rfl := Option.some.inj ho; clear ho; simp only [fillAt, dstOf, List.getElem?_cons_zero, List.getElem?_cons_succ, Option.bind_some, Act.put, List.setIfInBounds_toArray, List.set_cons_zero, List.set_cons_succ, Nat.zero_add, Nat.reduceAdd] at hQ ⊢; have HQ := Lib.hid hQ; have HD := Lib.hid hd; have HW := Lib.hid hW; have hsW := hW.size; clear hQ hd hW
                go_wp2
                exact HQ.out _ _ (Ext.refl _) rfl
            ·
              as_aux_lemma =>
                intro o ho xs W hW hd Q' hQ; obtain rfl := Option.some.inj ho; clear ho; simp only [fillAt, dstOf, List.getElem?_cons_zero, List.getElem?_cons_succ, Option.bind_some, Act.put, List.setIfInBounds_toArray, List.set_cons_zero, List.set_cons_succ, Nat.zero_add, Nat.reduceAdd] at hQ ⊢; have HQ := Lib.hid hQ; have HD := Lib.hid hd; have HW := Lib.hid hW; have hsW := hW.size; clear hQ hd hW
                have hd1 : xs 1 = (.slice (some ⟨b, off, none⟩) l.length c) := (HD.out 1 (of_decide_eq_true (by kernel_rfl)))
                generalize xs 1 = x1 at hd1 HQ ⊢; subst hd1
                have hd2 : xs 2 = (.int .i64 k) := (HD.out 2 (of_decide_eq_true (by kernel_rfl)))
                generalize xs 2 = x2 at hd2 HQ ⊢; subst hd2
                go_wp2
                exact HQ.out _ _ (Ext.refl _) rfl
            ·
              as_aux_lemma =>
                intro o ho xs W hW hd Q' hQ; obtain rfl := Option.some.inj ho; clear ho; simp only [fillAt, dstOf, List.getElem?_cons_zero, List.getElem?_cons_succ, Option.bind_some, Act.put, List.setIfInBounds_toArray, List.set_cons_zero, List.set_cons_succ, Nat.zero_add, Nat.reduceAdd] at hQ ⊢; have HQ := Lib.hid hQ; have HD := Lib.hid hd; have HW := Lib.hid hW; have hsW := hW.size; clear hQ hd hW
                have hd3 : xs 3 = (.pointer (some ⟨b, off + k * 2, none⟩)) := (HD.out 3 (of_decide_eq_true (by kernel_rfl)))
                generalize xs 3 = x3 at hd3 HQ ⊢; subst hd3
                go_wp2
                exact HQ.out _ _ (Ext.refl _) rfl
            ·
              as_aux_lemma =>
                intro o ho xs W hW hd Q' hQ; obtain rfl := Option.some.inj ho; clear ho; simp only [fillAt, dstOf, List.getElem?_cons_zero, List.getElem?_cons_succ, Option.bind_some, Act.put, List.setIfInBounds_toArray, List.set_cons_zero, List.set_cons_succ, Nat.zero_add, Nat.reduceAdd] at hQ ⊢; have HQ := Lib.hid hQ; have HD := Lib.hid hd; have HW := Lib.hid hW; have hsW := hW.size; clear hQ hd hW
                have hd4 : xs 4 = .pointer (some ⟨b, off + k * 2, none⟩) := (HD.out 4 (of_decide_eq_true (by kernel_rfl)))
                generalize xs 4 = x4 at hd4 HQ ⊢; subst hd4
                have hc := ((HXr.out.trans HW.out).cell (p := ⟨b, off + k * 2, none⟩) hbl).trans y1
                go_wp2
                exact HQ.out _ _ (Ext.refl _) rfl
            ·
              as_aux_lemma =>
                intro o ho xs W hW hd Q' hQ; obtain rfl := Option.some.inj ho; clear ho; simp only [fillAt, dstOf, List.getElem?_cons_zero, List.getElem?_cons_succ, Option.bind_some, Act.put, List.setIfInBounds_toArray, List.set_cons_zero, List.set_cons_succ, Nat.zero_add, Nat.reduceAdd] at hQ ⊢; have HQ := Lib.hid hQ; have HD := Lib.hid hd; have HW := Lib.hid hW; have hsW := hW.size; clear hQ hd hW
                go_wp2
                exact HQ.out _ _ (Ext.refl _) rfl
            ·
              as_aux_lemma =>
                intro o ho xs W hW hd Q' hQ; obtain rfl := Option.some.inj ho; clear ho; simp only [fillAt, dstOf, List.getElem?_cons_zero, List.getElem?_cons_succ, Option.bind_some, Act.put, List.setIfInBounds_toArray, List.set_cons_zero, List.set_cons_succ, Nat.zero_add, Nat.reduceAdd] at hQ ⊢; have HQ := Lib.hid hQ; have HD := Lib.hid hd; have HW := Lib.hid hW; have hsW := hW.size; clear hQ hd hW
                go_wp2
                exact HQ.out _ _ (Ext.refl _) rfl
            ·
              as_aux_lemma =>
                intro o ho xs W hW hd Q' hQ; obtain rfl := Option.some.inj ho; clear ho; simp only [fillAt, dstOf, List.getElem?_cons_zero, List.getElem?_cons_succ, Option.bind_some, Act.put, List.setIfInBounds_toArray, List.set_cons_zero, List.set_cons_succ, Nat.zero_add, Nat.reduceAdd] at hQ ⊢; have HQ := Lib.hid hQ; have HD := Lib.hid hd; have HW := Lib.hid hW; have hsW := hW.size; clear hQ hd hW
                have hd6 : xs 6 = (.slice (some ⟨b, off, none⟩) l.length c) := (HD.out 6 (of_decide_eq_true (by kernel_rfl)))
                generalize xs 6 = x6 at hd6 HQ ⊢; subst hd6
                have hd7 : xs 7 = (.int .i64 k) := (HD.out 7 (of_decide_eq_true (by kernel_rfl)))
                generalize xs 7 = x7 at hd7 HQ ⊢; subst hd7
                go_wp2
                exact HQ.out _ _ (Ext.refl _) rfl
            ·
              as_aux_lemma =>
                intro o ho xs W hW hd Q' hQ; obtain rfl := Option.some.inj ho; clear ho; simp only [fillAt, dstOf, List.getElem?_cons_zero, List.getElem?_cons_succ, Option.bind_some, Act.put, List.setIfInBounds_toArray, List.set_cons_zero, List.set_cons_succ, Nat.zero_add, Nat.reduceAdd] at hQ ⊢; have HQ := Lib.hid hQ; have HD := Lib.hid hd; have HW := Lib.hid hW; have hsW := hW.size; clear hQ hd hW
                have hd8 : xs 8 = (.pointer (some ⟨b, off + k * 2, none⟩)) := (HD.out 8 (of_decide_eq_true (by kernel_rfl)))
                generalize xs 8 = x8 at hd8 HQ ⊢; subst hd8
                go_wp2
                exact HQ.out _ _ (Ext.refl _) rfl
            ·
              as_aux_lemma =>
                intro o ho xs W hW hd Q' hQ; obtain rfl := Option.some.inj ho; clear ho; simp only [fillAt, dstOf, List.getElem?_cons_zero, List.getElem?_cons_succ, Option.bind_some, Act.put, List.setIfInBounds_toArray, List.set_cons_zero, List.set_cons_succ, Nat.zero_add, Nat.reduceAdd] at hQ ⊢; have HQ := Lib.hid hQ; have HD := Lib.hid hd; have HW := Lib.hid hW; have hsW := hW.size; clear hQ hd hW
                have hd9 : xs 9 = .pointer (some ⟨b, off + k * 2 + 1, none⟩) := (HD.out 9 (of_decide_eq_true (by kernel_rfl)))
                generalize xs 9 = x9 at hd9 HQ ⊢; subst hd9
                have hc := ((HXr.out.trans HW.out).cell (p := ⟨b, off + k * 2 + 1, none⟩) hbl).trans y2
                go_wp2
                exact HQ.out _ _ (Ext.refl _) rfl
            ·
              as_aux_lemma =>
                intro o ho xs W hW hd Q' hQ; obtain rfl := Option.some.inj ho; clear ho; simp only [fillAt, dstOf, List.getElem?_cons_zero, List.getElem?_cons_succ, Option.bind_some, Act.put, List.setIfInBounds_toArray, List.set_cons_zero, List.set_cons_succ, Nat.zero_add, Nat.reduceAdd] at hQ ⊢; have HQ := Lib.hid hQ; have HD := Lib.hid hd; have HW := Lib.hid hW; have hsW := hW.size; clear hQ hd hW
                have hd0 : xs 0 = .agg (entC { (r8).e with hv := .slice A8 (r8).l.length c8 }) := (HD.out 0 (of_decide_eq_true (by kernel_rfl)))
                generalize xs 0 = x0 at hd0 HQ ⊢; subst hd0
                have hd5 : xs 5 = .int .i64 (p).1 := (HD.out 5 (of_decide_eq_true (by kernel_rfl)))
                generalize xs 5 = x5 at hd5 HQ ⊢; subst hd5
                have hd10 : xs 10 = .string (p).2 := (HD.out 10 (of_decide_eq_true (by kernel_rfl)))
                generalize xs 10 = x10 at hd10 HQ ⊢; subst hd10
                go_wp2_with (go_at_call 28; refine (HPu.out _ HW.out).mono ?_; rintro e w1 ⟨A5, c5, rfl, hpl, hno, hrd, hfr, hx⟩)
                exact HQ.out _ _ hx ⟨A5, c5, rfl, hpl, hno, hrd, fun a k => (hfr a k).imp id (fun q => Nat.le_trans hsW q)⟩
            ·
              as_aux_lemma =>
                intro o ho xs W hW hd Q' hQ; obtain rfl := Option.some.inj ho; clear ho; simp only [fillAt, dstOf, List.getElem?_cons_zero, List.getElem?_cons_succ, Option.bind_some, Act.put, List.setIfInBounds_toArray, List.set_cons_zero, List.set_cons_succ, Nat.zero_add, Nat.reduceAdd] at hQ ⊢; have HQ := Lib.hid hQ; have HD := Lib.hid hd; have HW := Lib.hid hW; have hsW := hW.size; clear hQ hd hW
                obtain ⟨A5, c5, h11, hpl, hno, hrd, hfr⟩ : (putW R8 A8 wr.heap.size).S (xs 11) W := (HD.out 11 (of_decide_eq_true (by kernel_rfl)))
                generalize xs 11 = x11 at h11 HQ ⊢; subst h11
                go_wp2
                exact HQ.out _ _ (Ext.refl _) ⟨A5, c5, rfl, hpl, hno, hrd, hfr⟩
            intro xs W6 hW hS
            obtain ⟨A6, c6, h12, hpl, hno, hrd, hfr⟩ : (putW R8 A8 wr.heap.size).S (xs 12) W6 := hS 12 (by omega)
            simp only [fillAt, dstOf, List.getElem?_cons_zero, List.getElem?_cons_succ, Option.bind_some, Act.put, List.setIfInBounds_toArray, List.set_cons_zero, List.set_cons_succ, Nat.zero_add, Nat.reduceAdd]
            generalize xs 12 = y12 at h12 ⊢; subst h12
            have HX9 := Lib.hid hW
            have HFr := Lib.hid hfr
            have HRd := Lib.hid hrd
            have room : roomOf W6 B8 0 45 = true := by rw [((HE8).out.1.ext hW).room, ent_size]; rfl
            have hfR : fitsRow 45 (entC { (R8).e with hv := .slice A6 (R8).l.length c6 }) = true := ent_fits_of rfl
            clear hS hW hfr hrd rowE HPu
            refine wpAny_putTail ent_ty (i1 := 13) (i2 := 14) (i3 := 15) rfl rfl rfl (by kernel_rfl) (by kernel_rfl) (by kernel_rfl) (by kernel_rfl) (by kernel_rfl) (by kernel_rfl) (by kernel_rfl) (fun _ _ _ _ _ h => h) rfl rfl rfl rfl room hfR ?_
            simp only [fillAt, dstOf, List.getElem?_cons_zero, List.getElem?_cons_succ, Option.bind_some, Act.put, List.setIfInBounds_toArray, List.set_cons_zero, List.set_cons_succ, Nat.zero_add, Nat.reduceAdd]
            as_aux_lemma =>
              go_upto_region 13 with (fail)
              as_aux_lemma =>
                rw [HJ.out]
                have hr8 : w.heap.size ≤ B8 := by omega
                have hn8 : w.heap.size ≠ B8 := by omega
                have hn10 : B10 ≠ B8 := by omega
                refine wp_world (fun W => Ext w W ∧ RowAt W w.heap.size (stmC s) ∧ EntAt W B8 B8 B10 R8 A6 c6 ∧ EntAt W B10 B8 B10 r10 A10 c10) ⟨(HXr.out.trans HX9.out).setCells hr8 _ _, (HRs.out.ext HX9.out).others hn8 _ _, ⟨(HE8.out.1.ext HX9.out).store (by rw [ent_size, ent_size]), hpl, hno, reads_others HRd.out (fun a k => (HFr.out a k).elim (fun q => (HE8.out.2.2.2.2 a q).1) (fun q => by omega)) _ _, fun a k => (HFr.out a k).elim (fun q => HE8.out.2.2.2.2 a q) (fun q => by omega)⟩, (HE10.out.ext HX9.out).others hn10 (.inl rfl) _ _⟩ ?_
                rintro W7 ⟨x7, rs7, e87, e107⟩
                have HX7 := Lib.hid x7
                have HRs7 := Lib.hid rs7
                have HE87 := Lib.hid e87
                have HE107 := Lib.hid e107
                have hw87 := e87.1.lt
                have hw107 := e107.1.lt
                have hws7 := rs7.lt
                clear x7 rs7 e87 e107 room hfR HX9 HFr HRd hpl hno HE8 HE10 HRs hr8 hn8 hn10 y1 y2 hxr
                have y1 := HZ1.out
                have y2 := HZ2.out
                as_aux_lemma =>
                  have rowE : rowOf W7 B10 0 45 = some (entC { (r10).e with hv := .slice A10 (r10).l.length c10 }) := (HE107).out.1.all (ent_size _).symm (by omega)
                  have HPu := Lib.hid (fun W (hx : Ext W7 W) => eput_run r10 A10 c10 (q).1 (q).2 W (HV10).out.1 ⟨(HPq).out.1, (HPq).out.2.1⟩ (HPq).out.2.2 (by rw [(HV10).out.2]; exact HS.out.hb) (by rw [(HV10).out.2]; exact HS.out.hby) (RowAt.ext HK.out (HX7.out.trans hx)) (HE107).out.2.1 (HE107).out.2.2.1 ((HE107).out.2.2.2.1.on hx))
                  rw [(HM10).out] at HPu
                  refine wp_region_softR 13 (softsE [.eq (.agg (entC { (r10).e with hv := .slice A10 (r10).l.length c10 })), .eq (.slice (some ⟨b, off, none⟩) l.length c), .eq (.int .i64 j), .eq (.pointer (some ⟨b, off + j * 2, none⟩)), .eq (.pointer (some ⟨b, off + j * 2, none⟩)), .eq (.int .i64 (q).1), .eq (.slice (some ⟨b, off, none⟩) l.length c), .eq (.int .i64 j), .eq (.pointer (some ⟨b, off + j * 2, none⟩)), .eq (.pointer (some ⟨b, off + j * 2 + 1, none⟩)), .eq (.string (q).2), putW R10 A10 W7.heap.size, putW R10 A10 W7.heap.size]) (by kernel_rfl) (by kernel_rfl) (lt_cons ?_ (lt_cons ?_ (lt_cons ?_ (lt_cons ?_ (lt_cons ?_ (lt_cons ?_ (lt_cons ?_ (lt_cons ?_ (lt_cons ?_ (lt_cons ?_ (lt_cons ?_ (lt_cons ?_ (lt_cons ?_ lt_none))))))))))))) ?_
                  ·
                    as_aux_lemma =>
                      intro o ho xs W hW hd Q' hQ; obtain rfl := Option.some.inj ho; clear ho; simp only [fillAt, dstOf, List.getElem?_cons_zero, List.getElem?_cons_succ, Option.bind_some, Act.put, List.setIfInBounds_toArray, List.set_cons_zero, List.set_cons_succ, Nat.zero_add, Nat.reduceAdd] at hQ ⊢; have HQ := Lib.hid hQ; have HD := Lib.hid hd; have HW := Lib.hid hW; have hsW := hW.size; clear hQ hd hW
                      have hrow := (row_ext HW.out ((HE107).out.1.lt) 0 45).trans rowE
                      go_wp2
                      exact HQ.out _ _ (Ext.refl _) rfl
                  ·
                    as_aux_lemma =>
                      intro o ho xs W hW hd Q' hQ; obtain rfl := Option.some.inj ho; clear ho; simp only [fillAt, dstOf, List.getElem?_cons_zero, List.getElem?_cons_succ, Option.bind_some, Act.put, List.setIfInBounds_toArray, List.set_cons_zero, List.set_cons_succ, Nat.zero_add, Nat.reduceAdd] at hQ ⊢; have HQ := Lib.hid hQ; have HD := Lib.hid hd; have HW := Lib.hid hW; have hsW := hW.size; clear hQ hd hW
                      go_wp2
                      exact HQ.out _ _ (Ext.refl _) rfl
                  ·
                    as_aux_lemma =>
                      intro o ho xs W hW hd Q' hQ; obtain rfl := Option.some.inj ho; clear ho; simp only [fillAt, dstOf, List.getElem?_cons_zero, List.getElem?_cons_succ, Option.bind_some, Act.put, List.setIfInBounds_toArray, List.set_cons_zero, List.set_cons_succ, Nat.zero_add, Nat.reduceAdd] at hQ ⊢; have HQ := Lib.hid hQ; have HD := Lib.hid hd; have HW := Lib.hid hW; have hsW := hW.size; clear hQ hd hW
                      go_wp2
                      exact HQ.out _ _ (Ext.refl _) rfl
                  ·
                    as_aux_lemma =>
                      intro o ho xs W hW hd Q' hQ; obtain rfl := Option.some.inj ho; clear ho; simp only [fillAt, dstOf, List.getElem?_cons_zero, List.getElem?_cons_succ, Option.bind_some, Act.put, List.setIfInBounds_toArray, List.set_cons_zero, List.set_cons_succ, Nat.zero_add, Nat.reduceAdd] at hQ ⊢; have HQ := Lib.hid hQ; have HD := Lib.hid hd; have HW := Lib.hid hW; have hsW := hW.size; clear hQ hd hW
                      have hd1 : xs 1 = (.slice (some ⟨b, off, none⟩) l.length c) := (HD.out 1 (of_decide_eq_true (by kernel_rfl)))
                      generalize xs 1 = x1 at hd1 HQ ⊢; subst hd1
                      have hd2 : xs 2 = (.int .i64 j) := (HD.out 2 (of_decide_eq_true (by kernel_rfl)))
                      generalize xs 2 = x2 at hd2 HQ ⊢; subst hd2
                      go_wp2
                      exact HQ.out _ _ (Ext.refl _) rfl
                  ·
                    as_aux_lemma =>
                      intro o ho xs W hW hd Q' hQ; obtain rfl := Option.some.inj ho; clear ho; simp only [fillAt, dstOf, List.getElem?_cons_zero, List.getElem?_cons_succ, Option.bind_some, Act.put, List.setIfInBounds_toArray, List.set_cons_zero, List.set_cons_succ, Nat.zero_add, Nat.reduceAdd] at hQ ⊢; have HQ := Lib.hid hQ; have HD := Lib.hid hd; have HW := Lib.hid hW; have hsW := hW.size; clear hQ hd hW
                      have hd3 : xs 3 = (.pointer (some ⟨b, off + j * 2, none⟩)) := (HD.out 3 (of_decide_eq_true (by kernel_rfl)))
                      generalize xs 3 = x3 at hd3 HQ ⊢; subst hd3
                      go_wp2
                      exact HQ.out _ _ (Ext.refl _) rfl
                  ·
                    as_aux_lemma =>
                      intro o ho xs W hW hd Q' hQ; obtain rfl := Option.some.inj ho; clear ho; simp only [fillAt, dstOf, List.getElem?_cons_zero, List.getElem?_cons_succ, Option.bind_some, Act.put, List.setIfInBounds_toArray, List.set_cons_zero, List.set_cons_succ, Nat.zero_add, Nat.reduceAdd] at hQ ⊢; have HQ := Lib.hid hQ; have HD := Lib.hid hd; have HW := Lib.hid hW; have hsW := hW.size; clear hQ hd hW
                      have hd4 : xs 4 = .pointer (some ⟨b, off + j * 2, none⟩) := (HD.out 4 (of_decide_eq_true (by kernel_rfl)))
                      generalize xs 4 = x4 at hd4 HQ ⊢; subst hd4
                      have hc := ((HX7.out.trans HW.out).cell (p := ⟨b, off + j * 2, none⟩) hbl).trans y1
                      go_wp2
                      exact HQ.out _ _ (Ext.refl _) rfl
                  ·
                    as_aux_lemma =>
                      intro o ho xs W hW hd Q' hQ; obtain rfl := Option.some.inj ho; clear ho; simp only [fillAt, dstOf, List.getElem?_cons_zero, List.getElem?_cons_succ, Option.bind_some, Act.put, List.setIfInBounds_toArray, List.set_cons_zero, List.set_cons_succ, Nat.zero_add, Nat.reduceAdd] at hQ ⊢; have HQ := Lib.hid hQ; have HD := Lib.hid hd; have HW := Lib.hid hW; have hsW := hW.size; clear hQ hd hW
                      go_wp2
                      exact HQ.out _ _ (Ext.refl _) rfl
                  ·
                    as_aux_lemma =>
                      intro o ho xs W hW hd Q' hQ; obtain rfl := Option.some.inj ho; clear ho; simp only [fillAt, dstOf, List.getElem?_cons_zero, List.getElem?_cons_succ, Option.bind_some, Act.put, List.setIfInBounds_toArray, List.set_cons_zero, List.set_cons_succ, Nat.zero_add, Nat.reduceAdd] at hQ ⊢; have HQ := Lib.hid hQ; have HD := Lib.hid hd; have HW := Lib.hid hW; have hsW := hW.size; clear hQ hd hW
                      go_wp2
                      exact HQ.out _ _ (Ext.refl _) rfl
                  ·
                    as_aux_lemma =>
                      intro o ho xs W hW hd Q' hQ; obtain rfl := Option.some.inj ho; clear ho; simp only [fillAt, dstOf, List.getElem?_cons_zero, List.getElem?_cons_succ, Option.bind_some, Act.put, List.setIfInBounds_toArray, List.set_cons_zero, List.set_cons_succ, Nat.zero_add, Nat.reduceAdd] at hQ ⊢; have HQ := Lib.hid hQ; have HD := Lib.hid hd; have HW := Lib.hid hW; have hsW := hW.size; clear hQ hd hW
                      have hd6 : xs 6 = (.slice (some ⟨b, off, none⟩) l.length c) := (HD.out 6 (of_decide_eq_true (by kernel_rfl)))
                      generalize xs 6 = x6 at hd6 HQ ⊢; subst hd6
                      have hd7 : xs 7 = (.int .i64 j) := (HD.out 7 (of_decide_eq_true (by kernel_rfl)))
                      generalize xs 7 = x7 at hd7 HQ ⊢; subst hd7
                      go_wp2
                      exact HQ.out _ _ (Ext.refl _) rfl
                  ·
                    as_aux_lemma =>
                      intro o ho xs W hW hd Q' hQ; obtain rfl := Option.some.inj ho; clear ho; simp only [fillAt, dstOf, List.getElem?_cons_zero, List.getElem?_cons_succ, Option.bind_some, Act.put, List.setIfInBounds_toArray, List.set_cons_zero, List.set_cons_succ, Nat.zero_add, Nat.reduceAdd] at hQ ⊢; have HQ := Lib.hid hQ; have HD := Lib.hid hd; have HW := Lib.hid hW; have hsW := hW.size; clear hQ hd hW
                      have hd8 : xs 8 = (.pointer (some ⟨b, off + j * 2, none⟩)) := (HD.out 8 (of_decide_eq_true (by kernel_rfl)))
                      generalize xs 8 = x8 at hd8 HQ ⊢; subst hd8
                      go_wp2
                      exact HQ.out _ _ (Ext.refl _) rfl
                  ·
                    as_aux_lemma =>
                      intro o ho xs W hW hd Q' hQ; obtain rfl := Option.some.inj ho; clear ho; simp only [fillAt, dstOf, List.getElem?_cons_zero, List.getElem?_cons_succ, Option.bind_some, Act.put, List.setIfInBounds_toArray, List.set_cons_zero, List.set_cons_succ, Nat.zero_add, Nat.reduceAdd] at hQ ⊢; have HQ := Lib.hid hQ; have HD := Lib.hid hd; have HW := Lib.hid hW; have hsW := hW.size; clear hQ hd hW
                      have hd9 : xs 9 = .pointer (some ⟨b, off + j * 2 + 1, none⟩) := (HD.out 9 (of_decide_eq_true (by kernel_rfl)))
                      generalize xs 9 = x9 at hd9 HQ ⊢; subst hd9
                      have hc := ((HX7.out.trans HW.out).cell (p := ⟨b, off + j * 2 + 1, none⟩) hbl).trans y2
                      go_wp2
                      exact HQ.out _ _ (Ext.refl _) rfl
                  ·
                    as_aux_lemma =>
                      intro o ho xs W hW hd Q' hQ; obtain rfl := Option.some.inj ho; clear ho; simp only [fillAt, dstOf, List.getElem?_cons_zero, List.getElem?_cons_succ, Option.bind_some, Act.put, List.setIfInBounds_toArray, List.set_cons_zero, List.set_cons_succ, Nat.zero_add, Nat.reduceAdd] at hQ ⊢; have HQ := Lib.hid hQ; have HD := Lib.hid hd; have HW := Lib.hid hW; have hsW := hW.size; clear hQ hd hW
                      have hd0 : xs 0 = .agg (entC { (r10).e with hv := .slice A10 (r10).l.length c10 }) := (HD.out 0 (of_decide_eq_true (by kernel_rfl)))
                      generalize xs 0 = x0 at hd0 HQ ⊢; subst hd0
                      have hd5 : xs 5 = .int .i64 (q).1 := (HD.out 5 (of_decide_eq_true (by kernel_rfl)))
                      generalize xs 5 = x5 at hd5 HQ ⊢; subst hd5
                      have hd10 : xs 10 = .string (q).2 := (HD.out 10 (of_decide_eq_true (by kernel_rfl)))
                      generalize xs 10 = x10 at hd10 HQ ⊢; subst hd10
                      go_wp2_with (go_at_call 28; refine (HPu.out _ HW.out).mono ?_; rintro e w1 ⟨A5, c5, rfl, hpl, hno, hrd, hfr, hx⟩)
                      exact HQ.out _ _ hx ⟨A5, c5, rfl, hpl, hno, hrd, fun a k => (hfr a k).imp id (fun q => Nat.le_trans hsW q)⟩
                  ·
                    as_aux_lemma =>
                      intro o ho xs W hW hd Q' hQ; obtain rfl := Option.some.inj ho; clear ho; simp only [fillAt, dstOf, List.getElem?_cons_zero, List.getElem?_cons_succ, Option.bind_some, Act.put, List.setIfInBounds_toArray, List.set_cons_zero, List.set_cons_succ, Nat.zero_add, Nat.reduceAdd] at hQ ⊢; have HQ := Lib.hid hQ; have HD := Lib.hid hd; have HW := Lib.hid hW; have hsW := hW.size; clear hQ hd hW
                      obtain ⟨A5, c5, h11, hpl, hno, hrd, hfr⟩ : (putW R10 A10 W7.heap.size).S (xs 11) W := (HD.out 11 (of_decide_eq_true (by kernel_rfl)))
                      generalize xs 11 = x11 at h11 HQ ⊢; subst h11
                      go_wp2
                      exact HQ.out _ _ (Ext.refl _) ⟨A5, c5, rfl, hpl, hno, hrd, hfr⟩
                  intro xs W9 hW hS
                  obtain ⟨A9, c9, h12, hpl, hno, hrd, hfr⟩ : (putW R10 A10 W7.heap.size).S (xs 12) W9 := hS 12 (by omega)
                  simp only [fillAt, dstOf, List.getElem?_cons_zero, List.getElem?_cons_succ, Option.bind_some, Act.put, List.setIfInBounds_toArray, List.set_cons_zero, List.set_cons_succ, Nat.zero_add, Nat.reduceAdd]
                  generalize xs 12 = y12 at h12 ⊢; subst h12
                  have HX9 := Lib.hid hW
                  have HFr := Lib.hid hfr
                  have HRd := Lib.hid hrd
                  have room : roomOf W9 B10 0 45 = true := by rw [((HE107).out.1.ext hW).room, ent_size]; rfl
                  have hfR : fitsRow 45 (entC { (R10).e with hv := .slice A9 (R10).l.length c9 }) = true := ent_fits_of rfl
                  clear hS hW hfr hrd rowE HPu
                  refine wpAny_putTail ent_ty (i1 := 13) (i2 := 14) (i3 := 15) rfl rfl rfl (by kernel_rfl) (by kernel_rfl) (by kernel_rfl) (by kernel_rfl) (by kernel_rfl) (by kernel_rfl) (by kernel_rfl) (fun _ _ _ _ _ h => h) rfl rfl rfl rfl room hfR ?_
                  simp only [fillAt, dstOf, List.getElem?_cons_zero, List.getElem?_cons_succ, Option.bind_some, Act.put, List.setIfInBounds_toArray, List.set_cons_zero, List.set_cons_succ, Nat.zero_add, Nat.reduceAdd]
                  as_aux_lemma =>
                    go_upto_region 14 with (fail)
                    as_aux_lemma =>
                      have hs10 : w.heap.size ≤ B10 := by omega
                      have hn8 : w.heap.size ≠ B10 := by omega
                      have hn10 : B8 ≠ B10 := by omega
                      refine wp_world (fun W => Ext w W ∧ RowAt W w.heap.size (stmC s) ∧ EntAt W B8 B8 B10 R8 A6 c6 ∧ EntAt W B10 B8 B10 R10 A9 c9) ⟨(HX7.out.trans HX9.out).setCells hs10 _ _, (HRs7.out.ext HX9.out).others hn8 _ _, (HE87.out.ext HX9.out).others hn10 (.inr rfl) _ _, ⟨(HE107.out.1.ext HX9.out).store (by rw [ent_size, ent_size]), hpl, hno, reads_others HRd.out (fun a k => (HFr.out a k).elim (fun q => (HE107.out.2.2.2.2 a q).2) (fun q => by omega)) _ _, fun a k => (HFr.out a k).elim (fun q => HE107.out.2.2.2.2 a q) (fun q => by omega)⟩⟩ ?_
                      rintro W8 ⟨x8, rs8, e88, e108⟩
                      have HXk := Lib.hid x8
                      have HRsk := Lib.hid rs8
                      have HE8k := Lib.hid e88
                      have HE10k := Lib.hid e108
                      have b44 : W8.cell? ⟨B8, 44, none⟩ = some (.bool R8.e.whole) := (e88.1.cell 44).trans (ent_g44 _)
                      have b43 : W8.cell? ⟨B8, 43, none⟩ = some (.string R8.e.bytes) := (e88.1.cell 43).trans (ent_g43 _)
                      have d44 : W8.cell? ⟨B10, 44, none⟩ = some (.bool R10.e.whole) := (e108.1.cell 44).trans (ent_g44 _)
                      have d43 : W8.cell? ⟨B10, 43, none⟩ = some (.string R10.e.bytes) := (e108.1.cell 43).trans (ent_g43 _)
                      have hbd : rowOf W8 w.heap.size 4 16 = some (dgC s.body) := by rw [rs8.row, if_neg (by omega), stm_body]
                      have hws8 := rs8.lt
                      have hw88 := e88.1.lt
                      have hw108 := e108.1.lt
                      clear x8 rs8 e88 e108 room hfR HX9 HFr HRd hpl hno HE87 HE107 HRs7 HX7 hs10 hn8 hn10 y1 y2 hw87 hw107 hws7 HZ1 HZ2 HM8 HM10 HV8 HV10 HJ HPp HPq
                      obtain ⟨v8, u8⟩ := run_val s (l.take (k + 1)) HV.out
                      obtain ⟨v10, u10⟩ := run_val s (l.reverse.take (k + 1)) HV.out
                      rw [HRR8.out] at v8 u8
                      rw [HRR10.out] at v10 u10
                      have hb8 : R8.e.bytes.size ≤ 140737488351200 := by have h1 := v8.bs; have h2 := v8.sz; omega
                      have hb10 : R10.e.bytes.size ≤ 140737488351200 := by have h1 := v10.bs; have h2 := v10.sz; omega
                      have HG8 : Hid (R8.e.whole = true → Wire.digest 34 [bts R8.e.bytes] = s.body) := Lib.hid (fun h => by rw [v8.dg h, u8])
                      have HG10 : Hid (R10.e.whole = true → Wire.digest 34 [bts R10.e.bytes] = s.body) := Lib.hid (fun h => by rw [v10.dg h, u10])
                      clear v8 u8 v10 u10
                      have hq := neq_dg s HS.out.hb HS.out.hby
                      as_aux_lemma =>
                        cases h8 : R8.e.whole with
                        | false =>
                          rw [h8] at b44
                          clear HG8 h8
                          cases h10 : R10.e.whole with
                          | false =>
                            rw [h10] at d44
                            clear HG10 h10
                            refine wp_region_later (by kernel_rfl) (by kernel_rfl) ?_
                            repeat (first | go_big_quiet_step ((go_at_call 29; exact quietE (rdigest_is _ s.body _ (RowAt.ext HRK.out (HXk.out.onto _)) (by first | exact hb8 | exact hb10 | exact hb14) (by first | exact HD8.out | exact HD10.out | exact HD14.out)))) | quiet_step ((go_at_call 29; exact quietE (rdigest_is _ s.body _ (RowAt.ext HRK.out (HXk.out.onto _)) (by first | exact hb8 | exact hb10 | exact hb14) (by first | exact HD8.out | exact HD10.out | exact HD14.out)))))
                            refine wpQuiet_nil ?_
                            rintro _ ⟨xq, rfl⟩
                            go_wp2
                            go_roundw
                            case rel => exact ⟨k + 1, A6, c6, A9, c9, by omega, by go_num, Lib.hid (HXk.out.onto _), Lib.hid (HRsk.out.later _), Lib.hid (by rw [HRR8.out]; exact HE8k.out.ext (ext_later _ _)), Lib.hid (by rw [HRR10.out]; exact HE10k.out.ext (ext_later _ _))⟩
                            case measure => simp [intOf]; omega
                          | true =>
                            rw [h10] at d44
                            have HD10 := Lib.hid (HG10.out h10)
                            clear HG10 h10
                            refine wp_region_later (by kernel_rfl) (by kernel_rfl) ?_
                            repeat (first | go_big_quiet_step ((go_at_call 29; exact quietE (rdigest_is _ s.body _ (RowAt.ext HRK.out (HXk.out.onto _)) (by first | exact hb8 | exact hb10 | exact hb14) (by first | exact HD8.out | exact HD10.out | exact HD14.out)))) | quiet_step ((go_at_call 29; exact quietE (rdigest_is _ s.body _ (RowAt.ext HRK.out (HXk.out.onto _)) (by first | exact hb8 | exact hb10 | exact hb14) (by first | exact HD8.out | exact HD10.out | exact HD14.out)))))
                            refine wpQuiet_nil ?_
                            rintro _ ⟨xq, rfl⟩
                            go_wp2
                            go_roundw
                            case rel => exact ⟨k + 1, A6, c6, A9, c9, by omega, by go_num, Lib.hid (HXk.out.onto _), Lib.hid (HRsk.out.later _), Lib.hid (by rw [HRR8.out]; exact HE8k.out.ext (ext_later _ _)), Lib.hid (by rw [HRR10.out]; exact HE10k.out.ext (ext_later _ _))⟩
                            case measure => simp [intOf]; omega
                        | true =>
                          rw [h8] at b44
                          have HD8 := Lib.hid (HG8.out h8)
                          clear HG8 h8
                          cases h10 : R10.e.whole with
                          | false =>
                            rw [h10] at d44
                            clear HG10 h10
                            refine wp_region_later (by kernel_rfl) (by kernel_rfl) ?_
                            repeat (first | go_big_quiet_step ((go_at_call 29; exact quietE (rdigest_is _ s.body _ (RowAt.ext HRK.out (HXk.out.onto _)) (by first | exact hb8 | exact hb10 | exact hb14) (by first | exact HD8.out | exact HD10.out | exact HD14.out)))) | quiet_step ((go_at_call 29; exact quietE (rdigest_is _ s.body _ (RowAt.ext HRK.out (HXk.out.onto _)) (by first | exact hb8 | exact hb10 | exact hb14) (by first | exact HD8.out | exact HD10.out | exact HD14.out)))))
                            refine wpQuiet_nil ?_
                            rintro _ ⟨xq, rfl⟩
                            go_wp2
                            go_roundw
                            case rel => exact ⟨k + 1, A6, c6, A9, c9, by omega, by go_num, Lib.hid (HXk.out.onto _), Lib.hid (HRsk.out.later _), Lib.hid (by rw [HRR8.out]; exact HE8k.out.ext (ext_later _ _)), Lib.hid (by rw [HRR10.out]; exact HE10k.out.ext (ext_later _ _))⟩
                            case measure => simp [intOf]; omega
                          | true =>
                            rw [h10] at d44
                            have HD10 := Lib.hid (HG10.out h10)
                            clear HG10 h10
                            refine wp_region_later (by kernel_rfl) (by kernel_rfl) ?_
                            repeat (first | go_big_quiet_step ((go_at_call 29; exact quietE (rdigest_is _ s.body _ (RowAt.ext HRK.out (HXk.out.onto _)) (by first | exact hb8 | exact hb10 | exact hb14) (by first | exact HD8.out | exact HD10.out | exact HD14.out)))) | quiet_step ((go_at_call 29; exact quietE (rdigest_is _ s.body _ (RowAt.ext HRK.out (HXk.out.onto _)) (by first | exact hb8 | exact hb10 | exact hb14) (by first | exact HD8.out | exact HD10.out | exact HD14.out)))))
                            refine wpQuiet_nil ?_
                            rintro _ ⟨xq, rfl⟩
                            go_wp2
                            go_roundw
                            case rel => exact ⟨k + 1, A6, c6, A9, c9, by omega, by go_num, Lib.hid (HXk.out.onto _), Lib.hid (HRsk.out.later _), Lib.hid (by rw [HRR8.out]; exact HE8k.out.ext (ext_later _ _)), Lib.hid (by rw [HRR10.out]; exact HE10k.out.ext (ext_later _ _))⟩
                            case measure => simp [intOf]; omega
        ·
          as_aux_lemma =>
            have hke : k = l.length := by omega
            subst hke
            obtain ⟨va, ua⟩ := run_val s l HV.out
            obtain ⟨vb, ub⟩ := run_val s l.reverse HV.out
            rw [List.take_of_length_le (Nat.le_refl _)] at HE8
            rw [List.take_of_length_le (by simp)] at HE10
            have HRW : Hid (Wire.digest 34 [bts wh] = s.body → (wh.size : Int) = s.size → (∀ p ∈ l, PartOf wh p) → SetIn (hadN l) s.size ∧ fullB (hadN l) s.size = (runN s l).e.whole ∧ ((runN s l).e.whole = true → (runN s l).e.bytes = wh)) := Lib.hid (fun hd hw hp => run_whole HV.out hd hw l hp)
            generalize runN s l = ra at *
            generalize runN s l.reverse = rb at *
            obtain ⟨ea, hea⟩ : ∃ x : En, { ra.e with hv := .slice A8 ra.l.length c8 } = x := ⟨_, rfl⟩
            obtain ⟨eb, heb⟩ : ∃ x : En, { rb.e with hv := .slice A10 rb.l.length c10 } = x := ⟨_, rfl⟩
            have HVa : Hid (VIn ea A8 c8 ra.l wr) := Lib.hid (by rw [← hea]; exact ⟨rfl, val_of va rfl rfl rfl, by show ra.e.st.body.length = 16; rw [ua]; exact HS.out.hb, by show Byt ra.e.st.body; rw [ua]; exact HS.out.hby, by show ra.e.st.seal_.length = 16; rw [ua]; exact HSl.out, HE8.out.2.1, HE8.out.2.2.1, HE8.out.2.2.2.1⟩)
            have HVb : Hid (VIn eb A10 c10 rb.l wr) := Lib.hid (by rw [← heb]; exact ⟨rfl, val_of vb rfl rfl rfl, by show rb.e.st.body.length = 16; rw [ub]; exact HS.out.hb, by show Byt rb.e.st.body; rw [ub]; exact HS.out.hby, by show rb.e.st.seal_.length = 16; rw [ub]; exact HSl.out, HE10.out.2.1, HE10.out.2.2.1, HE10.out.2.2.2.1⟩)
            have hst : ea.st = eb.st := by rw [← hea, ← heb]; show ra.e.st = rb.e.st; rw [ua, ub]
            obtain ⟨hm1, hm2⟩ := merge_own ra.l rb.l hst
            have hmv := merge_val HVa.out.val HVb.out.val hm1
            have hms := merge_st1 ra.l rb.l hst
            have hsa : ea.st = s := by rw [← hea]; exact ua
            rw [hsa] at hms
            have HR8 : Hid (RowAt wr B8 (entC ea)) := Lib.hid (by rw [← hea]; exact HE8.out.1)
            have HR10 : Hid (RowAt wr B10 (entC eb)) := Lib.hid (by rw [← heb]; exact HE10.out.1)
            have rowa : rowOf wr B8 0 45 = some (entC ea) := HR8.out.all (ent_size _).symm (by omega)
            have rowb : rowOf wr B10 0 45 = some (entC eb) := HR10.out.all (ent_size _).symm (by omega)
            have HMr := Lib.hid (emerge_any ea eb A8 A10 c8 c10 ra.l rb.l wr HVa.out HVb.out (RowAt.ext HK.out HXr.out))
            have hwa : ra.e.whole = ea.whole := by rw [← hea]
            have hba : ra.e.bytes = ea.bytes := by rw [← hea]
            rw [hwa, hba] at HRW
            generalize mergeN ea eb ra.l rb.l = M at *
            have HM2 := Lib.hid hm2
            have HM1 := Lib.hid hm1
            have hb14 : M.e.bytes.size ≤ 140737488351200 := by have h1 := hmv.bs; have h2 := hmv.sz; omega
            have HMd : Hid (M.e.whole = true → Wire.digest 34 [bts M.e.bytes] = s.body) := Lib.hid (fun h => by rw [hmv.dg h, hms])
            have hneq := neq_dg s HS.out.hb HS.out.hby
            clear hea heb va vb ua ub hst hm1 hm2 hmv hms hsa hwa hba HE8 HE10 HVa HVb
            go_wp2_with (first
              | (go_at_call 26; refine (show Hid _ from ?_).out)
              | (go_at_call 25; refine (show Hid _ from ?_).out)
              | (go_at_call 27; refine (show Hid _ from ?_).out)
              | (go_at_call 30; refine (show Hid _ from ?_).out))
            refine Lib.hid ?_
            refine HMr.out.mono ?_
            rintro e' w5 ⟨Am, cm, rfl, _, _, _, hx5⟩
            rw [HM1.out]
            have HX5 := Lib.hid (HXr.out.trans hx5)
            have HRs5 := Lib.hid (HRs.out.ext hx5)
            have HR85 := Lib.hid (HR8.out.ext hx5)
            have HR105 := Lib.hid (HR10.out.ext hx5)
            have hl8 := HR85.out.lt
            have hl10 := HR105.out.lt
            have hls := HRs5.out.lt
            have hxw := HX5.out.size
            have hfM : fitsRow 45 (entC { M.e with hv := .slice Am M.l.length cm }) = true := ent_fits_of rfl
            clear hx5 HMr rowa rowb HR8 HR10 HRs HXr hwl0 hw8 hw10 hxr hlt
            go_upto_region 17 with (fail)
            refine wp_world (fun W => Ext w W ∧ RowAt W w.heap.size (stmC s) ∧ RowAt W B8 (entC ea) ∧ RowAt W B10 (entC eb) ∧ RowAt W w5.heap.size (entC { M.e with hv := .slice Am M.l.length cm })) ⟨(HX5.out.alloc _).setCells (by omega) _ _, (HRs5.out.alloc _).others (by omega) _ _, (HR85.out.alloc _).others (by omega) _ _, (HR105.out.alloc _).others (by omega) _ _, (RowAt.newAt (cs := entC noEn) (t := 58) rfl).store (by rw [ent_size, ent_size])⟩ ?_
            rintro W8 ⟨x8, rs8, e88, e108, m8⟩
            have HXk := Lib.hid x8
            have HRsk := Lib.hid rs8
            have HE8k := Lib.hid e88
            have b44 : W8.cell? ⟨B8, 44, none⟩ = some (.bool ea.whole) := (e88.cell 44).trans (ent_g44 _)
            have d44 : W8.cell? ⟨B10, 44, none⟩ = some (.bool eb.whole) := (e108.cell 44).trans (ent_g44 _)
            have m44 : W8.cell? ⟨w5.heap.size, 44, none⟩ = some (.bool M.e.whole) := (m8.cell 44).trans (ent_g44 _)
            have m43 : W8.cell? ⟨w5.heap.size, 43, none⟩ = some (.string M.e.bytes) := (m8.cell 43).trans (ent_g43 _)
            have hbd : rowOf W8 w.heap.size 4 16 = some (dgC s.body) := by rw [rs8.row, if_neg (by omega), stm_body]
            have hws8 := rs8.lt
            have hw88 := e88.lt
            have hw108 := e108.lt
            have hwm8 := m8.lt
            clear x8 rs8 e88 e108 m8 HX5 HRs5 HR85 HR105 hfM
            as_aux_lemma =>
              cases hM : M.e.whole with
              | false =>
                have hwe : ea.whole = false := by
                  cases h : ea.whole with
                  | false => rfl
                  | true => have h2 := HM2.out (.inl h); rw [hM] at h2; cases h2
                have hwf : eb.whole = false := by
                  cases h : eb.whole with
                  | false => rfl
                  | true => have h2 := HM2.out (.inr h); rw [hM] at h2; cases h2
                rw [hwe] at b44
                rw [hwf] at d44
                rw [hM] at m44
                have HWE := Lib.hid hwe
                clear hwe hwf hM HM2 HMd
                as_aux_lemma =>
                  refine wp_region_later (by kernel_rfl) (by kernel_rfl) ?_
                  repeat (first | go_big_quiet_step (fail) | quiet_step (fail))
                  refine wpQuiet_nil ?_
                  rintro _ ⟨xq, rfl⟩
                  go_upto_region 19 with (fail)
                  refine wp_world (fun W => Ext w W ∧ RowAt W w.heap.size (stmC s) ∧ RowAt W B8 (entC ea)) ⟨HXk.out.onto _, HRsk.out.later _, HE8k.out.later _⟩ ?_
                  rintro W9 ⟨x9, rs9, e89⟩
                  have HX9 := Lib.hid x9
                  have HRs9 := Lib.hid rs9
                  have HE9 := Lib.hid e89
                  have hbd9 : rowOf W9 w.heap.size 4 16 = some (dgC s.body) := by rw [rs9.row, if_neg (by omega), stm_body]
                  have c39 : W9.cell? ⟨w.heap.size, 3, none⟩ = some (.int .i64 s.size) := (rs9.cell 3).trans (stm_g3 s)
                  have hl9 := rs9.lt
                  have hl98 := e89.lt
                  clear x9 rs9 e89 b44 d44 m44 m43 hbd hws8 hw88 hw108 hwm8 HXk HRsk HE8k
                  by_cases hdw : Wire.digest 34 [bts wh] = s.body
                  · have HDW := Lib.hid hdw
                    by_cases hsw : (wh.size : Int) = s.size
                    · have HSW := Lib.hid hsw
                      have dsz : ((wh.size : Int) != s.size) = false := by simpa using hsw
                      clear hdw hsw
                      as_aux_lemma =>
                        refine wp_region_later (by kernel_rfl) (by kernel_rfl) ?_
                        repeat (first | go_big_quiet_step ((go_at_call 29; exact quietE (rdigest_is wh s.body _ (RowAt.ext HRK.out (HX9.out.onto _)) (by omega) HDW.out))) | quiet_step ((go_at_call 29; exact quietE (rdigest_is wh s.body _ (RowAt.ext HRK.out (HX9.out.onto _)) (by omega) HDW.out))))
                        refine wpQuiet_nil ?_
                        rintro _ ⟨xq, rfl⟩
                        go_wp2
                        go_loopw [17, 16, 18] (W2Rel w B8 s ea wh l) (fun i _ _ _ => l.length - (intOf i).toNat)
                        case atStart => exact ⟨0, none, 0, Nat.zero_le _, rfl, rfl, Lib.hid (HX9.out.onto _), Lib.hid (HRs9.out.later _), Lib.hid (HE9.out.later _), fun _ => rfl, Lib.hid (Reads.nil _ _ _ _ _), Lib.hid (fun p hp => by simp at hp)⟩
                        case round =>
                          obtain ⟨k, A', c', hk, rfl, rfl, HXr, HRr, HEr, hz', HQ, HPt⟩ := hrel
                          clear HX9 HRs9 HE9
                          have hxr := HXr.out
                          have hxs := hxr.size
                          have hlr := HRr.out.lt
                          have hle := HEr.out.lt
                          have hl2 := had_len HV.out HDW.out HSW.out HPt.out
                          by_cases hlt : k < l.length
                          · obtain ⟨b, off, hA, hbl, y1, y2⟩ := ReadsPc.cell HR.out k hlt
                            subst hA
                            have HHs := Lib.hid (hadN_snoc l k hlt)
                            have hp1 := HP.out _ (List.getElem_mem hlt)
                            have hp2 := HP2.out _ (List.getElem_mem hlt)
                            have HPS := Lib.hid (fun h => part_snoc hlt HPt.out h)
                            generalize l[k] = p at *
                            generalize hadN (l.take k) = H at *
                            have z1 := (hxr.cell (p := ⟨b, off + k * 2, none⟩) hbl).trans y1
                            have z2 := (hxr.cell (p := ⟨b, off + k * 2 + 1, none⟩) hbl).trans y2
                            obtain ⟨p1, p2⟩ := p
                            obtain ⟨hq1, hq2, hq3⟩ := hp1
                            simp only [] at z1 z2 hq1 hq2 hq3 hp2 HHs HPS
                            clear y1 y2 hxr
                            by_cases f0 : p1 < 0
                            · have d0 : decide (p1 < 0) = true := by simpa using f0
                              as_aux_lemma =>
                                go_wp2
                                refine wp_region_later (by kernel_rfl) (by kernel_rfl) ?_
                                repeat (first | go_big_quiet_step (fail) | quiet_step (fail))
                                refine wpQuiet_nil ?_
                                rintro _ ⟨xq, rfl⟩
                                go_wp2_with (first
                                  | (go_at_call 26; refine (show Hid _ from ?_).out)
                                  | (go_at_call 25; refine (show Hid _ from ?_).out)
                                  | (go_at_call 27; refine (show Hid _ from ?_).out)
                                  | (go_at_call 30; refine (show Hid _ from ?_).out))
                                refine Lib.hid ?_
                                refine (HSan.out _ (HXr.out.onto _)).mono ?_
                                rintro e' w' ⟨rfl, hxl⟩; obtain ⟨xz, rfl⟩ := hxl.asLater; clear hxl
                                go_wp2
                                go_ret
                                exact ⟨rfl, (HXr.out.onto _).onto _⟩
                            have d0 : decide (p1 < 0) = false := by simpa using f0
                            obtain ⟨f, rfl⟩ : ∃ f : Nat, p1 = f := ⟨p1.toNat, by omega⟩
                            by_cases f1 : wh.size < f
                            · have d1 : decide ((wh.size : Int) < (f : Int)) = true := by simp; omega
                              as_aux_lemma =>
                                go_wp2
                                refine wp_region_later (by kernel_rfl) (by kernel_rfl) ?_
                                repeat (first | go_big_quiet_step (fail) | quiet_step (fail))
                                refine wpQuiet_nil ?_
                                rintro _ ⟨xq, rfl⟩
                                go_wp2_with (first
                                  | (go_at_call 26; refine (show Hid _ from ?_).out)
                                  | (go_at_call 25; refine (show Hid _ from ?_).out)
                                  | (go_at_call 27; refine (show Hid _ from ?_).out)
                                  | (go_at_call 30; refine (show Hid _ from ?_).out))
                                refine Lib.hid ?_
                                refine (HSan.out _ (HXr.out.onto _)).mono ?_
                                rintro e' w' ⟨rfl, hxl⟩; obtain ⟨xz, rfl⟩ := hxl.asLater; clear hxl
                                go_wp2
                                go_ret
                                exact ⟨rfl, (HXr.out.onto _).onto _⟩
                            have d1 : decide ((wh.size : Int) < (f : Int)) = false := by simp; omega
                            by_cases f2 : wh.size < f + p2.size
                            · have d2 : decide ((wh.size : Int) < (f : Int) + (p2.size : Int)) = true := by simp; omega
                              as_aux_lemma =>
                                go_wp2
                                refine wp_region_later (by kernel_rfl) (by kernel_rfl) ?_
                                repeat (first | go_big_quiet_step (fail) | quiet_step (fail))
                                refine wpQuiet_nil ?_
                                rintro _ ⟨xq, rfl⟩
                                go_wp2_with (first
                                  | (go_at_call 26; refine (show Hid _ from ?_).out)
                                  | (go_at_call 25; refine (show Hid _ from ?_).out)
                                  | (go_at_call 27; refine (show Hid _ from ?_).out)
                                  | (go_at_call 30; refine (show Hid _ from ?_).out))
                                refine Lib.hid ?_
                                refine (HSan.out _ (HXr.out.onto _)).mono ?_
                                rintro e' w' ⟨rfl, hxl⟩; obtain ⟨xz, rfl⟩ := hxl.asLater; clear hxl
                                go_wp2
                                go_ret
                                exact ⟨rfl, (HXr.out.onto _).onto _⟩
                            have d2 : decide ((wh.size : Int) < (f : Int) + (p2.size : Int)) = false := by simp; omega
                            have hfw : f + p2.size ≤ wh.size := by omega
                            by_cases f3 : wh.extract f (f + p2.size) = p2
                            · have d3 : ((wh.extract f (f + p2.size)).toList == p2.toList) = true := by rw [f3]; simp
                              have HPn := Lib.hid (HPS.out ⟨by show (0 : Int) ≤ (f : Int); omega, by show (f : Int) + (p2.size : Int) ≤ _; omega, by show wh.extract ((f : Int)).toNat (((f : Int)).toNat + p2.size) = p2; rw [Int.toNat_natCast]; exact f3⟩)
                              clear f3 HPS
                              as_aux_lemma =>
                                go_wp2
                                refine wp_region_later (by kernel_rfl) (by kernel_rfl) ?_
                                repeat (first | go_big_quiet_step (fail) | quiet_step (fail))
                                refine wpQuiet_nil ?_
                                rintro _ ⟨xq, rfl⟩
                                go_wp2_with (go_at_call 31; refine (radd_any A' c' H ((f : Int), (f : Int) + (p2.size : Int)) _ (by omega) (HQ.out.on (ext_later _ _)) hz').mono ?_; rintro e w4 ⟨A4, c4, out, rfl, HL4, ho4, hx4⟩; have HO4 := Lib.hid ho4; have HX4 := Lib.hid hx4; clear ho4 hx4)
                                go_roundw
                                case rel => exact ⟨k + 1, A4, c4, by omega, by go_num, by rw [HHs.out, ← HL4.out], Lib.hid ((HXr.out.onto _).trans HX4.out), Lib.hid ((HRr.out.later _).ext HX4.out), Lib.hid ((HEr.out.later _).ext HX4.out), HO4.out.none0, Lib.hid (by rw [HHs.out, ← HL4.out]; exact HO4.out.reads spE), HPn⟩
                                case measure => simp [intOf]; omega
                            · have d3 : ((wh.extract f (f + p2.size)).toList == p2.toList) = false := by
                                rw [str_beq, decide_eq_false_iff_not]; exact f3
                              clear f3
                              as_aux_lemma =>
                                go_wp2
                                refine wp_region_later (by kernel_rfl) (by kernel_rfl) ?_
                                repeat (first | go_big_quiet_step (fail) | quiet_step (fail))
                                refine wpQuiet_nil ?_
                                rintro _ ⟨xq, rfl⟩
                                go_wp2_with (first
                                  | (go_at_call 26; refine (show Hid _ from ?_).out)
                                  | (go_at_call 25; refine (show Hid _ from ?_).out)
                                  | (go_at_call 27; refine (show Hid _ from ?_).out)
                                  | (go_at_call 30; refine (show Hid _ from ?_).out))
                                refine Lib.hid ?_
                                refine (HSan.out _ (HXr.out.onto _)).mono ?_
                                rintro e' w' ⟨rfl, hxl⟩; obtain ⟨xz, rfl⟩ := hxl.asLater; clear hxl
                                go_wp2
                                go_ret
                                exact ⟨rfl, (HXr.out.onto _).onto _⟩
                          · have hke : k = l.length := by omega
                            subst hke
                            rw [List.take_of_length_le (Nat.le_refl _)] at HQ HPt hl2 ⊢
                            obtain ⟨hsi, hfu, hby⟩ := HRW.out HDW.out HSW.out HPt.out
                            have hcov : rCoversB (hadN l) (0, s.size) = false := ((covers_full (rCovers_spec _ _)).trans hfu).trans HWE.out
                            have hsz2 : 0 ≤ s.size := by have := HSW.out; omega
                            have hsz3 : s.size ≤ 2000 := by omega
                            have HCv := Lib.hid (fun (W : World) (hx : Ext wr W) => rcovers_any A' c' (hadN l) (0, s.size) W (fun _ => ⟨Int.le_refl _, by show s.size ≤ _; omega⟩) (by omega) (HQ.out.on hx))
                            rw [hcov] at HCv
                            have c3r : wr.cell? ⟨w.heap.size, 3, none⟩ = some (.int .i64 s.size) := (HRr.out.cell 3).trans (stm_g3 s)
                            have b44r : wr.cell? ⟨B8, 44, none⟩ = some (.bool false) := (HEr.out.cell 44).trans (by rw [ent_g44, HWE.out])
                            have b43r : wr.cell? ⟨B8, 43, none⟩ = some (.string ea.bytes) := (HEr.out.cell 43).trans (ent_g43 ea)
                            have heq : (false = true) → (ea.bytes.toList == wh.toList) = true := fun h => by
                              have e9 := hby (HWE.out.trans h)
                              rw [e9]
                              try exact beq_self_eq_true _
                            first | have heq2 := heq rfl | skip
                            clear hsi hfu hby hcov heq HQ HPt hxr
                            as_aux_lemma =>
                              go_wp2_with (first
                                | (go_at_call 32; refine (HCv.out _ (by (repeat (first | with_reducible exact Ext.refl _ | with_reducible exact Ext.refl _ | with_reducible refine Ext.drew ?_ | with_reducible refine Ext.drewN ?_ _ | with_reducible refine Ext.alloc ?_ _ | with_reducible refine Ext.onto ?_ _ | (with_reducible refine Ext.setCells ?_ ?_ _ _; rotate_left; focus (first | omega | (simp; done) | (simp; omega))) | (with_reducible refine Ext.setCell ?_ ?_ _; rotate_left; focus (first | omega | (simp; done) | (simp; omega))))))).mono ?_; rintro e w' ⟨rfl, hxl⟩; obtain ⟨xl, rfl⟩ := hxl.asLater; clear hxl)
                                | (go_at_call 26; refine (show Hid _ from ?_).out))
                              refine Lib.hid ?_
                              refine (HSan.out _ (HXr.out.onto _)).mono ?_
                              rintro e' w' ⟨rfl, hxl⟩; obtain ⟨xz, rfl⟩ := hxl.asLater; clear hxl
                              go_wp2
                              go_ret
                              exact ⟨rfl, (HXr.out.onto _).onto _⟩
                    · have dsz : ((wh.size : Int) != s.size) = true := by simpa using hsw
                      clear hdw hsw
                      as_aux_lemma =>
                        refine wp_region_later (by kernel_rfl) (by kernel_rfl) ?_
                        repeat (first | go_big_quiet_step ((go_at_call 29; exact quietE (rdigest_is wh s.body _ (RowAt.ext HRK.out (HX9.out.onto _)) (by omega) HDW.out))) | quiet_step ((go_at_call 29; exact quietE (rdigest_is wh s.body _ (RowAt.ext HRK.out (HX9.out.onto _)) (by omega) HDW.out))))
                        refine wpQuiet_nil ?_
                        rintro _ ⟨xq, rfl⟩
                        go_wp2_with (first
                          | (go_at_call 26; refine (show Hid _ from ?_).out)
                          | (go_at_call 25; refine (show Hid _ from ?_).out)
                          | (go_at_call 27; refine (show Hid _ from ?_).out)
                          | (go_at_call 30; refine (show Hid _ from ?_).out))
                        refine Lib.hid ?_
                        refine (HSan.out _ (HX9.out.onto _)).mono ?_
                        rintro e' w' ⟨rfl, hxl⟩; obtain ⟨xz, rfl⟩ := hxl.asLater; clear hxl
                        go_wp2
                        go_ret
                        exact ⟨rfl, (HX9.out.onto _).onto _⟩
                  · obtain ⟨Dw, hDw⟩ : ∃ D, Wire.digest 34 [bts wh] = D := ⟨_, rfl⟩
                    have hq2 : ∀ W, (binOp .neq 24 (.agg (cells8 Dw)) (.agg (dgC s.body))).run Tryz.prog W = .ok (.bool true) W := fun W => by
                      rw [neq_dig (by rw [← hDw]; exact digest_length _ _) HS.out.hb (by rw [← hDw]; exact digest_byt _ _) HS.out.hby W]
                      rw [hDw] at hdw
                      simp [hdw]
                    have HDW := Lib.hid hDw
                    clear hdw hDw hneq
                    as_aux_lemma =>
                      refine wp_region_later (by kernel_rfl) (by kernel_rfl) ?_
                      repeat (first | go_big_quiet_step ((go_at_call 29; exact quietE (rdigest_is wh Dw _ (RowAt.ext HRK.out (HX9.out.onto _)) (by omega) HDW.out))) | quiet_step ((go_at_call 29; exact quietE (rdigest_is wh Dw _ (RowAt.ext HRK.out (HX9.out.onto _)) (by omega) HDW.out))))
                      refine wpQuiet_nil ?_
                      rintro _ ⟨xq, rfl⟩
                      go_wp2_with (first
                        | (go_at_call 26; refine (show Hid _ from ?_).out)
                        | (go_at_call 25; refine (show Hid _ from ?_).out)
                        | (go_at_call 27; refine (show Hid _ from ?_).out)
                        | (go_at_call 30; refine (show Hid _ from ?_).out))
                      refine Lib.hid ?_
                      refine (HSan.out _ (HX9.out.onto _)).mono ?_
                      rintro e' w' ⟨rfl, hxl⟩; obtain ⟨xz, rfl⟩ := hxl.asLater; clear hxl
                      go_wp2
                      go_ret
                      exact ⟨rfl, (HX9.out.onto _).onto _⟩
              | true =>
                rw [hM] at m44
                have HD14 := Lib.hid (HMd.out hM)
                clear hM HM2 HMd
                cases hwe : ea.whole with
                | true =>
                  rw [hwe] at b44
                  have HWE := Lib.hid hwe
                  clear hwe
                  as_aux_lemma =>
                    refine wp_region_later (by kernel_rfl) (by kernel_rfl) ?_
                    repeat (first | go_big_quiet_step ((go_at_call 29; exact quietE (rdigest_is _ s.body _ (RowAt.ext HRK.out (HXk.out.onto _)) (by first | exact hb8 | exact hb10 | exact hb14) (by first | exact HD8.out | exact HD10.out | exact HD14.out)))) | quiet_step ((go_at_call 29; exact quietE (rdigest_is _ s.body _ (RowAt.ext HRK.out (HXk.out.onto _)) (by first | exact hb8 | exact hb10 | exact hb14) (by first | exact HD8.out | exact HD10.out | exact HD14.out)))))
                    refine wpQuiet_nil ?_
                    rintro _ ⟨xq, rfl⟩
                    go_upto_region 19 with (fail)
                    refine wp_world (fun W => Ext w W ∧ RowAt W w.heap.size (stmC s) ∧ RowAt W B8 (entC ea)) ⟨HXk.out.onto _, HRsk.out.later _, HE8k.out.later _⟩ ?_
                    rintro W9 ⟨x9, rs9, e89⟩
                    have HX9 := Lib.hid x9
                    have HRs9 := Lib.hid rs9
                    have HE9 := Lib.hid e89
                    have hbd9 : rowOf W9 w.heap.size 4 16 = some (dgC s.body) := by rw [rs9.row, if_neg (by omega), stm_body]
                    have c39 : W9.cell? ⟨w.heap.size, 3, none⟩ = some (.int .i64 s.size) := (rs9.cell 3).trans (stm_g3 s)
                    have hl9 := rs9.lt
                    have hl98 := e89.lt
                    clear x9 rs9 e89 b44 d44 m44 m43 hbd hws8 hw88 hw108 hwm8 HXk HRsk HE8k
                    by_cases hdw : Wire.digest 34 [bts wh] = s.body
                    · have HDW := Lib.hid hdw
                      by_cases hsw : (wh.size : Int) = s.size
                      · have HSW := Lib.hid hsw
                        have dsz : ((wh.size : Int) != s.size) = false := by simpa using hsw
                        clear hdw hsw
                        as_aux_lemma =>
                          refine wp_region_later (by kernel_rfl) (by kernel_rfl) ?_
                          repeat (first | go_big_quiet_step ((go_at_call 29; exact quietE (rdigest_is wh s.body _ (RowAt.ext HRK.out (HX9.out.onto _)) (by omega) HDW.out))) | quiet_step ((go_at_call 29; exact quietE (rdigest_is wh s.body _ (RowAt.ext HRK.out (HX9.out.onto _)) (by omega) HDW.out))))
                          refine wpQuiet_nil ?_
                          rintro _ ⟨xq, rfl⟩
                          go_wp2
                          go_loopw [17, 16, 18] (W2Rel w B8 s ea wh l) (fun i _ _ _ => l.length - (intOf i).toNat)
                          case atStart => exact ⟨0, none, 0, Nat.zero_le _, rfl, rfl, Lib.hid (HX9.out.onto _), Lib.hid (HRs9.out.later _), Lib.hid (HE9.out.later _), fun _ => rfl, Lib.hid (Reads.nil _ _ _ _ _), Lib.hid (fun p hp => by simp at hp)⟩
                          case round =>
                            obtain ⟨k, A', c', hk, rfl, rfl, HXr, HRr, HEr, hz', HQ, HPt⟩ := hrel
                            clear HX9 HRs9 HE9
                            have hxr := HXr.out
                            have hxs := hxr.size
                            have hlr := HRr.out.lt
                            have hle := HEr.out.lt
                            have hl2 := had_len HV.out HDW.out HSW.out HPt.out
                            by_cases hlt : k < l.length
                            · obtain ⟨b, off, hA, hbl, y1, y2⟩ := ReadsPc.cell HR.out k hlt
                              subst hA
                              have HHs := Lib.hid (hadN_snoc l k hlt)
                              have hp1 := HP.out _ (List.getElem_mem hlt)
                              have hp2 := HP2.out _ (List.getElem_mem hlt)
                              have HPS := Lib.hid (fun h => part_snoc hlt HPt.out h)
                              generalize l[k] = p at *
                              generalize hadN (l.take k) = H at *
                              have z1 := (hxr.cell (p := ⟨b, off + k * 2, none⟩) hbl).trans y1
                              have z2 := (hxr.cell (p := ⟨b, off + k * 2 + 1, none⟩) hbl).trans y2
                              obtain ⟨p1, p2⟩ := p
                              obtain ⟨hq1, hq2, hq3⟩ := hp1
                              simp only [] at z1 z2 hq1 hq2 hq3 hp2 HHs HPS
                              clear y1 y2 hxr
                              by_cases f0 : p1 < 0
                              · have d0 : decide (p1 < 0) = true := by simpa using f0
                                as_aux_lemma =>
                                  go_wp2
                                  refine wp_region_later (by kernel_rfl) (by kernel_rfl) ?_
                                  repeat (first | go_big_quiet_step (fail) | quiet_step (fail))
                                  refine wpQuiet_nil ?_
                                  rintro _ ⟨xq, rfl⟩
                                  go_wp2_with (first
                                    | (go_at_call 26; refine (show Hid _ from ?_).out)
                                    | (go_at_call 25; refine (show Hid _ from ?_).out)
                                    | (go_at_call 27; refine (show Hid _ from ?_).out)
                                    | (go_at_call 30; refine (show Hid _ from ?_).out))
                                  refine Lib.hid ?_
                                  refine (HSan.out _ (HXr.out.onto _)).mono ?_
                                  rintro e' w' ⟨rfl, hxl⟩; obtain ⟨xz, rfl⟩ := hxl.asLater; clear hxl
                                  go_wp2
                                  go_ret
                                  exact ⟨rfl, (HXr.out.onto _).onto _⟩
                              have d0 : decide (p1 < 0) = false := by simpa using f0
                              obtain ⟨f, rfl⟩ : ∃ f : Nat, p1 = f := ⟨p1.toNat, by omega⟩
                              by_cases f1 : wh.size < f
                              · have d1 : decide ((wh.size : Int) < (f : Int)) = true := by simp; omega
                                as_aux_lemma =>
                                  go_wp2
                                  refine wp_region_later (by kernel_rfl) (by kernel_rfl) ?_
                                  repeat (first | go_big_quiet_step (fail) | quiet_step (fail))
                                  refine wpQuiet_nil ?_
                                  rintro _ ⟨xq, rfl⟩
                                  go_wp2_with (first
                                    | (go_at_call 26; refine (show Hid _ from ?_).out)
                                    | (go_at_call 25; refine (show Hid _ from ?_).out)
                                    | (go_at_call 27; refine (show Hid _ from ?_).out)
                                    | (go_at_call 30; refine (show Hid _ from ?_).out))
                                  refine Lib.hid ?_
                                  refine (HSan.out _ (HXr.out.onto _)).mono ?_
                                  rintro e' w' ⟨rfl, hxl⟩; obtain ⟨xz, rfl⟩ := hxl.asLater; clear hxl
                                  go_wp2
                                  go_ret
                                  exact ⟨rfl, (HXr.out.onto _).onto _⟩
                              have d1 : decide ((wh.size : Int) < (f : Int)) = false := by simp; omega
                              by_cases f2 : wh.size < f + p2.size
                              · have d2 : decide ((wh.size : Int) < (f : Int) + (p2.size : Int)) = true := by simp; omega
                                as_aux_lemma =>
                                  go_wp2
                                  refine wp_region_later (by kernel_rfl) (by kernel_rfl) ?_
                                  repeat (first | go_big_quiet_step (fail) | quiet_step (fail))
                                  refine wpQuiet_nil ?_
                                  rintro _ ⟨xq, rfl⟩
                                  go_wp2_with (first
                                    | (go_at_call 26; refine (show Hid _ from ?_).out)
                                    | (go_at_call 25; refine (show Hid _ from ?_).out)
                                    | (go_at_call 27; refine (show Hid _ from ?_).out)
                                    | (go_at_call 30; refine (show Hid _ from ?_).out))
                                  refine Lib.hid ?_
                                  refine (HSan.out _ (HXr.out.onto _)).mono ?_
                                  rintro e' w' ⟨rfl, hxl⟩; obtain ⟨xz, rfl⟩ := hxl.asLater; clear hxl
                                  go_wp2
                                  go_ret
                                  exact ⟨rfl, (HXr.out.onto _).onto _⟩
                              have d2 : decide ((wh.size : Int) < (f : Int) + (p2.size : Int)) = false := by simp; omega
                              have hfw : f + p2.size ≤ wh.size := by omega
                              by_cases f3 : wh.extract f (f + p2.size) = p2
                              · have d3 : ((wh.extract f (f + p2.size)).toList == p2.toList) = true := by rw [f3]; simp
                                have HPn := Lib.hid (HPS.out ⟨by show (0 : Int) ≤ (f : Int); omega, by show (f : Int) + (p2.size : Int) ≤ _; omega, by show wh.extract ((f : Int)).toNat (((f : Int)).toNat + p2.size) = p2; rw [Int.toNat_natCast]; exact f3⟩)
                                clear f3 HPS
                                as_aux_lemma =>
                                  go_wp2
                                  refine wp_region_later (by kernel_rfl) (by kernel_rfl) ?_
                                  repeat (first | go_big_quiet_step (fail) | quiet_step (fail))
                                  refine wpQuiet_nil ?_
                                  rintro _ ⟨xq, rfl⟩
                                  go_wp2_with (go_at_call 31; refine (radd_any A' c' H ((f : Int), (f : Int) + (p2.size : Int)) _ (by omega) (HQ.out.on (ext_later _ _)) hz').mono ?_; rintro e w4 ⟨A4, c4, out, rfl, HL4, ho4, hx4⟩; have HO4 := Lib.hid ho4; have HX4 := Lib.hid hx4; clear ho4 hx4)
                                  go_roundw
                                  case rel => exact ⟨k + 1, A4, c4, by omega, by go_num, by rw [HHs.out, ← HL4.out], Lib.hid ((HXr.out.onto _).trans HX4.out), Lib.hid ((HRr.out.later _).ext HX4.out), Lib.hid ((HEr.out.later _).ext HX4.out), HO4.out.none0, Lib.hid (by rw [HHs.out, ← HL4.out]; exact HO4.out.reads spE), HPn⟩
                                  case measure => simp [intOf]; omega
                              · have d3 : ((wh.extract f (f + p2.size)).toList == p2.toList) = false := by
                                  rw [str_beq, decide_eq_false_iff_not]; exact f3
                                clear f3
                                as_aux_lemma =>
                                  go_wp2
                                  refine wp_region_later (by kernel_rfl) (by kernel_rfl) ?_
                                  repeat (first | go_big_quiet_step (fail) | quiet_step (fail))
                                  refine wpQuiet_nil ?_
                                  rintro _ ⟨xq, rfl⟩
                                  go_wp2_with (first
                                    | (go_at_call 26; refine (show Hid _ from ?_).out)
                                    | (go_at_call 25; refine (show Hid _ from ?_).out)
                                    | (go_at_call 27; refine (show Hid _ from ?_).out)
                                    | (go_at_call 30; refine (show Hid _ from ?_).out))
                                  refine Lib.hid ?_
                                  refine (HSan.out _ (HXr.out.onto _)).mono ?_
                                  rintro e' w' ⟨rfl, hxl⟩; obtain ⟨xz, rfl⟩ := hxl.asLater; clear hxl
                                  go_wp2
                                  go_ret
                                  exact ⟨rfl, (HXr.out.onto _).onto _⟩
                            · have hke : k = l.length := by omega
                              subst hke
                              rw [List.take_of_length_le (Nat.le_refl _)] at HQ HPt hl2 ⊢
                              obtain ⟨hsi, hfu, hby⟩ := HRW.out HDW.out HSW.out HPt.out
                              have hcov : rCoversB (hadN l) (0, s.size) = true := ((covers_full (rCovers_spec _ _)).trans hfu).trans HWE.out
                              have hsz2 : 0 ≤ s.size := by have := HSW.out; omega
                              have hsz3 : s.size ≤ 2000 := by omega
                              have HCv := Lib.hid (fun (W : World) (hx : Ext wr W) => rcovers_any A' c' (hadN l) (0, s.size) W (fun _ => ⟨Int.le_refl _, by show s.size ≤ _; omega⟩) (by omega) (HQ.out.on hx))
                              rw [hcov] at HCv
                              have c3r : wr.cell? ⟨w.heap.size, 3, none⟩ = some (.int .i64 s.size) := (HRr.out.cell 3).trans (stm_g3 s)
                              have b44r : wr.cell? ⟨B8, 44, none⟩ = some (.bool true) := (HEr.out.cell 44).trans (by rw [ent_g44, HWE.out])
                              have b43r : wr.cell? ⟨B8, 43, none⟩ = some (.string ea.bytes) := (HEr.out.cell 43).trans (ent_g43 ea)
                              have heq : (true = true) → (ea.bytes.toList == wh.toList) = true := fun h => by
                                have e9 := hby (HWE.out.trans h)
                                rw [e9]
                                try exact beq_self_eq_true _
                              first | have heq2 := heq rfl | skip
                              clear hsi hfu hby hcov heq HQ HPt hxr
                              as_aux_lemma =>
                                go_wp2_with (first
                                  | (go_at_call 32; refine (HCv.out _ (by (repeat (first | with_reducible exact Ext.refl _ | with_reducible exact Ext.refl _ | with_reducible refine Ext.drew ?_ | with_reducible refine Ext.drewN ?_ _ | with_reducible refine Ext.alloc ?_ _ | with_reducible refine Ext.onto ?_ _ | (with_reducible refine Ext.setCells ?_ ?_ _ _; rotate_left; focus (first | omega | (simp; done) | (simp; omega))) | (with_reducible refine Ext.setCell ?_ ?_ _; rotate_left; focus (first | omega | (simp; done) | (simp; omega))))))).mono ?_; rintro e w' ⟨rfl, hxl⟩; obtain ⟨xl, rfl⟩ := hxl.asLater; clear hxl)
                                  | (go_at_call 26; refine (show Hid _ from ?_).out))
                                refine Lib.hid ?_
                                refine (HSan.out _ (HXr.out.onto _)).mono ?_
                                rintro e' w' ⟨rfl, hxl⟩; obtain ⟨xz, rfl⟩ := hxl.asLater; clear hxl
                                go_wp2
                                go_ret
                                exact ⟨rfl, (HXr.out.onto _).onto _⟩
                      · have dsz : ((wh.size : Int) != s.size) = true := by simpa using hsw
                        clear hdw hsw
                        as_aux_lemma =>
                          refine wp_region_later (by kernel_rfl) (by kernel_rfl) ?_
                          repeat (first | go_big_quiet_step ((go_at_call 29; exact quietE (rdigest_is wh s.body _ (RowAt.ext HRK.out (HX9.out.onto _)) (by omega) HDW.out))) | quiet_step ((go_at_call 29; exact quietE (rdigest_is wh s.body _ (RowAt.ext HRK.out (HX9.out.onto _)) (by omega) HDW.out))))
                          refine wpQuiet_nil ?_
                          rintro _ ⟨xq, rfl⟩
                          go_wp2_with (first
                            | (go_at_call 26; refine (show Hid _ from ?_).out)
                            | (go_at_call 25; refine (show Hid _ from ?_).out)
                            | (go_at_call 27; refine (show Hid _ from ?_).out)
                            | (go_at_call 30; refine (show Hid _ from ?_).out))
                          refine Lib.hid ?_
                          refine (HSan.out _ (HX9.out.onto _)).mono ?_
                          rintro e' w' ⟨rfl, hxl⟩; obtain ⟨xz, rfl⟩ := hxl.asLater; clear hxl
                          go_wp2
                          go_ret
                          exact ⟨rfl, (HX9.out.onto _).onto _⟩
                    · obtain ⟨Dw, hDw⟩ : ∃ D, Wire.digest 34 [bts wh] = D := ⟨_, rfl⟩
                      have hq2 : ∀ W, (binOp .neq 24 (.agg (cells8 Dw)) (.agg (dgC s.body))).run Tryz.prog W = .ok (.bool true) W := fun W => by
                        rw [neq_dig (by rw [← hDw]; exact digest_length _ _) HS.out.hb (by rw [← hDw]; exact digest_byt _ _) HS.out.hby W]
                        rw [hDw] at hdw
                        simp [hdw]
                      have HDW := Lib.hid hDw
                      clear hdw hDw hneq
                      as_aux_lemma =>
                        refine wp_region_later (by kernel_rfl) (by kernel_rfl) ?_
                        repeat (first | go_big_quiet_step ((go_at_call 29; exact quietE (rdigest_is wh Dw _ (RowAt.ext HRK.out (HX9.out.onto _)) (by omega) HDW.out))) | quiet_step ((go_at_call 29; exact quietE (rdigest_is wh Dw _ (RowAt.ext HRK.out (HX9.out.onto _)) (by omega) HDW.out))))
                        refine wpQuiet_nil ?_
                        rintro _ ⟨xq, rfl⟩
                        go_wp2_with (first
                          | (go_at_call 26; refine (show Hid _ from ?_).out)
                          | (go_at_call 25; refine (show Hid _ from ?_).out)
                          | (go_at_call 27; refine (show Hid _ from ?_).out)
                          | (go_at_call 30; refine (show Hid _ from ?_).out))
                        refine Lib.hid ?_
                        refine (HSan.out _ (HX9.out.onto _)).mono ?_
                        rintro e' w' ⟨rfl, hxl⟩; obtain ⟨xz, rfl⟩ := hxl.asLater; clear hxl
                        go_wp2
                        go_ret
                        exact ⟨rfl, (HX9.out.onto _).onto _⟩
                | false =>
                  rw [hwe] at b44
                  have HWE := Lib.hid hwe
                  clear hwe
                  cases hwf : eb.whole with
                  | true =>
                    rw [hwf] at d44
                    clear hwf
                    as_aux_lemma =>
                      refine wp_region_later (by kernel_rfl) (by kernel_rfl) ?_
                      repeat (first | go_big_quiet_step ((go_at_call 29; exact quietE (rdigest_is _ s.body _ (RowAt.ext HRK.out (HXk.out.onto _)) (by first | exact hb8 | exact hb10 | exact hb14) (by first | exact HD8.out | exact HD10.out | exact HD14.out)))) | quiet_step ((go_at_call 29; exact quietE (rdigest_is _ s.body _ (RowAt.ext HRK.out (HXk.out.onto _)) (by first | exact hb8 | exact hb10 | exact hb14) (by first | exact HD8.out | exact HD10.out | exact HD14.out)))))
                      refine wpQuiet_nil ?_
                      rintro _ ⟨xq, rfl⟩
                      go_upto_region 19 with (fail)
                      refine wp_world (fun W => Ext w W ∧ RowAt W w.heap.size (stmC s) ∧ RowAt W B8 (entC ea)) ⟨HXk.out.onto _, HRsk.out.later _, HE8k.out.later _⟩ ?_
                      rintro W9 ⟨x9, rs9, e89⟩
                      have HX9 := Lib.hid x9
                      have HRs9 := Lib.hid rs9
                      have HE9 := Lib.hid e89
                      have hbd9 : rowOf W9 w.heap.size 4 16 = some (dgC s.body) := by rw [rs9.row, if_neg (by omega), stm_body]
                      have c39 : W9.cell? ⟨w.heap.size, 3, none⟩ = some (.int .i64 s.size) := (rs9.cell 3).trans (stm_g3 s)
                      have hl9 := rs9.lt
                      have hl98 := e89.lt
                      clear x9 rs9 e89 b44 d44 m44 m43 hbd hws8 hw88 hw108 hwm8 HXk HRsk HE8k
                      by_cases hdw : Wire.digest 34 [bts wh] = s.body
                      · have HDW := Lib.hid hdw
                        by_cases hsw : (wh.size : Int) = s.size
                        · have HSW := Lib.hid hsw
                          have dsz : ((wh.size : Int) != s.size) = false := by simpa using hsw
                          clear hdw hsw
                          as_aux_lemma =>
                            refine wp_region_later (by kernel_rfl) (by kernel_rfl) ?_
                            repeat (first | go_big_quiet_step ((go_at_call 29; exact quietE (rdigest_is wh s.body _ (RowAt.ext HRK.out (HX9.out.onto _)) (by omega) HDW.out))) | quiet_step ((go_at_call 29; exact quietE (rdigest_is wh s.body _ (RowAt.ext HRK.out (HX9.out.onto _)) (by omega) HDW.out))))
                            refine wpQuiet_nil ?_
                            rintro _ ⟨xq, rfl⟩
                            go_wp2
                            go_loopw [17, 16, 18] (W2Rel w B8 s ea wh l) (fun i _ _ _ => l.length - (intOf i).toNat)
                            case atStart => exact ⟨0, none, 0, Nat.zero_le _, rfl, rfl, Lib.hid (HX9.out.onto _), Lib.hid (HRs9.out.later _), Lib.hid (HE9.out.later _), fun _ => rfl, Lib.hid (Reads.nil _ _ _ _ _), Lib.hid (fun p hp => by simp at hp)⟩
                            case round =>
                              obtain ⟨k, A', c', hk, rfl, rfl, HXr, HRr, HEr, hz', HQ, HPt⟩ := hrel
                              clear HX9 HRs9 HE9
                              have hxr := HXr.out
                              have hxs := hxr.size
                              have hlr := HRr.out.lt
                              have hle := HEr.out.lt
                              have hl2 := had_len HV.out HDW.out HSW.out HPt.out
                              by_cases hlt : k < l.length
                              · obtain ⟨b, off, hA, hbl, y1, y2⟩ := ReadsPc.cell HR.out k hlt
                                subst hA
                                have HHs := Lib.hid (hadN_snoc l k hlt)
                                have hp1 := HP.out _ (List.getElem_mem hlt)
                                have hp2 := HP2.out _ (List.getElem_mem hlt)
                                have HPS := Lib.hid (fun h => part_snoc hlt HPt.out h)
                                generalize l[k] = p at *
                                generalize hadN (l.take k) = H at *
                                have z1 := (hxr.cell (p := ⟨b, off + k * 2, none⟩) hbl).trans y1
                                have z2 := (hxr.cell (p := ⟨b, off + k * 2 + 1, none⟩) hbl).trans y2
                                obtain ⟨p1, p2⟩ := p
                                obtain ⟨hq1, hq2, hq3⟩ := hp1
                                simp only [] at z1 z2 hq1 hq2 hq3 hp2 HHs HPS
                                clear y1 y2 hxr
                                by_cases f0 : p1 < 0
                                · have d0 : decide (p1 < 0) = true := by simpa using f0
                                  as_aux_lemma =>
                                    go_wp2
                                    refine wp_region_later (by kernel_rfl) (by kernel_rfl) ?_
                                    repeat (first | go_big_quiet_step (fail) | quiet_step (fail))
                                    refine wpQuiet_nil ?_
                                    rintro _ ⟨xq, rfl⟩
                                    go_wp2_with (first
                                      | (go_at_call 26; refine (show Hid _ from ?_).out)
                                      | (go_at_call 25; refine (show Hid _ from ?_).out)
                                      | (go_at_call 27; refine (show Hid _ from ?_).out)
                                      | (go_at_call 30; refine (show Hid _ from ?_).out))
                                    refine Lib.hid ?_
                                    refine (HSan.out _ (HXr.out.onto _)).mono ?_
                                    rintro e' w' ⟨rfl, hxl⟩; obtain ⟨xz, rfl⟩ := hxl.asLater; clear hxl
                                    go_wp2
                                    go_ret
                                    exact ⟨rfl, (HXr.out.onto _).onto _⟩
                                have d0 : decide (p1 < 0) = false := by simpa using f0
                                obtain ⟨f, rfl⟩ : ∃ f : Nat, p1 = f := ⟨p1.toNat, by omega⟩
                                by_cases f1 : wh.size < f
                                · have d1 : decide ((wh.size : Int) < (f : Int)) = true := by simp; omega
                                  as_aux_lemma =>
                                    go_wp2
                                    refine wp_region_later (by kernel_rfl) (by kernel_rfl) ?_
                                    repeat (first | go_big_quiet_step (fail) | quiet_step (fail))
                                    refine wpQuiet_nil ?_
                                    rintro _ ⟨xq, rfl⟩
                                    go_wp2_with (first
                                      | (go_at_call 26; refine (show Hid _ from ?_).out)
                                      | (go_at_call 25; refine (show Hid _ from ?_).out)
                                      | (go_at_call 27; refine (show Hid _ from ?_).out)
                                      | (go_at_call 30; refine (show Hid _ from ?_).out))
                                    refine Lib.hid ?_
                                    refine (HSan.out _ (HXr.out.onto _)).mono ?_
                                    rintro e' w' ⟨rfl, hxl⟩; obtain ⟨xz, rfl⟩ := hxl.asLater; clear hxl
                                    go_wp2
                                    go_ret
                                    exact ⟨rfl, (HXr.out.onto _).onto _⟩
                                have d1 : decide ((wh.size : Int) < (f : Int)) = false := by simp; omega
                                by_cases f2 : wh.size < f + p2.size
                                · have d2 : decide ((wh.size : Int) < (f : Int) + (p2.size : Int)) = true := by simp; omega
                                  as_aux_lemma =>
                                    go_wp2
                                    refine wp_region_later (by kernel_rfl) (by kernel_rfl) ?_
                                    repeat (first | go_big_quiet_step (fail) | quiet_step (fail))
                                    refine wpQuiet_nil ?_
                                    rintro _ ⟨xq, rfl⟩
                                    go_wp2_with (first
                                      | (go_at_call 26; refine (show Hid _ from ?_).out)
                                      | (go_at_call 25; refine (show Hid _ from ?_).out)
                                      | (go_at_call 27; refine (show Hid _ from ?_).out)
                                      | (go_at_call 30; refine (show Hid _ from ?_).out))
                                    refine Lib.hid ?_
                                    refine (HSan.out _ (HXr.out.onto _)).mono ?_
                                    rintro e' w' ⟨rfl, hxl⟩; obtain ⟨xz, rfl⟩ := hxl.asLater; clear hxl
                                    go_wp2
                                    go_ret
                                    exact ⟨rfl, (HXr.out.onto _).onto _⟩
                                have d2 : decide ((wh.size : Int) < (f : Int) + (p2.size : Int)) = false := by simp; omega
                                have hfw : f + p2.size ≤ wh.size := by omega
                                by_cases f3 : wh.extract f (f + p2.size) = p2
                                · have d3 : ((wh.extract f (f + p2.size)).toList == p2.toList) = true := by rw [f3]; simp
                                  have HPn := Lib.hid (HPS.out ⟨by show (0 : Int) ≤ (f : Int); omega, by show (f : Int) + (p2.size : Int) ≤ _; omega, by show wh.extract ((f : Int)).toNat (((f : Int)).toNat + p2.size) = p2; rw [Int.toNat_natCast]; exact f3⟩)
                                  clear f3 HPS
                                  as_aux_lemma =>
                                    go_wp2
                                    refine wp_region_later (by kernel_rfl) (by kernel_rfl) ?_
                                    repeat (first | go_big_quiet_step (fail) | quiet_step (fail))
                                    refine wpQuiet_nil ?_
                                    rintro _ ⟨xq, rfl⟩
                                    go_wp2_with (go_at_call 31; refine (radd_any A' c' H ((f : Int), (f : Int) + (p2.size : Int)) _ (by omega) (HQ.out.on (ext_later _ _)) hz').mono ?_; rintro e w4 ⟨A4, c4, out, rfl, HL4, ho4, hx4⟩; have HO4 := Lib.hid ho4; have HX4 := Lib.hid hx4; clear ho4 hx4)
                                    go_roundw
                                    case rel => exact ⟨k + 1, A4, c4, by omega, by go_num, by rw [HHs.out, ← HL4.out], Lib.hid ((HXr.out.onto _).trans HX4.out), Lib.hid ((HRr.out.later _).ext HX4.out), Lib.hid ((HEr.out.later _).ext HX4.out), HO4.out.none0, Lib.hid (by rw [HHs.out, ← HL4.out]; exact HO4.out.reads spE), HPn⟩
                                    case measure => simp [intOf]; omega
                                · have d3 : ((wh.extract f (f + p2.size)).toList == p2.toList) = false := by
                                    rw [str_beq, decide_eq_false_iff_not]; exact f3
                                  clear f3
                                  as_aux_lemma =>
                                    go_wp2
                                    refine wp_region_later (by kernel_rfl) (by kernel_rfl) ?_
                                    repeat (first | go_big_quiet_step (fail) | quiet_step (fail))
                                    refine wpQuiet_nil ?_
                                    rintro _ ⟨xq, rfl⟩
                                    go_wp2_with (first
                                      | (go_at_call 26; refine (show Hid _ from ?_).out)
                                      | (go_at_call 25; refine (show Hid _ from ?_).out)
                                      | (go_at_call 27; refine (show Hid _ from ?_).out)
                                      | (go_at_call 30; refine (show Hid _ from ?_).out))
                                    refine Lib.hid ?_
                                    refine (HSan.out _ (HXr.out.onto _)).mono ?_
                                    rintro e' w' ⟨rfl, hxl⟩; obtain ⟨xz, rfl⟩ := hxl.asLater; clear hxl
                                    go_wp2
                                    go_ret
                                    exact ⟨rfl, (HXr.out.onto _).onto _⟩
                              · have hke : k = l.length := by omega
                                subst hke
                                rw [List.take_of_length_le (Nat.le_refl _)] at HQ HPt hl2 ⊢
                                obtain ⟨hsi, hfu, hby⟩ := HRW.out HDW.out HSW.out HPt.out
                                have hcov : rCoversB (hadN l) (0, s.size) = false := ((covers_full (rCovers_spec _ _)).trans hfu).trans HWE.out
                                have hsz2 : 0 ≤ s.size := by have := HSW.out; omega
                                have hsz3 : s.size ≤ 2000 := by omega
                                have HCv := Lib.hid (fun (W : World) (hx : Ext wr W) => rcovers_any A' c' (hadN l) (0, s.size) W (fun _ => ⟨Int.le_refl _, by show s.size ≤ _; omega⟩) (by omega) (HQ.out.on hx))
                                rw [hcov] at HCv
                                have c3r : wr.cell? ⟨w.heap.size, 3, none⟩ = some (.int .i64 s.size) := (HRr.out.cell 3).trans (stm_g3 s)
                                have b44r : wr.cell? ⟨B8, 44, none⟩ = some (.bool false) := (HEr.out.cell 44).trans (by rw [ent_g44, HWE.out])
                                have b43r : wr.cell? ⟨B8, 43, none⟩ = some (.string ea.bytes) := (HEr.out.cell 43).trans (ent_g43 ea)
                                have heq : (false = true) → (ea.bytes.toList == wh.toList) = true := fun h => by
                                  have e9 := hby (HWE.out.trans h)
                                  rw [e9]
                                  try exact beq_self_eq_true _
                                first | have heq2 := heq rfl | skip
                                clear hsi hfu hby hcov heq HQ HPt hxr
                                as_aux_lemma =>
                                  go_wp2_with (first
                                    | (go_at_call 32; refine (HCv.out _ (by (repeat (first | with_reducible exact Ext.refl _ | with_reducible exact Ext.refl _ | with_reducible refine Ext.drew ?_ | with_reducible refine Ext.drewN ?_ _ | with_reducible refine Ext.alloc ?_ _ | with_reducible refine Ext.onto ?_ _ | (with_reducible refine Ext.setCells ?_ ?_ _ _; rotate_left; focus (first | omega | (simp; done) | (simp; omega))) | (with_reducible refine Ext.setCell ?_ ?_ _; rotate_left; focus (first | omega | (simp; done) | (simp; omega))))))).mono ?_; rintro e w' ⟨rfl, hxl⟩; obtain ⟨xl, rfl⟩ := hxl.asLater; clear hxl)
                                    | (go_at_call 26; refine (show Hid _ from ?_).out))
                                  refine Lib.hid ?_
                                  refine (HSan.out _ (HXr.out.onto _)).mono ?_
                                  rintro e' w' ⟨rfl, hxl⟩; obtain ⟨xz, rfl⟩ := hxl.asLater; clear hxl
                                  go_wp2
                                  go_ret
                                  exact ⟨rfl, (HXr.out.onto _).onto _⟩
                        · have dsz : ((wh.size : Int) != s.size) = true := by simpa using hsw
                          clear hdw hsw
                          as_aux_lemma =>
                            refine wp_region_later (by kernel_rfl) (by kernel_rfl) ?_
                            repeat (first | go_big_quiet_step ((go_at_call 29; exact quietE (rdigest_is wh s.body _ (RowAt.ext HRK.out (HX9.out.onto _)) (by omega) HDW.out))) | quiet_step ((go_at_call 29; exact quietE (rdigest_is wh s.body _ (RowAt.ext HRK.out (HX9.out.onto _)) (by omega) HDW.out))))
                            refine wpQuiet_nil ?_
                            rintro _ ⟨xq, rfl⟩
                            go_wp2_with (first
                              | (go_at_call 26; refine (show Hid _ from ?_).out)
                              | (go_at_call 25; refine (show Hid _ from ?_).out)
                              | (go_at_call 27; refine (show Hid _ from ?_).out)
                              | (go_at_call 30; refine (show Hid _ from ?_).out))
                            refine Lib.hid ?_
                            refine (HSan.out _ (HX9.out.onto _)).mono ?_
                            rintro e' w' ⟨rfl, hxl⟩; obtain ⟨xz, rfl⟩ := hxl.asLater; clear hxl
                            go_wp2
                            go_ret
                            exact ⟨rfl, (HX9.out.onto _).onto _⟩
                      · obtain ⟨Dw, hDw⟩ : ∃ D, Wire.digest 34 [bts wh] = D := ⟨_, rfl⟩
                        have hq2 : ∀ W, (binOp .neq 24 (.agg (cells8 Dw)) (.agg (dgC s.body))).run Tryz.prog W = .ok (.bool true) W := fun W => by
                          rw [neq_dig (by rw [← hDw]; exact digest_length _ _) HS.out.hb (by rw [← hDw]; exact digest_byt _ _) HS.out.hby W]
                          rw [hDw] at hdw
                          simp [hdw]
                        have HDW := Lib.hid hDw
                        clear hdw hDw hneq
                        as_aux_lemma =>
                          refine wp_region_later (by kernel_rfl) (by kernel_rfl) ?_
                          repeat (first | go_big_quiet_step ((go_at_call 29; exact quietE (rdigest_is wh Dw _ (RowAt.ext HRK.out (HX9.out.onto _)) (by omega) HDW.out))) | quiet_step ((go_at_call 29; exact quietE (rdigest_is wh Dw _ (RowAt.ext HRK.out (HX9.out.onto _)) (by omega) HDW.out))))
                          refine wpQuiet_nil ?_
                          rintro _ ⟨xq, rfl⟩
                          go_wp2_with (first
                            | (go_at_call 26; refine (show Hid _ from ?_).out)
                            | (go_at_call 25; refine (show Hid _ from ?_).out)
                            | (go_at_call 27; refine (show Hid _ from ?_).out)
                            | (go_at_call 30; refine (show Hid _ from ?_).out))
                          refine Lib.hid ?_
                          refine (HSan.out _ (HX9.out.onto _)).mono ?_
                          rintro e' w' ⟨rfl, hxl⟩; obtain ⟨xz, rfl⟩ := hxl.asLater; clear hxl
                          go_wp2
                          go_ret
                          exact ⟨rfl, (HX9.out.onto _).onto _⟩
                  | false =>
                    rw [hwf] at d44
                    clear hwf
                    as_aux_lemma =>
                      refine wp_region_later (by kernel_rfl) (by kernel_rfl) ?_
                      repeat (first | go_big_quiet_step ((go_at_call 29; exact quietE (rdigest_is _ s.body _ (RowAt.ext HRK.out (HXk.out.onto _)) (by first | exact hb8 | exact hb10 | exact hb14) (by first | exact HD8.out | exact HD10.out | exact HD14.out)))) | quiet_step ((go_at_call 29; exact quietE (rdigest_is _ s.body _ (RowAt.ext HRK.out (HXk.out.onto _)) (by first | exact hb8 | exact hb10 | exact hb14) (by first | exact HD8.out | exact HD10.out | exact HD14.out)))))
                      refine wpQuiet_nil ?_
                      rintro _ ⟨xq, rfl⟩
                      go_upto_region 19 with (fail)
                      refine wp_world (fun W => Ext w W ∧ RowAt W w.heap.size (stmC s) ∧ RowAt W B8 (entC ea)) ⟨HXk.out.onto _, HRsk.out.later _, HE8k.out.later _⟩ ?_
                      rintro W9 ⟨x9, rs9, e89⟩
                      have HX9 := Lib.hid x9
                      have HRs9 := Lib.hid rs9
                      have HE9 := Lib.hid e89
                      have hbd9 : rowOf W9 w.heap.size 4 16 = some (dgC s.body) := by rw [rs9.row, if_neg (by omega), stm_body]
                      have c39 : W9.cell? ⟨w.heap.size, 3, none⟩ = some (.int .i64 s.size) := (rs9.cell 3).trans (stm_g3 s)
                      have hl9 := rs9.lt
                      have hl98 := e89.lt
                      clear x9 rs9 e89 b44 d44 m44 m43 hbd hws8 hw88 hw108 hwm8 HXk HRsk HE8k
                      by_cases hdw : Wire.digest 34 [bts wh] = s.body
                      · have HDW := Lib.hid hdw
                        by_cases hsw : (wh.size : Int) = s.size
                        · have HSW := Lib.hid hsw
                          have dsz : ((wh.size : Int) != s.size) = false := by simpa using hsw
                          clear hdw hsw
                          as_aux_lemma =>
                            refine wp_region_later (by kernel_rfl) (by kernel_rfl) ?_
                            repeat (first | go_big_quiet_step ((go_at_call 29; exact quietE (rdigest_is wh s.body _ (RowAt.ext HRK.out (HX9.out.onto _)) (by omega) HDW.out))) | quiet_step ((go_at_call 29; exact quietE (rdigest_is wh s.body _ (RowAt.ext HRK.out (HX9.out.onto _)) (by omega) HDW.out))))
                            refine wpQuiet_nil ?_
                            rintro _ ⟨xq, rfl⟩
                            go_wp2
                            go_loopw [17, 16, 18] (W2Rel w B8 s ea wh l) (fun i _ _ _ => l.length - (intOf i).toNat)
                            case atStart => exact ⟨0, none, 0, Nat.zero_le _, rfl, rfl, Lib.hid (HX9.out.onto _), Lib.hid (HRs9.out.later _), Lib.hid (HE9.out.later _), fun _ => rfl, Lib.hid (Reads.nil _ _ _ _ _), Lib.hid (fun p hp => by simp at hp)⟩
                            case round =>
                              obtain ⟨k, A', c', hk, rfl, rfl, HXr, HRr, HEr, hz', HQ, HPt⟩ := hrel
                              clear HX9 HRs9 HE9
                              have hxr := HXr.out
                              have hxs := hxr.size
                              have hlr := HRr.out.lt
                              have hle := HEr.out.lt
                              have hl2 := had_len HV.out HDW.out HSW.out HPt.out
                              by_cases hlt : k < l.length
                              · obtain ⟨b, off, hA, hbl, y1, y2⟩ := ReadsPc.cell HR.out k hlt
                                subst hA
                                have HHs := Lib.hid (hadN_snoc l k hlt)
                                have hp1 := HP.out _ (List.getElem_mem hlt)
                                have hp2 := HP2.out _ (List.getElem_mem hlt)
                                have HPS := Lib.hid (fun h => part_snoc hlt HPt.out h)
                                generalize l[k] = p at *
                                generalize hadN (l.take k) = H at *
                                have z1 := (hxr.cell (p := ⟨b, off + k * 2, none⟩) hbl).trans y1
                                have z2 := (hxr.cell (p := ⟨b, off + k * 2 + 1, none⟩) hbl).trans y2
                                obtain ⟨p1, p2⟩ := p
                                obtain ⟨hq1, hq2, hq3⟩ := hp1
                                simp only [] at z1 z2 hq1 hq2 hq3 hp2 HHs HPS
                                clear y1 y2 hxr
                                by_cases f0 : p1 < 0
                                · have d0 : decide (p1 < 0) = true := by simpa using f0
                                  as_aux_lemma =>
                                    go_wp2
                                    refine wp_region_later (by kernel_rfl) (by kernel_rfl) ?_
                                    repeat (first | go_big_quiet_step (fail) | quiet_step (fail))
                                    refine wpQuiet_nil ?_
                                    rintro _ ⟨xq, rfl⟩
                                    go_wp2_with (first
                                      | (go_at_call 26; refine (show Hid _ from ?_).out)
                                      | (go_at_call 25; refine (show Hid _ from ?_).out)
                                      | (go_at_call 27; refine (show Hid _ from ?_).out)
                                      | (go_at_call 30; refine (show Hid _ from ?_).out))
                                    refine Lib.hid ?_
                                    refine (HSan.out _ (HXr.out.onto _)).mono ?_
                                    rintro e' w' ⟨rfl, hxl⟩; obtain ⟨xz, rfl⟩ := hxl.asLater; clear hxl
                                    go_wp2
                                    go_ret
                                    exact ⟨rfl, (HXr.out.onto _).onto _⟩
                                have d0 : decide (p1 < 0) = false := by simpa using f0
                                obtain ⟨f, rfl⟩ : ∃ f : Nat, p1 = f := ⟨p1.toNat, by omega⟩
                                by_cases f1 : wh.size < f
                                · have d1 : decide ((wh.size : Int) < (f : Int)) = true := by simp; omega
                                  as_aux_lemma =>
                                    go_wp2
                                    refine wp_region_later (by kernel_rfl) (by kernel_rfl) ?_
                                    repeat (first | go_big_quiet_step (fail) | quiet_step (fail))
                                    refine wpQuiet_nil ?_
                                    rintro _ ⟨xq, rfl⟩
                                    go_wp2_with (first
                                      | (go_at_call 26; refine (show Hid _ from ?_).out)
                                      | (go_at_call 25; refine (show Hid _ from ?_).out)
                                      | (go_at_call 27; refine (show Hid _ from ?_).out)
                                      | (go_at_call 30; refine (show Hid _ from ?_).out))
                                    refine Lib.hid ?_
                                    refine (HSan.out _ (HXr.out.onto _)).mono ?_
                                    rintro e' w' ⟨rfl, hxl⟩; obtain ⟨xz, rfl⟩ := hxl.asLater; clear hxl
                                    go_wp2
                                    go_ret
                                    exact ⟨rfl, (HXr.out.onto _).onto _⟩
                                have d1 : decide ((wh.size : Int) < (f : Int)) = false := by simp; omega
                                by_cases f2 : wh.size < f + p2.size
                                · have d2 : decide ((wh.size : Int) < (f : Int) + (p2.size : Int)) = true := by simp; omega
                                  as_aux_lemma =>
                                    go_wp2
                                    refine wp_region_later (by kernel_rfl) (by kernel_rfl) ?_
                                    repeat (first | go_big_quiet_step (fail) | quiet_step (fail))
                                    refine wpQuiet_nil ?_
                                    rintro _ ⟨xq, rfl⟩
                                    go_wp2_with (first
                                      | (go_at_call 26; refine (show Hid _ from ?_).out)
                                      | (go_at_call 25; refine (show Hid _ from ?_).out)
                                      | (go_at_call 27; refine (show Hid _ from ?_).out)
                                      | (go_at_call 30; refine (show Hid _ from ?_).out))
                                    refine Lib.hid ?_
                                    refine (HSan.out _ (HXr.out.onto _)).mono ?_
                                    rintro e' w' ⟨rfl, hxl⟩; obtain ⟨xz, rfl⟩ := hxl.asLater; clear hxl
                                    go_wp2
                                    go_ret
                                    exact ⟨rfl, (HXr.out.onto _).onto _⟩
                                have d2 : decide ((wh.size : Int) < (f : Int) + (p2.size : Int)) = false := by simp; omega
                                have hfw : f + p2.size ≤ wh.size := by omega
                                by_cases f3 : wh.extract f (f + p2.size) = p2
                                · have d3 : ((wh.extract f (f + p2.size)).toList == p2.toList) = true := by rw [f3]; simp
                                  have HPn := Lib.hid (HPS.out ⟨by show (0 : Int) ≤ (f : Int); omega, by show (f : Int) + (p2.size : Int) ≤ _; omega, by show wh.extract ((f : Int)).toNat (((f : Int)).toNat + p2.size) = p2; rw [Int.toNat_natCast]; exact f3⟩)
                                  clear f3 HPS
                                  as_aux_lemma =>
                                    go_wp2
                                    refine wp_region_later (by kernel_rfl) (by kernel_rfl) ?_
                                    repeat (first | go_big_quiet_step (fail) | quiet_step (fail))
                                    refine wpQuiet_nil ?_
                                    rintro _ ⟨xq, rfl⟩
                                    go_wp2_with (go_at_call 31; refine (radd_any A' c' H ((f : Int), (f : Int) + (p2.size : Int)) _ (by omega) (HQ.out.on (ext_later _ _)) hz').mono ?_; rintro e w4 ⟨A4, c4, out, rfl, HL4, ho4, hx4⟩; have HO4 := Lib.hid ho4; have HX4 := Lib.hid hx4; clear ho4 hx4)
                                    go_roundw
                                    case rel => exact ⟨k + 1, A4, c4, by omega, by go_num, by rw [HHs.out, ← HL4.out], Lib.hid ((HXr.out.onto _).trans HX4.out), Lib.hid ((HRr.out.later _).ext HX4.out), Lib.hid ((HEr.out.later _).ext HX4.out), HO4.out.none0, Lib.hid (by rw [HHs.out, ← HL4.out]; exact HO4.out.reads spE), HPn⟩
                                    case measure => simp [intOf]; omega
                                · have d3 : ((wh.extract f (f + p2.size)).toList == p2.toList) = false := by
                                    rw [str_beq, decide_eq_false_iff_not]; exact f3
                                  clear f3
                                  as_aux_lemma =>
                                    go_wp2
                                    refine wp_region_later (by kernel_rfl) (by kernel_rfl) ?_
                                    repeat (first | go_big_quiet_step (fail) | quiet_step (fail))
                                    refine wpQuiet_nil ?_
                                    rintro _ ⟨xq, rfl⟩
                                    go_wp2_with (first
                                      | (go_at_call 26; refine (show Hid _ from ?_).out)
                                      | (go_at_call 25; refine (show Hid _ from ?_).out)
                                      | (go_at_call 27; refine (show Hid _ from ?_).out)
                                      | (go_at_call 30; refine (show Hid _ from ?_).out))
                                    refine Lib.hid ?_
                                    refine (HSan.out _ (HXr.out.onto _)).mono ?_
                                    rintro e' w' ⟨rfl, hxl⟩; obtain ⟨xz, rfl⟩ := hxl.asLater; clear hxl
                                    go_wp2
                                    go_ret
                                    exact ⟨rfl, (HXr.out.onto _).onto _⟩
                              · have hke : k = l.length := by omega
                                subst hke
                                rw [List.take_of_length_le (Nat.le_refl _)] at HQ HPt hl2 ⊢
                                obtain ⟨hsi, hfu, hby⟩ := HRW.out HDW.out HSW.out HPt.out
                                have hcov : rCoversB (hadN l) (0, s.size) = false := ((covers_full (rCovers_spec _ _)).trans hfu).trans HWE.out
                                have hsz2 : 0 ≤ s.size := by have := HSW.out; omega
                                have hsz3 : s.size ≤ 2000 := by omega
                                have HCv := Lib.hid (fun (W : World) (hx : Ext wr W) => rcovers_any A' c' (hadN l) (0, s.size) W (fun _ => ⟨Int.le_refl _, by show s.size ≤ _; omega⟩) (by omega) (HQ.out.on hx))
                                rw [hcov] at HCv
                                have c3r : wr.cell? ⟨w.heap.size, 3, none⟩ = some (.int .i64 s.size) := (HRr.out.cell 3).trans (stm_g3 s)
                                have b44r : wr.cell? ⟨B8, 44, none⟩ = some (.bool false) := (HEr.out.cell 44).trans (by rw [ent_g44, HWE.out])
                                have b43r : wr.cell? ⟨B8, 43, none⟩ = some (.string ea.bytes) := (HEr.out.cell 43).trans (ent_g43 ea)
                                have heq : (false = true) → (ea.bytes.toList == wh.toList) = true := fun h => by
                                  have e9 := hby (HWE.out.trans h)
                                  rw [e9]
                                  try exact beq_self_eq_true _
                                first | have heq2 := heq rfl | skip
                                clear hsi hfu hby hcov heq HQ HPt hxr
                                as_aux_lemma =>
                                  go_wp2_with (first
                                    | (go_at_call 32; refine (HCv.out _ (by (repeat (first | with_reducible exact Ext.refl _ | with_reducible exact Ext.refl _ | with_reducible refine Ext.drew ?_ | with_reducible refine Ext.drewN ?_ _ | with_reducible refine Ext.alloc ?_ _ | with_reducible refine Ext.onto ?_ _ | (with_reducible refine Ext.setCells ?_ ?_ _ _; rotate_left; focus (first | omega | (simp; done) | (simp; omega))) | (with_reducible refine Ext.setCell ?_ ?_ _; rotate_left; focus (first | omega | (simp; done) | (simp; omega))))))).mono ?_; rintro e w' ⟨rfl, hxl⟩; obtain ⟨xl, rfl⟩ := hxl.asLater; clear hxl)
                                    | (go_at_call 26; refine (show Hid _ from ?_).out))
                                  refine Lib.hid ?_
                                  refine (HSan.out _ (HXr.out.onto _)).mono ?_
                                  rintro e' w' ⟨rfl, hxl⟩; obtain ⟨xz, rfl⟩ := hxl.asLater; clear hxl
                                  go_wp2
                                  go_ret
                                  exact ⟨rfl, (HXr.out.onto _).onto _⟩
                        · have dsz : ((wh.size : Int) != s.size) = true := by simpa using hsw
                          clear hdw hsw
                          as_aux_lemma =>
                            refine wp_region_later (by kernel_rfl) (by kernel_rfl) ?_
                            repeat (first | go_big_quiet_step ((go_at_call 29; exact quietE (rdigest_is wh s.body _ (RowAt.ext HRK.out (HX9.out.onto _)) (by omega) HDW.out))) | quiet_step ((go_at_call 29; exact quietE (rdigest_is wh s.body _ (RowAt.ext HRK.out (HX9.out.onto _)) (by omega) HDW.out))))
                            refine wpQuiet_nil ?_
                            rintro _ ⟨xq, rfl⟩
                            go_wp2_with (first
                              | (go_at_call 26; refine (show Hid _ from ?_).out)
                              | (go_at_call 25; refine (show Hid _ from ?_).out)
                              | (go_at_call 27; refine (show Hid _ from ?_).out)
                              | (go_at_call 30; refine (show Hid _ from ?_).out))
                            refine Lib.hid ?_
                            refine (HSan.out _ (HX9.out.onto _)).mono ?_
                            rintro e' w' ⟨rfl, hxl⟩; obtain ⟨xz, rfl⟩ := hxl.asLater; clear hxl
                            go_wp2
                            go_ret
                            exact ⟨rfl, (HX9.out.onto _).onto _⟩
                      · obtain ⟨Dw, hDw⟩ : ∃ D, Wire.digest 34 [bts wh] = D := ⟨_, rfl⟩
                        have hq2 : ∀ W, (binOp .neq 24 (.agg (cells8 Dw)) (.agg (dgC s.body))).run Tryz.prog W = .ok (.bool true) W := fun W => by
                          rw [neq_dig (by rw [← hDw]; exact digest_length _ _) HS.out.hb (by rw [← hDw]; exact digest_byt _ _) HS.out.hby W]
                          rw [hDw] at hdw
                          simp [hdw]
                        have HDW := Lib.hid hDw
                        clear hdw hDw hneq
                        as_aux_lemma =>
                          refine wp_region_later (by kernel_rfl) (by kernel_rfl) ?_
                          repeat (first | go_big_quiet_step ((go_at_call 29; exact quietE (rdigest_is wh Dw _ (RowAt.ext HRK.out (HX9.out.onto _)) (by omega) HDW.out))) | quiet_step ((go_at_call 29; exact quietE (rdigest_is wh Dw _ (RowAt.ext HRK.out (HX9.out.onto _)) (by omega) HDW.out))))
                          refine wpQuiet_nil ?_
                          rintro _ ⟨xq, rfl⟩
                          go_wp2_with (first
                            | (go_at_call 26; refine (show Hid _ from ?_).out)
                            | (go_at_call 25; refine (show Hid _ from ?_).out)
                            | (go_at_call 27; refine (show Hid _ from ?_).out)
                            | (go_at_call 30; refine (show Hid _ from ?_).out))
                          refine Lib.hid ?_
                          refine (HSan.out _ (HX9.out.onto _)).mono ?_
                          rintro e' w' ⟨rfl, hxl⟩; obtain ⟨xz, rfl⟩ := hxl.asLater; clear hxl
                          go_wp2
                          go_ret
                          exact ⟨rfl, (HX9.out.onto _).onto _⟩
    ·
      go_wp2_with (first
        | (go_at_call 26; refine (show Hid _ from ?_).out)
        | (go_at_call 25; refine (show Hid _ from ?_).out)
        | (go_at_call 27; refine (show Hid _ from ?_).out)
        | (go_at_call 30; refine (show Hid _ from ?_).out))
      refine Lib.hid ?_
      refine (HSan.out _ HX1.out).mono ?_
      rintro e' w' ⟨rfl, hxl⟩; obtain ⟨xb, rfl⟩ := hxl.asLater; clear hxl
      go_wp2
      go_ret
      exact ⟨rfl, HX1.out.onto _⟩
end Go.Proofs.YtpjacgcaibaggaaGreatDoor
