/- The sanity of law 31 answers true. -/
import Derived.WalkKit
import Derived.WalkSpells
import Derived.WalkLawsBesides
import Derived.Deep.QuietTactic
import Derived.BigQuiet
import Derived.RangeFuncNested
import Derived.RangeFuncBound
import Derived.RangeFuncCalls
import Derived.RangeFuncLeaves
import Derived.Shelf.Abstract
import Derived.Shelf.RegionOpen
import Derived.OwnWalkIn
import Derived.TacticsInMore
import Derived.LoopNIn
import Derived.LoopIn
import Derived.Laws.RangeString
import Derived.Test.YtpojnhikgjcgmaaGreatDoorIYq
import Derived.Test.YtpojnhikgjcgmaaGreatDoorINk
set_option maxRecDepth 100000
set_option maxHeartbeats 64000000
set_option linter.unusedVariables false
set_option linter.unusedSimpArgs false
namespace Go.Proofs.YtpojnhikgjcgmaaGreatDoor
open Go.RowKit Go.Shelf
open Go.Proofs
open Ad (Bs)
theorem next_it {P : Program} {w : World} {s : ByteArray} {pos it : Nat} (hi : w.heap[it]? = some (.stringIter s pos)) (ty : TypeId) (h : pos < s.size) (ha : (s[pos]'h).toNat < 128) :
  (Instr.next (.pointer (some ⟨it, 0, none⟩)) true ty).run P w = .ok (.tuple #[.bool true, .int .i64 pos, .int .i32 (s[pos]'h).toNat]) (w.putObj it (.stringIter s (pos + 1))) := by
 have hlt : it < w.heap.size := (Array.getElem?_eq_some_iff.1 hi).1
 have h2 : (w.putObj it (.stringIter s (pos + 1))).heap[it]? = some (.stringIter s (pos + 1)) := World.putObj_heap_same hlt
 simp [Instr.next, getObj, setObj, Sem.run_bind, Sem.run, hi, Result.andThen, h, decode_ascii s pos h ha, World.putObj, goInt]
theorem next_it_end {P : Program} {w : World} {s : ByteArray} {pos it : Nat} (hi : w.heap[it]? = some (.stringIter s pos)) (ty : TypeId) (h : ¬ pos < s.size) :
  (Instr.next (.pointer (some ⟨it, 0, none⟩)) true ty).run P w = .ok (.tuple #[.bool false]) w := by
 simp [Instr.next, getObj, Sem.run, hi, h]
theorem reads_butS {w w' : World} {A : Option Addr} {l : List ByteArray} {S : Nat → Prop} (h : ReadsStr w w.heap.size A l) (hb : ButS S w w') (hn : ∀ k, S k → ∀ i s, w.cell? ⟨k, i, none⟩ ≠ some (.string s)) : ReadsStr w' w'.heap.size A l := by
 intro h0
 obtain ⟨b, off, hA, hlt, hc⟩ := h h0
 have hS : ¬ S b := fun hs => hn b hs _ _ (hc 0 h0 0 (.string l[0]) rfl)
 refine ⟨b, off, hA, Nat.lt_of_lt_of_le hlt hb.size, fun i hi j v hv => ?_⟩
 exact (hb.cell (p := ⟨b, off + i * 1 + j, none⟩) hlt hS).trans (hc i hi j v hv)
theorem asc_data {s : ByteArray} (h : ∀ c ∈ bsT s, c.toNat < 128) (i : Nat) (hi : i < s.size) : (s[i]'hi).toNat < 128 := by
 refine h _ ?_
 show s[i] ∈ s.data.toList
 rw [ByteArray.getElem_eq_getElem_data]
 exact Array.getElem_mem_toList _
theorem data_getD (s : ByteArray) (i : Nat) (hi : i < s.size) : (bsT s).getD i 0 = s.data[i]'hi := by
 have h1 : i < (bsT s).length := by rw [bsT_size]; exact hi
 rw [List.getD_eq_getElem?_getD, List.getElem?_eq_getElem h1]
 rfl
theorem slash_int (s : ByteArray) (i : Nat) (hi : i < s.size) : (((s.data[i]'hi).toNat : Int) == 47) = decide ((bsT s).getD i 0 = 47) := by
 rw [data_getD s i hi]
 generalize s.data[i] = x
 rw [Bool.eq_iff_iff, beq_iff_eq, decide_eq_true_iff]
 constructor
 ·intro h; apply UInt8.toNat_inj.1; show x.toNat = 47; omega
 ·rintro rfl; rfl
theorem bsT_colon (a b : ByteArray) : bsT (a ++ ⟨#[58]⟩ ++ b) = bsT a ++ 58 :: bsT b := by rw [bsT_app, bsT_app, List.append_assoc]; rfl
theorem splitT_le (t : Bs) (p : Bs) (h : p ∈ splitT t) : p.length ≤ t.length := by
 unfold splitT at h
 split at h
 ·cases h
 ·split at h
  ·exact piece_le 44 t p h
  ·cases h
theorem names_any (a t : ByteArray) (w : World) :
  Calls Tryz.prog 74 #[.string a, .string t] w fun e w' => e = .returned (.func (.func 130) #[] #[.pointer (some ⟨w.heap.size, 0, none⟩), .pointer (some ⟨w.heap.size + 1, 0, none⟩)]) ∧ (w.alloc (.cells #[.string a] 9)).alloc (.cells #[.string t] 9) = w' := by
 go_enter Tryz.func74, Tryz.ntmps74
 go_wp2
 go_ret
 exact ⟨rfl, rfl⟩
section
attribute [local go_sem] Oper.semAt_some size_one
theorem names1_in (n : Nat) (hn : 2 ≤ n) (l ba bt : Nat) (a t : ByteArray) (W : World) (hsa : a.size ≤ 900000) (hst : t.size ≤ 900000) (hasc : ∀ c ∈ bsT a, c.toNat < 128)
  (hb1 : Boxed W ba 9 (.string a)) (hb2 : Boxed W bt 9 (.string t))
  (S : Nat → Prop) (hS : ¬ S ba ∧ ¬ S bt) (hSl : ∀ k, S k → k < W.heap.size) (J : List (Int × Bs) → World → Prop) (St : World → Prop) (h0 : J [] W)
  (hJ : ∀ d W1 W2, J d W1 → ButS (fun k => W.heap.size ≤ k) W1 W2 → J d W2) (hJS : ∀ d W1, J d W1 → ∀ k, S k → ∀ i s, W1.cell? ⟨k, i, none⟩ ≠ some (.string s))
  (hY : ∀ done (k : Int) (x : ByteArray) W1, NextIn (bsT a) (bsT t) done (k, bsT x) → x.size ≤ 2000000 → (k = 1 ∨ k = 2 ∨ k = 3) → J done W1 → ButS (fun b => S b ∨ W.heap.size ≤ b) W W1 →
   YieldAt Fence.wide (n - 1) Tryz.prog l #[.int .i64 k, .string x] W1 fun e W' => Yields2 e (J (done ++ [(k, bsT x)]) W') (St W') ∧ ButS S W1 W') :
  CallsIn Fence.wide n Tryz.prog 130 #[.func (.yield l) #[] #[], .pointer (some ⟨ba, 0, none⟩), .pointer (some ⟨bt, 0, none⟩)] W fun e W' =>
   (∃ v, e = .returned v) ∧ (J (namesB (bsT a) (bsT t)) W' ∨ St W') ∧ ButS (fun b => S b ∨ W.heap.size ≤ b) W W' := by
 have hl1 := hb1.lt
 have hl2 := hb2.lt
 refine callsIn_of_wp Tryz.func130 rfl trivial ?_ rfl
 simp only [Tryz.ntmps130, List.size_toArray, List.length_cons, List.length_nil, Nat.reduceAdd, Nat.reduceSub, Array.replicate_succ, Array.replicate_zero, List.push_toArray, List.append_toArray, List.nil_append, List.cons_append]
 have hn1 : 1 ≤ n := by omega
 have HCut : Hid (∀ W, Calls Tryz.prog 66 #[.string a, .string ⟨#[63]⟩] W fun e w' => CutIs 63 a e ∧ Ext W w') := lh (fun W => scut_any a 63 W hsa)
 have HSp := lh (fun W => splitT_any t W hst)
 have HCu := lh (fun W => cust_any a W hsa hasc)
 have hc1 := hb1.cell
 have HAsc := lh hasc
 have HY := lh hY
 have HJ := lh hJ
 have HJS := lh hJS
 have HB1 := lh hb1
 have HB2 := lh hb2
 have HSn := lh hS
 have HSl := lh hSl
 obtain ⟨fn0, tmps0, assign0, body0, hy, hR⟩ := hY [] 1 a W (next_first _ _) (by omega) (.inl rfl) h0 (ButS.refl _ _)
 have HRR := lh hR
 clear hY hJ h0 hb1 hb2 hS hR hSl hJS hasc
 gi_wp2
 refine HRR.out.mono ?_
 rintro e W1 ⟨hj0, hb'⟩
 obtain ⟨b, rfl, hj⟩ := hj0.cases
 clear hj0
 have hbS : ButS (fun b => S b ∨ W.heap.size ≤ b) W W1 := hb'.mono (fun _ _ h => .inl h)
 have HBS := lh hbS
 have hc1' := (hb'.boxed HB1.out HSn.out.1).cell
 have hsz1 := hb'.size
 cases b with
 | false =>
  have HSt : Hid (St W1) := lh hj
  clear hj hb' hy HRR hbS
  gi_wp2
  refine bodyPost_ret (v := .tuple #[]) ?_ rfl ⟨⟨_, rfl⟩, .inr HSt.out, HBS.out⟩
  simp [results, Tryz.results130, go_sem, ↓IntWalk.iteOmega]
 | true =>
  have HJ1 : Hid (J [(1, bsT a)] W1) := lh hj
  clear hj hb' hy HRR hbS
  gi_wp2_with (refine ⟨trivial, ?_⟩; gi_at_call 66; refine (callsIn_wide.2 (HCut.out _)).mono ?_; rintro e w' ⟨⟨p, q, f, rfl, hcut, hps, hqs⟩, hxl⟩; have HPa : Hid (bsT p = pathB (bsT a)) := lh (congrArg Prod.fst hcut); clear hcut; obtain ⟨xc, rfl⟩ := hxl.asLater; clear hxl)
  have HAscP : Hid (∀ c ∈ bsT p, c.toNat < 128) := lh (fun c hc => HAsc.out c (by
   obtain ⟨r, e, _⟩ := cut_path (a := bsT a)
   rw [HPa.out] at hc
   rw [e]
   exact List.mem_append_left _ hc))
  have HNx : Hid (∀ i, i < p.size → (bsT p).getD i 0 = 47 → NextIn (bsT a) (bsT t) (prefD (bsT a) (bsT p) i) (2, bsT (p.extract 0 i))) := lh (fun i hi h => by
   rw [bsT_take]
   rw [← bsT_size] at hi
   rw [HPa.out] at hi h ⊢
   exact next_pref hi h)
  have HNp : Hid (NextIn (bsT a) (bsT t) (prefD (bsT a) (bsT p) p.size) (2, bsT p)) := lh (by
   rw [← bsT_size, HPa.out]
   exact next_path _ _)
  have HT0 : Hid (prefD (bsT a) (bsT p) p.size ++ [(2, bsT p)] = tagD (bsT a) (bsT t) 0) := lh (by
   rw [← bsT_size, HPa.out]
   rfl)
  obtain ⟨it, hit⟩ : ∃ it, W1.heap.size + xc.n = it := ⟨_, rfl⟩
  have hitl := Nat.le_of_eq hit
  have hitr := Nat.le_of_eq hit.symm
  have HI0 : Hid (((later W1 xc).iter p 0).heap[it]? = some (.stringIter p 0)) := lh (by rw [← hit, ← later_size]; exact World.iter_heap _ _ _)
  have HB0 : Hid (ButS (fun k => W.heap.size ≤ k) W1 ((later W1 xc).iter p 0)) := lh (((ButS.refl _ _).ext (ext_later W1 xc)).alloc _)
  have HJ0 : Hid (J (prefD (bsT a) (bsT p) 0) ((later W1 xc).iter p 0)) := lh (HJ.out _ _ _ HJ1.out HB0.out)
  have HBW : Hid (ButS (fun b => S b ∨ W.heap.size ≤ b) W ((later W1 xc).iter p 0)) := lh (HBS.out.trans (HB0.out.mono (fun _ _ h => .inr h)))
  have hszi : it < ((later W1 xc).iter p 0).heap.size := (Array.getElem?_eq_some_iff.1 HI0.out).1
  rw [hit]
  clear hit HJ1 HBS HB0 HPa HAsc
  generalize (later W1 xc).iter p 0 = W2 at *
  gi_loopw [7] (fun _ wr => ∃ i : Nat, i ≤ p.size ∧ Hid (wr.heap[it]? = some (.stringIter p i)) ∧ Hid (J (prefD (bsT a) (bsT p) i) wr) ∧ Hid (ButS (fun b => S b ∨ W.heap.size ≤ b) W wr)) (fun _ wr => match wr.heap[it]? with | some (.stringIter _ i) => p.size - i | _ => 0)
  case atStart => exact ⟨0, Nat.zero_le _, HI0, HJ0, HBW⟩
  case round =>
   obtain ⟨i, hi, HI, HJr, HB⟩ := hrel
   by_cases hlt : i < p.size
   ·have hnx : ∀ ty, (Instr.next (.pointer (some ⟨it, 0, none⟩)) true ty).run Tryz.prog wr = _ := fun ty => next_it HI.out ty hlt (asc_data HAscP.out i hlt)
    obtain ⟨Wn, hWn⟩ : ∃ Wn, wr.putObj it (.stringIter p (i + 1)) = Wn := ⟨_, rfl⟩
    rw [hWn] at hnx
    have HIn : Hid (Wn.heap[it]? = some (.stringIter p (i + 1))) := lh (by rw [← hWn]; exact World.putObj_heap_same (Array.getElem?_eq_some_iff.1 HI.out).1)
    have HBn : Hid (ButS (fun k => W.heap.size ≤ k) wr Wn) := lh (by rw [← hWn]; exact ButS.of_but (grownBy_putObj' _ _ _) (.inr (by omega)))
    have HJn : Hid (J (prefD (bsT a) (bsT p) i) Wn) := lh (HJ.out _ _ _ HJr.out HBn.out)
    have HBWn : Hid (ButS (fun b => S b ∨ W.heap.size ≤ b) W Wn) := lh (HB.out.trans (HBn.out.mono (fun _ _ h => .inr h)))
    have hsl := slash_int p i hlt
    have hms : (match wr.heap[it]? with | some (.stringIter _ i) => p.size - i | _ => 0) = p.size - i := by rw [HI.out]
    clear hWn HI HJr HB HBn
    by_cases h47 : (bsT p).getD i 0 = 47
    ·have e1 : (((p[i]'hlt).toNat : Int) == 47) = true := by rw [ByteArray.getElem_eq_getElem_data, hsl]; exact decide_eq_true h47
     have HPn : Hid (prefD (bsT a) (bsT p) i ++ [(2, bsT (p.extract 0 i))] = prefD (bsT a) (bsT p) (i + 1)) := lh (by rw [prefD_hit h47, bsT_take])
     obtain ⟨fn1, tmps1, assign1, body1, hy, hR⟩ := HY.out (prefD (bsT a) (bsT p) i) 2 (p.extract 0 i) Wn (HNx.out i hlt h47) (by rw [ByteArray.size_extract]; omega) (.inr (.inl rfl)) HJn.out HBWn.out
     have HRR := lh hR
     clear hR hsl h47
     gi_wp2
     refine HRR.out.mono ?_
     rintro e W3 ⟨hj0, hb'⟩
     obtain ⟨b, rfl, hj⟩ := hj0.cases
     clear hj0
     have HBS3 := lh (HBWn.out.trans (hb'.mono (S' := fun b => S b ∨ W.heap.size ≤ b) (fun _ _ h => .inl h)))
     have HI3 : Hid (W3.heap[it]? = some (.stringIter p (i + 1))) := lh ((hb'.block it (Array.getElem?_eq_some_iff.1 HIn.out).1 (fun h => by have := HSl.out it h; omega)).trans HIn.out)
     cases b with
     | false =>
      have HSt : Hid (St W3) := lh hj
      clear hj hb' hy HRR
      gi_wp2
      refine bodyPost_ret (v := .tuple #[]) ?_ rfl ⟨⟨_, rfl⟩, .inr HSt.out, HBS3.out⟩
      simp [results, Tryz.results130, go_sem, ↓IntWalk.iteOmega]
     | true =>
      have HJ3 : Hid (J (prefD (bsT a) (bsT p) (i + 1)) W3) := lh (by rw [← HPn.out]; exact hj)
      clear hj hb' hy HRR
      gi_wp2
      go_roundw
      case rel => exact ⟨i + 1, by omega, HI3, HJ3, HBS3⟩
      case measure => rw [hms, HI3.out]; show p.size - (i + 1) < p.size - i; omega
    ·have e1 : (((p[i]'hlt).toNat : Int) == 47) = false := by rw [ByteArray.getElem_eq_getElem_data, hsl]; exact decide_eq_false h47
     have HJ3 : Hid (J (prefD (bsT a) (bsT p) (i + 1)) Wn) := lh (by rw [prefD_miss h47]; exact HJn.out)
     clear hsl h47
     gi_wp2
     refine ⟨fun f h => (by cases h), ?_⟩
     gi_wp2
     go_roundw
     case rel => exact ⟨i + 1, by omega, HIn, HJ3, HBWn⟩
     case measure => rw [hms, HIn.out]; show p.size - (i + 1) < p.size - i; omega
   ·have hnx : ∀ ty, (Instr.next (.pointer (some ⟨it, 0, none⟩)) true ty).run Tryz.prog wr = _ := fun ty => next_it_end HI.out ty hlt
    have ei : i = p.size := by omega
    subst ei
    obtain ⟨fn1, tmps1, assign1, body1, hy, hR⟩ := HY.out (prefD (bsT a) (bsT p) p.size) 2 p wr HNp.out (by omega) (.inr (.inl rfl)) HJr.out HB.out
    have HRR := lh hR
    clear hR
    gi_wp2
    refine HRR.out.mono ?_
    rintro e W3 ⟨hj0, hb'⟩
    obtain ⟨b, rfl, hj⟩ := hj0.cases
    clear hj0
    have HBS3 := lh (HB.out.trans (hb'.mono (S' := fun b => S b ∨ W.heap.size ≤ b) (fun _ _ h => .inl h)))
    have hb3 : Boxed W3 bt 9 (.string t) := HBS3.out.boxed HB2.out (by have := HSn.out; rintro (h | h); exact this.2 h; omega)
    have hct := hb3.cell
    cases b with
    | false =>
     have HSt : Hid (St W3) := lh hj
     clear hj hb' hy HRR
     gi_wp2
     refine bodyPost_ret (v := .tuple #[]) ?_ rfl ⟨⟨_, rfl⟩, .inr HSt.out, HBS3.out⟩
     simp [results, Tryz.results130, go_sem, ↓IntWalk.iteOmega]
    | true =>
     have HJ3 : Hid (J (tagD (bsT a) (bsT t) 0) W3) := lh (by rw [← HT0.out]; exact hj)
     have hs3 := HBS3.out.size
     clear hj hb' hy HRR HB HJr HI hnx
     gi_wp2_with (refine ⟨trivial, ?_⟩; gi_at_call 126; refine (callsIn_wide.2 (HSp.out _)).mono ?_; rintro e w4 ⟨⟨A, c, ls, m, rfl, hrd, hls, hll⟩, hx4⟩; have HRd := lh hrd; have HLs := lh hls; have HX4 := lh hx4; have hs4 := hx4.size; clear hrd hls hx4)
     have HB4 := lh (HBS3.out.trans (ButS.of_ext HX4.out))
     have HJ4 := lh (HJ.out _ _ _ HJ3.out (ButS.of_ext HX4.out))
     have hln : ls.length = (splitT (bsT t)).length := by rw [← HLs.out, List.length_map]
     have hlna := Nat.le_of_eq hln
     have hlnb := Nat.le_of_eq hln.symm
     clear HX4 HJ3 HBS3 hb3 hct hs4 hln
     gi_loopw [50] (fun i wr => ∃ k : Nat, i = .int .i64 k ∧ k ≤ ls.length ∧ Hid (J (tagD (bsT a) (bsT t) k) wr) ∧ Hid (ButS (fun b => S b ∨ W.heap.size ≤ b) W wr) ∧ Hid (ReadsStr wr wr.heap.size A ls)) (fun i _ => ls.length - (intOf i).toNat)
     case atStart => exact ⟨0, rfl, Nat.zero_le _, HJ4, HB4, HRd⟩
     case round =>
      obtain ⟨k, rfl, hk, HJk, HB5, HR5⟩ := hrel
      have ha5 : Boxed wr ba 9 (.string a) := HB5.out.boxed HB1.out (by have := HSn.out; rintro (h | h); exact this.1 h; omega)
      have hca := ha5.cell
      clear ha5
      have hs5 := HB5.out.size
      by_cases hlt : k < ls.length
      ·have hlt2 : k < (splitT (bsT t)).length := by omega
       obtain ⟨b, off, hAe, hb, c1⟩ := ReadsStr.cell HR5.out k hlt
       subst hAe
       have hge : (splitT (bsT t))[k] = bsT ls[k] := by simp only [← HLs.out, List.getElem_map]
       have hsz : ls[k].size ≤ 900000 := by
        have := splitT_le (bsT t) _ (List.getElem_mem hlt2)
        rw [hge, bsT_size, bsT_size] at this
        omega
       have HNt : Hid (∀ cu : ByteArray, bsT cu = custB (bsT a) → NextIn (bsT a) (bsT t) (tagD (bsT a) (bsT t) k) (3, bsT (cu ++ ⟨#[58]⟩ ++ ls[k])) ∧ tagD (bsT a) (bsT t) k ++ [(3, bsT (cu ++ ⟨#[58]⟩ ++ ls[k]))] = tagD (bsT a) (bsT t) (k + 1)) := lh (fun cu hcu => by
        rw [bsT_colon, hcu, tagD_succ hlt2, ← hge]
        exact ⟨next_tag hlt2, rfl⟩)
       generalize ls[k] = x at *
       clear hge
       gi_wp2_with (refine ⟨trivial, ?_⟩; gi_at_call 67; refine (show Hid _ from ?_).out)
       refine lh ?_
       refine (callsIn_wide.2 (HCu.out _)).mono ?_
       rintro e w6 ⟨⟨cu, rfl, hcu, hcs⟩, hx6⟩
       obtain ⟨hn1', hn2'⟩ := HNt.out cu hcu
       have HPn := lh hn2'
       have HJ6 := lh (HJ.out _ _ w6 HJk.out (ButS.of_ext hx6))
       have HB6 := lh (HB5.out.trans (ButS.of_ext hx6))
       have HR6 := lh (HR5.out.on hx6)
       have hs6 := hx6.size
       obtain ⟨fn1, tmps1, assign1, body1, hy, hR⟩ := HY.out (tagD (bsT a) (bsT t) k) 3 (cu ++ ⟨#[58]⟩ ++ x) w6 hn1' (by rw [ByteArray.size_append, ByteArray.size_append]; show cu.size + 1 + x.size ≤ _; omega) (.inr (.inr rfl)) HJ6.out HB6.out
       have HRR := lh hR
       clear hR hn1' hn2' hcu hx6 HNt
       gi_wp2
       refine HRR.out.mono ?_
       rintro e W7 ⟨hj0, hb'⟩
       obtain ⟨b', rfl, hj⟩ := hj0.cases
       clear hj0
       have HB7 := lh (HB6.out.trans (hb'.mono (S' := fun b => S b ∨ W.heap.size ≤ b) (fun _ _ h => .inl h)))
       have HR7 := lh (reads_butS HR6.out hb' (HJS.out _ _ HJ6.out))
       cases b' with
       | false =>
        have HSt : Hid (St W7) := lh hj
        clear hj hb' hy HRR
        gi_wp2
        refine bodyPost_ret (v := .tuple #[]) ?_ rfl ⟨⟨_, rfl⟩, .inr HSt.out, HB7.out⟩
        simp [results, Tryz.results130, go_sem, ↓IntWalk.iteOmega]
       | true =>
        have HJ7 : Hid (J (tagD (bsT a) (bsT t) (k + 1)) W7) := lh (by rw [← HPn.out]; exact hj)
        clear hj hb' hy HRR
        gi_wp2
        go_roundw
        case rel => exact ⟨k + 1, by go_num, by omega, HJ7, HB7, HR7⟩
        case measure => simp [intOf]; omega
      ·have HJe : Hid (J (namesB (bsT a) (bsT t)) wr) := lh (by rw [← names_end, show (splitT (bsT t)).length = k by omega]; exact HJk.out)
       gi_wp2
       go_end0
       exact ⟨⟨_, rfl⟩, .inl HJe.out, HB5.out⟩
end
end Go.Proofs.YtpojnhikgjcgmaaGreatDoor

namespace Go.Proofs.YtpojnhikgjcgmaaGreatDoor
open Go.RowKit Go.Shelf Go.Maps
open Go.Proofs
open Ad (Bs)
theorem zeroIntC (w : World) : (zeroValue 3).run Tryz.prog w = .ok (.int .i64 0) w := by kernel_rfl
theorem zeroBoolC (w : World) : (zeroValue 4).run Tryz.prog w = .ok (.bool false) w := by kernel_rfl
theorem tab_look {w : World} {l : List Ep} {cs : Array Value} (h : TabAt w l (.agg cs)) :
  ∃ mu mr, cs = #[.map mu, .map mr, .int .i64 (lastNum l)] ∧
   (∀ W, Ext w W → ∀ (k : WK) (lo : Int), wkOk k → ∃ c is, (Instr.lookup 49 (.map mu) (whatC k.1 k.2.1 k.2.2) true).run Tryz.prog W = .ok (.tuple #[.int .i64 c, .bool is]) W ∧ (is && decide (lo ≤ c)) = lateB (untK l k) lo) ∧
   (∀ W, Ext w W → ∀ d, dkOk d → (Instr.lookup 50 (.map mr) (digC d) false).run Tryz.prog W = .ok (.bool (revokedB l d)) W) := by
 rcases h with ⟨rfl, h⟩ | ⟨bu, nu, br, nr, Du, Dr, h, hne, hu, hr, _, _, HU, HR⟩
 ·injection h with h
  refine ⟨none, none, h, ?_, ?_⟩
  ·intro W _ k lo hk
   exact ⟨0, false, Maps.look_nil true key_what Tryz.underlying49 (zeroIntC W) (what_key k.1 k.2.1 k.2.2 hk.1 hk.2), rfl⟩
  ·intro W _ d hd
   exact Maps.look_nil false key_dig Tryz.underlying50 (zeroBoolC W) (dig_key d hd.1 hd.2)
 ·injection h with h
  refine ⟨some bu, some br, h, ?_, ?_⟩
  ·intro W hW k lo hk
   have hu' := ownsMap_ext hu hW
   obtain ⟨c, h1, h2, _⟩ := ownsMap_okI hu' key_what Tryz.underlying49 Tryz.underlying3 (zeroIntC W) (what_key k.1 k.2.1 k.2.2 hk.1 hk.2)
   refine ⟨c, _, h1, ?_⟩
   have h3 := HU.out.has k hk
   have h4 := HU.out.at' k hk (.lit (.int .i64 0))
   have h5 : Maps.has Du (whatL k.1 k.2.1 k.2.2) = ((untK l k).map (Lit.int .i64)).isSome := h3
   rw [h5]
   cases hq : untK l k with
   | none => rfl
   | some u =>
    rw [hq] at h4
    have h6 : Du.atKey (whatL k.1 k.2.1 k.2.2) (.lit (.int .i64 0)) = .lit (.int .i64 u) := h4
    rw [h2] at h6
    have h7 : c = u := (Lit.int.inj (DataW.lit.inj h6)).2
    rw [h7]
    rfl
  ·intro W hW d hd
   obtain ⟨c, h1, h2⟩ := ownsMap_B (ownsMap_ext hr hW) key_dig Tryz.underlying50 Tryz.underlying4 (zeroBoolC W) (dig_key d hd.1 hd.2)
   rw [h1, revF_at HR.out hd h2]
def HitJ (l : List Ep) (soft : Bool) (lo : Int) (rc b4 : Nat) (rdy : Obj) (done : List (Int × Bs)) (W : World) : Prop :=
 missD l soft lo done ∧ Boxed W b4 4 (.bool false) ∧ W.heap[rc]? = some rdy
def HitSt (l : List Ep) (soft : Bool) (lo : Int) (a t : Bs) (rc b4 : Nat) (rdy : Obj) (W : World) : Prop :=
 hitT l soft lo a t = true ∧ Boxed W b4 4 (.bool true) ∧ W.heap[rc]? = some (doneOf .ret rdy)
theorem results_one {P : Program} {fn : Func} {tmps : Array Value} {w : World} {r1 : ResultVar} {v1 : Value} (h : fn.results = #[r1]) (h1 : ResIs P w tmps v1 r1) : (results fn tmps).run P w = .ok v1 w := by
 cases r1 with
 | tmp t1 => simp only [ResIs] at h1; simp [results, h, h1]
 | cell a1 ty1 =>
  obtain ⟨ad1, k1, k2⟩ := h1
  simp [results, h, k1, asAddr, k2]
def whB3 (x y z : Value) : Sem Next := do pure (.value (← Instr.build 118 #[(0, x), (1, y), (2, z)]))
theorem whB3_x (ρ : Operand → Value) (dst : Option Tmp) (x y z : Operand) (t : TypeId) (pos : String) (after : Array Edge) (guard : Option (Nat × Bool)) : execOp ρ { dst, op := .build 118 #[(0, x), (1, y), (2, z)], type := t, pos, after, guard } = whB3 (ρ x) (ρ y) (ρ z) := by kernel_rfl
theorem whB3_run (k : Int) (t : ByteArray) (s : Bool) (W : World) : (whB3 (.int .i64 k) (.string t) (.bool s)).run Tryz.prog W = .ok (.value (whatC k t s)) W := by kernel_rfl
section
attribute [local go_sem] Oper.semAt_some size_one
attribute [local go_sem ↓] whB3_x
attribute [local go_sem] whB3_run
theorem hit_any (l : List Ep) (soft : Bool) (s : St) (bs btb : Nat) (cs : Array Value) (w : World) (hrs : RowAt w bs (stmC s)) (htb : RowAt w btb cs) (hT : TabAt w l (.agg cs)) (hsa : s.addr.size ≤ 900000) (hst : s.tags.size ≤ 900000) (hasc : ∀ c ∈ bsT s.addr, c.toNat < 128) :
  Calls Tryz.prog 73 #[.bool soft, .pointer (some ⟨bs, 0, none⟩), .pointer (some ⟨btb, 0, none⟩)] w fun e w' => e = .returned (.bool (hitT l soft s.lo (bsT s.addr) (bsT s.tags))) ∧ Ext w w' := by
 obtain ⟨mu, mr, rfl, hlu, _⟩ := tab_look hT
 have HLu := lh hlu
 have HT := lh hT
 have HN := lh (fun W => names_any s.addr s.tags W)
 have l1 := hrs.lt
 have l2 := htb.lt
 have HRS := lh hrs
 have HTB := lh htb
 have q0 : w.cell? ⟨bs, 0, none⟩ = some (.string s.addr) := (hrs.cell 0).trans (stm_g0 s)
 have q20 : w.cell? ⟨bs, 20, none⟩ = some (.string s.tags) := (hrs.cell 20).trans (stm_g20 s)
 clear hlu hT hrs htb
 refine (callsIn_wide (n := 4)).1 ?_
 refine callsIn_of_wp_marks Tryz.func73 rfl trivial ?_ rfl
 simp only [Tryz.ntmps73, List.size_toArray, List.length_cons, List.length_nil, Nat.reduceAdd, Nat.reduceSub, Array.replicate_succ, Array.replicate_zero, List.push_toArray, List.append_toArray, List.nil_append, List.cons_append]
 gi_wp2_with (refine ⟨trivial, ?_⟩; gi_at_call 74; refine (callsIn_wide.2 (HN.out _)).mono ?_; rintro e w' ⟨rfl, rfl⟩)
 obtain ⟨W0, hW0⟩ : ∃ W0, ((((w.alloc (.cells #[.bool soft] 4)).alloc (.cells #[.bool false] 4)).alloc (.cells #[.string s.addr] 9)).alloc (.cells #[.string s.tags] 9)) = W0 := ⟨_, rfl⟩
 have b3 : Boxed W0 w.heap.size 4 (.bool soft) := by rw [← hW0]; exact (((Boxed.new w 4 _).alloc _).alloc _).alloc _
 have b4 : Boxed W0 (w.heap.size + 1) 4 (.bool false) := by
  rw [← hW0]
  have := Boxed.new (w.alloc (.cells #[.bool soft] 4)) 4 (.bool false); rw [World.size_alloc] at this; exact (this.alloc _).alloc _
 have ba : Boxed W0 (w.heap.size + 1 + 1) 9 (.string s.addr) := by
  rw [← hW0]
  have := Boxed.new ((w.alloc (.cells #[.bool soft] 4)).alloc (.cells #[.bool false] 4)) 9 (.string s.addr); rw [World.size_alloc, World.size_alloc] at this; exact this.alloc _
 have bt : Boxed W0 (w.heap.size + 1 + 1 + 1) 9 (.string s.tags) := by
  rw [← hW0]
  have := Boxed.new (((w.alloc (.cells #[.bool soft] 4)).alloc (.cells #[.bool false] 4)).alloc (.cells #[.string s.addr] 9)) 9 (.string s.tags); rw [World.size_alloc, World.size_alloc, World.size_alloc] at this; exact this
 have bs0 : W0.heap.size = w.heap.size + 4 := by rw [← hW0]; simp
 have bx : Ext w W0 := by rw [← hW0]; exact ((((eR _).alloc _).alloc _).alloc _).alloc _
 rw [hW0]
 clear hW0 q0 q20
 have hbs1 := Nat.le_of_eq bs0
 have hbs2 := Nat.le_of_eq bs0.symm
 clear bs0
 refine rf_enter2 rfl (by omega) (gf := 130) (lb := #[.pointer (some ⟨w.heap.size + 1 + 1, 0, none⟩), .pointer (some ⟨w.heap.size + 1 + 1 + 1, 0, none⟩)]) rfl trivial (enters_of Tryz.func130 (by kernel_rfl) rfl) ?_
 intro fn WL rdy hfn hrdy hE hEs hl0 hD0
 have hEa := Nat.le_of_eq hEs
 have hEb := Nat.le_of_eq hEs.symm
 clear hEs
 refine CallsIn.mono (names1_in (4 - 1) (by omega) (W0.heap.size + 1) (w.heap.size + 1 + 1) (w.heap.size + 1 + 1 + 1) s.addr s.tags WL hsa hst hasc (Boxed.ext ba hE) (Boxed.ext bt hE)
  (fun k => k = W0.heap.size + 1 ∨ k = w.heap.size + 1) ⟨by omega, by omega⟩ (fun k hk => by omega)
  (HitJ l soft s.lo (W0.heap.size + 1) (w.heap.size + 1) rdy)
  (HitSt l soft s.lo (bsT s.addr) (bsT s.tags) (W0.heap.size + 1) (w.heap.size + 1) rdy)
  ⟨miss_nil _ _ _, Boxed.ext b4 hE, hl0⟩
  (fun d W1 W2 ⟨h1, h2, h3⟩ hx => ⟨h1, hx.boxed h2 (by omega), (hx.block _ (Array.getElem?_eq_some_iff.1 h3).1 (by omega)).trans h3⟩)
  (fun d W1 ⟨h1, h2, h3⟩ k hk i x => by
   rcases hk with rfl | rfl
   ·rw [hrdy] at h3
    simp [World.cell?, h3, recOf]
   ·unfold Boxed at h2
    simp only [World.cell?, h2]
    rcases i with _ | i
    ·simp
    ·simp) ?hY) ?post
 case hY =>
  rintro done k x W1 hnx hxs hk3 ⟨hms, hb4, hrec⟩ hBS
  have hsz1 := hBS.size
  have hlt := (Array.getElem?_eq_some_iff.1 hrec).1
  have hE1 : Ext w W1 := ((ButS.of_ext (bx.trans hE)).trans hBS).toExt (fun j hj e => by omega)
  have HE1 := lh hE1
  have HB3 := lh (hBS.boxed (Boxed.ext b3 hE) (by omega))
  have HB4 := lh hb4
  have HMs := lh hms
  have HNx := lh hnx
  have hok : wkOk (k, x, soft) := ⟨by show (Lit.int .i64 k).wf = true; rcases hk3 with rfl | rfl | rfl <;> decide, by show x.size ≤ maxLen; unfold maxLen; omega⟩
  have HRdy := lh hrdy
  rw [hrdy] at hrec
  clear hrdy hms hnx hb4 hE1 hk3
  refine rf_round hrec hfn rfl ?_
  have HREC := lh hrec
  clear hrec
  gi_wp2
  refine ⟨(Array.getElem?_eq_some_iff.1 HREC.out).2, ?_⟩
  intro W2 hbt hs2 hr2
  have hs2a : W2.heap.size ≤ W1.heap.size := Nat.le_of_eq hs2
  have hs2b : W1.heap.size ≤ W2.heap.size := Nat.le_of_eq hs2.symm
  have hE2 : Ext w W2 := ((ButS.of_ext HE1.out).trans (ButS.of_but (S := fun j => w.heap.size ≤ j) hbt (.inr (by omega)))).toExt (fun j hj e => by omega)
  have HB42 := lh (boxed_but HB4.out hbt (by omega))
  have q3 := (boxed_but HB3.out hbt (by omega)).cell
  have c4 := HB42.out.cell
  have c4f := HB42.out.frozen
  have q21 : W2.cell? ⟨bs, 21, none⟩ = some (.int .i64 s.lo) := (hE2.cell (p := ⟨bs, 21, none⟩) l1).trans ((HRS.out.cell 21).trans (stm_g21 s))
  have qt : W2.cell? ⟨btb, 0, none⟩ = some (.map mu) := (hE2.cell (p := ⟨btb, 0, none⟩) l2).trans (HTB.out.cell 0)
  obtain ⟨c, is, hlk, hcd⟩ := HLu.out W2 hE2 (k, x, soft) s.lo hok
  have HCd : Hid ((is && decide (s.lo ≤ c)) = lateB (untilB l k (bsT x) soft) s.lo) := lh hcd
  have HBt := lh hbt
  have HR2 := lh hr2
  clear hbt hr2 hs2 hcd hE2 hok
  cases is with
  | false =>
   have HM2 : Hid (missD l soft s.lo (done ++ [(k, bsT x)])) := lh (miss_snoc HMs.out (by rw [← HCd.out]; rfl))
   clear HCd HMs
   gi_wp2
   refine ⟨HR2.out, ?_⟩
   intro W4 hb4' hr4
   exact ⟨.inl ⟨rfl, HM2.out, boxed_but HB42.out hb4' (by omega), by rw [HRdy.out]; exact hr4⟩, (ButS.of_but HBt.out (.inr (.inl rfl))).trans (ButS.of_but hb4' (.inr (.inl rfl)))⟩
  | true =>
   by_cases hlc : s.lo ≤ c
   ·have d1 : decide (s.lo ≤ c) = true := decide_eq_true hlc
    have HHt : Hid (hitT l soft s.lo (bsT s.addr) (bsT s.tags) = true) := lh (next_hit HNx.out (by show lateB (untilB l k (bsT x) soft) s.lo = true; rw [← HCd.out, d1]; rfl))
    clear HCd HMs
    gi_wp2
    refine ⟨?_, ?_⟩
    ·exact (Below.heap_setCell _ _ _ _ (by show _ ≠ w.heap.size + 1; omega)).trans HR2.out
    intro W4 hb4' hr4
    exact ⟨.inr ⟨rfl, HHt.out, boxed_but (HB42.out.set _) hb4' (by omega), by rw [HRdy.out]; exact hr4⟩, ((ButS.of_but HBt.out (.inr (.inl rfl))).setCell (p := ⟨w.heap.size + 1, 0, none⟩) (.inl (.inr rfl)) _).trans (ButS.of_but hb4' (.inr (.inl rfl)))⟩
   ·have d1 : decide (s.lo ≤ c) = false := decide_eq_false hlc
    have HM2 : Hid (missD l soft s.lo (done ++ [(k, bsT x)])) := lh (miss_snoc HMs.out (by show lateB (untilB l k (bsT x) soft) s.lo = false; rw [← HCd.out, d1]; rfl))
    clear HCd HMs
    gi_wp2
    refine ⟨HR2.out, ?_⟩
    intro W4 hb4' hr4
    exact ⟨.inl ⟨rfl, HM2.out, boxed_but HB42.out hb4' (by omega), by rw [HRdy.out]; exact hr4⟩, (ButS.of_but HBt.out (.inr (.inl rfl))).trans (ButS.of_but hb4' (.inr (.inl rfl)))⟩
 case post =>
  rintro e W' ⟨⟨v', rfl⟩, hJS, hB⟩
  have HOut : ButS (fun k => w.heap.size ≤ k) w W' := (ButS.of_ext (bx.trans hE)).trans (hB.mono (fun k _ e => by omega))
  have HO1 := lh HOut
  have hszB := hB.size
  have hD1 : W'.heap[W0.heap.size]? = some (.deferred (some [])) := (hB.block _ (by omega) (by omega)).trans hD0
  refine ⟨⟨_, rfl⟩, ?_⟩
  rcases hJS with ⟨hms, hb4, hrec⟩ | ⟨hht, hb4, hrec⟩
  ·refine .inl ⟨hrec, ?_⟩
   intro W'' hBut
   have HK : Hid (W''.heap[W0.heap.size]? = some (.deferred (some []))) := lh ((hBut.block _ (by omega) (fun e => by injection e; omega)).trans hD1)
   have hq4 := boxed_but hb4 hBut (by omega)
   have k4 := hq4.cell
   have k4f := hq4.frozen
   have HQ4 := lh hq4
   have HBu : Hid (ButS (fun k => w.heap.size ≤ k) w W'') := lh (HO1.out.trans (ButS.of_but hBut (.inr (by omega))))
   have HF := lh (miss_hit hms)
   clear hms hb4 hrec hBut hD1 hD0 hB HOut hl0 b3 b4 ba bt HO1 hq4
   gi_wp2
   have hK2 : (W''.setCell ⟨w.heap.size + 1, 0, none⟩ (.bool false)).heap[W0.heap.size]? = some (.deferred (some [])) := (Below.heap_setCell _ _ _ _ (by show _ ≠ w.heap.size + 1; omega)).trans HK.out
   refine ⟨by simp, .inl ⟨_, _, rfl, run_takeDeferred hK2, ?_⟩⟩
   have hgb := grownBy_putObj' (W''.setCell ⟨w.heap.size + 1, 0, none⟩ (.bool false)) W0.heap.size (.deferred none)
   refine ⟨.bool false, results_one Tryz.results73 ⟨_, rfl, load_bool (boxed_but (HQ4.out.set _) hgb (by omega))⟩, ?_, ?_⟩
   ·exact ret_bool HF.out.symm
   ·exact ((HBu.out.setCell (p := ⟨w.heap.size + 1, 0, none⟩) (.inl (by show _ ≤ w.heap.size + 1; omega)) _).trans (ButS.of_but hgb (.inr (by omega)))).toExt (fun k hk => by omega)
  ·refine .inr ⟨_, hrec, ?_⟩
   intro W'' hBut
   have HK : Hid (W''.heap[W0.heap.size]? = some (.deferred (some []))) := lh ((hBut.block _ (by omega) (fun e => by injection e; omega)).trans hD1)
   have HQ4 := lh (boxed_but hb4 hBut (by omega))
   have HBu : Hid (ButS (fun k => w.heap.size ≤ k) w W'') := lh (HO1.out.trans (ButS.of_but hBut (.inr (by omega))))
   have HF := lh hht
   clear hht hb4 hrec hBut hD1 hD0 hB HOut hl0 b3 b4 ba bt HO1
   gi_wp2
   refine ⟨by simp, .inl ⟨_, _, rfl, run_takeDeferred HK.out, ?_⟩⟩
   have hgb := grownBy_putObj' W'' W0.heap.size (.deferred none)
   refine ⟨.bool true, results_one Tryz.results73 ⟨_, rfl, load_bool (boxed_but HQ4.out hgb (by omega))⟩, ?_, ?_⟩
   ·exact ret_bool HF.out.symm
   ·exact (HBu.out.trans (ButS.of_but hgb (.inr (by omega)))).toExt (fun k hk => by omega)
end
theorem digC_row {a : List Int} (h : a.length = 16) : Value.agg (dgC a) = digC a := by rw [dgC_cells h]; rfl
theorem tstate_any (l : List Ep) (s : St) (cs : Array Value) (w : World) (hT : TabAt w l (.agg cs)) (hsa : s.addr.size ≤ 900000) (hst : s.tags.size ≤ 900000) (hasc : ∀ c ∈ bsT s.addr, c.toNat < 128) :
  Calls Tryz.prog 26 #[.agg cs, .agg (stmC s)] w fun e w' => e = .returned (.int .i64 (tableB l s.lo (bsT s.addr) (bsT s.tags))) ∧ Ext w w' := by
 have HH := lh (fun (soft : Bool) (W : World) (bs btb : Nat) (h1 : RowAt W bs (stmC s)) (h2 : RowAt W btb cs) (h3 : Ext w W) => hit_any l soft s bs btb cs W h1 h2 (hT.on h3) hsa hst hasc)
 have HV : Hid (tableB l s.lo (bsT s.addr) (bsT s.tags) = if hitT l false s.lo (bsT s.addr) (bsT s.tags) = true then 2 else if hitT l true s.lo (bsT s.addr) (bsT s.tags) = true then 1 else 0) := lh rfl
 have hfs := stm_fits s
 generalize tableB l s.lo (bsT s.addr) (bsT s.tags) = R at *
 have HH1 := lh (fun W bs btb h1 h2 h3 => HH.out false W bs btb h1 h2 h3)
 have HH2 := lh (fun W bs btb h1 h2 h3 => HH.out true W bs btb h1 h2 h3)
 generalize hitT l false s.lo (bsT s.addr) (bsT s.tags) = b1 at *
 generalize hitT l true s.lo (bsT s.addr) (bsT s.tags) = b2 at *
 clear HH hT hasc
 go_enter Tryz.func26, Tryz.ntmps26
 go_upto_region 1 with (fail)
 refine wp_world (fun W => Ext w W ∧ RowAt W w.heap.size cs ∧ RowAt W (w.heap.size + 1) (stmC s)) ⟨(by (with_reducible repeat first|exact eR _|apply eD|apply eN|apply eA|apply eO|apply eS|apply eC);all_goals first|omega|simp <;> omega), (RowAt.new _ _ _).alloc _, RowAt.newAt (by simp)⟩ ?_
 obtain ⟨B, hB⟩ : ∃ B, w.heap.size = B := ⟨_, rfl⟩
 rw [hB]
 rintro W1 ⟨x1, u0, u1⟩
 have HX1 := lh x1
 have HU0 := lh u0
 have HU1 := lh u1
 clear x1 u0 u1
 go_wp2_with (go_at_call 73; refine (show Hid _ from ?_).out)
 refine lh ?_
 refine (HH1.out W1 _ _ HU1.out HU0.out HX1.out).mono ?_
 rintro e w' ⟨rfl, hxl⟩; obtain ⟨xl, rfl⟩ := hxl.asLater; clear hxl
 cases b1 with
 | true =>
  have HR : Hid (R = 2) := lh (by rw [HV.out]; rfl)
  go_wp2
  go_ret
  exact ⟨ret_int HR.out.symm, (by (with_reducible repeat first|exact HX1.out|exact eR _|apply eD|apply eN|apply eA|apply eO|apply eS|apply eC);all_goals first|omega|simp <;> omega)⟩
 | false =>
  go_wp2_with (go_at_call 73; refine (show Hid _ from ?_).out)
  refine lh ?_
  refine (HH2.out (later W1 xl) _ _ (HU1.out.later _) (HU0.out.later _) (HX1.out.onto _)).mono ?_
  rintro e w' ⟨rfl, hxl⟩; obtain ⟨xl, rfl⟩ := hxl.asLater; clear hxl
  cases b2 with
  | true =>
   have HR : Hid (R = 1) := lh (by rw [HV.out]; rfl)
   go_wp2
   go_ret
   exact ⟨ret_int HR.out.symm, (by (with_reducible repeat first|exact HX1.out|exact eR _|apply eD|apply eN|apply eA|apply eO|apply eS|apply eC);all_goals first|omega|simp <;> omega)⟩
  | false =>
   have HR : Hid (R = 0) := lh (by rw [HV.out]; rfl)
   go_wp2
   go_ret
   exact ⟨ret_int HR.out.symm, (by (with_reducible repeat first|exact HX1.out|exact eR _|apply eD|apply eN|apply eA|apply eO|apply eS|apply eC);all_goals first|omega|simp <;> omega)⟩
theorem trevoked_any (l : List Ep) (d : List Int) (cs : Array Value) (w : World) (hT : TabAt w l (.agg cs)) (hd : dkOk d) :
  Calls Tryz.prog 27 #[.agg cs, .agg (dgC d)] w fun e w' => e = .returned (.bool (revokedB l d)) ∧ Ext w w' := by
 obtain ⟨mu, mr, rfl, _, hlr⟩ := tab_look hT
 have HLr := lh (fun W hx => hlr W hx d hd)
 rw [← digC_row hd.1] at HLr
 have hft : fitsRow 16 (dgC d) = true := by simp [fitsRow, dgC, Value.oneCell']
 generalize revokedB l d = R at *
 clear hlr hT hd
 go_enter Tryz.func27, Tryz.ntmps27
 go_upto_region 1 with (fail)
 refine wp_world (fun W => Ext w W ∧ RowAt W w.heap.size #[.map mu, .map mr, .int .i64 (lastNum l)] ∧ RowAt W (w.heap.size + 1) (dgC d)) ⟨(by (with_reducible repeat first|exact eR _|apply eD|apply eN|apply eA|apply eO|apply eS|apply eC);all_goals first|omega|simp <;> omega), (RowAt.new _ _ _).alloc _, RowAt.newAt (by simp)⟩ ?_
 obtain ⟨B, hB⟩ : ∃ B, w.heap.size = B := ⟨_, rfl⟩
 rw [hB]
 rintro W1 ⟨x1, u0, u1⟩
 have HX1 := lh x1
 have hlk := HLr.out W1 x1
 have q1 : W1.cell? ⟨B, 1, none⟩ = some (.map mr) := u0.cell 1
 have k0 : rowOf W1 (B + 1) 0 16 = some (dgC d) := u1.all rfl (by omega)
 clear x1 u0 u1
 go_wp2
 go_ret
 exact ⟨rfl, (by (with_reducible repeat first|exact HX1.out|exact eR _|apply eD|apply eN|apply eA|apply eO|apply eS|apply eC);all_goals first|omega|simp <;> omega)⟩
end Go.Proofs.YtpojnhikgjcgmaaGreatDoor

namespace Go.Proofs.YtpojnhikgjcgmaaGreatDoor
open Go.RowKit Go.Shelf
open Go.Proofs
open Ad (Bs cutB)
def adA : ByteArray := ⟨#[97, 99, 109, 101, 47, 97]⟩
def adAB : ByteArray := ⟨#[97, 99, 109, 101, 47, 97, 47, 98]⟩
def adab : ByteArray := ⟨#[97, 99, 109, 101, 47, 97, 98]⟩
def adQ : ByteArray := ⟨#[97, 99, 109, 101, 47, 97, 63, 120, 61, 49]⟩
def adX : ByteArray := ⟨#[97, 99, 109, 101, 47, 120]⟩
def boltX : ByteArray := ⟨#[98, 111, 108, 116, 47, 120]⟩
def adN : ByteArray := ⟨#[97, 99, 109, 101, 58, 110, 101, 119, 115]⟩
def hotN : ByteArray := ⟨#[104, 111, 116, 44, 110, 101, 119, 115]⟩
def newsB : ByteArray := ⟨#[110, 101, 119, 115]⟩
def noB : ByteArray := ⟨#[]⟩
def puA : Pu := ⟨1, adA, false⟩
def puP : Pu := ⟨2, adA, false⟩
def puN : Pu := ⟨3, adN, false⟩
def puS : Pu := ⟨3, adN, true⟩
theorem hit_1 : hitsB puA (bsT adA) (bsT noB) = true := by rw [hits1 rfl]; decide
theorem hit_2 : hitsB puA (bsT adAB) (bsT noB) = false := by rw [hits1 rfl]; decide
theorem hit_3 : hitsB puP (bsT adAB) (bsT noB) = true := by rw [hits2 rfl]; decide +kernel
theorem hit_4 : hitsB puP (bsT adab) (bsT noB) = false := by rw [hits2 rfl]; decide +kernel
theorem hit_5 : hitsB puP (bsT adQ) (bsT noB) = true := by rw [hits2 rfl]; decide +kernel
theorem tags_hot : Tg.tagsB (bsT hotN) = true := by
 rw [Tg.tags_of (l := [[104, 111, 116], [110, 101, 119, 115]]) (m := [[104, 111, 116], [110, 101, 119, 115]]) (by have := Ad.pieces_cut 44 (bsT hotN); rwa [show Ad.pieces 44 (bsT hotN) = [[104, 111, 116], [110, 101, 119, 115]] from by decide +kernel] at this) (by decide) (by decide +kernel) (by unfold Tg.Asc; decide +kernel) (fun x => Iff.rfl) (by decide)]
 decide +kernel
theorem tags_news : Tg.tagsB (bsT newsB) = true := by
 rw [Tg.tags_of (l := [[110, 101, 119, 115]]) (m := [[110, 101, 119, 115]]) (by have := Ad.pieces_cut 44 (bsT newsB); rwa [show Ad.pieces 44 (bsT newsB) = [[110, 101, 119, 115]] from by decide +kernel] at this) (by decide) (by decide +kernel) (by unfold Tg.Asc; decide +kernel) (fun x => Iff.rfl) (by decide)]
 decide +kernel
theorem split_hot : splitT (bsT hotN) = [[104, 111, 116], [110, 101, 119, 115]] := by unfold splitT; rw [if_neg (by decide), if_pos tags_hot]; decide +kernel
theorem split_news : splitT (bsT newsB) = [[110, 101, 119, 115]] := by unfold splitT; rw [if_neg (by decide), if_pos tags_news]; decide +kernel
theorem hit_6 : hitsB puN (bsT adX) (bsT hotN) = true := by rw [hits3 (by decide) (by decide), split_hot]; decide +kernel
theorem hit_7 : hitsB puN (bsT boltX) (bsT hotN) = false := by rw [hits3 (by decide) (by decide), split_hot]; decide +kernel
theorem hit_8 : hitsB puN (bsT adX) (bsT newsB) = true := by rw [hits3 (by decide) (by decide), split_news]; decide +kernel
theorem hit_9 : hitsB puS (bsT adX) (bsT newsB) = true := by rw [hits3 (by decide) (by decide), split_news]; decide +kernel
def e1E (A : Option Addr) (p : Pu) : Ep := ⟨1, zeros32 16, 10, 20, A, 1, [p], none, 0, [], 0, zeros32 16⟩
def e1S (lo hi : Int) : St := ⟨adX, ByteArray.empty, 0, 0, zeros32 16, newsB, lo, hi, 0, 0, zeros32 16⟩
theorem rem_1 (A : Option Addr) : removesB (e1E A puN) 20 (bsT adX) (bsT newsB) = 2 := by
 unfold removesB
 rw [if_neg (by show ¬ (20 : Int) < 20; omega)]
 show (if ([puN].any fun p => hitsB p (bsT adX) (bsT newsB) && !p.soft) = true then (2 : Int) else _) = 2
 rw [if_pos]
 rw [List.any_cons, hit_8]
 rfl
theorem rem_2 (A : Option Addr) : removesB (e1E A puN) 21 (bsT adX) (bsT newsB) = 0 := by
 unfold removesB
 rw [if_pos (by show (20 : Int) < 21; omega)]
theorem rem_3 (A : Option Addr) : removesB (e1E A puS) 5 (bsT adX) (bsT newsB) = 1 := by
 unfold removesB
 rw [if_neg (by show ¬ (20 : Int) < 5; omega)]
 show (if ([puS].any fun p => hitsB p (bsT adX) (bsT newsB) && !p.soft) = true then (2 : Int) else if ([puS].any fun p => hitsB p (bsT adX) (bsT newsB)) = true then 1 else 0) = 1
 rw [if_neg, if_pos]
 ·rw [List.any_cons, hit_9]; rfl
 ·rw [List.any_cons, hit_9]; decide
def e1K : Ky := ⟨1, 1, ⟨#[115]⟩, 0, 100⟩
def d7 : List Int := [7, 0, 0, 0, 0, 0, 0, 0, 0, 0, 0, 0, 0, 0, 0, 0]
def d8 : List Int := [8, 0, 0, 0, 0, 0, 0, 0, 0, 0, 0, 0, 0, 0, 0, 0]
def e1I (A A2 : Option Addr) : Ep := ⟨0, zeros32 16, 10, 20, A, 1, [puN], A2, 1, [d7], 0, zeros32 16⟩
theorem okPu_N : okPu puN = true := by decide +kernel
theorem okEp_e1 (A : Option Addr) : okEp (e1E A puN) = true := by
 unfold okEp
 show (decide ((1 : Int) ≥ 1) && decide ((1 : Int) ≤ 1099511627776) && okClk ⟨10, 20⟩ && decide (max (([puN] : List Pu).length : Int) (([] : List (List Int)).length : Int) ≤ 1000) && [puN].all okPu) = true
 rw [List.all_cons, okPu_N]
 decide
theorem iss_e1 (A A2 : Option Addr) : issueE e1K [] (e1I A A2) = 0 := by
 have h : okEp (issueX e1K [] (e1I A A2)) = true := by
  unfold okEp
  show (decide (((([] : List Ep).length : Int)) + 1 ≥ 1) && decide (((([] : List Ep).length : Int)) + 1 ≤ 1099511627776) && okClk ⟨10, 20⟩ && decide (max (([puN] : List Pu).length : Int) (([d7] : List (List Int)).length : Int) ≤ 1000) && [puN].all okPu) = true
  rw [List.all_cons, okPu_N]
  decide
 unfold issueE followsN
 rw [if_pos h, if_pos ⟨rfl, rfl⟩, if_neg]
 show ¬ ((10 : Int) < 0 ∨ (20 : Int) < 0)
 omega
theorem ring_e1 : RingOk [e1K] := ringB_is (by decide +kernel)
theorem app_e1 (A A2 : Option Addr) : appendE [e1K] [] (issueX e1K [] (e1I A A2)) = 0 := by
 have hf : followsN [] (issueX e1K [] (e1I A A2)) = 0 := iss_e1 A A2
 unfold appendE
 rw [if_pos hf]
 unfold checkEp checkR checkOut
 have h0 : keyN [e1K] 1 1 = some e1K := rfl
 have h1 : keyE [e1K] 1 1 = 0 := by unfold keyE; rw [h0]; rfl
 have h2 : keyF [e1K] 1 1 = e1K := by unfold keyF; rw [h0]; rfl
 show (if keyE [e1K] 1 1 = 0 then if countB (keyF [e1K] 1 1) 10 20 = true then if makeN (keyF [e1K] 1 1) 42 (epParts { nextEp [] (e1I A A2) with serial := 1 }) = makeN e1K 42 (epParts { nextEp [] (e1I A A2) with serial := 1 }) then 0 else 8 else 9 else keyE [e1K] 1 1) = 0
 rw [if_pos h1, h2, if_pos (by decide), if_pos rfl]
theorem okEp_i1 (A A2 : Option Addr) : okEp (issueX e1K [] (e1I A A2)) = true := (follows_is (iss_e1 A A2)).1
theorem tab_e1 (A A2 : Option Addr) : tableB [issueX e1K [] (e1I A A2)] 20 (bsT adX) (bsT newsB) = 2 := by
 rw [table_state (fun e he => by rw [List.mem_singleton] at he; rw [he]; exact okEp_i1 A A2) (by decide +kernel)]
 have h : removesB (issueX e1K [] (e1I A A2)) 20 (bsT adX) (bsT newsB) = 2 := by
  unfold removesB
  rw [if_neg (by show ¬ (20 : Int) < 20; omega)]
  show (if ([puN].any fun p => hitsB p (bsT adX) (bsT newsB) && !p.soft) = true then (2 : Int) else _) = 2
  rw [if_pos]
  rw [List.any_cons, hit_8]
  rfl
 unfold stateB
 rw [List.foldl_cons, List.foldl_nil, h]
 rfl
theorem rev_7 (A A2 : Option Addr) : revokedB [issueX e1K [] (e1I A A2)] d7 = true := by
 show (([d7].any fun x => decide (x = d7)) || false) = true
 decide
theorem rev_8 (A A2 : Option Addr) : revokedB [issueX e1K [] (e1I A A2)] d8 = false := by
 show (([d7].any fun x => decide (x = d8)) || false) = false
 decide
theorem num_e1 (A A2 : Option Addr) : lastNum [issueX e1K [] (e1I A A2)] = 1 := rfl
theorem d7_ok : DgOk d7 := ⟨rfl, by unfold Byt d7; decide⟩
theorem d8_ok : DgOk d8 := ⟨rfl, by unfold Byt d8; decide⟩
theorem e1I_ok (b b2 : Nat) : EpOk (e1I (some ⟨b, 0, none⟩) (some ⟨b2, 0, none⟩)) ∧ EpShort (e1I (some ⟨b, 0, none⟩) (some ⟨b2, 0, none⟩)) := by
 refine ⟨⟨zeros_ok, zeros_ok, ?_, ?_, ?_, by simp [e1I], by simp [e1I], by simp [e1I], by simp [e1I], fun h => by simp [e1I] at h, fun h => by simp [e1I] at h⟩, ⟨by simp [e1I], by simp [e1I], ?_⟩⟩
 ·intro d hd
  simp only [e1I, List.mem_singleton] at hd
  rw [hd]; exact d7_ok
 ·intro x hx
  simp only [e1I, List.mem_cons, List.not_mem_nil, or_false] at hx
  unfold i64
  rcases hx with rfl | rfl | rfl | rfl <;> omega
 ·intro q hq
  simp only [e1I, List.mem_singleton] at hq
  subst hq
  exact ⟨by unfold i64; decide, by decide⟩
 ·intro q hq
  simp only [e1I, List.mem_singleton] at hq
  subst hq
  decide
end Go.Proofs.YtpojnhikgjcgmaaGreatDoor

namespace Go.Proofs.YtpojnhikgjcgmaaGreatDoor
open Go.RowKit Go.Shelf Go.Maps
open Go.Proofs
def puB2 (x y : Value) : Sem Next := do pure (.value (← Instr.build 39 #[(0, x), (1, y)]))
theorem puB2_x (ρ : Operand → Value) (dst : Option Tmp) (x y : Operand) (t : TypeId) (pos : String) (after : Array Edge) (guard : Option (Nat × Bool)) : execOp ρ { dst, op := .build 39 #[(0, x), (1, y)], type := t, pos, after, guard } = puB2 (ρ x) (ρ y) := by kernel_rfl
theorem puB2_run (k : Int) (s : ByteArray) (W : World) : (puB2 (.int .i64 k) (.string s)).run Tryz.prog W = .ok (.value (.agg (puC ⟨k, s, false⟩))) W := by kernel_rfl
def puB3 (x y z : Value) : Sem Next := do pure (.value (← Instr.build 39 #[(0, x), (1, y), (2, z)]))
theorem puB3_x (ρ : Operand → Value) (dst : Option Tmp) (x y z : Operand) (t : TypeId) (pos : String) (after : Array Edge) (guard : Option (Nat × Bool)) : execOp ρ { dst, op := .build 39 #[(0, x), (1, y), (2, z)], type := t, pos, after, guard } = puB3 (ρ x) (ρ y) (ρ z) := by kernel_rfl
theorem puB3_run (k : Int) (s : ByteArray) (b : Bool) (W : World) : (puB3 (.int .i64 k) (.string s) (.bool b)).run Tryz.prog W = .ok (.value (.agg (puC ⟨k, s, b⟩))) W := by kernel_rfl
def pdB2 (x y : Value) : Sem Next := do pure (.value (← Instr.build 25 #[(0, x), (1, y)]))
theorem pdB2_x (ρ : Operand → Value) (dst : Option Tmp) (x y : Operand) (t : TypeId) (pos : String) (after : Array Edge) (guard : Option (Nat × Bool)) : execOp ρ { dst, op := .build 25 #[(0, x), (1, y)], type := t, pos, after, guard } = pdB2 (ρ x) (ρ y) := by kernel_rfl
theorem pdB2_run (a b : Int) (W : World) : (pdB2 (.int .i64 a) (.int .i64 b)).run Tryz.prog W = .ok (.value (.agg (pdC a b))) W := by kernel_rfl
def epB3 (x0 x2 x3 : Value) : Sem Next := do pure (.value (← Instr.build 30 #[(0, x0), (2, x2), (3, x3)]))
theorem epB3_x (ρ : Operand → Value) (dst : Option Tmp) (x0 x2 x3 : Operand) (t : TypeId) (pos : String) (after : Array Edge) (guard : Option (Nat × Bool)) : execOp ρ { dst, op := .build 30 #[(0, x0), (2, x2), (3, x3)], type := t, pos, after, guard } = epB3 (ρ x0) (ρ x2) (ρ x3) := by kernel_rfl
theorem epB3_run (A : Option Addr) (p : Pu) (W : World) : (epB3 (.int .i64 1) (.agg (pdC 10 20)) (.slice A 1 1)).run Tryz.prog W = .ok (.value (.agg (epC (e1E A p)))) W := by kernel_rfl
def stB3 (x0 x5 x6 : Value) : Sem Next := do pure (.value (← Instr.build 32 #[(0, x0), (5, x5), (6, x6)]))
theorem stB3_x (ρ : Operand → Value) (dst : Option Tmp) (x0 x5 x6 : Operand) (t : TypeId) (pos : String) (after : Array Edge) (guard : Option (Nat × Bool)) : execOp ρ { dst, op := .build 32 #[(0, x0), (5, x5), (6, x6)], type := t, pos, after, guard } = stB3 (ρ x0) (ρ x5) (ρ x6) := by kernel_rfl
theorem stB3_run (lo hi : Int) (W : World) : (stB3 (.string ⟨#[97, 99, 109, 101, 47, 120]⟩) (.string ⟨#[110, 101, 119, 115]⟩) (.agg (pdC lo hi))).run Tryz.prog W = .ok (.value (.agg (stmC (e1S lo hi)))) W := by kernel_rfl
def kyY4 (x0 x1 x2 x4 : Value) : Sem Next := do pure (.value (← Instr.build 44 #[(0, x0), (1, x1), (2, x2), (4, x4)]))
theorem kyY4_x (ρ : Operand → Value) (dst : Option Tmp) (x0 x1 x2 x4 : Operand) (t : TypeId) (pos : String) (after : Array Edge) (guard : Option (Nat × Bool)) : execOp ρ { dst, op := .build 44 #[(0, x0), (1, x1), (2, x2), (4, x4)], type := t, pos, after, guard } = kyY4 (ρ x0) (ρ x1) (ρ x2) (ρ x4) := by kernel_rfl
theorem kyY4_run (W : World) : (kyY4 (.int .i64 1) (.int .i64 1) (.string ⟨#[115]⟩) (.int .i64 100)).run Tryz.prog W = .ok (.value (.agg (kyC e1K))) W := by kernel_rfl
def dgB1 (x0 : Value) : Sem Next := do pure (.value (← Instr.build 23 #[(0, x0)]))
theorem dgB1_x (ρ : Operand → Value) (dst : Option Tmp) (x0 : Operand) (t : TypeId) (pos : String) (after : Array Edge) (guard : Option (Nat × Bool)) : execOp ρ { dst, op := .build 23 #[(0, x0)], type := t, pos, after, guard } = dgB1 (ρ x0) := by kernel_rfl
theorem dgB1_7 (W : World) : (dgB1 (.int .u8 7)).run Tryz.prog W = .ok (.value (.agg (dgC d7))) W := by kernel_rfl
theorem dgB1_8 (W : World) : (dgB1 (.int .u8 8)).run Tryz.prog W = .ok (.value (.agg (dgC d8))) W := by kernel_rfl
section
attribute [local go_sem ↓] puB2_x puB3_x pdB2_x epB3_x stB3_x kyY4_x dgB1_x
attribute [local go_sem] puB2_run puB3_run pdB2_run stB3_run kyY4_run dgB1_7 dgB1_8 pd_fits dg_fits pd_size pu_fits tab_fits tab_size
theorem at_one1 (W : World) (cs : Array Value) (T : TypeId) (p : Pu) (g : Nat) (hg : g = W.heap.size) (h : cs.toList = [p].flatMap puL) (cs2 : Array Value) (T2 : TypeId) (vs : List Value) (b : Nat) (hb : g + 1 ≤ b) :
  EpAt (((W.alloc (.cells cs T)).alloc (.cells cs2 T2)).setCells b 0 vs) (e1E (some ⟨g, 0, none⟩) p) :=
 ⟨Reads.on (reads_freshB puE [p] W cs T h g hg) (Ext.setCells (Ext.alloc (eR _) _) (by rw [World.size_alloc, ← hg]; exact hb) _ _), Reads.nil _ _ _ _ _⟩
theorem at_one2 (W : World) (cs : Array Value) (T : TypeId) (p : Pu) (g : Nat) (hg : g = W.heap.size) (h : cs.toList = [p].flatMap puL) :
  EpAt (W.alloc (.cells cs T)) (e1E (some ⟨g, 0, none⟩) p) := ⟨reads_freshB puE [p] W cs T h g hg, Reads.nil _ _ _ _ _⟩
theorem app_m (k : Ky) (s : Ep) (A : Option Addr) (c : Nat) (A2 : Option Addr) (c2 : Nat) : appendE [k] [] (issueX k [] (memE s A c A2 c2)) = appendE [k] [] (issueX k [] s) := rfl
theorem tab_m (k : Ky) (s : Ep) (A : Option Addr) (c : Nat) (A2 : Option Addr) (c2 : Nat) (lo : Int) (a t : Ad.Bs) : tableB [issueX k [] (memE s A c A2 c2)] lo a t = tableB [issueX k [] s] lo a t := rfl
theorem rev_m (k : Ky) (s : Ep) (A : Option Addr) (c : Nat) (A2 : Option Addr) (c2 : Nat) (d : List Int) : revokedB [issueX k [] (memE s A c A2 c2)] d = revokedB [issueX k [] s] d := rfl
theorem num_m (k : Ky) (s : Ep) (A : Option Addr) (c : Nat) (A2 : Option Addr) (c2 : Nat) : lastNum [issueX k [] (memE s A c A2 c2)] = lastNum [issueX k [] s] := rfl
theorem short_m (k : Ky) (s : Ep) (A : Option Addr) (c : Nat) (A2 : Option Addr) (c2 : Nat) (h : EpShort s) : EpShort (issueX k [] (memE s A c A2 c2)) := ⟨h.pu, h.rv, h.what⟩
theorem at_dg (W : World) (cs : Array Value) (T : TypeId) (d : List Int) (A : Option Addr) (p : Pu) (g : Nat) (hg : g = W.heap.size) (h : cs.toList = [d].flatMap dgL) (hp : Reads 3 puL W W.heap.size A [p]) (hd : d = d7) (hpp : p = puN) : EpAt (W.alloc (.cells cs T)) (e1I A (some ⟨g, 0, none⟩)) := by
 subst hd hpp
 exact ⟨hp.on ((eR _).alloc _), reads_freshB dgE [d7] W cs T h g hg⟩
theorem asc_x : ∀ c ∈ bsT adX, c.toNat < 128 := by decide
theorem esanity_any (w : World) (hk : KonstP w) : Calls Tryz.prog 12 #[] w fun r w' => r = .returned (.bool true) ∧ Ext w w' := by
 have HH : Hid (∀ (p : Pu) (a t : ByteArray) (b : Bool), hitsB p (bsT a) (bsT t) = b → p.what.size ≤ 900000 → a.size ≤ 900000 → t.size ≤ 900000 → (∀ c ∈ bsT a, c.toNat < 128) → ∀ W, Calls Tryz.prog 18 #[.agg (puC p), .string a, .string t] W fun r w' => r = .returned (.bool b) ∧ Ext W w') := lh (fun p a t b hb h1 h2 h3 h4 W => by
  have h := hits_any p a t W h1 h2 h3 h4
  rwa [hb] at h)
 have HK : Hid (KonstP w) := lh hk
 have hfA := pu_fits puA
 have hfP := pu_fits puP
 have hfN := pu_fits puN
 clear hk
 go_enter Tryz.func12, Tryz.ntmps12
 go_upto_region 2 with (fail)
 obtain ⟨B, hB⟩ : ∃ B, w.heap.size = B := ⟨_, rfl⟩
 refine wp_world (fun W => Ext w W ∧ RowAt W w.heap.size (puC puA) ∧ RowAt W (w.heap.size + 1) (puC puP) ∧ RowAt W (w.heap.size + 1 + 1) (puC puN)) ⟨(by (with_reducible repeat first|exact eR _|apply eD|apply eN|apply eA|apply eO|apply eS|apply eC);all_goals first|omega|simp <;> omega), ?_, ?_, ?_⟩ ?_
 ·have z : RowAt (((w.alloc (.cells (puC noPu) 39)).alloc (.cells (puC noPu) 39)).alloc (.cells (puC noPu) 39)) w.heap.size (puC noPu) := ((RowAt.new _ _ _).alloc _).alloc _
  have y := RowAt.store z (show (puC puA).size = (puC noPu).size from rfl)
  exact RowAt.others (RowAt.others y (by omega) _ _) (by omega) _ _
 ·have z : RowAt (((w.alloc (.cells (puC noPu) 39)).alloc (.cells (puC noPu) 39)).alloc (.cells (puC noPu) 39)) (w.heap.size + 1) (puC noPu) := RowAt.alloc (RowAt.newAt (by simp)) _
  have y := RowAt.store (RowAt.others z (show w.heap.size + 1 ≠ w.heap.size by omega) 0 (puC puA).toList) (show (puC puP).size = (puC noPu).size from rfl)
  exact RowAt.others y (by omega) _ _
 ·have z : RowAt (((w.alloc (.cells (puC noPu) 39)).alloc (.cells (puC noPu) 39)).alloc (.cells (puC noPu) 39)) (w.heap.size + 1 + 1) (puC noPu) := RowAt.newAt (by simp)
  exact RowAt.store (RowAt.others (RowAt.others z (show w.heap.size + 1 + 1 ≠ w.heap.size by omega) 0 (puC puA).toList) (show w.heap.size + 1 + 1 ≠ w.heap.size + 1 by omega) 0 (puC puP).toList) (show (puC puN).size = (puC noPu).size from rfl)
 rw [hB]
 rintro W1 ⟨x1, u0, u1, u2⟩
 have HX1 := lh x1
 have HU2 := lh u2
 have hl2 := u2.lt
 have k0 : rowOf W1 B 0 3 = some (puC puA) := u0.all rfl (by omega)
 have k1 : rowOf W1 (B + 1) 0 3 = some (puC puP) := u1.all rfl (by omega)
 clear x1 u0 u1 u2
 go_wp2_with (go_at_call 18; refine (show Hid _ from ?_).out)
 refine lh ?_
 refine (HH.out puA adA noB true hit_1 (by decide) (by decide) (by decide) (by decide) _).mono ?_
 rintro e w' ⟨rfl, hxl⟩; obtain ⟨xl, rfl⟩ := hxl.asLater; clear hxl
 go_wp2_with (go_at_call 18; refine (show Hid _ from ?_).out)
 refine lh ?_
 refine (HH.out puA adAB noB false hit_2 (by decide) (by decide) (by decide) (by decide) _).mono ?_
 rintro e w' ⟨rfl, hxl⟩; obtain ⟨xl, rfl⟩ := hxl.asLater; clear hxl
 go_wp2_with (go_at_call 18; refine (show Hid _ from ?_).out)
 refine lh ?_
 refine (HH.out puP adAB noB true hit_3 (by decide) (by decide) (by decide) (by decide) _).mono ?_
 rintro e w' ⟨rfl, hxl⟩; obtain ⟨xl, rfl⟩ := hxl.asLater; clear hxl
 go_wp2_with (go_at_call 18; refine (show Hid _ from ?_).out)
 refine lh ?_
 refine (HH.out puP adab noB false hit_4 (by decide) (by decide) (by decide) (by decide) _).mono ?_
 rintro e w' ⟨rfl, hxl⟩; obtain ⟨xl, rfl⟩ := hxl.asLater; clear hxl
 go_wp2_with (go_at_call 18; refine (show Hid _ from ?_).out)
 refine lh ?_
 refine (HH.out puP adQ noB true hit_5 (by decide) (by decide) (by decide) (by decide) _).mono ?_
 rintro e w' ⟨rfl, hxl⟩; obtain ⟨xl, rfl⟩ := hxl.asLater; clear hxl
 go_upto_region 3 with (fail)
 refine wp_world (fun W => Ext w W ∧ RowAt W (B + 1 + 1) (puC puN)) ⟨(by (with_reducible repeat first|exact HX1.out|exact eR _|apply eD|apply eN|apply eA|apply eO|apply eS|apply eC);all_goals first|omega|simp <;> omega), (by (repeat (first | with_reducible exact HU2.out | with_reducible refine RowAt.drew ?_ | with_reducible refine RowAt.later ?_ _ | with_reducible exact RowAt.newAt (by first | rfl | omega | (simp [later_size, setCells_size]; done) | (simp [later_size, setCells_size]; omega)) | with_reducible refine RowAt.alloc ?_ _ | with_reducible apply RowAt.store | with_reducible refine RowAt.others ?_ ?_ _ _ | with_reducible refine RowAt.other ?_ ?_ _)); all_goals first | omega | (simp; done) | (simp; omega) | (simp [go_sem]; done))⟩ ?_
 rintro W2 ⟨x2, u2⟩
 have HX2 := lh x2
 have HU2' := lh u2
 have hl22 := u2.lt
 have k2 : rowOf W2 (B + 1 + 1) 0 3 = some (puC puN) := u2.all rfl (by omega)
 clear x2 u2 HX1 HU2 k0 k1 hl2
 go_wp2_with (go_at_call 18; refine (show Hid _ from ?_).out)
 refine lh ?_
 refine (HH.out puN adX hotN true hit_6 (by decide) (by decide) (by decide) (by decide) _).mono ?_
 rintro r w' ⟨rfl, hxl⟩
 obtain ⟨xq1, rfl⟩ := hxl.asLater
 clear hxl
 go_wp2_with (go_at_call 18; refine (show Hid _ from ?_).out)
 refine lh ?_
 refine (HH.out puN boltX hotN false hit_7 (by decide) (by decide) (by decide) (by decide) _).mono ?_
 rintro r w' ⟨rfl, hxl⟩
 obtain ⟨xq2, rfl⟩ := hxl.asLater
 clear hxl
 have hE : ∀ A W, (epB3 (.int .i64 1) (.agg (pdC 10 20)) (.slice A 1 1)).run Tryz.prog W = .ok (.value (.agg (epC (e1E A puN)))) W := fun A W => epB3_run A puN W
 have hfE : ∀ A p, fitsRow 38 (epC (e1E A p)) = true := fun A p => ep_fits _
 go_upto_region 5 with (fail)
 obtain ⟨g, hg⟩ : ∃ g, W2.heap.size + (xq1.comp xq2).n = g := ⟨_, rfl⟩
 have hgl : W2.heap.size ≤ g := by omega
 rw [hg]
 refine wp_world (fun W => Ext w W ∧ RowAt W (g + 1) (epC (e1E (some ⟨g, 0, none⟩) puN)) ∧ EpAt W (e1E (some ⟨g, 0, none⟩) puN)) ⟨?_, ?_, ?_⟩ ?_
 ·have hs := HX2.out.size
  exact (by (with_reducible repeat first|exact HX2.out|exact eR _|apply eD|apply eN|apply eA|apply eO|apply eS|apply eC);all_goals first|omega|simp <;> omega)
 ·exact RowAt.store (RowAt.newAt (by simp [later_size, hg])) rfl
 ·exact at_one1 (later W2 (xq1.comp xq2)) _ _ puN g (by rw [later_size, hg]) (by kernel_rfl) _ _ _ _ (Nat.le_refl _)
 clear HX2 HU2' hl22 k2 hE hg
 rintro W3 ⟨x3, u3, hat3⟩
 have HX3 := lh x3
 have HU3 := lh u3
 have HAt3 := lh hat3
 have hl3 := u3.lt
 clear x3 u3 hat3
 have hst1 := stm_fits (e1S 20 30)
 have hst2 := stm_fits (e1S 21 30)
 have hst3 := stm_fits (e1S 5 6)
 go_upto_region 6 with (fail)
 refine wp_world (fun W => Ext W3 W ∧ RowAt W W3.heap.size (stmC (e1S 20 30)) ∧ RowAt W (W3.heap.size + 1) (stmC (e1S 21 30))) ⟨?_, ?_, ?_⟩ ?_
 ·exact (by (with_reducible repeat first|exact eR _|apply eD|apply eN|apply eA|apply eO|apply eS|apply eC);all_goals first|omega|simp <;> omega)
 ·have z : RowAt ((W3.alloc (.cells (stmC noSt) 32)).alloc (.cells (stmC noSt) 32)) W3.heap.size (stmC noSt) := (RowAt.new _ _ _).alloc _
  have y := RowAt.store z (show (stmC (e1S 20 30)).size = (stmC noSt).size from rfl)
  exact RowAt.others y (by omega) _ _
 ·have z : RowAt ((W3.alloc (.cells (stmC noSt) 32)).alloc (.cells (stmC noSt) 32)) (W3.heap.size + 1) (stmC noSt) := RowAt.newAt (by simp)
  exact RowAt.store (RowAt.others z (show W3.heap.size + 1 ≠ W3.heap.size by omega) 0 (stmC (e1S 20 30)).toList) (show (stmC (e1S 21 30)).size = (stmC noSt).size from rfl)
 obtain ⟨h, hh⟩ : ∃ h, W3.heap.size = h := ⟨_, rfl⟩
 rw [hh]
 rintro W4 ⟨x4, u7, u8⟩
 have HX4 := lh (HX3.out.trans x4)
 have HU34 := lh (HU3.out.ext x4)
 have HAt4 := lh (HAt3.out.on x4)
 have HU7 := lh u7
 have HU8 := lh u8
 have hl4 := u8.lt
 have hs4 := x4.size
 have k6 : rowOf W4 (g + 1) 0 38 = some (epC (e1E (some ⟨g, 0, none⟩) puN)) := HU34.out.all rfl (by omega)
 clear x4 u7 u8 HX3 HU3 HAt3
 go_upto_region 8 with (fail)
 have hset : ∀ A A', (epC (e1E A puN)).setIfInBounds 19 (.slice A' 1 1) = epC (e1E A' puS) := fun A A' => by kernel_rfl
 refine wp_world (fun W => Ext W4 W ∧ RowAt W W4.heap.size (epC (e1E (some ⟨W4.heap.size + 1, 0, none⟩) puS)) ∧ EpAt W (e1E (some ⟨W4.heap.size + 1, 0, none⟩) puS)) ⟨?_, ?_, ?_⟩ ?_
 ·exact (by (with_reducible repeat first|exact eR _|apply eD|apply eN|apply eA|apply eO|apply eS|apply eC);all_goals first|omega|simp <;> omega)
 ·have z : RowAt (W4.alloc (.cells (epC noEp) 30)) W4.heap.size (epC noEp) := RowAt.new _ _ _
  have y := RowAt.store z (show (epC (e1E (some ⟨g, 0, none⟩) puN)).size = (epC noEp).size from rfl)
  have x := y.set 19 (.slice (some ⟨W4.heap.size + 1, 0, none⟩) 1 1)
  rw [hset] at x
  exact x.alloc _
 ·exact at_one2 _ _ _ puS (W4.heap.size + 1) (by simp [setCells_size]) (by kernel_rfl)
 obtain ⟨h9, hh9⟩ : ∃ h9, W4.heap.size = h9 := ⟨_, rfl⟩
 rw [hh9]
 rintro W5 ⟨x5, u9, hat9⟩
 have HX5 := lh (HX4.out.trans x5)
 have HU35 := lh (HU34.out.ext x5)
 have HAt5 := lh (HAt4.out.on x5)
 have HU75 := lh (HU7.out.ext x5)
 have HAt9 := lh hat9
 have hs5 := x5.size
 have hl5 := u9.lt
 have k6 : rowOf W5 (g + 1) 0 38 = some (epC (e1E (some ⟨g, 0, none⟩) puN)) := HU35.out.all rfl (by omega)
 have k7 : rowOf W5 h 0 41 = some (stmC (e1S 20 30)) := HU75.out.all rfl (by omega)
 have k8 : rowOf W5 (h + 1) 0 41 = some (stmC (e1S 21 30)) := (HU8.out.ext x5).all rfl (by omega)
 have k9 : rowOf W5 h9 0 38 = some (epC (e1E (some ⟨h9 + 1, 0, none⟩) puS)) := u9.all rfl (by omega)
 clear x5 u9 hat9 HX4 HU34 HAt4 HU7 HU8 hset
 have HRm : Hid (∀ (e : Ep) (s : St) (v : Int) (W : World), removesB e s.lo (bsT s.addr) (bsT s.tags) = v → EpAt W e → e.pu.length ≤ 100000 → (∀ p ∈ e.pu, p.what.size ≤ 900000) → s.addr.size ≤ 900000 → s.tags.size ≤ 900000 → (∀ c ∈ bsT s.addr, c.toNat < 128) → Calls Tryz.prog 20 #[.agg (epC e), .agg (stmC s)] W fun r w' => r = .returned (.int .i64 v) ∧ Ext W w') := lh (fun e s v W hv h1 h2 h3 h4 h5 h6 => by
  have h := removes_any e s W h1 h2 h3 h4 h5 h6
  rwa [hv] at h)
 have hpN : ∀ A, ∀ p ∈ (e1E A puN).pu, p.what.size ≤ 900000 := fun A p hp => by
  simp only [e1E, List.mem_singleton] at hp
  rw [hp]
  decide
 have hpS : ∀ A, ∀ p ∈ (e1E A puS).pu, p.what.size ≤ 900000 := fun A p hp => by
  simp only [e1E, List.mem_singleton] at hp
  rw [hp]
  decide
 go_wp2_with (go_at_call 20; refine (show Hid _ from ?_).out)
 refine lh ?_
 refine (HRm.out (e1E (some ⟨g, 0, none⟩) puN) (e1S 20 30) 2 _ (rem_1 _) HAt5.out (by show 1 ≤ 100000; decide) (hpN _) (by decide) (by decide) asc_x).mono ?_
 rintro r w' ⟨rfl, hxl⟩
 obtain ⟨xr1, rfl⟩ := hxl.asLater
 clear hxl
 go_wp2_with (go_at_call 20; refine (show Hid _ from ?_).out)
 refine lh ?_
 refine (HRm.out (e1E (some ⟨g, 0, none⟩) puN) (e1S 21 30) 0 _ (rem_2 _) (HAt5.out.on (ext_later _ _)) (by show 1 ≤ 100000; decide) (hpN _) (by decide) (by decide) asc_x).mono ?_
 rintro r w' ⟨rfl, hxl⟩
 obtain ⟨xr2, rfl⟩ := hxl.asLater
 clear hxl
 go_wp2_with (go_at_call 20; refine (show Hid _ from ?_).out)
 refine lh ?_
 refine (HRm.out (e1E (some ⟨h9 + 1, 0, none⟩) puS) (e1S 5 6) 1 _ (rem_3 _) (HAt9.out.on (ext_later _ _)) (by show 1 ≤ 100000; decide) (hpS _) (by decide) (by decide) asc_x).mono ?_
 rintro r w' ⟨rfl, hxl⟩
 obtain ⟨xr3, rfl⟩ := hxl.asLater
 clear hxl
 have hfk := ky_fits e1K
 go_upto_region 10 with (fail)
 obtain ⟨q, hq⟩ : ∃ q, W5.heap.size + ((xr1.comp xr2).comp xr3).n = q := ⟨_, rfl⟩
 have hql : W5.heap.size ≤ q := by omega
 rw [hq]
 refine wp_world (fun W => Ext W5 W ∧ RowAt W q (kyC e1K)) ⟨?_, RowAt.store (RowAt.newAt (by simp [later_size, hq])) rfl⟩ ?_
 ·exact (by (with_reducible repeat first|exact eR _|apply eD|apply eN|apply eA|apply eO|apply eS|apply eC);all_goals first|omega|simp <;> omega)
 clear hq
 rintro W6 ⟨x6, u11⟩
 have HX6 := lh (HX5.out.trans x6)
 have HAt6 := lh (HAt5.out.on x6)
 have HU11 := lh u11
 have HU36 := lh (HU35.out.ext x6)
 have HU76 := lh (HU75.out.ext x6)
 have hs6 := x6.size
 have hl6 := u11.lt
 have k11 : rowOf W6 q 0 5 = some (kyC e1K) := u11.all rfl (by omega)
 have kpd : rowOf W6 (g + 1) 17 2 = some (pdC 10 20) := by rw [HU36.out.row, if_neg (by omega), ep_pd]; rfl
 have q19 : W6.cell? ⟨g + 1, 19, none⟩ = some (.slice (some ⟨g, 0, none⟩) 1 1) := (HU36.out.cell 19).trans (ep_g19 _)
 clear x6 u11 HX5 HU35 HAt5 HU75 HAt9 k6 k7 k8 k9 HRm hpN hpS
 go_wp2_with (go_at_call 36; refine (show Hid _ from ?_).out)
 refine lh ?_
 refine calls_world (fun W => Ext W6 W ∧ EpAt W (e1I (some ⟨g, 0, none⟩) (some ⟨W6.heap.size, 0, none⟩))) ⟨(eR _).alloc _, at_dg W6 _ _ d7 (some ⟨g, 0, none⟩) puN _ rfl (by kernel_rfl) HAt6.out.pu rfl rfl⟩ ?_
 obtain ⟨rb, hrb⟩ : ∃ rb, W6.heap.size = rb := ⟨_, rfl⟩
 rw [hrb]
 rintro W7 ⟨x7, hat7⟩
 have hs7 := x7.size
 refine (issue_any e1K none 0 [] (e1I (some ⟨g, 0, none⟩) (some ⟨rb, 0, none⟩)) W7 (by decide) (by unfold i64; decide) (by decide) ⟨Reads.nil _ _ _ _ _, fun e he => (by cases he)⟩ (e1I_ok g rb).1 (e1I_ok g rb).2 hat7 (RowAt.ext HK.out (HX6.out.trans x7))).mono ?_
 rintro r w8 ⟨hI, hx8⟩
 rcases hI with ⟨_, A, c, A2, c2, rfl, hown, hzo⟩ | ⟨hbad, _⟩
 case inr => exact absurd (iss_e1 _ _) hbad
 have hap := (app_m e1K (e1I (some ⟨g, 0, none⟩) (some ⟨rb, 0, none⟩)) A c A2 c2).trans (app_e1 _ _)
 have htb := (tab_m e1K (e1I (some ⟨g, 0, none⟩) (some ⟨rb, 0, none⟩)) A c A2 c2 20 (bsT adX) (bsT newsB)).trans (tab_e1 _ _)
 have hr7 := (rev_m e1K (e1I (some ⟨g, 0, none⟩) (some ⟨rb, 0, none⟩)) A c A2 c2 d7).trans (rev_7 _ _)
 have hr8 := (rev_m e1K (e1I (some ⟨g, 0, none⟩) (some ⟨rb, 0, none⟩)) A c A2 c2 d8).trans (rev_8 _ _)
 have hnm := (num_m e1K (e1I (some ⟨g, 0, none⟩) (some ⟨rb, 0, none⟩)) A c A2 c2).trans (num_e1 _ _)
 have hzs := short_m e1K (e1I (some ⟨g, 0, none⟩) (some ⟨rb, 0, none⟩)) A c A2 c2 (e1I_ok g rb).2
 generalize issueX e1K [] (memE (e1I (some ⟨g, 0, none⟩) (some ⟨rb, 0, none⟩)) A c A2 c2) = z at *
 have HAp := lh hap
 have HTb := lh htb
 have HR7 := lh hr7
 have HR8 := lh hr8
 have HNm := lh hnm
 have HZs := lh hzs
 have HZo := lh hzo
 have HX8 := lh ((HX6.out.trans x7).trans hx8)
 have hx68 : Ext W6 w8 := x7.trans hx8
 have HAt8 := lh (HAt6.out.on hx68)
 have HU38 := lh (HU36.out.ext hx68)
 have HU78 := lh (HU76.out.ext hx68)
 have HU118 := lh (HU11.out.ext hx68)
 have HZa := lh hown.at
 have hs8 := hx68.size
 have hfz := ep_fits z
 clear hap htb hr7 hr8 hnm hzs hzo hown hx8 hx68 x7 hat7 HX6 HAt6 HU36 HU76 HU11 k11 kpd q19
 go_upto_region 11 with (fail)
 have hxz : ∀ (c1 : Array Value) (T : TypeId) (vs : List Value), Ext w8 ((w8.alloc (.cells c1 T)).setCells w8.heap.size 0 vs) := fun c1 T vs => Ext.setCells (Ext.alloc (eR _) _) (Nat.le_refl _) _ _
 refine wp_world (fun W => Ext w W ∧ Ext w8 W ∧ RowAt W w8.heap.size (epC z)) ⟨HX8.out.trans (hxz _ _ _), hxz _ _ _, RowAt.store (RowAt.newAt rfl) rfl⟩ ?_
 clear hxz
 obtain ⟨zb, hzb⟩ : ∃ zb, w8.heap.size = zb := ⟨_, rfl⟩
 rw [hzb]
 rintro W9 ⟨x9, x89, uz⟩
 have HX9 := lh x9
 have HU119 := lh (HU118.out.ext x89)
 have HU39 := lh (HU38.out.ext x89)
 have HU79 := lh (HU78.out.ext x89)
 have HAt9 := lh (HAt8.out.on x89)
 have HZa9 := lh (HZa.out.on x89)
 have HUz := lh uz
 have hs9 := x89.size
 have hlz := uz.lt
 have hs89 := hs8
 have hfk1 := ky_fits e1K
 have k11 : rowOf W9 q 0 5 = some (kyC e1K) := HU119.out.all rfl (by omega)
 have kz : rowOf W9 zb 0 38 = some (epC z) := uz.all rfl (by omega)
 clear x9 x89 uz HX8 HU118 HU38 HU78 HAt8 HZa hs89
 have hapL : appL [e1K] [] z = [z] := by unfold appL; rw [if_pos HAp.out]; rfl
 have HAL := lh hapL
 clear hapL
 go_wp2_with (go_at_call 34; refine (show Hid _ from ?_).out)
 refine lh ?_
 refine calls_world (fun W => Ext W9 W ∧ ReadsKy W W.heap.size (some ⟨W9.heap.size, 0, none⟩) [e1K]) ⟨(eR _).alloc _, reads_freshB kyE [e1K] W9 _ _ (by kernel_rfl) _ rfl⟩ ?_
 obtain ⟨rk, hrk⟩ : ∃ rk, W9.heap.size = rk := ⟨_, rfl⟩
 rw [hrk]
 rintro W10 ⟨x10, hrd⟩
 have hs10 := x10.size
 refine (append_any (some ⟨rk, 0, none⟩) 1 [e1K] none 0 [] z W10 ring_e1 hrd (by decide) ⟨Reads.nil _ _ _ _ _, fun e he => (by cases he)⟩ (fun _ => rfl) HZo.out HZs.out (HZa9.out.on x10) (RowAt.ext HK.out (HX9.out.trans x10))).mono ?_
 rintro r W11 ⟨⟨A, c, l', rfl, hl', hown⟩, hx11⟩
 rw [HAL.out] at hl'
 subst hl'
 rw [HAp.out]
 have hx9 : Ext W9 W11 := x10.trans hx11
 have HX11 := lh (HX9.out.trans hx9)
 have HU3b := lh (HU39.out.ext hx9)
 have HU7b := lh (HU79.out.ext hx9)
 have HAtb := lh (HAt9.out.on hx9)
 have HCh : Hid (ChAt W11 A [z]) := lh ⟨hown.reads epE, fun e he => by
  rw [List.mem_singleton] at he
  rw [he]
  exact ⟨HZo.out, HZs.out, HZa9.out.on hx9⟩⟩
 have hsb := hx9.size
 clear hx9 hx11 hown x10 hrd HX9 HU39 HU79 HAt9 HZa9 HU119 HUz k11 kz HAL
 show Hid _
 refine lh ?_
 go_wp2_with (go_at_call 25; refine (show Hid _ from ?_).out)
 refine lh ?_
 refine (fold_any A c [z] W11 (show 1 ≤ 100 by decide) HCh.out).mono ?_
 rintro r w12 ⟨⟨cs, rfl, hT⟩, hx12⟩
 have hsc := hx12.size
 have HX12 := lh (HX11.out.trans hx12)
 have HU3c := lh (HU3b.out.ext hx12)
 have HU7c := lh (HU7b.out.ext hx12)
 have HAtc := lh (HAtb.out.on hx12)
 obtain ⟨mu, mr, hcs, _, _⟩ := tab_look hT
 rw [HNm.out] at hcs
 have hcs2 : cs = tabC mu mr 1 := hcs
 clear hcs
 subst hcs2
 have HT := lh hT
 have htf := tab_fits mu mr 1
 clear hx12 hT HX11 HU3b HU7b HAtb HCh
 go_upto_region 13 with (fail)
 obtain ⟨tb, htb⟩ : ∃ tb, w12.heap.size = tb := ⟨_, rfl⟩
 rw [htb]
 refine wp_world (fun W => Ext w12 W ∧ RowAt W tb (tabC mu mr 1)) ⟨?_, RowAt.store (RowAt.newAt htb.symm) rfl⟩ ?_
 ·exact Ext.setCells (Ext.alloc (eR _) _) (by rw [htb]; exact Nat.le_refl _) _ _
 rintro W13 ⟨x13, ut⟩
 have HX13 := lh (HX12.out.trans x13)
 have HU3d := lh (HU3c.out.ext x13)
 have HU7d := lh (HU7c.out.ext x13)
 have HAtd := lh (HAtc.out.on x13)
 have HTd := lh (HT.out.on x13)
 have hs13 := x13.size
 have hl13 := ut.lt
 have k6 : rowOf W13 (g + 1) 0 38 = some (epC (e1E (some ⟨g, 0, none⟩) puN)) := HU3d.out.all rfl (by omega)
 have k7 : rowOf W13 h 0 41 = some (stmC (e1S 20 30)) := HU7d.out.all rfl (by omega)
 have k16 : rowOf W13 tb 0 3 = some (tabC mu mr 1) := ut.all rfl (by omega)
 clear x13 ut HX12 HU3c HU7c HAtc HT HU3d HU7d
 have HS : Hid (∀ W, Ext W13 W → Calls Tryz.prog 26 #[.agg (tabC mu mr 1), .agg (stmC (e1S 20 30))] W fun r w' => r = .returned (.int .i64 2) ∧ Ext W w') := lh (fun W hx => by
  have e := tstate_any [z] (e1S 20 30) (tabC mu mr 1) W (HTd.out.on hx) (by decide) (by decide) asc_x
  have e2 : tableB [z] (e1S 20 30).lo (bsT (e1S 20 30).addr) (bsT (e1S 20 30).tags) = 2 := HTb.out
  rwa [e2] at e)
 have HR1 : Hid (∀ W, Ext W13 W → Calls Tryz.prog 27 #[.agg (tabC mu mr 1), .agg (dgC d7)] W fun r w' => r = .returned (.bool true) ∧ Ext W w') := lh (fun W hx => by
  have e := trevoked_any [z] d7 (tabC mu mr 1) W (HTd.out.on hx) (dk_of d7_ok)
  rwa [HR7.out] at e)
 have HR2 : Hid (∀ W, Ext W13 W → Calls Tryz.prog 27 #[.agg (tabC mu mr 1), .agg (dgC d8)] W fun r w' => r = .returned (.bool false) ∧ Ext W w') := lh (fun W hx => by
  have e := trevoked_any [z] d8 (tabC mu mr 1) W (HTd.out.on hx) (dk_of d8_ok)
  rwa [HR8.out] at e)
 have HVd : Hid (∀ W, Ext W13 W → Calls Tryz.prog 13 #[.agg (epC (e1E (some ⟨g, 0, none⟩) puN))] W fun r w' => r = .returned (.bool true) ∧ Ext W w') := lh (fun W hx => by
  have e := evalid_any (e1E (some ⟨g, 0, none⟩) puN) W (HAtd.out.on hx) (show 1 ≤ 100000 by decide) (show 0 ≤ 9223372036854775807 by decide) (fun p hp => by
   have hp2 : p ∈ [puN] := hp
   rw [List.mem_singleton] at hp2
   rw [hp2]
   decide)
  rwa [okEp_e1] at e)
 clear HTd HAtd HTb HR7 HR8 HNm HAp HZs HZo HH htb
 go_wp2_with (go_at_call 26; refine (show Hid _ from ?_).out)
 refine lh ?_
 refine (HS.out _ (by (with_reducible repeat first|exact eR _|apply eD|apply eN|apply eA|apply eO|apply eS|apply eC);all_goals first|omega|simp <;> omega)).mono ?_
 rintro r w' ⟨rfl, hxl⟩
 obtain ⟨xt1, rfl⟩ := hxl.asLater
 clear hxl
 go_wp2_with (go_at_call 27; refine (show Hid _ from ?_).out)
 refine lh ?_
 refine (HR1.out _ (by (with_reducible repeat first|exact eR _|apply eD|apply eN|apply eA|apply eO|apply eS|apply eC);all_goals first|omega|simp <;> omega)).mono ?_
 rintro r w' ⟨rfl, hxl⟩
 obtain ⟨xt2, rfl⟩ := hxl.asLater
 clear hxl
 go_wp2_with (go_at_call 27; refine (show Hid _ from ?_).out)
 refine lh ?_
 refine (HR2.out _ (by (with_reducible repeat first|exact eR _|apply eD|apply eN|apply eA|apply eO|apply eS|apply eC);all_goals first|omega|simp <;> omega)).mono ?_
 rintro r w' ⟨rfl, hxl⟩
 obtain ⟨xt3, rfl⟩ := hxl.asLater
 clear hxl
 go_wp2_with (go_at_call 28; refine (show Hid _ from ?_).out)
 refine lh ?_
 refine (last_any mu mr 1 _).mono ?_
 rintro r w' ⟨rfl, hxl⟩
 obtain ⟨xt4, rfl⟩ := hxl.asLater
 clear hxl
 go_wp2_with (go_at_call 13; refine (show Hid _ from ?_).out)
 refine lh ?_
 refine (HVd.out _ (by (with_reducible repeat first|exact eR _|apply eD|apply eN|apply eA|apply eO|apply eS|apply eC);all_goals first|omega|simp <;> omega)).mono ?_
 rintro r w' ⟨rfl, hxl⟩
 obtain ⟨xt5, rfl⟩ := hxl.asLater
 clear hxl
 go_wp2
 go_ret
 exact ⟨rfl, (by (with_reducible repeat first|exact HX13.out|exact eR _|apply eD|apply eN|apply eA|apply eO|apply eS|apply eC);all_goals first|omega|simp <;> omega)⟩
end
end Go.Proofs.YtpojnhikgjcgmaaGreatDoor