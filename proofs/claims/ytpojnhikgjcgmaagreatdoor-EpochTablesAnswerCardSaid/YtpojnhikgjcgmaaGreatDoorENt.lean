/- epoch.Table: State and Revoked. -/
import Derived.WalkKit
import Derived.WalkSpells
import Derived.WalkLawsBesides
import Derived.Deep.QuietTactic
import Derived.BigQuiet
import Derived.RangeFuncNested
import Derived.RangeFuncBound
import Derived.RangeFuncCalls
import Derived.RangeFuncLeaves
import Derived.Shelf.Abstract
import Derived.Shelf.RegionOpen
import Derived.OwnWalkIn
import Derived.TacticsInMore
import Derived.LoopNIn
import Derived.LoopIn
import Derived.Laws.RangeString
import Derived.Test.YtpojnhikgjcgmaaGreatDoorENw
set_option maxRecDepth 100000
set_option maxHeartbeats 64000000
set_option linter.unusedVariables false
set_option linter.unusedSimpArgs false
namespace Go.Proofs.YtpojnhikgjcgmaaGreatDoor
open Go.RowKit Go.Shelf
open Go.Proofs
open Ad (Bs)
theorem next_it {P : Program} {w : World} {s : ByteArray} {pos it : Nat} (hi : w.heap[it]? = some (.stringIter s pos)) (ty : TypeId) (h : pos < s.size) (ha : (s[pos]'h).toNat < 128) :
  (Instr.next (.pointer (some ⟨it, 0, none⟩)) true ty).run P w = .ok (.tuple #[.bool true, .int .i64 pos, .int .i32 (s[pos]'h).toNat]) (w.putObj it (.stringIter s (pos + 1))) := by
 have hlt : it < w.heap.size := (Array.getElem?_eq_some_iff.1 hi).1
 have h2 : (w.putObj it (.stringIter s (pos + 1))).heap[it]? = some (.stringIter s (pos + 1)) := World.putObj_heap_same hlt
 simp [Instr.next, getObj, setObj, Sem.run_bind, Sem.run, hi, Result.andThen, h, decode_ascii s pos h ha, World.putObj, goInt]
theorem next_it_end {P : Program} {w : World} {s : ByteArray} {pos it : Nat} (hi : w.heap[it]? = some (.stringIter s pos)) (ty : TypeId) (h : ¬ pos < s.size) :
  (Instr.next (.pointer (some ⟨it, 0, none⟩)) true ty).run P w = .ok (.tuple #[.bool false]) w := by
 simp [Instr.next, getObj, Sem.run, hi, h]
theorem reads_butS {w w' : World} {A : Option Addr} {l : List ByteArray} {S : Nat → Prop} (h : ReadsStr w w.heap.size A l) (hb : ButS S w w') (hn : ∀ k, S k → ∀ i s, w.cell? ⟨k, i, none⟩ ≠ some (.string s)) : ReadsStr w' w'.heap.size A l := by
 intro h0
 obtain ⟨b, off, hA, hlt, hc⟩ := h h0
 have hS : ¬ S b := fun hs => hn b hs _ _ (hc 0 h0 0 (.string l[0]) rfl)
 refine ⟨b, off, hA, Nat.lt_of_lt_of_le hlt hb.size, fun i hi j v hv => ?_⟩
 exact (hb.cell (p := ⟨b, off + i * 1 + j, none⟩) hlt hS).trans (hc i hi j v hv)
theorem asc_data {s : ByteArray} (h : ∀ c ∈ bsT s, c.toNat < 128) (i : Nat) (hi : i < s.size) : (s[i]'hi).toNat < 128 := by
 refine h _ ?_
 show s[i] ∈ s.data.toList
 rw [ByteArray.getElem_eq_getElem_data]
 exact Array.getElem_mem_toList _
theorem data_getD (s : ByteArray) (i : Nat) (hi : i < s.size) : (bsT s).getD i 0 = s.data[i]'hi := by
 have h1 : i < (bsT s).length := by rw [bsT_size]; exact hi
 rw [List.getD_eq_getElem?_getD, List.getElem?_eq_getElem h1]
 rfl
theorem slash_int (s : ByteArray) (i : Nat) (hi : i < s.size) : (((s.data[i]'hi).toNat : Int) == 47) = decide ((bsT s).getD i 0 = 47) := by
 rw [data_getD s i hi]
 generalize s.data[i] = x
 rw [Bool.eq_iff_iff, beq_iff_eq, decide_eq_true_iff]
 constructor
 ·intro h; apply UInt8.toNat_inj.1; show x.toNat = 47; omega
 ·rintro rfl; rfl
theorem bsT_colon (a b : ByteArray) : bsT (a ++ ⟨#[58]⟩ ++ b) = bsT a ++ 58 :: bsT b := by rw [bsT_app, bsT_app, List.append_assoc]; rfl
theorem splitT_le (t : Bs) (p : Bs) (h : p ∈ splitT t) : p.length ≤ t.length := by
 unfold splitT at h
 split at h
 ·cases h
 ·split at h
  ·exact piece_le 44 t p h
  ·cases h
theorem names_any (a t : ByteArray) (w : World) :
  Calls Tryz.prog 74 #[.string a, .string t] w fun e w' => e = .returned (.func (.func 130) #[] #[.pointer (some ⟨w.heap.size, 0, none⟩), .pointer (some ⟨w.heap.size + 1, 0, none⟩)]) ∧ (w.alloc (.cells #[.string a] 9)).alloc (.cells #[.string t] 9) = w' := by
 go_enter Tryz.func74, Tryz.ntmps74
 go_wp2
 go_ret
 exact ⟨rfl, rfl⟩
section
attribute [local go_sem] Oper.semAt_some size_one
theorem names1_in (n : Nat) (hn : 2 ≤ n) (l ba bt : Nat) (a t : ByteArray) (W : World) (hsa : a.size ≤ 900000) (hst : t.size ≤ 900000) (hasc : ∀ c ∈ bsT a, c.toNat < 128)
  (hb1 : Boxed W ba 9 (.string a)) (hb2 : Boxed W bt 9 (.string t))
  (S : Nat → Prop) (hS : ¬ S ba ∧ ¬ S bt) (hSl : ∀ k, S k → k < W.heap.size) (J : List (Int × Bs) → World → Prop) (St : World → Prop) (h0 : J [] W)
  (hJ : ∀ d W1 W2, J d W1 → ButS (fun k => W.heap.size ≤ k) W1 W2 → J d W2) (hJS : ∀ d W1, J d W1 → ∀ k, S k → ∀ i s, W1.cell? ⟨k, i, none⟩ ≠ some (.string s))
  (hY : ∀ done (k : Int) (x : ByteArray) W1, NextIn (bsT a) (bsT t) done (k, bsT x) → x.size ≤ 2000000 → (k = 1 ∨ k = 2 ∨ k = 3) → J done W1 → ButS (fun b => S b ∨ W.heap.size ≤ b) W W1 →
   YieldAt Fence.wide (n - 1) Tryz.prog l #[.int .i64 k, .string x] W1 fun e W' => Yields2 e (J (done ++ [(k, bsT x)]) W') (St W') ∧ ButS S W1 W') :
  CallsIn Fence.wide n Tryz.prog 130 #[.func (.yield l) #[] #[], .pointer (some ⟨ba, 0, none⟩), .pointer (some ⟨bt, 0, none⟩)] W fun e W' =>
   (∃ v, e = .returned v) ∧ (J (namesB (bsT a) (bsT t)) W' ∨ St W') ∧ ButS (fun b => S b ∨ W.heap.size ≤ b) W W' := by
 have hl1 := hb1.lt
 have hl2 := hb2.lt
 refine callsIn_of_wp Tryz.func130 rfl trivial ?_ rfl
 simp only [Tryz.ntmps130, List.size_toArray, List.length_cons, List.length_nil, Nat.reduceAdd, Nat.reduceSub, Array.replicate_succ, Array.replicate_zero, List.push_toArray, List.append_toArray, List.nil_append, List.cons_append]
 have hn1 : 1 ≤ n := by omega
 have HCut : Hid (∀ W, Calls Tryz.prog 66 #[.string a, .string ⟨#[63]⟩] W fun e w' => CutIs 63 a e ∧ Ext W w') := lh (fun W => scut_any a 63 W hsa)
 have HSp := lh (fun W => splitT_any t W hst)
 have HCu := lh (fun W => cust_any a W hsa hasc)
 have hc1 := hb1.cell
 have HAsc := lh hasc
 have HY := lh hY
 have HJ := lh hJ
 have HJS := lh hJS
 have HB1 := lh hb1
 have HB2 := lh hb2
 have HSn := lh hS
 have HSl := lh hSl
 obtain ⟨fn0, tmps0, assign0, body0, hy, hR⟩ := hY [] 1 a W (next_first _ _) (by omega) (.inl rfl) h0 (ButS.refl _ _)
 have HRR := lh hR
 clear hY hJ h0 hb1 hb2 hS hR hSl hJS hasc
 gi_wp2
 refine HRR.out.mono ?_
 rintro e W1 ⟨hj0, hb'⟩
 obtain ⟨b, rfl, hj⟩ := hj0.cases
 clear hj0
 have hbS : ButS (fun b => S b ∨ W.heap.size ≤ b) W W1 := hb'.mono (fun _ _ h => .inl h)
 have HBS := lh hbS
 have hc1' := (hb'.boxed HB1.out HSn.out.1).cell
 have hsz1 := hb'.size
 cases b with
 | false =>
  have HSt : Hid (St W1) := lh hj
  clear hj hb' hy HRR hbS
  gi_wp2
  refine bodyPost_ret (v := .tuple #[]) ?_ rfl ⟨⟨_, rfl⟩, .inr HSt.out, HBS.out⟩
  simp [results, Tryz.results130, go_sem, ↓IntWalk.iteOmega]
 | true =>
  have HJ1 : Hid (J [(1, bsT a)] W1) := lh hj
  clear hj hb' hy HRR hbS
  gi_wp2_with (refine ⟨trivial, ?_⟩; gi_at_call 66; refine (callsIn_wide.2 (HCut.out _)).mono ?_; rintro e w' ⟨⟨p, q, f, rfl, hcut, hps, hqs⟩, hxl⟩; have HPa : Hid (bsT p = pathB (bsT a)) := lh (congrArg Prod.fst hcut); clear hcut; obtain ⟨xc, rfl⟩ := hxl.asLater; clear hxl)
  have HAscP : Hid (∀ c ∈ bsT p, c.toNat < 128) := lh (fun c hc => HAsc.out c (by
   obtain ⟨r, e, _⟩ := cut_path (a := bsT a)
   rw [HPa.out] at hc
   rw [e]
   exact List.mem_append_left _ hc))
  have HNx : Hid (∀ i, i < p.size → (bsT p).getD i 0 = 47 → NextIn (bsT a) (bsT t) (prefD (bsT a) (bsT p) i) (2, bsT (p.extract 0 i))) := lh (fun i hi h => by
   rw [bsT_take]
   rw [← bsT_size] at hi
   rw [HPa.out] at hi h ⊢
   exact next_pref hi h)
  have HNp : Hid (NextIn (bsT a) (bsT t) (prefD (bsT a) (bsT p) p.size) (2, bsT p)) := lh (by
   rw [← bsT_size, HPa.out]
   exact next_path _ _)
  have HT0 : Hid (prefD (bsT a) (bsT p) p.size ++ [(2, bsT p)] = tagD (bsT a) (bsT t) 0) := lh (by
   rw [← bsT_size, HPa.out]
   rfl)
  obtain ⟨it, hit⟩ : ∃ it, W1.heap.size + xc.n = it := ⟨_, rfl⟩
  have hitl := Nat.le_of_eq hit
  have hitr := Nat.le_of_eq hit.symm
  have HI0 : Hid (((later W1 xc).iter p 0).heap[it]? = some (.stringIter p 0)) := lh (by rw [← hit, ← later_size]; exact World.iter_heap _ _ _)
  have HB0 : Hid (ButS (fun k => W.heap.size ≤ k) W1 ((later W1 xc).iter p 0)) := lh (((ButS.refl _ _).ext (ext_later W1 xc)).alloc _)
  have HJ0 : Hid (J (prefD (bsT a) (bsT p) 0) ((later W1 xc).iter p 0)) := lh (HJ.out _ _ _ HJ1.out HB0.out)
  have HBW : Hid (ButS (fun b => S b ∨ W.heap.size ≤ b) W ((later W1 xc).iter p 0)) := lh (HBS.out.trans (HB0.out.mono (fun _ _ h => .inr h)))
  have hszi : it < ((later W1 xc).iter p 0).heap.size := (Array.getElem?_eq_some_iff.1 HI0.out).1
  rw [hit]
  clear hit HJ1 HBS HB0 HPa HAsc
  generalize (later W1 xc).iter p 0 = W2 at *
  gi_loopw [7] (fun _ wr => ∃ i : Nat, i ≤ p.size ∧ Hid (wr.heap[it]? = some (.stringIter p i)) ∧ Hid (J (prefD (bsT a) (bsT p) i) wr) ∧ Hid (ButS (fun b => S b ∨ W.heap.size ≤ b) W wr)) (fun _ wr => match wr.heap[it]? with | some (.stringIter _ i) => p.size - i | _ => 0)
  case atStart => exact ⟨0, Nat.zero_le _, HI0, HJ0, HBW⟩
  case round =>
   obtain ⟨i, hi, HI, HJr, HB⟩ := hrel
   by_cases hlt : i < p.size
   ·have hnx : ∀ ty, (Instr.next (.pointer (some ⟨it, 0, none⟩)) true ty).run Tryz.prog wr = _ := fun ty => next_it HI.out ty hlt (asc_data HAscP.out i hlt)
    obtain ⟨Wn, hWn⟩ : ∃ Wn, wr.putObj it (.stringIter p (i + 1)) = Wn := ⟨_, rfl⟩
    rw [hWn] at hnx
    have HIn : Hid (Wn.heap[it]? = some (.stringIter p (i + 1))) := lh (by rw [← hWn]; exact World.putObj_heap_same (Array.getElem?_eq_some_iff.1 HI.out).1)
    have HBn : Hid (ButS (fun k => W.heap.size ≤ k) wr Wn) := lh (by rw [← hWn]; exact ButS.of_but (grownBy_putObj' _ _ _) (.inr (by omega)))
    have HJn : Hid (J (prefD (bsT a) (bsT p) i) Wn) := lh (HJ.out _ _ _ HJr.out HBn.out)
    have HBWn : Hid (ButS (fun b => S b ∨ W.heap.size ≤ b) W Wn) := lh (HB.out.trans (HBn.out.mono (fun _ _ h => .inr h)))
    have hsl := slash_int p i hlt
    have hms : (match wr.heap[it]? with | some (.stringIter _ i) => p.size - i | _ => 0) = p.size - i := by rw [HI.out]
    clear hWn HI HJr HB HBn
    by_cases h47 : (bsT p).getD i 0 = 47
    ·have e1 : (((p[i]'hlt).toNat : Int) == 47) = true := by rw [ByteArray.getElem_eq_getElem_data, hsl]; exact decide_eq_true h47
     have HPn : Hid (prefD (bsT a) (bsT p) i ++ [(2, bsT (p.extract 0 i))] = prefD (bsT a) (bsT p) (i + 1)) := lh (by rw [prefD_hit h47, bsT_take])
     obtain ⟨fn1, tmps1, assign1, body1, hy, hR⟩ := HY.out (prefD (bsT a) (bsT p) i) 2 (p.extract 0 i) Wn (HNx.out i hlt h47) (by rw [ByteArray.size_extract]; omega) (.inr (.inl rfl)) HJn.out HBWn.out
     have HRR := lh hR
     clear hR hsl h47
     gi_wp2
     refine HRR.out.mono ?_
     rintro e W3 ⟨hj0, hb'⟩
     obtain ⟨b, rfl, hj⟩ := hj0.cases
     clear hj0
     have HBS3 := lh (HBWn.out.trans (hb'.mono (S' := fun b => S b ∨ W.heap.size ≤ b) (fun _ _ h => .inl h)))
     have HI3 : Hid (W3.heap[it]? = some (.stringIter p (i + 1))) := lh ((hb'.block it (Array.getElem?_eq_some_iff.1 HIn.out).1 (fun h => by have := HSl.out it h; omega)).trans HIn.out)
     cases b with
     | false =>
      have HSt : Hid (St W3) := lh hj
      clear hj hb' hy HRR
      gi_wp2
      refine bodyPost_ret (v := .tuple #[]) ?_ rfl ⟨⟨_, rfl⟩, .inr HSt.out, HBS3.out⟩
      simp [results, Tryz.results130, go_sem, ↓IntWalk.iteOmega]
     | true =>
      have HJ3 : Hid (J (prefD (bsT a) (bsT p) (i + 1)) W3) := lh (by rw [← HPn.out]; exact hj)
      clear hj hb' hy HRR
      gi_wp2
      go_roundw
      case rel => exact ⟨i + 1, by omega, HI3, HJ3, HBS3⟩
      case measure => rw [hms, HI3.out]; show p.size - (i + 1) < p.size - i; omega
    ·have e1 : (((p[i]'hlt).toNat : Int) == 47) = false := by rw [ByteArray.getElem_eq_getElem_data, hsl]; exact decide_eq_false h47
     have HJ3 : Hid (J (prefD (bsT a) (bsT p) (i + 1)) Wn) := lh (by rw [prefD_miss h47]; exact HJn.out)
     clear hsl h47
     gi_wp2
     refine ⟨fun f h => (by cases h), ?_⟩
     gi_wp2
     go_roundw
     case rel => exact ⟨i + 1, by omega, HIn, HJ3, HBWn⟩
     case measure => rw [hms, HIn.out]; show p.size - (i + 1) < p.size - i; omega
   ·have hnx : ∀ ty, (Instr.next (.pointer (some ⟨it, 0, none⟩)) true ty).run Tryz.prog wr = _ := fun ty => next_it_end HI.out ty hlt
    have ei : i = p.size := by omega
    subst ei
    obtain ⟨fn1, tmps1, assign1, body1, hy, hR⟩ := HY.out (prefD (bsT a) (bsT p) p.size) 2 p wr HNp.out (by omega) (.inr (.inl rfl)) HJr.out HB.out
    have HRR := lh hR
    clear hR
    gi_wp2
    refine HRR.out.mono ?_
    rintro e W3 ⟨hj0, hb'⟩
    obtain ⟨b, rfl, hj⟩ := hj0.cases
    clear hj0
    have HBS3 := lh (HB.out.trans (hb'.mono (S' := fun b => S b ∨ W.heap.size ≤ b) (fun _ _ h => .inl h)))
    have hb3 : Boxed W3 bt 9 (.string t) := HBS3.out.boxed HB2.out (by have := HSn.out; rintro (h | h); exact this.2 h; omega)
    have hct := hb3.cell
    cases b with
    | false =>
     have HSt : Hid (St W3) := lh hj
     clear hj hb' hy HRR
     gi_wp2
     refine bodyPost_ret (v := .tuple #[]) ?_ rfl ⟨⟨_, rfl⟩, .inr HSt.out, HBS3.out⟩
     simp [results, Tryz.results130, go_sem, ↓IntWalk.iteOmega]
    | true =>
     have HJ3 : Hid (J (tagD (bsT a) (bsT t) 0) W3) := lh (by rw [← HT0.out]; exact hj)
     have hs3 := HBS3.out.size
     clear hj hb' hy HRR HB HJr HI hnx
     gi_wp2_with (refine ⟨trivial, ?_⟩; gi_at_call 126; refine (callsIn_wide.2 (HSp.out _)).mono ?_; rintro e w4 ⟨⟨A, c, ls, m, rfl, hrd, hls, hll⟩, hx4⟩; have HRd := lh hrd; have HLs := lh hls; have HX4 := lh hx4; have hs4 := hx4.size; clear hrd hls hx4)
     have HB4 := lh (HBS3.out.trans (ButS.of_ext HX4.out))
     have HJ4 := lh (HJ.out _ _ _ HJ3.out (ButS.of_ext HX4.out))
     have hln : ls.length = (splitT (bsT t)).length := by rw [← HLs.out, List.length_map]
     have hlna := Nat.le_of_eq hln
     have hlnb := Nat.le_of_eq hln.symm
     clear HX4 HJ3 HBS3 hb3 hct hs4 hln
     gi_loopw [50] (fun i wr => ∃ k : Nat, i = .int .i64 k ∧ k ≤ ls.length ∧ Hid (J (tagD (bsT a) (bsT t) k) wr) ∧ Hid (ButS (fun b => S b ∨ W.heap.size ≤ b) W wr) ∧ Hid (ReadsStr wr wr.heap.size A ls)) (fun i _ => ls.length - (intOf i).toNat)
     case atStart => exact ⟨0, rfl, Nat.zero_le _, HJ4, HB4, HRd⟩
     case round =>
      obtain ⟨k, rfl, hk, HJk, HB5, HR5⟩ := hrel
      have ha5 : Boxed wr ba 9 (.string a) := HB5.out.boxed HB1.out (by have := HSn.out; rintro (h | h); exact this.1 h; omega)
      have hca := ha5.cell
      clear ha5
      have hs5 := HB5.out.size
      by_cases hlt : k < ls.length
      ·have hlt2 : k < (splitT (bsT t)).length := by omega
       obtain ⟨b, off, hAe, hb, c1⟩ := ReadsStr.cell HR5.out k hlt
       subst hAe
       have hge : (splitT (bsT t))[k] = bsT ls[k] := by simp only [← HLs.out, List.getElem_map]
       have hsz : ls[k].size ≤ 900000 := by
        have := splitT_le (bsT t) _ (List.getElem_mem hlt2)
        rw [hge, bsT_size, bsT_size] at this
        omega
       have HNt : Hid (∀ cu : ByteArray, bsT cu = custB (bsT a) → NextIn (bsT a) (bsT t) (tagD (bsT a) (bsT t) k) (3, bsT (cu ++ ⟨#[58]⟩ ++ ls[k])) ∧ tagD (bsT a) (bsT t) k ++ [(3, bsT (cu ++ ⟨#[58]⟩ ++ ls[k]))] = tagD (bsT a) (bsT t) (k + 1)) := lh (fun cu hcu => by
        rw [bsT_colon, hcu, tagD_succ hlt2, ← hge]
        exact ⟨next_tag hlt2, rfl⟩)
       generalize ls[k] = x at *
       clear hge
       gi_wp2_with (refine ⟨trivial, ?_⟩; gi_at_call 67; refine (show Hid _ from ?_).out)
       refine lh ?_
       refine (callsIn_wide.2 (HCu.out _)).mono ?_
       rintro e w6 ⟨⟨cu, rfl, hcu, hcs⟩, hx6⟩
       obtain ⟨hn1', hn2'⟩ := HNt.out cu hcu
       have HPn := lh hn2'
       have HJ6 := lh (HJ.out _ _ w6 HJk.out (ButS.of_ext hx6))
       have HB6 := lh (HB5.out.trans (ButS.of_ext hx6))
       have HR6 := lh (HR5.out.on hx6)
       have hs6 := hx6.size
       obtain ⟨fn1, tmps1, assign1, body1, hy, hR⟩ := HY.out (tagD (bsT a) (bsT t) k) 3 (cu ++ ⟨#[58]⟩ ++ x) w6 hn1' (by rw [ByteArray.size_append, ByteArray.size_append]; show cu.size + 1 + x.size ≤ _; omega) (.inr (.inr rfl)) HJ6.out HB6.out
       have HRR := lh hR
       clear hR hn1' hn2' hcu hx6 HNt
       gi_wp2
       refine HRR.out.mono ?_
       rintro e W7 ⟨hj0, hb'⟩
       obtain ⟨b', rfl, hj⟩ := hj0.cases
       clear hj0
       have HB7 := lh (HB6.out.trans (hb'.mono (S' := fun b => S b ∨ W.heap.size ≤ b) (fun _ _ h => .inl h)))
       have HR7 := lh (reads_butS HR6.out hb' (HJS.out _ _ HJ6.out))
       cases b' with
       | false =>
        have HSt : Hid (St W7) := lh hj
        clear hj hb' hy HRR
        gi_wp2
        refine bodyPost_ret (v := .tuple #[]) ?_ rfl ⟨⟨_, rfl⟩, .inr HSt.out, HB7.out⟩
        simp [results, Tryz.results130, go_sem, ↓IntWalk.iteOmega]
       | true =>
        have HJ7 : Hid (J (tagD (bsT a) (bsT t) (k + 1)) W7) := lh (by rw [← HPn.out]; exact hj)
        clear hj hb' hy HRR
        gi_wp2
        go_roundw
        case rel => exact ⟨k + 1, by go_num, by omega, HJ7, HB7, HR7⟩
        case measure => simp [intOf]; omega
      ·have HJe : Hid (J (namesB (bsT a) (bsT t)) wr) := lh (by rw [← names_end, show (splitT (bsT t)).length = k by omega]; exact HJk.out)
       gi_wp2
       go_end0
       exact ⟨⟨_, rfl⟩, .inl HJe.out, HB5.out⟩
end
end Go.Proofs.YtpojnhikgjcgmaaGreatDoor

namespace Go.Proofs.YtpojnhikgjcgmaaGreatDoor
open Go.RowKit Go.Shelf Go.Maps
open Go.Proofs
open Ad (Bs)
theorem zeroIntC (w : World) : (zeroValue 3).run Tryz.prog w = .ok (.int .i64 0) w := by kernel_rfl
theorem zeroBoolC (w : World) : (zeroValue 4).run Tryz.prog w = .ok (.bool false) w := by kernel_rfl
theorem tab_look {w : World} {l : List Ep} {cs : Array Value} (h : TabAt w l (.agg cs)) :
  ∃ mu mr, cs = #[.map mu, .map mr, .int .i64 (lastNum l)] ∧
   (∀ W, Ext w W → ∀ (k : WK) (lo : Int), wkOk k → ∃ c is, (Instr.lookup 49 (.map mu) (whatC k.1 k.2.1 k.2.2) true).run Tryz.prog W = .ok (.tuple #[.int .i64 c, .bool is]) W ∧ (is && decide (lo ≤ c)) = lateB (untK l k) lo) ∧
   (∀ W, Ext w W → ∀ d, dkOk d → (Instr.lookup 50 (.map mr) (digC d) false).run Tryz.prog W = .ok (.bool (revokedB l d)) W) := by
 rcases h with ⟨rfl, h⟩ | ⟨bu, nu, br, nr, Du, Dr, h, hne, hu, hr, _, _, HU, HR⟩
 ·injection h with h
  refine ⟨none, none, h, ?_, ?_⟩
  ·intro W _ k lo hk
   exact ⟨0, false, Maps.look_nil true key_what Tryz.underlying49 (zeroIntC W) (what_key k.1 k.2.1 k.2.2 hk.1 hk.2), rfl⟩
  ·intro W _ d hd
   exact Maps.look_nil false key_dig Tryz.underlying50 (zeroBoolC W) (dig_key d hd.1 hd.2)
 ·injection h with h
  refine ⟨some bu, some br, h, ?_, ?_⟩
  ·intro W hW k lo hk
   have hu' := ownsMap_ext hu hW
   obtain ⟨c, h1, h2, _⟩ := ownsMap_okI hu' key_what Tryz.underlying49 Tryz.underlying3 (zeroIntC W) (what_key k.1 k.2.1 k.2.2 hk.1 hk.2)
   refine ⟨c, _, h1, ?_⟩
   have h3 := HU.out.has k hk
   have h4 := HU.out.at' k hk (.lit (.int .i64 0))
   have h5 : Maps.has Du (whatL k.1 k.2.1 k.2.2) = ((untK l k).map (Lit.int .i64)).isSome := h3
   rw [h5]
   cases hq : untK l k with
   | none => rfl
   | some u =>
    rw [hq] at h4
    have h6 : Du.atKey (whatL k.1 k.2.1 k.2.2) (.lit (.int .i64 0)) = .lit (.int .i64 u) := h4
    rw [h2] at h6
    have h7 : c = u := (Lit.int.inj (DataW.lit.inj h6)).2
    rw [h7]
    rfl
  ·intro W hW d hd
   obtain ⟨c, h1, h2⟩ := ownsMap_B (ownsMap_ext hr hW) key_dig Tryz.underlying50 Tryz.underlying4 (zeroBoolC W) (dig_key d hd.1 hd.2)
   rw [h1, revF_at HR.out hd h2]
def HitJ (l : List Ep) (soft : Bool) (lo : Int) (rc b4 : Nat) (rdy : Obj) (done : List (Int × Bs)) (W : World) : Prop :=
 missD l soft lo done ∧ Boxed W b4 4 (.bool false) ∧ W.heap[rc]? = some rdy
def HitSt (l : List Ep) (soft : Bool) (lo : Int) (a t : Bs) (rc b4 : Nat) (rdy : Obj) (W : World) : Prop :=
 hitT l soft lo a t = true ∧ Boxed W b4 4 (.bool true) ∧ W.heap[rc]? = some (doneOf .ret rdy)
theorem results_one {P : Program} {fn : Func} {tmps : Array Value} {w : World} {r1 : ResultVar} {v1 : Value} (h : fn.results = #[r1]) (h1 : ResIs P w tmps v1 r1) : (results fn tmps).run P w = .ok v1 w := by
 cases r1 with
 | tmp t1 => simp only [ResIs] at h1; simp [results, h, h1]
 | cell a1 ty1 =>
  obtain ⟨ad1, k1, k2⟩ := h1
  simp [results, h, k1, asAddr, k2]
def whB3 (x y z : Value) : Sem Next := do pure (.value (← Instr.build 118 #[(0, x), (1, y), (2, z)]))
theorem whB3_x (ρ : Operand → Value) (dst : Option Tmp) (x y z : Operand) (t : TypeId) (pos : String) (after : Array Edge) (guard : Option (Nat × Bool)) : execOp ρ { dst, op := .build 118 #[(0, x), (1, y), (2, z)], type := t, pos, after, guard } = whB3 (ρ x) (ρ y) (ρ z) := by kernel_rfl
theorem whB3_run (k : Int) (t : ByteArray) (s : Bool) (W : World) : (whB3 (.int .i64 k) (.string t) (.bool s)).run Tryz.prog W = .ok (.value (whatC k t s)) W := by kernel_rfl
section
attribute [local go_sem] Oper.semAt_some size_one
attribute [local go_sem ↓] whB3_x
attribute [local go_sem] whB3_run
theorem hit_any (l : List Ep) (soft : Bool) (s : St) (bs btb : Nat) (cs : Array Value) (w : World) (hrs : RowAt w bs (stmC s)) (htb : RowAt w btb cs) (hT : TabAt w l (.agg cs)) (hsa : s.addr.size ≤ 900000) (hst : s.tags.size ≤ 900000) (hasc : ∀ c ∈ bsT s.addr, c.toNat < 128) :
  Calls Tryz.prog 73 #[.bool soft, .pointer (some ⟨bs, 0, none⟩), .pointer (some ⟨btb, 0, none⟩)] w fun e w' => e = .returned (.bool (hitT l soft s.lo (bsT s.addr) (bsT s.tags))) ∧ Ext w w' := by
 obtain ⟨mu, mr, rfl, hlu, _⟩ := tab_look hT
 have HLu := lh hlu
 have HT := lh hT
 have HN := lh (fun W => names_any s.addr s.tags W)
 have l1 := hrs.lt
 have l2 := htb.lt
 have HRS := lh hrs
 have HTB := lh htb
 have q0 : w.cell? ⟨bs, 0, none⟩ = some (.string s.addr) := (hrs.cell 0).trans (stm_g0 s)
 have q20 : w.cell? ⟨bs, 20, none⟩ = some (.string s.tags) := (hrs.cell 20).trans (stm_g20 s)
 clear hlu hT hrs htb
 refine (callsIn_wide (n := 4)).1 ?_
 refine callsIn_of_wp_marks Tryz.func73 rfl trivial ?_ rfl
 simp only [Tryz.ntmps73, List.size_toArray, List.length_cons, List.length_nil, Nat.reduceAdd, Nat.reduceSub, Array.replicate_succ, Array.replicate_zero, List.push_toArray, List.append_toArray, List.nil_append, List.cons_append]
 gi_wp2_with (refine ⟨trivial, ?_⟩; gi_at_call 74; refine (callsIn_wide.2 (HN.out _)).mono ?_; rintro e w' ⟨rfl, rfl⟩)
 obtain ⟨W0, hW0⟩ : ∃ W0, ((((w.alloc (.cells #[.bool soft] 4)).alloc (.cells #[.bool false] 4)).alloc (.cells #[.string s.addr] 9)).alloc (.cells #[.string s.tags] 9)) = W0 := ⟨_, rfl⟩
 have b3 : Boxed W0 w.heap.size 4 (.bool soft) := by rw [← hW0]; exact (((Boxed.new w 4 _).alloc _).alloc _).alloc _
 have b4 : Boxed W0 (w.heap.size + 1) 4 (.bool false) := by
  rw [← hW0]
  have := Boxed.new (w.alloc (.cells #[.bool soft] 4)) 4 (.bool false); rw [World.size_alloc] at this; exact (this.alloc _).alloc _
 have ba : Boxed W0 (w.heap.size + 1 + 1) 9 (.string s.addr) := by
  rw [← hW0]
  have := Boxed.new ((w.alloc (.cells #[.bool soft] 4)).alloc (.cells #[.bool false] 4)) 9 (.string s.addr); rw [World.size_alloc, World.size_alloc] at this; exact this.alloc _
 have bt : Boxed W0 (w.heap.size + 1 + 1 + 1) 9 (.string s.tags) := by
  rw [← hW0]
  have := Boxed.new (((w.alloc (.cells #[.bool soft] 4)).alloc (.cells #[.bool false] 4)).alloc (.cells #[.string s.addr] 9)) 9 (.string s.tags); rw [World.size_alloc, World.size_alloc, World.size_alloc] at this; exact this
 have bs0 : W0.heap.size = w.heap.size + 4 := by rw [← hW0]; simp
 have bx : Ext w W0 := by rw [← hW0]; exact ((((eR _).alloc _).alloc _).alloc _).alloc _
 rw [hW0]
 clear hW0 q0 q20
 have hbs1 := Nat.le_of_eq bs0
 have hbs2 := Nat.le_of_eq bs0.symm
 clear bs0
 refine rf_enter2 rfl (by omega) (gf := 130) (lb := #[.pointer (some ⟨w.heap.size + 1 + 1, 0, none⟩), .pointer (some ⟨w.heap.size + 1 + 1 + 1, 0, none⟩)]) rfl trivial (enters_of Tryz.func130 (by kernel_rfl) rfl) ?_
 intro fn WL rdy hfn hrdy hE hEs hl0 hD0
 have hEa := Nat.le_of_eq hEs
 have hEb := Nat.le_of_eq hEs.symm
 clear hEs
 refine CallsIn.mono (names1_in (4 - 1) (by omega) (W0.heap.size + 1) (w.heap.size + 1 + 1) (w.heap.size + 1 + 1 + 1) s.addr s.tags WL hsa hst hasc (Boxed.ext ba hE) (Boxed.ext bt hE)
  (fun k => k = W0.heap.size + 1 ∨ k = w.heap.size + 1) ⟨by omega, by omega⟩ (fun k hk => by omega)
  (HitJ l soft s.lo (W0.heap.size + 1) (w.heap.size + 1) rdy)
  (HitSt l soft s.lo (bsT s.addr) (bsT s.tags) (W0.heap.size + 1) (w.heap.size + 1) rdy)
  ⟨miss_nil _ _ _, Boxed.ext b4 hE, hl0⟩
  (fun d W1 W2 ⟨h1, h2, h3⟩ hx => ⟨h1, hx.boxed h2 (by omega), (hx.block _ (Array.getElem?_eq_some_iff.1 h3).1 (by omega)).trans h3⟩)
  (fun d W1 ⟨h1, h2, h3⟩ k hk i x => by
   rcases hk with rfl | rfl
   ·rw [hrdy] at h3
    simp [World.cell?, h3, recOf]
   ·unfold Boxed at h2
    simp only [World.cell?, h2]
    rcases i with _ | i
    ·simp
    ·simp) ?hY) ?post
 case hY =>
  rintro done k x W1 hnx hxs hk3 ⟨hms, hb4, hrec⟩ hBS
  have hsz1 := hBS.size
  have hlt := (Array.getElem?_eq_some_iff.1 hrec).1
  have hE1 : Ext w W1 := ((ButS.of_ext (bx.trans hE)).trans hBS).toExt (fun j hj e => by omega)
  have HE1 := lh hE1
  have HB3 := lh (hBS.boxed (Boxed.ext b3 hE) (by omega))
  have HB4 := lh hb4
  have HMs := lh hms
  have HNx := lh hnx
  have hok : wkOk (k, x, soft) := ⟨by show (Lit.int .i64 k).wf = true; rcases hk3 with rfl | rfl | rfl <;> decide, by show x.size ≤ maxLen; unfold maxLen; omega⟩
  have HRdy := lh hrdy
  rw [hrdy] at hrec
  clear hrdy hms hnx hb4 hE1 hk3
  refine rf_round hrec hfn rfl ?_
  have HREC := lh hrec
  clear hrec
  gi_wp2
  refine ⟨(Array.getElem?_eq_some_iff.1 HREC.out).2, ?_⟩
  intro W2 hbt hs2 hr2
  have hs2a : W2.heap.size ≤ W1.heap.size := Nat.le_of_eq hs2
  have hs2b : W1.heap.size ≤ W2.heap.size := Nat.le_of_eq hs2.symm
  have hE2 : Ext w W2 := ((ButS.of_ext HE1.out).trans (ButS.of_but (S := fun j => w.heap.size ≤ j) hbt (.inr (by omega)))).toExt (fun j hj e => by omega)
  have HB42 := lh (boxed_but HB4.out hbt (by omega))
  have q3 := (boxed_but HB3.out hbt (by omega)).cell
  have c4 := HB42.out.cell
  have c4f := HB42.out.frozen
  have q21 : W2.cell? ⟨bs, 21, none⟩ = some (.int .i64 s.lo) := (hE2.cell (p := ⟨bs, 21, none⟩) l1).trans ((HRS.out.cell 21).trans (stm_g21 s))
  have qt : W2.cell? ⟨btb, 0, none⟩ = some (.map mu) := (hE2.cell (p := ⟨btb, 0, none⟩) l2).trans (HTB.out.cell 0)
  obtain ⟨c, is, hlk, hcd⟩ := HLu.out W2 hE2 (k, x, soft) s.lo hok
  have HCd : Hid ((is && decide (s.lo ≤ c)) = lateB (untilB l k (bsT x) soft) s.lo) := lh hcd
  have HBt := lh hbt
  have HR2 := lh hr2
  clear hbt hr2 hs2 hcd hE2 hok
  cases is with
  | false =>
   have HM2 : Hid (missD l soft s.lo (done ++ [(k, bsT x)])) := lh (miss_snoc HMs.out (by rw [← HCd.out]; rfl))
   clear HCd HMs
   gi_wp2
   refine ⟨HR2.out, ?_⟩
   intro W4 hb4' hr4
   exact ⟨.inl ⟨rfl, HM2.out, boxed_but HB42.out hb4' (by omega), by rw [HRdy.out]; exact hr4⟩, (ButS.of_but HBt.out (.inr (.inl rfl))).trans (ButS.of_but hb4' (.inr (.inl rfl)))⟩
  | true =>
   by_cases hlc : s.lo ≤ c
   ·have d1 : decide (s.lo ≤ c) = true := decide_eq_true hlc
    have HHt : Hid (hitT l soft s.lo (bsT s.addr) (bsT s.tags) = true) := lh (next_hit HNx.out (by show lateB (untilB l k (bsT x) soft) s.lo = true; rw [← HCd.out, d1]; rfl))
    clear HCd HMs
    gi_wp2
    refine ⟨?_, ?_⟩
    ·exact (Below.heap_setCell _ _ _ _ (by show _ ≠ w.heap.size + 1; omega)).trans HR2.out
    intro W4 hb4' hr4
    exact ⟨.inr ⟨rfl, HHt.out, boxed_but (HB42.out.set _) hb4' (by omega), by rw [HRdy.out]; exact hr4⟩, ((ButS.of_but HBt.out (.inr (.inl rfl))).setCell (p := ⟨w.heap.size + 1, 0, none⟩) (.inl (.inr rfl)) _).trans (ButS.of_but hb4' (.inr (.inl rfl)))⟩
   ·have d1 : decide (s.lo ≤ c) = false := decide_eq_false hlc
    have HM2 : Hid (missD l soft s.lo (done ++ [(k, bsT x)])) := lh (miss_snoc HMs.out (by show lateB (untilB l k (bsT x) soft) s.lo = false; rw [← HCd.out, d1]; rfl))
    clear HCd HMs
    gi_wp2
    refine ⟨HR2.out, ?_⟩
    intro W4 hb4' hr4
    exact ⟨.inl ⟨rfl, HM2.out, boxed_but HB42.out hb4' (by omega), by rw [HRdy.out]; exact hr4⟩, (ButS.of_but HBt.out (.inr (.inl rfl))).trans (ButS.of_but hb4' (.inr (.inl rfl)))⟩
 case post =>
  rintro e W' ⟨⟨v', rfl⟩, hJS, hB⟩
  have HOut : ButS (fun k => w.heap.size ≤ k) w W' := (ButS.of_ext (bx.trans hE)).trans (hB.mono (fun k _ e => by omega))
  have HO1 := lh HOut
  have hszB := hB.size
  have hD1 : W'.heap[W0.heap.size]? = some (.deferred (some [])) := (hB.block _ (by omega) (by omega)).trans hD0
  refine ⟨⟨_, rfl⟩, ?_⟩
  rcases hJS with ⟨hms, hb4, hrec⟩ | ⟨hht, hb4, hrec⟩
  ·refine .inl ⟨hrec, ?_⟩
   intro W'' hBut
   have HK : Hid (W''.heap[W0.heap.size]? = some (.deferred (some []))) := lh ((hBut.block _ (by omega) (fun e => by injection e; omega)).trans hD1)
   have hq4 := boxed_but hb4 hBut (by omega)
   have k4 := hq4.cell
   have k4f := hq4.frozen
   have HQ4 := lh hq4
   have HBu : Hid (ButS (fun k => w.heap.size ≤ k) w W'') := lh (HO1.out.trans (ButS.of_but hBut (.inr (by omega))))
   have HF := lh (miss_hit hms)
   clear hms hb4 hrec hBut hD1 hD0 hB HOut hl0 b3 b4 ba bt HO1 hq4
   gi_wp2
   have hK2 : (W''.setCell ⟨w.heap.size + 1, 0, none⟩ (.bool false)).heap[W0.heap.size]? = some (.deferred (some [])) := (Below.heap_setCell _ _ _ _ (by show _ ≠ w.heap.size + 1; omega)).trans HK.out
   refine ⟨by simp, .inl ⟨_, _, rfl, run_takeDeferred hK2, ?_⟩⟩
   have hgb := grownBy_putObj' (W''.setCell ⟨w.heap.size + 1, 0, none⟩ (.bool false)) W0.heap.size (.deferred none)
   refine ⟨.bool false, results_one Tryz.results73 ⟨_, rfl, load_bool (boxed_but (HQ4.out.set _) hgb (by omega))⟩, ?_, ?_⟩
   ·exact ret_bool HF.out.symm
   ·exact ((HBu.out.setCell (p := ⟨w.heap.size + 1, 0, none⟩) (.inl (by show _ ≤ w.heap.size + 1; omega)) _).trans (ButS.of_but hgb (.inr (by omega)))).toExt (fun k hk => by omega)
  ·refine .inr ⟨_, hrec, ?_⟩
   intro W'' hBut
   have HK : Hid (W''.heap[W0.heap.size]? = some (.deferred (some []))) := lh ((hBut.block _ (by omega) (fun e => by injection e; omega)).trans hD1)
   have HQ4 := lh (boxed_but hb4 hBut (by omega))
   have HBu : Hid (ButS (fun k => w.heap.size ≤ k) w W'') := lh (HO1.out.trans (ButS.of_but hBut (.inr (by omega))))
   have HF := lh hht
   clear hht hb4 hrec hBut hD1 hD0 hB HOut hl0 b3 b4 ba bt HO1
   gi_wp2
   refine ⟨by simp, .inl ⟨_, _, rfl, run_takeDeferred HK.out, ?_⟩⟩
   have hgb := grownBy_putObj' W'' W0.heap.size (.deferred none)
   refine ⟨.bool true, results_one Tryz.results73 ⟨_, rfl, load_bool (boxed_but HQ4.out hgb (by omega))⟩, ?_, ?_⟩
   ·exact ret_bool HF.out.symm
   ·exact (HBu.out.trans (ButS.of_but hgb (.inr (by omega)))).toExt (fun k hk => by omega)
end
theorem digC_row {a : List Int} (h : a.length = 16) : Value.agg (dgC a) = digC a := by rw [dgC_cells h]; rfl
theorem tstate_any (l : List Ep) (s : St) (cs : Array Value) (w : World) (hT : TabAt w l (.agg cs)) (hsa : s.addr.size ≤ 900000) (hst : s.tags.size ≤ 900000) (hasc : ∀ c ∈ bsT s.addr, c.toNat < 128) :
  Calls Tryz.prog 26 #[.agg cs, .agg (stmC s)] w fun e w' => e = .returned (.int .i64 (tableB l s.lo (bsT s.addr) (bsT s.tags))) ∧ Ext w w' := by
 have HH := lh (fun (soft : Bool) (W : World) (bs btb : Nat) (h1 : RowAt W bs (stmC s)) (h2 : RowAt W btb cs) (h3 : Ext w W) => hit_any l soft s bs btb cs W h1 h2 (hT.on h3) hsa hst hasc)
 have HV : Hid (tableB l s.lo (bsT s.addr) (bsT s.tags) = if hitT l false s.lo (bsT s.addr) (bsT s.tags) = true then 2 else if hitT l true s.lo (bsT s.addr) (bsT s.tags) = true then 1 else 0) := lh rfl
 have hfs := stm_fits s
 generalize tableB l s.lo (bsT s.addr) (bsT s.tags) = R at *
 have HH1 := lh (fun W bs btb h1 h2 h3 => HH.out false W bs btb h1 h2 h3)
 have HH2 := lh (fun W bs btb h1 h2 h3 => HH.out true W bs btb h1 h2 h3)
 generalize hitT l false s.lo (bsT s.addr) (bsT s.tags) = b1 at *
 generalize hitT l true s.lo (bsT s.addr) (bsT s.tags) = b2 at *
 clear HH hT hasc
 go_enter Tryz.func26, Tryz.ntmps26
 go_upto_region 1 with (fail)
 refine wp_world (fun W => Ext w W ∧ RowAt W w.heap.size cs ∧ RowAt W (w.heap.size + 1) (stmC s)) ⟨(by (with_reducible repeat first|exact eR _|apply eD|apply eN|apply eA|apply eO|apply eS|apply eC);all_goals first|omega|simp <;> omega), (RowAt.new _ _ _).alloc _, RowAt.newAt (by simp)⟩ ?_
 obtain ⟨B, hB⟩ : ∃ B, w.heap.size = B := ⟨_, rfl⟩
 rw [hB]
 rintro W1 ⟨x1, u0, u1⟩
 have HX1 := lh x1
 have HU0 := lh u0
 have HU1 := lh u1
 clear x1 u0 u1
 go_wp2_with (go_at_call 73; refine (show Hid _ from ?_).out)
 refine lh ?_
 refine (HH1.out W1 _ _ HU1.out HU0.out HX1.out).mono ?_
 rintro e w' ⟨rfl, hxl⟩; obtain ⟨xl, rfl⟩ := hxl.asLater; clear hxl
 cases b1 with
 | true =>
  have HR : Hid (R = 2) := lh (by rw [HV.out]; rfl)
  go_wp2
  go_ret
  exact ⟨ret_int HR.out.symm, (by (with_reducible repeat first|exact HX1.out|exact eR _|apply eD|apply eN|apply eA|apply eO|apply eS|apply eC);all_goals first|omega|simp <;> omega)⟩
 | false =>
  go_wp2_with (go_at_call 73; refine (show Hid _ from ?_).out)
  refine lh ?_
  refine (HH2.out (later W1 xl) _ _ (HU1.out.later _) (HU0.out.later _) (HX1.out.onto _)).mono ?_
  rintro e w' ⟨rfl, hxl⟩; obtain ⟨xl, rfl⟩ := hxl.asLater; clear hxl
  cases b2 with
  | true =>
   have HR : Hid (R = 1) := lh (by rw [HV.out]; rfl)
   go_wp2
   go_ret
   exact ⟨ret_int HR.out.symm, (by (with_reducible repeat first|exact HX1.out|exact eR _|apply eD|apply eN|apply eA|apply eO|apply eS|apply eC);all_goals first|omega|simp <;> omega)⟩
  | false =>
   have HR : Hid (R = 0) := lh (by rw [HV.out]; rfl)
   go_wp2
   go_ret
   exact ⟨ret_int HR.out.symm, (by (with_reducible repeat first|exact HX1.out|exact eR _|apply eD|apply eN|apply eA|apply eO|apply eS|apply eC);all_goals first|omega|simp <;> omega)⟩
theorem trevoked_any (l : List Ep) (d : List Int) (cs : Array Value) (w : World) (hT : TabAt w l (.agg cs)) (hd : dkOk d) :
  Calls Tryz.prog 27 #[.agg cs, .agg (dgC d)] w fun e w' => e = .returned (.bool (revokedB l d)) ∧ Ext w w' := by
 obtain ⟨mu, mr, rfl, _, hlr⟩ := tab_look hT
 have HLr := lh (fun W hx => hlr W hx d hd)
 rw [← digC_row hd.1] at HLr
 have hft : fitsRow 16 (dgC d) = true := by simp [fitsRow, dgC, Value.oneCell']
 generalize revokedB l d = R at *
 clear hlr hT hd
 go_enter Tryz.func27, Tryz.ntmps27
 go_upto_region 1 with (fail)
 refine wp_world (fun W => Ext w W ∧ RowAt W w.heap.size #[.map mu, .map mr, .int .i64 (lastNum l)] ∧ RowAt W (w.heap.size + 1) (dgC d)) ⟨(by (with_reducible repeat first|exact eR _|apply eD|apply eN|apply eA|apply eO|apply eS|apply eC);all_goals first|omega|simp <;> omega), (RowAt.new _ _ _).alloc _, RowAt.newAt (by simp)⟩ ?_
 obtain ⟨B, hB⟩ : ∃ B, w.heap.size = B := ⟨_, rfl⟩
 rw [hB]
 rintro W1 ⟨x1, u0, u1⟩
 have HX1 := lh x1
 have hlk := HLr.out W1 x1
 have q1 : W1.cell? ⟨B, 1, none⟩ = some (.map mr) := u0.cell 1
 have k0 : rowOf W1 (B + 1) 0 16 = some (dgC d) := u1.all rfl (by omega)
 clear x1 u0 u1
 go_wp2
 go_ret
 exact ⟨rfl, (by (with_reducible repeat first|exact HX1.out|exact eR _|apply eD|apply eN|apply eA|apply eO|apply eS|apply eC);all_goals first|omega|simp <;> omega)⟩
end Go.Proofs.YtpojnhikgjcgmaaGreatDoor