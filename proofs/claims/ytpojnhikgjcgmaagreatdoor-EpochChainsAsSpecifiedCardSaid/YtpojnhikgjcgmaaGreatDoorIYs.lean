/- epoch.Since. -/
import Derived.WalkKit
import Derived.WalkSpells
import Derived.WalkLawsBesides
import Derived.Deep.QuietTactic
import Derived.BigQuiet
import Derived.Test.YtpojnhikgjcgmaaGreatDoorIOn
import Derived.Test.YtpojnhikgjcgmaaGreatDoorISoJ
set_option maxRecDepth 100000
set_option maxHeartbeats 64000000
set_option linter.unusedVariables false
set_option linter.unusedSimpArgs false
namespace Go.Proofs.YtpojnhikgjcgmaaGreatDoor
open Go.RowKit Go.Shelf Go.Maps
open Go.Proofs
theorem puT : ElemTy Tryz.prog 26 39 3 32 := ⟨by kernel_rfl, by kernel_rfl, by omega⟩
theorem dgT : ElemTy Tryz.prog 27 23 16 16 := ⟨by kernel_rfl, by kernel_rfl, by omega⟩
theorem epT : ElemTy Tryz.prog 45 30 38 112 := ⟨by kernel_rfl, by kernel_rfl, by omega⟩
theorem clonePu_any (A : Option Addr) (c : Nat) (ls : List Pu) (w : World) (hl : ls.length ≤ 100000) (hr : Reads 3 puL w w.heap.size A ls) (hz : A = none → c = 0) :
  Calls Tryz.prog 133 #[.slice A ls.length c] w fun r w' => (∃ A' c', r = .returned (.slice A' ls.length c') ∧ Owns 39 3 puL w.heap.size w' A' c' ls) ∧ Ext w w' := by
 cases A with
 | none =>
  have h0 : ls = [] := by
   rcases Nat.eq_zero_or_pos ls.length with q | q
   ·exact List.eq_nil_of_length_eq_zero q
   ·obtain ⟨b, off, k, _⟩ := hr q
    cases k
  have hc := hz rfl
  subst h0 hc
  have hnn : ∀ W, (binOp .eql 26 (.slice none 0 0) (.slice none 0 0)).run Tryz.prog W = .ok (.bool true) W := fun W => by kernel_rfl
  go_enter Tryz.func133, Tryz.ntmps133
  go_wp2
  refine bodyPost_ret (v := .slice none 0 0) ?_ rfl ⟨⟨none, 0, rfl, Owns.nil _ _ _ _ _⟩, (by (with_reducible repeat first|exact eR _|apply eD|apply eN|apply eA|apply eO|apply eS|apply eC);all_goals first|omega|simp <;> omega)⟩
  simp [results, Tryz.results133, go_sem, ↓IntWalk.iteOmega]
 | some a =>
  have HR := lh hr
  have hns : ∀ (n : Nat) W, (binOp .eql 26 (.slice (some a) n c) (.slice none 0 0)).run Tryz.prog W = .ok (.bool false) W := fun n W => by kernel_rfl
  clear hr hz
  go_enter Tryz.func133, Tryz.ntmps133
  go_wp2_with (at_builtin; refine (show Hid _ from ?_).out)
  refine lh ?_
  refine app_reads puT puE rfl _ _ rfl w.heap.size _ _ [] rfl (owns_fresh puE [] w _ _ _ rfl (Nat.le_refl _) rfl (by simp)) (w.heap.size + 1) _ _ ls rfl ((HR.out.on ((Ext.refl w).alloc _)).up (by simp)) (fun h => (by cases h)) (by simp; omega) (by simp; omega) (by simp) ?_
  intro A2 c2 l2 w2 HL2 hO9 hB9 hl1 hl2 _
  have e2 : l2 = ls := by rw [HL2.out]; rfl
  subst e2
  have HO := lh hO9
  have HB : Hid (Ext w w2) := lh (Ext.grown ((Ext.refl w).alloc _) hB9 (Nat.le_refl _))
  clear hO9 hB9 hl1 hl2 HL2
  go_wp2
  refine bodyPost_ret (v := .slice A2 l2.length c2) ?_ rfl ⟨⟨A2, c2, rfl, HO.out⟩, HB.out⟩
  simp [results, Tryz.results133, go_sem, ↓IntWalk.iteOmega]
theorem cloneDg_any (A : Option Addr) (c : Nat) (ls : List (List Int)) (w : World) (hl : ls.length ≤ 100000) (hr : Reads 16 dgL w w.heap.size A ls) (hz : A = none → c = 0) :
  Calls Tryz.prog 134 #[.slice A ls.length c] w fun r w' => (∃ A' c', r = .returned (.slice A' ls.length c') ∧ Owns 23 16 dgL w.heap.size w' A' c' ls) ∧ Ext w w' := by
 cases A with
 | none =>
  have h0 : ls = [] := by
   rcases Nat.eq_zero_or_pos ls.length with q | q
   ·exact List.eq_nil_of_length_eq_zero q
   ·obtain ⟨b, off, k, _⟩ := hr q
    cases k
  have hc := hz rfl
  subst h0 hc
  have hnn : ∀ W, (binOp .eql 27 (.slice none 0 0) (.slice none 0 0)).run Tryz.prog W = .ok (.bool true) W := fun W => by kernel_rfl
  go_enter Tryz.func134, Tryz.ntmps134
  go_wp2
  refine bodyPost_ret (v := .slice none 0 0) ?_ rfl ⟨⟨none, 0, rfl, Owns.nil _ _ _ _ _⟩, (by (with_reducible repeat first|exact eR _|apply eD|apply eN|apply eA|apply eO|apply eS|apply eC);all_goals first|omega|simp <;> omega)⟩
  simp [results, Tryz.results134, go_sem, ↓IntWalk.iteOmega]
 | some a =>
  have HR := lh hr
  have hns : ∀ (n : Nat) W, (binOp .eql 27 (.slice (some a) n c) (.slice none 0 0)).run Tryz.prog W = .ok (.bool false) W := fun n W => by kernel_rfl
  clear hr hz
  go_enter Tryz.func134, Tryz.ntmps134
  go_wp2_with (at_builtin; refine (show Hid _ from ?_).out)
  refine lh ?_
  refine app_reads dgT dgE rfl _ _ rfl w.heap.size _ _ [] rfl (owns_fresh dgE [] w _ _ _ rfl (Nat.le_refl _) rfl (by simp)) (w.heap.size + 1) _ _ ls rfl ((HR.out.on ((Ext.refl w).alloc _)).up (by simp)) (fun h => (by cases h)) (by simp; omega) (by simp; omega) (by simp) ?_
  intro A2 c2 l2 w2 HL2 hO9 hB9 hl1 hl2 _
  have e2 : l2 = ls := by rw [HL2.out]; rfl
  subst e2
  have HO := lh hO9
  have HB : Hid (Ext w w2) := lh (Ext.grown ((Ext.refl w).alloc _) hB9 (Nat.le_refl _))
  clear hO9 hB9 hl1 hl2 HL2
  go_wp2
  refine bodyPost_ret (v := .slice A2 l2.length c2) ?_ rfl ⟨⟨A2, c2, rfl, HO.out⟩, HB.out⟩
  simp [results, Tryz.results134, go_sem, ↓IntWalk.iteOmega]
theorem cloneEp_any (A : Option Addr) (c : Nat) (ls : List Ep) (w : World) (hl : ls.length ≤ 100000) (hr : Reads 38 epL w w.heap.size A ls) (hz : A = none → c = 0) :
  Calls Tryz.prog 79 #[.slice A ls.length c] w fun r w' => (∃ A' c', r = .returned (.slice A' ls.length c') ∧ Owns 30 38 epL w.heap.size w' A' c' ls) ∧ Ext w w' := by
 cases A with
 | none =>
  have h0 : ls = [] := by
   rcases Nat.eq_zero_or_pos ls.length with q | q
   ·exact List.eq_nil_of_length_eq_zero q
   ·obtain ⟨b, off, k, _⟩ := hr q
    cases k
  have hc := hz rfl
  subst h0 hc
  have hnn : ∀ W, (binOp .eql 45 (.slice none 0 0) (.slice none 0 0)).run Tryz.prog W = .ok (.bool true) W := fun W => by kernel_rfl
  go_enter Tryz.func79, Tryz.ntmps79
  go_wp2
  refine bodyPost_ret (v := .slice none 0 0) ?_ rfl ⟨⟨none, 0, rfl, Owns.nil _ _ _ _ _⟩, (by (with_reducible repeat first|exact eR _|apply eD|apply eN|apply eA|apply eO|apply eS|apply eC);all_goals first|omega|simp <;> omega)⟩
  simp [results, Tryz.results79, go_sem, ↓IntWalk.iteOmega]
 | some a =>
  have HR := lh hr
  have hns : ∀ (n : Nat) W, (binOp .eql 45 (.slice (some a) n c) (.slice none 0 0)).run Tryz.prog W = .ok (.bool false) W := fun n W => by kernel_rfl
  clear hr hz
  go_enter Tryz.func79, Tryz.ntmps79
  go_wp2_with (at_builtin; refine (show Hid _ from ?_).out)
  refine lh ?_
  refine app_reads epT epE rfl _ _ rfl w.heap.size _ _ [] rfl (owns_fresh epE [] w _ _ _ rfl (Nat.le_refl _) rfl (by simp)) (w.heap.size + 1) _ _ ls rfl ((HR.out.on ((Ext.refl w).alloc _)).up (by simp)) (fun h => (by cases h)) (by simp; omega) (by simp; omega) (by simp) ?_
  intro A2 c2 l2 w2 HL2 hO9 hB9 hl1 hl2 _
  have e2 : l2 = ls := by rw [HL2.out]; rfl
  subst e2
  have HO := lh hO9
  have HB : Hid (Ext w w2) := lh (Ext.grown ((Ext.refl w).alloc _) hB9 (Nat.le_refl _))
  clear hO9 hB9 hl1 hl2 HL2
  go_wp2
  refine bodyPost_ret (v := .slice A2 l2.length c2) ?_ rfl ⟨⟨A2, c2, rfl, HO.out⟩, HB.out⟩
  simp [results, Tryz.results79, go_sem, ↓IntWalk.iteOmega]
theorem ep_lens {k : Ky} {e : Ep} (hs : k.secret.size ≤ 64) (hok : EpOk e) (h : EpShort e) : lens ([k.secret] ++ epParts e ++ [k.secret]) < 8796093022208 := by
 have := epParts_lens hok h
 rw [lens_append, lens_append, lens_one]
 omega
def serEp (k : Ky) (e : Ep) : Ep := { e with serial := k.serial }
theorem serEp_ok {k : Ky} {e : Ep} (h : EpOk e) (hk : i64 k.serial) : EpOk (serEp k e) := ⟨h.prev, h.sl, h.rv, fun x hx => by
 simp only [serEp, List.mem_cons, List.not_mem_nil, or_false] at hx
 rcases hx with rfl | rfl | rfl | rfl
 ·exact h.ints _ (by simp)
 ·exact h.ints _ (by simp)
 ·exact h.ints _ (by simp)
 ·exact hk, h.pu, h.pul, h.rvl, h.pcap, h.rcap, h.pz, h.rz⟩
theorem sealEp_ok {k : Ky} {e : Ep} (h : EpOk e) (hk : i64 k.serial) : EpOk (sealEp k e) := by
 have h1 := serEp_ok h hk
 exact ⟨h1.prev, ⟨makeN_len _ _ _, makeN_byt _ _ _⟩, h1.rv, h1.ints, h1.pu, h1.pul, h1.rvl, h1.pcap, h1.rcap, h1.pz, h1.rz⟩
theorem serEp_short {k : Ky} {e : Ep} (h : EpShort e) : EpShort (serEp k e) := ⟨h.pu, h.rv, h.what⟩
theorem ep_set21 (s : Ep) (n : Int) : (epC s).setIfInBounds 21 (.int .i64 n) = epC { s with serial := n } := by kernel_rfl
theorem ep_seal_set (s : Ep) (D : List Int) : laidOver (epC s) 22 (dgC D).toList = epC { s with sl := D } := by kernel_rfl
theorem ep_sl (e : Ep) : rowSub (epC e) 22 16 = some (dgC e.sl) := by kernel_rfl
def memE (e : Ep) (A : Option Addr) (c : Nat) (A2 : Option Addr) (c2 : Nat) : Ep := { e with PA := A, pc := c, RA := A2, rc := c2 }
theorem ep_mem_set (e : Ep) (A : Option Addr) (c : Nat) (A2 : Option Addr) (c2 : Nat) : ((epC e).setIfInBounds 19 (.slice A e.pu.length c)).setIfInBounds 20 (.slice A2 e.rv.length c2) = epC (memE e A c A2 c2) := by kernel_rfl
def readZ (ls : List ByteArray) : Soft := ⟨fun v w => ∃ A c, v = .slice A ls.length c ∧ ReadsStr w w.heap.size A ls ∧ (A = none → c = 0), fun v w w' ⟨A, c, h1, h2, h3⟩ hx => ⟨A, c, h1, h2.on hx, h3⟩⟩
theorem owns_z {base : Nat} {w : World} {A : Option Addr} {c : Nat} {l : List ByteArray} (h : OwnsStr base w A c l) : A = none → c = 0 := by
 rcases Owns.cases h with ⟨_, h2, _⟩ | ⟨g, cur, rfl, _⟩
 ·exact fun _ => h2
 ·exact fun k => by cases k
theorem readZ_of {base : Nat} {w : World} {A : Option Addr} {c : Nat} {l L : List ByteArray} (h : OwnsStr base w A c l) (e : l = L) : (readZ L).S (.slice A l.length c) w := by
 subst e
 exact ⟨A, c, rfl, h.reads sE, owns_z h⟩
theorem ssealedE_any (k : Ky) (e : Ep) (w : World) (hs : k.secret.size ≤ 64) (hok : EpOk e) (hsh : EpShort e) (ha : EpAt w e) (hk : KonstP w) :
  Calls Tryz.prog 135 #[.agg (kyC k), .int .i64 42, .agg (epC e), .func (.func 60) #[] #[]] w fun r w' => r = .returned (.agg (dgC (makeN k 42 (epParts e)))) ∧ Ext w w' := by
 have HI := lh (fun (W : World) (hx : Ext w W) => eparts_any e W hok hsh (ha.on hx))
 have hl := ep_lens (k := k) hs hok hsh
 have HM := lh (fun (A : Option Addr) (c : Nat) (W : World) (h1 : ReadsStr W W.heap.size A (epParts e)) (h2 : A = none → c = 0) (h3 : KonstP W) => smake_any k 42 A c (epParts e) W h1 h2 hl h3)
 have HK : Hid (KonstP w) := lh hk
 have hfe := ep_fits e
 obtain ⟨D, hD⟩ : ∃ D, makeN k 42 (epParts e) = D := ⟨_, rfl⟩
 have hfit : fitsRow 16 (dgC D) = true := by simp [fitsRow, dgC, Value.oneCell']
 rw [hD] at HM ⊢
 unfold EPOut at HI
 generalize epParts e = L at *
 clear hok hsh hl ha hk hD
 go_enter Tryz.func135, Tryz.ntmps135
 go_upto_region 1 with (fail)
 refine wp_world (fun W => Ext w W ∧ RowAt W w.heap.size (kyC k) ∧ RowAt W (w.heap.size + 1) (epC e) ∧ RowAt W (w.heap.size + 1 + 1) (cells8 (zeros32 16))) ⟨(by (with_reducible repeat first|exact eR _|apply eD|apply eN|apply eA|apply eO|apply eS|apply eC);all_goals first|omega|simp <;> omega), ((RowAt.new _ _ _).alloc _).alloc _, RowAt.alloc (RowAt.newAt (by simp)) _, RowAt.newAt (by simp)⟩ ?_
 obtain ⟨B, hB⟩ : ∃ B, w.heap.size = B := ⟨_, rfl⟩
 rw [hB]
 rintro W1 ⟨x1, u0, u1, u2⟩
 have HX1 := lh x1
 have HU2 := lh u2
 have k0 : rowOf W1 B 0 5 = some (kyC k) := u0.all rfl (by omega)
 have k1 : rowOf W1 (B + 1) 0 38 = some (epC e) := u1.all rfl (by omega)
 have hlu := u2.lt
 clear x1 u0 u1 u2
 refine wp_region_soft 6 (softsL [.eq (.agg (kyC k)), .eq (.int .i64 42), .eq (.func (.func 60) #[] #[]), .eq (.agg (epC e)), readZ L, Soft.eq (.agg (dgC D))]) (by kernel_rfl) (by kernel_rfl) (lt_cons ?_ (lt_cons ?_ (lt_cons ?_ (lt_cons ?_ (lt_cons ?_ (lt_cons ?_ (lt_none))))))) ?_
 any_goals (refine sop rfl fun xs W HW hsW HD Q' HQ => ?_; simp only [fillAt, dstOf, lc0, lcs, obs, Act.put, lsa, lsz, lss, nz, Nat.reduceAdd] at HQ ⊢)
 ·
  have hc := (row_extW HW.out (b := B) (by omega) 0 5).trans k0
  go_wp2
  exact HQ.out _ _ (eR _) rfl
 ·
  go_wp2
  exact HQ.out _ _ (eR _) rfl
 ·
  go_wp2
  exact HQ.out _ _ (eR _) rfl
 ·
  have hc := (row_extW HW.out (b := B+1) (by omega) 0 38).trans k1
  go_wp2
  exact HQ.out _ _ (eR _) rfl
 ·
  have hd2 : xs 2 = .func (.func 60) #[] #[] := (HD.out 2 (dk (by kernel_rfl)))
  generalize xs 2 = x2 at hd2 HQ ⊢; subst hd2
  have hd3 : xs 3 = .agg (epC e) := (HD.out 3 (dk (by kernel_rfl)))
  generalize xs 3 = x3 at hd3 HQ ⊢; subst hd3
  go_wp2_with (go_at_call 60; refine (HI.out _ (HX1.out.trans HW.out)).mono ?_; rintro r w1 ⟨⟨A, c, l', rfl, hl', ho⟩, hx⟩)
  exact HQ.out _ _ hx (readZ_of ho hl'.out)
 ·
  have hd0 : xs 0 = .agg (kyC k) := (HD.out 0 (dk (by kernel_rfl)))
  generalize xs 0 = x0 at hd0 HQ ⊢; subst hd0
  have hd1 : xs 1 = .int .i64 42 := (HD.out 1 (dk (by kernel_rfl)))
  generalize xs 1 = x1 at hd1 HQ ⊢; subst hd1
  have hs4 : (readZ L).S (xs 4) W := (HD.out 4 (dk (by kernel_rfl)))
  obtain ⟨A4, c4, h4, hr4, hz4⟩ := hs4
  generalize xs 4 = x4 at h4 HQ ⊢; subst h4
  go_wp2_with (go_at_call 179; refine (HM.out A4 c4 _ hr4 hz4 (RowAt.ext HK.out (HX1.out.trans HW.out))).mono ?_; rintro r w1 ⟨rfl, hx⟩)
  exact HQ.out _ _ hx rfl
 intro xs W3 hW hS
 have h5 : (Soft.eq (.agg (dgC D))).S (xs 5) W3 := hS 5 (by omega)
 simp only [fillAt, dstOf, lc0, lcs, obs, Act.put, lsa, lsz, lss, nz, Nat.reduceAdd, List.drop_succ_cons, List.drop_zero, List.drop_nil]
 have HW3 := lh (HX1.out.trans hW)
 have HWW3 := lh hW
 clear hS hW k0 k1
 have hx5 : xs 5 = .agg (dgC D) := h5
 generalize xs 5 = x5 at *; subst hx5
 have HU3 := lh (HU2.out.ext HWW3.out)
 have hrm : roomOf W3 (B + 1 + 1) 0 16 = true := by rw [HU3.out.room]; rfl
 have hl3 := HWW3.out.size
 clear HU2 HX1 h5
 go_wp2
 exact post_row sel_ty Tryz.results135 rfl rfl (RowAt.stored (n := 16) HU3.out rfl rfl (by omega)) ⟨rfl, (by (with_reducible repeat first|exact HW3.out|exact eR _|apply eD|apply eN|apply eA|apply eO|apply eS|apply eC);all_goals first|omega|simp <;> omega)⟩
def ownP (base : Nat) (ls : List Pu) : Soft := ⟨fun v w => ∃ A c, v = .slice A ls.length c ∧ Owns 39 3 puL base w A c ls, fun v w w' ⟨A, c, h1, h2⟩ hx => ⟨A, c, h1, h2.ext hx⟩⟩
def ownG (base : Nat) (ls : List (List Int)) : Soft := ⟨fun v w => ∃ A c, v = .slice A ls.length c ∧ Owns 23 16 dgL base w A c ls, fun v w w' ⟨A, c, h1, h2⟩ hx => ⟨A, c, h1, h2.ext hx⟩⟩
theorem owns_cap {α : Type} {e : TypeId} {size base : Nat} {enc : α → List Value} {w : World} {A : Option Addr} {c : Nat} {l : List α} (h : Owns e size enc base w A c l) : (l.length ≤ c ∧ c ≤ 9223372036854775807) ∧ (A = none → c = 0) := by
 rcases Owns.cases h with ⟨_, h2, h3⟩ | ⟨g, cur, rfl, _, _, h4, h5, _⟩
 ·subst h2 h3; exact ⟨⟨by simp, by omega⟩, fun _ => rfl⟩
 ·unfold maxLen at h5; exact ⟨⟨h4, by omega⟩, fun k => (by cases k)⟩
theorem memE_ok {e : Ep} {base : Nat} {w : World} {A : Option Addr} {c : Nat} {A2 : Option Addr} {c2 : Nat} (h : EpOk e) (h1 : Owns 39 3 puL base w A c e.pu) (h2 : Owns 23 16 dgL base w A2 c2 e.rv) : EpOk (memE e A c A2 c2) :=
 ⟨h.prev, h.sl, h.rv, h.ints, h.pu, h.pul, h.rvl, (owns_cap h1).1, (owns_cap h2).1, (owns_cap h1).2, (owns_cap h2).2⟩
structure OwnE (base : Nat) (w : World) (z : Ep) : Prop where
 pu : Owns 39 3 puL base w z.PA z.pc z.pu
 rv : Owns 23 16 dgL base w z.RA z.rc z.rv
theorem OwnE.at {base : Nat} {w : World} {z : Ep} (h : OwnE base w z) : EpAt w z := ⟨h.pu.reads puE, h.rv.reads dgE⟩
theorem OwnE.ext {base : Nat} {w w' : World} {z : Ep} (h : OwnE base w z) (hx : Ext w w') : OwnE base w' z := ⟨h.pu.ext hx, h.rv.ext hx⟩
theorem OwnE.other {base : Nat} {w : World} {z : Ep} (h : OwnE base w z) {b i : Nat} (hb : b < base) (v : Value) : OwnE base (w.setCell ⟨b, i, none⟩ v) z := ⟨h.pu.other (p := ⟨b, i, none⟩) hb v, h.rv.other (p := ⟨b, i, none⟩) hb v⟩
theorem OwnE.others {base : Nat} {w : World} {z : Ep} (h : OwnE base w z) {b : Nat} (hb : b < base) (o : Nat) (vs : List Value) : OwnE base (w.setCells b o vs) z := ⟨h.pu.others hb o vs, h.rv.others hb o vs⟩
theorem OwnE.lower {base b2 : Nat} {w : World} {z : Ep} (h : OwnE base w z) (hb : b2 ≤ base) : OwnE b2 w z := ⟨h.pu.lower hb, h.rv.lower hb⟩
def SealOut (k : Ky) (e : Ep) (base : Nat) (r : Ending) (w' : World) : Prop := ∃ A c A2 c2, r = .returned (.agg (epC (sealEp k (memE e A c A2 c2)))) ∧ OwnE base w' (sealEp k (memE e A c A2 c2)) ∧ EpOk (sealEp k (memE e A c A2 c2))
theorem ssealEp_any (k : Ky) (e : Ep) (w : World) (hs : k.secret.size ≤ 64) (hki : i64 k.serial) (hok : EpOk e) (hsh : EpShort e) (ha : EpAt w e) (hk : KonstP w) :
  Calls Tryz.prog 82 #[.agg (kyC k), .agg (epC e)] w fun r w' => SealOut k e w.heap.size r w' ∧ Ext w w' := by
 have HC1 := lh (fun (W : World) (hx : Ext w W) => clonePu_any e.PA e.pc e.pu W (by have := hsh.pu; omega) (ha.pu.on hx) hok.pz)
 have HC2 := lh (fun (W : World) (hx : Ext w W) => cloneDg_any e.RA e.rc e.rv W (by have := hsh.rv; omega) (ha.rv.on hx) hok.rz)
 have HSe := lh (fun (z : Ep) (W : World) (h1 : EpOk z) (h2 : EpShort z) (h3 : EpAt W z) (hx : Ext w W) => ssealedE_any k z W hs h1 h2 h3 (RowAt.ext hk hx))
 have HOk := lh hok
 have HSh := lh hsh
 have hfe := ep_fits e
 clear hs hok hsh ha hk
 go_enter Tryz.func82, Tryz.ntmps82
 go_upto_region 1 with (fail)
 refine wp_world (fun W => Ext w W ∧ RowAt W w.heap.size (kyC k) ∧ RowAt W (w.heap.size + 1) (epC e) ∧ RowAt W (w.heap.size + 1 + 1) (epC noEp)) ⟨(by (with_reducible repeat first|exact eR _|apply eD|apply eN|apply eA|apply eO|apply eS|apply eC);all_goals first|omega|simp <;> omega), ((RowAt.new _ _ _).alloc _).alloc _, RowAt.alloc (RowAt.newAt (by simp)) _, RowAt.newAt (by simp)⟩ ?_
 obtain ⟨B, hB⟩ : ∃ B, w.heap.size = B := ⟨_, rfl⟩
 rw [hB]
 rintro W1 ⟨x1, u0, u1, u2⟩
 have HX1 := lh x1
 have HU0 := lh u0
 have HU1 := lh u1
 have HU2 := lh u2
 have q19 : W1.cell? ⟨B + 1, 19, none⟩ = some (.slice e.PA e.pu.length e.pc) := (u1.cell 19).trans (ep_g19 e)
 have q20 : W1.cell? ⟨B + 1, 20, none⟩ = some (.slice e.RA e.rv.length e.rc) := (u1.cell 20).trans (ep_g20 e)
 have hlu := u2.lt
 clear x1 u0 u1 u2
 refine wp_region_soft 7 (softsL [.eq (.pointer (some ⟨B+1, 19, none⟩)), .eq (.slice e.PA e.pu.length e.pc), ownP W1.heap.size e.pu, .eq (.pointer (some ⟨B+1, 20, none⟩)), .eq (.slice e.RA e.rv.length e.rc), ownG W1.heap.size e.rv, .eq (.pointer (some ⟨B+1, 19, none⟩))]) (by kernel_rfl) (by kernel_rfl) (lt_cons ?_ (lt_cons ?_ (lt_cons ?_ (lt_cons ?_ (lt_cons ?_ (lt_cons ?_ (lt_cons ?_ (lt_none)))))))) ?_
 any_goals (refine sop rfl fun xs W HW hsW HD Q' HQ => ?_; simp only [fillAt, dstOf, lc0, lcs, obs, Act.put, lsa, lsz, lss, nz, Nat.reduceAdd] at HQ ⊢)
 ·
  go_wp2
  exact HQ.out _ _ (eR _) rfl
 ·
  have hd0 : xs 0 = .pointer (some ⟨B+1, 19, none⟩) := (HD.out 0 (dk (by kernel_rfl)))
  generalize xs 0 = x0 at hd0 HQ ⊢; subst hd0
  have hc : W.cell? ⟨B+1, 19, none⟩ = some (.slice e.PA e.pu.length e.pc) := (HW.out.cell (p := ⟨B+1, 19, none⟩) (by show B+1 < _; omega)).trans q19
  go_wp2
  exact HQ.out _ _ (eR _) rfl
 ·
  have hd1 : xs 1 = .slice e.PA e.pu.length e.pc := (HD.out 1 (dk (by kernel_rfl)))
  generalize xs 1 = x1 at hd1 HQ ⊢; subst hd1
  go_wp2_with (go_at_call 133; refine (HC1.out _ (HX1.out.trans HW.out)).mono ?_; rintro r w1 ⟨⟨A, c, rfl, ho⟩, hx⟩)
  exact HQ.out _ _ hx ⟨A, c, rfl, ho.lower hsW⟩
 ·
  go_wp2
  exact HQ.out _ _ (eR _) rfl
 ·
  have hd3 : xs 3 = .pointer (some ⟨B+1, 20, none⟩) := (HD.out 3 (dk (by kernel_rfl)))
  generalize xs 3 = x3 at hd3 HQ ⊢; subst hd3
  have hc : W.cell? ⟨B+1, 20, none⟩ = some (.slice e.RA e.rv.length e.rc) := (HW.out.cell (p := ⟨B+1, 20, none⟩) (by show B+1 < _; omega)).trans q20
  go_wp2
  exact HQ.out _ _ (eR _) rfl
 ·
  have hd4 : xs 4 = .slice e.RA e.rv.length e.rc := (HD.out 4 (dk (by kernel_rfl)))
  generalize xs 4 = x4 at hd4 HQ ⊢; subst hd4
  go_wp2_with (go_at_call 134; refine (HC2.out _ (HX1.out.trans HW.out)).mono ?_; rintro r w1 ⟨⟨A, c, rfl, ho⟩, hx⟩)
  exact HQ.out _ _ hx ⟨A, c, rfl, ho.lower hsW⟩
 ·
  go_wp2
  exact HQ.out _ _ (eR _) rfl
 intro xs W3 hW hS
 have h2 : (ownP W1.heap.size e.pu).S (xs 2) W3 := hS 2 (by omega)
 have h5 : (ownG W1.heap.size e.rv).S (xs 5) W3 := hS 5 (by omega)
 have h6 : xs 6 = .pointer (some ⟨B+1, 19, none⟩) := hS 6 (by omega)
 simp only [fillAt, dstOf, lc0, lcs, obs, Act.put, lsa, lsz, lss, nz, Nat.reduceAdd, List.drop_succ_cons, List.drop_zero, List.drop_nil]
 generalize xs 6 = x6 at *; subst h6
 have HW3 := lh (HX1.out.trans hW)
 have HWW3 := lh hW
 clear hS hW q19 q20
 obtain ⟨A2, c2, hx2, ho2⟩ := h2
 obtain ⟨A5, c5, hx5, ho5⟩ := h5
 generalize xs 2 = x2 at *
 generalize xs 5 = x5 at *
 subst hx2 hx5
 have HO2 := lh ho2
 have HO5 := lh ho5
 have hl3 := HWW3.out.size
 have hu1 := HU1.out.ext HWW3.out
 have r19 : W3.cell? ⟨B + 1, 19, none⟩ = some (.slice e.PA e.pu.length e.pc) := (hu1.cell 19).trans (ep_g19 e)
 have r20 : W3.cell? ⟨B + 1, 20, none⟩ = some (.slice e.RA e.rv.length e.rc) := (hu1.cell 20).trans (ep_g20 e)
 have f19 := hu1.free 19
 have f20 := hu1.free 20
 have HU03 := lh (HU0.out.ext HWW3.out)
 have HU13 := lh hu1
 have HU23 := lh (HU2.out.ext HWW3.out)
 clear ho2 ho5 hu1 HU0 HU1 HU2 HX1 HC1 HC2
 go_upto_region 2 with (fail)
 have he : ((epC e).setIfInBounds 19 (.slice A2 e.pu.length c2)).setIfInBounds 20 (.slice A5 e.rv.length c5) = epC (memE e A2 c2 A5 c5) := ep_mem_set e A2 c2 A5 c5
 have HZo := lh (memE_ok (A := A2) (c := c2) (A2 := A5) (c2 := c5) HOk.out HO2.out HO5.out)
 have HZs : Hid (EpShort (memE e A2 c2 A5 c5)) := lh ⟨HSh.out.pu, HSh.out.rv, HSh.out.what⟩
 refine wp_world (fun W => Ext w W ∧ RowAt W B (kyC k) ∧ RowAt W (B + 1) (epC (memE e A2 c2 A5 c5)) ∧ RowAt W (B + 1 + 1) (epC noEp) ∧ OwnE (B + 1 + 1 + 1) W (memE e A2 c2 A5 c5)) ⟨(by (with_reducible repeat first|exact HW3.out|exact eR _|apply eD|apply eN|apply eA|apply eO|apply eS|apply eC);all_goals first|omega|simp <;> omega), (HU03.out.other (by show B ≠ B + 1; omega) _).other (by show B ≠ B + 1; omega) _, ?_, (HU23.out.other (by show B + 1 + 1 ≠ B + 1; omega) _).other (by show B + 1 + 1 ≠ B + 1; omega) _, ?_⟩ ?_
 ·rw [← he]
  exact (HU13.out.set 19 _).set 20 _
 ·have h : OwnE (B + 1 + 1 + 1) W3 (memE e A2 c2 A5 c5) := ⟨HO2.out.lower (by omega), HO5.out.lower (by omega)⟩
  exact (h.other (by omega) _).other (by omega) _
 clear HO2 HO5 HU03 HU13 HU23 he r19 r20 f19 f20 HW3 HWW3
 obtain ⟨z, hz⟩ : ∃ z, memE e A2 c2 A5 c5 = z := ⟨_, rfl⟩
 have HZ := lh hz
 rw [hz] at HZo HZs
 rw [hz]
 clear hz
 have hfz := ep_fits z
 rintro W4 ⟨x4, u0, u1, u2, hza⟩
 have HX4 := lh x4
 have HU0 := lh u0
 have HU1 := lh u1
 have HU2 := lh u2
 have HZa := lh hza
 have q1 : W4.cell? ⟨B, 1, none⟩ = some (.int .i64 k.serial) := (u0.cell 1).trans (ky_g1 k)
 have q3 : W4.cell? ⟨B + 1, 21, none⟩ = some (.int .i64 z.serial) := (u1.cell 21).trans (ep_g21 z)
 have f1 := u1.free 21
 have hlu4 := u2.lt
 clear x4 u0 u1 u2 hza
 go_upto_region 3 with (fail)
 refine wp_world (fun W => Ext w W ∧ RowAt W B (kyC k) ∧ RowAt W (B + 1) (epC (serEp k z)) ∧ RowAt W (B + 1 + 1) (epC noEp) ∧ OwnE (B + 1 + 1 + 1) W z) ⟨HX4.out.setCell (by show _ ≤ B + 1; omega) _, HU0.out.other (by show B ≠ B + 1; omega) _, ?_, HU2.out.other (by show B + 1 + 1 ≠ B + 1; omega) _, HZa.out.other (by omega) _⟩ ?_
 ·have h := HU1.out.set 21 (.int .i64 k.serial)
  rw [ep_set21] at h
  exact h
 rintro W5 ⟨x5, u0, u1, u2, hza⟩
 have HX5 := lh x5
 have HU15 := lh u1
 have HU25 := lh u2
 have HZ5 := lh hza
 have k0 : rowOf W5 B 0 5 = some (kyC k) := u0.all rfl (by omega)
 have k1 : rowOf W5 (B + 1) 0 38 = some (epC (serEp k z)) := u1.all rfl (by omega)
 have m1 : roomOf W5 (B + 1) 22 16 = true := by rw [u1.room]; rfl
 have hl5 := u2.lt
 have HSe5 := lh (HSe.out (serEp k z) W5 (serEp_ok HZo.out hki) (serEp_short HZs.out) ⟨hza.at.pu, hza.at.rv⟩ x5)
 have hft := ep_fits (serEp k z)
 obtain ⟨D, hD⟩ : ∃ D, makeN k 42 (epParts (serEp k z)) = D := ⟨_, rfl⟩
 have hzz : sealEp k z = { serEp k z with sl := D } := by rw [← hD]; rfl
 have HZZ := lh hzz
 rw [hD] at HSe5
 have hfd : fitsRow 16 (dgC D) = true := by simp [fitsRow, dgC, Value.oneCell']
 clear x5 u0 u1 u2 hza HX4 HU0 HU1 HU2 HZa q1 q3 f1 hlu4 HSe hD hzz
 go_upto_region 4 with (go_at_call 135; refine HSe5.out.mono ?_; rintro e w' ⟨rfl, hxl⟩; obtain ⟨xl, rfl⟩ := hxl.asLater; clear hxl)
 refine wp_world (fun W => Ext w W ∧ RowAt W (B + 1) (epC (sealEp k z)) ∧ RowAt W (B + 1 + 1) (epC noEp) ∧ OwnE (B + 1 + 1 + 1) W z) ⟨(HX5.out.onto xl).setCells (by omega) _ _, ?_, (HU25.out.later xl).others (by omega) _ _, (HZ5.out.ext (ext_later W5 xl)).others (by omega) _ _⟩ ?_
 ·have h := (HU15.out.later xl).sets 22 (dgC D).toList
  rw [ep_seal_set] at h
  rw [HZZ.out]
  exact h
 rintro W6 ⟨x6, u1, u2, hza⟩
 have HX6 := lh x6
 have HU26 := lh u2
 have HZ6 := lh hza
 have k6 : rowOf W6 (B + 1) 0 38 = some (epC (sealEp k z)) := u1.all rfl (by omega)
 have hf6 := ep_fits (sealEp k z)
 have m2 : roomOf W6 (B + 1 + 1) 0 38 = true := by rw [u2.room]; rfl
 have hl6 := u2.lt
 have HEo := lh (sealEp_ok HZo.out hki)
 clear x6 u1 u2 hza HX5 HU15 HU25 HZ5 k0 k1 m1 HSe5
 go_wp2
 refine post_row ep_ty Tryz.results82 rfl rfl (RowAt.stored (n := 38) HU26.out rfl rfl (by omega)) ⟨⟨A2, c2, A5, c5, by rw [HZ.out], ?_, by rw [HZ.out]; exact HEo.out⟩, (by (with_reducible repeat first|exact HX6.out|exact eR _|apply eD|apply eN|apply eA|apply eO|apply eS|apply eC);all_goals first|omega|simp <;> omega)⟩
 rw [HZ.out]
 have h := (HZ6.out.others (by omega : B + 1 + 1 < B + 1 + 1 + 1) 0 (epC (sealEp k z)).toList).lower (by omega : w.heap.size ≤ B + 1 + 1 + 1)
 exact ⟨h.pu, h.rv⟩
theorem rsealEp_any (k : Ky) (e : Ep) (w : World) (hs : k.secret.size ≤ 64) (hki : i64 k.serial) (hok : EpOk e) (hsh : EpShort e) (ha : EpAt w e) (hk : RKonst w) :
  Calls Tryz.prog 83 #[.agg (kyC k), .agg (epC e)] w fun r w' => r = .returned (.agg (epC (sealEp k e))) ∧ Ext w w' := by
 have HI := lh (fun (W : World) (hx : Ext w W) => reparts_any (serEp k e) W (serEp_ok hok hki) (serEp_short hsh) ⟨(ha.on hx).pu, (ha.on hx).rv⟩)
 have hl := ep_lens (k := k) hs (serEp_ok hok hki) (serEp_short hsh)
 have HM := lh (fun (A : Option Addr) (c : Nat) (W : World) (h1 : ReadsStr W W.heap.size A (epParts (serEp k e))) (h2 : A = none → c = 0) (hx : Ext w W) => rmake_any k 42 A c (epParts (serEp k e)) W h1 h2 hl (RowAt.ext hk hx))
 have hfe := ep_fits e
 obtain ⟨z, hz⟩ : ∃ z, serEp k e = z := ⟨_, rfl⟩
 have hset := ep_set21 e k.serial
 rw [show ({ e with serial := k.serial } : Ep) = z from hz] at hset
 obtain ⟨D, hD⟩ : ∃ D, makeN k 42 (epParts z) = D := ⟨_, rfl⟩
 have hzz : sealEp k e = { z with sl := D } := by rw [← hD, ← hz]; rfl
 have hfit : fitsRow 16 (dgC D) = true := by simp [fitsRow, dgC, Value.oneCell']
 have hfz := ep_fits z
 rw [hz, hD] at HM
 rw [hz] at HI
 unfold EPOut at HI
 generalize epParts z = L at *
 rw [hzz]
 have HSet := lh hset
 clear hok hsh hl ha hk hD hz hzz hset
 go_enter Tryz.func83, Tryz.ntmps83
 go_upto_region 1 with (fail)
 refine wp_world (fun W => Ext w W ∧ RowAt W w.heap.size (kyC k) ∧ RowAt W (w.heap.size + 1) (epC e) ∧ RowAt W (w.heap.size + 1 + 1) (epC noEp)) ⟨(by (with_reducible repeat first|exact eR _|apply eD|apply eN|apply eA|apply eO|apply eS|apply eC);all_goals first|omega|simp <;> omega), ((RowAt.new _ _ _).alloc _).alloc _, RowAt.alloc (RowAt.newAt (by simp)) _, RowAt.newAt (by simp)⟩ ?_
 obtain ⟨B, hB⟩ : ∃ B, w.heap.size = B := ⟨_, rfl⟩
 rw [hB]
 rintro W1 ⟨x1, u0, u1, u2⟩
 have HX1 := lh x1
 have HU0 := lh u0
 have HU1 := lh u1
 have HU2 := lh u2
 have q1 : W1.cell? ⟨B, 1, none⟩ = some (.int .i64 k.serial) := (u0.cell 1).trans (ky_g1 k)
 have q3 : W1.cell? ⟨B + 1, 21, none⟩ = some (.int .i64 e.serial) := (u1.cell 21).trans (ep_g21 e)
 have f1 := u1.free 21
 have hlu := u2.lt
 clear x1 u0 u1 u2
 go_upto_region 2 with (fail)
 refine wp_world (fun W => Ext w W ∧ RowAt W B (kyC k) ∧ RowAt W (B + 1) (epC z) ∧ RowAt W (B + 1 + 1) (epC noEp)) ⟨?_, ?_, ?_, ?_⟩ ?_
 ·exact HX1.out.setCell (by show _ ≤ B + 1; omega) _
 ·exact HU0.out.other (by show B ≠ B + 1; omega) _
 ·rw [← HSet.out]; exact HU1.out.set 21 _
 ·exact HU2.out.other (by show B + 1 + 1 ≠ B + 1; omega) _
 clear HX1 HU0 HU1 HU2 q1 q3 f1 hlu HSet
 rintro W2 ⟨x2, u0, u1, u2⟩
 have HX2 := lh x2
 have HU1 := lh u1
 have HU2 := lh u2
 have k0 : rowOf W2 B 0 5 = some (kyC k) := u0.all rfl (by omega)
 have k1 : rowOf W2 (B + 1) 0 38 = some (epC z) := u1.all rfl (by omega)
 have hlu := u2.lt
 clear x2 u0 u1 u2
 refine wp_region_soft 5 (softsL [.eq (.agg (kyC k)), .eq (.agg (epC z)), readZ L, Soft.eq (.agg (dgC D)), .eq (.pointer (some ⟨B+1, 22, none⟩))]) (by kernel_rfl) (by kernel_rfl) (lt_cons ?_ (lt_cons ?_ (lt_cons ?_ (lt_cons ?_ (lt_cons ?_ (lt_none)))))) ?_
 any_goals (refine sop rfl fun xs W HW hsW HD Q' HQ => ?_; simp only [fillAt, dstOf, lc0, lcs, obs, Act.put, lsa, lsz, lss, nz, Nat.reduceAdd] at HQ ⊢)
 ·
  have hc := (row_extW HW.out (b := B) (by omega) 0 5).trans k0
  go_wp2
  exact HQ.out _ _ (eR _) rfl
 ·
  have hc := (row_extW HW.out (b := B+1) (by omega) 0 38).trans k1
  go_wp2
  exact HQ.out _ _ (eR _) rfl
 ·
  have hd1 : xs 1 = .agg (epC z) := (HD.out 1 (dk (by kernel_rfl)))
  generalize xs 1 = x1 at hd1 HQ ⊢; subst hd1
  go_wp2_with (go_at_call 62; refine (HI.out _ (HX2.out.trans HW.out)).mono ?_; rintro r w1 ⟨⟨A, c, l', rfl, hl', ho⟩, hx⟩)
  exact HQ.out _ _ hx (readZ_of ho hl'.out)
 ·
  have hd0 : xs 0 = .agg (kyC k) := (HD.out 0 (dk (by kernel_rfl)))
  generalize xs 0 = x0 at hd0 HQ ⊢; subst hd0
  have hs2 : (readZ L).S (xs 2) W := (HD.out 2 (dk (by kernel_rfl)))
  obtain ⟨A2, c2, h2, hr2, hz2⟩ := hs2
  generalize xs 2 = x2 at h2 HQ ⊢; subst h2
  go_wp2_with (go_at_call 136; refine (HM.out A2 c2 _ hr2 hz2 (HX2.out.trans HW.out)).mono ?_; rintro r w1 ⟨rfl, hx⟩)
  exact HQ.out _ _ hx rfl
 ·
  go_wp2
  exact HQ.out _ _ (eR _) rfl
 intro xs W3 hW hS
 have h3 : (Soft.eq (.agg (dgC D))).S (xs 3) W3 := hS 3 (by omega)
 have h4 : xs 4 = .pointer (some ⟨B+1, 22, none⟩) := hS 4 (by omega)
 simp only [fillAt, dstOf, lc0, lcs, obs, Act.put, lsa, lsz, lss, nz, Nat.reduceAdd, List.drop_succ_cons, List.drop_zero, List.drop_nil]
 generalize xs 4 = x4 at *; subst h4
 have HW3 := lh (HX2.out.trans hW)
 have HWW3 := lh hW
 clear hS hW k0 k1
 have hx3 : xs 3 = .agg (dgC D) := h3
 generalize xs 3 = x3 at *; subst hx3
 have HX3 := HW3
 have HU13 := lh (HU1.out.ext HWW3.out)
 have HU23 := lh (HU2.out.ext HWW3.out)
 have m1 : roomOf W3 (B + 1) 22 16 = true := by rw [HU13.out.room]; rfl
 have hl3 := HWW3.out.size
 clear HU1 HU2 HX2 h3
 go_upto_region 3 with (fail)
 refine wp_world (fun W => Ext w W ∧ RowAt W (B + 1) (epC { z with sl := D }) ∧ RowAt W (B + 1 + 1) (epC noEp)) ⟨?_, ?_, ?_⟩ ?_
 ·exact HX3.out.setCells (by omega) _ _
 ·have h := HU13.out.sets 22 (dgC D).toList
  rw [ep_seal_set] at h
  exact h
 ·exact HU23.out.others (by omega) _ _
 clear HX3 HU13 HU23 m1 hl3 hlu
 rintro W4 ⟨x4, u1, u2⟩
 have HX4 := lh x4
 have HU2 := lh u2
 have k1 : rowOf W4 (B + 1) 0 38 = some (epC { z with sl := D }) := u1.all rfl (by omega)
 have hft := ep_fits { z with sl := D }
 have m2 : roomOf W4 (B + 1 + 1) 0 38 = true := by rw [u2.room]; rfl
 have hlu := u2.lt
 clear x4 u1 u2
 go_wp2
 exact post_row ep_ty Tryz.results83 rfl rfl (RowAt.stored (n := 38) HU2.out rfl rfl (by omega)) ⟨rfl, (by (with_reducible repeat first|exact HX4.out|exact eR _|apply eD|apply eN|apply eA|apply eO|apply eS|apply eC);all_goals first|omega|simp <;> omega)⟩
theorem scheckEp_any (Ar : Option Addr) (cr : Nat) (l : List Ky) (e : Ep) (w : World) (hg : RingOk l) (hrk : ReadsKy w w.heap.size Ar l) (hok : EpOk e) (hsh : EpShort e) (ha : EpAt w e) (hk : KonstP w) :
  Calls Tryz.prog 78 #[.slice Ar l.length cr, .agg (epC e)] w fun r w' => r = .returned (.int .i64 (checkEp l e)) ∧ Ext w w' := by
 have HI := lh (fun (W : World) (hx : Ext w W) => eparts_any e W hok hsh (ha.on hx))
 have hl : lens (epParts e) ≤ 1000000000000 := by have := epParts_lens hok hsh; omega
 have HM := lh (fun (A : Option Addr) (c : Nat) (W : World) (h1 : ReadsStr W W.heap.size A (epParts e)) (h2 : A = none → c = 0) (hx : Ext w W) => scheck_ring Ar cr l 1 e.serial 42 A c (epParts e) e.sl e.lo e.hi W hg (hrk.on hx) (by unfold small40; omega) (hok.ints _ (by simp)) hok.sl h1 h2 hl (RowAt.ext hk hx))
 have hR : checkR l 1 e.serial 42 (epParts e) e.sl e.lo e.hi = checkEp l e := rfl
 rw [hR] at HM
 have hfe := ep_fits e
 have hfd : fitsRow 16 (dgC e.sl) = true := dg_fits _
 have hfp := pd_fits e.lo e.hi
 generalize checkEp l e = R at *
 unfold EPOut at HI
 generalize epParts e = L at *
 clear hok hsh hl ha hk hR hrk hg
 go_enter Tryz.func78, Tryz.ntmps78
 go_upto_region 1 with (fail)
 refine wp_world (fun W => Ext w W ∧ RowAt W w.heap.size (epC e)) ⟨(by (with_reducible repeat first|exact eR _|apply eD|apply eN|apply eA|apply eO|apply eS|apply eC);all_goals first|omega|simp <;> omega), RowAt.new _ _ _⟩ ?_
 obtain ⟨B, hB⟩ : ∃ B, w.heap.size = B := ⟨_, rfl⟩
 rw [hB]
 rintro W1 ⟨x1, u0⟩
 have HX1 := lh x1
 have hlu := u0.lt
 have q21 : W1.cell? ⟨B, 21, none⟩ = some (.int .i64 e.serial) := (u0.cell 21).trans (ep_g21 e)
 have k0 : rowOf W1 B 0 38 = some (epC e) := u0.all rfl (by omega)
 have k22 : rowOf W1 B 22 16 = some (dgC e.sl) := by rw [u0.row, if_neg (by omega), ep_sl]
 have kpd : rowOf W1 B 17 2 = some (pdC e.lo e.hi) := by rw [u0.row, if_neg (by omega), ep_pd]
 clear x1 u0
 refine wp_region_soft 10 (softsL [.eq (.slice Ar l.length cr), .eq (.pointer (some ⟨B, 21, none⟩)), .eq (.int .i64 e.serial), .eq (.agg (epC e)), readZ L, .eq (.pointer (some ⟨B, 22, none⟩)), .eq (.agg (dgC e.sl)), .eq (.pointer (some ⟨B, 17, none⟩)), .eq (.agg (pdC e.lo e.hi)), Soft.eq (.int .i64 R)]) (by kernel_rfl) (by kernel_rfl) (lt_cons ?_ (lt_cons ?_ (lt_cons ?_ (lt_cons ?_ (lt_cons ?_ (lt_cons ?_ (lt_cons ?_ (lt_cons ?_ (lt_cons ?_ (lt_cons ?_ (lt_none))))))))))) ?_
 any_goals (refine sop rfl fun xs W HW hsW HD Q' HQ => ?_; simp only [fillAt, dstOf, lc0, lcs, obs, Act.put, lsa, lsz, lss, nz, Nat.reduceAdd] at HQ ⊢)
 ·
  go_wp2
  exact HQ.out _ _ (eR _) rfl
 ·
  go_wp2
  exact HQ.out _ _ (eR _) rfl
 ·
  have hd1 : xs 1 = .pointer (some ⟨B, 21, none⟩) := (HD.out 1 (dk (by kernel_rfl)))
  generalize xs 1 = x1 at hd1 HQ ⊢; subst hd1
  have hc : W.cell? ⟨B, 21, none⟩ = some (.int .i64 e.serial) := (HW.out.cell (p := ⟨B, 21, none⟩) (by show B < _; omega)).trans q21
  go_wp2
  exact HQ.out _ _ (eR _) rfl
 ·
  have hc := (row_extW HW.out (b := B) (by omega) 0 38).trans k0
  go_wp2
  exact HQ.out _ _ (eR _) rfl
 ·
  have hd3 : xs 3 = .agg (epC e) := (HD.out 3 (dk (by kernel_rfl)))
  generalize xs 3 = x3 at hd3 HQ ⊢; subst hd3
  go_wp2_with (go_at_call 60; refine (HI.out _ (HX1.out.trans HW.out)).mono ?_; rintro r w1 ⟨⟨A, c, l', rfl, hl', ho⟩, hx⟩)
  exact HQ.out _ _ hx (readZ_of ho hl'.out)
 ·
  go_wp2
  exact HQ.out _ _ (eR _) rfl
 ·
  have hd5 : xs 5 = .pointer (some ⟨B, 22, none⟩) := (HD.out 5 (dk (by kernel_rfl)))
  generalize xs 5 = x5 at hd5 HQ ⊢; subst hd5
  have hc := (row_extW HW.out (b := B) (by omega) 22 16).trans k22
  go_wp2
  exact HQ.out _ _ (eR _) rfl
 ·
  go_wp2
  exact HQ.out _ _ (eR _) rfl
 ·
  have hd7 : xs 7 = .pointer (some ⟨B, 17, none⟩) := (HD.out 7 (dk (by kernel_rfl)))
  generalize xs 7 = x7 at hd7 HQ ⊢; subst hd7
  have hc := (row_extW HW.out (b := B) (by omega) 17 2).trans kpd
  go_wp2
  exact HQ.out _ _ (eR _) rfl
 ·
  have hd0 : xs 0 = .slice Ar l.length cr := (HD.out 0 (dk (by kernel_rfl)))
  generalize xs 0 = x0 at hd0 HQ ⊢; subst hd0
  have hd2 : xs 2 = .int .i64 e.serial := (HD.out 2 (dk (by kernel_rfl)))
  generalize xs 2 = x2 at hd2 HQ ⊢; subst hd2
  have hs4 : (readZ L).S (xs 4) W := (HD.out 4 (dk (by kernel_rfl)))
  have hd6 : xs 6 = .agg (dgC e.sl) := (HD.out 6 (dk (by kernel_rfl)))
  generalize xs 6 = x6 at hd6 HQ ⊢; subst hd6
  have hd8 : xs 8 = .agg (pdC e.lo e.hi) := (HD.out 8 (dk (by kernel_rfl)))
  generalize xs 8 = x8 at hd8 HQ ⊢; subst hd8
  obtain ⟨A4, c4, h4, hr4, hz4⟩ := hs4
  generalize xs 4 = x4 at h4 HQ ⊢; subst h4
  go_wp2_with (go_at_call 131; refine (HM.out A4 c4 _ hr4 hz4 (HX1.out.trans HW.out)).mono ?_; rintro r w1 ⟨rfl, hx⟩)
  exact HQ.out _ _ hx rfl
 intro xs W3 hW hS
 have h9 : (Soft.eq (.int .i64 R)).S (xs 9) W3 := hS 9 (by omega)
 simp only [fillAt, dstOf, lc0, lcs, obs, Act.put, lsa, lsz, lss, nz, Nat.reduceAdd, List.drop_succ_cons, List.drop_zero, List.drop_nil]
 have HW3 := lh (HX1.out.trans hW)
 have HWW3 := lh hW
 clear hS hW q21 k0 k22 kpd
 have hx9 : xs 9 = .int .i64 R := h9
 generalize xs 9 = x9 at *; subst hx9
 clear h9
 go_wp2
 go_ret
 exact ⟨rfl, (by (with_reducible repeat first|exact HW3.out|exact eR _|apply eD|apply eN|apply eA|apply eO|apply eS|apply eC);all_goals first|omega|simp <;> omega)⟩
theorem rcheckEp_any (Ar : Option Addr) (cr : Nat) (l : List Ky) (e : Ep) (w : World) (hg : RingOk l) (hrk : ReadsKy w w.heap.size Ar l) (hok : EpOk e) (hsh : EpShort e) (ha : EpAt w e) (hk : RKonst w) :
  Calls Tryz.prog 80 #[.slice Ar l.length cr, .agg (epC e)] w fun r w' => r = .returned (.int .i64 (checkEp l e)) ∧ Ext w w' := by
 have HI := lh (fun (W : World) (hx : Ext w W) => reparts_any e W hok hsh (ha.on hx))
 have hl : lens (epParts e) ≤ 1000000000000 := by have := epParts_lens hok hsh; omega
 have HM := lh (fun (A : Option Addr) (c : Nat) (W : World) (h1 : ReadsStr W W.heap.size A (epParts e)) (h2 : A = none → c = 0) (hx : Ext w W) => rcheck_ring Ar cr l 1 e.serial 42 A c (epParts e) e.sl e.lo e.hi W hg (hrk.on hx) hok.sl h1 h2 hl (RowAt.ext hk hx))
 have hR : checkR l 1 e.serial 42 (epParts e) e.sl e.lo e.hi = checkEp l e := rfl
 rw [hR] at HM
 have hfe := ep_fits e
 have hfd : fitsRow 16 (dgC e.sl) = true := dg_fits _
 have hfp := pd_fits e.lo e.hi
 generalize checkEp l e = R at *
 unfold EPOut at HI
 generalize epParts e = L at *
 clear hok hsh hl ha hk hR hrk hg
 go_enter Tryz.func80, Tryz.ntmps80
 go_upto_region 1 with (fail)
 refine wp_world (fun W => Ext w W ∧ RowAt W w.heap.size (epC e)) ⟨(by (with_reducible repeat first|exact eR _|apply eD|apply eN|apply eA|apply eO|apply eS|apply eC);all_goals first|omega|simp <;> omega), RowAt.new _ _ _⟩ ?_
 obtain ⟨B, hB⟩ : ∃ B, w.heap.size = B := ⟨_, rfl⟩
 rw [hB]
 rintro W1 ⟨x1, u0⟩
 have HX1 := lh x1
 have hlu := u0.lt
 have q21 : W1.cell? ⟨B, 21, none⟩ = some (.int .i64 e.serial) := (u0.cell 21).trans (ep_g21 e)
 have k0 : rowOf W1 B 0 38 = some (epC e) := u0.all rfl (by omega)
 have k22 : rowOf W1 B 22 16 = some (dgC e.sl) := by rw [u0.row, if_neg (by omega), ep_sl]
 have kpd : rowOf W1 B 17 2 = some (pdC e.lo e.hi) := by rw [u0.row, if_neg (by omega), ep_pd]
 clear x1 u0
 refine wp_region_soft 10 (softsL [.eq (.slice Ar l.length cr), .eq (.pointer (some ⟨B, 21, none⟩)), .eq (.int .i64 e.serial), .eq (.agg (epC e)), readZ L, .eq (.pointer (some ⟨B, 22, none⟩)), .eq (.agg (dgC e.sl)), .eq (.pointer (some ⟨B, 17, none⟩)), .eq (.agg (pdC e.lo e.hi)), Soft.eq (.int .i64 R)]) (by kernel_rfl) (by kernel_rfl) (lt_cons ?_ (lt_cons ?_ (lt_cons ?_ (lt_cons ?_ (lt_cons ?_ (lt_cons ?_ (lt_cons ?_ (lt_cons ?_ (lt_cons ?_ (lt_cons ?_ (lt_none))))))))))) ?_
 any_goals (refine sop rfl fun xs W HW hsW HD Q' HQ => ?_; simp only [fillAt, dstOf, lc0, lcs, obs, Act.put, lsa, lsz, lss, nz, Nat.reduceAdd] at HQ ⊢)
 ·
  go_wp2
  exact HQ.out _ _ (eR _) rfl
 ·
  go_wp2
  exact HQ.out _ _ (eR _) rfl
 ·
  have hd1 : xs 1 = .pointer (some ⟨B, 21, none⟩) := (HD.out 1 (dk (by kernel_rfl)))
  generalize xs 1 = x1 at hd1 HQ ⊢; subst hd1
  have hc : W.cell? ⟨B, 21, none⟩ = some (.int .i64 e.serial) := (HW.out.cell (p := ⟨B, 21, none⟩) (by show B < _; omega)).trans q21
  go_wp2
  exact HQ.out _ _ (eR _) rfl
 ·
  have hc := (row_extW HW.out (b := B) (by omega) 0 38).trans k0
  go_wp2
  exact HQ.out _ _ (eR _) rfl
 ·
  have hd3 : xs 3 = .agg (epC e) := (HD.out 3 (dk (by kernel_rfl)))
  generalize xs 3 = x3 at hd3 HQ ⊢; subst hd3
  go_wp2_with (go_at_call 62; refine (HI.out _ (HX1.out.trans HW.out)).mono ?_; rintro r w1 ⟨⟨A, c, l', rfl, hl', ho⟩, hx⟩)
  exact HQ.out _ _ hx (readZ_of ho hl'.out)
 ·
  go_wp2
  exact HQ.out _ _ (eR _) rfl
 ·
  have hd5 : xs 5 = .pointer (some ⟨B, 22, none⟩) := (HD.out 5 (dk (by kernel_rfl)))
  generalize xs 5 = x5 at hd5 HQ ⊢; subst hd5
  have hc := (row_extW HW.out (b := B) (by omega) 22 16).trans k22
  go_wp2
  exact HQ.out _ _ (eR _) rfl
 ·
  go_wp2
  exact HQ.out _ _ (eR _) rfl
 ·
  have hd7 : xs 7 = .pointer (some ⟨B, 17, none⟩) := (HD.out 7 (dk (by kernel_rfl)))
  generalize xs 7 = x7 at hd7 HQ ⊢; subst hd7
  have hc := (row_extW HW.out (b := B) (by omega) 17 2).trans kpd
  go_wp2
  exact HQ.out _ _ (eR _) rfl
 ·
  have hd0 : xs 0 = .slice Ar l.length cr := (HD.out 0 (dk (by kernel_rfl)))
  generalize xs 0 = x0 at hd0 HQ ⊢; subst hd0
  have hd2 : xs 2 = .int .i64 e.serial := (HD.out 2 (dk (by kernel_rfl)))
  generalize xs 2 = x2 at hd2 HQ ⊢; subst hd2
  have hs4 : (readZ L).S (xs 4) W := (HD.out 4 (dk (by kernel_rfl)))
  have hd6 : xs 6 = .agg (dgC e.sl) := (HD.out 6 (dk (by kernel_rfl)))
  generalize xs 6 = x6 at hd6 HQ ⊢; subst hd6
  have hd8 : xs 8 = .agg (pdC e.lo e.hi) := (HD.out 8 (dk (by kernel_rfl)))
  generalize xs 8 = x8 at hd8 HQ ⊢; subst hd8
  obtain ⟨A4, c4, h4, hr4, hz4⟩ := hs4
  generalize xs 4 = x4 at h4 HQ ⊢; subst h4
  go_wp2_with (go_at_call 132; refine (HM.out A4 c4 _ hr4 hz4 (HX1.out.trans HW.out)).mono ?_; rintro r w1 ⟨rfl, hx⟩)
  exact HQ.out _ _ hx rfl
 intro xs W3 hW hS
 have h9 : (Soft.eq (.int .i64 R)).S (xs 9) W3 := hS 9 (by omega)
 simp only [fillAt, dstOf, lc0, lcs, obs, Act.put, lsa, lsz, lss, nz, Nat.reduceAdd, List.drop_succ_cons, List.drop_zero, List.drop_nil]
 have HW3 := lh (HX1.out.trans hW)
 have HWW3 := lh hW
 clear hS hW q21 k0 k22 kpd
 have hx9 : xs 9 = .int .i64 R := h9
 generalize xs 9 = x9 at *; subst hx9
 clear h9
 go_wp2
 go_ret
 exact ⟨rfl, (by (with_reducible repeat first|exact HW3.out|exact eR _|apply eD|apply eN|apply eA|apply eO|apply eS|apply eC);all_goals first|omega|simp <;> omega)⟩
abbrev OwnsEp (base : Nat) (w : World) (A : Option Addr) (c : Nat) (l : List Ep) : Prop := Owns 30 38 epL base w A c l
noncomputable def appL (ring : List Ky) (l : List Ep) (x : Ep) : List Ep := if appendE ring l x = 0 then l ++ [x] else []
def AppOut (ring : List Ky) (l : List Ep) (x : Ep) (base : Nat) (r : Ending) (w' : World) : Prop := ∃ A c l', r = .returned (.tuple #[.slice A l'.length c, .int .i64 (appendE ring l x)]) ∧ l' = appL ring l x ∧ OwnsEp base w' A c l'
def ownL (base : Nat) (ls : List Ep) : Soft := ⟨fun v w => ∃ A c, v = .slice A ls.length c ∧ OwnsEp base w A c ls, fun v w w' ⟨A, c, h1, h2⟩ hx => ⟨A, c, h1, h2.ext hx⟩⟩
def readE (ls : List Ep) : Soft := ⟨fun v w => ∃ A c, v = .slice A ls.length c ∧ Reads 38 epL w w.heap.size A ls ∧ (A = none → c = 0), fun v w w' ⟨A, c, h1, h2, h3⟩ hx => ⟨A, c, h1, h2.on hx, h3⟩⟩
theorem append_any (Ar : Option Addr) (cr : Nat) (ring : List Ky) (A : Option Addr) (c : Nat) (l : List Ep) (x : Ep) (w : World) (hg : RingOk ring) (hrk : ReadsKy w w.heap.size Ar ring) (hl : l.length ≤ 100) (hc : ChAt w A l) (hz : A = none → c = 0) (hok : EpOk x) (hsh : EpShort x) (ha : EpAt w x) (hk : KonstP w) :
  Calls Tryz.prog 34 #[.slice Ar ring.length cr, .slice A l.length c, .agg (epC x)] w fun r w' => AppOut ring l x w.heap.size r w' ∧ Ext w w' := by
 have HF := lh (fun (W : World) (hx : Ext w W) => follows_any A c l x W hl (hc.on hx) hok hsh (ha.on hx) (RowAt.ext hk hx))
 have HC := lh (fun (W : World) (hx : Ext w W) => scheckEp_any Ar cr ring x W hg (hrk.on hx) hok hsh (ha.on hx) (RowAt.ext hk hx))
 have HCl := lh (fun (W : World) (hx : Ext w W) => cloneEp_any A c l W (by omega) (hc.rd.on hx) hz)
 have HA : Hid (appendE ring l x = if followsN l x = 0 then checkEp ring x else followsN l x) := lh rfl
 have HL : Hid (appL ring l x = if appendE ring l x = 0 then l ++ [x] else []) := lh rfl
 have hfe := ep_fits x
 unfold AppOut
 generalize appL ring l x = LL at *
 generalize appendE ring l x = R at *
 generalize followsN l x = F at *
 generalize checkEp ring x = C at *
 clear hg hrk hc hz hok hsh ha hk
 go_enter Tryz.func34, Tryz.ntmps34
 go_upto_region 1 with (fail)
 refine wp_world (fun W => Ext w W ∧ RowAt W w.heap.size (epC x)) ⟨(by (with_reducible repeat first|exact eR _|apply eD|apply eN|apply eA|apply eO|apply eS|apply eC);all_goals first|omega|simp <;> omega), RowAt.new _ _ _⟩ ?_
 obtain ⟨B, hB⟩ : ∃ B, w.heap.size = B := ⟨_, rfl⟩
 rw [hB]
 rintro W1 ⟨x1, u0⟩
 have HX1 := lh x1
 have hlu := u0.lt
 have k0 : rowOf W1 B 0 38 = some (epC x) := u0.all rfl (by omega)
 clear x1 u0
 by_cases f0 : F = 0
 ·subst f0
  have HA2 : Hid (R = C) := lh (by rw [HA.out, if_pos rfl])
  clear HA
  by_cases c0 : C = 0
  ·subst c0
   have HR0 : Hid (R = 0) := lh HA2.out
   have HL2 : Hid (LL = l ++ [x]) := lh (by rw [HL.out, HR0.out, if_pos rfl])
   clear HA2 HL
   go_upto_region 6 with (first
    | (go_at_call 38; refine (HF.out _ HX1.out).mono ?_; rintro e w' ⟨rfl, hxl⟩; obtain ⟨xl, rfl⟩ := hxl.asLater; clear hxl)
    | (go_at_call 78; refine (HC.out _ (HX1.out.onto _)).mono ?_; rintro r w' ⟨rfl, hxl⟩; obtain ⟨xk, rfl⟩ := hxl.asLater; clear hxl))
   refine wp_world (fun W => Ext w W ∧ rowOf W B 0 38 = some (epC x) ∧ B < W.heap.size) ⟨(by (with_reducible repeat first|exact HX1.out|exact eR _|apply eD|apply eN|apply eA|apply eO|apply eS|apply eC);all_goals first|omega|simp <;> omega), by first | exact k0 | (simp only [later_later, rowOf_later, if_pos hlu]; exact k0), by simp [later_size]; omega⟩ ?_
   rintro W2 ⟨x2, k2, hl2⟩
   have HX2 := lh x2
   clear x2 k0 HX1 HF HC
   refine wp_region_soft 4 (softsL [.eq (.slice A l.length c), ownL W2.heap.size l, .eq (.agg (epC x)), readE [x]]) (by kernel_rfl) (by kernel_rfl) (lt_cons ?_ (lt_cons ?_ (lt_cons ?_ (lt_cons ?_ (lt_none))))) ?_
   any_goals (refine sop rfl fun xs W HW hsW HD Q' HQ => ?_; simp only [fillAt, dstOf, lc0, lcs, obs, Act.put, lsa, lsz, lss, nz, Nat.reduceAdd] at HQ ⊢)
   ·
    go_wp2
    exact HQ.out _ _ (eR _) rfl
   ·
    have hd0 : xs 0 = .slice A l.length c := (HD.out 0 (dk (by kernel_rfl)))
    generalize xs 0 = x0 at hd0 HQ ⊢; subst hd0
    go_wp2_with (go_at_call 79; refine (HCl.out _ (HX2.out.trans HW.out)).mono ?_; rintro r w1 ⟨⟨A', c', rfl, ho⟩, hx⟩)
    exact HQ.out _ _ hx ⟨A', c', rfl, ho.lower hsW⟩
   ·
    have hc := (row_extW HW.out (b := B) (by omega) 0 38).trans k2
    go_wp2
    exact HQ.out _ _ (eR _) rfl
   ·
    have hd2 : xs 2 = .agg (epC x) := (HD.out 2 (dk (by kernel_rfl)))
    generalize xs 2 = x2 at hd2 HQ ⊢; subst hd2
    go_wp2
    exact HQ.out _ _ ((eR _).alloc _) ⟨_, _, rfl, reads_freshB epE [x] W _ _ (by kernel_rfl) _ rfl, fun h => (by cases h)⟩
   intro xs W3 hW hS
   have h1 : (ownL W2.heap.size l).S (xs 1) W3 := hS 1 (by omega)
   have h3 : (readE [x]).S (xs 3) W3 := hS 3 (by omega)
   simp only [fillAt, dstOf, lc0, lcs, obs, Act.put, lsa, lsz, lss, nz, Nat.reduceAdd, List.drop_succ_cons, List.drop_zero, List.drop_nil]
   have HW3 := lh (HX2.out.trans hW)
   have HWW3 := lh hW
   clear hS hW k2
   obtain ⟨A1, c1, hx1, ho1⟩ := h1
   obtain ⟨A3, c3, hx3, hr3, hz3⟩ := h3
   generalize xs 1 = x1 at *
   generalize xs 3 = x3 at *
   subst hx1 hx3
   have HO1 := lh ho1
   have HR3 := lh hr3
   have hs3 := HWW3.out.size
   clear ho1 hr3
   go_wp2_with (at_builtin; refine (show Hid _ from ?_).out)
   refine lh ?_
   refine app_reads epT epE rfl _ _ rfl W2.heap.size _ _ l rfl HO1.out W3.heap.size _ _ [x] rfl HR3.out hz3 (by simp; omega) (by simp; omega) hs3 ?_
   intro A2 c2 l2 w2 HL2' hO9 hB9 hl1' hl2' _
   have HO2 := lh hO9
   have HXe : Hid (Ext w w2) := lh (Ext.grown HW3.out hB9 HX2.out.size)
   have HLe : Hid (l2 = LL) := lh (by rw [HL2'.out, HL2.out])
   clear hO9 hB9 hl1' hl2' HL2'
   go_wp2
   refine bodyPost_ret (v := .tuple #[.slice A2 l2.length c2, .int .i64 0]) ?_ rfl ⟨⟨A2, c2, l2, by rw [HR0.out], HLe.out, HO2.out.lower (by have := HX2.out.size; omega)⟩, HXe.out⟩
   simp [results, Tryz.results34, go_sem, ↓IntWalk.iteOmega]
  ·have HL2 : Hid (LL = []) := lh (by rw [HL.out, HA2.out, if_neg c0])
   have dc : (C != 0) = true := by simpa using c0
   clear HL
   go_wp2_with (first
    | (go_at_call 38; refine (HF.out _ HX1.out).mono ?_; rintro e w' ⟨rfl, hxl⟩; obtain ⟨xl, rfl⟩ := hxl.asLater; clear hxl)
    | (go_at_call 78; refine (HC.out _ (HX1.out.onto _)).mono ?_; rintro r w' ⟨rfl, hxl⟩; obtain ⟨xk, rfl⟩ := hxl.asLater; clear hxl))
   refine bodyPost_ret (v := .tuple #[.slice none 0 0, .int .i64 C]) ?_ rfl ⟨⟨none, 0, [], by rw [HA2.out]; rfl, HL2.out.symm, Owns.nil _ _ _ _ _⟩, (by (with_reducible repeat first|exact HX1.out|exact eR _|apply eD|apply eN|apply eA|apply eO|apply eS|apply eC);all_goals first|omega|simp <;> omega)⟩
   simp [results, Tryz.results34, go_sem, ↓IntWalk.iteOmega]
 ·have HA2 : Hid (R = F) := lh (by rw [HA.out, if_neg f0])
  have HL2 : Hid (LL = []) := lh (by rw [HL.out, HA2.out, if_neg f0])
  have dc : (F != 0) = true := by simpa using f0
  have de : (F == 0) = false := by simpa using f0
  clear HL HA
  go_wp2_with (go_at_call 38; refine (HF.out _ HX1.out).mono ?_; rintro e w' ⟨rfl, hxl⟩; obtain ⟨xl, rfl⟩ := hxl.asLater; clear hxl)
  refine bodyPost_ret (v := .tuple #[.slice none 0 0, .int .i64 F]) ?_ rfl ⟨⟨none, 0, [], by rw [HA2.out]; rfl, HL2.out.symm, Owns.nil _ _ _ _ _⟩, (by (with_reducible repeat first|exact HX1.out|exact eR _|apply eD|apply eN|apply eA|apply eO|apply eS|apply eC);all_goals first|omega|simp <;> omega)⟩
  simp [results, Tryz.results34, go_sem, ↓IntWalk.iteOmega]
theorem Reads.take {α : Type} {size : Nat} {enc : α → List Value} {w : World} {B : Nat} {A : Option Addr} {l : List α} (h : Reads size enc w B A l) (n : Nat) : Reads size enc w B A (l.take n) := by
 intro hn
 rw [List.length_take] at hn
 obtain ⟨b, off, h1, h2, h3⟩ := h (by omega)
 refine ⟨b, off, h1, h2, fun i hi j v hv => ?_⟩
 rw [List.length_take] at hi
 rw [List.getElem_take] at hv
 exact h3 i (by omega) j v hv
theorem Reads.drop {α : Type} {size : Nat} {enc : α → List Value} {w : World} {B b off : Nat} {l : List α} (h : Reads size enc w B (some ⟨b, off, none⟩) l) (n : Nat) : Reads size enc w B (some ⟨b, off + n * size, none⟩) (l.drop n) := by
 intro hn
 rw [List.length_drop] at hn
 obtain ⟨b', off', h1, h2, h3⟩ := h (by omega)
 injection h1 with h1
 injection h1 with h4 h5
 subst h4 h5
 refine ⟨_, _, rfl, h2, fun i hi j v hv => ?_⟩
 rw [List.length_drop] at hi
 rw [List.getElem_drop] at hv
 have := h3 (n + i) (by omega) j v hv
 rwa [show off + n * size + i * size + j = off + (n + i) * size + j by rw [Nat.add_mul]; omega]
theorem ChAt.take {w : World} {A : Option Addr} {l : List Ep} (h : ChAt w A l) (n : Nat) : ChAt w A (l.take n) := ⟨h.rd.take n, fun e he => h.ok e (List.mem_of_mem_take he)⟩
def tupS (E : Int) : Soft := ⟨fun v _ => ∃ A n c, v = .tuple #[.slice A n c, .int .i64 E], fun _ _ _ h _ => h⟩
def slS : Soft := ⟨fun v _ => ∃ A n c, v = .slice A n c, fun _ _ _ h _ => h⟩
theorem echeck_any (Ar : Option Addr) (cr : Nat) (ring : List Ky) (A : Option Addr) (c : Nat) (l : List Ep) (w : World) (hg : RingOk ring) (hrk : ReadsKy w w.heap.size Ar ring) (hl : l.length ≤ 100) (hcap : l.length ≤ c) (hc : ChAt w A l) (hk : KonstP w) :
  Calls Tryz.prog 32 #[.slice Ar ring.length cr, .slice A l.length c] w fun r w' => r = .returned (.tuple #[.int .i64 (checkAll ring l).1, .int .i64 (checkAll ring l).2]) ∧ Ext w w' := by
 have HC := lh hc
 have HAp := lh (fun (b off : Nat) (k : Nat) (hA : A = some ⟨b, off, none⟩) (h : k < l.length) (W : World) (hx : Ext w W) => append_any Ar cr ring (some ⟨b, off, none⟩) c (l.take k) l[k] W hg (hrk.on hx) (by rw [List.length_take]; omega) (hA ▸ (hc.take k).on hx) (fun h => by cases h) (hc.ok _ (List.getElem_mem h)).1 (hc.ok _ (List.getElem_mem h)).2.1 ((hc.ok _ (List.getElem_mem h)).2.2.on hx) (RowAt.ext hk hx))
 have HN : Hid ((∀ i, i < l.length → appendE ring (l.take i) (l.getD i noEp) = 0) → checkAll ring l = (-1, 0)) := lh (fun h => fstBad_none h)
 have HB : Hid (∀ k, k < l.length → (∀ i, i < k → appendE ring (l.take i) (l.getD i noEp) = 0) → appendE ring (l.take k) (l.getD k noEp) ≠ 0 → checkAll ring l = ((k : Int), appendE ring (l.take k) (l.getD k noEp))) := lh (fun k hk h0 h1 => fstBad_hit hk h0 h1)
 generalize checkAll ring l = R at *
 obtain ⟨R1, R2⟩ := R
 clear hrk hc hk
 go_enter Tryz.func32, Tryz.ntmps32
 go_wp2
 go_loopw [6, 7, 8, 9, 12] (fun _ _ _ _ i wr => ∃ k : Nat, k ≤ l.length ∧ i = .int .i64 k ∧ Hid (∀ i, i < k → appendE ring (l.take i) (l.getD i noEp) = 0) ∧ Hid (Ext w wr)) (fun _ _ _ _ i _ => l.length - (intOf i).toNat)
 case atStart => exact ⟨0, Nat.zero_le _, rfl, lh (fun i hi => by omega), lh (eR _)⟩
 case round =>
  obtain ⟨k, hk, rfl, HZ, HX⟩ := hrel
  generalize hwA : wr = wA at *
  clear hwA
  by_cases hlt : k < l.length
  ·obtain ⟨b, off, rfl, hb, kr⟩ := epr_at (HC.out.rd.on HX.out) k hlt
   have HAk := lh (HAp.out b off k rfl hlt)
   have HBk := lh (HB.out k hlt HZ.out)
   have HZk := lh (fun (h : appendE ring (l.take k) (l.getD k noEp) = 0) (i : Nat) (hi : i < k + 1) => (show appendE ring (l.take i) (l.getD i noEp) = 0 from by
    by_cases e : i = k
    ·rw [e]; exact h
    ·exact HZ.out i (by omega)))
   rw [ep_getD hlt] at HBk HZk
   unfold AppOut at HAk
   have htl : (l.take k).length = k := by rw [List.length_take]; omega
   rw [htl] at HAk
   generalize appendE ring (l.take k) l[k] = E at *
   generalize appL ring (l.take k) l[k] = LL at *
   generalize l[k] = e at *
   have hfe := ep_fits e
   clear htl HAp HB HN HC
   go_upto_region 4 with (fail)
   refine wp_world (fun W => Ext wA W ∧ RowAt W wA.heap.size (epC e)) ⟨(by (with_reducible repeat first|exact eR _|apply eD|apply eN|apply eA|apply eO|apply eS|apply eC);all_goals first|omega|simp <;> omega), RowAt.store (RowAt.new _ _ _) rfl⟩ ?_
   obtain ⟨g, hgg⟩ : ∃ g, wA.heap.size = g := ⟨_, rfl⟩
   rw [hgg]
   rintro W4 ⟨x4, u4⟩
   have HX4 := lh (HX.out.trans x4)
   have hlg := u4.lt
   have k4 : rowOf W4 g 0 38 = some (epC e) := u4.all rfl (by omega)
   clear x4 u4 kr
   have hbl : b < W4.heap.size := by omega
   have hkc : k ≤ c := by omega
   refine wp_region_softE 11 (softsL [.eq (.slice Ar ring.length cr), .eq (.slice (some ⟨b, off, none⟩) l.length c), .eq (.int .i64 k), .eq (.slice (some ⟨b, off, none⟩) k c), .eq (.agg (epC e)), tupS E, tupS E, slS, .eq (.int .i64 E), slS, .eq (.int .i64 E)]) (by kernel_rfl) (by kernel_rfl) (lt_cons ?_ (lt_cons ?_ (lt_cons ?_ (lt_cons ?_ (lt_cons ?_ (lt_cons ?_ (lt_cons ?_ (lt_cons ?_ (lt_cons ?_ (lt_cons ?_ (lt_cons ?_ (lt_none)))))))))))) ?_
   any_goals (refine sop rfl fun xs W HW hsW HD Q' HQ => ?_; simp only [fillAt, dstOf, lc0, lcs, obs, Act.put, lsa, lsz, lss, nz, Nat.reduceAdd] at HQ ⊢)
   ·
    go_wp2
    exact HQ.out _ _ (eR _) rfl
   ·
    go_wp2
    exact HQ.out _ _ (eR _) rfl
   ·
    go_wp2
    exact HQ.out _ _ (eR _) rfl
   ·
    have hd1 : xs 1 = .slice (some ⟨b, off, none⟩) l.length c := (HD.out 1 (dk (by kernel_rfl)))
    generalize xs 1 = x1 at hd1 HQ ⊢; subst hd1
    have hd2 : xs 2 = .int .i64 k := (HD.out 2 (dk (by kernel_rfl)))
    generalize xs 2 = x2 at hd2 HQ ⊢; subst hd2
    go_wp2
    exact HQ.out _ _ (eR _) rfl
   ·
    have hc := (row_extW HW.out (b := g) (by omega) 0 38).trans k4
    go_wp2
    exact HQ.out _ _ (eR _) rfl
   ·
    have hd0 : xs 0 = .slice Ar ring.length cr := (HD.out 0 (dk (by kernel_rfl)))
    generalize xs 0 = x0 at hd0 HQ ⊢; subst hd0
    have hd3 : xs 3 = .slice (some ⟨b, off, none⟩) k c := (HD.out 3 (dk (by kernel_rfl)))
    generalize xs 3 = x3 at hd3 HQ ⊢; subst hd3
    have hd4 : xs 4 = .agg (epC e) := (HD.out 4 (dk (by kernel_rfl)))
    generalize xs 4 = x4 at hd4 HQ ⊢; subst hd4
    go_wp2_with (go_at_call 34; refine (HAk.out _ (HX4.out.trans HW.out)).mono ?_; rintro r w1 ⟨⟨A', c', l', rfl, _, _⟩, hx⟩)
    exact HQ.out _ _ hx ⟨A', _, c', rfl⟩
   ·
    have hs5 : (tupS E).S (xs 5) W := (HD.out 5 (dk (by kernel_rfl)))
    obtain ⟨A5, n5, c5, h5⟩ := hs5
    generalize xs 5 = x5 at h5 HQ ⊢; subst h5
    go_wp2
    exact HQ.out _ _ (eR _) ⟨A5, n5, c5, rfl⟩
   ·
    have hs6 : (tupS E).S (xs 6) W := (HD.out 6 (dk (by kernel_rfl)))
    obtain ⟨A6, n6, c6, h6⟩ := hs6
    generalize xs 6 = x6 at h6 HQ ⊢; subst h6
    go_wp2
    exact HQ.out _ _ (eR _) ⟨A6, n6, c6, rfl⟩
   ·
    have hs6 : (tupS E).S (xs 6) W := (HD.out 6 (dk (by kernel_rfl)))
    obtain ⟨A6, n6, c6, h6⟩ := hs6
    generalize xs 6 = x6 at h6 HQ ⊢; subst h6
    go_wp2
    exact HQ.out _ _ (eR _) rfl
   ·
    have hs7 : (slS).S (xs 7) W := (HD.out 7 (dk (by kernel_rfl)))
    obtain ⟨A7, n7, c7, h7⟩ := hs7
    generalize xs 7 = x7 at h7 HQ ⊢; subst h7
    go_wp2
    exact HQ.out _ _ (eR _) ⟨A7, n7, c7, rfl⟩
   ·
    have hd8 : xs 8 = .int .i64 E := (HD.out 8 (dk (by kernel_rfl)))
    generalize xs 8 = x8 at hd8 HQ ⊢; subst hd8
    go_wp2
    exact HQ.out _ _ (eR _) rfl
   intro xs W5 hW hS
   have h9 : (slS).S (xs 9) W5 := hS 9 (by omega)
   have h10 : xs 10 = .int .i64 E := hS 10 (by omega)
   simp only [fillAt, dstOf, lc0, lcs, obs, Act.put, lsa, lsz, lss, nz, Nat.reduceAdd, List.drop_succ_cons, List.drop_zero, List.drop_nil]
   generalize xs 10 = x10 at *; subst h10
   have HW5 := lh (HX4.out.trans hW)
   have HWW5 := lh hW
   clear hS hW k4
   obtain ⟨A9, n9, c9, h9'⟩ := h9
   generalize xs 9 = x9 at *
   subst h9'
   by_cases e0 : E = 0
   ·have HZ2 := lh (HZk.out e0)
    have de : (E != 0) = false := by simpa using e0
    clear e0 HBk HZk HAk
    go_wp2
    go_roundw
    case rel => exact ⟨k + 1, by omega, by go_num, HZ2, lh (by (with_reducible repeat first|exact HW5.out|exact eR _|apply eD|apply eN|apply eA|apply eO|apply eS|apply eC);all_goals first|omega|simp <;> omega)⟩
    case measure => simp [intOf]; omega
   ·have hR := HBk.out e0
    have h1 : R1 = k := by injection hR
    have h2 : R2 = E := by injection hR
    have de : (E != 0) = true := by simpa using e0
    clear HBk HZk HAk hR
    subst h1 h2
    go_wp2
    refine bodyPost_ret (v := .tuple #[.int .i64 k, .int .i64 R2]) ?_ rfl ⟨rfl, (by (with_reducible repeat first|exact HW5.out|exact eR _|apply eD|apply eN|apply eA|apply eO|apply eS|apply eC);all_goals first|omega|simp <;> omega)⟩
    simp [results, Tryz.results32, go_sem, ↓IntWalk.iteOmega]
  ·have HR := lh (HN.out (fun i hi => HZ.out i (by omega)))
   have h1 : R1 = -1 := by have := HR.out; injection this
   have h2 : R2 = 0 := by have := HR.out; injection this
   subst h1 h2
   go_wp2
   refine bodyPost_ret (v := .tuple #[.int .i64 (-1), .int .i64 0]) ?_ rfl ⟨rfl, HX.out⟩
   simp [results, Tryz.results32, go_sem, ↓IntWalk.iteOmega]
theorem cell_in {w : World} {p : Addr} {v : Value} (h : w.cell? p = some v) : p.block < w.heap.size := by
 rcases Nat.lt_or_ge p.block w.heap.size with k | k
 ·exact k
 ·exfalso
  simp only [World.cell?, Array.getElem?_eq_none k] at h
  cases h
theorem since_step {l : List Ep} {n : Int} {k : Nat} (hk : k < l.length) (h : sinceN l n = sinceN (l.drop k) n) :
  (l[k].num ≤ n → sinceN l n = sinceN (l.drop (k + 1)) n) ∧ (¬ l[k].num ≤ n → sinceN l n = l.drop k) := by
 have e : l.drop k = l[k] :: l.drop (k + 1) := List.drop_eq_getElem_cons hk
 constructor
 ·intro h2
  rw [h, e]
  unfold sinceN
  rw [List.dropWhile_cons, if_pos (by simpa using h2)]
 ·intro h2
  rw [h]
  rw [e]
  unfold sinceN
  rw [List.dropWhile_cons, if_neg (by simpa using h2)]
theorem since1_any (e : Ep) (g : Nat) (n : Int) (w : World) (h : w.cell? ⟨g, 0, none⟩ = some (.int .i64 n)) :
  Calls Tryz.prog 86 #[.agg (epC e), .pointer (some ⟨g, 0, none⟩)] w fun r w' => r = .returned (.bool (decide (n < e.num))) ∧ Ext w w' := by
 have hfe := ep_fits e
 have hb := cell_in h
 go_enter Tryz.func86, Tryz.ntmps86
 go_upto_region 1 with (fail)
 refine wp_world (fun W => Ext w W ∧ RowAt W w.heap.size (epC e) ∧ W.cell? ⟨g, 0, none⟩ = some (.int .i64 n)) ⟨(by (with_reducible repeat first|exact eR _|apply eD|apply eN|apply eA|apply eO|apply eS|apply eC);all_goals first|omega|simp <;> omega), RowAt.new _ _ _, (((Ext.refl w).alloc _).cell (p := ⟨g, 0, none⟩) hb).trans h⟩ ?_
 obtain ⟨B, hB⟩ : ∃ B, w.heap.size = B := ⟨_, rfl⟩
 rw [hB]
 rintro W1 ⟨x1, u0, q⟩
 have HX1 := lh x1
 have q0 : W1.cell? ⟨B, 0, none⟩ = some (.int .i64 e.num) := (u0.cell 0).trans (ep_g0 e)
 clear x1 u0 h
 go_wp2
 go_ret
 exact ⟨rfl, HX1.out⟩
theorem eidx_any (g : Nat) (n : Int) (A : Option Addr) (c : Nat) (l : List Ep) (w : World) (hl : l.length ≤ 100) (hr : Reads 38 epL w w.heap.size A l) (hn : w.cell? ⟨g, 0, none⟩ = some (.int .i64 n)) :
  Calls Tryz.prog 85 #[.slice A l.length c, .func (.func 86) #[] #[.pointer (some ⟨g, 0, none⟩)]] w fun r w' => (∃ i : Int, r = .returned (.int .i64 i) ∧ ((i = -1 ∧ sinceN l n = []) ∨ ∃ k : Nat, i = k ∧ k < l.length ∧ sinceN l n = l.drop k)) ∧ Ext w w' := by
 have HR := lh hr
 have HN := lh hn
 have hgl := cell_in hn
 have HSt := lh (fun (k : Nat) (hk : k < l.length) (h : sinceN l n = sinceN (l.drop k) n) => since_step hk h)
 clear hr hn
 go_enter Tryz.func85, Tryz.ntmps85
 go_wp2
 go_loopw [5, 8] (fun _ i wr => ∃ k : Nat, k ≤ l.length ∧ i = .int .i64 k ∧ Hid (Ext w wr) ∧ Hid (sinceN l n = sinceN (l.drop k) n)) (fun _ i _ => l.length - (intOf i).toNat)
 case atStart => exact ⟨0, Nat.zero_le _, rfl, lh (eR _), lh (by rw [List.drop_zero])⟩
 case round =>
  obtain ⟨k, hk, rfl, HX, HJ⟩ := hrel
  have hsz := HX.out.size
  by_cases hlt : k < l.length
  ·obtain ⟨b, off, rfl, hb, kr⟩ := epr_at (HR.out.on HX.out) k hlt
   obtain ⟨hs1, hs2⟩ := HSt.out k hlt HJ.out
   have HS1 := lh hs1
   have HS2 := lh hs2
   have HT := lh (since1_any l[k] g n wr ((HX.out.cell (p := ⟨g, 0, none⟩) hgl).trans HN.out))
   generalize l[k] = e at *
   have hfe := ep_fits e
   clear hs1 hs2 HSt
   go_wp2_with (go_at_call 86; refine (show Hid _ from ?_).out)
   refine lh ?_
   refine HT.out.mono ?_
   rintro e w' ⟨rfl, hxl⟩; obtain ⟨xl, rfl⟩ := hxl.asLater; clear hxl
   by_cases hle : e.num ≤ n
   ·have HJ2 := lh (HS1.out hle)
    have dd : decide (n < e.num) = false := decide_eq_false (by omega)
    clear HS1 HS2 HT
    go_wp2
    go_roundw
    case rel => exact ⟨k + 1, by omega, by go_num, lh (by (with_reducible repeat first|exact HX.out|exact eR _|apply eD|apply eN|apply eA|apply eO|apply eS|apply eC);all_goals first|omega|simp <;> omega), HJ2⟩
    case measure => simp [intOf]; omega
   ·have HJ2 := lh (HS2.out (by omega))
    have dd : decide (n < e.num) = true := decide_eq_true (by omega)
    clear HS1 HS2 HT
    go_wp2
    go_ret
    exact ⟨⟨k, rfl, .inr ⟨k, rfl, hlt, HJ2.out⟩⟩, (by (with_reducible repeat first|exact HX.out|exact eR _|apply eD|apply eN|apply eA|apply eO|apply eS|apply eC);all_goals first|omega|simp <;> omega)⟩
  ·have HQ : Hid (sinceN l n = []) := lh (by have h := HJ.out; rw [List.drop_of_length_le (by omega)] at h; exact h)
   go_wp2
   go_ret
   exact ⟨⟨-1, rfl, .inl ⟨rfl, HQ.out⟩⟩, HX.out⟩
def SinceOut (l : List Ep) (n : Int) (base : Nat) (r : Ending) (w' : World) : Prop := ∃ A c l', r = .returned (.slice A l'.length c) ∧ l' = sinceN l n ∧ OwnsEp base w' A c l'
theorem esince_any (n : Int) (A : Option Addr) (c : Nat) (l : List Ep) (w : World) (hl : l.length ≤ 100) (hcap : l.length ≤ c) (hr : Reads 38 epL w w.heap.size A l) :
  Calls Tryz.prog 42 #[.slice A l.length c, .int .i64 n] w fun r w' => SinceOut l n w.heap.size r w' ∧ Ext w w' := by
 have HI := lh (fun (g : Nat) (W : World) (hx : Ext w W) (hn : W.cell? ⟨g, 0, none⟩ = some (.int .i64 n)) => eidx_any g n A c l W hl (hr.on hx) hn)
 have HR := lh hr
 clear hr
 go_enter Tryz.func42, Tryz.ntmps42
 go_upto_region 1 with (fail)
 refine wp_world (fun W => Ext w W ∧ W.cell? ⟨w.heap.size, 0, none⟩ = some (.int .i64 n)) ⟨(by (with_reducible repeat first|exact eR _|apply eD|apply eN|apply eA|apply eO|apply eS|apply eC);all_goals first|omega|simp <;> omega), (RowAt.new w #[.int .i64 n] _).cell 0⟩ ?_
 obtain ⟨B, hB⟩ : ∃ B, w.heap.size = B := ⟨_, rfl⟩
 rw [hB]
 rintro W1 ⟨x1, q⟩
 have HX1 := lh x1
 have HQ := lh q
 clear x1 q
 go_wp2_with (go_at_call 85; refine (show Hid _ from ?_).out)
 refine lh ?_
 refine (HI.out B W1 HX1.out HQ.out).mono ?_
 rintro r w2 ⟨⟨i, rfl, hi⟩, hx2⟩
 have HX2 := lh (HX1.out.trans hx2)
 clear hx2 HX1 HI HQ
 rcases hi with ⟨rfl, hs⟩ | ⟨k, rfl, hk, hs⟩
 ·have HSn := lh hs
  clear hs
  go_wp2
  go_ret
  exact ⟨⟨none, 0, [], rfl, HSn.out.symm, Owns.nil _ _ _ _ _⟩, (by (with_reducible repeat first|exact HX2.out|exact eR _|apply eD|apply eN|apply eA|apply eO|apply eS|apply eC);all_goals first|omega|simp <;> omega)⟩
 ·have HSn := lh hs
  obtain ⟨b, off, rfl, hb, _⟩ := epr_at HR.out k hk
  have hkc : k ≤ c := by omega
  have hdl : (l.drop k).length = l.length - k := List.length_drop
  have HD := lh ((HR.out.on HX2.out).drop k)
  clear hs
  go_wp2_with (go_at_call 79; refine (show Hid _ from ?_).out)
  refine lh ?_
  have HCl := cloneEp_any (some ⟨b, off + k * 38, none⟩) (c - k) (l.drop k) w2 (by omega) HD.out (fun h => by cases h)
  rw [hdl] at HCl
  refine HCl.mono ?_
  rintro r w3 ⟨⟨A3, c3, rfl, ho⟩, hx3⟩
  rw [← hdl]
  have HO := lh ho
  have HX3 := lh (HX2.out.trans hx3)
  have hs2 := HX2.out.size
  clear ho hx3 HCl hdl
  go_wp2
  go_ret
  exact ⟨⟨A3, c3, l.drop k, by rw [List.length_drop]; rfl, HSn.out.symm, HO.out.lower hs2⟩, HX3.out⟩
end Go.Proofs.YtpojnhikgjcgmaaGreatDoor