import Derived.Test.YtpojnhikgjcgmaaGreatDoorProg
import Derived.Test.YtpojnhikgjcgmaaGreatDoorEOwn
import Derived.WalkKit
import Derived.WalkSpells
import Derived.WalkLawsBesides
import Derived.Deep.QuietTactic
import Derived.BigQuiet
import Derived.Test.YtpojnhikgjcgmaaGreatDoorEZefp
import Derived.Test.YtpojnhikgjcgmaaGreatDoorESoF
import Derived.Test.YtpojnhikgjcgmaaGreatDoorETSoF
import Derived.Test.YtpojnhikgjcgmaaGreatDoorETNc
set_option linter.unusedVariables false
set_option linter.unusedSimpArgs false
namespace Go.Proofs.YtpojnhikgjcgmaaGreatDoor
open Go.RowKit Go.Shelf Go.Maps
open Go.Proofs
theorem reads_takeD {α : Type} {size : Nat} {enc : α → List Value} {w : World} {B : Nat} {A : Option Addr} {l : List α} (h : Reads size enc w B A l) (n : Nat) : Reads size enc w B A (l.take n) := by
 intro hn
 rw [List.length_take] at hn
 obtain ⟨b, off, h1, h2, h3⟩ := h (by omega)
 refine ⟨b, off, h1, h2, fun i hi j v hv => ?_⟩
 rw [List.length_take] at hi
 rw [List.getElem_take] at hv
 exact h3 i (by omega) j v hv
theorem reads_dropD {α : Type} {size : Nat} {enc : α → List Value} {w : World} {B b off : Nat} {l : List α} (h : Reads size enc w B (some ⟨b, off, none⟩) l) (n : Nat) : Reads size enc w B (some ⟨b, off + n * size, none⟩) (l.drop n) := by
 intro hn
 rw [List.length_drop] at hn
 obtain ⟨b', off', h1, h2, h3⟩ := h (by omega)
 injection h1 with h1
 injection h1 with h4 h5
 subst h4 h5
 refine ⟨_, _, rfl, h2, fun i hi j v hv => ?_⟩
 rw [List.length_drop] at hi
 rw [List.getElem_drop] at hv
 have := h3 (n + i) (by omega) j v hv
 rwa [show off + n * size + i * size + j = off + (n + i) * size + j by rw [Nat.add_mul]; omega]
theorem ch_takeD {w : World} {A : Option Addr} {l : List Ep} (h : ChAt w A l) (n : Nat) : ChAt w A (l.take n) := ⟨reads_takeD h.rd n, fun e he => h.ok e (List.mem_of_mem_take he)⟩
theorem ownsEp_capD {base : Nat} {w : World} {A : Option Addr} {c : Nat} {l : List Ep} (h : Owns 30 38 epL base w A c l) : l.length ≤ c := by
 rcases Owns.cases h with ⟨_, _, rfl⟩ | ⟨g, cur, _, _, _, hc, _⟩
 ·exact Nat.zero_le _
 ·exact hc
def SoftT.tab {T : TypeId} (l : List Ep) : SoftT T := ⟨fun v w => ∃ mu mr n, v = .agg (tabC mu mr n) ∧ TabAt w l (.agg (tabC mu mr n)), fun _ _ _ ⟨a, b, c, h1, h2⟩ hx => ⟨a, b, c, h1, h2.on hx⟩, fun _ _ _ _ vs ⟨a, b, c, h1, h2⟩ hb => ⟨a, b, c, h1, h2.sets hb.row vs⟩⟩
def RelT.tab {T : TypeId} (l : List Ep) : RelT T := ⟨fun v w => ∃ mu mr n, v = tabC mu mr n ∧ TabAt w l (.agg (tabC mu mr n)), fun _ _ _ ⟨a, b, c, h1, h2⟩ hx => ⟨a, b, c, h1, h2.on hx⟩, fun _ _ _ _ vs ⟨a, b, c, h1, h2⟩ hb => ⟨a, b, c, h1, h2.sets hb.row vs⟩⟩
theorem tab_num {w : World} {l : List Ep} {mu mr : Option Nat} {n : Int} (h : TabAt w l (.agg (tabC mu mr n))) : n = lastNum l := by
 obtain ⟨mu', mr', hcs, _, _⟩ := tab_look h
 have h2 : tabC mu mr n = tabC mu' mr' (lastNum l) := hcs
 have h3 := congrArg (fun a => a[2]?) h2
 simpa [tabC] using h3
theorem num_last {k : Ky} {l : List Ep} (h : IssuedOk k l) : lastNum l = (l.length : Int) := by
 rcases Nat.eq_zero_or_pos l.length with h0 | h0
 ·rw [List.eq_nil_of_length_eq_zero h0]; rfl
 ·have h1 := issued_num h (l.length - 1) (by omega)
  unfold lastNum
  rw [List.getLast?_eq_getElem?, List.getElem?_eq_getElem (by omega)]
  show (l[l.length - 1]'(by omega)).num = _
  rw [h1]
  omega
theorem issued_take {k : Ky} {l : List Ep} (h : IssuedOk k l) (i : Nat) : IssuedOk k (l.take i) := by
 intro j hj
 rw [List.length_take] at hj
 obtain ⟨s, h1, h2⟩ := h j (by omega)
 refine ⟨s, ?_, ?_⟩
 ·rw [List.getElem_take, List.take_take, Nat.min_eq_left (by omega)]; exact h1
 ·rw [List.take_take, Nat.min_eq_left (by omega)]; exact h2
theorem table_iss {k : Ky} {l : List Ep} (h : IssuedOk k l) {a : Ad.Bs} (ha : Ad.canonB a = true) (lo : Int) (t : Ad.Bs) : tableB l lo a t = stateB l lo a t := table_state (issued_ok h) ha lo t
theorem rev_step {l : List Ep} {d : List Int} (k : Nat) (hk : k < l.length) : revokedB (l.take (k + 1)) d = (revokedB (l.take k) d || l[k].rv.any fun x => decide (x = d)) := by
 unfold revokedB
 rw [List.take_succ_eq_append_getElem hk, List.any_append]
 simp
theorem rv_step {L : List (List Int)} {d : List Int} {b : Bool} (k : Nat) (hk : k < L.length) : (b || (L.take (k + 1)).any fun x => decide (x = d)) = ((b || (L.take k).any fun x => decide (x = d)) || decide (L[k] = d)) := by
 rw [List.take_succ_eq_append_getElem hk, List.any_append, Bool.or_assoc]
 simp
theorem hi_small {k : Ky} {l : List Ep} (h : IssuedOk k l) (e : Ep) (he : e ∈ l) : 0 ≤ e.hi ∧ e.hi ≤ 1099511627776 := by
 have hok := issued_ok h e he
 simp only [okEp, Bool.and_eq_true] at hok
 obtain ⟨h1, h2, h3⟩ := epClk_lims hok.1.1.2
 have h1' : (0 : Int) ≤ e.lo := h1
 have h2' : e.lo ≤ e.hi := h2
 exact ⟨by omega, h3⟩
theorem stm_per (s : St) (lo hi : Int) : laidOver (stmC s) 21 (pdC lo hi).toList = stmC { s with lo := lo, hi := hi } := by kernel_rfl
theorem TabAt.setsO {w : World} {l : List Ep} {v : Value} (h : TabAt w l v) {b : Nat} {ds : Array Value} (hb : RowAt w b ds) (o : Nat) (vs : List Value) : TabAt (w.setCells b o vs) l v := by
 obtain ⟨T, hT⟩ := hb
 have key : ∀ {k : TypeId} {R : Value → Option (DataW Unit × List MemPlace)} {g n : Nat} {D : DataW Unit}, w.ownsMap Tryz.prog k R g n D → (w.setCells b o vs).ownsMap Tryz.prog k R g n D := by
  intro k R g n D ho
  refine ownsMap_block ho (heap_sets_other vs w b o g ?_)
  rintro rfl
  obtain ⟨es, cl, he, _⟩ := ho
  rw [hT] at he
  cases he
 rcases h with h | ⟨bu, nu, br, nr, Du, Dr, h1, h2, h3, h4, h5⟩
 ·exact .inl h
 ·exact .inr ⟨bu, nu, br, nr, Du, Dr, h1, h2, key h3, key h4, h5⟩
theorem reads_from {w : World} {B : Nat} {A : Option Addr} {c : Nat} {l : List Ep} (h : Reads 38 epL w B A l) (hcap : l.length ≤ c) (i : Nat) : Reads 38 epL w B (if c = i then A else A.map (fun x => x.add (i * 38))) (l.drop i) := by
 by_cases hi : i < l.length
 ·obtain ⟨b, off, rfl, hb, _⟩ := h (by omega)
  rw [if_neg (by omega)]
  show Reads 38 epL w B (some ((⟨b, off, none⟩ : Addr).add (i * 38))) (l.drop i)
  rw [addr_add]
  exact reads_dropD h i
 ·rw [List.drop_eq_nil_of_le (by omega)]
  exact Reads.nil _ _ _ _ _
section
attribute [local go_sem] tab_size tab_fits pd_fits pd_size
set_option maxRecDepth 100000 in
set_option maxHeartbeats 16000000 in
theorem tables_ok (k : Ky) (A : Option Addr) (c : Nat) (l : List Ep) (s : St) (d : List Int) (n : Int) (w : World) (hks : k.secret.size < 9223372036854775808) (hl : l.length ≤ 9223372036854775807) (hc : EpsIn w A l) (h1 : s.addr.size ≤ 9223372036854775807) (h2 : s.var.size ≤ 9223372036854775807) (h3 : s.tags.size ≤ 9223372036854775807) (hd : DgOk d) (hn0 : 0 ≤ n) (hn1 : n < 256) (hk : KonstP w) (hr : RKonst w) :
  Calls Tryz.prog 4 #[.agg (kyC k), .slice A l.length c, .agg (stmC s), .agg (dgC d), .int .u8 n] w fun r w' => r = .returned (.bool true) ∧ Ext w w' := by
 have HS := lh (fun (W : World) (hx : Ext w W) => esanity_any W (RowAt.ext hk hx))
 have HV := lh (fun (W : World) => rkvalid_any k W hks)
 have HF := lh (fun (W : World) (hx : Ext w W) => rfew31_any A c l 8 W hl (hc.on hx))
 have HT := lh (fun (W : World) => rshortSt_any s W h1 h2 h3)
 have HC := lh (fun (h : s.addr.size ≤ 200) (W : World) => r31canon_any s.addr W (by omega))
 have hfk := ky_fits k
 have hfs := stm_fits s
 have hfd : fitsRow 16 (dgC d) = true := dg_fits d
 have hq0 : (stmC s)[0]? = some (.string s.addr) := stm_g0 s
 cases hV : okKy k with
 | false =>
  rw [hV] at HV
  clear h1 h2 h3 hks hl hc hd hk hr hV HF HT HC
  go_enter Tryz.func4, Tryz.ntmps4
  go_wp2_with (first | (go_at_call 22; refine (HV.out _).mono ?_; rintro e w' ⟨rfl, hxl⟩; obtain ⟨xl, rfl⟩ := hxl.asLater; clear hxl) | (go_at_call 23; refine (HF.out _ (by (with_reducible repeat first|exact eR _|apply eD|apply eN|apply eA|apply eO|apply eS|apply eC);all_goals first|omega|simp <;> omega)).mono ?_; rintro e w' ⟨rfl, hxl⟩; obtain ⟨xl, rfl⟩ := hxl.asLater; clear hxl) | (go_at_call 11; refine (HT.out _).mono ?_; rintro e w' ⟨rfl, hxl⟩; obtain ⟨xl, rfl⟩ := hxl.asLater; clear hxl) | (go_at_call 17; refine (HC.out _).mono ?_; rintro e w' ⟨rfl, hxl⟩; obtain ⟨xl, rfl⟩ := hxl.asLater; clear hxl) | (go_at_call 12; refine (HS.out _ (by (with_reducible repeat first|exact eR _|apply eD|apply eN|apply eA|apply eO|apply eS|apply eC);all_goals first|omega|simp <;> omega)).mono ?_; rintro e w' ⟨rfl, hxl⟩; obtain ⟨xl, rfl⟩ := hxl.asLater; clear hxl))
  go_ret
  exact ⟨rfl, (by (with_reducible repeat first|exact eR _|apply eD|apply eN|apply eA|apply eO|apply eS|apply eC);all_goals first|omega|simp <;> omega)⟩
 | true =>
 rw [hV] at HV
 obtain ⟨hk64, hki, _⟩ := okKy_is hV
 cases hF : fewEp l 8 with
 | false =>
  rw [hF] at HF
  clear h1 h2 h3 hks hl hc hd hk hr hV hF HT HC
  go_enter Tryz.func4, Tryz.ntmps4
  go_wp2_with (first | (go_at_call 22; refine (HV.out _).mono ?_; rintro e w' ⟨rfl, hxl⟩; obtain ⟨xl, rfl⟩ := hxl.asLater; clear hxl) | (go_at_call 23; refine (HF.out _ (by (with_reducible repeat first|exact eR _|apply eD|apply eN|apply eA|apply eO|apply eS|apply eC);all_goals first|omega|simp <;> omega)).mono ?_; rintro e w' ⟨rfl, hxl⟩; obtain ⟨xl, rfl⟩ := hxl.asLater; clear hxl) | (go_at_call 11; refine (HT.out _).mono ?_; rintro e w' ⟨rfl, hxl⟩; obtain ⟨xl, rfl⟩ := hxl.asLater; clear hxl) | (go_at_call 17; refine (HC.out _).mono ?_; rintro e w' ⟨rfl, hxl⟩; obtain ⟨xl, rfl⟩ := hxl.asLater; clear hxl) | (go_at_call 12; refine (HS.out _ (by (with_reducible repeat first|exact eR _|apply eD|apply eN|apply eA|apply eO|apply eS|apply eC);all_goals first|omega|simp <;> omega)).mono ?_; rintro e w' ⟨rfl, hxl⟩; obtain ⟨xl, rfl⟩ := hxl.asLater; clear hxl))
  go_ret
  exact ⟨rfl, (by (with_reducible repeat first|exact eR _|apply eD|apply eN|apply eA|apply eO|apply eS|apply eC);all_goals first|omega|simp <;> omega)⟩
 | true =>
 rw [hF] at HF
 obtain ⟨hl8, hsh⟩ := fewEp_is hF
 cases hT : shortSt s with
 | false =>
  rw [hT] at HT
  clear h1 h2 h3 hks hl hc hd hk hr hV hF hT hsh HC
  go_enter Tryz.func4, Tryz.ntmps4
  go_wp2_with (first | (go_at_call 22; refine (HV.out _).mono ?_; rintro e w' ⟨rfl, hxl⟩; obtain ⟨xl, rfl⟩ := hxl.asLater; clear hxl) | (go_at_call 23; refine (HF.out _ (by (with_reducible repeat first|exact eR _|apply eD|apply eN|apply eA|apply eO|apply eS|apply eC);all_goals first|omega|simp <;> omega)).mono ?_; rintro e w' ⟨rfl, hxl⟩; obtain ⟨xl, rfl⟩ := hxl.asLater; clear hxl) | (go_at_call 11; refine (HT.out _).mono ?_; rintro e w' ⟨rfl, hxl⟩; obtain ⟨xl, rfl⟩ := hxl.asLater; clear hxl) | (go_at_call 17; refine (HC.out _).mono ?_; rintro e w' ⟨rfl, hxl⟩; obtain ⟨xl, rfl⟩ := hxl.asLater; clear hxl) | (go_at_call 12; refine (HS.out _ (by (with_reducible repeat first|exact eR _|apply eD|apply eN|apply eA|apply eO|apply eS|apply eC);all_goals first|omega|simp <;> omega)).mono ?_; rintro e w' ⟨rfl, hxl⟩; obtain ⟨xl, rfl⟩ := hxl.asLater; clear hxl))
  go_ret
  exact ⟨rfl, (by (with_reducible repeat first|exact eR _|apply eD|apply eN|apply eA|apply eO|apply eS|apply eC);all_goals first|omega|simp <;> omega)⟩
 | true =>
 rw [hT] at HT
 obtain ⟨ha1, _, ht1⟩ := shortSt_is hT
 have HC' := lh (HC.out ha1)
 clear HC
 have HC := HC'
 clear HC'
 cases hC : Ad.canonB (bsT s.addr) with
 | false =>
  rw [hC] at HC
  clear h1 h2 h3 hks hl hc hd hk hr hV hF hT hsh hC
  go_enter Tryz.func4, Tryz.ntmps4
  go_wp2_with (first | (go_at_call 22; refine (HV.out _).mono ?_; rintro e w' ⟨rfl, hxl⟩; obtain ⟨xl, rfl⟩ := hxl.asLater; clear hxl) | (go_at_call 23; refine (HF.out _ (by (with_reducible repeat first|exact eR _|apply eD|apply eN|apply eA|apply eO|apply eS|apply eC);all_goals first|omega|simp <;> omega)).mono ?_; rintro e w' ⟨rfl, hxl⟩; obtain ⟨xl, rfl⟩ := hxl.asLater; clear hxl) | (go_at_call 11; refine (HT.out _).mono ?_; rintro e w' ⟨rfl, hxl⟩; obtain ⟨xl, rfl⟩ := hxl.asLater; clear hxl) | (go_at_call 17; refine (HC.out _).mono ?_; rintro e w' ⟨rfl, hxl⟩; obtain ⟨xl, rfl⟩ := hxl.asLater; clear hxl) | (go_at_call 12; refine (HS.out _ (by (with_reducible repeat first|exact eR _|apply eD|apply eN|apply eA|apply eO|apply eS|apply eC);all_goals first|omega|simp <;> omega)).mono ?_; rintro e w' ⟨rfl, hxl⟩; obtain ⟨xl, rfl⟩ := hxl.asLater; clear hxl))
  go_ret
  exact ⟨rfl, (by (with_reducible repeat first|exact eR _|apply eD|apply eN|apply eA|apply eO|apply eS|apply eC);all_goals first|omega|simp <;> omega)⟩
 | true =>
 rw [hC] at HC
 have hasc := canon_ascii hC
 have hml := made_len k l
 have HIs := lh (made_issued k l)
 have HM := lh (fun (W : World) (hx : Ext w W) => made_any k A c l W hk64 hki (by omega) ((hc.on hx).ch hsh) (RowAt.ext hr hx))
 unfold MadeOut at HM
 have HTm : Hid (∀ (L : List Ep) (lo : Int), IssuedOk k L → tableB L lo (bsT s.addr) (bsT s.tags) = stateB L lo (bsT s.addr) (bsT s.tags)) := lh (fun L lo h => table_iss h hC lo (bsT s.tags))
 have HTs : Hid (∀ (L : List Ep) (lo hi : Int) (cs : Array Value) (W : World), TabAt W L (.agg cs) → Calls Tryz.prog 26 #[.agg cs, .agg (stmC { s with lo := lo, hi := hi })] W fun e w' => e = .returned (.int .i64 (tableB L lo (bsT s.addr) (bsT s.tags))) ∧ Ext W w') := lh (fun L lo hi cs W h => tstate_any L { s with lo := lo, hi := hi } cs W h (by show s.addr.size ≤ _; omega) (by show s.tags.size ≤ _; omega) hasc)
 have HTr : Hid (∀ (L : List Ep) (cs : Array Value) (W : World), TabAt W L (.agg cs) → Calls Tryz.prog 27 #[.agg cs, .agg (dgC d)] W fun e w' => e = .returned (.bool (revokedB L d)) ∧ Ext W w') := lh (fun L cs W h => trevoked_any L d cs W h (dk_of hd))
 have HRm : Hid (∀ (e : Ep) (W : World), EpShort e → EpAt W e → Calls Tryz.prog 20 #[.agg (epC e), .agg (stmC s)] W fun r w' => r = .returned (.int .i64 (removesB e s.lo (bsT s.addr) (bsT s.tags))) ∧ Ext W w') := lh (fun e W hes hat => removes_any e s W hat (by have := hes.pu; omega) (fun p hp => by have := hes.what p hp; omega) (by omega) (by omega) hasc)
 have HD := lh hd
 clear h1 h2 h3 hks hl hc hd hk hr hV hF hT hsh hC hasc
 generalize madeN k l = L at *
 have hL8 : L.length ≤ 8 := by omega
 go_enter Tryz.func4, Tryz.ntmps4
 go_upto_region 3 with (first | (go_at_call 22; refine (HV.out _).mono ?_; rintro e w' ⟨rfl, hxl⟩; obtain ⟨xl, rfl⟩ := hxl.asLater; clear hxl) | (go_at_call 23; refine (HF.out _ (by (with_reducible repeat first|exact eR _|apply eD|apply eN|apply eA|apply eO|apply eS|apply eC);all_goals first|omega|simp <;> omega)).mono ?_; rintro e w' ⟨rfl, hxl⟩; obtain ⟨xl, rfl⟩ := hxl.asLater; clear hxl) | (go_at_call 11; refine (HT.out _).mono ?_; rintro e w' ⟨rfl, hxl⟩; obtain ⟨xl, rfl⟩ := hxl.asLater; clear hxl) | (go_at_call 17; refine (HC.out _).mono ?_; rintro e w' ⟨rfl, hxl⟩; obtain ⟨xl, rfl⟩ := hxl.asLater; clear hxl))
 refine wp_world (fun W => Ext w W ∧ RowAt W w.heap.size (kyC k) ∧ RowAt W (w.heap.size + 1) (stmC s) ∧ RowAt W (w.heap.size + 1 + 1) (dgC d)) ⟨(by (with_reducible repeat first|exact eR _|apply eD|apply eN|apply eA|apply eO|apply eS|apply eC);all_goals first|omega|simp <;> omega), (((RowAt.new _ _ _).alloc _).alloc _).later _, (RowAt.alloc (RowAt.newAt (by simp)) _).later _, (RowAt.newAt (by simp)).later _⟩ ?_
 obtain ⟨B, hB⟩ : ∃ B, w.heap.size = B := ⟨_, rfl⟩
 rw [hB]
 rintro W1 ⟨x1, u0, u1, u2⟩
 have HX1 := lh x1
 have HU1 := lh u1
 have HU2 := lh u2
 have hl1 := u2.lt
 have k0 : rowOf W1 B 0 5 = some (kyC k) := u0.all rfl (by omega)
 have hBw : w.heap.size ≤ B := by omega
 clear x1 u0 u1 u2 HV HF HT HC hB
 go_wp2_with (go_at_call 24; refine (show Hid _ from ?_).out)
 refine lh ?_
 refine (HM.out W1 HX1.out).mono ?_
 rintro r w2 ⟨⟨A2, c2, rfl, ho, hch⟩, hx2⟩
 have hcap : L.length ≤ c2 := ownsEp_capD ho
 have hown := ho.cases
 have HCh := lh hch
 have HX2 := lh (HX1.out.trans hx2)
 have HU12 := lh (HU1.out.ext hx2)
 have HU22 := lh (HU2.out.ext hx2)
 have hs2 := hx2.size
 clear ho hch hx2 HX1 HU1 HU2 HM k0
 obtain ⟨i, hni⟩ : ∃ i : Nat, n % ((L.length : Int) + 1) = i := ⟨(n % ((L.length : Int) + 1)).toNat, by have := Int.emod_nonneg n (show (L.length : Int) + 1 ≠ 0 by omega); omega⟩
 have hiL : i ≤ L.length := by have := Int.emod_lt_of_pos n (show (0 : Int) < (L.length : Int) + 1 by omega); omega
 have hne : (L.length : Int) + 1 ≠ 0 := by omega
 have HFo := lh (fun (W : World) (hx : Ext w2 W) => fold_any A2 c2 L W (by omega) (HCh.out.on hx))
 go_upto_region 4 with (fail)
 refine wp_region_rowT (T := 52) 11 (by kernel_rfl) 8 9 (fun iq => softTs [SoftT.eq (.slice A2 L.length c2), (SoftT.tab (L) : SoftT 52), SoftT.eq (.int .u8 n), SoftT.eq (.int .i64 n), SoftT.eq (.slice A2 L.length c2), SoftT.eq (.int .i64 L.length), SoftT.eq (.int .i64 ((L.length : Int) + 1)), SoftT.eq (.int .i64 i), SoftT.any, SoftT.any, SoftT.eq (.int .i64 i)] iq) 3 (RelT.tab (L)) (by kernel_rfl) (by kernel_rfl) (by decide) (dk (by kernel_rfl)) (dk (by kernel_rfl)) (dk (by kernel_rfl)) (lt_cons ?_ (lt_cons ?_ (lt_cons ?_ (lt_cons ?_ (lt_cons ?_ (lt_cons ?_ (lt_cons ?_ (lt_cons ?_ (lt_cons ?_ (lt_cons ?_ (lt_cons ?_ (lt_none)))))))))))) ?_ ?_ ?_
 ·
  intro _ _
  refine sop rfl fun xs W HW hsW HD Q' HQ => ?_; simp only [fillAt, dstOf, lc0, lcs, obs, Act.put, lsa, lsz, lss, nz, Nat.reduceAdd] at HQ ⊢
  go_wp2
  exact HQ.out _ _ (eR _) rfl
 ·
  intro _ _
  refine sop rfl fun xs W HW hsW HD Q' HQ => ?_; simp only [fillAt, dstOf, lc0, lcs, obs, Act.put, lsa, lsz, lss, nz, Nat.reduceAdd] at HQ ⊢
  have hd0 : xs 0 = .slice A2 L.length c2 := (HD.out 0 (dk (by kernel_rfl)))
  generalize xs 0 = x0 at hd0 HQ ⊢; subst hd0
  go_wp2_with (go_at_call 25; refine (HFo.out _ HW.out).mono ?_; rintro r w1 ⟨⟨cs, rfl, hT⟩, hx⟩)
  obtain ⟨mu, mr, nn, rfl⟩ := hT.shape
  exact HQ.out _ _ hx ⟨mu, mr, nn, rfl, hT⟩
 ·
  intro _ _
  refine sop rfl fun xs W HW hsW HD Q' HQ => ?_; simp only [fillAt, dstOf, lc0, lcs, obs, Act.put, lsa, lsz, lss, nz, Nat.reduceAdd] at HQ ⊢
  go_wp2
  exact HQ.out _ _ (eR _) rfl
 ·
  intro _ _
  refine sop rfl fun xs W HW hsW HD Q' HQ => ?_; simp only [fillAt, dstOf, lc0, lcs, obs, Act.put, lsa, lsz, lss, nz, Nat.reduceAdd] at HQ ⊢
  have hd2 : xs 2 = .int .u8 n := (HD.out 2 (dk (by kernel_rfl)))
  generalize xs 2 = x2 at hd2 HQ ⊢; subst hd2
  go_wp2
  exact HQ.out _ _ (eR _) rfl
 ·
  intro _ _
  refine sop rfl fun xs W HW hsW HD Q' HQ => ?_; simp only [fillAt, dstOf, lc0, lcs, obs, Act.put, lsa, lsz, lss, nz, Nat.reduceAdd] at HQ ⊢
  go_wp2
  exact HQ.out _ _ (eR _) rfl
 ·
  intro _ _
  refine sop rfl fun xs W HW hsW HD Q' HQ => ?_; simp only [fillAt, dstOf, lc0, lcs, obs, Act.put, lsa, lsz, lss, nz, Nat.reduceAdd] at HQ ⊢
  have hd4 : xs 4 = .slice A2 L.length c2 := (HD.out 4 (dk (by kernel_rfl)))
  generalize xs 4 = x4 at hd4 HQ ⊢; subst hd4
  go_wp2
  exact HQ.out _ _ (eR _) rfl
 ·
  intro _ _
  refine sop rfl fun xs W HW hsW HD Q' HQ => ?_; simp only [fillAt, dstOf, lc0, lcs, obs, Act.put, lsa, lsz, lss, nz, Nat.reduceAdd] at HQ ⊢
  have hd5 : xs 5 = .int .i64 L.length := (HD.out 5 (dk (by kernel_rfl)))
  generalize xs 5 = x5 at hd5 HQ ⊢; subst hd5
  go_wp2
  exact HQ.out _ _ (eR _) rfl
 ·
  intro _ _
  refine sop rfl fun xs W HW hsW HD Q' HQ => ?_; simp only [fillAt, dstOf, lc0, lcs, obs, Act.put, lsa, lsz, lss, nz, Nat.reduceAdd] at HQ ⊢
  have hd3 : xs 3 = .int .i64 n := (HD.out 3 (dk (by kernel_rfl)))
  generalize xs 3 = x3 at hd3 HQ ⊢; subst hd3
  have hd6 : xs 6 = .int .i64 ((L.length : Int) + 1) := (HD.out 6 (dk (by kernel_rfl)))
  generalize xs 6 = x6 at hd6 HQ ⊢; subst hd6
  go_wp2
  rw [hni]
  exact HQ.out _ _ (eR _) rfl
 ·exact fun h => absurd rfl h
 ·exact fun _ h => absurd rfl h
 ·
  intro _ _
  refine sop rfl fun xs W HW hsW HD Q' HQ => ?_; simp only [fillAt, dstOf, lc0, lcs, obs, Act.put, lsa, lsz, lss, nz, Nat.reduceAdd] at HQ ⊢
  have hd7 : xs 7 = .int .i64 i := (HD.out 7 (dk (by kernel_rfl)))
  generalize xs 7 = x7 at hd7 HQ ⊢; subst hd7
  go_wp2
  exact HQ.out _ _ (eR _) rfl
 ·
  refine sop rfl fun xs W HW hsW HD Q' HQ => ?_; simp only [fillAt, dstOf, lc0, lcs, obs, Act.put, lsa, lsz, lss, nz, Nat.reduceAdd] at HQ ⊢
  go_wp2
  exact HQ.out _ _ ((eR _).alloc _) ⟨W.heap.size, rfl, by omega, _, TRow.new _ _ _, rfl⟩
 ·
  refine sop rfl fun xs W HW hsW HD Q' HQ => ?_; simp only [fillAt, dstOf, lc0, lcs, obs, Act.put, lsa, lsz, lss, nz, Nat.reduceAdd] at HQ ⊢
  obtain ⟨mu1, mr1, nn1, h1, ht1⟩ : ((SoftT.tab (L) : SoftT 52)).S (xs 1) W := (HD.out 1 (dk (by kernel_rfl)))
  generalize xs 1 = x1 at h1 HQ ⊢; subst h1
  obtain ⟨bb, hxa, hbb, ds, hrb, hzb⟩ : ∃ b, xs 8 = .pointer (some ⟨b, 0, none⟩) ∧ w2.heap.size ≤ b ∧ ∃ ds, TRow W b ds 52 ∧ ds.size = 3 := (HD.out 8 (dk (by kernel_rfl)))
  have hrm : roomOf W bb 0 3 = true := by rw [hrb.row.room, hzb]; rfl
  generalize xs 8 = x8 at hxa HQ ⊢; subst hxa
  clear hrb hzb
  go_wp2
  exact HQ.out undef bb _ rfl rfl ⟨mu1, mr1, nn1, rfl, ht1⟩
 intro xs W4 T1 csT1 hW hxb hbaseT1 hrowT1 hRT1 hvs
 obtain ⟨muT1, mrT1, nnT1, hT1, htT1⟩ := hRT1
 subst hT1
 have HTbT1 := lh htT1
 clear htT1
 have h10 : xs 10 = .int .i64 i := hvs 10 (dk (by kernel_rfl)) (by decide) (by decide)
 simp only [fillAt, dstOf, lc0, lcs, obs, Act.put, lsa, lsz, lss, nz, Nat.reduceAdd]
 generalize xs 10 = x10 at *; subst h10
 generalize xs 8 = xa at *; subst hxb
 have HW4 := lh (HX2.out.trans hW)
 have HWW4 := lh hW
 have HTT1 := lh hrowT1
 have HRT1 := lh hrowT1.row
 have hlT1 := hrowT1.row.lt
 clear hW hvs hrowT1 
 have HU14 := lh (HU12.out.ext HWW4.out)
 have HU24 := lh (HU22.out.ext HWW4.out)
 have HC4 := lh (HCh.out.on HWW4.out)
 have hs4 := HWW4.out.size
 have htf := tab_fits muT1 mrT1 nnT1
 have hcapi : i ≤ c2 := by omega
 have hT1B : T1 ≠ B + 1 := by omega
 clear HX2 HU12 HU22 HCh HFo
 have hm0 : A2.map (fun x => x.add 0) = A2 := by cases A2 <;> rfl
 have hti : (L.take i).length = i := by rw [List.length_take]; omega
 have HFi := lh (fun (W : World) (hx : Ext W4 W) => fold_any A2 c2 (L.take i) W (by omega) ((ch_takeD HC4.out i).on hx))
 rw [hti] at HFi
 go_wp2_with (go_at_call 25; refine (show Hid _ from ?_).out)
 refine lh ?_
 refine (HFi.out W4 (eR _)).mono ?_
 rintro r w5 ⟨⟨cs, rfl, hT⟩, hx5⟩
 obtain ⟨muF, mrF, nnF, rfl⟩ := hT.shape
 have HX5 := lh (HW4.out.trans hx5)
 have HU15 := lh (HU14.out.ext hx5)
 have HU25 := lh (HU24.out.ext hx5)
 have HC5 := lh (HC4.out.on hx5)
 have HR15 := lh (HRT1.out.ext hx5)
 have HT15 := lh (HTbT1.out.on hx5)
 have HT25 := lh hT
 have hs5 := hx5.size
 have htf2 := tab_fits muF mrF nnF
 clear hT hx5 HW4 HWW4 HU14 HU24 HC4 HRT1 HTT1 HTbT1 HFi hlT1 hm0
 go_upto_region 6 with (fail)
 refine wp_world (fun W => Ext w5 W ∧ RowAt W w5.heap.size (tabC muF mrF nnF)) ⟨(by (with_reducible repeat first|exact eR _|apply eD|apply eN|apply eA|apply eO|apply eS|apply eC);all_goals first|omega|simp <;> omega), RowAt.store (RowAt.newAt rfl) rfl⟩ ?_
 obtain ⟨T2, hT2⟩ : ∃ T2, w5.heap.size = T2 := ⟨_, rfl⟩
 rw [hT2]
 rintro W6 ⟨x6, u6⟩
 have HX6 := lh (HX5.out.trans x6)
 have HU16 := lh (HU15.out.ext x6)
 have HU26 := lh (HU25.out.ext x6)
 have HC6 := lh (HC5.out.on x6)
 have HR16 := lh (HR15.out.ext x6)
 have HT16 := lh (HT15.out.on x6)
 have HT26 := lh (HT25.out.on x6)
 have HR26 := lh u6
 clear x6 u6 HX5 HU15 HU25 HC5 HR15 HT15 HT25 hT2 hs2 hs4 hs5
 have HSt := lh (fun (j : Nat) (hj : j < L.length) => state_take (lo := s.lo) (a := bsT s.addr) (t := bsT s.tags) j hj)
 have HRv := lh (fun (j : Nat) (hj : j < L.length) => rev_step (d := d) j hj)
 go_wp2
 go_loopw [15, 16, 18, 20, 62] (fun mo rv _ _ ix wr => ∃ j : Nat, j ≤ L.length ∧ ix = .int .i64 j ∧ mo = .int .i64 (stateB (L.take j) s.lo (bsT s.addr) (bsT s.tags)) ∧ rv = .bool (revokedB (L.take j) d) ∧ Hid (Ext W6 wr)) (fun _ _ _ _ ix _ => L.length - (intOf ix).toNat)
 case atStart => exact ⟨0, Nat.zero_le _, rfl, rfl, rfl, lh (eR _)⟩
 case round =>
  obtain ⟨j, hj, rfl, rfl, rfl, HX⟩ := hrel
  generalize hwA : wr = wA at *
  clear hwA
  have hsz := HX.out.size
  by_cases hlt : j < L.length
  ·obtain ⟨b, off, rfl, hb, kr⟩ := epr_at (HC6.out.rd.on HX.out) j hlt
   have HOk := lh (HC6.out.ok _ (List.getElem_mem hlt))
   have HSj := lh (HSt.out j hlt)
   have HRj := lh (HRv.out j hlt)
   generalize L[j] = e at *
   have hfe := ep_fits e
   have u1 := HU16.out.ext HX.out
   generalize stateB (L.take j) s.lo (bsT s.addr) (bsT s.tags) = V0 at *
   generalize revokedB (L.take j) d = Q0 at *
   clear HSt HRv
   go_upto_region 10 with (fail)
   refine wp_world (fun W => Ext wA W ∧ RowAt W wA.heap.size (epC e)) ⟨(by (with_reducible repeat first|exact eR _|apply eD|apply eN|apply eA|apply eO|apply eS|apply eC);all_goals first|omega|simp <;> omega), RowAt.store (RowAt.newAt rfl) rfl⟩ ?_
   obtain ⟨g, hg⟩ : ∃ g, wA.heap.size = g := ⟨_, rfl⟩
   rw [hg]
   rintro W9 ⟨x9, u9⟩
   have HX9 := lh (HX.out.trans x9)
   have HU9 := lh u9
   have hlg := u9.lt
   have hl1 := (u1.ext x9).lt
   have k9 : rowOf W9 g 0 38 = some (epC e) := u9.all rfl (by omega)
   have k1 : rowOf W9 (B + 1) 0 41 = some (stmC s) := (u1.ext x9).all rfl (by omega)
   have HRe := lh (HRm.out e W9 HOk.out.2.1 (HOk.out.2.2.on HX9.out))
   clear x9 u9 u1 kr HX
   go_wp2_with (go_at_call 20; refine (show Hid _ from ?_).out)
   refine lh ?_
   refine HRe.out.mono ?_
   rintro r w10 ⟨rfl, hx10⟩
   have HX10 := lh (HX9.out.trans hx10)
   have HU10 := lh (HU9.out.ext hx10)
   have hs10 := hx10.size
   generalize removesB e s.lo (bsT s.addr) (bsT s.tags) = V at *
   have q20 : w10.cell? ⟨g, 20, none⟩ = some (.slice e.RA e.rv.length e.rc) := (HU10.out.cell 20).trans (ep_g20 e)
   clear hx10 k9 k1 HX9 HU9 HRe
   have hrl := HOk.out.2.1.rv
   go_wp2
   go_loopw [16, 20, 74] (fun rv _ iy wr => ∃ m : Nat, m ≤ e.rv.length ∧ iy = .int .i64 m ∧ rv = .bool (Q0 || (e.rv.take m).any fun x => decide (x = d)) ∧ Hid (Ext w10 wr)) (fun _ _ iy _ => e.rv.length - (intOf iy).toNat)
   case atStart => exact ⟨0, Nat.zero_le _, rfl, by simp, lh (eR _)⟩
   case round =>
    obtain ⟨m, hm, rfl, rfl, HX2⟩ := hrel
    have HW := lh (HX10.out.trans HX2.out)
    by_cases hlm : m < e.rv.length
    ·obtain ⟨b3, off3, hRA, hb3, kd⟩ := reads_row dgE ((HOk.out.2.2.on HW.out).rv) m hlm
     have hdk := HOk.out.1.rv _ (List.getElem_mem hlm)
     have hq := fun W => eq_dg2 hdk HD.out W
     have HN := lh (rv_step (d := d) (b := Q0) m hlm)
     have kd' : rowOf wr b3 (off3 + m * 16) 16 = some (dgC e.rv[m]) := kd
     have hfx : fitsRow 16 (dgC e.rv[m]) = true := dg_fits _
     generalize e.rv[m] = x at *
     generalize hwB : wr = wB at *
     clear hwB kd hdk
     have u2 := HU26.out.ext HW.out
     have hlm1 : m + 1 ≤ e.rv.length := by omega
     go_upto_region 14 with (fail)
     refine wp_world (fun W => Ext wB W ∧ RowAt W wB.heap.size (dgC x)) ⟨(by (with_reducible repeat first|exact eR _|apply eD|apply eN|apply eA|apply eO|apply eS|apply eC);all_goals first|omega|simp <;> omega), RowAt.store (RowAt.newAt rfl) rfl⟩ ?_
     obtain ⟨g3, hg3⟩ : ∃ g3, wB.heap.size = g3 := ⟨_, rfl⟩
     rw [hg3]
     rintro W13 ⟨x13, u13⟩
     have HX13 := lh (HX2.out.trans x13)
     have kx : rowOf W13 g3 0 16 = some (dgC x) := u13.all rfl (by have := u13.lt; omega)
     have kdd : rowOf W13 (B + 1 + 1) 0 16 = some (dgC d) := (u2.ext x13).all rfl (by have := (u2.ext x13).lt; omega)
     have hl13 := u13.lt
     have hl2 := (u2.ext x13).lt
     generalize (Q0 || (e.rv.take m).any fun x => decide (x = d)) = Bv at *
     clear x13 u13 u2 kd' HX2 HW
     cases Bv with
     | true =>
      go_wp2
      go_roundw
      case rel => exact ⟨m + 1, hlm1, by go_num, by rw [HN.out]; rfl, lh (by (with_reducible repeat first|exact HX13.out|exact eR _|apply eD|apply eN|apply eA|apply eO|apply eS|apply eC);all_goals first|omega|simp <;> omega)⟩
      case measure => simp [intOf]; omega
     | false =>
      go_wp2
      go_roundw
      case rel => exact ⟨m + 1, hlm1, by go_num, by rw [HN.out]; simp, lh (by (with_reducible repeat first|exact HX13.out|exact eR _|apply eD|apply eN|apply eA|apply eO|apply eS|apply eC);all_goals first|omega|simp <;> omega)⟩
      case measure => simp [intOf]; omega
    ·have em : e.rv.take m = e.rv := List.take_of_length_le (by omega)
     rw [em, ← HRj.out]
     have hV1 := HSj.out
     go_wp2
     go_roundw
     case rel => exact ⟨j + 1, by omega, by go_num, by rw [hV1], rfl, lh (by (with_reducible repeat first|exact HW.out|exact eR _|apply eD|apply eN|apply eA|apply eO|apply eS|apply eC);all_goals first|omega|simp <;> omega)⟩
     case measure => simp [intOf]; omega
  ·have ej : L.take j = L := List.take_of_length_le (by omega)
   rw [ej]
   clear HSt HRv HRm HD
   have HM1 := lh (HTm.out L s.lo HIs.out)
   have HM2 := lh (HTm.out (L.take i) s.lo (issued_take HIs.out i))
   have HLe : Hid (stateB (L.take i) s.lo (bsT s.addr) (bsT s.tags) ≤ stateB L s.lo (bsT s.addr) (bsT s.tags)) := lh (by
    have h := state_le (l := L.take i) (m := L.drop i) s.lo (bsT s.addr) (bsT s.tags)
    rwa [List.take_append_drop] at h)
   have hN1 : nnT1 = (L.length : Int) := by rw [tab_num HT16.out]; exact num_last HIs.out
   have hN2 : nnF = (i : Int) := by rw [tab_num HT26.out, num_last (issued_take HIs.out i), hti]
   subst hN1 hN2
   have HTA := lh (HT16.out.on HX.out)
   have HTB := lh (HT26.out.on HX.out)
   have HSA : Hid (∀ W, Ext wA W → Calls Tryz.prog 26 #[.agg (tabC muT1 mrT1 L.length), .agg (stmC s)] W fun e w' => e = .returned (.int .i64 (stateB L s.lo (bsT s.addr) (bsT s.tags))) ∧ Ext W w') := lh (fun W hx => by
    have h := HTs.out L s.lo s.hi _ W (HTA.out.on hx)
    rwa [HM1.out] at h)
   have HSB : Hid (∀ W, Ext wA W → Calls Tryz.prog 26 #[.agg (tabC muF mrF i), .agg (stmC s)] W fun e w' => e = .returned (.int .i64 (stateB (L.take i) s.lo (bsT s.addr) (bsT s.tags))) ∧ Ext W w') := lh (fun W hx => by
    have h := HTs.out (L.take i) s.lo s.hi _ W (HTB.out.on hx)
    rwa [HM2.out] at h)
   have HRA := lh (fun W (hx : Ext wA W) => HTr.out L _ W (HTA.out.on hx))
   have HLA : Hid (∀ W, Calls Tryz.prog 28 #[.agg (tabC muT1 mrT1 L.length)] W fun e w' => e = .returned (.int .i64 L.length) ∧ Ext W w') := lh (fun W => last_any muT1 mrT1 L.length W)
   have HLB : Hid (∀ W, Calls Tryz.prog 28 #[.agg (tabC muF mrF i)] W fun e w' => e = .returned (.int .i64 i) ∧ Ext W w') := lh (fun W => last_any muF mrF i W)
   have hle := HLe.out
   generalize stateB L s.lo (bsT s.addr) (bsT s.tags) = VL at *
   generalize stateB (L.take i) s.lo (bsT s.addr) (bsT s.tags) = VI at *
   generalize hRV : revokedB L d = RV at *
   have dle : decide (VL < VI) = false := decide_eq_false (by omega)
   have k1 : rowOf wA (B + 1) 0 41 = some (stmC s) := (HU16.out.ext HX.out).all rfl (by have := (HU16.out.ext HX.out).lt; omega)
   have k2 : rowOf wA (B + 1 + 1) 0 16 = some (dgC d) := (HU26.out.ext HX.out).all rfl (by have := (HU26.out.ext HX.out).lt; omega)
   have kt : rowOf wA T1 0 3 = some (tabC muT1 mrT1 L.length) := (HR16.out.ext HX.out).all rfl (by have := (HR16.out.ext HX.out).lt; omega)
   have kf : rowOf wA T2 0 3 = some (tabC muF mrF i) := (HR26.out.ext HX.out).all rfl (by have := (HR26.out.ext HX.out).lt; omega)
   have hl1 := (HU16.out.ext HX.out).lt
   have hl2 := (HU26.out.ext HX.out).lt
   have hlt1 := (HR16.out.ext HX.out).lt
   have hlt2 := (HR26.out.ext HX.out).lt
   go_upto_region 20 with (first
    | (go_at_call 26; (first | with_reducible refine (HSA.out _ ?_).mono ?_ | with_reducible refine (HSB.out _ ?_).mono ?_); (next => exact (by (with_reducible repeat first|exact eR _|apply eD|apply eN|apply eA|apply eO|apply eS|apply eC);all_goals first|omega|simp <;> omega)); rintro e w' ⟨rfl, hxl⟩; obtain ⟨xl, rfl⟩ := hxl.asLater; clear hxl)
    | (go_at_call 27; refine (HRA.out _ (by (with_reducible repeat first|exact eR _|apply eD|apply eN|apply eA|apply eO|apply eS|apply eC);all_goals first|omega|simp <;> omega)).mono ?_; rintro e w' ⟨rfl, hxl⟩; obtain ⟨xl, rfl⟩ := hxl.asLater; clear hxl)
    | (go_at_call 28; (first | with_reducible refine (HLA.out _).mono ?_ | with_reducible refine (HLB.out _).mono ?_); rintro e w' ⟨rfl, hxl⟩; obtain ⟨xl, rfl⟩ := hxl.asLater; clear hxl))
   refine wp_world (fun W => Ext wA W) (by (with_reducible repeat first|exact eR _|apply eD|apply eN|apply eA|apply eO|apply eS|apply eC);all_goals first|omega|simp <;> omega) ?_
   rintro W19 x19
   have HX19 := lh (HX.out.trans x19)
   have HXB19 := lh x19
   have hl19 := x19.size
   have kf : rowOf W19 T2 0 3 = some (tabC muF mrF i) := (HR26.out.ext HX19.out).all rfl (by have := (HR26.out.ext HX19.out).lt; omega)
   clear x19 k1 k2 kt
   go_upto_region 21 with (fail)
   refine wp_world (fun W => Ext W19 W ∧ RowAt W W19.heap.size (tabC muF mrF i)) ⟨(by (with_reducible repeat first|exact eR _|apply eD|apply eN|apply eA|apply eO|apply eS|apply eC);all_goals first|omega|simp <;> omega), RowAt.store (RowAt.newAt rfl) rfl⟩ ?_
   obtain ⟨T3, hT3⟩ : ∃ T3, W19.heap.size = T3 := ⟨_, rfl⟩
   rw [hT3]
   rintro W20 ⟨x20, u20⟩
   have HX20 := lh x20
   have HU20 := lh u20
   have HTI : Hid (TabAt W20 (L.take (i + 0)) (.agg (tabC muF mrF i))) := lh ((HTB.out.on HXB19.out).on x20)
   have HRd : Hid (Reads 38 epL W19 W19.heap.size (if c2 = i then A2 else A2.map (fun x => x.add (i * 38))) (L.drop i)) := lh (reads_from (HC6.out.rd.on HX19.out) hcap i)
   have hl20 := u20.lt
   obtain ⟨AR, hAR⟩ : ∃ AR, (if c2 = i then A2 else A2.map (fun x => x.add (i * 38))) = AR := ⟨_, rfl⟩
   rw [hAR] at HRd
   obtain ⟨N, hN⟩ : ∃ N, L.length - i = N := ⟨_, rfl⟩
   clear x20 u20 kf
   go_wp2
   clear hAR
   go_loopw [24, 126] (fun _ ix wr => ∃ (j : Nat) (mu mr : Option Nat) (nn : Int), ix = .int .i64 j ∧ j ≤ N ∧ Hid (RowAt wr T3 (tabC mu mr nn)) ∧ Hid (TabAt wr (L.take (i + j)) (.agg (tabC mu mr nn))) ∧ Hid (Ext W19 wr)) (fun _ ix _ => N - (intOf ix).toNat)
   case atStart => exact ⟨0, muF, mrF, i, rfl, Nat.zero_le _, HU20, HTI, HX20⟩
   case round =>
    obtain ⟨q, mu, mr, nn, rfl, hq, HR3, HT3, HXq⟩ := hrel
    generalize hwB : wr = wB at *
    clear hwB
    have hszq := HXq.out.size
    have HXq6 := lh (HX19.out.trans HXq.out)
    have hl3 := HR3.out.lt
    by_cases hqN : q < N
    ·obtain ⟨b, off, rfl, hb, kr⟩ := epr_at (HRd.out.on HXq.out) q (by rw [List.length_drop]; omega)
     rw [List.getElem_drop] at kr
     have HOk := lh (HC6.out.ok _ (List.getElem_mem (show i + q < L.length by omega)))
     have HTk := lh (List.take_succ_eq_append_getElem (l := L) (i := i + q) (by omega))
     generalize L[i + q] = e at *
     have hfe := ep_fits e
     go_upto_region 24 with (fail)
     refine wp_world (fun W => Ext wB W ∧ RowAt W wB.heap.size (epC e)) ⟨(by (with_reducible repeat first|exact eR _|apply eD|apply eN|apply eA|apply eO|apply eS|apply eC);all_goals first|omega|simp <;> omega), RowAt.store (RowAt.new _ _ _) rfl⟩ ?_
     obtain ⟨g, hg⟩ : ∃ g, wB.heap.size = g := ⟨_, rfl⟩
     rw [hg]
     rintro W5 ⟨x5, u5⟩
     have HX5 := lh x5
     have hs5 := x5.size
     have k5 : rowOf W5 g 0 38 = some (epC e) := u5.all rfl (by omega)
     have k3 : rowOf W5 T3 0 3 = some (tabC mu mr nn) := (HR3.out.ext x5).all rfl (by omega)
     have HR35 := lh (HR3.out.ext x5)
     have hft0 := tab_fits mu mr nn
     have HAd := lh (add_any (L.take (i + q)) e (tabC mu mr nn) W5 (HT3.out.on x5) (by rw [List.length_take]; omega) (HOk.out.2.2.on (HXq6.out.trans x5)) (by have := HOk.out.2.1.pu; omega) (by have := HOk.out.2.1.rv; omega) (HOk.out.1.ints _ (by simp)) (key_pu HOk.out.1 HOk.out.2.1) (fun d hd => dk_of (HOk.out.1.rv d hd)))
     clear x5 u5 kr HT3 HR3 hg
     go_wp2_with (go_at_call 29; refine (show Hid _ from ?_).out)
     refine lh ?_
     refine HAd.out.mono ?_
     rintro r w6 ⟨⟨cs', rfl, hT'⟩, hx6⟩
     obtain ⟨mu', mr', n', rfl⟩ := hT'.shape
     have hft := tab_fits mu' mr' n'
     have hr6 := HR35.out.ext hx6
     have HX6' := lh ((HXq.out.trans HX5.out).trans hx6)
     have m1 : roomOf w6 T3 0 3 = true := by rw [hr6.room]; rfl
     have HR36 := lh hr6
     have HT6 := lh hT'
     have hs6 := hx6.size
     clear hT' hx6 hr6 HAd k5 k3
     go_wp2
     go_roundw
     case rel => exact ⟨q + 1, mu', mr', n', by go_num, by omega, lh (RowAt.store HR36.out rfl), lh (by rw [show i + (q + 1) = i + q + 1 from rfl, HTk.out]; exact HT6.out.sets HR36.out _), lh (by (with_reducible repeat first|exact HX6'.out|exact eR _|apply eD|apply eN|apply eA|apply eO|apply eS|apply eC);all_goals first|omega|simp <;> omega)⟩
     case measure => simp [intOf]; omega
    ·have eq : q = N := by omega
     subst eq
     have hiq : i + q = L.length := by omega
     rw [hiq, List.take_length] at HT3
     have hN3 : nn = (L.length : Int) := by rw [tab_num HT3.out]; exact num_last HIs.out
     subst hN3
     have HTAq := lh (HTA.out.on (HXB19.out.trans HXq.out))
     have HTBq := lh (HTB.out.on (HXB19.out.trans HXq.out))
     have HSC : Hid (∀ W, Ext wB W → Calls Tryz.prog 26 #[.agg (tabC mu mr L.length), .agg (stmC s)] W fun e w' => e = .returned (.int .i64 VL) ∧ Ext W w') := lh (fun W hx => by
      have h := HTs.out L s.lo s.hi _ W (HT3.out.on hx)
      rwa [HM1.out] at h)
     have HSB2 : Hid (∀ W, Ext wB W → Calls Tryz.prog 26 #[.agg (tabC muF mrF i), .agg (stmC s)] W fun e w' => e = .returned (.int .i64 VI) ∧ Ext W w') := lh (fun W hx => HSB.out W ((HXB19.out.trans HXq.out).trans hx))
     have HRC := lh (fun W (hx : Ext wB W) => HTr.out L _ W (HT3.out.on hx))
     rw [hRV] at HRC
     have HLC : Hid (∀ W, Calls Tryz.prog 28 #[.agg (tabC mu mr L.length)] W fun e w' => e = .returned (.int .i64 L.length) ∧ Ext W w') := lh (fun W => last_any mu mr L.length W)
     have k1 : rowOf wB (B + 1) 0 41 = some (stmC s) := (HU16.out.ext HXq6.out).all rfl (by have := (HU16.out.ext HXq6.out).lt; omega)
     have k2 : rowOf wB (B + 1 + 1) 0 16 = some (dgC d) := (HU26.out.ext HXq6.out).all rfl (by have := (HU26.out.ext HXq6.out).lt; omega)
     have kl : rowOf wB T3 0 3 = some (tabC mu mr L.length) := HR3.out.all rfl (by omega)
     have kf : rowOf wB T2 0 3 = some (tabC muF mrF i) := (HR26.out.ext HXq6.out).all rfl (by have := (HR26.out.ext HXq6.out).lt; omega)
     have hl1 := (HU16.out.ext HXq6.out).lt
     have hl2 := (HU26.out.ext HXq6.out).lt
     have hlt2 := (HR26.out.ext HXq6.out).lt
     have hft := tab_fits mu mr L.length
     go_upto_region 28 with (first
      | (go_at_call 26; (first | with_reducible refine (HSC.out _ ?_).mono ?_ | with_reducible refine (HSB2.out _ ?_).mono ?_); (next => exact (by (with_reducible repeat first|exact eR _|apply eD|apply eN|apply eA|apply eO|apply eS|apply eC);all_goals first|omega|simp <;> omega)); rintro e w' ⟨rfl, hxl⟩; obtain ⟨xl, rfl⟩ := hxl.asLater; clear hxl)
      | (go_at_call 27; refine (HRC.out _ (by (with_reducible repeat first|exact eR _|apply eD|apply eN|apply eA|apply eO|apply eS|apply eC);all_goals first|omega|simp <;> omega)).mono ?_; rintro e w' ⟨rfl, hxl⟩; obtain ⟨xl, rfl⟩ := hxl.asLater; clear hxl)
      | (go_at_call 28; (first | with_reducible refine (HLC.out _).mono ?_ | with_reducible refine (HLB.out _).mono ?_); rintro e w' ⟨rfl, hxl⟩; obtain ⟨xl, rfl⟩ := hxl.asLater; clear hxl))
     refine wp_world (fun W => Ext wB W) (by (with_reducible repeat first|exact eR _|apply eD|apply eN|apply eA|apply eO|apply eS|apply eC);all_goals first|omega|simp <;> omega) ?_
     rintro W28 x28
     have HX28 := lh (HXq6.out.trans x28)
     have HTA28 := lh (HTAq.out.on x28)
     have HXw28 := lh (HX6.out.trans HX28.out)
     have hl28 := x28.size
     clear x28 k1 k2 kl kf HSC HSB2 HRC HLC HTBq HR3 HT3 HSA HSB HRA HLB HXq
     by_cases h0 : L.length = 0
     ·have d0 : decide (0 < L.length) = false := decide_eq_false (by omega)
      have d1 : ((L.length : Int) == 0) = true := by rw [h0]; rfl
      have d2 : (L.length == 0) = true := by rw [h0]; rfl
      go_wp2_with (go_at_call 12; refine (HS.out _ (by (with_reducible repeat first|exact HXw28.out|exact eR _|apply eD|apply eN|apply eA|apply eO|apply eS|apply eC);all_goals first|omega|simp <;> omega)).mono ?_; rintro e w' ⟨rfl, hxl⟩; obtain ⟨xl, rfl⟩ := hxl.asLater; clear hxl)
      go_ret
      exact ⟨rfl, (by (with_reducible repeat first|exact HXw28.out|exact eR _|apply eD|apply eN|apply eA|apply eO|apply eS|apply eC);all_goals first|omega|simp <;> omega)⟩
     ·have d0 : decide (0 < L.length) = true := decide_eq_true (by omega)
      obtain ⟨m, hm⟩ : ∃ m, L.length = m + 1 := ⟨L.length - 1, by omega⟩
      have dm : (L.length : Int) - 1 = (m : Int) := by omega
      have hmL : m < L.length := by omega
      obtain ⟨b, off, rfl, hb, kr⟩ := epr_at (HC6.out.rd.on HX28.out) m hmL
      have q18 : W28.cell? ⟨b, off + m * 38 + 18, none⟩ = some (.int .i64 L[m].hi) := (rowOf_cell kr (i := 18) (by omega)).trans (ep_g18 _)
      have hH := hi_small HIs.out _ (List.getElem_mem hmL)
      have hlh : lastHi L = L[m].hi := by
       have h := (last_some (l := L) (by omega)).2.2
       rw [h]
       congr 1
       simp [hm]
      have HZ : Hid (tableB L (L[m].hi + 1) (bsT s.addr) (bsT s.tags) = 0) := lh (by rw [HTm.out L _ HIs.out]; exact state_fresh HIs.out _ _ _ (by rw [hlh]; omega))
      generalize L[m].hi = H at *
      have u1 := HU16.out.ext HX28.out
      have hl1 := u1.lt
      have HU1s := lh u1
      have HR1s := lh (HR16.out.ext HX28.out)
      have hlt1 := HR1s.out.lt
      have hfp2 : fitsRow 2 #[.int .i64 (H + 1), .int .i64 (H + 1)] = true := by kernel_rfl
      have HSZ : Hid (∀ W, TabAt W L (.agg (tabC muT1 mrT1 L.length)) → Calls Tryz.prog 26 #[.agg (tabC muT1 mrT1 L.length), .agg (stmC { s with lo := H + 1, hi := H + 1 })] W fun e w' => e = .returned (.int .i64 0) ∧ Ext W w') := lh (fun W h => by
       have h2 := HTs.out L (H + 1) (H + 1) _ W h
       rwa [HZ.out] at h2)
      have hfs2 := stm_fits { s with lo := H + 1, hi := H + 1 }
      clear kr hlh u1 HTm HTs HTr HM1 HM2
      go_upto_region 29 with (fail)
      refine wp_region_later_tail 20 (by kernel_rfl) (by kernel_rfl) ?_
      simp only [List.take_succ_cons, List.take_zero, List.drop_succ_cons, List.drop_zero]
      repeat (first | go_big_quiet_step ((fail)) | quiet_step ((fail)))
      refine wpQuiet_nil ?_
      rintro _ ⟨xq, rfl⟩
      have m29 : roomOf (later W28 xq) (B + 1) 21 2 = true := by rw [(HU1s.out.later xq).room]; rfl
      go_upto_region 30 with (fail)
      refine wp_world (fun W => Ext w W ∧ RowAt W (B + 1) (stmC { s with lo := H + 1, hi := H + 1 }) ∧ RowAt W T1 (tabC muT1 mrT1 L.length) ∧ TabAt W L (.agg (tabC muT1 mrT1 L.length))) ⟨(by (with_reducible repeat first|exact HXw28.out|exact eR _|apply eD|apply eN|apply eA|apply eO|apply eS|apply eC);all_goals first|omega|simp <;> omega), ?_, ?_, ?_⟩ ?_
      ·have h := (HU1s.out.later xq).sets 21 (pdC (H + 1) (H + 1)).toList
       rwa [stm_per] at h
      ·exact RowAt.others (HR1s.out.later xq) hT1B _ _
      ·exact (HTA28.out.on (ext_later _ _)).setsO (HU1s.out.later xq) _ _
      rintro W30 ⟨x30, u30, ut, ht⟩
      have HX30 := lh x30
      have HT30 := lh ht
      have ks : rowOf W30 (B + 1) 0 41 = some (stmC { s with lo := H + 1, hi := H + 1 }) := u30.all rfl (by have := u30.lt; omega)
      have kt : rowOf W30 T1 0 3 = some (tabC muT1 mrT1 L.length) := ut.all rfl (by have := ut.lt; omega)
      have hl30 := u30.lt
      have hlt30 := ut.lt
      have d1 : ((L.length : Int) == 0) = false := by rw [beq_eq_false_iff_ne]; omega
      have d2 : (L.length == 0) = false := by rw [beq_eq_false_iff_ne]; omega
      clear x30 u30 ut ht HU1s HR1s HTA28 hm dm
      go_wp2_with (first
       | (go_at_call 26; refine (HSZ.out _ HT30.out).mono ?_; rintro e w' ⟨rfl, hxl⟩; obtain ⟨xl, rfl⟩ := hxl.asLater; clear hxl)
       | (go_at_call 12; refine (HS.out _ (by (with_reducible repeat first|exact HX30.out|exact eR _|apply eD|apply eN|apply eA|apply eO|apply eS|apply eC);all_goals first|omega|simp <;> omega)).mono ?_; rintro e w' ⟨rfl, hxl⟩; obtain ⟨xl, rfl⟩ := hxl.asLater; clear hxl))
      go_ret
      exact ⟨rfl, (by (with_reducible repeat first|exact HX30.out|exact eR _|apply eD|apply eN|apply eA|apply eO|apply eS|apply eC);all_goals first|omega|simp <;> omega)⟩
end
end Go.Proofs.YtpojnhikgjcgmaaGreatDoor