/- Walks of the specification's hash: the sum. -/
import Derived.Test.YtpjacgcaibaggaaGreatDoorProg
import Derived.Test.YtpjacgcaibaggaaGreatDoorExt
import Derived.WalkKit
import Derived.WalkSpells
import Derived.WalkLawsBesides
import Derived.Deep.QuietTactic
import Derived.BigQuiet
import Derived.Test.YtpjacgcaibaggaaGreatDoorRhb
set_option linter.unusedVariables false
set_option linter.unusedSimpArgs false
namespace Go.Proofs.YtpjacgcaibaggaaGreatDoor
open Go.RowKit
open Go.Proofs

def addUp (s v : Sha.S8) (i : Nat) : List Int := (s8l (Sha.addS s v)).take i ++ (s8l s).drop i
theorem addUp_length (s v : Sha.S8) (i : Nat) (h : i ≤ 8) : (addUp s v i).length = 8 := by
  simp [addUp, s8l_length]
  omega
theorem addUp_step (s v : Sha.S8) : ∀ i, i < 8 → (addUp s v i).set i (((addUp s v i).getD i 0 + (s8l v).getD i 0) % 4294967296) = addUp s v (i + 1)
  | 0, _ => rfl
  | 1, _ => rfl
  | 2, _ => rfl
  | 3, _ => rfl
  | 4, _ => rfl
  | 5, _ => rfl
  | 6, _ => rfl
  | 7, _ => rfl
  | n + 8, h => by omega
theorem addUp_all (s v : Sha.S8) : addUp s v 8 = s8l (Sha.addS s v) := rfl
theorem addUp_none (s v : Sha.S8) : addUp s v 0 = s8l s := rfl
theorem padded_byte (m : List Int) (h : ∀ x ∈ m, 0 ≤ x ∧ x < 256) : ∀ x ∈ Sha.padded m, 0 ≤ x ∧ x < 256 := by
  intro x hx
  rcases List.mem_append.1 hx with hx | hx
  · exact h x hx
  · exact pad_byte _ x hx
theorem drop_getD (l : List Int) (a n i : Nat) (h : i < n) : ((l.drop a).take n).getD i 0 = l.getD (a + i) 0 := by
  simp [List.getD_eq_getElem?_getD, List.getElem?_take, h, List.getElem?_drop]
theorem s0_lay {w : World} {b : Nat} {cs : Array Value} (h : RowAt w b cs) (hs : cs.size = 8) : RowAt (w.setCells b 0 [Value.int .u32 1779033703, Value.int .u32 3144134277, Value.int .u32 1013904242, Value.int .u32 2773480762, Value.int .u32 1359893119, Value.int .u32 2600822924, Value.int .u32 528734635, Value.int .u32 1541459225]) b (cells32 (s8l Sha.S0)) := by
  have e : [Value.int .u32 1779033703, Value.int .u32 3144134277, Value.int .u32 1013904242, Value.int .u32 2773480762, Value.int .u32 1359893119, Value.int .u32 2600822924, Value.int .u32 528734635, Value.int .u32 1541459225].toArray = cells32 (s8l Sha.S0) := by
    simp only [cells32, s8l, Sha.S0, List.map_cons, List.map_nil]
  exact h.lay (by rw [hs]; rfl) e
theorem rnd_cells (r : Sha.S8) (kt wt A D : Int) (hA : A = Sha.add (Sha.rx kt wt r) (Sha.ry r)) (hD : D = Sha.add r.d (Sha.rx kt wt r)) : [Value.int .u32 A, .int .u32 r.a, .int .u32 r.b, .int .u32 r.c, .int .u32 D, .int .u32 r.e, .int .u32 r.f, .int .u32 r.g].toArray = cells32 (s8l (Sha.rnd kt wt r)) := by
  subst hA hD
  simp only [cells32, s8l, Sha.rnd, List.map_cons, List.map_nil]
theorem Below.setCells {B : Nat} {a w : World} (h : Below B a w) {b : Nat} (hb : B ≤ b) (o : Nat) (vs : List Value) : Below B a (w.setCells b o vs) := by
  induction vs generalizing o w with
  | nil => exact h
  | cons v r ih => exact ih (Below.setCell h (p := ⟨b, o, none⟩) hb v) (o + 1)
theorem Reads.other {α : Type} {size : Nat} {enc : α → List Value} {w : World} {B b off : Nat} {l : List α} (h : Reads size enc w B (some ⟨b, off, none⟩) l) {p : Addr} (hp : p.block ≠ b) (v : Value) : Reads size enc (w.setCell p v) B (some ⟨b, off, none⟩) l := by
  intro h0
  obtain ⟨b', off', e, h2, h3⟩ := h h0
  injection e with e
  injection e with e1 e2
  subst e1 e2
  refine ⟨b, off, rfl, h2, fun i hi j u hu => ?_⟩
  rw [World.cell?_setCell_other w _ _ _ (fun e => hp (by rw [e]))]
  exact h3 i hi j u hu
def RKonst (w : World) : Prop := Konst 1 w
/-- Between two blocks of the specification's Sum. -/
def SumRel (w : World) (P : List Int) (B : Nat) (A : Option Addr) (j : Nat) (wr : World) : Prop :=
  Ext w wr ∧ RowAt wr w.heap.size (cells8 (zeros32 32)) ∧ RowAt wr (w.heap.size + 1) (cells32 (s8l (Sha.chew Sha.S0 P j))) ∧ ReadsB wr B A P ∧ B ≤ wr.heap.size

set_option maxRecDepth 100000 in
set_option maxHeartbeats 4000000 in
theorem rsum_ok (m : List Int) (A : Option Addr) (c : Nat) (w : World) (hk : RKonst w) (hr : ReadsB w w.heap.size A m) (hA : A = none → c = 0) (hlen : m.length < 140737488355000) (hm : ∀ x ∈ m, 0 ≤ x ∧ x < 256) :
    Calls Tryz.prog 137 #[.slice A m.length c] w fun e w' => e = .returned (.agg (cells8 (Sha.sha m))) ∧ Ext w w' := by
  have HK := Lib.hid hk
  have HR := Lib.hid hr
  have HA := Lib.hid hA
  have HM := Lib.hid hm
  have hPl : (Sha.padded m).length ≤ m.length + 72 := by simp [Sha.padded, Sha.pad, Sha.be8]; omega
  have hPl2 : m.length + 9 ≤ (Sha.padded m).length := by simp [Sha.padded, Sha.pad, Sha.be8]
  have hPm := Sha.padded_length m
  have HBy := Lib.hid (padded_byte m hm)
  have HS : Hid (Sha.out (Sha.chew Sha.S0 (Sha.padded m) ((Sha.padded m).length / 64)) = Sha.sha m) := Lib.hid rfl
  clear hk hr hA hm
  go_enter Tryz.func137, Tryz.ntmps137
  go_wp2_with (go_at_call 174; refine (padded_ok m A c _ ((HR.out.ext (by (repeat (first | with_reducible exact Ext.refl _ | with_reducible exact Ext.refl _ | with_reducible refine Ext.drew ?_ | with_reducible refine Ext.drewN ?_ _ | with_reducible refine Ext.alloc ?_ _ | with_reducible refine Ext.onto ?_ _ | (with_reducible refine Ext.setCells ?_ ?_ _ _; rotate_left; focus (first | omega | (simp; done) | (simp; omega))) | (with_reducible refine Ext.setCell ?_ ?_ _; rotate_left; focus (first | omega | (simp; done) | (simp; omega)))))) (Nat.le_refl _)).up (by simp [setCells_size]; omega)) HA.out hlen).mono ?_; rintro e w1 ⟨A1, c1, rfl, ho, hx⟩; have HO := Lib.hid ho; have HX := Lib.hid hx; have hsz := hx.size; clear ho hx)
  generalize Sha.padded m = P at *
  have hcap : P.length ≤ c1 := by
    rcases HO.out.cases with ⟨_, _, e⟩ | ⟨g, cur, _, _, _, e, _⟩
    · rw [e] at hPl2; simp at hPl2
    · exact e
  have hcm : c1 ≤ 9223372036854775807 := by
    rcases HO.out.cases with ⟨_, e, _⟩ | ⟨g, cur, _, _, _, _, e, _⟩
    · omega
    · unfold maxLen at e; omega
  have HRd := Lib.hid (HO.out.reads bE)
  have HA1 : Hid (∀ x, A1 = some x → w.heap.size + 2 ≤ x.block) := Lib.hid (fun x e => by have := (HO.out.lt x e).1; simp [setCells_size] at this; omega)
  have HX0 : Hid (Ext w w1) := Lib.hid (Ext.trans ((((Ext.refl w).alloc _).alloc _).setCells (by omega) _ _) HX.out)
  have H0 : Hid (RowAt w1 w.heap.size (cells8 (zeros32 32))) := Lib.hid (RowAt.ext (((RowAt.new w _ _).alloc _).others (by omega) _ _) HX.out)
  have H1 : Hid (RowAt w1 (w.heap.size + 1) (cells32 (s8l Sha.S0))) := Lib.hid ((s0_lay (RowAt.newAt (cs := cells32 (zeros32 8)) (by rw [World.size_alloc])) rfl).ext HX.out)
  clear HX HO hsz HR HM
  go_loopw [5] (fun i wr => ∃ j a : Nat, Hid (a = 64 * j) ∧ a ≤ P.length ∧ i = .int .i64 a ∧ SumRel w P w1.heap.size A1 j wr) (fun i _ => P.length - (intOf i).toNat)
  case atStart => exact ⟨0, 0, Lib.hid rfl, Nat.zero_le _, rfl, HX0.out, H0.out, H1.out, HRd.out, Nat.le_refl _⟩
  case round =>
    obtain ⟨j, a, HJ, hj, rfl, hx, h0, h1, hr, hB⟩ := hrel
    have HX := Lib.hid hx
    have HZ := Lib.hid h0
    have HC := Lib.hid h1
    have HRw := Lib.hid hr
    have hl0 := h0.lt
    have hl1 := h1.lt
    by_cases hlt : a < P.length
    · have hle : a + 64 ≤ P.length := by have := HJ.out; omega
      obtain ⟨g, off, rfl, hg, hcl⟩ := hr.cell (by omega)
      have hg2 : w.heap.size + 2 ≤ g := HA1.out ⟨g, off, none⟩ rfl
      have HCl := Lib.hid hcl
      have hrow : rowOf wr (w.heap.size + 1) 0 8 = some (cells32 (s8l (Sha.chew Sha.S0 P j))) := h1.all (by rw [cells32_size, s8l_length]) (by omega)
      have HN := Lib.hid (show Sha.chew Sha.S0 P (j + 1) = Sha.addS (Sha.chew Sha.S0 P j) (Sha.rounds (Sha.sched ((P.drop a).take 64)) (Sha.chew Sha.S0 P j) 64) by rw [Sha.chew, Sha.comp, HJ.out])
      have hok := Lib.hid (Sha.chew_ok P j)
      have HBb : Hid (∀ i, i < 64 → 0 ≤ ((P.drop a).take 64).getD i 0 ∧ ((P.drop a).take 64).getD i 0 < 256) := Lib.hid (fun i _ => getD_byte (fun x hx => HBy.out x (List.mem_of_mem_drop (List.mem_of_mem_take hx))) i)
      have HCb : Hid (∀ i, i < 64 → wr.cell? ⟨g, off + a + i, none⟩ = some (.int .u8 (((P.drop a).take 64).getD i 0))) := Lib.hid (fun i hi => by rw [drop_getD _ _ _ _ hi, Nat.add_assoc]; exact HCl.out _ (by omega))
      generalize (P.drop a).take 64 = bs at *
      generalize Sha.chew Sha.S0 P j = s at *
      have hft : fitsRow 8 (cells32 (s8l s)) = true := fits32 rfl
      have hf64 : fitsRow 64 (cells32 (Sha.sched bs)) = true := fits32 (Sha.sched_length bs)
      clear hx h0 h1 hr hcl
      have hgw : g < wr.heap.size := by omega
      clear hPm
      have HPM := Lib.hid hPl2
      clear hPl2 hPl
      go_upto_region 8 with (go_at_call 175; (with_reducible refine (words_ok bs g (off + a) _ _ (by omega) (by omega) HBb.out HCb.out).mono ?_); rintro e w' ⟨rfl, hxl⟩; obtain ⟨xl, rfl⟩ := hxl.asLater; clear hxl)
      have hbw : wr.heap.size ≤ wr.heap.size + xl.n := by omega
      refine wp_world (fun W => Ext w W ∧ RowAt W w.heap.size (cells8 (zeros32 32)) ∧ RowAt W (w.heap.size + 1) (cells32 (s8l s)) ∧ RowAt W (wr.heap.size + xl.n) (cells32 (Sha.sched bs)) ∧ RowAt W (wr.heap.size + xl.n + 1) (cells32 (s8l s)) ∧ ReadsB W w1.heap.size (some ⟨g, off, none⟩) P ∧ w1.heap.size ≤ W.heap.size)
        ⟨(by (repeat (first | with_reducible exact HX.out | with_reducible exact Ext.refl _ | with_reducible refine Ext.drew ?_ | with_reducible refine Ext.drewN ?_ _ | with_reducible refine Ext.alloc ?_ _ | with_reducible refine Ext.onto ?_ _ | (with_reducible refine Ext.setCells ?_ ?_ _ _; rotate_left; focus (first | omega | (simp; done) | (simp; omega))) | (with_reducible refine Ext.setCell ?_ ?_ _; rotate_left; focus (first | omega | (simp; done) | (simp; omega)))))), ((((HZ.out.later _).alloc _).others (by omega) _ _).alloc _).others (by omega) _ _, ((((HC.out.later _).alloc _).others (by omega) _ _).alloc _).others (by omega) _ _,
          (((RowAt.newAt (cs := cells32 (zeros32 64)) (by rw [later_size])).store (by rw [cells32_size, cells32_size, Sha.sched_length, zeros32_length])).alloc _).others (by omega) _ _,
          (RowAt.newAt (cs := cells32 (zeros32 8)) (by rw [setCells_size, World.size_alloc, later_size])).store (by rw [cells32_size, cells32_size, s8l_length, zeros32_length]),
          HRw.out.ext (by (repeat (first | with_reducible exact Ext.refl _ | with_reducible exact Ext.refl _ | with_reducible refine Ext.drew ?_ | with_reducible refine Ext.drewN ?_ _ | with_reducible refine Ext.alloc ?_ _ | with_reducible refine Ext.onto ?_ _ | (with_reducible refine Ext.setCells ?_ ?_ _ _; rotate_left; focus (first | omega | (simp; done) | (simp; omega))) | (with_reducible refine Ext.setCell ?_ ?_ _; rotate_left; focus (first | omega | (simp; done) | (simp; omega)))))) hB, by rw [setCells_size, World.size_alloc, setCells_size, World.size_alloc, later_size]; omega⟩ ?_
      rintro W ⟨hx, h0, h1, h2, h3, hr, hW⟩
      generalize wr.heap.size + xl.n = bw at *
      have HXa := Lib.hid hx
      have HZa := Lib.hid h0
      have HCa := Lib.hid h1
      have HWa := Lib.hid h2
      have HVa := Lib.hid h3
      have HRa := Lib.hid hr
      clear hx h0 h1 h2 h3 hr HX HZ HC HRw HCl HBb HCb hrow hft hf64
      go_wp2
      go_loopw [8] (fun i wq => ∃ t : Nat, t ≤ 64 ∧ i = .int .i64 t ∧ Ext w wq ∧ RowAt wq w.heap.size (cells8 (zeros32 32)) ∧ RowAt wq (w.heap.size + 1) (cells32 (s8l s)) ∧ RowAt wq bw (cells32 (Sha.sched bs)) ∧ RowAt wq (bw + 1) (cells32 (s8l (Sha.rounds (Sha.sched bs) s t))) ∧ ReadsB wq w1.heap.size (some ⟨g, off, none⟩) P ∧ w1.heap.size ≤ wq.heap.size) (fun i _ => 64 - (intOf i).toNat)
      case atStart => exact ⟨0, by omega, rfl, HXa.out, HZa.out, HCa.out, HWa.out, HVa.out, HRa.out, hW⟩
      case round =>
        obtain ⟨t, ht, rfl, hx, h0, h1, h2, h3, hr, hWr⟩ := hrel
        have HX := Lib.hid hx
        have HZ := Lib.hid h0
        have HC := Lib.hid h1
        have HWd := Lib.hid h2
        have HV := Lib.hid h3
        have HRw := Lib.hid hr
        clear hx h0 h1 h2 h3 hr
        by_cases h64 : t < 64
        · go_upto_region 11 with (fail)
          have hx := HX.out
          have h2 := HWd.out
          have h3 := HV.out
          have hR := Lib.hid (show Sha.rounds (Sha.sched bs) s (t + 1) = Sha.rnd (Sha.K.getD t 0) ((Sha.sched bs).getD t 0) (Sha.rounds (Sha.sched bs) s t) by rw [Sha.rounds])
          have hcw : wr.cell? ⟨bw, t, none⟩ = some (.int .u32 ((Sha.sched bs).getD t 0)) := by rw [h2.cell, cells32_get, Sha.sched_length, if_pos h64]
          have hck : wr.cell? ⟨1, t, none⟩ = some (.int .u32 (Sha.K.getD t 0)) := by
            have hkk : RowAt wr 1 (cells32 Sha.K) := RowAt.ext HK.out hx
            rw [hkk.cell, cells32_get, K_length, if_pos h64]
          have hgl : 1 < wr.heap.size := (RowAt.ext HK.out hx : RowAt wr 1 (cells32 Sha.K)).lt
          generalize Sha.rounds (Sha.sched bs) s t = r at *
          generalize (Sha.sched bs).getD t 0 = wt at *
          generalize Sha.K.getD t 0 = kt at *
          have v0 : wr.cell? ⟨bw + 1, 0, none⟩ = some (.int .u32 r.a) := h3.cell 0
          have v1 : wr.cell? ⟨bw + 1, 1, none⟩ = some (.int .u32 r.b) := h3.cell 1
          have v2 : wr.cell? ⟨bw + 1, 2, none⟩ = some (.int .u32 r.c) := h3.cell 2
          have v3 : wr.cell? ⟨bw + 1, 3, none⟩ = some (.int .u32 r.d) := h3.cell 3
          have v4 : wr.cell? ⟨bw + 1, 4, none⟩ = some (.int .u32 r.e) := h3.cell 4
          have v5 : wr.cell? ⟨bw + 1, 5, none⟩ = some (.int .u32 r.f) := h3.cell 5
          have v6 : wr.cell? ⟨bw + 1, 6, none⟩ = some (.int .u32 r.g) := h3.cell 6
          have v7 : wr.cell? ⟨bw + 1, 7, none⟩ = some (.int .u32 r.h) := h3.cell 7
          have mv : roomOf wr (bw + 1) 0 8 = true := by rw [h3.room]; rfl
          have lv := h3.lt
          have lw := h2.lt
          clear hx h2 h3
          refine wp_region_later (by kernel_rfl) (by kernel_rfl) ?_
          repeat (first | go_big_quiet_step ((go_at_call 176; exact quietE (rotr_any _ _ (by omega) _))) | quiet_step ((go_at_call 176; exact quietE (rotr_any _ _ (by omega) _))))
          refine wpQuiet_nil ?_
          rintro _ ⟨xq, rfl⟩
          go_wp2
          refine wp_region_later (by kernel_rfl) (by kernel_rfl) ?_
          repeat (first | go_big_quiet_step ((go_at_call 176; exact quietE (rotr_any _ _ (by omega) _))) | quiet_step ((go_at_call 176; exact quietE (rotr_any _ _ (by omega) _))))
          refine wpQuiet_nil ?_
          rintro _ ⟨xq, rfl⟩
          go_wp2
          go_roundw
          case rel =>
            refine ⟨t + 1, by omega, by go_num, (by (repeat (first | with_reducible exact HX.out | with_reducible exact Ext.refl _ | with_reducible refine Ext.drew ?_ | with_reducible refine Ext.drewN ?_ _ | with_reducible refine Ext.alloc ?_ _ | with_reducible refine Ext.onto ?_ _ | (with_reducible refine Ext.setCells ?_ ?_ _ _; rotate_left; focus (first | omega | (simp; done) | (simp; omega))) | (with_reducible refine Ext.setCell ?_ ?_ _; rotate_left; focus (first | omega | (simp; done) | (simp; omega)))))), (HZ.out.later _).others (by omega) _ _, (HC.out.later _).others (by omega) _ _, (HWd.out.later _).others (by omega) _ _, ?_, HRw.out.below (Below.setCells (((Ext.refl wr).onto _).below.mono hWr) (by omega) _ _), by rw [setCells_size, later_size]; omega⟩
            rw [hR.out]
            refine RowAt.lay (cs := cells32 (s8l r)) (HV.out.later _) rfl (rnd_cells r kt wt _ _ ?_ ?_)
            · simp only [Sha.add, Sha.rx, Sha.ry, Sha.ch, Sha.maj, Sha.mix, Sha.xor, Sha.and]
              omega
            · simp only [Sha.add, Sha.rx, Sha.ry, Sha.ch, Sha.maj, Sha.mix, Sha.xor, Sha.and]
              omega
          case measure => simp [intOf]; omega
        · have e64 : t = 64 := by omega
          subst e64
          generalize Sha.rounds (Sha.sched bs) s 64 = q at *
          go_wp2
          go_loopw [11] (fun i wq => ∃ k : Nat, k ≤ 8 ∧ i = .int .i64 k ∧ Ext w wq ∧ RowAt wq w.heap.size (cells8 (zeros32 32)) ∧ RowAt wq (w.heap.size + 1) (cells32 (addUp s q k)) ∧ RowAt wq (bw + 1) (cells32 (s8l q)) ∧ ReadsB wq w1.heap.size (some ⟨g, off, none⟩) P ∧ w1.heap.size ≤ wq.heap.size) (fun i _ => 8 - (intOf i).toNat)
          case atStart => exact ⟨0, by omega, rfl, HX.out, HZ.out, HC.out, HV.out, HRw.out, hWr⟩
          case round =>
            obtain ⟨k, hk, rfl, hx, h0, h1, h3, hr, hWq⟩ := hrel
            have HX' := Lib.hid hx
            have HZ' := Lib.hid h0
            have HC' := Lib.hid h1
            have HV' := Lib.hid h3
            have HR' := Lib.hid hr
            by_cases hk8 : k < 8
            · have c1 : wr.cell? ⟨w.heap.size + 1, k, none⟩ = some (.int .u32 ((addUp s q k).getD k 0)) := by rw [h1.cell, cells32_get, addUp_length _ _ _ hk, if_pos hk8]
              have c2 : wr.cell? ⟨bw + 1, k, none⟩ = some (.int .u32 ((s8l q).getD k 0)) := by rw [h3.cell, cells32_get, s8l_length, if_pos hk8]
              have f1 : ∀ i, wr.frozen? ⟨w.heap.size + 1, i, none⟩ = false := h1.free
              have l1 := h1.lt
              have l3 := h3.lt
              have HU := Lib.hid (addUp_step s q k hk8)
              generalize (addUp s q k).getD k 0 = a1 at *
              generalize (s8l q).getD k 0 = a2 at *
              clear hx h0 h1 h3 hr
              go_wp2
              refine wp_region_later_tail 9 (by kernel_rfl) (by kernel_rfl) ?_
              simp only [List.take_succ_cons, List.take_zero, List.drop_succ_cons, List.drop_zero]
              repeat (first | go_big_quiet_step (fail) | quiet_step (fail))
              refine wpQuiet_nil ?_
              rintro _ ⟨xq, rfl⟩
              go_wp2
              go_roundw
              case rel => exact ⟨k + 1, by omega, by go_num, (by (repeat (first | with_reducible exact HX'.out | with_reducible exact Ext.refl _ | with_reducible refine Ext.drew ?_ | with_reducible refine Ext.drewN ?_ _ | with_reducible refine Ext.alloc ?_ _ | with_reducible refine Ext.onto ?_ _ | (with_reducible refine Ext.setCells ?_ ?_ _ _; rotate_left; focus (first | omega | (simp; done) | (simp; omega))) | (with_reducible refine Ext.setCell ?_ ?_ _; rotate_left; focus (first | omega | (simp; done) | (simp; omega)))))), (HZ'.out.later _).other (by show w.heap.size ≠ w.heap.size + 1; omega) _, (HC'.out.later _).set32 HU.out, (HV'.out.later _).other (by show bw + 1 ≠ w.heap.size + 1; omega) _, (HR'.out.ext ((Ext.refl wr).onto _) hWq).other (by show w.heap.size + 1 ≠ g; omega) _, by simp [World.setCell, later_size]; omega⟩
              case measure => simp [intOf]; omega
            · have e8 : k = 8 := by omega
              subst e8
              rw [addUp_all, ← HN.out] at HC'
              clear hx h0 h1 h3 hr
              go_wp2
              go_roundw
              case rel => exact ⟨j + 1, a + 64, Lib.hid (by have := HJ.out; omega), by omega, by go_num, HX'.out, HZ'.out, HC'.out, HR'.out, hWq⟩
              case measure => simp [intOf]; omega
    · have e : j = P.length / 64 := by have := HJ.out; omega
      have HS2 : Hid (Sha.out (Sha.chew Sha.S0 P j) = Sha.sha m) := Lib.hid (by rw [e]; exact HS.out)
      generalize Sha.chew Sha.S0 P j = s at *
      clear hx h0 h1 hr e
      go_upto_region 19 with (fail)
      refine wp_world (fun W => Ext w W ∧ RowAt W w.heap.size (cells8 (zeros32 32)) ∧ RowAt W (w.heap.size + 1) (cells32 (s8l s)) ∧ RowAt W wr.heap.size (cells8 (outAt s 0))) ⟨HX.out.alloc _, HZ.out.alloc _, HC.out.alloc _, RowAt.new _ _ _⟩ ?_
      rintro W ⟨hx, h0, h1, h3⟩
      have HXa := Lib.hid hx
      have HZa := Lib.hid h0
      have HCa := Lib.hid h1
      have HOa := Lib.hid h3
      clear hx h0 h1 h3 HX HZ HC HRw
      generalize wr.heap.size = bo at *
      go_wp2
      go_loopw [13] (fun i wq => ∃ k : Nat, k ≤ 32 ∧ i = .int .i64 k ∧ Ext w wq ∧ RowAt wq w.heap.size (cells8 (zeros32 32)) ∧ RowAt wq (w.heap.size + 1) (cells32 (s8l s)) ∧ RowAt wq bo (cells8 (outAt s k))) (fun i _ => 32 - (intOf i).toNat)
      case atStart => exact ⟨0, by omega, rfl, HXa.out, HZa.out, HCa.out, HOa.out⟩
      case round =>
        obtain ⟨i, hi, rfl, hx, h0, h1, h3⟩ := hrel
        have HX' := Lib.hid hx
        have HZ' := Lib.hid h0
        have HC' := Lib.hid h1
        have HO' := Lib.hid h3
        by_cases hi32 : i < 32
        · have hcw : wr.cell? ⟨w.heap.size + 1, i / 4, none⟩ = some (.int .u32 ((s8l s).getD (i / 4) 0)) := by rw [h1.cell, cells32_get, s8l_length, if_pos (by omega)]
          have hg := Sha.out_get s (s8l s) rfl i hi32
          have HG := Lib.hid (outAt_set s hi32)
          rw [hg] at HG
          generalize (s8l s).getD (i / 4) 0 = x at hcw HG
          clear hg
          have hcx : wr.cell? ⟨bo, i, none⟩ = some (.int .u8 ((outAt s i).getD i 0)) := by rw [h3.cell, cells8_get, outAt_length s hi, if_pos hi32]
          have hfx := h3.free
          have hl1' := h1.lt
          have hl3' := h3.lt
          clear hx h0 h1 h3
          go_wp2
          go_roundw
          case rel => exact ⟨i + 1, by omega, by go_num, HX'.out.setCell (by show w.heap.size ≤ bo; omega) _, HZ'.out.other (by show w.heap.size ≠ bo; omega) _, HC'.out.other (by show w.heap.size + 1 ≠ bo; omega) _, HO'.out.set8 HG.out⟩
          case measure => simp [intOf]; omega
        · have e32 : i = 32 := by omega
          subst e32
          rw [outAt_all, HS2.out] at h3
          have hsl := Sha.sha_length m
          have r32 : rowOf wr bo 0 32 = some (cells8 (Sha.sha m)) := h3.all (by rw [cells8_size, hsl]) (by omega)
          have m32 : roomOf wr w.heap.size 0 32 = true := by rw [h0.room]; rfl
          have hf32 : fitsRow 32 (cells8 (Sha.sha m)) = true := fits8 hsl
          have rr := Lib.hid (h0.stored (n := 32) (ds := cells8 (Sha.sha m)) (by rw [cells8_size, cells8_size, hsl, zeros32_length]) (by rw [cells8_size, hsl]) (by omega))
          have hl2' := h0.lt
          clear hx h0 h1 h3
          go_wp2
          refine post_row b32_ty Tryz.results137 rfl rfl rr.out ⟨rfl, HX'.out.setCells (Nat.le_refl _) _ _⟩
end Go.Proofs.YtpjacgcaibaggaaGreatDoor
