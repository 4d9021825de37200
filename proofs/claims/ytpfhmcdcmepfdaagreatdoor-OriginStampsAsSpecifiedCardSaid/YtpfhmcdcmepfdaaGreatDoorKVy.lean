/- True of the program: what has been true in the meantime. -/
import Derived.Test.YtpfhmcdcmepfdaaGreatDoorProg
import Derived.Test.YtpfhmcdcmepfdaaGreatDoorKSpv
import Derived.WalkKit
import Derived.WalkSpells
import Derived.WalkLawsBesides
import Derived.Deep.QuietTactic
import Derived.BigQuiet
import Derived.Test.YtpfhmcdcmepfdaaGreatDoorKXa
set_option linter.unusedVariables false
set_option linter.unusedSimpArgs false
namespace Go.Proofs.YtpfhmcdcmepfdaaGreatDoor
open Go.RowKit Go.Shelf
open Go.Proofs

theorem any_snoc {α : Type} (p : α → Bool) (l : List α) (k : Nat) (h : k < l.length) (h0 : (l.take k).any p = false) (h1 : p l[k] = false) : (l.take (k + 1)).any p = false := by
  rw [List.take_succ_eq_append_getElem h, List.any_append, h0]
  simp [h1]
theorem any_hit {α : Type} (p : α → Bool) (l : List α) (k : Nat) (h : k < l.length) (h1 : p l[k] = true) : l.any p = true := List.any_eq_true.2 ⟨l[k], List.getElem_mem h, h1⟩
set_option maxRecDepth 100000 in
set_option maxHeartbeats 1000000 in
theorem vfind_any (A : Option Addr) (c : Nat) (l : List Ver) (s : St) (B : Nat) (w : World) (hl : l.length ≤ 100000) (hr : ReadsVer w w.heap.size A l) (hv : ∀ v ∈ l, VerIn v) (hs : RowAt w B (stmC s)) (h16 : s.body.length = 16) (hby : Byt s.body) (hk : Konst 1 w) :
    Calls Tryz.prog 141 #[.slice A l.length c, .func (.func 106) #[] #[.pointer (some ⟨B, 0, none⟩)]] w fun e w' => ∃ i : Int, e = .returned (.int .i64 i) ∧ (l.any (saysB s) = true → 0 ≤ i) ∧ (l.any (saysB s) = false → i = -1) ∧ Ext w w' := by
  have HR := Lib.hid hr
  have HT := Lib.hid (fun (v : Ver) (hv : VerIn v) (W : World) (hx : Ext w W) => true1_any v s B W hv (hs.ext hx) h16 hby (RowAt.ext hk hx))
  have HVs := Lib.hid hv
  clear hr hs h16 hby hk hv
  go_enter Tryz.func141, Tryz.ntmps141
  go_wp2
  go_loopw [8] (fun i wr => ∃ k : Nat, k ≤ l.length ∧ i = .int .i64 k ∧ Ext w wr ∧ Hid ((l.take k).any (saysB s) = false)) (fun i _ => l.length - (intOf i).toNat)
  case atStart => exact ⟨0, Nat.zero_le _, rfl, Ext.refl _, Lib.hid rfl⟩
  case round =>
    obtain ⟨k, hk, rfl, hx, HJ⟩ := hrel
    have HX := Lib.hid hx
    by_cases hlt : k < l.length
    · obtain ⟨b, off, rfl, hb, hrow, _⟩ := ReadsVer.cell (HR.out.ext hx (Nat.le_refl _)) k hlt
      have hsz := hx.size
      have HP := Lib.hid (fun (W : World) (hx2 : Ext wr W) => HT.out l[k] (HVs.out _ (List.getElem_mem hlt)) W (hx.trans hx2))
      have HN := Lib.hid (any_snoc (saysB s) l k hlt HJ.out)
      have HH := Lib.hid (any_hit (saysB s) l k hlt)
      generalize l[k] = v at *
      cases hd : saysB s v with
      | true =>
        have HI := Lib.hid (HH.out hd)
        rw [hd] at HP
        clear hx hd HN HH
        go_wp2_with (go_at_call 106; refine (HP.out _ (Ext.refl _)).mono ?_; rintro e w' ⟨rfl, hxl⟩; obtain ⟨xl, rfl⟩ := hxl.asLater; clear hxl)
        go_ret
        exact ⟨k, rfl, fun _ => by omega, fun h => (by rw [HI.out] at h; cases h), (by (repeat (first | with_reducible exact HX.out | with_reducible exact Ext.refl _ | with_reducible refine Ext.drew ?_ | with_reducible refine Ext.drewN ?_ _ | with_reducible refine Ext.alloc ?_ _ | with_reducible refine Ext.onto ?_ _ | (with_reducible refine Ext.setCells ?_ ?_ _ _; rotate_left; focus (first | omega | (simp; done) | (simp; omega))) | (with_reducible refine Ext.setCell ?_ ?_ _; rotate_left; focus (first | omega | (simp; done) | (simp; omega))))))⟩
      | false =>
        have HI := Lib.hid (HN.out hd)
        rw [hd] at HP
        clear hx hd HN HH
        go_wp2_with (go_at_call 106; refine (HP.out _ (Ext.refl _)).mono ?_; rintro e w' ⟨rfl, hxl⟩; obtain ⟨xl, rfl⟩ := hxl.asLater; clear hxl)
        go_roundw
        case rel => exact ⟨k + 1, by omega, by go_num, (by (repeat (first | with_reducible exact HX.out | with_reducible exact Ext.refl _ | with_reducible refine Ext.drew ?_ | with_reducible refine Ext.drewN ?_ _ | with_reducible refine Ext.alloc ?_ _ | with_reducible refine Ext.onto ?_ _ | (with_reducible refine Ext.setCells ?_ ?_ _ _; rotate_left; focus (first | omega | (simp; done) | (simp; omega))) | (with_reducible refine Ext.setCell ?_ ?_ _; rotate_left; focus (first | omega | (simp; done) | (simp; omega)))))), HI⟩
        case measure => simp [intOf]; omega
    · have HI : Hid (l.any (saysB s) = false) := Lib.hid (by have h := HJ.out; rwa [List.take_of_length_le (by omega)] at h)
      clear hx
      go_wp2
      go_ret
      exact ⟨-1, rfl, fun h => (by rw [HI.out] at h; cases h), fun _ => rfl, HX.out⟩
theorem vcont_any (A : Option Addr) (c : Nat) (l : List Ver) (s : St) (B : Nat) (w : World) (hl : l.length ≤ 100000) (hr : ReadsVer w w.heap.size A l) (hv : ∀ v ∈ l, VerIn v) (hs : RowAt w B (stmC s)) (h16 : s.body.length = 16) (hby : Byt s.body) (hk : Konst 1 w) :
    Calls Tryz.prog 105 #[.slice A l.length c, .func (.func 106) #[] #[.pointer (some ⟨B, 0, none⟩)]] w fun e w' => e = .returned (.bool (l.any (saysB s))) ∧ Ext w w' := by
  have H := Lib.hid (vfind_any A c l s B w hl hr hv hs h16 hby hk)
  clear hr hv hs h16 hby hk
  cases hb : l.any (saysB s) with
  | true =>
    rw [hb] at H
    go_enter Tryz.func105, Tryz.ntmps105
    go_wp2_with (go_at_call 141; refine H.out.mono ?_; rintro e w' ⟨i, rfl, h1, _, hx⟩; have h2 := h1 rfl; obtain ⟨xl, rfl⟩ := hx.asLater; clear hx h1)
    go_ret
    exact ⟨ret_bool (by first | simp; done | (simp; omega)), (by (repeat (first | with_reducible exact Ext.refl _ | with_reducible exact Ext.refl _ | with_reducible refine Ext.drew ?_ | with_reducible refine Ext.drewN ?_ _ | with_reducible refine Ext.alloc ?_ _ | with_reducible refine Ext.onto ?_ _ | (with_reducible refine Ext.setCells ?_ ?_ _ _; rotate_left; focus (first | omega | (simp; done) | (simp; omega))) | (with_reducible refine Ext.setCell ?_ ?_ _; rotate_left; focus (first | omega | (simp; done) | (simp; omega))))))⟩
  | false =>
    rw [hb] at H
    go_enter Tryz.func105, Tryz.ntmps105
    go_wp2_with (go_at_call 141; refine H.out.mono ?_; rintro e w' ⟨i, rfl, _, h1, hx⟩; have h2 := h1 rfl; subst h2; obtain ⟨xl, rfl⟩ := hx.asLater; clear hx h1)
    go_ret
    exact ⟨rfl, (by (repeat (first | with_reducible exact Ext.refl _ | with_reducible exact Ext.refl _ | with_reducible refine Ext.drew ?_ | with_reducible refine Ext.drewN ?_ _ | with_reducible refine Ext.alloc ?_ _ | with_reducible refine Ext.onto ?_ _ | (with_reducible refine Ext.setCells ?_ ?_ _ _; rotate_left; focus (first | omega | (simp; done) | (simp; omega))) | (with_reducible refine Ext.setCell ?_ ?_ _; rotate_left; focus (first | omega | (simp; done) | (simp; omega))))))⟩
/-! ### plain: what has been true in the meantime -/
theorem mean_any {l : List Ver} {s : St} (h : ValidV listedB l) (hle : s.lo ≤ s.hi) : (meanN l s.lo s.hi).any (saysB s) = trueB l s := by
  have hp := placeN_le l s.lo
  have hq := placeN_le l s.hi
  have hm := placeN_mono (l := l) hle
  unfold meanN trueB
  rw [List.any_cons]
  congr 1
  rw [Bool.eq_iff_iff, List.any_eq_true, List.any_eq_true]
  constructor
  · rintro ⟨v, hv, hs⟩
    obtain ⟨i, hi, rfl⟩ := List.getElem_of_mem hv
    have hi2 := hi
    rw [List.length_take, List.length_drop] at hi2
    have hi3 : placeN l s.lo + i < l.length := by omega
    have e : ((l.drop (placeN l s.lo)).take (placeN l s.hi - placeN l s.lo))[i] = l[placeN l s.lo + i]'hi3 := by
      rw [List.getElem_take, List.getElem_drop]
    rw [e] at hs
    have hb := (between h.1 hle (placeN l s.lo + i) hi3).1 ⟨by omega, by omega⟩
    exact ⟨_, List.getElem_mem hi3, by rw [hs]; simp [hb.1, hb.2]⟩
  · rintro ⟨v, hv, hs⟩
    obtain ⟨k, hk, rfl⟩ := List.getElem_of_mem hv
    simp only [Bool.and_eq_true, decide_eq_true_eq] at hs
    obtain ⟨⟨h1, h2⟩, h3⟩ := hs
    obtain ⟨b1, b2⟩ := (between h.1 hle k hk).2 ⟨h1, h2⟩
    refine ⟨l[k], ?_, h3⟩
    have e : ((l.drop (placeN l s.lo)).take (placeN l s.hi - placeN l s.lo))[k - placeN l s.lo]'(by rw [List.length_take, List.length_drop]; omega) = l[k] := by
      rw [List.getElem_take, List.getElem_drop]
      simp [show placeN l s.lo + (k - placeN l s.lo) = k by omega]
    rw [← e]
    exact List.getElem_mem _
/-- True of a wider period, too. -/
theorem true_wide {l : List Ver} {s t : St} (h : ValidV listedB l) (h1 : t.lo ≤ s.lo) (h2 : s.lo ≤ s.hi) (h3 : s.hi ≤ t.hi) (hs : ∀ v, saysB t v = saysB s v) (hT : trueB l s = true) : trueB l t = true := by
  unfold trueB at hT ⊢
  rw [Bool.or_eq_true] at hT ⊢
  have hS : saysB t = saysB s := funext hs
  rw [hS]
  have key : ∀ k (hk : k < l.length), saysB s l[k] = true → l[k].fr ≤ t.hi → t.lo < l[k].fr → (l.any fun v => decide (t.lo < v.fr) && decide (v.fr ≤ t.hi) && saysB s v) = true := fun k hk a b c => List.any_eq_true.2 ⟨l[k], List.getElem_mem hk, by simp [a, b, c]⟩
  rcases hT with hT | hT
  · by_cases hz : placeN l s.lo = 0
    · have e : placeN l t.lo = 0 := by have := placeN_mono (l := l) h1; omega
      left
      unfold atN at hT ⊢
      rw [if_pos e]
      rwa [if_pos hz] at hT
    · obtain ⟨hl, e⟩ := atN_pos (l := l) (t := s.lo) (by omega)
      rw [e] at hT
      have hfr := placeN_before l s.lo (placeN l s.lo - 1) hl (by omega)
      by_cases hc : t.lo < (l[placeN l s.lo - 1]'hl).fr
      · exact .inr (key _ hl hT (by omega) hc)
      · left
        have hp : placeN l t.lo = placeN l s.lo := by
          refine placeN_is (placeN_le _ _) (fun i hi hik => ?_) (fun hh => ?_)
          · by_cases ei : i = placeN l s.lo - 1
            · subst ei; omega
            · have := h.1.lt i (placeN l s.lo - 1) hi hl (by omega) hl
              omega
          · have := placeN_at l s.lo hh
            omega
        have e2 : atN l t.lo = atN l s.lo := by unfold atN; rw [hp]
        rw [e2, e]
        exact hT
  · obtain ⟨v, hv, hq⟩ := List.any_eq_true.1 hT
    obtain ⟨k, hk, rfl⟩ := List.getElem_of_mem hv
    simp only [Bool.and_eq_true, decide_eq_true_eq] at hq
    exact .inr (key k hk hq.2 (by omega) (by omega))
end Go.Proofs.YtpfhmcdcmepfdaaGreatDoor


set_option linter.unusedVariables false
set_option linter.unusedSimpArgs false
namespace Go.Proofs.YtpfhmcdcmepfdaaGreatDoor
open Go.RowKit Go.Shelf
open Go.Proofs

theorem verT : ElemTy Tryz.prog 102 107 4 48 := ⟨by kernel_rfl, by kernel_rfl, by omega⟩
def ownVer (ls : List Ver) (base : Nat) : Soft := ⟨fun v w => ∃ A c, v = .slice A ls.length c ∧ Owns 107 4 verL base w A c ls, fun v w w' ⟨A, c, h1, h2⟩ hx => ⟨A, c, h1, h2.ext hx⟩⟩
def readVer (ls : List Ver) : Soft := ⟨fun v w => ∃ A c, v = .slice A ls.length c ∧ ReadsVer w w.heap.size A ls ∧ (A = none → c = 0), fun v w w' ⟨A, c, h1, h2, h3⟩ hx => ⟨A, c, h1, h2.on hx, h3⟩⟩
def oneVer (x : Value) : Sem Next := do pure (.value (← Instr.buildSlice 102 1 #[(0, x)]))
theorem oneVer_x (ρ : Operand → Value) (dst : Option Tmp) (x : Operand) (t : TypeId) (pos : String) (after : Array Edge) (guard : Option (Nat × Bool)) : execOp ρ { dst, op := .buildSlice 102 1 #[(0, x)], type := t, pos, after, guard } = oneVer (ρ x) := by kernel_rfl
theorem oneVer_run (v : Ver) (W : World) : (oneVer (.agg (verC v))).run Tryz.prog W = .ok (.value (.slice (some ⟨W.heap.size, 0, none⟩) 1 1)) (W.alloc (.cells (verC v) 107)) := by kernel_rfl
attribute [local go_sem ↓] oneVer_x
attribute [local go_sem] oneVer_run
theorem owns_one (v : Ver) (W : World) (base : Nat) (h : base ≤ W.heap.size) : Owns 107 4 verL base (W.alloc (.cells (verC v) 107)) (some ⟨W.heap.size, 0, none⟩) 1 [v] :=
  Owns.mk verE h (heap_alloc_new W _) (Nat.le_refl _) (by unfold maxLen; show 1 ≤ _; omega) rfl rfl
def midV (l : List Ver) (p q : Nat) : List Ver := (l.drop p).take (q - p)
theorem mid_len {l : List Ver} {p q : Nat} (h : p ≤ q) (hq : q ≤ l.length) : (midV l p q).length = q - p := by
  unfold midV
  rw [List.length_take, List.length_drop]
  omega
theorem mid_reads {l : List Ver} {p q : Nat} {b off : Nat} {w : World} {B : Nat} (hr : ReadsVer w B (some ⟨b, off, none⟩) l) (h : p ≤ q) (hq : q ≤ l.length) : ReadsVer w B (some ⟨b, off + p * 4, none⟩) (midV l p q) := by
  intro h0
  rw [mid_len h hq] at h0
  obtain ⟨b', off', e, h2, h3⟩ := hr (by omega)
  injection e with e
  injection e with e1 e2
  subst e1 e2
  refine ⟨b, off + p * 4, rfl, h2, fun i hi j v hv => ?_⟩
  have hi2 := hi
  rw [mid_len h hq] at hi2
  have e : (midV l p q)[i] = l[p + i]'(by omega) := by
    simp only [midV]
    rw [List.getElem_take, List.getElem_drop]
  rw [e] at hv
  have := h3 (p + i) (by omega) j v hv
  rwa [Nat.add_mul, ← Nat.add_assoc] at this
set_option maxRecDepth 100000 in
set_option maxHeartbeats 4000000 in
theorem otrue_any (A : Option Addr) (c : Nat) (l : List Ver) (s : St) (w : World) (hl : l.length ≤ 50000) (hcap : l.length ≤ c) (hc63 : c ≤ 9223372036854775807) (hz : A = none → c = 0) (hr : ReadsVer w w.heap.size A l) (hpa : ∀ a, A = some a → a.spot = none) (hv : ∀ v ∈ l, VerIn v) (hle : s.lo ≤ s.hi) (h16 : s.body.length = 16) (hby : Byt s.body) (hk : Konst 1 w) :
    Calls Tryz.prog 46 #[.slice A l.length c, .agg (stmC s)] w fun e w' => e = .returned (.bool ((meanN l s.lo s.hi).any (saysB s))) ∧ Ext w w' := by
  have HR := Lib.hid hr
  have HZ := Lib.hid hz
  have HPA := Lib.hid hpa
  have HA := Lib.hid (fun (W : World) (hx : Ext w W) => oat_any A c l s.lo W (by omega) (hr.on hx))
  have HP := Lib.hid (fun (t : Int) (W : World) (hx : Ext w W) => oplace_any A c l t W (by omega) (hr.on hx))
  have hpq := placeN_mono (l := l) hle
  have hq := placeN_le l s.hi
  have HM : Hid (meanN l s.lo s.hi = [atN l s.lo] ++ midV l (placeN l s.lo) (placeN l s.hi)) := Lib.hid rfl
  have HVm : Hid (∀ v ∈ meanN l s.lo s.hi, VerIn v) := Lib.hid (fun v hv0 => by
    rw [HM.out, List.singleton_append, List.mem_cons] at hv0
    rcases hv0 with rfl | hv0
    · rcases atN_or l s.lo with e | ⟨k, hk, e⟩
      · rw [e]; show (0 : Nat) ≤ _; omega
      · rw [e]; exact hv _ (List.getElem_mem hk)
    · exact hv v (List.mem_of_mem_drop (List.mem_of_mem_take hv0)))
  have hml : (midV l (placeN l s.lo) (placeN l s.hi)).length = placeN l s.hi - placeN l s.lo := mid_len hpq hq
  have HK := Lib.hid hk
  have HC := Lib.hid (fun (A : Option Addr) (c : Nat) (ls : List Ver) (B : Nat) (W : World) (h1 : ls.length ≤ 100000) (h2 : ReadsVer W W.heap.size A ls) (h3 : ∀ v ∈ ls, VerIn v) (h4 : RowAt W B (stmC s)) (h5 : Konst 1 W) => vcont_any A c ls s B W h1 h2 h3 h4 h16 hby h5)
  have hrd2 : ∀ b off, A = some ⟨b, off, none⟩ → ReadsVer w w.heap.size (some ⟨b, off + placeN l s.lo * 4, none⟩) (midV l (placeN l s.lo) (placeN l s.hi)) := fun b off e => mid_reads (by rw [← e]; exact hr) hpq hq
  have HRd := Lib.hid hrd2
  have hl0 : midV l (placeN l s.lo) (placeN l s.hi) = [] ∨ midV l (placeN l s.lo) (placeN l s.hi) ≠ [] := Classical.em _
  generalize midV l (placeN l s.lo) (placeN l s.hi) = mid at *
  generalize atN l s.lo = v0 at *
  have HPl := Lib.hid (HP.out s.lo)
  have HPh := Lib.hid (HP.out s.hi)
  generalize placeN l s.lo = p at *
  generalize placeN l s.hi = q at *
  generalize meanN l s.lo s.hi = mean at *
  clear hr hz hpa hk hv h16 hby hle HP hrd2
  go_enter Tryz.func46, Tryz.ntmps46
  go_wp2
  refine wp_world (fun W => Ext w W ∧ RowAt W w.heap.size (stmC s)) ⟨(by (repeat (first | with_reducible exact Ext.refl _ | with_reducible exact Ext.refl _ | with_reducible refine Ext.drew ?_ | with_reducible refine Ext.drewN ?_ _ | with_reducible refine Ext.alloc ?_ _ | with_reducible refine Ext.onto ?_ _ | (with_reducible refine Ext.setCells ?_ ?_ _ _; rotate_left; focus (first | omega | (simp; done) | (simp; omega))) | (with_reducible refine Ext.setCell ?_ ?_ _; rotate_left; focus (first | omega | (simp; done) | (simp; omega)))))), RowAt.new _ _ _⟩ ?_
  rintro W1 ⟨x1, u1⟩
  have HX1 := Lib.hid x1
  have HU1 := Lib.hid u1
  have q21 : W1.cell? ⟨w.heap.size, 21, none⟩ = some (.int .i64 s.lo) := (u1.cell 21).trans (stm_g21 s)
  have q22 : W1.cell? ⟨w.heap.size, 22, none⟩ = some (.int .i64 s.hi) := (u1.cell 22).trans (stm_g22 s)
  have hlu := u1.lt
  have hxz := x1.size
  clear x1 u1
  refine wp_region_soft 18 (softsL [.eq (.slice A l.length c), .eq (.pointer (some ⟨w.heap.size, 21, none⟩)), .eq (.pointer (some ⟨w.heap.size, 21, none⟩)), .eq (.int .i64 s.lo), .eq (.agg (verC v0)), ownVer [v0] W1.heap.size, .eq (.slice A l.length c), .eq (.slice A l.length c), .eq (.pointer (some ⟨w.heap.size, 21, none⟩)), .eq (.pointer (some ⟨w.heap.size, 21, none⟩)), .eq (.int .i64 s.lo), .eq (.int .i64 p), .eq (.slice A l.length c), .eq (.pointer (some ⟨w.heap.size, 21, none⟩)), .eq (.pointer (some ⟨w.heap.size, 22, none⟩)), .eq (.int .i64 s.hi), .eq (.int .i64 q), readVer mid]) (by kernel_rfl) (by kernel_rfl) (lt_cons ?_ (lt_cons ?_ (lt_cons ?_ (lt_cons ?_ (lt_cons ?_ (lt_cons ?_ (lt_cons ?_ (lt_cons ?_ (lt_cons ?_ (lt_cons ?_ (lt_cons ?_ (lt_cons ?_ (lt_cons ?_ (lt_cons ?_ (lt_cons ?_ (lt_cons ?_ (lt_cons ?_ (lt_cons ?_ lt_none)))))))))))))))))) ?_
  ·
    intro o ho xs W hW hd Q' hQ; obtain rfl := Option.some.inj ho; clear ho; simp only [fillAt, dstOf, List.getElem?_cons_zero, List.getElem?_cons_succ, Option.bind_some, Act.put, List.setIfInBounds_toArray, List.set_cons_zero, List.set_cons_succ, Nat.zero_add, Nat.reduceAdd] at hQ ⊢; have HQ := Lib.hid hQ; have HD := Lib.hid hd; have HW := Lib.hid hW; have hsW := hW.size; clear hQ hd hW
    go_wp2
    exact HQ.out _ _ (Ext.refl _) rfl
  ·
    intro o ho xs W hW hd Q' hQ; obtain rfl := Option.some.inj ho; clear ho; simp only [fillAt, dstOf, List.getElem?_cons_zero, List.getElem?_cons_succ, Option.bind_some, Act.put, List.setIfInBounds_toArray, List.set_cons_zero, List.set_cons_succ, Nat.zero_add, Nat.reduceAdd] at hQ ⊢; have HQ := Lib.hid hQ; have HD := Lib.hid hd; have HW := Lib.hid hW; have hsW := hW.size; clear hQ hd hW
    go_wp2
    exact HQ.out _ _ (Ext.refl _) rfl
  ·
    intro o ho xs W hW hd Q' hQ; obtain rfl := Option.some.inj ho; clear ho; simp only [fillAt, dstOf, List.getElem?_cons_zero, List.getElem?_cons_succ, Option.bind_some, Act.put, List.setIfInBounds_toArray, List.set_cons_zero, List.set_cons_succ, Nat.zero_add, Nat.reduceAdd] at hQ ⊢; have HQ := Lib.hid hQ; have HD := Lib.hid hd; have HW := Lib.hid hW; have hsW := hW.size; clear hQ hd hW
    have hd1 : xs 1 = (.pointer (some ⟨w.heap.size, 21, none⟩)) := (HD.out 1 (of_decide_eq_true (by kernel_rfl)))
    generalize xs 1 = x1 at hd1 HQ ⊢; subst hd1
    go_wp2
    exact HQ.out _ _ (Ext.refl _) rfl
  ·
    intro o ho xs W hW hd Q' hQ; obtain rfl := Option.some.inj ho; clear ho; simp only [fillAt, dstOf, List.getElem?_cons_zero, List.getElem?_cons_succ, Option.bind_some, Act.put, List.setIfInBounds_toArray, List.set_cons_zero, List.set_cons_succ, Nat.zero_add, Nat.reduceAdd] at hQ ⊢; have HQ := Lib.hid hQ; have HD := Lib.hid hd; have HW := Lib.hid hW; have hsW := hW.size; clear hQ hd hW
    have hd2 : xs 2 = (.pointer (some ⟨w.heap.size, 21, none⟩)) := (HD.out 2 (of_decide_eq_true (by kernel_rfl)))
    generalize xs 2 = x2 at hd2 HQ ⊢; subst hd2
    have hc : W.cell? ⟨w.heap.size, 21, none⟩ = some (.int .i64 s.lo) := (HW.out.cell (p := ⟨w.heap.size, 21, none⟩) (by show w.heap.size < _; omega)).trans q21
    go_wp2
    exact HQ.out _ _ (Ext.refl _) rfl
  ·
    intro o ho xs W hW hd Q' hQ; obtain rfl := Option.some.inj ho; clear ho; simp only [fillAt, dstOf, List.getElem?_cons_zero, List.getElem?_cons_succ, Option.bind_some, Act.put, List.setIfInBounds_toArray, List.set_cons_zero, List.set_cons_succ, Nat.zero_add, Nat.reduceAdd] at hQ ⊢; have HQ := Lib.hid hQ; have HD := Lib.hid hd; have HW := Lib.hid hW; have hsW := hW.size; clear hQ hd hW
    have hd0 : xs 0 = .slice A l.length c := (HD.out 0 (of_decide_eq_true (by kernel_rfl)))
    generalize xs 0 = x0 at hd0 HQ ⊢; subst hd0
    have hd3 : xs 3 = .int .i64 s.lo := (HD.out 3 (of_decide_eq_true (by kernel_rfl)))
    generalize xs 3 = x3 at hd3 HQ ⊢; subst hd3
    go_wp2_with (go_at_call 42; refine (HA.out _ (HX1.out.trans HW.out)).mono ?_; rintro e w1 ⟨rfl, hx⟩)
    exact HQ.out _ _ hx rfl
  ·
    intro o ho xs W hW hd Q' hQ; obtain rfl := Option.some.inj ho; clear ho; simp only [fillAt, dstOf, List.getElem?_cons_zero, List.getElem?_cons_succ, Option.bind_some, Act.put, List.setIfInBounds_toArray, List.set_cons_zero, List.set_cons_succ, Nat.zero_add, Nat.reduceAdd] at hQ ⊢; have HQ := Lib.hid hQ; have HD := Lib.hid hd; have HW := Lib.hid hW; have hsW := hW.size; clear hQ hd hW
    have hd4 : xs 4 = .agg (verC v0) := (HD.out 4 (of_decide_eq_true (by kernel_rfl)))
    generalize xs 4 = x4 at hd4 HQ ⊢; subst hd4
    go_wp2
    exact HQ.out _ _ ((Ext.refl _).alloc _) ⟨_, _, rfl, owns_one v0 W _ hsW⟩
  ·
    intro o ho xs W hW hd Q' hQ; obtain rfl := Option.some.inj ho; clear ho; simp only [fillAt, dstOf, List.getElem?_cons_zero, List.getElem?_cons_succ, Option.bind_some, Act.put, List.setIfInBounds_toArray, List.set_cons_zero, List.set_cons_succ, Nat.zero_add, Nat.reduceAdd] at hQ ⊢; have HQ := Lib.hid hQ; have HD := Lib.hid hd; have HW := Lib.hid hW; have hsW := hW.size; clear hQ hd hW
    go_wp2
    exact HQ.out _ _ (Ext.refl _) rfl
  ·
    intro o ho xs W hW hd Q' hQ; obtain rfl := Option.some.inj ho; clear ho; simp only [fillAt, dstOf, List.getElem?_cons_zero, List.getElem?_cons_succ, Option.bind_some, Act.put, List.setIfInBounds_toArray, List.set_cons_zero, List.set_cons_succ, Nat.zero_add, Nat.reduceAdd] at hQ ⊢; have HQ := Lib.hid hQ; have HD := Lib.hid hd; have HW := Lib.hid hW; have hsW := hW.size; clear hQ hd hW
    go_wp2
    exact HQ.out _ _ (Ext.refl _) rfl
  ·
    intro o ho xs W hW hd Q' hQ; obtain rfl := Option.some.inj ho; clear ho; simp only [fillAt, dstOf, List.getElem?_cons_zero, List.getElem?_cons_succ, Option.bind_some, Act.put, List.setIfInBounds_toArray, List.set_cons_zero, List.set_cons_succ, Nat.zero_add, Nat.reduceAdd] at hQ ⊢; have HQ := Lib.hid hQ; have HD := Lib.hid hd; have HW := Lib.hid hW; have hsW := hW.size; clear hQ hd hW
    go_wp2
    exact HQ.out _ _ (Ext.refl _) rfl
  ·
    intro o ho xs W hW hd Q' hQ; obtain rfl := Option.some.inj ho; clear ho; simp only [fillAt, dstOf, List.getElem?_cons_zero, List.getElem?_cons_succ, Option.bind_some, Act.put, List.setIfInBounds_toArray, List.set_cons_zero, List.set_cons_succ, Nat.zero_add, Nat.reduceAdd] at hQ ⊢; have HQ := Lib.hid hQ; have HD := Lib.hid hd; have HW := Lib.hid hW; have hsW := hW.size; clear hQ hd hW
    have hd8 : xs 8 = (.pointer (some ⟨w.heap.size, 21, none⟩)) := (HD.out 8 (of_decide_eq_true (by kernel_rfl)))
    generalize xs 8 = x8 at hd8 HQ ⊢; subst hd8
    go_wp2
    exact HQ.out _ _ (Ext.refl _) rfl
  ·
    intro o ho xs W hW hd Q' hQ; obtain rfl := Option.some.inj ho; clear ho; simp only [fillAt, dstOf, List.getElem?_cons_zero, List.getElem?_cons_succ, Option.bind_some, Act.put, List.setIfInBounds_toArray, List.set_cons_zero, List.set_cons_succ, Nat.zero_add, Nat.reduceAdd] at hQ ⊢; have HQ := Lib.hid hQ; have HD := Lib.hid hd; have HW := Lib.hid hW; have hsW := hW.size; clear hQ hd hW
    have hd9 : xs 9 = (.pointer (some ⟨w.heap.size, 21, none⟩)) := (HD.out 9 (of_decide_eq_true (by kernel_rfl)))
    generalize xs 9 = x9 at hd9 HQ ⊢; subst hd9
    have hc : W.cell? ⟨w.heap.size, 21, none⟩ = some (.int .i64 s.lo) := (HW.out.cell (p := ⟨w.heap.size, 21, none⟩) (by show w.heap.size < _; omega)).trans q21
    go_wp2
    exact HQ.out _ _ (Ext.refl _) rfl
  ·
    intro o ho xs W hW hd Q' hQ; obtain rfl := Option.some.inj ho; clear ho; simp only [fillAt, dstOf, List.getElem?_cons_zero, List.getElem?_cons_succ, Option.bind_some, Act.put, List.setIfInBounds_toArray, List.set_cons_zero, List.set_cons_succ, Nat.zero_add, Nat.reduceAdd] at hQ ⊢; have HQ := Lib.hid hQ; have HD := Lib.hid hd; have HW := Lib.hid hW; have hsW := hW.size; clear hQ hd hW
    have hd7 : xs 7 = .slice A l.length c := (HD.out 7 (of_decide_eq_true (by kernel_rfl)))
    generalize xs 7 = x7 at hd7 HQ ⊢; subst hd7
    have hd10 : xs 10 = .int .i64 s.lo := (HD.out 10 (of_decide_eq_true (by kernel_rfl)))
    generalize xs 10 = x10 at hd10 HQ ⊢; subst hd10
    go_wp2_with (go_at_call 97; refine (HPl.out _ (HX1.out.trans HW.out)).mono ?_; rintro e w1 ⟨rfl, hx⟩)
    exact HQ.out _ _ hx rfl
  ·
    intro o ho xs W hW hd Q' hQ; obtain rfl := Option.some.inj ho; clear ho; simp only [fillAt, dstOf, List.getElem?_cons_zero, List.getElem?_cons_succ, Option.bind_some, Act.put, List.setIfInBounds_toArray, List.set_cons_zero, List.set_cons_succ, Nat.zero_add, Nat.reduceAdd] at hQ ⊢; have HQ := Lib.hid hQ; have HD := Lib.hid hd; have HW := Lib.hid hW; have hsW := hW.size; clear hQ hd hW
    go_wp2
    exact HQ.out _ _ (Ext.refl _) rfl
  ·
    intro o ho xs W hW hd Q' hQ; obtain rfl := Option.some.inj ho; clear ho; simp only [fillAt, dstOf, List.getElem?_cons_zero, List.getElem?_cons_succ, Option.bind_some, Act.put, List.setIfInBounds_toArray, List.set_cons_zero, List.set_cons_succ, Nat.zero_add, Nat.reduceAdd] at hQ ⊢; have HQ := Lib.hid hQ; have HD := Lib.hid hd; have HW := Lib.hid hW; have hsW := hW.size; clear hQ hd hW
    go_wp2
    exact HQ.out _ _ (Ext.refl _) rfl
  ·
    intro o ho xs W hW hd Q' hQ; obtain rfl := Option.some.inj ho; clear ho; simp only [fillAt, dstOf, List.getElem?_cons_zero, List.getElem?_cons_succ, Option.bind_some, Act.put, List.setIfInBounds_toArray, List.set_cons_zero, List.set_cons_succ, Nat.zero_add, Nat.reduceAdd] at hQ ⊢; have HQ := Lib.hid hQ; have HD := Lib.hid hd; have HW := Lib.hid hW; have hsW := hW.size; clear hQ hd hW
    have hd13 : xs 13 = (.pointer (some ⟨w.heap.size, 21, none⟩)) := (HD.out 13 (of_decide_eq_true (by kernel_rfl)))
    generalize xs 13 = x13 at hd13 HQ ⊢; subst hd13
    go_wp2
    exact HQ.out _ _ (Ext.refl _) rfl
  ·
    intro o ho xs W hW hd Q' hQ; obtain rfl := Option.some.inj ho; clear ho; simp only [fillAt, dstOf, List.getElem?_cons_zero, List.getElem?_cons_succ, Option.bind_some, Act.put, List.setIfInBounds_toArray, List.set_cons_zero, List.set_cons_succ, Nat.zero_add, Nat.reduceAdd] at hQ ⊢; have HQ := Lib.hid hQ; have HD := Lib.hid hd; have HW := Lib.hid hW; have hsW := hW.size; clear hQ hd hW
    have hd14 : xs 14 = (.pointer (some ⟨w.heap.size, 22, none⟩)) := (HD.out 14 (of_decide_eq_true (by kernel_rfl)))
    generalize xs 14 = x14 at hd14 HQ ⊢; subst hd14
    have hc : W.cell? ⟨w.heap.size, 22, none⟩ = some (.int .i64 s.hi) := (HW.out.cell (p := ⟨w.heap.size, 22, none⟩) (by show w.heap.size < _; omega)).trans q22
    go_wp2
    exact HQ.out _ _ (Ext.refl _) rfl
  ·
    intro o ho xs W hW hd Q' hQ; obtain rfl := Option.some.inj ho; clear ho; simp only [fillAt, dstOf, List.getElem?_cons_zero, List.getElem?_cons_succ, Option.bind_some, Act.put, List.setIfInBounds_toArray, List.set_cons_zero, List.set_cons_succ, Nat.zero_add, Nat.reduceAdd] at hQ ⊢; have HQ := Lib.hid hQ; have HD := Lib.hid hd; have HW := Lib.hid hW; have hsW := hW.size; clear hQ hd hW
    have hd12 : xs 12 = .slice A l.length c := (HD.out 12 (of_decide_eq_true (by kernel_rfl)))
    generalize xs 12 = x12 at hd12 HQ ⊢; subst hd12
    have hd15 : xs 15 = .int .i64 s.hi := (HD.out 15 (of_decide_eq_true (by kernel_rfl)))
    generalize xs 15 = x15 at hd15 HQ ⊢; subst hd15
    go_wp2_with (go_at_call 97; refine (HPh.out _ (HX1.out.trans HW.out)).mono ?_; rintro e w1 ⟨rfl, hx⟩)
    exact HQ.out _ _ hx rfl
  ·
    intro o ho xs W hW hd Q' hQ; obtain rfl := Option.some.inj ho; clear ho; simp only [fillAt, dstOf, List.getElem?_cons_zero, List.getElem?_cons_succ, Option.bind_some, Act.put, List.setIfInBounds_toArray, List.set_cons_zero, List.set_cons_succ, Nat.zero_add, Nat.reduceAdd] at hQ ⊢; have HQ := Lib.hid hQ; have HD := Lib.hid hd; have HW := Lib.hid hW; have hsW := hW.size; clear hQ hd hW
    have hd6 : xs 6 = .slice A l.length c := (HD.out 6 (of_decide_eq_true (by kernel_rfl)))
    generalize xs 6 = x6 at hd6 HQ ⊢; subst hd6
    have hd11 : xs 11 = .int .i64 p := (HD.out 11 (of_decide_eq_true (by kernel_rfl)))
    generalize xs 11 = x11 at hd11 HQ ⊢; subst hd11
    have hd16 : xs 16 = .int .i64 q := (HD.out 16 (of_decide_eq_true (by kernel_rfl)))
    generalize xs 16 = x16 at hd16 HQ ⊢; subst hd16
    cases A with
    | none =>
      have hc0 := HZ.out rfl
      subst hc0
      obtain rfl : q = 0 := by omega
      obtain rfl : p = 0 := by omega
      have hm0 : mid = [] := List.eq_nil_of_length_eq_zero (by omega)
      subst hm0
      go_wp2
      exact HQ.out _ _ (Ext.refl _) ⟨none, _, rfl, Reads.nil _ _ _ _ _, fun _ => rfl⟩
    | some a =>
      obtain ⟨b, off, sp⟩ := a
      have hsp : sp = none := HPA.out _ rfl
      subst hsp
      have hrw := (HRd.out b off rfl).on (HX1.out.trans HW.out)
      by_cases hcp : p = c
      · subst hcp
        have hm0 : mid = [] := List.eq_nil_of_length_eq_zero (by omega)
        go_wp2
        refine HQ.out _ _ (Ext.refl _) ⟨some ⟨b, off, none⟩, 0, by rw [hml], by rw [hm0]; exact Reads.nil _ _ _ _ _, fun h => (by cases h)⟩
      · have hcp2 : ¬ c = p := fun e => hcp e.symm
        go_wp2
        refine HQ.out _ _ (Ext.refl _) ⟨some ⟨b, off + p * 4, none⟩, c - p, by rw [hml], hrw, fun h => (by cases h)⟩
  intro xs W3 hW hS
  obtain ⟨A5, c5, h5, ho5⟩ : (ownVer [v0] W1.heap.size).S (xs 5) W3 := hS 5 (by omega)
  obtain ⟨Am, cm, h17, hrm, hzm⟩ : (readVer mid).S (xs 17) W3 := hS 17 (by omega)
  simp only [fillAt, dstOf, List.getElem?_cons_zero, List.getElem?_cons_succ, Option.bind_some, Act.put, List.setIfInBounds_toArray, List.set_cons_zero, List.set_cons_succ, Nat.zero_add, Nat.reduceAdd, List.drop_succ_cons, List.drop_zero, List.drop_nil]
  generalize xs 5 = x5 at *; subst h5
  generalize xs 17 = x17 at *; subst h17
  have HX3 := Lib.hid (HX1.out.trans hW)
  have HU3 := Lib.hid (HU1.out.ext hW)
  have HO5 := Lib.hid ho5
  have HRm := Lib.hid hrm
  have HZm := Lib.hid hzm
  have hls := hW.size
  have hmm : mid.length ≤ 50000 := by omega
  clear hS hW ho5 hrm hzm q21 q22
  go_wp2_with (at_builtin; refine (show Hid _ from ?_).out)
  refine Lib.hid ?_
  refine app_reads verT verE rfl _ _ rfl W1.heap.size A5 c5 [v0] rfl HO5.out W3.heap.size Am cm mid rfl HRm.out HZm.out (by simp; omega) (by simp; omega) hls ?_
  intro A6 c6 l6 w6 HL6 hO6 hB6 h61 h62 _
  have hme : l6 = mean := HL6.out.trans HM.out.symm
  subst hme
  have hrd6 := hO6.reads verE
  have hx6 : Ext w w6 := (HX3.out).grown hB6 (by omega)
  have hu6 := HU3.out.below hB6 hlu
  have HCt := Lib.hid (HC.out A6 c6 l6 w.heap.size w6 (by simp at h61; omega) hrd6 HVm.out hu6 (RowAt.ext HK.out hx6))
  have HX6 := Lib.hid hx6
  clear hO6 hB6 hrd6 hx6 hu6 h61 h62 HL6
  obtain ⟨res, hres⟩ : ∃ r, l6.any (saysB s) = r := ⟨_, rfl⟩
  rw [hres] at HCt
  have HRes := Lib.hid hres
  clear hres
  go_wp2_with (go_at_call 105; refine HCt.out.mono ?_; rintro e w' ⟨rfl, hxl⟩; obtain ⟨xl, rfl⟩ := hxl.asLater; clear hxl)
  go_ret
  exact ⟨ret_bool HRes.out.symm, (by (repeat (first | with_reducible exact HX6.out | with_reducible exact Ext.refl _ | with_reducible refine Ext.drew ?_ | with_reducible refine Ext.drewN ?_ _ | with_reducible refine Ext.alloc ?_ _ | with_reducible refine Ext.onto ?_ _ | (with_reducible refine Ext.setCells ?_ ?_ _ _; rotate_left; focus (first | omega | (simp; done) | (simp; omega))) | (with_reducible refine Ext.setCell ?_ ?_ _; rotate_left; focus (first | omega | (simp; done) | (simp; omega))))))⟩
end Go.Proofs.YtpfhmcdcmepfdaaGreatDoor
