/- Walks of entries: the specification's Valid. -/
import Derived.Test.YthhblgjbgjceiaaGreatDoorProg
import Derived.Test.YthhblgjbgjceiaaGreatDoorExt
import Derived.WalkKit
import Derived.WalkSpells
import Derived.WalkLawsBesides
import Derived.Deep.QuietTactic
import Derived.BigQuiet
import Derived.Test.YthhblgjbgjceiaaGreatDoorSpw
import Derived.Test.YthhblgjbgjceiaaGreatDoorSpv
import Derived.Stop.BytesEq
set_option linter.unusedVariables false
set_option linter.unusedSimpArgs false
namespace Go.Proofs.YthhblgjbgjceiaaGreatDoor
open Go.RowKit
open Go.Proofs

def u8s (l : List Int) : List UInt8 := l.map fun n => UInt8.ofNat n.toNat
theorem u8s_cells {l : List Int} (h : Byt l) : ((u8s l).map Extern.Stop.cell).toArray = cells8 l := by
  unfold cells8 u8s
  congr 1
  rw [List.map_map]
  apply List.map_congr_left
  intro x hx
  have := h x hx
  simp [Extern.Stop.cell]
  omega
theorem u8s_inj : ∀ {a b : List Int}, Byt a → Byt b → u8s a = u8s b → a = b
  | [], [], _, _, _ => rfl
  | [], y :: b, _, _, h => by simp [u8s] at h
  | x :: a, [], _, _, h => by simp [u8s] at h
  | x :: a, y :: b, ha, hb, h => by
    simp only [u8s, List.map_cons, List.cons.injEq] at h
    have h1 := ha x (by simp)
    have h2 := hb y (by simp)
    have e : x = y := by
      have := congrArg UInt8.toNat h.1
      simp at this
      omega
    rw [e, u8s_inj (fun z hz => ha z (by simp [hz])) (fun z hz => hb z (by simp [hz])) h.2]
theorem u8s_beq {a b : List Int} (ha : Byt a) (hb : Byt b) : (u8s a == u8s b) = decide (a = b) := by
  by_cases e : a = b
  · subst e; simp
  · have : ¬ (u8s a = u8s b) := fun h => e (u8s_inj ha hb h)
    simp [e, this]
/-- '==' of two digests. -/
theorem eq_dig {a b : List Int} (ha : a.length = 16) (hb : b.length = 16) (ba : Byt a) (bb : Byt b) (W : World) : (binOp .eql 23 (.agg (cells8 a)) (.agg (dgC b))).run Tryz.prog W = .ok (.bool (decide (a = b))) W := by
  have := run_eql_bytes (P := Tryz.prog) W 23 5 16 (by kernel_rfl) (by kernel_rfl) u8_size (u8s a) (u8s b) (by simp [u8s, ha]) (by simp [u8s, hb])
  rw [u8s_cells ba, u8s_cells bb, u8s_beq ba bb] at this
  rw [dgC_cells hb]
  exact this
theorem neq_dig {a b : List Int} (ha : a.length = 16) (hb : b.length = 16) (ba : Byt a) (bb : Byt b) (W : World) : (binOp .neq 23 (.agg (cells8 a)) (.agg (dgC b))).run Tryz.prog W = .ok (.bool (!(decide (a = b)))) W := by
  have h := run_equalIn_bytes (P := Tryz.prog) W 9998 23 5 16 (by kernel_rfl) (by kernel_rfl) u8_size (u8s a) (u8s b) (by simp [u8s, ha]) (by simp [u8s, hb])
  rw [u8s_cells ba, u8s_cells bb, u8s_beq ba bb] at h
  rw [dgC_cells hb, run_neq_struct, h]
  rfl
theorem digest_length (t : Int) (l : List (List Int)) : (Wire.digest t l).length = 16 := by rw [Wire.digest, List.length_take, Sha.sha_length]; omega
theorem digest_byt (t : Int) (l : List (List Int)) : Byt (Wire.digest t l) := fun x hx => Sha.out_byte _ x (List.mem_of_mem_take hx)
end Go.Proofs.YthhblgjbgjceiaaGreatDoor

namespace Go.Proofs.YthhblgjbgjceiaaGreatDoor
open Go.RowKit
open Go.Proofs
open Go.Proofs.Sp (Sp)

def lastB (l : List Sp) (n : Int) : Bool := decide (l.length = 0) || decide ((l.getD (l.length - 1) (0, 0)).2 ≤ n)
def zeroAt (b : ByteArray) (l : List Sp) (k : Nat) : Bool := decide ((bts b).getD k 0 = 0) || hasB l k
def zeroB (b : ByteArray) (l : List Sp) : Bool := (List.range b.size).all (zeroAt b l)
/-- What the specification calls a valid entry. -/
def validB (e : En) (l : List Sp) : Bool :=
  rightB e.st && setB l && decide (e.st.size ≤ 65536) && decide ((e.bytes.size : Int) = e.st.size) && lastB l e.st.size && zeroB e.bytes l && (e.whole == fullB l e.st.size) && (!(fullB l e.st.size) || decide (Wire.digest 34 [bts e.bytes] = e.st.body))

theorem rdigest_is (s : ByteArray) (D : List Int) (w : World) (hk : RKonst w) (hl : s.size ≤ 140737488351200) (h : Wire.digest 34 [bts s] = D) :
    Calls Tryz.prog 20 #[.string s] w fun e w' => e = .returned (.agg (cells8 D)) ∧ Ext w w' := by subst h; exact rdigest_ok s w hk hl
theorem bts_get (b : ByteArray) (k : Nat) (h : k < b.size) : (bts b).getD k 0 = (b[k].toNat : Int) := by
  have hl : k < b.data.toList.length := by simpa using h
  simp only [bts, List.getD_eq_getElem?_getD, List.getElem?_map, List.getElem?_eq_getElem hl, Option.map_some, Option.getD_some]
  rfl
theorem zeroB_no {b : ByteArray} {l : List Sp} {k : Nat} (h : k < b.size) (hf : zeroAt b l k = false) : zeroB b l = false := by
  cases e : zeroB b l with
  | false => rfl
  | true =>
    have := List.all_eq_true.1 e k (List.mem_range.2 h)
    rw [hf] at this
    cases this
theorem zeroB_yes {b : ByteArray} {l : List Sp} (h : ∀ j, j < b.size → zeroAt b l j = true) : zeroB b l = true := List.all_eq_true.2 (fun j hj => h j (List.mem_range.1 hj))
set_option maxRecDepth 100000 in
set_option maxHeartbeats 2000000 in
theorem rvalidE_any (e : En) (A : Option Addr) (c : Nat) (l : List Sp) (w : World) (hv : e.hv = .slice A l.length c) (hl : l.length ≤ 140737488355328) (h1 : e.st.addr.size ≤ 9223372036854775807) (h2 : e.st.var.size ≤ 9223372036854775807) (h3 : e.st.tags.size ≤ 9223372036854775807) (h4 : e.bytes.size ≤ 140737488351200)
    (hb : e.st.body.length = 16) (hby : Byt e.st.body) (hk : RKonst w) (hr : ReadsSp w w.heap.size A l) :
    Calls Tryz.prog 14 #[.agg (entC e)] w fun e' w' => e' = .returned (.bool (validB e l)) ∧ Ext w w' := by
  have HRd := Lib.hid hr
  have HK := Lib.hid hk
  have HB := Lib.hid hb
  have HBy := Lib.hid hby
  clear hr hk hb hby
  cases hrt : rightB e.st with
  | false =>
    have HRt := Lib.hid hrt
    have HV : Hid (validB e l = false) := Lib.hid (by simp [validB, hrt])
    clear hrt
    cases hst : setB l with
    | false =>
      have HSt := Lib.hid hst
      clear hst
      go_enter Tryz.func14, Tryz.ntmps14
      go_wp2_with (first
        | (go_at_call 17; refine (rright_any _ _ (by omega) (by omega) (by omega)).mono ?_; rw [HRt.out]; rintro e w' ⟨rfl, hxl⟩; obtain ⟨xl, rfl⟩ := hxl.asLater; clear hxl)
        | (go_at_call 27; refine (rvalid_any A c l _ hl (HRd.out.on (by (repeat (first | with_reducible exact Ext.refl _ | with_reducible exact Ext.refl _ | with_reducible refine Ext.drew ?_ | with_reducible refine Ext.drewN ?_ _ | with_reducible refine Ext.alloc ?_ _ | with_reducible refine Ext.onto ?_ _ | (with_reducible refine Ext.setCells ?_ ?_ _ _; rotate_left; focus (first | omega | (simp; done) | (simp; omega))) | (with_reducible refine Ext.setCell ?_ ?_ _; rotate_left; focus (first | omega | (simp; done) | (simp; omega)))))))).mono ?_; rw [HSt.out]; rintro e w' ⟨rfl, hxl⟩; obtain ⟨xl, rfl⟩ := hxl.asLater; clear hxl))
      go_ret
      exact ⟨ret_bool (by rw [HV.out]), (by (repeat (first | with_reducible exact Ext.refl _ | with_reducible exact Ext.refl _ | with_reducible refine Ext.drew ?_ | with_reducible refine Ext.drewN ?_ _ | with_reducible refine Ext.alloc ?_ _ | with_reducible refine Ext.onto ?_ _ | (with_reducible refine Ext.setCells ?_ ?_ _ _; rotate_left; focus (first | omega | (simp; done) | (simp; omega))) | (with_reducible refine Ext.setCell ?_ ?_ _; rotate_left; focus (first | omega | (simp; done) | (simp; omega))))))⟩
    | true =>
      have HSt := Lib.hid hst
      clear hst
      go_enter Tryz.func14, Tryz.ntmps14
      go_wp2_with (first
        | (go_at_call 17; refine (rright_any _ _ (by omega) (by omega) (by omega)).mono ?_; rw [HRt.out]; rintro e w' ⟨rfl, hxl⟩; obtain ⟨xl, rfl⟩ := hxl.asLater; clear hxl)
        | (go_at_call 27; refine (rvalid_any A c l _ hl (HRd.out.on (by (repeat (first | with_reducible exact Ext.refl _ | with_reducible exact Ext.refl _ | with_reducible refine Ext.drew ?_ | with_reducible refine Ext.drewN ?_ _ | with_reducible refine Ext.alloc ?_ _ | with_reducible refine Ext.onto ?_ _ | (with_reducible refine Ext.setCells ?_ ?_ _ _; rotate_left; focus (first | omega | (simp; done) | (simp; omega))) | (with_reducible refine Ext.setCell ?_ ?_ _; rotate_left; focus (first | omega | (simp; done) | (simp; omega)))))))).mono ?_; rw [HSt.out]; rintro e w' ⟨rfl, hxl⟩; obtain ⟨xl, rfl⟩ := hxl.asLater; clear hxl))
      go_ret
      exact ⟨ret_bool (by rw [HV.out]), (by (repeat (first | with_reducible exact Ext.refl _ | with_reducible exact Ext.refl _ | with_reducible refine Ext.drew ?_ | with_reducible refine Ext.drewN ?_ _ | with_reducible refine Ext.alloc ?_ _ | with_reducible refine Ext.onto ?_ _ | (with_reducible refine Ext.setCells ?_ ?_ _ _; rotate_left; focus (first | omega | (simp; done) | (simp; omega))) | (with_reducible refine Ext.setCell ?_ ?_ _; rotate_left; focus (first | omega | (simp; done) | (simp; omega))))))⟩
  | true =>
    have HRt := Lib.hid hrt
    cases hst : setB l with
    | false =>
      have HSt := Lib.hid hst
      have HV : Hid (validB e l = false) := Lib.hid (by simp [validB, hst])
      clear hst hrt
      go_enter Tryz.func14, Tryz.ntmps14
      go_wp2_with (first
        | (go_at_call 17; refine (rright_any _ _ (by omega) (by omega) (by omega)).mono ?_; rw [HRt.out]; rintro e w' ⟨rfl, hxl⟩; obtain ⟨xl, rfl⟩ := hxl.asLater; clear hxl)
        | (go_at_call 27; refine (rvalid_any A c l _ hl (HRd.out.on (by (repeat (first | with_reducible exact Ext.refl _ | with_reducible exact Ext.refl _ | with_reducible refine Ext.drew ?_ | with_reducible refine Ext.drewN ?_ _ | with_reducible refine Ext.alloc ?_ _ | with_reducible refine Ext.onto ?_ _ | (with_reducible refine Ext.setCells ?_ ?_ _ _; rotate_left; focus (first | omega | (simp; done) | (simp; omega))) | (with_reducible refine Ext.setCell ?_ ?_ _; rotate_left; focus (first | omega | (simp; done) | (simp; omega)))))))).mono ?_; rw [HSt.out]; rintro e w' ⟨rfl, hxl⟩; obtain ⟨xl, rfl⟩ := hxl.asLater; clear hxl))
      go_ret
      exact ⟨ret_bool (by rw [HV.out]), (by (repeat (first | with_reducible exact Ext.refl _ | with_reducible exact Ext.refl _ | with_reducible refine Ext.drew ?_ | with_reducible refine Ext.drewN ?_ _ | with_reducible refine Ext.alloc ?_ _ | with_reducible refine Ext.onto ?_ _ | (with_reducible refine Ext.setCells ?_ ?_ _ _; rotate_left; focus (first | omega | (simp; done) | (simp; omega))) | (with_reducible refine Ext.setCell ?_ ?_ _; rotate_left; focus (first | omega | (simp; done) | (simp; omega))))))⟩
    | true =>
      have HSt := Lib.hid hst
      by_cases hs : 65536 < e.st.size
      · have HV : Hid (validB e l = false) := Lib.hid (by simp [validB, hst, hrt]; omega)
        clear hst hrt
        go_enter Tryz.func14, Tryz.ntmps14
        go_wp2_with (first
          | (go_at_call 17; refine (rright_any _ _ (by omega) (by omega) (by omega)).mono ?_; rw [HRt.out]; rintro e w' ⟨rfl, hxl⟩; obtain ⟨xl, rfl⟩ := hxl.asLater; clear hxl)
          | (go_at_call 27; refine (rvalid_any A c l _ hl (HRd.out.on (by (repeat (first | with_reducible exact Ext.refl _ | with_reducible exact Ext.refl _ | with_reducible refine Ext.drew ?_ | with_reducible refine Ext.drewN ?_ _ | with_reducible refine Ext.alloc ?_ _ | with_reducible refine Ext.onto ?_ _ | (with_reducible refine Ext.setCells ?_ ?_ _ _; rotate_left; focus (first | omega | (simp; done) | (simp; omega))) | (with_reducible refine Ext.setCell ?_ ?_ _; rotate_left; focus (first | omega | (simp; done) | (simp; omega)))))))).mono ?_; rw [HSt.out]; rintro e w' ⟨rfl, hxl⟩; obtain ⟨xl, rfl⟩ := hxl.asLater; clear hxl))
        go_ret
        exact ⟨ret_bool (by rw [HV.out]), (by (repeat (first | with_reducible exact Ext.refl _ | with_reducible exact Ext.refl _ | with_reducible refine Ext.drew ?_ | with_reducible refine Ext.drewN ?_ _ | with_reducible refine Ext.alloc ?_ _ | with_reducible refine Ext.onto ?_ _ | (with_reducible refine Ext.setCells ?_ ?_ _ _; rotate_left; focus (first | omega | (simp; done) | (simp; omega))) | (with_reducible refine Ext.setCell ?_ ?_ _; rotate_left; focus (first | omega | (simp; done) | (simp; omega))))))⟩
      · by_cases hn : (e.bytes.size : Int) = e.st.size
        · have HV0 : Hid (validB e l = (lastB l e.st.size && zeroB e.bytes l && (e.whole == fullB l e.st.size) && (!(fullB l e.st.size) || decide (Wire.digest 34 [bts e.bytes] = e.st.body)))) := Lib.hid (by
            have hs' : e.st.size ≤ 65536 := by omega
            simp [validB, hst, hrt, hn, hs'])
          have hne : ((e.bytes.size : Int) != e.st.size) = false := by rw [bne_eq_false_iff_eq]; exact hn
          have HN := Lib.hid hn
          clear hst hrt hn
          go_enter Tryz.func14, Tryz.ntmps14
          go_upto_region 5 with (first
            | (go_at_call 17; refine (rright_any _ _ (by omega) (by omega) (by omega)).mono ?_; rw [HRt.out]; rintro e w' ⟨rfl, hxl⟩; obtain ⟨xl, rfl⟩ := hxl.asLater; clear hxl)
            | (go_at_call 27; refine (rvalid_any A c l _ hl (HRd.out.on (by (repeat (first | with_reducible exact Ext.refl _ | with_reducible exact Ext.refl _ | with_reducible refine Ext.drew ?_ | with_reducible refine Ext.drewN ?_ _ | with_reducible refine Ext.alloc ?_ _ | with_reducible refine Ext.onto ?_ _ | (with_reducible refine Ext.setCells ?_ ?_ _ _; rotate_left; focus (first | omega | (simp; done) | (simp; omega))) | (with_reducible refine Ext.setCell ?_ ?_ _; rotate_left; focus (first | omega | (simp; done) | (simp; omega)))))))).mono ?_; rw [HSt.out]; rintro e w' ⟨rfl, hxl⟩; obtain ⟨xl, rfl⟩ := hxl.asLater; clear hxl))
          refine wp_world (fun W => Ext w W ∧ RowAt W w.heap.size (entC e)) ⟨(by (repeat (first | with_reducible exact Ext.refl _ | with_reducible exact Ext.refl _ | with_reducible refine Ext.drew ?_ | with_reducible refine Ext.drewN ?_ _ | with_reducible refine Ext.alloc ?_ _ | with_reducible refine Ext.onto ?_ _ | (with_reducible refine Ext.setCells ?_ ?_ _ _; rotate_left; focus (first | omega | (simp; done) | (simp; omega))) | (with_reducible refine Ext.setCell ?_ ?_ _; rotate_left; focus (first | omega | (simp; done) | (simp; omega)))))), (by (repeat (first | with_reducible exact rfl | with_reducible refine RowAt.drew ?_ | with_reducible refine RowAt.later ?_ _ | with_reducible exact RowAt.newAt (by first | rfl | omega | (simp [later_size, setCells_size]; done) | (simp [later_size, setCells_size]; omega)) | with_reducible refine RowAt.alloc ?_ _ | with_reducible apply RowAt.store | with_reducible refine RowAt.others ?_ ?_ _ _ | with_reducible refine RowAt.other ?_ ?_ _)); all_goals first | omega | (simp; done) | (simp; omega) | (simp [go_sem]; done))⟩ ?_
          rintro W ⟨hx, h5⟩
          have HX := Lib.hid hx
          have H5 := Lib.hid h5
          have c42 : W.cell? ⟨w.heap.size, 42, none⟩ = some (.slice A l.length c) := (h5.cell 42).trans (by rw [ent_g42, hv])
          have c3 : W.cell? ⟨w.heap.size, 3, none⟩ = some (.int .i64 e.st.size) := (h5.cell 3).trans (ent_g3 e)
          have hszW := h5.lt
          have HHV := Lib.hid hv
          clear hne
          by_cases h0 : l.length = 0
          · have hlf : lastB l e.st.size = true := by
              simp only [lastB, Bool.or_eq_true, decide_eq_true_eq]
              exact .inl h0
            rw [hlf, Bool.true_and] at HV0
            have d0 : decide (0 < l.length) = false := by simp only [decide_eq_false_iff_not]; omega
            have d1 : decide (0 < (l.length : Int)) = false := by simp only [decide_eq_false_iff_not]; omega
            have hl0 : l.length ≤ 0 := by omega
            clear h5 hv h0 hlf
            refine wp_region_later (by kernel_rfl) (by kernel_rfl) ?_
            repeat (first | go_big_quiet_step (fail) | quiet_step (fail))
            refine wpQuiet_nil ?_
            rintro _ ⟨xq, rfl⟩
            go_wp2
            clear d0 d1
            refine wp_world (fun W2 => Ext w W2 ∧ RowAt W2 w.heap.size (entC e)) ⟨(by (repeat (first | with_reducible exact HX.out | with_reducible exact Ext.refl _ | with_reducible refine Ext.drew ?_ | with_reducible refine Ext.drewN ?_ _ | with_reducible refine Ext.alloc ?_ _ | with_reducible refine Ext.onto ?_ _ | (with_reducible refine Ext.setCells ?_ ?_ _ _; rotate_left; focus (first | omega | (simp; done) | (simp; omega))) | (with_reducible refine Ext.setCell ?_ ?_ _; rotate_left; focus (first | omega | (simp; done) | (simp; omega)))))), (by (repeat (first | with_reducible exact H5.out | with_reducible refine RowAt.drew ?_ | with_reducible refine RowAt.later ?_ _ | with_reducible exact RowAt.newAt (by first | rfl | omega | (simp [later_size, setCells_size]; done) | (simp [later_size, setCells_size]; omega)) | with_reducible refine RowAt.alloc ?_ _ | with_reducible apply RowAt.store | with_reducible refine RowAt.others ?_ ?_ _ _ | with_reducible refine RowAt.other ?_ ?_ _)); all_goals first | omega | (simp; done) | (simp; omega) | (simp [go_sem]; done))⟩ ?_
            rintro W2 ⟨hx2, h52⟩
            have HX2 := Lib.hid hx2
            have H52 := Lib.hid h52
            clear hx2 h52 c42 c3 hszW
            go_loopw [5] (fun i wr => ∃ k : Nat, k ≤ e.bytes.size ∧ i = .int .i64 k ∧ Ext w wr ∧ RowAt wr w.heap.size (entC e) ∧ Hid (∀ j, j < k → zeroAt e.bytes l j = true)) (fun i _ => e.bytes.size - (intOf i).toNat)
            case atStart => exact ⟨0, Nat.zero_le _, rfl, HX2.out, H52.out, Lib.hid (fun j hj => absurd hj (Nat.not_lt_zero _))⟩
            case round =>
              obtain ⟨k, hk, rfl, hx, h5, HZ⟩ := hrel
              have HXr := Lib.hid hx
              have H5r := Lib.hid h5
              have c42 : wr.cell? ⟨w.heap.size, 42, none⟩ = some (.slice A l.length c) := (h5.cell 42).trans (by rw [ent_g42, HHV.out])
              have c43 : wr.cell? ⟨w.heap.size, 43, none⟩ = some (.string e.bytes) := (h5.cell 43).trans (ent_g43 e)
              have hszr := h5.lt
              have HRw := Lib.hid ((HRd.out.ext hx (Nat.le_refl _)).up hx.size)
              by_cases hlt : k < e.bytes.size
              · have hbt := bts_get e.bytes k hlt
                have HZY : Hid (zeroAt e.bytes l k = true → ∀ j, j < k + 1 → zeroAt e.bytes l j = true) := Lib.hid (fun h j hj => by
                  by_cases ej : j = k
                  · rw [ej]; exact h
                  · exact HZ.out j (by omega))
                have HZN : Hid (zeroAt e.bytes l k = false → zeroB e.bytes l = false) := Lib.hid (zeroB_no hlt)
                by_cases hz : (e.bytes[k].toNat : Int) = 0
                · have HY := Lib.hid (HZY.out (by rw [zeroAt, hbt, hz]; rfl))
                  have hne : ((e.bytes[k].toNat : Int) != 0) = false := by rw [bne_eq_false_iff_eq]; exact hz
                  clear hx h5 hbt hz
                  go_wp2
                  go_roundw
                  case rel => exact ⟨k + 1, by omega, by go_num, HXr.out, H5r.out, HY⟩
                  case measure => simp [intOf]; omega
                · have hne : ((e.bytes[k].toNat : Int) != 0) = true := by rw [bne_iff_ne]; exact hz
                  cases hh : hasB l k with
                  | true =>
                    have HF := Lib.hid hh
                    have HY := Lib.hid (HZY.out (by rw [zeroAt, hh, Bool.or_true]))
                    clear hx h5 hbt hz hh
                    go_wp2_with (go_at_call 44; refine (rhas_any A c l _ _ hl HRw.out).mono ?_; rw [HF.out]; rintro e w' ⟨rfl, hxl⟩; obtain ⟨xl, rfl⟩ := hxl.asLater; clear hxl)
                    go_roundw
                    case rel => exact ⟨k + 1, by omega, by go_num, (by (repeat (first | with_reducible exact HXr.out | with_reducible exact Ext.refl _ | with_reducible refine Ext.drew ?_ | with_reducible refine Ext.drewN ?_ _ | with_reducible refine Ext.alloc ?_ _ | with_reducible refine Ext.onto ?_ _ | (with_reducible refine Ext.setCells ?_ ?_ _ _; rotate_left; focus (first | omega | (simp; done) | (simp; omega))) | (with_reducible refine Ext.setCell ?_ ?_ _; rotate_left; focus (first | omega | (simp; done) | (simp; omega)))))), (by (repeat (first | with_reducible exact H5r.out | with_reducible refine RowAt.drew ?_ | with_reducible refine RowAt.later ?_ _ | with_reducible exact RowAt.newAt (by first | rfl | omega | (simp [later_size, setCells_size]; done) | (simp [later_size, setCells_size]; omega)) | with_reducible refine RowAt.alloc ?_ _ | with_reducible apply RowAt.store | with_reducible refine RowAt.others ?_ ?_ _ _ | with_reducible refine RowAt.other ?_ ?_ _)); all_goals first | omega | (simp; done) | (simp; omega) | (simp [go_sem]; done)), HY⟩
                    case measure => simp [intOf]; omega
                  | false =>
                    have HF := Lib.hid hh
                    have HV : Hid (validB e l = false) := Lib.hid (by
                      have hzf := HZN.out (by rw [zeroAt, hh, hbt]; simp; omega)
                      rw [HV0.out, hzf, Bool.false_and, Bool.false_and])
                    clear hx h5 hbt hz hh
                    go_wp2_with (go_at_call 44; refine (rhas_any A c l _ _ hl HRw.out).mono ?_; rw [HF.out]; rintro e w' ⟨rfl, hxl⟩; obtain ⟨xl, rfl⟩ := hxl.asLater; clear hxl)
                    go_ret
                    exact ⟨ret_bool (by rw [HV.out]), (by (repeat (first | with_reducible exact HXr.out | with_reducible exact Ext.refl _ | with_reducible refine Ext.drew ?_ | with_reducible refine Ext.drewN ?_ _ | with_reducible refine Ext.alloc ?_ _ | with_reducible refine Ext.onto ?_ _ | (with_reducible refine Ext.setCells ?_ ?_ _ _; rotate_left; focus (first | omega | (simp; done) | (simp; omega))) | (with_reducible refine Ext.setCell ?_ ?_ _; rotate_left; focus (first | omega | (simp; done) | (simp; omega))))))⟩
              · have HV1 : Hid (validB e l = ((e.whole == fullB l e.st.size) && (!(fullB l e.st.size) || decide (Wire.digest 34 [bts e.bytes] = e.st.body)))) := Lib.hid (by
                  rw [HV0.out, zeroB_yes (fun j hj => HZ.out j (by omega)), Bool.true_and])
                have hrow : rowOf wr w.heap.size 0 45 = some (entC e) := h5.all (ent_size e).symm (by omega)
                have c44 : wr.cell? ⟨w.heap.size, 44, none⟩ = some (.bool e.whole) := (h5.cell 44).trans (ent_g44 e)
                have HRL := Lib.hid ((HRd.out.ext hx (Nat.le_refl _)).up hx.size)
                cases hfu : fullB l e.st.size with
                | false =>
                  have HFu := Lib.hid hfu
                  cases hw : e.whole with
                  | true =>
                    have HV : Hid (validB e l = false) := Lib.hid (by rw [HV1.out, hfu, hw]; rfl)
                    rw [hw] at c44
                    clear hx h5 hfu hw
                    go_wp2_with (go_at_call 56; refine (rfull_any e A c l _ HHV.out hl (by omega) HRL.out).mono ?_; rw [HFu.out]; rintro e w' ⟨rfl, hxl⟩; obtain ⟨xl, rfl⟩ := hxl.asLater; clear hxl)
                    go_ret
                    exact ⟨ret_bool (by rw [HV.out]), (by (repeat (first | with_reducible exact HXr.out | with_reducible exact Ext.refl _ | with_reducible refine Ext.drew ?_ | with_reducible refine Ext.drewN ?_ _ | with_reducible refine Ext.alloc ?_ _ | with_reducible refine Ext.onto ?_ _ | (with_reducible refine Ext.setCells ?_ ?_ _ _; rotate_left; focus (first | omega | (simp; done) | (simp; omega))) | (with_reducible refine Ext.setCell ?_ ?_ _; rotate_left; focus (first | omega | (simp; done) | (simp; omega))))))⟩
                  | false =>
                    have HV : Hid (validB e l = true) := Lib.hid (by rw [HV1.out, hfu, hw]; rfl)
                    rw [hw] at c44
                    clear hx h5 hfu hw
                    go_wp2_with (go_at_call 56; refine (rfull_any e A c l _ HHV.out hl (by omega) HRL.out).mono ?_; rw [HFu.out]; rintro e w' ⟨rfl, hxl⟩; obtain ⟨xl, rfl⟩ := hxl.asLater; clear hxl)
                    refine wp_region_later (by kernel_rfl) (by kernel_rfl) ?_
                    repeat (first | go_big_quiet_step (fail) | quiet_step (fail))
                    refine wpQuiet_nil ?_
                    rintro _ ⟨xq, rfl⟩
                    go_wp2
                    go_ret
                    exact ⟨ret_bool (by rw [HV.out]), (by (repeat (first | with_reducible exact HXr.out | with_reducible exact Ext.refl _ | with_reducible refine Ext.drew ?_ | with_reducible refine Ext.drewN ?_ _ | with_reducible refine Ext.alloc ?_ _ | with_reducible refine Ext.onto ?_ _ | (with_reducible refine Ext.setCells ?_ ?_ _ _; rotate_left; focus (first | omega | (simp; done) | (simp; omega))) | (with_reducible refine Ext.setCell ?_ ?_ _; rotate_left; focus (first | omega | (simp; done) | (simp; omega))))))⟩
                | true =>
                  have HFu := Lib.hid hfu
                  cases hw : e.whole with
                  | false =>
                    have HV : Hid (validB e l = false) := Lib.hid (by rw [HV1.out, hfu, hw]; rfl)
                    rw [hw] at c44
                    clear hx h5 hfu hw
                    go_wp2_with (go_at_call 56; refine (rfull_any e A c l _ HHV.out hl (by omega) HRL.out).mono ?_; rw [HFu.out]; rintro e w' ⟨rfl, hxl⟩; obtain ⟨xl, rfl⟩ := hxl.asLater; clear hxl)
                    go_ret
                    exact ⟨ret_bool (by rw [HV.out]), (by (repeat (first | with_reducible exact HXr.out | with_reducible exact Ext.refl _ | with_reducible refine Ext.drew ?_ | with_reducible refine Ext.drewN ?_ _ | with_reducible refine Ext.alloc ?_ _ | with_reducible refine Ext.onto ?_ _ | (with_reducible refine Ext.setCells ?_ ?_ _ _; rotate_left; focus (first | omega | (simp; done) | (simp; omega))) | (with_reducible refine Ext.setCell ?_ ?_ _; rotate_left; focus (first | omega | (simp; done) | (simp; omega))))))⟩
                  | true =>
                    have HV : Hid (validB e l = decide (Wire.digest 34 [bts e.bytes] = e.st.body)) := Lib.hid (by rw [HV1.out, hfu, hw]; rfl)
                    rw [hw] at c44
                    have hq := eq_dig (digest_length 34 [bts e.bytes]) HB.out (digest_byt 34 [bts e.bytes]) HBy.out
                    have hbd : rowOf wr w.heap.size 4 16 = some (dgC e.st.body) := by rw [h5.row, if_neg (by omega), ent_body]
                    have HKr : Hid (RKonst wr) := Lib.hid (HK.out.ext hx)
                    clear hx h5 hfu hw
                    go_wp2_with (go_at_call 56; refine (rfull_any e A c l _ HHV.out hl (by omega) HRL.out).mono ?_; rw [HFu.out]; rintro e w' ⟨rfl, hxl⟩; obtain ⟨xl, rfl⟩ := hxl.asLater; clear hxl)
                    generalize hDD : Wire.digest 34 [bts e.bytes] = D at *
                    have HDD := Lib.hid hDD
                    clear hDD
                    refine wp_region_later (by kernel_rfl) (by kernel_rfl) ?_
                    repeat (first | go_big_quiet_step ((go_at_call 20; exact quietE (rdigest_is e.bytes D _ (RowAt.ext HKr.out (by exact ((Ext.refl _).onto _).onto _)) h4 HDD.out))) | quiet_step ((go_at_call 20; exact quietE (rdigest_is e.bytes D _ (RowAt.ext HKr.out (by exact ((Ext.refl _).onto _).onto _)) h4 HDD.out))))
                    refine wpQuiet_nil ?_
                    rintro _ ⟨xq, rfl⟩
                    go_wp2
                    go_ret
                    exact ⟨ret_bool (by rw [HV.out]), (by (repeat (first | with_reducible exact HXr.out | with_reducible exact Ext.refl _ | with_reducible refine Ext.drew ?_ | with_reducible refine Ext.drewN ?_ _ | with_reducible refine Ext.alloc ?_ _ | with_reducible refine Ext.onto ?_ _ | (with_reducible refine Ext.setCells ?_ ?_ _ _; rotate_left; focus (first | omega | (simp; done) | (simp; omega))) | (with_reducible refine Ext.setCell ?_ ?_ _; rotate_left; focus (first | omega | (simp; done) | (simp; omega))))))⟩
          · obtain ⟨b, off, rfl, hbb, _, cl⟩ := ReadsSp.cell (HRd.out.ext hx (Nat.le_refl _)) (l.length - 1) (by omega)
            have hgl : l.getD (l.length - 1) (0, 0) = l[l.length - 1] := by simp [show l.length - 1 < l.length by omega]
            have hp0 : 0 < l.length := by omega
            by_cases hla : e.st.size < l[l.length - 1].2
            · have hlf : lastB l e.st.size = false := by
                simp only [lastB, hgl, Bool.or_eq_false_iff, decide_eq_false_iff_not]
                exact ⟨h0, by omega⟩
              have HV : Hid (validB e l = false) := Lib.hid (by rw [HV0.out, hlf, Bool.false_and, Bool.false_and, Bool.false_and])
              clear hlf
              generalize l[l.length - 1] = s at *
              clear hx h5 hv hgl h0
              refine wp_region_later (by kernel_rfl) (by kernel_rfl) ?_
              repeat (first | go_big_quiet_step (fail) | quiet_step (fail))
              refine wpQuiet_nil ?_
              rintro _ ⟨xq, rfl⟩
              go_wp2
              go_ret
              exact ⟨ret_bool (by rw [HV.out]), (by (repeat (first | with_reducible exact HX.out | with_reducible exact Ext.refl _ | with_reducible refine Ext.drew ?_ | with_reducible refine Ext.drewN ?_ _ | with_reducible refine Ext.alloc ?_ _ | with_reducible refine Ext.onto ?_ _ | (with_reducible refine Ext.setCells ?_ ?_ _ _; rotate_left; focus (first | omega | (simp; done) | (simp; omega))) | (with_reducible refine Ext.setCell ?_ ?_ _; rotate_left; focus (first | omega | (simp; done) | (simp; omega))))))⟩
            · have hlf : lastB l e.st.size = true := by
                simp only [lastB, hgl, Bool.or_eq_true, decide_eq_true_eq]
                exact .inr (by omega)
              rw [hlf, Bool.true_and] at HV0
              generalize l[l.length - 1] = s at *
              clear h5 hv hgl h0 hlf
              refine wp_region_later (by kernel_rfl) (by kernel_rfl) ?_
              repeat (first | go_big_quiet_step (fail) | quiet_step (fail))
              refine wpQuiet_nil ?_
              rintro _ ⟨xq, rfl⟩
              go_wp2
              refine wp_world (fun W2 => Ext w W2 ∧ RowAt W2 w.heap.size (entC e)) ⟨(by (repeat (first | with_reducible exact HX.out | with_reducible exact Ext.refl _ | with_reducible refine Ext.drew ?_ | with_reducible refine Ext.drewN ?_ _ | with_reducible refine Ext.alloc ?_ _ | with_reducible refine Ext.onto ?_ _ | (with_reducible refine Ext.setCells ?_ ?_ _ _; rotate_left; focus (first | omega | (simp; done) | (simp; omega))) | (with_reducible refine Ext.setCell ?_ ?_ _; rotate_left; focus (first | omega | (simp; done) | (simp; omega)))))), (by (repeat (first | with_reducible exact H5.out | with_reducible refine RowAt.drew ?_ | with_reducible refine RowAt.later ?_ _ | with_reducible exact RowAt.newAt (by first | rfl | omega | (simp [later_size, setCells_size]; done) | (simp [later_size, setCells_size]; omega)) | with_reducible refine RowAt.alloc ?_ _ | with_reducible apply RowAt.store | with_reducible refine RowAt.others ?_ ?_ _ _ | with_reducible refine RowAt.other ?_ ?_ _)); all_goals first | omega | (simp; done) | (simp; omega) | (simp [go_sem]; done))⟩ ?_
              rintro W2 ⟨hx2, h52⟩
              have HX2 := Lib.hid hx2
              have H52 := Lib.hid h52
              clear hx2 h52 c42 c3 hszW
              go_loopw [5] (fun i wr => ∃ k : Nat, k ≤ e.bytes.size ∧ i = .int .i64 k ∧ Ext w wr ∧ RowAt wr w.heap.size (entC e) ∧ Hid (∀ j, j < k → zeroAt e.bytes l j = true)) (fun i _ => e.bytes.size - (intOf i).toNat)
              case atStart => exact ⟨0, Nat.zero_le _, rfl, HX2.out, H52.out, Lib.hid (fun j hj => absurd hj (Nat.not_lt_zero _))⟩
              case round =>
                obtain ⟨k, hk, rfl, hx, h5, HZ⟩ := hrel
                have HXr := Lib.hid hx
                have H5r := Lib.hid h5
                have c42 : wr.cell? ⟨w.heap.size, 42, none⟩ = some (.slice (some ⟨b, off, none⟩) l.length c) := (h5.cell 42).trans (by rw [ent_g42, HHV.out])
                have c43 : wr.cell? ⟨w.heap.size, 43, none⟩ = some (.string e.bytes) := (h5.cell 43).trans (ent_g43 e)
                have hszr := h5.lt
                have HRw := Lib.hid ((HRd.out.ext hx (Nat.le_refl _)).up hx.size)
                by_cases hlt : k < e.bytes.size
                · have hbt := bts_get e.bytes k hlt
                  have HZY : Hid (zeroAt e.bytes l k = true → ∀ j, j < k + 1 → zeroAt e.bytes l j = true) := Lib.hid (fun h j hj => by
                    by_cases ej : j = k
                    · rw [ej]; exact h
                    · exact HZ.out j (by omega))
                  have HZN : Hid (zeroAt e.bytes l k = false → zeroB e.bytes l = false) := Lib.hid (zeroB_no hlt)
                  by_cases hz : (e.bytes[k].toNat : Int) = 0
                  · have HY := Lib.hid (HZY.out (by rw [zeroAt, hbt, hz]; rfl))
                    have hne : ((e.bytes[k].toNat : Int) != 0) = false := by rw [bne_eq_false_iff_eq]; exact hz
                    clear hx h5 hbt hz
                    go_wp2
                    go_roundw
                    case rel => exact ⟨k + 1, by omega, by go_num, HXr.out, H5r.out, HY⟩
                    case measure => simp [intOf]; omega
                  · have hne : ((e.bytes[k].toNat : Int) != 0) = true := by rw [bne_iff_ne]; exact hz
                    cases hh : hasB l k with
                    | true =>
                      have HF := Lib.hid hh
                      have HY := Lib.hid (HZY.out (by rw [zeroAt, hh, Bool.or_true]))
                      clear hx h5 hbt hz hh
                      go_wp2_with (go_at_call 44; refine (rhas_any (some ⟨b, off, none⟩) c l _ _ hl HRw.out).mono ?_; rw [HF.out]; rintro e w' ⟨rfl, hxl⟩; obtain ⟨xl, rfl⟩ := hxl.asLater; clear hxl)
                      go_roundw
                      case rel => exact ⟨k + 1, by omega, by go_num, (by (repeat (first | with_reducible exact HXr.out | with_reducible exact Ext.refl _ | with_reducible refine Ext.drew ?_ | with_reducible refine Ext.drewN ?_ _ | with_reducible refine Ext.alloc ?_ _ | with_reducible refine Ext.onto ?_ _ | (with_reducible refine Ext.setCells ?_ ?_ _ _; rotate_left; focus (first | omega | (simp; done) | (simp; omega))) | (with_reducible refine Ext.setCell ?_ ?_ _; rotate_left; focus (first | omega | (simp; done) | (simp; omega)))))), (by (repeat (first | with_reducible exact H5r.out | with_reducible refine RowAt.drew ?_ | with_reducible refine RowAt.later ?_ _ | with_reducible exact RowAt.newAt (by first | rfl | omega | (simp [later_size, setCells_size]; done) | (simp [later_size, setCells_size]; omega)) | with_reducible refine RowAt.alloc ?_ _ | with_reducible apply RowAt.store | with_reducible refine RowAt.others ?_ ?_ _ _ | with_reducible refine RowAt.other ?_ ?_ _)); all_goals first | omega | (simp; done) | (simp; omega) | (simp [go_sem]; done)), HY⟩
                      case measure => simp [intOf]; omega
                    | false =>
                      have HF := Lib.hid hh
                      have HV : Hid (validB e l = false) := Lib.hid (by
                        have hzf := HZN.out (by rw [zeroAt, hh, hbt]; simp; omega)
                        rw [HV0.out, hzf, Bool.false_and, Bool.false_and])
                      clear hx h5 hbt hz hh
                      go_wp2_with (go_at_call 44; refine (rhas_any (some ⟨b, off, none⟩) c l _ _ hl HRw.out).mono ?_; rw [HF.out]; rintro e w' ⟨rfl, hxl⟩; obtain ⟨xl, rfl⟩ := hxl.asLater; clear hxl)
                      go_ret
                      exact ⟨ret_bool (by rw [HV.out]), (by (repeat (first | with_reducible exact HXr.out | with_reducible exact Ext.refl _ | with_reducible refine Ext.drew ?_ | with_reducible refine Ext.drewN ?_ _ | with_reducible refine Ext.alloc ?_ _ | with_reducible refine Ext.onto ?_ _ | (with_reducible refine Ext.setCells ?_ ?_ _ _; rotate_left; focus (first | omega | (simp; done) | (simp; omega))) | (with_reducible refine Ext.setCell ?_ ?_ _; rotate_left; focus (first | omega | (simp; done) | (simp; omega))))))⟩
                · have HV1 : Hid (validB e l = ((e.whole == fullB l e.st.size) && (!(fullB l e.st.size) || decide (Wire.digest 34 [bts e.bytes] = e.st.body)))) := Lib.hid (by
                    rw [HV0.out, zeroB_yes (fun j hj => HZ.out j (by omega)), Bool.true_and])
                  have hrow : rowOf wr w.heap.size 0 45 = some (entC e) := h5.all (ent_size e).symm (by omega)
                  have c44 : wr.cell? ⟨w.heap.size, 44, none⟩ = some (.bool e.whole) := (h5.cell 44).trans (ent_g44 e)
                  have HRL := Lib.hid ((HRd.out.ext hx (Nat.le_refl _)).up hx.size)
                  cases hfu : fullB l e.st.size with
                  | false =>
                    have HFu := Lib.hid hfu
                    cases hw : e.whole with
                    | true =>
                      have HV : Hid (validB e l = false) := Lib.hid (by rw [HV1.out, hfu, hw]; rfl)
                      rw [hw] at c44
                      clear hx h5 hfu hw
                      go_wp2_with (go_at_call 56; refine (rfull_any e (some ⟨b, off, none⟩) c l _ HHV.out hl (by omega) HRL.out).mono ?_; rw [HFu.out]; rintro e w' ⟨rfl, hxl⟩; obtain ⟨xl, rfl⟩ := hxl.asLater; clear hxl)
                      go_ret
                      exact ⟨ret_bool (by rw [HV.out]), (by (repeat (first | with_reducible exact HXr.out | with_reducible exact Ext.refl _ | with_reducible refine Ext.drew ?_ | with_reducible refine Ext.drewN ?_ _ | with_reducible refine Ext.alloc ?_ _ | with_reducible refine Ext.onto ?_ _ | (with_reducible refine Ext.setCells ?_ ?_ _ _; rotate_left; focus (first | omega | (simp; done) | (simp; omega))) | (with_reducible refine Ext.setCell ?_ ?_ _; rotate_left; focus (first | omega | (simp; done) | (simp; omega))))))⟩
                    | false =>
                      have HV : Hid (validB e l = true) := Lib.hid (by rw [HV1.out, hfu, hw]; rfl)
                      rw [hw] at c44
                      clear hx h5 hfu hw
                      go_wp2_with (go_at_call 56; refine (rfull_any e (some ⟨b, off, none⟩) c l _ HHV.out hl (by omega) HRL.out).mono ?_; rw [HFu.out]; rintro e w' ⟨rfl, hxl⟩; obtain ⟨xl, rfl⟩ := hxl.asLater; clear hxl)
                      refine wp_region_later (by kernel_rfl) (by kernel_rfl) ?_
                      repeat (first | go_big_quiet_step (fail) | quiet_step (fail))
                      refine wpQuiet_nil ?_
                      rintro _ ⟨xq, rfl⟩
                      go_wp2
                      go_ret
                      exact ⟨ret_bool (by rw [HV.out]), (by (repeat (first | with_reducible exact HXr.out | with_reducible exact Ext.refl _ | with_reducible refine Ext.drew ?_ | with_reducible refine Ext.drewN ?_ _ | with_reducible refine Ext.alloc ?_ _ | with_reducible refine Ext.onto ?_ _ | (with_reducible refine Ext.setCells ?_ ?_ _ _; rotate_left; focus (first | omega | (simp; done) | (simp; omega))) | (with_reducible refine Ext.setCell ?_ ?_ _; rotate_left; focus (first | omega | (simp; done) | (simp; omega))))))⟩
                  | true =>
                    have HFu := Lib.hid hfu
                    cases hw : e.whole with
                    | false =>
                      have HV : Hid (validB e l = false) := Lib.hid (by rw [HV1.out, hfu, hw]; rfl)
                      rw [hw] at c44
                      clear hx h5 hfu hw
                      go_wp2_with (go_at_call 56; refine (rfull_any e (some ⟨b, off, none⟩) c l _ HHV.out hl (by omega) HRL.out).mono ?_; rw [HFu.out]; rintro e w' ⟨rfl, hxl⟩; obtain ⟨xl, rfl⟩ := hxl.asLater; clear hxl)
                      go_ret
                      exact ⟨ret_bool (by rw [HV.out]), (by (repeat (first | with_reducible exact HXr.out | with_reducible exact Ext.refl _ | with_reducible refine Ext.drew ?_ | with_reducible refine Ext.drewN ?_ _ | with_reducible refine Ext.alloc ?_ _ | with_reducible refine Ext.onto ?_ _ | (with_reducible refine Ext.setCells ?_ ?_ _ _; rotate_left; focus (first | omega | (simp; done) | (simp; omega))) | (with_reducible refine Ext.setCell ?_ ?_ _; rotate_left; focus (first | omega | (simp; done) | (simp; omega))))))⟩
                    | true =>
                      have HV : Hid (validB e l = decide (Wire.digest 34 [bts e.bytes] = e.st.body)) := Lib.hid (by rw [HV1.out, hfu, hw]; rfl)
                      rw [hw] at c44
                      have hq := eq_dig (digest_length 34 [bts e.bytes]) HB.out (digest_byt 34 [bts e.bytes]) HBy.out
                      have hbd : rowOf wr w.heap.size 4 16 = some (dgC e.st.body) := by rw [h5.row, if_neg (by omega), ent_body]
                      have HKr : Hid (RKonst wr) := Lib.hid (HK.out.ext hx)
                      clear hx h5 hfu hw
                      go_wp2_with (go_at_call 56; refine (rfull_any e (some ⟨b, off, none⟩) c l _ HHV.out hl (by omega) HRL.out).mono ?_; rw [HFu.out]; rintro e w' ⟨rfl, hxl⟩; obtain ⟨xl, rfl⟩ := hxl.asLater; clear hxl)
                      generalize hDD : Wire.digest 34 [bts e.bytes] = D at *
                      have HDD := Lib.hid hDD
                      clear hDD
                      refine wp_region_later (by kernel_rfl) (by kernel_rfl) ?_
                      repeat (first | go_big_quiet_step ((go_at_call 20; exact quietE (rdigest_is e.bytes D _ (RowAt.ext HKr.out (by exact ((Ext.refl _).onto _).onto _)) h4 HDD.out))) | quiet_step ((go_at_call 20; exact quietE (rdigest_is e.bytes D _ (RowAt.ext HKr.out (by exact ((Ext.refl _).onto _).onto _)) h4 HDD.out))))
                      refine wpQuiet_nil ?_
                      rintro _ ⟨xq, rfl⟩
                      go_wp2
                      go_ret
                      exact ⟨ret_bool (by rw [HV.out]), (by (repeat (first | with_reducible exact HXr.out | with_reducible exact Ext.refl _ | with_reducible refine Ext.drew ?_ | with_reducible refine Ext.drewN ?_ _ | with_reducible refine Ext.alloc ?_ _ | with_reducible refine Ext.onto ?_ _ | (with_reducible refine Ext.setCells ?_ ?_ _ _; rotate_left; focus (first | omega | (simp; done) | (simp; omega))) | (with_reducible refine Ext.setCell ?_ ?_ _; rotate_left; focus (first | omega | (simp; done) | (simp; omega))))))⟩
        · have HV : Hid (validB e l = false) := Lib.hid (by simp [validB, hst, hrt, hn])
          have hne : ((e.bytes.size : Int) != e.st.size) = true := by rw [bne_iff_ne]; exact hn
          clear hst hrt hn
          go_enter Tryz.func14, Tryz.ntmps14
          go_wp2_with (first
            | (go_at_call 17; refine (rright_any _ _ (by omega) (by omega) (by omega)).mono ?_; rw [HRt.out]; rintro e w' ⟨rfl, hxl⟩; obtain ⟨xl, rfl⟩ := hxl.asLater; clear hxl)
            | (go_at_call 27; refine (rvalid_any A c l _ hl (HRd.out.on (by (repeat (first | with_reducible exact Ext.refl _ | with_reducible exact Ext.refl _ | with_reducible refine Ext.drew ?_ | with_reducible refine Ext.drewN ?_ _ | with_reducible refine Ext.alloc ?_ _ | with_reducible refine Ext.onto ?_ _ | (with_reducible refine Ext.setCells ?_ ?_ _ _; rotate_left; focus (first | omega | (simp; done) | (simp; omega))) | (with_reducible refine Ext.setCell ?_ ?_ _; rotate_left; focus (first | omega | (simp; done) | (simp; omega)))))))).mono ?_; rw [HSt.out]; rintro e w' ⟨rfl, hxl⟩; obtain ⟨xl, rfl⟩ := hxl.asLater; clear hxl))
          go_ret
          exact ⟨ret_bool (by rw [HV.out]), (by (repeat (first | with_reducible exact Ext.refl _ | with_reducible exact Ext.refl _ | with_reducible refine Ext.drew ?_ | with_reducible refine Ext.drewN ?_ _ | with_reducible refine Ext.alloc ?_ _ | with_reducible refine Ext.onto ?_ _ | (with_reducible refine Ext.setCells ?_ ?_ _ _; rotate_left; focus (first | omega | (simp; done) | (simp; omega))) | (with_reducible refine Ext.setCell ?_ ?_ _; rotate_left; focus (first | omega | (simp; done) | (simp; omega))))))⟩
end Go.Proofs.YthhblgjbgjceiaaGreatDoor
