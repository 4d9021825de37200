/- Walks of the specification's hash: digests. -/
import Derived.Test.YtpjacgcaibaggaaGreatDoorProg
import Derived.Test.YtpjacgcaibaggaaGreatDoorExt
import Derived.WalkKit
import Derived.WalkSpells
import Derived.WalkLawsBesides
import Derived.Deep.QuietTactic
import Derived.BigQuiet
import Derived.Test.YtpjacgcaibaggaaGreatDoorRhc
set_option linter.unusedVariables false
set_option linter.unusedSimpArgs false
namespace Go.Proofs.YtpjacgcaibaggaaGreatDoor
open Go.RowKit
open Go.Proofs

def digAt (d : List Int) (i : Nat) : List Int := d.take i ++ zeros32 (16 - i)
theorem digAt_length {d : List Int} (hd : d.length = 32) {i : Nat} (h : i ≤ 16) : (digAt d i).length = 16 := by
  simp [digAt, zeros32, hd]
  omega
theorem digAt_set {d : List Int} (hd : d.length = 32) {i : Nat} (h : i < 16) : (digAt d i).set i (d.getD i 0) = digAt d (i + 1) := by
  unfold digAt
  rw [List.set_append_right _ _ (by simp [hd]; omega)]
  have e : i - (d.take i).length = 0 := by simp [hd]; omega
  have e2 : d.take (i + 1) = d.take i ++ [d.getD i 0] := by
    rw [List.take_succ_eq_append_getElem (by omega)]
    simp [show i < d.length by omega]
  rw [e, e2, zeros32, zeros32, show 16 - i = (16 - (i + 1)) + 1 by omega, List.replicate_succ, List.set_cons_zero]
  simp
theorem digAt_all (d : List Int) : digAt d 16 = d.take 16 := by simp [digAt, zeros32]
theorem zero_dig : #[Value.int .u8 0, Value.int .u8 0, Value.int .u8 0, Value.int .u8 0, Value.int .u8 0, Value.int .u8 0, Value.int .u8 0, Value.int .u8 0, Value.int .u8 0, Value.int .u8 0, Value.int .u8 0, Value.int .u8 0, Value.int .u8 0, Value.int .u8 0, Value.int .u8 0, Value.int .u8 0] = cells8 (zeros32 16) := rfl
attribute [local go_sem] zero_dig

set_option maxRecDepth 100000 in
set_option maxHeartbeats 2000000 in
theorem short_ok (m : List Int) (A : Option Addr) (c : Nat) (w : World) (hk : RKonst w) (hr : ReadsB w w.heap.size A m) (hA : A = none → c = 0) (hlen : m.length < 140737488355000) (hm : ∀ x ∈ m, 0 ≤ x ∧ x < 256) :
    Calls Tryz.prog 105 #[.slice A m.length c] w fun e w' => e = .returned (.agg (cells8 ((Sha.sha m).take 16))) ∧ Ext w w' := by
  have HK := Lib.hid hk
  have HR := Lib.hid hr
  have HA := Lib.hid hA
  have HM := Lib.hid hm
  clear hk hr hA hm
  have hsl := Sha.sha_length m
  have hf32 : fitsRow 32 (cells8 (Sha.sha m)) = true := fits8 hsl
  go_enter Tryz.func105, Tryz.ntmps105
  go_upto_region 3 with (go_at_call 137; refine (rsum_ok m A c _ (HK.out.alloc _) (HR.out.on ((Ext.refl _).alloc _)) HA.out hlen HM.out).mono ?_; rintro e w' ⟨rfl, hxl⟩; obtain ⟨xl, rfl⟩ := hxl.asLater; clear hxl)
  refine wp_world (fun W => Ext w W ∧ RowAt W w.heap.size (cells8 (zeros32 16)) ∧ RowAt W (w.heap.size + 1 + xl.n) (cells8 (Sha.sha m)) ∧ RowAt W (w.heap.size + 1 + xl.n + 1) (cells8 (digAt (Sha.sha m) 0)))
    ⟨(by (repeat (first | with_reducible exact Ext.refl _ | with_reducible exact Ext.refl _ | with_reducible refine Ext.drew ?_ | with_reducible refine Ext.drewN ?_ _ | with_reducible refine Ext.alloc ?_ _ | with_reducible refine Ext.onto ?_ _ | (with_reducible refine Ext.setCells ?_ ?_ _ _; rotate_left; focus (first | omega | (simp; done) | (simp; omega))) | (with_reducible refine Ext.setCell ?_ ?_ _; rotate_left; focus (first | omega | (simp; done) | (simp; omega)))))), ((((((RowAt.new w _ _).later _).alloc _).others (by omega) _ _).alloc _).others (by omega) _ _), ((((RowAt.newAt (cs := cells8 (zeros32 32)) (by rw [later_size, World.size_alloc])).store (by rw [cells8_size, cells8_size, hsl, zeros32_length])).alloc _).others (by omega) _ _),
      (RowAt.newAt (cs := cells8 (zeros32 16)) (by rw [setCells_size, World.size_alloc, later_size, World.size_alloc])).store rfl⟩ ?_
  rintro W ⟨hx, h0, h1, h3⟩
  have HXa := Lib.hid hx
  have HZa := Lib.hid h0
  have HCa := Lib.hid h1
  have HOa := Lib.hid h3
  have hbo : w.heap.size + 1 ≤ w.heap.size + 1 + xl.n := by omega
  clear hx h0 h1 h3 hf32
  generalize w.heap.size + 1 + xl.n = bo at *
  generalize hdm : Sha.sha m = d at *
  have HDM := Lib.hid hdm
  clear hdm
  go_wp2
  go_loopw [5] (fun i wq => ∃ k : Nat, k ≤ 16 ∧ i = .int .i64 k ∧ Ext w wq ∧ RowAt wq w.heap.size (cells8 (zeros32 16)) ∧ RowAt wq bo (cells8 d) ∧ RowAt wq (bo + 1) (cells8 (digAt d k))) (fun i _ => 16 - (intOf i).toNat)
  case atStart => exact ⟨0, by omega, rfl, HXa.out, HZa.out, HCa.out, HOa.out⟩
  case round =>
    obtain ⟨i, hi, rfl, hx, h0, h1, h3⟩ := hrel
    have HX' := Lib.hid hx
    have HZ' := Lib.hid h0
    have HC' := Lib.hid h1
    have HO' := Lib.hid h3
    by_cases hi16 : i < 16
    · have hcw : wr.cell? ⟨bo, i, none⟩ = some (.int .u8 (d.getD i 0)) := by rw [h1.cell, cells8_get, if_pos (by omega)]
      have HG := Lib.hid (digAt_set hsl hi16)
      generalize d.getD i 0 = x at hcw HG
      have hcx : wr.cell? ⟨bo + 1, i, none⟩ = some (.int .u8 ((digAt d i).getD i 0)) := by rw [h3.cell, cells8_get, digAt_length hsl hi, if_pos hi16]
      have hfx := h3.free
      have hl1' := h1.lt
      have hl3' := h3.lt
      clear hx h0 h1 h3
      go_wp2
      go_roundw
      case rel => exact ⟨i + 1, by omega, by go_num, HX'.out.setCell (by show w.heap.size ≤ bo + 1; omega) _, HZ'.out.other (by show w.heap.size ≠ bo + 1; omega) _, HC'.out.other (by show bo ≠ bo + 1; omega) _, HO'.out.set8 HG.out⟩
      case measure => simp [intOf]; omega
    · have e16 : i = 16 := by omega
      subst e16
      rw [digAt_all] at h3
      have htl : (d.take 16).length = 16 := by rw [List.length_take]; omega
      generalize hD : d.take 16 = D at *
      have HD := Lib.hid hD
      have r16 : rowOf wr (bo + 1) 0 16 = some (cells8 D) := h3.all (by rw [cells8_size, htl]) (by omega)
      have m16 : roomOf wr w.heap.size 0 16 = true := by rw [h0.room]; rfl
      have hf16 : fitsRow 16 (cells8 D) = true := fits8 htl
      have rr := Lib.hid (h0.stored (n := 16) (ds := cells8 D) (by rw [cells8_size, cells8_size, htl, zeros32_length]) (by rw [cells8_size, htl]) (by omega))
      have hl2' := h0.lt
      clear hx h0 h1 h3 hD
      go_wp2
      refine post_row dig_ty Tryz.results105 rfl rfl rr.out ⟨by rw [HDM.out, HD.out], HX'.out.setCells (Nat.le_refl _) _ _⟩

theorem input_ok (tag : Int) (A : Option Addr) (c : Nat) (l : List ByteArray) (w : World) (hr : ReadsS w w.heap.size A l) (hl : lens l < 140737488351232) :
    Calls Tryz.prog 106 #[.int .i64 tag, .slice A l.length c] w (BytesIs (inputS tag l) w) := by
  have HR := Lib.hid hr
  have hll := lens_length l
  clear hr
  go_enter Tryz.func106, Tryz.ntmps106
  go_wp2
  go_loopw [5, 6] (fun v j wr => ∃ k : Nat, k ≤ l.length ∧ j = .int .i64 k ∧ OwnRel w w.heap.size (inputS tag (l.take k)) wr v) (fun _ j _ => l.length - (intOf j).toNat)
  case atStart => exact ⟨0, Nat.zero_le _, rfl, some ⟨w.heap.size, 0, none⟩, 1, [tag % 256], Lib.hid rfl, rfl, Owns.fresh bE rfl (Nat.le_refl _) rfl rfl (by omega), (Ext.refl _).alloc _⟩
  case round =>
    obtain ⟨k, hk, rfl, A3, c3, l3, HL3, rfl, ho, hx⟩ := hrel
    have hml := inputS_len tag (l.take k)
    rw [← HL3.out] at hml
    have HO := Lib.hid ho
    have HX := Lib.hid hx
    have hsz := hx.size
    by_cases hlt : k < l.length
    · have HRw := HR.out.ext hx (Nat.le_refl _)
      obtain ⟨ba, off, rfl, hba, hcs⟩ := ReadsS.cell HRw k hlt
      have HI := Lib.hid (inputS_snoc tag l k hlt)
      have hlg := lens_get l k hlt
      have hel := encS_len l[k]
      generalize hp : l[k] = p at *
      clear hp HRw ho hx
      go_wp2_with (first
        | (go_at_call 138; refine (rbytes_ok p _ (by omega)).mono ?_; rintro e w1 ⟨A1, c1, rfl, ho1, hx1⟩; have HO1 := Lib.hid ho1; have HX1 := Lib.hid hx1; have hs1 := hx1.size; clear ho1 hx1)
        | (at_builtin; refine app_reads bT bE rfl _ _ rfl w.heap.size _ _ l3 rfl (HO.out.ext HX1.out) w1.heap.size A1 c1 (Wire.encS (bts p)) rfl (HO1.out.reads bE) HO1.out.none0 (by omega) (by omega) (by omega) ?_; intro A4 c4 l4 w4 HL4 HO4 hB hl1 hl2 _; have HO4' := Lib.hid HO4; have HB4 := Lib.hid hB; clear HO4 hB))
      go_roundw
      case rel => exact ⟨k + 1, by omega, by go_num, A4, c4, l4, Lib.hid (by rw [HL4.out, HL3.out, HI.out]), rfl, HO4'.out, (HX.out.trans HX1.out).grown HB4.out (Nat.le_refl _)⟩
      case measure => simp [intOf]; omega
    · have e : k = l.length := by omega
      subst e
      have HE : Hid (l3 = inputS tag l) := Lib.hid (by rw [HL3.out, List.take_length])
      clear ho hx
      go_wp2
      go_ret
      have e := HE.out
      subst e
      exact ⟨A3, c3, rfl, HO.out, HX.out⟩

theorem inputS_byt (tag : Int) (l : List ByteArray) (hl : lens l < 140737488351232) : ∀ x ∈ inputS tag l, 0 ≤ x ∧ x < 256 := by
  intro x hx
  simp only [inputS, Wire.input, List.mem_cons, List.mem_flatMap, List.mem_map] at hx
  rcases hx with rfl | ⟨_, ⟨s, hs, rfl⟩, hx⟩
  · omega
  · obtain ⟨k, hk, rfl⟩ := List.mem_iff_getElem.1 hs
    have := lens_get l k hk
    exact encS_byt l[k] (by omega) x hx
theorem rof_ok (tag : Int) (A : Option Addr) (c : Nat) (l : List ByteArray) (w : World) (hk : RKonst w) (hr : ReadsS w w.heap.size A l) (hl : lens l < 140737488351232) :
    Calls Tryz.prog 65 #[.int .i64 tag, .slice A l.length c] w fun e w' => e = .returned (.agg (cells8 (Wire.digest tag (l.map bts)))) ∧ Ext w w' := by
  have HK := Lib.hid hk
  have HR := Lib.hid hr
  have hml := inputS_len tag l
  have HBy := Lib.hid (inputS_byt tag l hl)
  have HD : Hid ((Sha.sha (inputS tag l)).take 16 = Wire.digest tag (l.map bts)) := Lib.hid rfl
  have hd16 : (Wire.digest tag (l.map bts)).length = 16 := by rw [Wire.digest, List.length_take, Sha.sha_length]; omega
  have hfd : fitsRow 16 (cells8 (Wire.digest tag (l.map bts))) = true := fits8 hd16
  clear hk hr
  go_enter Tryz.func65, Tryz.ntmps65
  go_wp2_with (first
    | (go_at_call 106; refine (input_ok tag A c l _ (HR.out.on ((Ext.refl _).alloc _)) hl).mono ?_; rintro e w1 ⟨A1, c1, rfl, ho1, hx1⟩; have HO1 := Lib.hid ho1; obtain ⟨xl, rfl⟩ := hx1.asLater; clear ho1 hx1)
    | (go_at_call 105; refine (short_ok (inputS tag l) A1 c1 _ ((HK.out.alloc _).later _) (HO1.out.reads bE) HO1.out.none0 (by omega) HBy.out).mono ?_; rw [HD.out]; rintro e w' ⟨rfl, hxm⟩; obtain ⟨xm, rfl⟩ := hxm.asLater; clear hxm))
  generalize hDD : Wire.digest tag (l.map bts) = D at *
  refine post_row dig_ty Tryz.results65 rfl rfl (RowAt.stored (cs := cells8 (zeros32 16)) (n := 16) ((by (repeat (first | with_reducible exact rfl | with_reducible refine RowAt.drew ?_ | with_reducible refine RowAt.later ?_ _ | with_reducible exact RowAt.newAt (by first | rfl | omega | (simp [later_size, setCells_size]; done) | (simp [later_size, setCells_size]; omega)) | with_reducible refine RowAt.alloc ?_ _ | with_reducible apply RowAt.store | with_reducible refine RowAt.others ?_ ?_ _ _ | with_reducible refine RowAt.other ?_ ?_ _)); all_goals first | omega | (simp; done) | (simp; omega) | (simp [go_sem]; done))) (by rw [cells8_size, cells8_size, hd16, zeros32_length]) (by rw [cells8_size, hd16]) (by omega)) ⟨rfl, (by (repeat (first | with_reducible exact Ext.refl _ | with_reducible exact Ext.refl _ | with_reducible refine Ext.drew ?_ | with_reducible refine Ext.drewN ?_ _ | with_reducible refine Ext.alloc ?_ _ | with_reducible refine Ext.onto ?_ _ | (with_reducible refine Ext.setCells ?_ ?_ _ _; rotate_left; focus (first | omega | (simp; done) | (simp; omega))) | (with_reducible refine Ext.setCell ?_ ?_ _; rotate_left; focus (first | omega | (simp; done) | (simp; omega))))))⟩
theorem rdigest_ok (s : ByteArray) (w : World) (hk : RKonst w) (hl : s.size ≤ 140737488351200) :
    Calls Tryz.prog 29 #[.string s] w fun e w' => e = .returned (.agg (cells8 (Wire.digest 34 [bts s]))) ∧ Ext w w' := by
  have HK := Lib.hid hk
  have hd16 : (Wire.digest 34 [bts s]).length = 16 := by rw [Wire.digest, List.length_take, Sha.sha_length]; omega
  have HD : Hid (Wire.digest 34 ([s].map bts) = Wire.digest 34 [bts s]) := Lib.hid rfl
  have hfd : fitsRow 16 (cells8 (Wire.digest 34 [bts s])) = true := fits8 hd16
  clear hk
  go_enter Tryz.func29, Tryz.ntmps29
  go_wp2_with (go_at_call 65; refine (rof_ok 34 (some ⟨w.heap.size + 1, 0, none⟩) 1 [s] _ ((HK.out.alloc _).alloc _) ((Owns.fresh (base := 0) sE (by simp) (by omega) rfl rfl (by simp)).reads sE) (by simp [lens]; omega)).mono ?_; rw [HD.out]; rintro e w' ⟨rfl, hxl⟩; obtain ⟨xl, rfl⟩ := hxl.asLater; clear hxl)
  generalize hDD : Wire.digest 34 [bts s] = D at *
  refine post_row dig_ty Tryz.results29 rfl rfl (RowAt.stored (cs := cells8 (zeros32 16)) (n := 16) ((by (repeat (first | with_reducible exact rfl | with_reducible refine RowAt.drew ?_ | with_reducible refine RowAt.later ?_ _ | with_reducible exact RowAt.newAt (by first | rfl | omega | (simp [later_size, setCells_size]; done) | (simp [later_size, setCells_size]; omega)) | with_reducible refine RowAt.alloc ?_ _ | with_reducible apply RowAt.store | with_reducible refine RowAt.others ?_ ?_ _ _ | with_reducible refine RowAt.other ?_ ?_ _)); all_goals first | omega | (simp; done) | (simp; omega) | (simp [go_sem]; done))) (by rw [cells8_size, cells8_size, hd16, zeros32_length]) (by rw [cells8_size, hd16]) (by omega)) ⟨rfl, (by (repeat (first | with_reducible exact Ext.refl _ | with_reducible exact Ext.refl _ | with_reducible refine Ext.drew ?_ | with_reducible refine Ext.drewN ?_ _ | with_reducible refine Ext.alloc ?_ _ | with_reducible refine Ext.onto ?_ _ | (with_reducible refine Ext.setCells ?_ ?_ _ _; rotate_left; focus (first | omega | (simp; done) | (simp; omega))) | (with_reducible refine Ext.setCell ?_ ?_ _; rotate_left; focus (first | omega | (simp; done) | (simp; omega))))))⟩
end Go.Proofs.YtpjacgcaibaggaaGreatDoor
