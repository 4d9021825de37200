/- Walks of entries: settle. -/
import Derived.Test.YtmjdnkeloolmdaaGreatDoorProg
import Derived.Test.YtmjdnkeloolmdaaGreatDoorExt
import Derived.WalkKit
import Derived.WalkSpells
import Derived.WalkLawsBesides
import Derived.Deep.QuietTactic
import Derived.BigQuiet
import Derived.Test.YtmjdnkeloolmdaaGreatDoorEy
set_option linter.unusedVariables false
set_option linter.unusedSimpArgs false
namespace Go.Proofs.YtmjdnkeloolmdaaGreatDoor
open Go.RowKit Go.Shelf
open Go.Proofs
open Go.Proofs.Sp (Sp)

theorem coversB_uniq {l : List Sp} {s : Sp} {a b : Bool} (h : coversB l s a) (k : coversB l s b) : a = b := by
  rw [Bool.eq_iff_iff]
  exact h.trans k.symm
theorem odigest_is (s : ByteArray) (D : List Int) (w : World) (hk : Konst 0 w) (hl : s.size ≤ 140737488351200) (h : Wire.digest 34 [bts s] = D) :
    Calls Tryz.prog 33 #[.string s] w fun e w' => e = .returned (.agg (cells8 D)) ∧ Ext w w' := by subst h; exact odigest_ok s w hk hl
theorem ent_set42 (e : En) (v : Value) : (entC e).setIfInBounds 42 v = entC { e with hv := v } := by kernel_rfl
theorem ent_set43 (e : En) (v : ByteArray) : (entC e).setIfInBounds 43 (.string v) = entC { e with bytes := v } := by kernel_rfl
theorem ent_set44 (e : En) (v : Bool) : (entC e).setIfInBounds 44 (.bool v) = entC { e with whole := v } := by kernel_rfl
theorem ent_set41 (e : En) (v : Bool) : (entC e).setIfInBounds 41 (.bool v) = entC { e with soft := v } := by kernel_rfl
theorem ent_set21 (e : En) (v : Int) : (entC e).setIfInBounds 21 (.int .i64 v) = entC { e with st := { e.st with lo := v } } := by kernel_rfl

theorem ent_loaded {w : World} {b : Nat} {cs : Array Value} (h : rowOf w b 0 45 = some cs) : (loadVar 31 ⟨b, 0, none⟩).run Tryz.prog w = .ok (.agg cs) w := by rw [ent_lv, h]; rfl
attribute [go_sem] ent_set42 ent_set43 ent_set44 ent_set41 ent_set21

set_option maxRecDepth 100000 in
set_option maxHeartbeats 2000000 in
theorem settle_no (e : En) (Ae : Option Addr) (ne ce : Nat) (A : Option Addr) (c : Nat) (l : List Sp) (Ab : Option Addr) (cb : Nat) (bl : List Int) (w : World) (hv : e.hv = .slice Ae ne ce) (h0 : 0 ≤ e.st.size) (h1 : e.st.size ≤ 65536)
    (hs : Sp.IsSet l) (hb : bd2 l) (hlen : l.length * 32 ≤ 140737488330000) (hr : ReadsSp w w.heap.size A l) (z : A = none → c = 0) (hbl : 0 < bl.length) (hbl2 : bl.length ≤ 65536) (hrb : ReadsB w w.heap.size Ab bl) (hk : Konst 0 w) (hc : coversB l (0, e.st.size) false) :
    Calls Tryz.prog 61 #[.agg (entC e), .slice A l.length c, .slice Ab bl.length cb] w fun e' w' => e' = .returned (.tuple #[.agg (entC { e with hv := .slice A l.length c, bytes := strOfNums bl }), .int .i64 0]) ∧ Ext w w' := by
  have HA := Lib.hid hr
  have HZ := Lib.hid z
  have HS := Lib.hid hs
  have HBd := Lib.hid hb
  have HK := Lib.hid hk
  have HRb := Lib.hid hrb
  have HHv := Lib.hid hv
  have HC := Lib.hid hc
  have hcv1 := conv_bytes (w := ((w.alloc (.cells (entC e) 31)).alloc (.cells (entC noEn) 31)).drew) cb (HRb.out.on ((((Ext.refl w).alloc _).alloc _).drew)) hbl
  have hcv2 := conv_bytes (w := ((w.alloc (.cells (entC { e with hv := .slice A l.length c }) 31)).alloc (.cells (entC noEn) 31)).drew) cb (HRb.out.on ((((Ext.refl w).alloc _).alloc _).drew)) hbl
  clear hr z hs hb hk hrb hv hc
  have hf : fitsRow 45 (entC { e with hv := .slice A l.length c, bytes := strOfNums bl }) = true := ent_fits_of rfl
  have hsb := strOfNums_size bl
  have hsz : (strOfNums bl).size ≤ 65536 := by rw [hsb]; exact hbl2
  clear hsb
  obtain ⟨e2, he2⟩ : ∃ e2 : En, { e with hv := .slice A l.length c, bytes := strOfNums bl } = e2 := ⟨_, rfl⟩
  have hst : e2.st = e.st := by rw [← he2]
  have hso : e2.soft = e.soft := by rw [← he2]
  have hby : e2.bytes = strOfNums bl := by rw [← he2]
  go_enter Tryz.func61, Tryz.ntmps61
  go_wp2
  go_region
  have hxW : Ext w (((w.alloc (.cells (entC e2) 31)).alloc (.cells (entC noEn) 31)).drew) := (((Ext.refl w).alloc _).alloc _).drew
  have hr1 : RowAt (((w.alloc (.cells (entC e2) 31)).alloc (.cells (entC noEn) 31)).drew) w.heap.size (entC e2) := RowAt.drew (RowAt.alloc (RowAt.new _ _ _) _)
  have hr2 : RowAt (((w.alloc (.cells (entC e2) 31)).alloc (.cells (entC noEn) 31)).drew) (w.heap.size + 1) (entC noEn) := RowAt.drew (RowAt.newAt (by simp))
  generalize (((w.alloc (.cells (entC e2) 31)).alloc (.cells (entC noEn) 31)).drew) = W at hxW hr1 hr2 ⊢
  have HXW := Lib.hid hxW
  have HR1 := Lib.hid hr1
  have HR2 := Lib.hid hr2
  have hrow : rowOf W w.heap.size 0 45 = some (entC e2) := hr1.all (ent_size e2).symm (by omega)
  have hroom : roomOf W (w.heap.size + 1) 0 45 = true := by rw [hr2.room]; rfl
  have hl1 := hr1.lt
  have hl2 := hr2.lt
  rw [he2] at hf
  have HE2 := Lib.hid he2
  clear hxW hr1 hr2 hcv1 hcv2 he2
  go_wp2_with (first
    | (go_at_call 90; refine (all_any e2 _).mono ?_; rw [hst]; rintro e w' ⟨rfl, hxl⟩; obtain ⟨xl, rfl⟩ := hxl.asLater; clear hxl)
    | (go_at_call 89; refine (covers_any A c l (0, e.st.size) _ HS.out HBd.out ⟨⟨by show (-4611686018427387904 : Int) ≤ 0; omega, by show (0 : Int) ≤ _; omega⟩, by show _ ≤ e.st.size; omega, by show e.st.size ≤ _; omega⟩ (by omega) (HA.out.on (HXW.out.onto _)) HZ.out).mono ?_; rintro e' w' ⟨b, rfl, HCb, hxl⟩; obtain ⟨xl, rfl⟩ := hxl.asLater; clear hxl; obtain rfl := coversB_uniq HCb.out HC.out))
  refine post_two (v1 := .agg (entC e2)) (v2 := .int .i64 0) Tryz.results61 rfl ⟨_, rfl, ent_loaded (row_stored ((by (repeat (first | with_reducible exact HR2.out | with_reducible refine RowAt.drew ?_ | with_reducible refine RowAt.later ?_ _ | with_reducible exact RowAt.newAt (by first | rfl | omega | (simp [later_size, setCells_size]; done) | (simp [later_size, setCells_size]; omega)) | with_reducible refine RowAt.alloc ?_ _ | with_reducible apply RowAt.store | with_reducible refine RowAt.others ?_ ?_ _ _ | with_reducible refine RowAt.other ?_ ?_ _)); all_goals first | omega | (simp; done) | (simp; omega) | (simp [go_sem]; done))) (ent_size _) (ent_size _))⟩ rfl ⟨by rw [HE2.out], (by (repeat (first | with_reducible exact HXW.out | with_reducible exact Ext.refl _ | with_reducible refine Ext.drew ?_ | with_reducible refine Ext.drewN ?_ _ | with_reducible refine Ext.alloc ?_ _ | with_reducible refine Ext.onto ?_ _ | (with_reducible refine Ext.setCells ?_ ?_ _ _; rotate_left; focus (first | omega | (simp; done) | (simp; omega))) | (with_reducible refine Ext.setCell ?_ ?_ _; rotate_left; focus (first | omega | (simp; done) | (simp; omega))))))⟩
set_option maxRecDepth 100000 in
set_option maxHeartbeats 2000000 in
theorem settle_bad (e : En) (Ae : Option Addr) (ne ce : Nat) (A : Option Addr) (c : Nat) (l : List Sp) (Ab : Option Addr) (cb : Nat) (bl : List Int) (w : World) (hv : e.hv = .slice Ae ne ce) (h0 : 0 ≤ e.st.size) (h1 : e.st.size ≤ 65536)
    (hs : Sp.IsSet l) (hb : bd2 l) (hlen : l.length * 32 ≤ 140737488330000) (hr : ReadsSp w w.heap.size A l) (z : A = none → c = 0) (hbl : 0 < bl.length) (hbl2 : bl.length ≤ 65536) (hrb : ReadsB w w.heap.size Ab bl) (hk : Konst 0 w) (hc : coversB l (0, e.st.size) true)
    (hbo : e.st.body.length = 16) (hbb : Byt e.st.body) (hd : Wire.digest 34 [bts (strOfNums bl)] ≠ e.st.body) :
    Calls Tryz.prog 61 #[.agg (entC e), .slice A l.length c, .slice Ab bl.length cb] w fun e' w' => e' = .returned (.tuple #[.agg (entC (emptyEn e.st e.soft)), .int .i64 8]) ∧ Ext w w' := by
  have HD := Lib.hid hd
  have HBo := Lib.hid hbo
  have HBb := Lib.hid hbb
  clear hd hbo hbb
  have HA := Lib.hid hr
  have HZ := Lib.hid z
  have HS := Lib.hid hs
  have HBd := Lib.hid hb
  have HK := Lib.hid hk
  have HRb := Lib.hid hrb
  have HHv := Lib.hid hv
  have HC := Lib.hid hc
  have hcv1 := conv_bytes (w := ((w.alloc (.cells (entC e) 31)).alloc (.cells (entC noEn) 31)).drew) cb (HRb.out.on ((((Ext.refl w).alloc _).alloc _).drew)) hbl
  have hcv2 := conv_bytes (w := ((w.alloc (.cells (entC { e with hv := .slice A l.length c }) 31)).alloc (.cells (entC noEn) 31)).drew) cb (HRb.out.on ((((Ext.refl w).alloc _).alloc _).drew)) hbl
  clear hr z hs hb hk hrb hv hc
  have hf : fitsRow 45 (entC { e with hv := .slice A l.length c, bytes := strOfNums bl }) = true := ent_fits_of rfl
  have hsb := strOfNums_size bl
  have hsz : (strOfNums bl).size ≤ 65536 := by rw [hsb]; exact hbl2
  clear hsb
  obtain ⟨e2, he2⟩ : ∃ e2 : En, { e with hv := .slice A l.length c, bytes := strOfNums bl } = e2 := ⟨_, rfl⟩
  have hst : e2.st = e.st := by rw [← he2]
  have hso : e2.soft = e.soft := by rw [← he2]
  have hby : e2.bytes = strOfNums bl := by rw [← he2]
  go_enter Tryz.func61, Tryz.ntmps61
  go_wp2
  go_region
  have hxW : Ext w (((w.alloc (.cells (entC e2) 31)).alloc (.cells (entC noEn) 31)).drew) := (((Ext.refl w).alloc _).alloc _).drew
  have hr1 : RowAt (((w.alloc (.cells (entC e2) 31)).alloc (.cells (entC noEn) 31)).drew) w.heap.size (entC e2) := RowAt.drew (RowAt.alloc (RowAt.new _ _ _) _)
  have hr2 : RowAt (((w.alloc (.cells (entC e2) 31)).alloc (.cells (entC noEn) 31)).drew) (w.heap.size + 1) (entC noEn) := RowAt.drew (RowAt.newAt (by simp))
  generalize (((w.alloc (.cells (entC e2) 31)).alloc (.cells (entC noEn) 31)).drew) = W at hxW hr1 hr2 ⊢
  have HXW := Lib.hid hxW
  have HR1 := Lib.hid hr1
  have HR2 := Lib.hid hr2
  have hrow : rowOf W w.heap.size 0 45 = some (entC e2) := hr1.all (ent_size e2).symm (by omega)
  have hroom : roomOf W (w.heap.size + 1) 0 45 = true := by rw [hr2.room]; rfl
  have hl1 := hr1.lt
  have hl2 := hr2.lt
  rw [he2] at hf
  have HE2 := Lib.hid he2
  clear hxW hr1 hr2 hcv1 hcv2 he2
  go_wp2_with (first
    | (go_at_call 90; refine (all_any e2 _).mono ?_; rw [hst]; rintro e w' ⟨rfl, hxl⟩; obtain ⟨xl, rfl⟩ := hxl.asLater; clear hxl)
    | (go_at_call 89; refine (covers_any A c l (0, e.st.size) _ HS.out HBd.out ⟨⟨by show (-4611686018427387904 : Int) ≤ 0; omega, by show (0 : Int) ≤ _; omega⟩, by show _ ≤ e.st.size; omega, by show e.st.size ≤ _; omega⟩ (by omega) (HA.out.on (HXW.out.onto _)) HZ.out).mono ?_; rintro e' w' ⟨b, rfl, HCb, hxl⟩; obtain ⟨xl, rfl⟩ := hxl.asLater; clear hxl; obtain rfl := coversB_uniq HCb.out HC.out))
  have c43 : W.cell? ⟨w.heap.size, 43, none⟩ = some (.string (strOfNums bl)) := (HR1.out.cell 43).trans (by rw [ent_g43, hby])
  have c41 : W.cell? ⟨w.heap.size, 41, none⟩ = some (.bool e.soft) := (HR1.out.cell 41).trans (by rw [ent_g41, hso])
  have r41 : rowOf W w.heap.size 0 41 = some (stmC e.st) := by rw [HR1.out.row, if_neg (by omega), ent_stm, hst]
  have hbd : rowOf W w.heap.size 4 16 = some (dgC e.st.body) := by rw [HR1.out.row, if_neg (by omega), ent_body, hst]
  have hq := neq_dig (digest_length 34 [bts (strOfNums bl)]) HBo.out (digest_byt 34 [bts (strOfNums bl)]) HBb.out
  generalize hDD : Wire.digest 34 [bts (strOfNums bl)] = D at *
  have HDD := Lib.hid hDD
  clear hDD
  have dd : decide (D = e.st.body) = false := by simpa using HD.out
  have hfe : fitsRow 45 (entC (emptyEn e.st e.soft)) = true := ent_fits_of rfl
  simp only [dd, Bool.not_true, Bool.not_false] at hq
  clear dd
  refine wp_region_later (by kernel_rfl) (by kernel_rfl) ?_
  repeat (first | go_big_quiet_step ((go_at_call 33; exact quietE (odigest_is (strOfNums bl) D _ (RowAt.ext HK.out ((HXW.out.onto _).onto _)) (by omega) HDD.out))) | quiet_step ((go_at_call 33; exact quietE (odigest_is (strOfNums bl) D _ (RowAt.ext HK.out ((HXW.out.onto _).onto _)) (by omega) HDD.out))))
  refine wpQuiet_nil ?_
  rintro _ ⟨xq, rfl⟩
  go_wp2_with (go_at_call 60; refine (empty_any e.st e.soft _ h0 h1).mono ?_; rintro e w' ⟨rfl, hxl⟩; obtain ⟨xl, rfl⟩ := hxl.asLater; clear hxl)
  refine post_two (v1 := .agg (entC (emptyEn e.st e.soft))) (v2 := .int .i64 8) Tryz.results61 rfl ⟨_, rfl, ent_loaded (row_stored ((by (repeat (first | with_reducible exact HR2.out | with_reducible refine RowAt.drew ?_ | with_reducible refine RowAt.later ?_ _ | with_reducible exact RowAt.newAt (by first | rfl | omega | (simp [later_size, setCells_size]; done) | (simp [later_size, setCells_size]; omega)) | with_reducible refine RowAt.alloc ?_ _ | with_reducible apply RowAt.store | with_reducible refine RowAt.others ?_ ?_ _ _ | with_reducible refine RowAt.other ?_ ?_ _)); all_goals first | omega | (simp; done) | (simp; omega) | (simp [go_sem]; done))) (ent_size _) (ent_size _))⟩ rfl ⟨rfl, (by (repeat (first | with_reducible exact HXW.out | with_reducible exact Ext.refl _ | with_reducible refine Ext.drew ?_ | with_reducible refine Ext.drewN ?_ _ | with_reducible refine Ext.alloc ?_ _ | with_reducible refine Ext.onto ?_ _ | (with_reducible refine Ext.setCells ?_ ?_ _ _; rotate_left; focus (first | omega | (simp; done) | (simp; omega))) | (with_reducible refine Ext.setCell ?_ ?_ _; rotate_left; focus (first | omega | (simp; done) | (simp; omega))))))⟩
set_option maxRecDepth 100000 in
set_option maxHeartbeats 2000000 in
theorem settle_ok (e : En) (Ae : Option Addr) (ne ce : Nat) (A : Option Addr) (c : Nat) (l : List Sp) (Ab : Option Addr) (cb : Nat) (bl : List Int) (w : World) (hv : e.hv = .slice Ae ne ce) (h0 : 0 ≤ e.st.size) (h1 : e.st.size ≤ 65536)
    (hs : Sp.IsSet l) (hb : bd2 l) (hlen : l.length * 32 ≤ 140737488330000) (hr : ReadsSp w w.heap.size A l) (z : A = none → c = 0) (hbl : 0 < bl.length) (hbl2 : bl.length ≤ 65536) (hrb : ReadsB w w.heap.size Ab bl) (hk : Konst 0 w) (hc : coversB l (0, e.st.size) true)
    (hbo : e.st.body.length = 16) (hbb : Byt e.st.body) (hd : Wire.digest 34 [bts (strOfNums bl)] = e.st.body) :
    Calls Tryz.prog 61 #[.agg (entC e), .slice A l.length c, .slice Ab bl.length cb] w fun e' w' => e' = .returned (.tuple #[.agg (entC { e with hv := .slice A l.length c, bytes := strOfNums bl, whole := true }), .int .i64 0]) ∧ Ext w w' := by
  have HD := Lib.hid hd
  have HBo := Lib.hid hbo
  have HBb := Lib.hid hbb
  clear hd hbo hbb
  have HA := Lib.hid hr
  have HZ := Lib.hid z
  have HS := Lib.hid hs
  have HBd := Lib.hid hb
  have HK := Lib.hid hk
  have HRb := Lib.hid hrb
  have HHv := Lib.hid hv
  have HC := Lib.hid hc
  have hcv1 := conv_bytes (w := ((w.alloc (.cells (entC e) 31)).alloc (.cells (entC noEn) 31)).drew) cb (HRb.out.on ((((Ext.refl w).alloc _).alloc _).drew)) hbl
  have hcv2 := conv_bytes (w := ((w.alloc (.cells (entC { e with hv := .slice A l.length c }) 31)).alloc (.cells (entC noEn) 31)).drew) cb (HRb.out.on ((((Ext.refl w).alloc _).alloc _).drew)) hbl
  clear hr z hs hb hk hrb hv hc
  have hf : fitsRow 45 (entC { e with hv := .slice A l.length c, bytes := strOfNums bl }) = true := ent_fits_of rfl
  have hsb := strOfNums_size bl
  have hsz : (strOfNums bl).size ≤ 65536 := by rw [hsb]; exact hbl2
  clear hsb
  obtain ⟨e2, he2⟩ : ∃ e2 : En, { e with hv := .slice A l.length c, bytes := strOfNums bl } = e2 := ⟨_, rfl⟩
  have hst : e2.st = e.st := by rw [← he2]
  have hso : e2.soft = e.soft := by rw [← he2]
  have hby : e2.bytes = strOfNums bl := by rw [← he2]
  go_enter Tryz.func61, Tryz.ntmps61
  go_wp2
  go_region
  have hxW : Ext w (((w.alloc (.cells (entC e2) 31)).alloc (.cells (entC noEn) 31)).drew) := (((Ext.refl w).alloc _).alloc _).drew
  have hr1 : RowAt (((w.alloc (.cells (entC e2) 31)).alloc (.cells (entC noEn) 31)).drew) w.heap.size (entC e2) := RowAt.drew (RowAt.alloc (RowAt.new _ _ _) _)
  have hr2 : RowAt (((w.alloc (.cells (entC e2) 31)).alloc (.cells (entC noEn) 31)).drew) (w.heap.size + 1) (entC noEn) := RowAt.drew (RowAt.newAt (by simp))
  generalize (((w.alloc (.cells (entC e2) 31)).alloc (.cells (entC noEn) 31)).drew) = W at hxW hr1 hr2 ⊢
  have HXW := Lib.hid hxW
  have HR1 := Lib.hid hr1
  have HR2 := Lib.hid hr2
  have hrow : rowOf W w.heap.size 0 45 = some (entC e2) := hr1.all (ent_size e2).symm (by omega)
  have hroom : roomOf W (w.heap.size + 1) 0 45 = true := by rw [hr2.room]; rfl
  have hl1 := hr1.lt
  have hl2 := hr2.lt
  rw [he2] at hf
  have HE2 := Lib.hid he2
  clear hxW hr1 hr2 hcv1 hcv2 he2
  go_wp2_with (first
    | (go_at_call 90; refine (all_any e2 _).mono ?_; rw [hst]; rintro e w' ⟨rfl, hxl⟩; obtain ⟨xl, rfl⟩ := hxl.asLater; clear hxl)
    | (go_at_call 89; refine (covers_any A c l (0, e.st.size) _ HS.out HBd.out ⟨⟨by show (-4611686018427387904 : Int) ≤ 0; omega, by show (0 : Int) ≤ _; omega⟩, by show _ ≤ e.st.size; omega, by show e.st.size ≤ _; omega⟩ (by omega) (HA.out.on (HXW.out.onto _)) HZ.out).mono ?_; rintro e' w' ⟨b, rfl, HCb, hxl⟩; obtain ⟨xl, rfl⟩ := hxl.asLater; clear hxl; obtain rfl := coversB_uniq HCb.out HC.out))
  have hvv : e2.hv = .slice A l.length c := by rw [← HE2.out]
  have hfz : W.frozen? ⟨w.heap.size, 44, none⟩ = false := HR1.out.free 44
  have hc44 : W.cell? ⟨w.heap.size, 44, none⟩ = some (.bool e2.whole) := (HR1.out.cell 44).trans (ent_g44 e2)
  have c43 : W.cell? ⟨w.heap.size, 43, none⟩ = some (.string (strOfNums bl)) := (HR1.out.cell 43).trans (by rw [ent_g43, hby])
  have c41 : W.cell? ⟨w.heap.size, 41, none⟩ = some (.bool e.soft) := (HR1.out.cell 41).trans (by rw [ent_g41, hso])
  have r41 : rowOf W w.heap.size 0 41 = some (stmC e.st) := by rw [HR1.out.row, if_neg (by omega), ent_stm, hst]
  have hbd : rowOf W w.heap.size 4 16 = some (dgC e.st.body) := by rw [HR1.out.row, if_neg (by omega), ent_body, hst]
  have hq := neq_dig (digest_length 34 [bts (strOfNums bl)]) HBo.out (digest_byt 34 [bts (strOfNums bl)]) HBb.out
  generalize hDD : Wire.digest 34 [bts (strOfNums bl)] = D at *
  have HDD := Lib.hid hDD
  clear hDD
  have dd : decide (D = e.st.body) = true := by simpa using HD.out
  simp only [dd, Bool.not_true, Bool.not_false] at hq
  clear dd
  refine wp_region_later (by kernel_rfl) (by kernel_rfl) ?_
  repeat (first | go_big_quiet_step ((go_at_call 33; exact quietE (odigest_is (strOfNums bl) D _ (RowAt.ext HK.out ((HXW.out.onto _).onto _)) (by omega) HDD.out))) | quiet_step ((go_at_call 33; exact quietE (odigest_is (strOfNums bl) D _ (RowAt.ext HK.out ((HXW.out.onto _).onto _)) (by omega) HDD.out))))
  refine wpQuiet_nil ?_
  rintro _ ⟨xq, rfl⟩
  go_wp2
  refine post_two (v1 := .agg (entC { e with hv := .slice A l.length c, bytes := strOfNums bl, whole := true })) (v2 := .int .i64 0) Tryz.results61 rfl ⟨_, rfl, ent_loaded (row_stored ((by (repeat (first | with_reducible exact HR2.out | with_reducible refine RowAt.drew ?_ | with_reducible refine RowAt.later ?_ _ | with_reducible exact RowAt.newAt (by first | rfl | omega | (simp [later_size, setCells_size]; done) | (simp [later_size, setCells_size]; omega)) | with_reducible refine RowAt.alloc ?_ _ | with_reducible apply RowAt.store | with_reducible refine RowAt.others ?_ ?_ _ _ | with_reducible refine RowAt.other ?_ ?_ _)); all_goals first | omega | (simp; done) | (simp; omega) | (simp [go_sem]; done))) (ent_size _) (ent_size _))⟩ rfl ⟨rfl, (by (repeat (first | with_reducible exact HXW.out | with_reducible exact Ext.refl _ | with_reducible refine Ext.drew ?_ | with_reducible refine Ext.drewN ?_ _ | with_reducible refine Ext.alloc ?_ _ | with_reducible refine Ext.onto ?_ _ | (with_reducible refine Ext.setCells ?_ ?_ _ _; rotate_left; focus (first | omega | (simp; done) | (simp; omega))) | (with_reducible refine Ext.setCell ?_ ?_ _; rotate_left; focus (first | omega | (simp; done) | (simp; omega))))))⟩
end Go.Proofs.YtmjdnkeloolmdaaGreatDoor
