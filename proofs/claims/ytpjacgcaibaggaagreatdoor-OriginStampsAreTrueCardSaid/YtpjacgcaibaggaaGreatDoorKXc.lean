/- seal.Check (given what Find answers). -/
import Derived.Test.YtpjacgcaibaggaaGreatDoorProg
import Derived.Test.YtpjacgcaibaggaaGreatDoorKSpv
import Derived.WalkKit
import Derived.WalkSpells
import Derived.WalkLawsBesides
import Derived.Deep.QuietTactic
import Derived.BigQuiet
import Derived.Test.YtpjacgcaibaggaaGreatDoorKFw
import Derived.Test.YtpjacgcaibaggaaGreatDoorKXa
set_option linter.unusedVariables false
set_option linter.unusedSimpArgs false
namespace Go.Proofs.YtpjacgcaibaggaaGreatDoor
open Go.RowKit Go.Shelf
open Go.Proofs

set_option maxRecDepth 100000 in
set_option maxHeartbeats 2000000 in
theorem rkvalid_any (k : Ky) (w : World) (hs : k.secret.size < 9223372036854775808) : Calls Tryz.prog 43 #[.agg (kyC k)] w fun e w' => e = .returned (.bool (okKy k)) ∧ Ext w w' := by
  have HF : Hid (okKy k = (decide (min k.party k.serial ≥ 1) && decide (max k.party k.serial ≤ 1073741824) && decide ((k.secret.size : Int) ≥ 1) && decide ((k.secret.size : Int) ≤ 64) && decide (k.fr ≥ 0) && decide (k.fr < k.upto) && decide (k.upto ≤ 1099511627776))) := Lib.hid rfl
  generalize okKy k = R at HF ⊢
  go_enter Tryz.func43, Tryz.ntmps43
  go_wp2
  all_goals
    go_ret
    exact ⟨ret_bool (by rw [HF.out]; clear HF; simp [*] <;> omega), (by (repeat (first | with_reducible exact Ext.refl _ | with_reducible exact Ext.refl _ | with_reducible refine Ext.drew ?_ | with_reducible refine Ext.drewN ?_ _ | with_reducible refine Ext.alloc ?_ _ | with_reducible refine Ext.onto ?_ _ | (with_reducible refine Ext.setCells ?_ ?_ _ _; rotate_left; focus (first | omega | (simp; done) | (simp; omega))) | (with_reducible refine Ext.setCell ?_ ?_ _; rotate_left; focus (first | omega | (simp; done) | (simp; omega))))))⟩
def goodR (k : Ky) (a : An) (n v : Clk) : Bool := okKy k && okClk n && okClk v && a.same
noncomputable def renewOut (k : Ky) (s : St) (a : An) (n v : Clk) (cs : ByteArray) (ce : Int) : St × Int :=
  if goodR k a n v = true then if a.body = s.body then if a.size = s.size then stampIn k s.addr s.var a n v cs ce else (noSt, 341) else (noSt, 341) else (noSt, 1)
set_option maxRecDepth 100000 in
set_option maxHeartbeats 2000000 in
theorem orenew_any (k : Ky) (s : St) (a : An) (n v : Clk) (cs : ByteArray) (ce : Int) (w : World) (h16 : a.body.length = 16) (hby : Byt a.body) (h16s : s.body.length = 16) (hbys : Byt s.body) (hsc : k.secret.size < 9223372036854775808)
    (hg : goodR k a n v = true → a.body = s.body → a.size = s.size → (∀ x ∈ stInts (named k (fromAn s.addr s.var a n.lo v.hi)), i64 x) ∧ lens ([k.secret] ++ stParts (named k (fromAn s.addr s.var a n.lo v.hi)) ++ [k.secret]) < 8796093022208 ∧ a.tags.size ≤ 900000) (hk : Konst 0 w)
    (hc : ∀ W, Ext w W → Calls Tryz.prog 112 #[.string s.addr] W fun e w' => e = .returned (.tuple #[.string cs, .int .i64 ce]) ∧ Ext W w') :
    Calls Tryz.prog 40 #[.agg (kyC k), .agg (stmC s), .agg (anC a), .agg (clkC n), .agg (clkC v)] w fun e w' => e = .returned (.tuple #[.agg (stmC (renewOut k s a n v cs ce).1), .int .i64 (renewOut k s a n v cs ce).2]) ∧ Ext w w' := by
  have HK := Lib.hid hk
  have hneq := neq_dd (a := a.body) (b := s.body) h16 h16s hby hbys
  have HG : Hid (goodR k a n v = (okKy k && okClk ⟨n.lo, n.hi⟩ && okClk ⟨v.lo, v.hi⟩ && a.same)) := Lib.hid rfl
  have HC := Lib.hid (fun (W : World) (hx : Ext w W) (h : goodR k a n v = true) (h2 : a.body = s.body) (h3 : a.size = s.size) => ostampi_any k s.addr s.var a n v cs ce W h16 (hg h h2 h3).1 (hg h h2 h3).2.1 (hg h h2 h3).2.2 (RowAt.ext HK.out hx) (fun W' hx' => hc W' (hx.trans hx')))
  have HV := Lib.hid (fun W : World => kvalid_any k W hsc)
  have HVc : Hid (∀ (lo hi : Int) (W : World), Calls Tryz.prog 84 #[.agg #[.int .i64 lo, .int .i64 hi]] W fun e w' => e = .returned (.bool (okClk ⟨lo, hi⟩)) ∧ Ext W w') := Lib.hid (fun lo hi W => cvalid_any ⟨lo, hi⟩ W)
  have hft0 := stm_fits noSt
  obtain ⟨R, hR⟩ : ∃ R, stampIn k s.addr s.var a n v cs ce = R := ⟨_, rfl⟩
  have HO : Hid (renewOut k s a n v cs ce = if goodR k a n v = true then if a.body = s.body then if a.size = s.size then R else (noSt, 341) else (noSt, 341) else (noSt, 1)) := Lib.hid (by rw [← hR]; rfl)
  rw [hR] at HC
  replace HC : Hid (∀ (W : World) (hx : Ext w W) (h : goodR k a n v = true) (h2 : a.body = s.body) (h3 : a.size = s.size), Calls Tryz.prog 85 #[.agg (kyC k), .string s.addr, .string s.var, .agg (anC a), .agg #[.int .i64 n.lo, .int .i64 n.hi], .agg #[.int .i64 v.lo, .int .i64 v.hi]] W fun e w' => e = .returned (.tuple #[.agg (stmC R.1), .int .i64 R.2]) ∧ Ext W w') := HC
  generalize renewOut k s a n v cs ce = O at *
  generalize goodR k a n v = G at *
  have hft := stm_fits R.1
  clear hR
  clear h16 hby hg hk hc hsc h16s hbys
  go_enter Tryz.func40, Tryz.ntmps40
  go_wp2
  refine wp_world (fun W => Ext w W ∧ RowAt W w.heap.size (kyC k) ∧ RowAt W (w.heap.size + 1) (stmC s) ∧ RowAt W (w.heap.size + 1 + 1) (anC a) ∧ RowAt W (w.heap.size + 1 + 1 + 1) (clkC n) ∧ RowAt W (w.heap.size + 1 + 1 + 1 + 1) (clkC v) ∧ RowAt W (w.heap.size + 1 + 1 + 1 + 1 + 1) (stmC noSt)) ⟨(by (repeat (first | with_reducible exact Ext.refl _ | with_reducible exact Ext.refl _ | with_reducible refine Ext.drew ?_ | with_reducible refine Ext.drewN ?_ _ | with_reducible refine Ext.alloc ?_ _ | with_reducible refine Ext.onto ?_ _ | (with_reducible refine Ext.setCells ?_ ?_ _ _; rotate_left; focus (first | omega | (simp; done) | (simp; omega))) | (with_reducible refine Ext.setCell ?_ ?_ _; rotate_left; focus (first | omega | (simp; done) | (simp; omega)))))), ?_, ?_, ?_, ?_, ?_, ?_⟩ ?_
  · exact ((((((RowAt.new _ _ _).alloc _).alloc _).alloc _).alloc _).alloc _)
  · exact (((((RowAt.newAt (by simp)).alloc _).alloc _).alloc _).alloc _)
  · exact ((((RowAt.newAt (by simp)).alloc _).alloc _).alloc _)
  · exact (((RowAt.newAt (by simp)).alloc _).alloc _)
  · exact ((RowAt.newAt (by simp)).alloc _)
  · exact (RowAt.newAt (by simp))
  obtain ⟨B, hB⟩ : ∃ B, w.heap.size = B := ⟨_, rfl⟩
  rw [hB]
  rintro W1 ⟨x1, u0, us, u1, u2, u3, u4⟩
  have HX1 := Lib.hid x1
  have HU4 := Lib.hid u4
  have k0 : rowOf W1 B 0 5 = some (kyC k) := u0.all rfl (by omega)
  have s0 : W1.cell? ⟨B + 1, 0, none⟩ = some (.string s.addr) := us.cell 0
  have s1 : W1.cell? ⟨B + 1, 1, none⟩ = some (.string s.var) := us.cell 1
  have s3 : W1.cell? ⟨B + 1, 3, none⟩ = some (.int .i64 s.size) := us.cell 3
  have s4 : rowOf W1 (B + 1) 4 16 = some (dgC s.body) := by rw [us.row, if_neg (by omega), stm_body]
  have a0 : rowOf W1 (B + 1 + 1) 0 21 = some (anC a) := u1.all rfl (by omega)
  have a1 : W1.cell? ⟨B + 1 + 1, 1, none⟩ = some (.int .i64 a.size) := u1.cell 1
  have a2 : rowOf W1 (B + 1 + 1) 2 16 = some (dgC a.body) := by rw [u1.row, if_neg (by omega), an_body]
  have a4 : W1.cell? ⟨B + 1 + 1, 20, none⟩ = some (.bool a.same) := u1.cell 20
  have n0 : W1.cell? ⟨B + 1 + 1 + 1, 0, none⟩ = some (.int .i64 n.lo) := u2.cell 0
  have n1 : W1.cell? ⟨B + 1 + 1 + 1, 1, none⟩ = some (.int .i64 n.hi) := u2.cell 1
  have v0 : W1.cell? ⟨B + 1 + 1 + 1 + 1, 0, none⟩ = some (.int .i64 v.lo) := u3.cell 0
  have v1 : W1.cell? ⟨B + 1 + 1 + 1 + 1, 1, none⟩ = some (.int .i64 v.hi) := u3.cell 1
  have m4 : roomOf W1 (B + 1 + 1 + 1 + 1 + 1) 0 41 = true := by rw [u4.room]; rfl
  have hlu := u4.lt
  clear x1 u0 us u1 u2 u3 u4
  refine wp_region_later_tail 8 (by kernel_rfl) (by kernel_rfl) ?_
  simp only [List.take_succ_cons, List.take_zero, List.drop_succ_cons, List.drop_zero]
  repeat (first | go_big_quiet_step ((first | (go_at_call 83; exact quietE (HV.out _)) | (go_at_call 84; exact quietE (HVc.out _ _ _)))) | quiet_step ((first | (go_at_call 83; exact quietE (HV.out _)) | (go_at_call 84; exact quietE (HVc.out _ _ _)))))
  refine wpQuiet_nil ?_
  rintro _ ⟨xq, rfl⟩
  have m4' : roomOf (later W1 xq) (B + 1 + 1 + 1 + 1 + 1) 0 41 = true := by rw [(HU4.out.later xq).room]; rfl
  cases G with
  | false =>
    have HO' : Hid (O = (noSt, 1)) := Lib.hid HO.out
    clear HO HC
    go_wp2_with (go_at_call 47; refine (oall4 _ _ _ _ _ _ _ (later_size _ _).symm).mono ?_; rw [← HG.out]; rintro e w' ⟨rfl, hxl⟩; obtain ⟨xl, rfl⟩ := hxl.asLater; clear hxl)
    rw [HO'.out]
    refine post_two (v1 := .agg (stmC noSt)) (v2 := .int .i64 1) Tryz.results40 rfl ⟨_, rfl, stm_loaded (RowAt.stored (n := 41) (HU4.out.later _) rfl rfl (by omega))⟩ rfl ⟨rfl, Ext.setCells (HX1.out.onto _) (by omega) _ _⟩
  | true =>
    by_cases hb : a.body = s.body
    · by_cases hz : a.size = s.size
      · have HO' : Hid (O = R) := Lib.hid (by rw [HO.out, if_pos rfl, if_pos hb, if_pos hz])
        have HC' := Lib.hid (fun W hx => HC.out W hx rfl hb hz)
        have db : decide (a.body = s.body) = true := by simpa using hb
        have dz : (a.size != s.size) = false := by simpa using hz
        clear HO HC hb
        go_wp2_with (first
          | (go_at_call 47; refine (oall4 _ _ _ _ _ _ _ (later_size _ _).symm).mono ?_; rw [← HG.out]; rintro e w' ⟨rfl, hxl⟩; obtain ⟨xl, rfl⟩ := hxl.asLater; clear hxl)
          | (go_at_call 85; refine (HC'.out _ (HX1.out.onto _)).mono ?_; rintro e w' ⟨rfl, hxl⟩; obtain ⟨xl, rfl⟩ := hxl.asLater; clear hxl))
        rw [HO'.out]
        refine post_two (v1 := .agg (stmC R.1)) (v2 := .int .i64 R.2) Tryz.results40 rfl ⟨_, rfl, stm_loaded (RowAt.stored (n := 41) (HU4.out.later _) rfl rfl (by omega))⟩ rfl ⟨rfl, Ext.setCells (HX1.out.onto _) (by omega) _ _⟩
      · have HO' : Hid (O = (noSt, 341)) := Lib.hid (by rw [HO.out, if_pos rfl, if_pos hb, if_neg hz])
        have db : decide (a.body = s.body) = true := by simpa using hb
        have dz : (a.size != s.size) = true := by simpa using hz
        clear HO HC hb
        go_wp2_with (go_at_call 47; refine (oall4 _ _ _ _ _ _ _ (later_size _ _).symm).mono ?_; rw [← HG.out]; rintro e w' ⟨rfl, hxl⟩; obtain ⟨xl, rfl⟩ := hxl.asLater; clear hxl)
        rw [HO'.out]
        refine post_two (v1 := .agg (stmC noSt)) (v2 := .int .i64 341) Tryz.results40 rfl ⟨_, rfl, stm_loaded (RowAt.stored (n := 41) (HU4.out.later _) rfl rfl (by omega))⟩ rfl ⟨rfl, Ext.setCells (HX1.out.onto _) (by omega) _ _⟩
    · have HO' : Hid (O = (noSt, 341)) := Lib.hid (by rw [HO.out, if_pos rfl, if_neg hb])
      have db : decide (a.body = s.body) = false := by simpa using hb
      clear HO HC hb
      go_wp2_with (go_at_call 47; refine (oall4 _ _ _ _ _ _ _ (later_size _ _).symm).mono ?_; rw [← HG.out]; rintro e w' ⟨rfl, hxl⟩; obtain ⟨xl, rfl⟩ := hxl.asLater; clear hxl)
      rw [HO'.out]
      refine post_two (v1 := .agg (stmC noSt)) (v2 := .int .i64 341) Tryz.results40 rfl ⟨_, rfl, stm_loaded (RowAt.stored (n := 41) (HU4.out.later _) rfl rfl (by omega))⟩ rfl ⟨rfl, Ext.setCells (HX1.out.onto _) (by omega) _ _⟩
end Go.Proofs.YtpjacgcaibaggaaGreatDoor


set_option linter.unusedVariables false
set_option linter.unusedSimpArgs false
namespace Go.Proofs.YtpjacgcaibaggaaGreatDoor
open Go.RowKit Go.Shelf
open Go.Proofs

theorem neq_sel {a b : List Int} (ha : a.length = 16) (hb : b.length = 16) (ba : Byt a) (bb : Byt b) (W : World) : (binOp .neq 46 (.agg (dgC a)) (.agg (dgC b))).run Tryz.prog W = .ok (.bool (!(decide (a = b)))) W := by
  have h := run_equalIn_bytes (P := Tryz.prog) W 9998 46 5 16 (by kernel_rfl) (by kernel_rfl) u8_size (u8s a) (u8s b) (by simp [u8s, ha]) (by simp [u8s, hb])
  rw [u8s_cells ba, u8s_cells bb, u8s_beq ba bb] at h
  rw [dgC_cells ha, dgC_cells hb, run_neq_struct, h]
  rfl
noncomputable def checkOut (kf : Ky) (ef tag : Int) (parts : List ByteArray) (sel : List Int) (lo hi : Int) : Int := if ef = 0 then if countB kf lo hi = true then if makeN kf tag parts = sel then 0 else 8 else 9 else ef
set_option maxRecDepth 100000 in
set_option maxHeartbeats 2000000 in
theorem scheck_any (Ar : Option Addr) (nr cr : Nat) (p s tag : Int) (A : Option Addr) (c : Nat) (parts : List ByteArray) (sel : List Int) (lo hi : Int) (kf : Ky) (ef : Int) (w : World) (hs : sel.length = 16) (hb : Byt sel) (hr : ReadsStr w w.heap.size A parts) (hz : A = none → c = 0) (hl : ef = 0 → lens ([kf.secret] ++ parts ++ [kf.secret]) < 8796093022208) (hk : Konst 0 w)
    (hf : ∀ W, Ext w W → Calls Tryz.prog 116 #[.slice Ar nr cr, .int .i64 p, .int .i64 s] W fun e w' => e = .returned (.tuple #[.agg (kyC kf), .int .i64 ef]) ∧ Ext W w') :
    Calls Tryz.prog 88 #[.slice Ar nr cr, .int .i64 p, .int .i64 s, .int .i64 tag, .slice A parts.length c, .agg (dgC sel), .agg #[.int .i64 lo, .int .i64 hi]] w fun e w' => e = .returned (.int .i64 (checkOut kf ef tag parts sel lo hi)) ∧ Ext w w' := by
  have HF := Lib.hid hf
  have HR := Lib.hid hr
  have HK := Lib.hid hk
  have HC := Lib.hid (fun W => counts_any kf lo hi W)
  have HM := Lib.hid (fun (W : World) (hx : Ext w W) (h0 : ef = 0) => smake_any kf tag A c parts W (hr.on hx) hz (hl h0) (RowAt.ext hk hx))
  obtain ⟨D, hD⟩ : ∃ D, makeN kf tag parts = D := ⟨_, rfl⟩
  have h16 : D.length = 16 := by rw [← hD]; exact makeN_len _ _ _
  have hneq := neq_sel (a := D) (b := sel) h16 hs (by rw [← hD]; exact makeN_byt _ _ _) hb
  have HO : Hid (checkOut kf ef tag parts sel lo hi = if ef = 0 then if countB kf lo hi = true then if D = sel then 0 else 8 else 9 else ef) := Lib.hid (by rw [← hD]; rfl)
  rw [hD] at HM
  have hft := ky_fits kf
  have hfs : fitsRow 16 (dgC sel) = true := by simp [fitsRow, dgC, Value.oneCell']
  generalize checkOut kf ef tag parts sel lo hi = O at *
  clear hD h16 hs hb hr hz hl hk hf
  go_enter Tryz.func88, Tryz.ntmps88
  go_upto_region 2 with (go_at_call 116; refine (HF.out _ (by (repeat (first | with_reducible exact Ext.refl _ | with_reducible exact Ext.refl _ | with_reducible refine Ext.drew ?_ | with_reducible refine Ext.drewN ?_ _ | with_reducible refine Ext.alloc ?_ _ | with_reducible refine Ext.onto ?_ _ | (with_reducible refine Ext.setCells ?_ ?_ _ _; rotate_left; focus (first | omega | (simp; done) | (simp; omega))) | (with_reducible refine Ext.setCell ?_ ?_ _; rotate_left; focus (first | omega | (simp; done) | (simp; omega))))))).mono ?_; rintro e w' ⟨rfl, hxl⟩; obtain ⟨xl, rfl⟩ := hxl.asLater; clear hxl)
  refine wp_world (fun W => Ext w W ∧ RowAt W w.heap.size (dgC sel) ∧ RowAt W (w.heap.size + 1) #[.int .i64 lo, .int .i64 hi] ∧ RowAt W (w.heap.size + 1 + 1 + xl.n) (kyC kf)) ⟨Ext.setCells ((by (repeat (first | with_reducible exact Ext.refl _ | with_reducible exact Ext.refl _ | with_reducible refine Ext.drew ?_ | with_reducible refine Ext.drewN ?_ _ | with_reducible refine Ext.alloc ?_ _ | with_reducible refine Ext.onto ?_ _ | (with_reducible refine Ext.setCells ?_ ?_ _ _; rotate_left; focus (first | omega | (simp; done) | (simp; omega))) | (with_reducible refine Ext.setCell ?_ ?_ _; rotate_left; focus (first | omega | (simp; done) | (simp; omega))))))) (by omega) _ _, ?_, ?_, ?_⟩ ?_
  · exact RowAt.others ((((RowAt.new _ _ _).alloc _).later _).alloc _) (by omega) _ _
  · exact RowAt.others (((RowAt.newAt (by simp)).later _).alloc _) (by omega) _ _
  · exact RowAt.store (RowAt.newAt (by simp [later_size])) rfl
  obtain ⟨B, hB⟩ : ∃ B, w.heap.size = B := ⟨_, rfl⟩
  obtain ⟨g, hg⟩ : ∃ g, w.heap.size + 1 + 1 + xl.n = g := ⟨_, rfl⟩
  rw [hg, hB]
  rintro W1 ⟨x1, u0, u1, u2⟩
  have HX1 := Lib.hid x1
  have s0 : rowOf W1 B 0 16 = some (dgC sel) := u0.all rfl (by omega)
  have p0 : W1.cell? ⟨B + 1, 0, none⟩ = some (.int .i64 lo) := u1.cell 0
  have p1 : W1.cell? ⟨B + 1, 1, none⟩ = some (.int .i64 hi) := u1.cell 1
  have k0 : rowOf W1 g 0 5 = some (kyC kf) := u2.all rfl (by omega)
  have hlu := u2.lt
  have hls := x1.size
  have hl0 := u1.lt
  clear x1 u0 u1 u2 hg
  by_cases b0 : ef = 0
  · subst b0
    cases b1 : countB kf lo hi with
    | true =>
      rw [b1] at HC HO
      have HM' := Lib.hid (fun W hx => HM.out W hx rfl)
      by_cases b2 : D = sel
      · have HO' : Hid (O = 0) := Lib.hid (by rw [HO.out, if_pos rfl, if_pos rfl, if_pos b2])
        have d2 : decide (D = sel) = true := by simpa using b2
        clear HO b1 b2 HM
        go_wp2_with (first | (go_at_call 117; refine (HC.out _).mono ?_; rintro e w' ⟨rfl, hxl⟩; obtain ⟨xl, rfl⟩ := hxl.asLater; clear hxl))
        refine wp_region_later (by kernel_rfl) (by kernel_rfl) ?_
        repeat (first | go_big_quiet_step ((go_at_call 118; exact quietE (HM'.out _ (by first | exact ((HX1.out.onto _).onto _) | exact HX1.out.onto _ | exact (by (repeat (first | with_reducible exact HX1.out | with_reducible exact Ext.refl _ | with_reducible refine Ext.drew ?_ | with_reducible refine Ext.drewN ?_ _ | with_reducible refine Ext.alloc ?_ _ | with_reducible refine Ext.onto ?_ _ | (with_reducible refine Ext.setCells ?_ ?_ _ _; rotate_left; focus (first | omega | (simp; done) | (simp; omega))) | (with_reducible refine Ext.setCell ?_ ?_ _; rotate_left; focus (first | omega | (simp; done) | (simp; omega)))))))))) | quiet_step ((go_at_call 118; exact quietE (HM'.out _ (by first | exact ((HX1.out.onto _).onto _) | exact HX1.out.onto _ | exact (by (repeat (first | with_reducible exact HX1.out | with_reducible exact Ext.refl _ | with_reducible refine Ext.drew ?_ | with_reducible refine Ext.drewN ?_ _ | with_reducible refine Ext.alloc ?_ _ | with_reducible refine Ext.onto ?_ _ | (with_reducible refine Ext.setCells ?_ ?_ _ _; rotate_left; focus (first | omega | (simp; done) | (simp; omega))) | (with_reducible refine Ext.setCell ?_ ?_ _; rotate_left; focus (first | omega | (simp; done) | (simp; omega)))))))))))
        refine wpQuiet_nil ?_
        rintro _ ⟨xq, rfl⟩
        go_wp2
        go_ret
        exact ⟨ret_int HO'.out.symm, (by (repeat (first | with_reducible exact HX1.out | with_reducible exact Ext.refl _ | with_reducible refine Ext.drew ?_ | with_reducible refine Ext.drewN ?_ _ | with_reducible refine Ext.alloc ?_ _ | with_reducible refine Ext.onto ?_ _ | (with_reducible refine Ext.setCells ?_ ?_ _ _; rotate_left; focus (first | omega | (simp; done) | (simp; omega))) | (with_reducible refine Ext.setCell ?_ ?_ _; rotate_left; focus (first | omega | (simp; done) | (simp; omega))))))⟩
      · have HO' : Hid (O = 8) := Lib.hid (by rw [HO.out, if_pos rfl, if_pos rfl, if_neg b2])
        have d2 : decide (D = sel) = false := by simpa using b2
        clear HO b1 b2 HM
        go_wp2_with (first | (go_at_call 117; refine (HC.out _).mono ?_; rintro e w' ⟨rfl, hxl⟩; obtain ⟨xl, rfl⟩ := hxl.asLater; clear hxl))
        refine wp_region_later (by kernel_rfl) (by kernel_rfl) ?_
        repeat (first | go_big_quiet_step ((go_at_call 118; exact quietE (HM'.out _ (by first | exact ((HX1.out.onto _).onto _) | exact HX1.out.onto _ | exact (by (repeat (first | with_reducible exact HX1.out | with_reducible exact Ext.refl _ | with_reducible refine Ext.drew ?_ | with_reducible refine Ext.drewN ?_ _ | with_reducible refine Ext.alloc ?_ _ | with_reducible refine Ext.onto ?_ _ | (with_reducible refine Ext.setCells ?_ ?_ _ _; rotate_left; focus (first | omega | (simp; done) | (simp; omega))) | (with_reducible refine Ext.setCell ?_ ?_ _; rotate_left; focus (first | omega | (simp; done) | (simp; omega)))))))))) | quiet_step ((go_at_call 118; exact quietE (HM'.out _ (by first | exact ((HX1.out.onto _).onto _) | exact HX1.out.onto _ | exact (by (repeat (first | with_reducible exact HX1.out | with_reducible exact Ext.refl _ | with_reducible refine Ext.drew ?_ | with_reducible refine Ext.drewN ?_ _ | with_reducible refine Ext.alloc ?_ _ | with_reducible refine Ext.onto ?_ _ | (with_reducible refine Ext.setCells ?_ ?_ _ _; rotate_left; focus (first | omega | (simp; done) | (simp; omega))) | (with_reducible refine Ext.setCell ?_ ?_ _; rotate_left; focus (first | omega | (simp; done) | (simp; omega)))))))))))
        refine wpQuiet_nil ?_
        rintro _ ⟨xq, rfl⟩
        go_wp2
        go_ret
        exact ⟨ret_int HO'.out.symm, (by (repeat (first | with_reducible exact HX1.out | with_reducible exact Ext.refl _ | with_reducible refine Ext.drew ?_ | with_reducible refine Ext.drewN ?_ _ | with_reducible refine Ext.alloc ?_ _ | with_reducible refine Ext.onto ?_ _ | (with_reducible refine Ext.setCells ?_ ?_ _ _; rotate_left; focus (first | omega | (simp; done) | (simp; omega))) | (with_reducible refine Ext.setCell ?_ ?_ _; rotate_left; focus (first | omega | (simp; done) | (simp; omega))))))⟩
    | false =>
      rw [b1] at HC HO
      have HO' : Hid (O = 9) := Lib.hid (by rw [HO.out, if_pos rfl, if_neg (by simp)])
      clear HO b1 HM
      go_wp2_with (first | (go_at_call 117; refine (HC.out _).mono ?_; rintro e w' ⟨rfl, hxl⟩; obtain ⟨xl, rfl⟩ := hxl.asLater; clear hxl))
      go_ret
      exact ⟨ret_int HO'.out.symm, (by (repeat (first | with_reducible exact HX1.out | with_reducible exact Ext.refl _ | with_reducible refine Ext.drew ?_ | with_reducible refine Ext.drewN ?_ _ | with_reducible refine Ext.alloc ?_ _ | with_reducible refine Ext.onto ?_ _ | (with_reducible refine Ext.setCells ?_ ?_ _ _; rotate_left; focus (first | omega | (simp; done) | (simp; omega))) | (with_reducible refine Ext.setCell ?_ ?_ _; rotate_left; focus (first | omega | (simp; done) | (simp; omega))))))⟩
  · have HO' : Hid (O = ef) := Lib.hid (by rw [HO.out, if_neg b0])
    have e0 : (ef != 0) = true := by simpa using b0
    clear HO HM HC b0
    go_wp2
    go_ret
    exact ⟨ret_int HO'.out.symm, (by (repeat (first | with_reducible exact HX1.out | with_reducible exact Ext.refl _ | with_reducible refine Ext.drew ?_ | with_reducible refine Ext.drewN ?_ _ | with_reducible refine Ext.alloc ?_ _ | with_reducible refine Ext.onto ?_ _ | (with_reducible refine Ext.setCells ?_ ?_ _ _; rotate_left; focus (first | omega | (simp; done) | (simp; omega))) | (with_reducible refine Ext.setCell ?_ ?_ _; rotate_left; focus (first | omega | (simp; done) | (simp; omega))))))⟩
set_option maxRecDepth 100000 in
set_option maxHeartbeats 4000000 in
theorem scheckStamp_any (Ar : Option Addr) (nr cr : Nat) (x : St) (kf : Ky) (ef : Int) (w : World) (h16 : x.body.length = 16) (h16s : x.seal_.length = 16) (hbs : Byt x.seal_) (hi : ∀ y ∈ stInts x, i64 y) (hl : ef = 0 → lens ([kf.secret] ++ stParts x ++ [kf.secret]) < 8796093022208) (hk : Konst 0 w)
    (hf : ∀ W, Ext w W → Calls Tryz.prog 116 #[.slice Ar nr cr, .int .i64 x.gate, .int .i64 x.serial] W fun e w' => e = .returned (.tuple #[.agg (kyC kf), .int .i64 ef]) ∧ Ext W w') :
    Calls Tryz.prog 45 #[.slice Ar nr cr, .agg (stmC x)] w fun e w' => e = .returned (.int .i64 (checkOut kf ef 41 (stParts x) x.seal_ x.lo x.hi)) ∧ Ext w w' := by
  have HI := Lib.hid (fun W : World => sparts_any x W h16 hi)
  have HC := Lib.hid (fun (A : Option Addr) (c : Nat) (W : World) (h1 : ReadsStr W W.heap.size A (stParts x)) (h2 : A = none → c = 0) (hx : Ext w W) => scheck_any Ar nr cr x.gate x.serial 41 A c (stParts x) x.seal_ x.lo x.hi kf ef W h16s hbs h1 h2 hl (RowAt.ext hk hx) (fun W' hx' => hf W' (hx.trans hx')))
  generalize checkOut kf ef 41 (stParts x) x.seal_ x.lo x.hi = O at *
  clear h16 h16s hbs hi hl hk hf
  go_enter Tryz.func45, Tryz.ntmps45
  go_wp2
  refine wp_world (fun W => Ext w W ∧ RowAt W w.heap.size (stmC x)) ⟨(by (repeat (first | with_reducible exact Ext.refl _ | with_reducible exact Ext.refl _ | with_reducible refine Ext.drew ?_ | with_reducible refine Ext.drewN ?_ _ | with_reducible refine Ext.alloc ?_ _ | with_reducible refine Ext.onto ?_ _ | (with_reducible refine Ext.setCells ?_ ?_ _ _; rotate_left; focus (first | omega | (simp; done) | (simp; omega))) | (with_reducible refine Ext.setCell ?_ ?_ _; rotate_left; focus (first | omega | (simp; done) | (simp; omega)))))), RowAt.new _ _ _⟩ ?_
  obtain ⟨B, hB⟩ : ∃ B, w.heap.size = B := ⟨_, rfl⟩
  rw [hB]
  rintro W1 ⟨x1, u0⟩
  have HX1 := Lib.hid x1
  have hlu := u0.lt
  have k0 : rowOf W1 B 0 41 = some (stmC x) := u0.all rfl (by omega)
  have c23 : W1.cell? ⟨B, 23, none⟩ = some (.int .i64 x.gate) := u0.cell 23
  have c24 : W1.cell? ⟨B, 24, none⟩ = some (.int .i64 x.serial) := u0.cell 24
  have c21 : W1.cell? ⟨B, 21, none⟩ = some (.int .i64 x.lo) := u0.cell 21
  have c22 : W1.cell? ⟨B, 22, none⟩ = some (.int .i64 x.hi) := u0.cell 22
  have r25 : rowOf W1 B 25 16 = some (dgC x.seal_) := by rw [u0.row, if_neg (by omega), stm_seal]
  clear x1 u0
  refine wp_region_soft 12 (softsL [.eq (.slice Ar nr cr), .eq (.pointer (some ⟨B, 23, none⟩)), .eq (.int .i64 x.gate), .eq (.pointer (some ⟨B, 24, none⟩)), .eq (.int .i64 x.serial), .eq (.agg (stmC x)), readS (stParts x), .eq (.pointer (some ⟨B, 25, none⟩)), .eq (.agg (dgC x.seal_)), .eq (.pointer (some ⟨B, 21, none⟩)), .eq (.agg #[.int .i64 x.lo, .int .i64 x.hi]), .eq (.int .i64 O)]) (by kernel_rfl) (by kernel_rfl) (lt_cons ?_ (lt_cons ?_ (lt_cons ?_ (lt_cons ?_ (lt_cons ?_ (lt_cons ?_ (lt_cons ?_ (lt_cons ?_ (lt_cons ?_ (lt_cons ?_ (lt_cons ?_ (lt_cons ?_ lt_none)))))))))))) ?_
  ·
    intro o ho xs W hW hd Q' hQ; obtain rfl := Option.some.inj ho; clear ho; simp only [fillAt, dstOf, List.getElem?_cons_zero, List.getElem?_cons_succ, Option.bind_some, Act.put, List.setIfInBounds_toArray, List.set_cons_zero, List.set_cons_succ, Nat.zero_add, Nat.reduceAdd] at hQ ⊢; have HQ := Lib.hid hQ; have HD := Lib.hid hd; have HW := Lib.hid hW; have hsW := hW.size; clear hQ hd hW
    go_wp2
    exact HQ.out _ _ (Ext.refl _) rfl
  ·
    intro o ho xs W hW hd Q' hQ; obtain rfl := Option.some.inj ho; clear ho; simp only [fillAt, dstOf, List.getElem?_cons_zero, List.getElem?_cons_succ, Option.bind_some, Act.put, List.setIfInBounds_toArray, List.set_cons_zero, List.set_cons_succ, Nat.zero_add, Nat.reduceAdd] at hQ ⊢; have HQ := Lib.hid hQ; have HD := Lib.hid hd; have HW := Lib.hid hW; have hsW := hW.size; clear hQ hd hW
    go_wp2
    exact HQ.out _ _ (Ext.refl _) rfl
  ·
    intro o ho xs W hW hd Q' hQ; obtain rfl := Option.some.inj ho; clear ho; simp only [fillAt, dstOf, List.getElem?_cons_zero, List.getElem?_cons_succ, Option.bind_some, Act.put, List.setIfInBounds_toArray, List.set_cons_zero, List.set_cons_succ, Nat.zero_add, Nat.reduceAdd] at hQ ⊢; have HQ := Lib.hid hQ; have HD := Lib.hid hd; have HW := Lib.hid hW; have hsW := hW.size; clear hQ hd hW
    have hd1 : xs 1 = .pointer (some ⟨B, 23, none⟩) := (HD.out 1 (of_decide_eq_true (by kernel_rfl)))
    generalize xs 1 = x1 at hd1 HQ ⊢; subst hd1
    have hc := (HW.out.cell (p := ⟨B, 23, none⟩) (by exact hlu)).trans c23
    go_wp2
    exact HQ.out _ _ (Ext.refl _) rfl
  ·
    intro o ho xs W hW hd Q' hQ; obtain rfl := Option.some.inj ho; clear ho; simp only [fillAt, dstOf, List.getElem?_cons_zero, List.getElem?_cons_succ, Option.bind_some, Act.put, List.setIfInBounds_toArray, List.set_cons_zero, List.set_cons_succ, Nat.zero_add, Nat.reduceAdd] at hQ ⊢; have HQ := Lib.hid hQ; have HD := Lib.hid hd; have HW := Lib.hid hW; have hsW := hW.size; clear hQ hd hW
    go_wp2
    exact HQ.out _ _ (Ext.refl _) rfl
  ·
    intro o ho xs W hW hd Q' hQ; obtain rfl := Option.some.inj ho; clear ho; simp only [fillAt, dstOf, List.getElem?_cons_zero, List.getElem?_cons_succ, Option.bind_some, Act.put, List.setIfInBounds_toArray, List.set_cons_zero, List.set_cons_succ, Nat.zero_add, Nat.reduceAdd] at hQ ⊢; have HQ := Lib.hid hQ; have HD := Lib.hid hd; have HW := Lib.hid hW; have hsW := hW.size; clear hQ hd hW
    have hd3 : xs 3 = .pointer (some ⟨B, 24, none⟩) := (HD.out 3 (of_decide_eq_true (by kernel_rfl)))
    generalize xs 3 = x3 at hd3 HQ ⊢; subst hd3
    have hc := (HW.out.cell (p := ⟨B, 24, none⟩) (by exact hlu)).trans c24
    go_wp2
    exact HQ.out _ _ (Ext.refl _) rfl
  ·
    intro o ho xs W hW hd Q' hQ; obtain rfl := Option.some.inj ho; clear ho; simp only [fillAt, dstOf, List.getElem?_cons_zero, List.getElem?_cons_succ, Option.bind_some, Act.put, List.setIfInBounds_toArray, List.set_cons_zero, List.set_cons_succ, Nat.zero_add, Nat.reduceAdd] at hQ ⊢; have HQ := Lib.hid hQ; have HD := Lib.hid hd; have HW := Lib.hid hW; have hsW := hW.size; clear hQ hd hW
    have hc := (row_extW HW.out (b := B) (by omega) 0 41).trans k0
    go_wp2
    exact HQ.out _ _ (Ext.refl _) rfl
  ·
    intro o ho xs W hW hd Q' hQ; obtain rfl := Option.some.inj ho; clear ho; simp only [fillAt, dstOf, List.getElem?_cons_zero, List.getElem?_cons_succ, Option.bind_some, Act.put, List.setIfInBounds_toArray, List.set_cons_zero, List.set_cons_succ, Nat.zero_add, Nat.reduceAdd] at hQ ⊢; have HQ := Lib.hid hQ; have HD := Lib.hid hd; have HW := Lib.hid hW; have hsW := hW.size; clear hQ hd hW
    have hd5 : xs 5 = .agg (stmC x) := (HD.out 5 (of_decide_eq_true (by kernel_rfl)))
    generalize xs 5 = x5 at hd5 HQ ⊢; subst hd5
    go_wp2_with (go_at_call 89; refine (HI.out _).mono ?_; rintro e w1 ⟨A, c, rfl, h1, h2, hx⟩)
    exact HQ.out _ _ hx ⟨A, c, rfl, h1, h2⟩
  ·
    intro o ho xs W hW hd Q' hQ; obtain rfl := Option.some.inj ho; clear ho; simp only [fillAt, dstOf, List.getElem?_cons_zero, List.getElem?_cons_succ, Option.bind_some, Act.put, List.setIfInBounds_toArray, List.set_cons_zero, List.set_cons_succ, Nat.zero_add, Nat.reduceAdd] at hQ ⊢; have HQ := Lib.hid hQ; have HD := Lib.hid hd; have HW := Lib.hid hW; have hsW := hW.size; clear hQ hd hW
    go_wp2
    exact HQ.out _ _ (Ext.refl _) rfl
  ·
    intro o ho xs W hW hd Q' hQ; obtain rfl := Option.some.inj ho; clear ho; simp only [fillAt, dstOf, List.getElem?_cons_zero, List.getElem?_cons_succ, Option.bind_some, Act.put, List.setIfInBounds_toArray, List.set_cons_zero, List.set_cons_succ, Nat.zero_add, Nat.reduceAdd] at hQ ⊢; have HQ := Lib.hid hQ; have HD := Lib.hid hd; have HW := Lib.hid hW; have hsW := hW.size; clear hQ hd hW
    have hd7 : xs 7 = .pointer (some ⟨B, 25, none⟩) := (HD.out 7 (of_decide_eq_true (by kernel_rfl)))
    generalize xs 7 = x7 at hd7 HQ ⊢; subst hd7
    have hc := (row_extW HW.out (b := B) (by omega) 25 16).trans r25
    go_wp2
    exact HQ.out _ _ (Ext.refl _) rfl
  ·
    intro o ho xs W hW hd Q' hQ; obtain rfl := Option.some.inj ho; clear ho; simp only [fillAt, dstOf, List.getElem?_cons_zero, List.getElem?_cons_succ, Option.bind_some, Act.put, List.setIfInBounds_toArray, List.set_cons_zero, List.set_cons_succ, Nat.zero_add, Nat.reduceAdd] at hQ ⊢; have HQ := Lib.hid hQ; have HD := Lib.hid hd; have HW := Lib.hid hW; have hsW := hW.size; clear hQ hd hW
    go_wp2
    exact HQ.out _ _ (Ext.refl _) rfl
  ·
    intro o ho xs W hW hd Q' hQ; obtain rfl := Option.some.inj ho; clear ho; simp only [fillAt, dstOf, List.getElem?_cons_zero, List.getElem?_cons_succ, Option.bind_some, Act.put, List.setIfInBounds_toArray, List.set_cons_zero, List.set_cons_succ, Nat.zero_add, Nat.reduceAdd] at hQ ⊢; have HQ := Lib.hid hQ; have HD := Lib.hid hd; have HW := Lib.hid hW; have hsW := hW.size; clear hQ hd hW
    have hd9 : xs 9 = .pointer (some ⟨B, 21, none⟩) := (HD.out 9 (of_decide_eq_true (by kernel_rfl)))
    generalize xs 9 = x9 at hd9 HQ ⊢; subst hd9
    have hc := (HW.out.cell (p := ⟨B, 21, none⟩) (by exact hlu)).trans c21
    have hc2 := (HW.out.cell (p := ⟨B, 22, none⟩) (by exact hlu)).trans c22
    go_wp2
    exact HQ.out _ _ (Ext.refl _) rfl
  ·
    intro o ho xs W hW hd Q' hQ; obtain rfl := Option.some.inj ho; clear ho; simp only [fillAt, dstOf, List.getElem?_cons_zero, List.getElem?_cons_succ, Option.bind_some, Act.put, List.setIfInBounds_toArray, List.set_cons_zero, List.set_cons_succ, Nat.zero_add, Nat.reduceAdd] at hQ ⊢; have HQ := Lib.hid hQ; have HD := Lib.hid hd; have HW := Lib.hid hW; have hsW := hW.size; clear hQ hd hW
    have hd0 : xs 0 = .slice Ar nr cr := (HD.out 0 (of_decide_eq_true (by kernel_rfl)))
    generalize xs 0 = x0 at hd0 HQ ⊢; subst hd0
    have hd2 : xs 2 = .int .i64 x.gate := (HD.out 2 (of_decide_eq_true (by kernel_rfl)))
    generalize xs 2 = x2 at hd2 HQ ⊢; subst hd2
    have hd4 : xs 4 = .int .i64 x.serial := (HD.out 4 (of_decide_eq_true (by kernel_rfl)))
    generalize xs 4 = x4 at hd4 HQ ⊢; subst hd4
    obtain ⟨A, c, h6, hr6, hz6⟩ : (readS (stParts x)).S (xs 6) W := (HD.out 6 (of_decide_eq_true (by kernel_rfl)))
    generalize xs 6 = x6 at h6 HQ ⊢; subst h6
    have hd8 : xs 8 = .agg (dgC x.seal_) := (HD.out 8 (of_decide_eq_true (by kernel_rfl)))
    generalize xs 8 = x8 at hd8 HQ ⊢; subst hd8
    have hd10 : xs 10 = .agg #[.int .i64 x.lo, .int .i64 x.hi] := (HD.out 10 (of_decide_eq_true (by kernel_rfl)))
    generalize xs 10 = x10 at hd10 HQ ⊢; subst hd10
    go_wp2_with (go_at_call 88; refine (HC.out A c _ hr6 hz6 (HX1.out.trans HW.out)).mono ?_; rintro e w1 ⟨rfl, hx⟩)
    exact HQ.out _ _ hx rfl
  intro xs W3 hW hS
  have h5 : xs 11 = .int .i64 O := hS 11 (by omega)
  simp only [fillAt, dstOf, List.getElem?_cons_zero, List.getElem?_cons_succ, Option.bind_some, Act.put, List.setIfInBounds_toArray, List.set_cons_zero, List.set_cons_succ, Nat.zero_add, Nat.reduceAdd, List.drop_succ_cons, List.drop_zero, List.drop_nil]
  generalize xs 11 = x5 at *; subst h5
  have HX3 := Lib.hid (HX1.out.trans hW)
  clear hS hW k0 HX1
  go_wp2
  go_ret
  exact ⟨rfl, (by (repeat (first | with_reducible exact HX3.out | with_reducible exact Ext.refl _ | with_reducible refine Ext.drew ?_ | with_reducible refine Ext.drewN ?_ _ | with_reducible refine Ext.alloc ?_ _ | with_reducible refine Ext.onto ?_ _ | (with_reducible refine Ext.setCells ?_ ?_ _ _; rotate_left; focus (first | omega | (simp; done) | (simp; omega))) | (with_reducible refine Ext.setCell ?_ ?_ _; rotate_left; focus (first | omega | (simp; done) | (simp; omega))))))⟩
/-! ### A ring of one key -/
theorem find_one (b c : Nat) (k : Ky) (w : World) (hr : RowAt w b (kyC k)) (h1 : small40 k.party) (h2 : small40 k.serial) :
    Calls Tryz.prog 116 #[.slice (some ⟨b, 0, none⟩) 1 c, .int .i64 k.party, .int .i64 k.serial] w fun e w' => e = .returned (.tuple #[.agg (kyC k), .int .i64 0]) ∧ Ext w w' := by
  have hR : ReadsKy w w.heap.size (some ⟨b, 0, none⟩) [k] := by
    intro _
    refine ⟨b, 0, rfl, hr.lt, fun i hi j v hv => ?_⟩
    have h0 : i = 0 := by simp at hi; omega
    subst h0
    have e : (kyC k)[j]? = (kyL k)[j]? := by simp [kyC, kyL]
    have := hr.cell j
    rw [show 0 + 0 * 5 + j = j by omega, this, e]
    exact hv
  have hc : cmpK k.party k.serial k = 0 := by unfold cmpK; rw [if_pos rfl]; omega
  refine (kfind_hit (some ⟨b, 0, none⟩) c [k] k.party k.serial w (by simp) hR (fun a b ha hb h => by simp at ha hb; omega) (fun x hx => by rw [List.mem_singleton] at hx; subst hx; exact ⟨h1, h2⟩) h1 h2).mono ?_
  rintro e w' ⟨i, ha, h | h, hx⟩
  · obtain ⟨hi, _, rfl⟩ := h
    have h0 : i = 0 := by simp at hi; omega
    subst h0
    exact ⟨rfl, hx⟩
  · exfalso
    refine h.1 ?_
    have hi : i = 0 := by
      rcases Nat.eq_zero_or_pos i with q | q
      · exact q
      · have := ha.2.1 0 (by simp) q
        simp only [List.getElem_cons_zero] at this
        omega
    subst hi
    exact ⟨by simp, hc⟩
set_option maxRecDepth 100000 in
set_option maxHeartbeats 2000000 in
theorem rcounts_any (k : Ky) (lo hi : Int) (w : World) : Calls Tryz.prog 44 #[.agg (kyC k), .agg #[.int .i64 lo, .int .i64 hi]] w fun e w' => e = .returned (.bool (countB k lo hi)) ∧ Ext w w' := by
  have HF : Hid (countB k lo hi = (decide (0 ≤ lo) && decide (lo ≤ hi) && decide (hi ≤ 1099511627776) && decide (k.fr ≤ lo) && decide (hi < k.upto))) := Lib.hid rfl
  generalize countB k lo hi = R at HF ⊢
  go_enter Tryz.func44, Tryz.ntmps44
  go_wp2
  all_goals
    go_ret
    exact ⟨ret_bool (by rw [HF.out]; clear HF; simp [*] <;> omega), (by (repeat (first | with_reducible exact Ext.refl _ | with_reducible exact Ext.refl _ | with_reducible refine Ext.drew ?_ | with_reducible refine Ext.drewN ?_ _ | with_reducible refine Ext.alloc ?_ _ | with_reducible refine Ext.onto ?_ _ | (with_reducible refine Ext.setCells ?_ ?_ _ _; rotate_left; focus (first | omega | (simp; done) | (simp; omega))) | (with_reducible refine Ext.setCell ?_ ?_ _; rotate_left; focus (first | omega | (simp; done) | (simp; omega))))))⟩
end Go.Proofs.YtpjacgcaibaggaaGreatDoor
