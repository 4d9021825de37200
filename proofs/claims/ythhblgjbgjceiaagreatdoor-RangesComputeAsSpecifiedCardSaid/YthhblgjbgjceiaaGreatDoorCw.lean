/- slices.Grow and slices.Concat at spans. -/
import Derived.Test.YthhblgjbgjceiaaGreatDoorProg
import Derived.Test.YthhblgjbgjceiaaGreatDoorExt
import Derived.WalkKit
import Derived.WalkSpells
import Derived.WalkLawsBesides
import Derived.Deep.QuietTactic
import Derived.BigQuiet
import Derived.Test.YthhblgjbgjceiaaGreatDoorCv
set_option linter.unusedVariables false
set_option linter.unusedSimpArgs false
namespace Go.Proofs.YthhblgjbgjceiaaGreatDoor
open Go.RowKit Go.Shelf Go.Sort
open Go.Proofs
open Go.Proofs.Sp (Sp)

set_option maxRecDepth 100000 in
theorem grow_any (n : Nat) (m : Int) (hm : m = n) (w : World) (hn : n * 16 ≤ 140737488355328) :
    Calls Tryz.prog 140 #[.slice none 0 0, .int .i64 m] w fun e w' => ∃ A' c', e = .returned (.slice A' 0 c') ∧ OwnsSp w.heap.size w' A' c' [] ∧ Ext w w' := by
  subst hm
  obtain ⟨i, hi, hz, h1, h2⟩ := info_parts spInfo
  by_cases h0 : n = 0
  · subst h0
    go_enter Tryz.func140, Tryz.ntmps140
    go_wp2
    go_ret
    exact ⟨none, 0, rfl, Owns.nil _ _ _ _ _, Ext.refl _⟩
  · have hcon := Any8.slices_Grow_grow Tryz.growSp i (.agg #[.int .i64 0, .int .i64 0]) hi hz (by omega) none 0 0 n [] w (Nat.le_refl _) (by omega) (by rw [h2]; omega) (by omega) (by simp) (fun _ => rfl) (fun a h => by cases h)
    change Calls Tryz.prog 140 _ _ _ at hcon
    refine hcon.mono ?_
    rintro e w' ⟨rfl, rfl⟩
    refine ⟨some ⟨w.heap.size, 0, none⟩, _, rfl, Owns.mk spE (Nat.le_refl _) (heap_alloc_new w.drew _) (Nat.zero_le _) (grownCap_le_maxLen _ _ _ _ (by unfold maxLen; omega)) ?_ (by simp), ((Ext.refl w).drew).alloc _⟩
    have hge := grownCap_ge w (0 + n) 0 (Tryz.growSp_ren.t 25)
    show _ = grownCap w (0 + n) 0 (Tryz.growSp_ren.t 25) * 2
    generalize grownCap w (0 + n) 0 (Tryz.growSp_ren.t 25) = cc at *
    simp [size_zeroCells, Value.cells]
    omega

set_option maxRecDepth 100000 in
set_option maxHeartbeats 1000000 in
theorem concat_any (b : Nat) (A1 : Option Addr) (c1 : Nat) (l1 : List Sp) (A2 : Option Addr) (c2 : Nat) (l2 : List Sp) (w : World) (hb : b < w.heap.size) (k1 : w.cell? ⟨b, 0, none⟩ = some (.slice A1 l1.length c1)) (k2 : w.cell? ⟨b, 1, none⟩ = some (.slice A2 l2.length c2))
    (r1 : ReadsSp w w.heap.size A1 l1) (r2 : ReadsSp w w.heap.size A2 l2) (z1 : A1 = none → c1 = 0) (z2 : A2 = none → c2 = 0) (hlen : (l1.length + l2.length) * 16 ≤ 140737488355328) :
    Calls Tryz.prog 103 #[.slice (some ⟨b, 0, none⟩) 2 2] w fun e w' => ∃ A' c' l', e = .returned (.slice A' l'.length c') ∧ Hid (l' = l1 ++ l2) ∧ OwnsSp w.heap.size w' A' c' l' ∧ Ext w w' := by
  have HR1 := Lib.hid r1
  have HR2 := Lib.hid r2
  have HZ1 := Lib.hid z1
  have HZ2 := Lib.hid z2
  clear r1 r2 z1 z2
  go_enter Tryz.func103, Tryz.ntmps103
  go_wp2
  refine wp_loop_rounds 3 ?_
  rw [rounds_succ]
  go_wp2
  rw [rounds_succ]
  go_wp2
  rw [rounds_succ]
  go_wp2_with (go_at_call 140; refine (grow_any (l1.length + l2.length) _ (by simp) _ (by omega)).mono ?_; rintro e w1 ⟨A3, c3, rfl, ho, hx⟩; have HO := Lib.hid ho; have HX := Lib.hid hx; have hszx := hx.size; have k1' := (hx.cell (p := ⟨b, 0, none⟩) hb).trans k1; have k2' := (hx.cell (p := ⟨b, 1, none⟩) hb).trans k2; clear ho hx)
  refine wp_loop_rounds 3 ?_
  rw [rounds_succ]
  go_wp2_with (at_builtin; refine app_reads spT spE rfl _ _ rfl w.heap.size A3 c3 [] rfl HO.out w.heap.size A1 c1 l1 rfl (HR1.out.ext HX.out (Nat.le_refl _)) HZ1.out (by simp; omega) (by simp; omega) hszx ?_; intro A4 c4 l4 w4 HL4 HO4 hB4 hl1 hl2 _; have hl1' : l4.length ≤ l1.length := (by simpa using hl1); have HO4' := Lib.hid HO4; have HB4 := Lib.hid hB4; have k2'' := (hB4.cell (p := ⟨b, 1, none⟩) hb).trans k2'; have hsz4 := hB4.size; clear HO4 hB4)
  rw [rounds_succ]
  go_wp2_with (at_builtin; refine app_reads spT spE rfl _ _ rfl w.heap.size A4 c4 l4 rfl HO4'.out w.heap.size A2 c2 l2 rfl ((HR2.out.ext HX.out (Nat.le_refl _)).below HB4.out) HZ2.out (by omega) (by omega) (by omega) ?_; intro A5 c5 l5 w5 HL5 HO5 hB5 hl3 hl4 _; have HO5' := Lib.hid HO5; have HB5 := Lib.hid hB5; clear HO5 hB5)
  rw [rounds_succ]
  go_wp2
  go_ret
  exact ⟨A5, c5, l5, rfl, Lib.hid (by rw [HL5.out, HL4.out, List.nil_append]), HO5'.out, (HX.out.grown HB4.out (Nat.le_refl _)).grown HB5.out (Nat.le_refl _)⟩
end Go.Proofs.YthhblgjbgjceiaaGreatDoor
