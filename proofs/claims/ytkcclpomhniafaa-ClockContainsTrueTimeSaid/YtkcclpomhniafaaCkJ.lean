/- The examples of the document: sanity returns true. -/
import Derived.Test.YtkcclpomhniafaaRows
import Derived.Test.YtkcclpomhniafaaExt
import Derived.WalkKit
import Derived.WalkSpells
import Derived.WalkLawsBesides
import Derived.Deep.QuietTactic
import Derived.BigQuiet
import Derived.Test.YtkcclpomhniafaaCkC
import Derived.Test.YtkcclpomhniafaaCkD
import Derived.Test.YtkcclpomhniafaaCkG
import Derived.Test.YtkcclpomhniafaaCkI
set_option linter.unusedVariables false
set_option linter.unusedSimpArgs false
namespace Go.Proofs.Ytkcclpomhniafaa
open Go.RowKit

theorem ckr_ex : CkR 1000 5000 5010 100000 := ⟨by omega, by omega, by omega, by omega, by omega, by omega, by omega⟩
theorem ex_read1 (w : World) : Calls Try.prog 14 #[.agg #[.int .i64 1000, .int .i64 5000, .int .i64 5010, .int .i64 100000], .int .i64 1000] w fun e w' => e = .returned (.tuple #[.agg #[.int .i64 5000, .int .i64 5011], .int .i64 0]) ∧ Ext w w' := by
  have h := read_ok 1000 5000 5010 100000 1000 w (by omega) (by omega) (by omega) (by omega) (by omega) (by omega) (by omega) (by omega)
  rwa [show rdLo 1000 5000 100000 1000 = 5000 by decide +kernel, show rdHi 1000 5010 100000 1000 = 5011 by decide +kernel] at h
theorem ex_read2 (w : World) : Calls Try.prog 14 #[.agg #[.int .i64 1000, .int .i64 5000, .int .i64 5010, .int .i64 100000], .int .i64 1010] w fun e w' => e = .returned (.tuple #[.agg #[.int .i64 5009, .int .i64 5022], .int .i64 0]) ∧ Ext w w' := by
  have h := read_ok 1000 5000 5010 100000 1010 w (by omega) (by omega) (by omega) (by omega) (by omega) (by omega) (by omega) (by omega)
  rwa [show rdLo 1000 5000 100000 1010 = 5009 by decide +kernel, show rdHi 1000 5010 100000 1010 = 5022 by decide +kernel] at h
theorem ex_read3 (w : World) : Calls Try.prog 14 #[.agg #[.int .i64 1000, .int .i64 5000, .int .i64 5010, .int .i64 100000], .int .i64 2101] w fun e w' => e = .returned (.tuple #[.agg #[.int .i64 6000, .int .i64 6234], .int .i64 0]) ∧ Ext w w' := by
  have h := read_ok 1000 5000 5010 100000 2101 w (by omega) (by omega) (by omega) (by omega) (by omega) (by omega) (by omega) (by omega)
  rwa [show rdLo 1000 5000 100000 2101 = 6000 by decide +kernel, show rdHi 1000 5010 100000 2101 = 6234 by decide +kernel] at h
theorem ex_read4 (w : World) : Calls Try.prog 14 #[.agg #[.int .i64 1000, .int .i64 5000, .int .i64 5010, .int .i64 100000], .int .i64 999] w fun e w' => e = .returned (.tuple #[.agg #[.int .i64 0, .int .i64 0], .int .i64 9]) ∧ Ext w w' :=
  read_time 1000 5000 5010 100000 999 w (by omega) (by omega) (by omega) (by omega)
theorem ex_sync1 (w : World) : Calls Try.prog 16 #[.agg #[.int .i64 1000, .int .i64 5000, .int .i64 5010, .int .i64 100000], .int .i64 1010, .agg #[.int .i64 5020, .int .i64 5040]] w fun e w' => e = .returned (.tuple #[.agg #[.int .i64 1010, .int .i64 5020, .int .i64 5022, .int .i64 100000], .int .i64 0]) ∧ Ext w w' := by
  have h := sync_ok 1000 5000 5010 100000 1010 5020 5040 w (by decide +kernel) ckr_ex (by omega) (by omega) (by decide +kernel)
  rwa [show meetLo (rdLo 1000 5000 100000 1010) (rdHi 1000 5010 100000 1010) 5020 5040 = 5020 by decide +kernel, show meetHi (rdLo 1000 5000 100000 1010) (rdHi 1000 5010 100000 1010) 5020 5040 = 5022 by decide +kernel] at h
theorem ex_sync2 (w : World) : Calls Try.prog 16 #[.agg #[.int .i64 1000, .int .i64 5000, .int .i64 5010, .int .i64 100000], .int .i64 1010, .agg #[.int .i64 5030, .int .i64 5040]] w fun e w' => e = .returned (.tuple #[.agg #[.int .i64 0, .int .i64 0, .int .i64 0, .int .i64 0], .int .i64 9]) ∧ Ext w w' :=
  sync_no 1000 5000 5010 100000 1010 5030 5040 w (by decide +kernel) ckr_ex (by omega) (by omega) (by decide +kernel)
theorem ex_u1 : IsU 1000 5010 100000 5023 1010 := .inr ⟨by omega, by omega, by decide +kernel, fun _ => by decide +kernel⟩
theorem ex_u2 : IsU 1000 5010 100000 5011 (-1) := .inl ⟨rfl, by decide +kernel⟩
theorem ex_until1 (w : World) : Calls Try.prog 19 #[.agg #[.int .i64 1000, .int .i64 5000, .int .i64 5010, .int .i64 100000], .int .i64 5023] w fun e w' => e = .returned (.int .i64 1010) ∧ Ext w w' :=
  (until_any 1000 5000 5010 100000 5023 w ckr_ex).mono fun e w' ⟨⟨u, he, hu⟩, hx⟩ => ⟨by rw [he, IsU.unique (by omega) (by omega) (by omega) hu ex_u1], hx⟩
theorem ex_until2 (w : World) : Calls Try.prog 19 #[.agg #[.int .i64 1000, .int .i64 5000, .int .i64 5010, .int .i64 100000], .int .i64 5011] w fun e w' => e = .returned (.int .i64 (-1)) ∧ Ext w w' :=
  (until_any 1000 5000 5010 100000 5011 w ckr_ex).mono fun e w' ⟨⟨u, he, hu⟩, hx⟩ => ⟨by rw [he, IsU.unique (by omega) (by omega) (by omega) hu ex_u2], hx⟩
theorem ex_worth (w : World) : Calls Try.prog 21 #[.agg #[.int .i64 1000, .int .i64 5000, .int .i64 5010, .int .i64 100000], .int .i64 1005, .int .i64 5023] w fun e w' => e = .returned (.int .i64 6) ∧ Ext w w' :=
  (worth_any 1000 5000 5010 100000 5023 1005 w ckr_ex).mono fun e w' ⟨⟨u, he, hu⟩, hx⟩ => ⟨by rw [he, IsU.unique (by omega) (by omega) (by omega) hu ex_u1]; rfl, hx⟩
theorem ex_show (b c : Nat) (w : World) (hb : b < w.heap.size) (c0 : w.cell? ⟨b, 0, none⟩ = some (.int .i64 100)) (c1 : w.cell? ⟨b, 1, none⟩ = some (.int .i64 100000)) (c2 : w.cell? ⟨b, 2, none⟩ = some (.int .i64 50)) (c3 : w.cell? ⟨b, 3, none⟩ = some (.int .i64 (-100000))) :
    Calls Try.prog 26 #[.int .i64 7, .slice (some ⟨b, 0, none⟩) 2 c, .int .i64 120] w fun e w' => e = .returned (.tuple #[.int .i64 135, .int .i64 0]) ∧ Ext w w' := by
  refine show_ok 7 120 (some ⟨b, 0, none⟩) c [(100, 100000), (50, -100000)] w ?_ (by omega) (by omega) (by omega) (by omega) (by decide +kernel) 128000000 (Lib.hid (by decide +kernel)) _ (.inl ⟨by omega, by rfl⟩)
  intro _
  refine ⟨b, 0, rfl, hb, fun i hi => ?_⟩
  match i, hi with
  | 0, _ => exact ⟨c0, c1⟩
  | 1, _ => exact ⟨c2, c3⟩

set_option maxRecDepth 100000 in
set_option maxHeartbeats 1000000 in
theorem sanity_any (w : World) : Calls Try.prog 13 #[] w fun e w' => e = .returned (.bool true) ∧ Ext w w' := by
  go_enter Try.func13, Try.ntmps13
  go_wp2_with (first
    | (go_at_call 10; with_reducible refine (new_ok 1000 5000 5010 100000 _ ckr_ex).mono ?_; rintro e w' ⟨rfl, hxl⟩; obtain ⟨xl, rfl⟩ := hxl.asLater; clear hxl)
    | (go_at_call 14; (first | with_reducible refine (ex_read1 _).mono ?_ | with_reducible refine (ex_read2 _).mono ?_ | with_reducible refine (ex_read3 _).mono ?_ | with_reducible refine (ex_read4 _).mono ?_); rintro e w' ⟨rfl, hxl⟩; obtain ⟨xl, rfl⟩ := hxl.asLater; clear hxl)
    | (go_at_call 16; (first | with_reducible refine (ex_sync1 _).mono ?_ | with_reducible refine (ex_sync2 _).mono ?_); rintro e w' ⟨rfl, hxl⟩; obtain ⟨xl, rfl⟩ := hxl.asLater; clear hxl)
    | (go_at_call 19; (first | with_reducible refine (ex_until1 _).mono ?_ | with_reducible refine (ex_until2 _).mono ?_); rintro e w' ⟨rfl, hxl⟩; obtain ⟨xl, rfl⟩ := hxl.asLater; clear hxl)
    | (go_at_call 21; with_reducible refine (ex_worth _).mono ?_; rintro e w' ⟨rfl, hxl⟩; obtain ⟨xl, rfl⟩ := hxl.asLater; clear hxl))
  refine (ex_show _ _ _ (by simp [go_sem]) (by simp [go_sem]) (by simp [go_sem]) (by simp [go_sem]) (by simp [go_sem])).mono ?_
  rintro e w' ⟨rfl, hxl⟩; obtain ⟨xl, rfl⟩ := hxl.asLater; clear hxl
  go_wp2_with (first
    | (go_at_call 19; (first | with_reducible refine (ex_until1 _).mono ?_ | with_reducible refine (ex_until2 _).mono ?_); rintro e w' ⟨rfl, hxl⟩; obtain ⟨xl, rfl⟩ := hxl.asLater; clear hxl)
    | (go_at_call 21; with_reducible refine (ex_worth _).mono ?_; rintro e w' ⟨rfl, hxl⟩; obtain ⟨xl, rfl⟩ := hxl.asLater; clear hxl))
  go_ret
  exact ⟨rfl, (by (repeat (first | with_reducible exact Ext.refl _ | with_reducible refine Ext.drew ?_ | with_reducible refine Ext.drewN ?_ _ | with_reducible refine Ext.alloc ?_ _ | with_reducible refine Ext.onto ?_ _ | with_reducible refine Ext.setCell ?_ ?_ _)); all_goals (simp; try omega))⟩
end Go.Proofs.Ytkcclpomhniafaa
