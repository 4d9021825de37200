/- Entries and rules that came in, opened. -/
import Derived.Test.YtpjacgcaibaggaaGreatDoorOa
import Derived.Test.YtpjacgcaibaggaaGreatDoorRhc
import Derived.Test.YtpjacgcaibaggaaGreatDoorEt
set_option linter.unusedVariables false
set_option linter.unusedSimpArgs false
namespace Go.Proofs.YtpjacgcaibaggaaGreatDoor
open Go.ChangeShapes Go.WideShapes Go.ChangeAt Go.RowKit
open Go.Proofs

theorem laidK : (Rows.laid_weirgate_hash_constants : DataW Unit) = .agg (Sha.K.map fun n => .lit (.int .u32 n)) := by kernel_rfl
theorem laidRK : (Rows.laid_weirgate_weirgateref02_constants : DataW Unit) = .agg (Sha.K.map fun n => .lit (.int .u32 n)) := by kernel_rfl
theorem consts_of_trod {W : World} {m : Nat} {cs : Array Value} {p : List MemPlace} (hd : DataW.trod (fun _ => ()) Tryz.prog W 0 (fun _ => true) false m 222 cs.toList = some (.agg (Sha.K.map fun n => .lit (.int .u32 n)), p)) : cs = cells32 Sha.K := by
  obtain ⟨xs, n, _, ex, hlen, hl, hel⟩ := DataW.trod_array Tryz.underlying222 hd
  have c1 : Tryz.prog.cellsOf 144 = 1 := by kernel_rfl
  have c64 : Tryz.prog.cellsOf 222 = 64 := by kernel_rfl
  have hK : Sha.K.length = 64 := by kernel_rfl
  rw [c64] at hlen
  have e3 : (xs.map (·.1)) = Sha.K.map fun n => .lit (.int .u32 n) := (DataW.agg.inj (Prod.mk.inj ex).1).symm
  apply Array.ext_getElem?
  intro r
  rw [cells32_get, hK]
  by_cases hr : r < 64
  · rw [if_pos hr]
    have hE := hel r hr
    rw [c1, Nat.mul_one, List.getElem?_eq_getElem (by omega)] at hE
    obtain ⟨z, e1, e2, _⟩ := DataW.trod_int Tryz.underlying144 hE
    have e4 : (xs.map (·.1))[r]? = (Sha.K.map fun n => (DataW.lit (.int .u32 n) : DataW Unit))[r]? := by rw [e3]
    rw [List.getElem?_map, List.getElem?_map, List.getElem?_eq_getElem (by omega : r < xs.length), List.getElem?_eq_getElem (by omega : r < Sha.K.length), e2] at e4
    have hz : z = Sha.K.getD r 0 := by
      simp only [Option.map_some, Option.some.injEq, DataW.lit.injEq, Lit.int.injEq, true_and] at e4
      rw [e4, List.getD, List.getElem?_eq_getElem (by omega : r < Sha.K.length)]; rfl
    have h0 : ((cs.toList.drop r).take 1)[0]? = some (.int .u32 z) := by rw [e1]; rfl
    rw [← hz]
    have : cs.toList[r]? = some (.int .u32 z) := by simpa using h0
    simpa using this
  · rw [if_neg hr]
    have : cs.size = 64 := by simpa using hlen
    exact Array.getElem?_eq_none (by omega)
/-- A listed table lies there, and may not be shut. -/
theorem table_at {W : World} {n : String} {g : Nat} {m : Nat} {cs : Array Value} {p : List MemPlace} {ps : List MemPlace} (hg : Tryz.prog.globalNamed n = some g) (hv : W.var? Tryz.prog n = some cs)
    (hd : DataW.trod (fun _ => ()) Tryz.prog W 0 (fun _ => true) false m 222 cs.toList = some (.agg (Sha.K.map fun n => .lit (.int .u32 n)), p))
    (hp : ∀ x, x ∈ MemPlace.row ⟨g, 0, none⟩ cs.size → x ∈ ps) (hf : ∀ b off, MemPlace.cell b off ∈ ps → (∃ c t, W.heap[b]? = some (.cells c t (0, 0))) ∧ ∀ u v, W.cell? ⟨b, off, none⟩ = some (.iface u v) → Value.okWide Tryz.prog W .any 0 u v) :
    RowAt W g (cells32 Sha.K) := by
  have hcs := consts_of_trod hd
  subst hcs
  have h0 : MemPlace.cell g 0 ∈ ps := hp _ (by
    unfold MemPlace.row
    refine List.mem_map.2 ⟨0, List.mem_range.2 (of_decide_eq_true (by kernel_rfl)), rfl⟩)
  obtain ⟨⟨c, t', hb⟩, _⟩ := hf g 0 h0
  unfold World.var? at hv
  rw [hg] at hv
  simp only [Option.bind_some, hb, Option.some.injEq] at hv
  subst hv
  exact ⟨t', hb⟩
end Go.Proofs.YtpjacgcaibaggaaGreatDoor

namespace Go.Proofs.YtpjacgcaibaggaaGreatDoor
open Go.ChangeShapes Go.WideShapes Go.ChangeAt Go.RowKit Go.Joins Go.Deep
open Go.Proofs
open Go.Proofs.Sp (Sp)

section
variable {H : Type} {enc : TypeId × Value → H} {w : World} {base : Nat} {spare : Nat → Bool} {held : Bool}
theorem dg_of_trod {T : TypeId} {m : Nat} {L : List Value} {x : DataW H × List MemPlace} (ht : Tryz.prog.underlying T = some (.array 16 5)) (hc : Tryz.prog.cellsOf T = 16) (h : DataW.trod enc Tryz.prog w base spare held m T L = some x) :
    ∃ b : List Int, L = (dgC b).toList ∧ b.length = 16 ∧ Byt b := by
  obtain ⟨xs, n, _, _, hlen, hxl, hel⟩ := DataW.trod_array ht h
  have c1 : Tryz.prog.cellsOf 5 = 1 := by kernel_rfl
  rw [hc] at hlen
  obtain ⟨b, hb, hq⟩ := list_each (0 : Int) (fun i k => (L.drop i).take 1 = [Value.int .u8 k] ∧ 0 ≤ k ∧ k < 256) 16 (fun i hi => by
    have g := hel i hi
    rw [c1, Nat.mul_one, List.getElem?_eq_getElem (by omega)] at g
    obtain ⟨k, e, _, hw⟩ := DataW.trod_int Tryz.underlying5 g
    refine ⟨k, e, ?_⟩
    simp [Lit.wf, IntKind.min, IntKind.max, IntKind.signed, IntKind.bits] at hw
    omega)
  refine ⟨b, ?_, hb, fun z hz => ?_⟩
  · have e : ∀ k, k < 16 → L.drop k = [Value.int .u8 (b.getD k 0)] ++ L.drop (k + 1) := fun k hk => seg (hq k hk).1
    have e0 : L = L.drop 0 := rfl
    rw [e0, e 0 (by omega), e 1 (by omega), e 2 (by omega), e 3 (by omega), e 4 (by omega), e 5 (by omega), e 6 (by omega), e 7 (by omega), e 8 (by omega), e 9 (by omega), e 10 (by omega), e 11 (by omega), e 12 (by omega), e 13 (by omega), e 14 (by omega), e 15 (by omega), List.drop_eq_nil_of_le (by omega)]
    rfl
  · obtain ⟨i, hi, rfl⟩ := List.getElem_of_mem hz
    have := (hq i (by omega)).2
    rwa [List.getD_eq_getElem?_getD, List.getElem?_eq_getElem hi, Option.getD_some] at this
theorem stm_of_trod {m : Nat} {L : List Value} {x : DataW H × List MemPlace} (h : DataW.trod enc Tryz.prog w base spare held m 48 L = some x) :
    ∃ s : St, L = stmL s ∧ s.body.length = 16 ∧ Byt s.body ∧ s.addr.size ≤ maxLen ∧ s.var.size ≤ maxLen ∧ s.tags.size ≤ maxLen ∧ s.seal_.length = 16 ∧ Byt s.seal_ := by
  obtain ⟨xs, n, _, _, hlen, hxl, hg⟩ := DataW.trod_struct Tryz.underlying48 h
  have hC : Tryz.prog.cellsOf 48 = 41 := by kernel_rfl
  have cs : Tryz.prog.cellsOf 9 = 1 := by kernel_rfl
  have ci : Tryz.prog.cellsOf 3 = 1 := by kernel_rfl
  have cd : Tryz.prog.cellsOf 24 = 16 := by kernel_rfl
  have cp : Tryz.prog.cellsOf 45 = 2 := by kernel_rfl
  have cl : Tryz.prog.cellsOf 46 = 16 := by kernel_rfl
  rw [hC] at hlen
  have hx9 : xs.length = 10 := hxl
  have g0 := hg 0 _ rfl
  have g1 := hg 1 _ rfl
  have g2 := hg 2 _ rfl
  have g3 := hg 3 _ rfl
  have g4 := hg 4 _ rfl
  have g5 := hg 5 _ rfl
  have g6 := hg 6 _ rfl
  have g7 := hg 7 _ rfl
  have g8 := hg 8 _ rfl
  have g9 := hg 9 _ rfl
  simp only [List.getElem_toArray, List.getElem_cons_succ, List.getElem_cons_zero, cs, ci, cd, cp, cl] at g0 g1 g2 g3 g4 g5 g6 g7 g8 g9
  rw [List.getElem?_eq_getElem (by omega)] at g0 g1 g2 g3 g4 g5 g6 g7 g8 g9
  obtain ⟨s0, e0, _, z0⟩ := DataW.trod_string Tryz.underlying9 g0
  obtain ⟨s1, e1, _, z1⟩ := DataW.trod_string Tryz.underlying9 g1
  obtain ⟨n2, e2, _, _⟩ := DataW.trod_int Tryz.underlying3 g2
  obtain ⟨n3, e3, _, _⟩ := DataW.trod_int Tryz.underlying3 g3
  obtain ⟨b4, e4, l4, y4⟩ := dg_of_trod Tryz.underlying24 cd g4
  obtain ⟨s5, e5, _, z5⟩ := DataW.trod_string Tryz.underlying9 g5
  obtain ⟨ys, k, _, _, hl6, hyl, hg6⟩ := DataW.trod_struct Tryz.underlying45 g6
  have u0 := hg6 0 _ rfl
  have u1 := hg6 1 _ rfl
  have hy2 : ys.length = 2 := hyl
  simp only [List.getElem_toArray, List.getElem_cons_succ, List.getElem_cons_zero, ci] at u0 u1
  rw [List.getElem?_eq_getElem (by omega)] at u0 u1
  obtain ⟨lo, f0, _, _⟩ := DataW.trod_int Tryz.underlying3 u0
  obtain ⟨hi, f1, _, _⟩ := DataW.trod_int Tryz.underlying3 u1
  obtain ⟨n7, e7, _, _⟩ := DataW.trod_int Tryz.underlying3 g7
  obtain ⟨n8, e8, _, _⟩ := DataW.trod_int Tryz.underlying3 g8
  obtain ⟨b9, e9, l9, y9⟩ := dg_of_trod Tryz.underlying46 cl g9
  have p6 : (L.drop 21).take 2 = [.int .i64 lo, .int .i64 hi] := by
    have q0 := seg f0
    have q1 := seg f1
    rw [cp] at hl6
    have q2 : ((L.drop 21).take 2).drop 2 = [] := List.drop_eq_nil_of_le (by omega)
    have e : (L.drop 21).take 2 = ((L.drop 21).take 2).drop 0 := rfl
    rw [e, q0, q1, q2]
    rfl
  refine ⟨⟨s0, s1, n2, n3, b4, s5, lo, hi, n7, n8, b9⟩, ?_, l4, y4, z0, z1, z5, l9, y9⟩
  have e : L = L.drop 0 := rfl
  have q0 := seg e0
  have q1 := seg e1
  have q2 := seg e2
  have q3 := seg e3
  have q4 := seg e4
  have q5 := seg e5
  have q6 := seg p6
  have q7 := seg e7
  have q8 := seg e8
  have q9 := seg e9
  rw [e, q0, q1, q2, q3, q4, q5, q6, q7, q8, q9, List.drop_eq_nil_of_le (show L.length ≤ 25 + 16 by omega)]
  simp [stmL]
set_option maxRecDepth 100000 in
theorem open_entry {r : Reach} {b0 : Nat} {v : Value} {d : DataW H} {p : List MemPlace} (hv : Value.okWide Tryz.prog w r b0 58 v) (h : DataW.Trod enc Tryz.prog w 0 (fun _ => true) held 58 v d p) :
    ∃ (e : En) (A : Option Addr) (c : Nat) (l : List Sp), v = .agg (entC e) ∧ EntIn e A c l w := by
  have hv2 := hv
  unfold Value.okWide at hv2
  rw [Tryz.underlying58] at hv2
  simp only [] at hv2
  obtain ⟨cs, rfl, hsz, ts, hts, _, hok⟩ := hv2
  have hC : Tryz.prog.cellsOf 58 = 45 := by kernel_rfl
  have cS : Tryz.prog.cellsOf 48 = 41 := by kernel_rfl
  have cb : Tryz.prog.cellsOf 4 = 1 := by kernel_rfl
  have cl : Tryz.prog.cellsOf 56 = 1 := by kernel_rfl
  have cst : Tryz.prog.cellsOf 9 = 1 := by kernel_rfl
  have ht42 : (Tryz.prog.cellTypes Tryz.prog.depth 58).map (fun l => (l.length, l[42]?)) = some (45, some 56) := by kernel_rfl
  rw [hts] at ht42
  simp only [Option.map_some, Option.some.injEq, Prod.mk.injEq] at ht42
  obtain ⟨t1, t2⟩ := ht42
  obtain ⟨fuel, hf⟩ := h
  obtain ⟨xs, n, _, _, hlen, hxl, hg⟩ := DataW.trod_struct Tryz.underlying58 hf
  have hx5 : xs.length = 5 := hxl
  have g0 := hg 0 _ rfl
  have g1 := hg 1 _ rfl
  have g2 := hg 2 _ rfl
  have g3 := hg 3 _ rfl
  have g4 := hg 4 _ rfl
  simp only [List.getElem_toArray, List.getElem_cons_succ, List.getElem_cons_zero, Value.cells, cS, cb, cl, cst] at g0 g1 g2 g3 g4
  rw [List.getElem?_eq_getElem (by omega)] at g0 g1 g2 g3 g4
  obtain ⟨s, e0, l1, l2, l3, l4, l5, l6, _⟩ := stm_of_trod g0
  obtain ⟨b1, e1, _⟩ := DataW.trod_bool Tryz.underlying4 g1
  have hcl : cs.toList.length = 45 := by simpa [hC] using hsz
  obtain ⟨v2, e2⟩ : ∃ v2, (cs.toList.drop 42).take 1 = [v2] := ⟨cs.toList[42], by rw [List.drop_eq_getElem_cons (by omega)]; simp⟩
  rw [e2] at g2
  obtain ⟨A, c, l, rfl, hl, hr⟩ := sp_of_trod g2
  obtain ⟨s3, e3, _, z3⟩ := DataW.trod_string Tryz.underlying9 g3
  obtain ⟨b4, e4, _⟩ := DataW.trod_bool Tryz.underlying4 g4
  have hcs : cs = entC ⟨s, b1, .slice A l.length c, s3, b4⟩ := by
    have q0 := seg e0
    have q1 := seg e1
    have q2 := seg e2
    have q3 := seg e3
    have q4 := seg e4
    have e : cs.toList = cs.toList.drop 0 := rfl
    apply Array.toList_inj.1
    rw [e, q0, q1, q2, q3, q4, List.drop_eq_nil_of_le (show cs.toList.length ≤ 44 + 1 by omega)]
    simp [entC]
  have hAz : plainA A ∧ (A = none → c = 0) := by
    have h42 : cs[42]? = some (.slice A l.length c) := by rw [hcs]; rfl
    obtain ⟨u, hu, hcell⟩ := hok 42 _ h42
    rw [t1] at hu
    have : u = 56 := Option.some.inj (hu.symm.trans t2)
    subst this
    exact ⟨plain_of_ok hcell, none_of_ok hcell⟩
  obtain ⟨hA, hz⟩ := hAz
  unfold maxLen at *
  exact ⟨⟨s, b1, .slice A l.length c, s3, b4⟩, A, c, l, by rw [hcs], ⟨rfl, by omega, by show s.addr.size ≤ _; omega, by show s.var.size ≤ _; omega, by show s.tags.size ≤ _; omega, by show s3.size ≤ _; omega, l1, l2, hA, hr, hz, l6⟩⟩
set_option maxRecDepth 100000 in
theorem open_rule {r : Reach} {b0 : Nat} {v : Value} {d : DataW H} {p : List MemPlace} (hv : Value.okWide Tryz.prog w r b0 112 v) (h : DataW.Trod enc Tryz.prog w 0 (fun _ => true) held 112 v d p) :
    ∃ (q : Ru), v = .agg (ruC q) ∧ (ruC q).size = 18 := by
  obtain ⟨cs, rfl, hsz⟩ := okWide_struct Tryz.underlying112 hv
  have hC : Tryz.prog.cellsOf 112 = 18 := by kernel_rfl
  have ci : Tryz.prog.cellsOf 3 = 1 := by kernel_rfl
  obtain ⟨fuel, hf⟩ := h
  obtain ⟨xs, n, _, _, hlen, hxl, hg⟩ := DataW.trod_struct Tryz.underlying112 hf
  have hx5 : xs.length = 12 := hxl
  have g3 := hg 3 _ rfl
  have g4 := hg 4 _ rfl
  have g5 := hg 5 _ rfl
  have g6 := hg 6 _ rfl
  simp only [List.getElem_toArray, List.getElem_cons_succ, List.getElem_cons_zero, Value.cells, ci] at g3 g4 g5 g6
  rw [List.getElem?_eq_getElem (by omega)] at g3 g4 g5 g6
  obtain ⟨n3, e3, _, _⟩ := DataW.trod_int Tryz.underlying3 g3
  obtain ⟨n4, e4, _, _⟩ := DataW.trod_int Tryz.underlying3 g4
  obtain ⟨n5, e5, _, _⟩ := DataW.trod_int Tryz.underlying3 g5
  obtain ⟨n6, e6, _, _⟩ := DataW.trod_int Tryz.underlying3 g6
  have hcl : cs.toList.length = 18 := by simpa [hC] using hsz
  have hcs : cs = ruC ⟨n3, n4, n5, n6, cs.toList[0], cs.toList[1], cs.toList[2], cs.toList.drop 7⟩ := by
    have q0 : cs.toList.drop 0 = cs.toList[0] :: cs.toList.drop 1 := List.drop_eq_getElem_cons (by omega)
    have q1 : cs.toList.drop 1 = cs.toList[1] :: cs.toList.drop 2 := List.drop_eq_getElem_cons (by omega)
    have q2 : cs.toList.drop 2 = cs.toList[2] :: cs.toList.drop 3 := List.drop_eq_getElem_cons (by omega)
    have q3 := seg e3
    have q4 := seg e4
    have q5 := seg e5
    have q6 := seg e6
    have e : cs.toList = cs.toList.drop 0 := rfl
    apply Array.toList_inj.1
    conv => lhs; rw [e, q0, q1, q2, q3, q4, q5, q6]
    simp [ruC]
  exact ⟨_, by rw [← hcs], by rw [← hcs, hsz, hC]⟩
end
end Go.Proofs.YtpjacgcaibaggaaGreatDoor
