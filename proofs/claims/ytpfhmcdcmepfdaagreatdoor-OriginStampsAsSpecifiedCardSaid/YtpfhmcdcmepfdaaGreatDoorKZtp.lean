/- weirgatelaw34.OriginStampsAsSpecified, the lifted law: it returns true for every key, texts, answer, stamp and periods, and leaves its arguments as they were; the listed tables hold what the program's text lays (the card ties them). No other condition. -/
import Derived.Test.YtpfhmcdcmepfdaaGreatDoorProg
import Derived.Test.YtpfhmcdcmepfdaaGreatDoorKSpv
import Derived.WalkKit
import Derived.WalkSpells
import Derived.WalkLawsBesides
import Derived.Deep.QuietTactic
import Derived.BigQuiet
import Derived.Test.YtpfhmcdcmepfdaaGreatDoorKWa
import Derived.Test.YtpfhmcdcmepfdaaGreatDoorKXa
import Derived.Test.YtpfhmcdcmepfdaaGreatDoorKOl
import Derived.Maps.Own
import Derived.Laws.EntriesVeiled
import Derived.Test.YtpfhmcdcmepfdaaGreatDoorKXc
import Derived.Test.YtpfhmcdcmepfdaaGreatDoorKVy
import Derived.Test.YtpfhmcdcmepfdaaGreatDoorKSoB
import Derived.RegionTactic
import Derived.Test.YtpfhmcdcmepfdaaGreatDoorKCs
import Derived.Test.YtpfhmcdcmepfdaaGreatDoorKVr
import Derived.Test.YtpfhmcdcmepfdaaGreatDoorKVz
import Derived.Test.YtpfhmcdcmepfdaaGreatDoorKSoD
import Derived.Test.YtpfhmcdcmepfdaaGreatDoorTie
import Derived.Test.YtpfhmcdcmepfdaaGreatDoorCards
import Derived.ProofKit
import Derived.Lay
import Derived.ChangeMaps5
import Derived.SevenTiedAt
import Derived.Stop.Joined
set_option linter.unusedVariables false
set_option linter.unusedSimpArgs false
namespace Go.Proofs.YtpfhmcdcmepfdaaGreatDoor
open Go.RowKit Go.Shelf
open Go.Proofs

/-- Below base all blocks but b are as they were. -/
structure Kept (base b : Nat) (w w' : World) : Prop where
  os : w'.os = w.os
  tape : w'.tape = w.tape
  output : w'.output = w.output
  size : w.heap.size ≤ w'.heap.size
  block : ∀ k, k < base → k ≠ b → w'.heap[k]? = w.heap[k]?
theorem Kept.refl (base b : Nat) (w : World) : Kept base b w w := ⟨rfl, rfl, rfl, Nat.le_refl _, fun _ _ _ => rfl⟩
theorem Kept.trans {base b : Nat} {x y z : World} (h : Kept base b x y) (k : Kept base b y z) : Kept base b x z :=
  ⟨k.os.trans h.os, k.tape.trans h.tape, k.output.trans h.output, Nat.le_trans h.size k.size, fun i hi hn => (k.block i hi hn).trans (h.block i hi hn)⟩
theorem Kept.of {base b : Nat} {x y : World} (h : Below base x y) : Kept base b x y := ⟨h.os, h.tape, h.output, h.size, fun k hk _ => h.block k hk⟩
theorem Kept.below {base b B : Nat} {x y : World} (h : Kept base b x y) (h1 : B ≤ base) (h2 : B ≤ b) : Below B x y := ⟨h.os, h.tape, h.output, h.size, fun k hk => h.block k (by omega) (by omega)⟩
theorem Kept.row {base b n : Nat} {x y : World} {cs : Array Value} (h : Kept base b x y) (hr : RowAt x n cs) (h1 : n < base) (h2 : n ≠ b) : RowAt y n cs := by
  obtain ⟨t, ht⟩ := hr
  exact ⟨t, (h.block n h1 h2).trans ht⟩
theorem Kept.set {base b : Nat} (w : World) (o : Nat) (v : Value) : Kept base b w (w.setCell ⟨b, o, none⟩ v) :=
  ⟨rfl, rfl, rfl, by simp [World.setCell], fun k _ hn => Below.heap_setCell _ _ _ _ hn⟩
abbrev OwnsGiv (base : Nat) (w : World) (A : Option Addr) (c : Nat) (l : List Giv) : Prop := Owns 121 22 gvL base w A c l
def readGiv (ls : List Giv) : Soft := ⟨fun v w => ∃ A c, v = .slice A ls.length c ∧ Reads 22 gvL w w.heap.size A ls ∧ (A = none → c = 0), fun v w w' ⟨A, c, h1, h2, h3⟩ hx => ⟨A, c, h1, h2.on hx, h3⟩⟩
def Gave (base b : Nat) (l : List Giv) (w w' : World) : Prop := ∃ A c, RowAt w' b #[.slice A l.length c] ∧ OwnsGiv base w' A c l ∧ Kept base b w w'
set_option maxRecDepth 100000 in
set_option maxHeartbeats 2000000 in
theorem serve2_any (B0 b12 b4 b7 base : Nat) (Av : Option Addr) (cv : Nat) (lv : List Ver) (known : List Int) (A : Option Addr) (c : Nat) (out : List Giv) (t : Int) (w : World)
    (hl : lv.length ≤ 100000) (hr : ReadsVer w B0 Av lv) (h4 : RowAt w b4 #[.slice Av lv.length cv]) (h7 : RowAt w b7 (dgC known)) (h12 : RowAt w b12 #[.slice A out.length c]) (ho : OwnsGiv base w A c out)
    (l4 : b4 < base) (l7 : b7 < base) (l12 : b12 < base) (hb : base ≤ w.heap.size) (hB0 : B0 ≤ b12) (hol : out.length ≤ 8) (h16 : known.length = 16) (hby : Byt known) (hv : VerIn (atN lv t)) (hk : Konst 1 w) :
    Calls Tryz.prog 100 #[.int .i64 t, .pointer (some ⟨b12, 0, none⟩), .pointer (some ⟨b4, 0, none⟩), .pointer (some ⟨b7, 0, none⟩)] w fun e w' => e = .returned (.tuple #[]) ∧ Gave base b12 (giveN lv known out t) w w' := by
  have HR := Lib.hid hr
  have HO := Lib.hid ho
  have H12 := Lib.hid h12
  have HAn := Lib.hid (fun (W : World) (hx : Ext w W) => oanswer_any Av cv lv t known W hl ((hr.ext hx (by omega)).up (by have := hx.size; omega)) h16 hby hv (hk.ext hx))
  have c12 : w.cell? ⟨b12, 0, none⟩ = some (.slice A out.length c) := h12.cell 0
  have f12 := h12.free 0
  have c4 : w.cell? ⟨b4, 0, none⟩ = some (.slice Av lv.length cv) := h4.cell 0
  have k7 : rowOf w b7 0 16 = some (dgC known) := h7.all rfl (by omega)
  obtain ⟨L, hL⟩ : ∃ L, giveN lv known out t = L := ⟨_, rfl⟩
  have HL : Hid (L = if t ≤ 1099511627776 then out ++ [(t, ansOf (atN lv t) known)] else out) := Lib.hid (by rw [← hL]; rfl)
  rw [hL]
  clear hr ho h12 h16 hby hv hk h4 h7 hL
  generalize ansOf (atN lv t) known = an at *
  by_cases ht : t ≤ 1099511627776
  · go_enter Tryz.func100, Tryz.ntmps100
    have HL' : Hid (L = out ++ [(t, an)]) := Lib.hid (HL.out.trans (if_pos ht))
    clear HL
    go_wp2
    refine wp_region_soft 8 (softsL [.eq (.slice A out.length c), .eq (.int .i64 t), .eq (.slice Av lv.length cv), .eq (.int .i64 t), .eq (.agg (dgC known)), .eq (.agg (anC an)), .eq (.agg (gvC (t, an))), readGiv [(t, an)]]) (by kernel_rfl) (by kernel_rfl) (lt_cons ?_ (lt_cons ?_ (lt_cons ?_ (lt_cons ?_ (lt_cons ?_ (lt_cons ?_ (lt_cons ?_ (lt_cons ?_ lt_none)))))))) ?_
    ·
      intro o ho xs W hW hd Q' hQ; obtain rfl := Option.some.inj ho; clear ho; simp only [fillAt, dstOf, List.getElem?_cons_zero, List.getElem?_cons_succ, Option.bind_some, Act.put, List.setIfInBounds_toArray, List.set_cons_zero, List.set_cons_succ, Nat.zero_add, Nat.reduceAdd] at hQ ⊢; have HQ := Lib.hid hQ; have HD := Lib.hid hd; have HW := Lib.hid hW; have hsW := hW.size; clear hQ hd hW
      have hc : W.cell? ⟨b12, 0, none⟩ = some (.slice A out.length c) := (HW.out.cell (p := ⟨b12, 0, none⟩) (by show b12 < _; omega)).trans c12
      go_wp2
      exact HQ.out _ _ (Ext.refl _) rfl
    ·
      intro o ho xs W hW hd Q' hQ; obtain rfl := Option.some.inj ho; clear ho; simp only [fillAt, dstOf, List.getElem?_cons_zero, List.getElem?_cons_succ, Option.bind_some, Act.put, List.setIfInBounds_toArray, List.set_cons_zero, List.set_cons_succ, Nat.zero_add, Nat.reduceAdd] at hQ ⊢; have HQ := Lib.hid hQ; have HD := Lib.hid hd; have HW := Lib.hid hW; have hsW := hW.size; clear hQ hd hW
      go_wp2
      exact HQ.out _ _ (Ext.refl _) rfl
    ·
      intro o ho xs W hW hd Q' hQ; obtain rfl := Option.some.inj ho; clear ho; simp only [fillAt, dstOf, List.getElem?_cons_zero, List.getElem?_cons_succ, Option.bind_some, Act.put, List.setIfInBounds_toArray, List.set_cons_zero, List.set_cons_succ, Nat.zero_add, Nat.reduceAdd] at hQ ⊢; have HQ := Lib.hid hQ; have HD := Lib.hid hd; have HW := Lib.hid hW; have hsW := hW.size; clear hQ hd hW
      have hc : W.cell? ⟨b4, 0, none⟩ = some (.slice Av lv.length cv) := (HW.out.cell (p := ⟨b4, 0, none⟩) (by show b4 < _; omega)).trans c4
      go_wp2
      exact HQ.out _ _ (Ext.refl _) rfl
    ·
      intro o ho xs W hW hd Q' hQ; obtain rfl := Option.some.inj ho; clear ho; simp only [fillAt, dstOf, List.getElem?_cons_zero, List.getElem?_cons_succ, Option.bind_some, Act.put, List.setIfInBounds_toArray, List.set_cons_zero, List.set_cons_succ, Nat.zero_add, Nat.reduceAdd] at hQ ⊢; have HQ := Lib.hid hQ; have HD := Lib.hid hd; have HW := Lib.hid hW; have hsW := hW.size; clear hQ hd hW
      go_wp2
      exact HQ.out _ _ (Ext.refl _) rfl
    ·
      intro o ho xs W hW hd Q' hQ; obtain rfl := Option.some.inj ho; clear ho; simp only [fillAt, dstOf, List.getElem?_cons_zero, List.getElem?_cons_succ, Option.bind_some, Act.put, List.setIfInBounds_toArray, List.set_cons_zero, List.set_cons_succ, Nat.zero_add, Nat.reduceAdd] at hQ ⊢; have HQ := Lib.hid hQ; have HD := Lib.hid hd; have HW := Lib.hid hW; have hsW := hW.size; clear hQ hd hW
      have hc := (row_extW HW.out (b := b7) (by omega) 0 16).trans k7
      go_wp2
      exact HQ.out _ _ (Ext.refl _) rfl
    ·
      intro o ho xs W hW hd Q' hQ; obtain rfl := Option.some.inj ho; clear ho; simp only [fillAt, dstOf, List.getElem?_cons_zero, List.getElem?_cons_succ, Option.bind_some, Act.put, List.setIfInBounds_toArray, List.set_cons_zero, List.set_cons_succ, Nat.zero_add, Nat.reduceAdd] at hQ ⊢; have HQ := Lib.hid hQ; have HD := Lib.hid hd; have HW := Lib.hid hW; have hsW := hW.size; clear hQ hd hW
      have hd2 : xs 2 = .slice Av lv.length cv := (HD.out 2 (of_decide_eq_true (by kernel_rfl)))
      generalize xs 2 = x2 at hd2 HQ ⊢; subst hd2
      have hd3 : xs 3 = .int .i64 t := (HD.out 3 (of_decide_eq_true (by kernel_rfl)))
      generalize xs 3 = x3 at hd3 HQ ⊢; subst hd3
      have hd4 : xs 4 = .agg (dgC known) := (HD.out 4 (of_decide_eq_true (by kernel_rfl)))
      generalize xs 4 = x4 at hd4 HQ ⊢; subst hd4
      go_wp2_with (go_at_call 43; refine (HAn.out _ HW.out).mono ?_; rintro e w1 ⟨rfl, hx⟩)
      exact HQ.out _ _ hx rfl
    ·
      intro o ho xs W hW hd Q' hQ; obtain rfl := Option.some.inj ho; clear ho; simp only [fillAt, dstOf, List.getElem?_cons_zero, List.getElem?_cons_succ, Option.bind_some, Act.put, List.setIfInBounds_toArray, List.set_cons_zero, List.set_cons_succ, Nat.zero_add, Nat.reduceAdd] at hQ ⊢; have HQ := Lib.hid hQ; have HD := Lib.hid hd; have HW := Lib.hid hW; have hsW := hW.size; clear hQ hd hW
      have hd1 : xs 1 = .int .i64 t := (HD.out 1 (of_decide_eq_true (by kernel_rfl)))
      generalize xs 1 = x1 at hd1 HQ ⊢; subst hd1
      have hd5 : xs 5 = .agg (anC an) := (HD.out 5 (of_decide_eq_true (by kernel_rfl)))
      generalize xs 5 = x5 at hd5 HQ ⊢; subst hd5
      go_wp2
      exact HQ.out _ _ (Ext.refl _) rfl
    ·
      intro o ho xs W hW hd Q' hQ; obtain rfl := Option.some.inj ho; clear ho; simp only [fillAt, dstOf, List.getElem?_cons_zero, List.getElem?_cons_succ, Option.bind_some, Act.put, List.setIfInBounds_toArray, List.set_cons_zero, List.set_cons_succ, Nat.zero_add, Nat.reduceAdd] at hQ ⊢; have HQ := Lib.hid hQ; have HD := Lib.hid hd; have HW := Lib.hid hW; have hsW := hW.size; clear hQ hd hW
      have hd6 : xs 6 = .agg (gvC (t, an)) := (HD.out 6 (of_decide_eq_true (by kernel_rfl)))
      generalize xs 6 = x6 at hd6 HQ ⊢; subst hd6
      go_wp2
      exact HQ.out _ _ ((Ext.refl _).alloc _) ⟨_, _, rfl, reads_fresh gvE [(t, an)] W _ _ (by simp [gvL]), fun h => by cases h⟩
    intro xs W3 hW hS
    have h0 : xs 0 = .slice A out.length c := hS 0 (by omega)
    obtain ⟨A7, c7, h7, hr7, hz7⟩ : (readGiv [(t, an)]).S (xs 7) W3 := hS 7 (by omega)
    simp only [fillAt, dstOf, List.getElem?_cons_zero, List.getElem?_cons_succ, Option.bind_some, Act.put, List.setIfInBounds_toArray, List.set_cons_zero, List.set_cons_succ, Nat.zero_add, Nat.reduceAdd, List.drop_succ_cons, List.drop_zero, List.drop_nil]
    generalize xs 0 = x0 at *; subst h0
    generalize xs 7 = x7 at *; subst h7
    have HW3 := Lib.hid hW
    have HR7 := Lib.hid hr7
    have HO3 := Lib.hid (HO.out.ext hW)
    have hsz3 := hW.size
    have c12' : W3.cell? ⟨b12, 0, none⟩ = some (.slice A out.length c) := (hW.cell (p := ⟨b12, 0, none⟩) (by show b12 < _; omega)).trans c12
    have H12' := Lib.hid (H12.out.ext hW)
    clear hS hW hr7
    go_wp2_with (at_builtin; refine app_reads gvT gvE rfl _ _ rfl base A c out rfl HO3.out _ A7 c7 [(t, an)] rfl HR7.out hz7 (by simp; omega) (by simp; omega) (by omega) ?_; intro A5 c5 l5 w5 HL5 HO5 hB5 hl1 hl2 _; have HO5' := Lib.hid HO5; have HB5 := Lib.hid hB5; have hsz5 := hB5.size; have c5' := (hB5.cell (p := ⟨b12, 0, none⟩) l12).trans c12'; have H5 := Lib.hid (RowAt.below H12'.out hB5 l12); have f5 := H5.out.free 0; clear HO5 hB5)
    refine bodyPost_end (v := .tuple #[]) (by simp [results, Tryz.results100, go_sem]) rfl ⟨rfl, ?_⟩
    rw [HL'.out, ← HL5.out]
    exact ⟨A5, c5, H5.out.set 0 _, HO5'.out.other (by show b12 < base; omega) _, ((Kept.of (HW3.out.mono hb)).trans (Kept.of HB5.out)).trans (Kept.set _ _ _)⟩
  · have HL' : Hid (L = out) := Lib.hid (HL.out.trans (if_neg ht))
    clear HL
    go_enter Tryz.func100, Tryz.ntmps100
    go_wp2
    refine bodyPost_end (v := .tuple #[]) (by simp [results, Tryz.results100, go_sem]) rfl ⟨rfl, ?_⟩
    rw [HL'.out]
    exact ⟨A, c, H12.out, HO.out, Kept.refl _ _ _⟩
end Go.Proofs.YtpfhmcdcmepfdaaGreatDoor


set_option linter.unusedVariables false
set_option linter.unusedSimpArgs false
namespace Go.Proofs.YtpfhmcdcmepfdaaGreatDoor
open Go.RowKit Go.Shelf
open Go.Proofs

/-- What Serve's closures stand on. -/
structure SEnv (B0 b12 b4 b7 b13 b6 b10 base : Nat) (Av : Option Addr) (cv : Nat) (lv : List Ver) (known : List Int) (t : Int) (x : Fau) (w : World) : Prop where
  r : ReadsVer w B0 Av lv
  h4 : RowAt w b4 #[.slice Av lv.length cv]
  h7 : RowAt w b7 (dgC known)
  h13 : RowAt w b13 #[.func (.func 100) #[] #[.pointer (some ⟨b12, 0, none⟩), .pointer (some ⟨b4, 0, none⟩), .pointer (some ⟨b7, 0, none⟩)]]
  h6 : RowAt w b6 #[.int .i64 t]
  h10 : RowAt w b10 (fauC x)
  k : Konst 1 w
  lb : base ≤ w.heap.size
  l12 : b12 < base
  l4 : b4 < base ∧ b4 ≠ b12
  l7 : b7 < base ∧ b7 ≠ b12
  l13 : b13 < base ∧ b13 ≠ b12
  l6 : b6 < base ∧ b6 ≠ b12
  l10 : b10 < base ∧ b10 ≠ b12
  l0 : 1 < base ∧ 1 ≠ b12
  lB : B0 ≤ b12
theorem SEnv.kept {B0 b12 b4 b7 b13 b6 b10 base : Nat} {Av : Option Addr} {cv : Nat} {lv : List Ver} {known : List Int} {t : Int} {x : Fau} {w w' : World} (h : SEnv B0 b12 b4 b7 b13 b6 b10 base Av cv lv known t x w) (hk : Kept base b12 w w') : SEnv B0 b12 b4 b7 b13 b6 b10 base Av cv lv known t x w' where
  r := h.r.below (hk.below (by have := h.l12; have := h.lB; omega) h.lB)
  h4 := hk.row h.h4 h.l4.1 h.l4.2
  h7 := hk.row h.h7 h.l7.1 h.l7.2
  h13 := hk.row h.h13 h.l13.1 h.l13.2
  h6 := hk.row h.h6 h.l6.1 h.l6.2
  h10 := hk.row h.h10 h.l10.1 h.l10.2
  k := hk.row h.k h.l0.1 h.l0.2
  lb := Nat.le_trans h.lb hk.size
  l12 := h.l12
  l4 := h.l4
  l7 := h.l7
  l13 := h.l13
  l6 := h.l6
  l10 := h.l10
  l0 := h.l0
  lB := h.lB
def Out12 (base b12 : Nat) (out : List Giv) (w : World) : Prop := ∃ A c, RowAt w b12 #[.slice A out.length c] ∧ OwnsGiv base w A c out
theorem Gave.out {base b : Nat} {l : List Giv} {w w' : World} (h : Gave base b l w w') : Out12 base b l w' ∧ Kept base b w w' := by
  obtain ⟨A, c, h1, h2, h3⟩ := h
  exact ⟨⟨A, c, h1, h2⟩, h3⟩
theorem gives_any {B0 b12 b4 b7 b13 b6 b10 base : Nat} {Av : Option Addr} {cv : Nat} {lv : List Ver} {known : List Int} {t : Int} {x : Fau} {w : World} (h : SEnv B0 b12 b4 b7 b13 b6 b10 base Av cv lv known t x w) (out : List Giv) (u : Int) (ho : Out12 base b12 out w) (hl : lv.length ≤ 100000) (hol : out.length ≤ 8) (h16 : known.length = 16) (hby : Byt known) (hv : ∀ t, VerIn (atN lv t)) :
    Calls Tryz.prog 100 #[.int .i64 u, .pointer (some ⟨b12, 0, none⟩), .pointer (some ⟨b4, 0, none⟩), .pointer (some ⟨b7, 0, none⟩)] w fun e w' => e = .returned (.tuple #[]) ∧ Out12 base b12 (giveN lv known out u) w' ∧ Kept base b12 w w' := by
  obtain ⟨A, c, h1, h2⟩ := ho
  refine (serve2_any B0 b12 b4 b7 base Av cv lv known A c out u w hl h.r h.h4 h.h7 h1 h2 h.l4.1 h.l7.1 h.l12 h.lb h.lB hol h16 hby (hv u) h.k).mono ?_
  rintro e w' ⟨e1, e2⟩
  exact ⟨e1, e2.out⟩
set_option maxRecDepth 100000 in
set_option maxHeartbeats 1000000 in
theorem serve3_any {B0 b12 b4 b7 b13 b6 b10 base : Nat} {Av : Option Addr} {cv : Nat} {lv : List Ver} {known : List Int} {t : Int} {x : Fau} {w : World} (h : SEnv B0 b12 b4 b7 b13 b6 b10 base Av cv lv known t x w) (out : List Giv) (ho : Out12 base b12 out w) (hl : lv.length ≤ 100000) (hol : out.length ≤ 8) (h16 : known.length = 16) (hby : Byt known) (hv : ∀ t, VerIn (atN lv t)) :
    Calls Tryz.prog 101 #[.pointer (some ⟨b13, 0, none⟩), .pointer (some ⟨b6, 0, none⟩)] w fun e w' => e = .returned (.tuple #[]) ∧ Out12 base b12 (giveN lv known out t) w' ∧ Kept base b12 w w' := by
  have HG := Lib.hid (gives_any h out t ho hl hol h16 hby hv)
  have c13 := h.h13.cell 0
  have c6 := h.h6.cell 0
  simp only [List.getElem?_toArray, List.getElem?_cons_zero] at c13 c6
  clear h ho hl hol h16 hby hv
  generalize giveN lv known out t = L at *
  go_enter Tryz.func101, Tryz.ntmps101
  go_wp2_with (go_at_call 100; refine HG.out.mono ?_; rintro e w1 ⟨rfl, h1⟩; have H1 := Lib.hid h1; clear h1)
  exact bodyPost_end (v := .tuple #[]) (by simp [results, Tryz.results101, go_sem]) rfl ⟨rfl, H1.out⟩
theorem serve4_any (w : World) : Calls Tryz.prog 102 #[] w fun e w' => e = .returned (.tuple #[]) ∧ w' = w := by
  go_enter Tryz.func102, Tryz.ntmps102
  go_wp2
  exact bodyPost_end (v := .tuple #[]) (by simp [results, Tryz.results102, go_sem]) rfl ⟨rfl, rfl⟩
set_option maxRecDepth 100000 in
set_option maxHeartbeats 1000000 in
theorem serve5_any {B0 b12 b4 b7 b13 b6 b10 base : Nat} {Av : Option Addr} {cv : Nat} {lv : List Ver} {known : List Int} {t : Int} {x : Fau} {w : World} (h : SEnv B0 b12 b4 b7 b13 b6 b10 base Av cv lv known t x w) (out : List Giv) (ho : Out12 base b12 out w) (hl : lv.length ≤ 100000) (hol : out.length ≤ 8) (h16 : known.length = 16) (hby : Byt known) (hv : ∀ t, VerIn (atN lv t)) (hs : i64 (t + x.delay)) :
    Calls Tryz.prog 103 #[.pointer (some ⟨b13, 0, none⟩), .pointer (some ⟨b6, 0, none⟩), .pointer (some ⟨b10, 0, none⟩)] w fun e w' => e = .returned (.tuple #[]) ∧ Out12 base b12 (giveN lv known out (t + x.delay)) w' ∧ Kept base b12 w w' := by
  have HG := Lib.hid (gives_any h out (t + x.delay) ho hl hol h16 hby hv)
  have c13 := h.h13.cell 0
  have c6 := h.h6.cell 0
  have c10 : w.cell? ⟨b10, 3, none⟩ = some (.int .i64 x.delay) := h.h10.cell 3
  simp only [List.getElem?_toArray, List.getElem?_cons_zero] at c13 c6
  obtain ⟨s1, s2⟩ := hs
  clear h ho hl hol h16 hby hv
  generalize giveN lv known out (t + x.delay) = L at *
  go_enter Tryz.func103, Tryz.ntmps103
  go_wp2_with (go_at_call 100; refine HG.out.mono ?_; rintro e w1 ⟨rfl, h1⟩; have H1 := Lib.hid h1; clear h1)
  exact bodyPost_end (v := .tuple #[]) (by simp [results, Tryz.results103, go_sem]) rfl ⟨rfl, H1.out⟩
set_option maxRecDepth 100000 in
set_option maxHeartbeats 1000000 in
theorem serve6_any {B0 b12 b4 b7 b13 b6 b10 base : Nat} {Av : Option Addr} {cv : Nat} {lv : List Ver} {known : List Int} {t : Int} {x : Fau} {w : World} (h : SEnv B0 b12 b4 b7 b13 b6 b10 base Av cv lv known t x w) (ho : Out12 base b12 [] w) (hl : lv.length ≤ 100000) (h16 : known.length = 16) (hby : Byt known) (hv : ∀ t, VerIn (atN lv t)) (hs : i64 (t + x.delay)) :
    Calls Tryz.prog 104 #[.pointer (some ⟨b13, 0, none⟩), .pointer (some ⟨b6, 0, none⟩), .pointer (some ⟨b10, 0, none⟩)] w fun e w' => e = .returned (.tuple #[]) ∧ Out12 base b12 (giveN lv known (giveN lv known [] t) (t + x.delay)) w' ∧ Kept base b12 w w' := by
  have HG := Lib.hid (gives_any h [] t ho hl (by simp) h16 hby hv)
  have hol : (giveN lv known [] t).length ≤ 8 := by unfold giveN; split <;> simp
  have HG2 := Lib.hid (fun (W : World) (hk : Kept base b12 w W) (ho2 : Out12 base b12 (giveN lv known [] t) W) => gives_any (h.kept hk) (giveN lv known [] t) (t + x.delay) ho2 hl hol h16 hby hv)
  have HE := Lib.hid h
  have c13 := h.h13.cell 0
  have c6 := h.h6.cell 0
  simp only [List.getElem?_toArray, List.getElem?_cons_zero] at c13 c6
  obtain ⟨s1, s2⟩ := hs
  clear h ho hl hol h16 hby hv
  generalize giveN lv known [] t = L1 at *
  generalize giveN lv known L1 (t + x.delay) = L at *
  go_enter Tryz.func104, Tryz.ntmps104
  go_upto_region 1 with (go_at_call 100; refine HG.out.mono ?_; rintro e w1 ⟨rfl, ho1, hk1⟩; have HK1 := Lib.hid hk1; have HE1 := HE.out.kept hk1; have HO1 := Lib.hid ho1; have d13 := HE1.h13.cell 0; have d6 := HE1.h6.cell 0; have d10 : w1.cell? ⟨b10, 3, none⟩ = some (.int .i64 x.delay) := HE1.h10.cell 3; simp only [List.getElem?_toArray, List.getElem?_cons_zero] at d13 d6; clear HE1 hk1 ho1 c13 c6)
  go_wp2_with (go_at_call 100; refine (HG2.out _ HK1.out HO1.out).mono ?_; rintro e w2 ⟨rfl, h1⟩; have H1 := Lib.hid h1; clear h1)
  exact bodyPost_end (v := .tuple #[]) (by simp [results, Tryz.results104, go_sem]) rfl ⟨rfl, H1.out.1, HK1.out.trans H1.out.2⟩
end Go.Proofs.YtpfhmcdcmepfdaaGreatDoor


set_option linter.unusedVariables false
set_option linter.unusedSimpArgs false
namespace Go.Proofs.YtpfhmcdcmepfdaaGreatDoor
open Go.RowKit Go.Shelf
open Go.Proofs Go.Maps

def heldR (v : Value) : Option (DataW Value × List MemPlace) := some (.held v, [])
theorem heldR_inj {v : Value} {ps : List MemPlace} {d : DataW Value} {u : Value} (h : heldR v = some (d, ps)) (hd : d = .held u) : v = u := by
  subst hd
  simp [heldR] at h
  exact h.1
theorem int_key (k : Int) (h : (Lit.int .i64 k).wf = true) : keyOf Tryz.prog 3 (.int .i64 k) = some (.int .i64 k) := by
  have e : Tryz.prog.underlying 3 = some (.int .i64) := by kernel_rfl
  simp [keyOf, e, mapKey, h]
theorem int_keys : Keyed Tryz.prog 3 := int_keyed (q := .i64) (by kernel_rfl)
theorem func_zero (w : World) : (zeroValue 1).run Tryz.prog w = .ok .nilFunc w := by kernel_rfl
theorem func_map : Tryz.prog.underlying 172 = some (.map 3 1) := by kernel_rfl
theorem made_map (t : TypeId) (w : World) : (Instr.makeMap t none).run Tryz.prog w = .ok (.map (some w.heap.size)) (w.alloc (.map #[] 0)) := rfl
attribute [go_sem] made_map
theorem four_funcs (W : World) (f0 f1 f2 f3 : Value) : ∃ m1 m2 m3 m4 : World,
    (Instr.mapUpdate 172 (.map (some W.heap.size)) (.int .i64 0) f0).run Tryz.prog (W.alloc (.map #[] 0)) = .ok () m1 ∧
    (Instr.mapUpdate 172 (.map (some W.heap.size)) (.int .i64 1) f1).run Tryz.prog m1 = .ok () m2 ∧
    (Instr.mapUpdate 172 (.map (some W.heap.size)) (.int .i64 2) f2).run Tryz.prog m2 = .ok () m3 ∧
    (Instr.mapUpdate 172 (.map (some W.heap.size)) (.int .i64 3) f3).run Tryz.prog m3 = .ok () m4 ∧
    Ext W m4 ∧
    (Instr.lookup 172 (.map (some W.heap.size)) (.int .i64 0) false).run Tryz.prog m4 = .ok f0 m4 ∧
    (Instr.lookup 172 (.map (some W.heap.size)) (.int .i64 1) false).run Tryz.prog m4 = .ok f1 m4 ∧
    (Instr.lookup 172 (.map (some W.heap.size)) (.int .i64 2) false).run Tryz.prog m4 = .ok f2 m4 ∧
    (Instr.lookup 172 (.map (some W.heap.size)) (.int .i64 3) false).run Tryz.prog m4 = .ok f3 m4 := by
  have k0 := int_key 0 (by decide)
  have k1 := int_key 1 (by decide)
  have k2 := int_key 2 (by decide)
  have k3 := int_key 3 (by decide)
  have o0 := World.ownsMap_made (H := Value) W Tryz.prog 3 heldR
  obtain ⟨m1, r1, o1, g1⟩ := o0.update int_keys func_map (by unfold maxLen; omega) k0 (val := f0) rfl
  obtain ⟨m2, r2, o2, g2⟩ := o1.update int_keys func_map (by unfold maxLen; omega) k1 (val := f1) rfl
  obtain ⟨m3, r3, o3, g3⟩ := o2.update int_keys func_map (by unfold maxLen; omega) k2 (val := f2) rfl
  obtain ⟨m4, r4, o4, g4⟩ := o3.update int_keys func_map (by unfold maxLen; omega) k3 (val := f3) rfl
  have hb : ∀ k, some W.heap.size = some k → W.heap.size ≤ k := by rintro k ⟨rfl⟩; exact Nat.le_refl _
  have b0 : Below W.heap.size W (W.alloc (.map #[] 0)) := (Below.refl _ _).alloc (Nat.le_refl _) _
  have b1 := b0.grown g1 (by simp) hb
  have b2 := b1.grown g2 b1.size hb
  have b3 := b2.grown g3 b2.size hb
  have b4 := b3.grown g4 b3.size hb
  obtain ⟨v0, p0, q0, e0⟩ := o4.lookup int_keys func_map (func_zero m4) (zd := .held .nilFunc) rfl k0
  obtain ⟨v1, p1, q1, e1⟩ := o4.lookup int_keys func_map (func_zero m4) (zd := .held .nilFunc) rfl k1
  obtain ⟨v2, p2, q2, e2⟩ := o4.lookup int_keys func_map (func_zero m4) (zd := .held .nilFunc) rfl k2
  obtain ⟨v3, p3, q3, e3⟩ := o4.lookup int_keys func_map (func_zero m4) (zd := .held .nilFunc) rfl k3
  obtain rfl := heldR_inj e0 (u := f0) rfl
  obtain rfl := heldR_inj e1 (u := f1) rfl
  obtain rfl := heldR_inj e2 (u := f2) rfl
  obtain rfl := heldR_inj e3 (u := f3) rfl
  exact ⟨m1, m2, m3, m4, r1, r2, r3, r4, b4, q0, q1, q2, q3⟩
end Go.Proofs.YtpfhmcdcmepfdaaGreatDoor


set_option linter.unusedVariables false
set_option linter.unusedSimpArgs false
namespace Go.Proofs.YtpfhmcdcmepfdaaGreatDoor
open Go.RowKit Go.Shelf
open Go.Proofs

def servE (l : List Giv) : Int := if l = [] then 340 else 0
theorem serve4_out {base b : Nat} {w : World} (h : Out12 base b [] w) : Calls Tryz.prog 102 #[] w fun e w' => e = .returned (.tuple #[]) ∧ Out12 base b [] w' ∧ Kept base b w w' := by
  refine (serve4_any w).mono ?_
  rintro e w' ⟨rfl, rfl⟩
  exact ⟨rfl, h, Kept.refl _ _ _⟩
theorem findex_i (A : Option Addr) (c : Nat) (l : List Fau) (bt : Nat) (t : Int) (w : World) (hl : l.length ≤ 100000) (hr : ReadsFau w w.heap.size A l) (hb : w.cell? ⟨bt, 0, none⟩ = some (.int .i64 t)) (hlb : bt < w.heap.size) :
    Calls Tryz.prog 98 #[.slice A l.length c, .func (.func 99) #[] #[.pointer (some ⟨bt, 0, none⟩)]] w fun e w' =>
      (∃ i : Int, e = .returned (.int .i64 i) ∧ Hid ((∃ k : Nat, ∃ h : k < l.length, i = k ∧ faultN l t = l[k]) ∨ (i = -1 ∧ faultN l t = noFau))) ∧ Ext w w' := by
  refine (findex_any A c l bt t w hl hr hb hlb).mono ?_
  rintro e w' ⟨h | h, hx⟩
  · obtain ⟨k, hk, rfl, h2⟩ := h
    exact ⟨⟨_, rfl, Lib.hid (.inl ⟨k, hk, rfl, h2⟩)⟩, hx⟩
  · obtain ⟨rfl, h2⟩ := h
    exact ⟨⟨_, rfl, Lib.hid (.inr ⟨rfl, h2⟩)⟩, hx⟩
set_option maxRecDepth 100000 in
set_option maxHeartbeats 1000000 in
theorem oserve_any (Av Af : Option Addr) (cv cf : Nat) (lv : List Ver) (lf : List Fau) (t : Int) (known : List Int) (w : World) (hl : lv.length ≤ 100000) (hlf : lf.length ≤ 100000) (hr : ReadsVer w w.heap.size Av lv) (hrf : ReadsFau w w.heap.size Af lf) (h16 : known.length = 16) (hby : Byt known) (hv : ∀ t, VerIn (atN lv t)) (hs : i64 (t + (faultN lf t).delay)) (hkd : 0 ≤ (faultN lf t).kind ∧ (faultN lf t).kind ≤ 3) (hk : Konst 1 w) :
    Calls Tryz.prog 45 #[.slice Av lv.length cv, .slice Af lf.length cf, .int .i64 t, .agg (dgC known)] w fun e w' => ∃ A c, e = .returned (.tuple #[.slice A (servedN lv known t (faultN lf t)).length c, .int .i64 (servE (servedN lv known t (faultN lf t)))]) ∧ Reads 22 gvL w' w'.heap.size A (servedN lv known t (faultN lf t)) ∧ Ext w w' := by
  have HR := Lib.hid hr
  have HRF := Lib.hid hrf
  have HK := Lib.hid hk
  obtain ⟨x, hx⟩ : ∃ x, faultN lf t = x := ⟨_, rfl⟩
  have HF := Lib.hid (fun (W : World) (hx : Ext w W) (b : Nat) (hb : W.cell? ⟨b, 0, none⟩ = some (.int .i64 t)) (hlb : b < W.heap.size) => findex_i Af cf lf b t W hlf (hrf.on hx) hb hlb)
  rw [hx] at hs hkd HF ⊢
  obtain ⟨S, hS⟩ : ∃ S, servedN lv known t x = S := ⟨_, rfl⟩
  have HS := Lib.hid hS
  rw [hS]
  clear hr hrf hk hx hS
  go_enter Tryz.func45, Tryz.ntmps45
  go_upto_region 3 with (go_at_call 98; refine (HF.out _ (by (repeat (first | with_reducible exact Ext.refl _ | with_reducible exact Ext.refl _ | with_reducible refine Ext.drew ?_ | with_reducible refine Ext.drewN ?_ _ | with_reducible refine Ext.alloc ?_ _ | with_reducible refine Ext.onto ?_ _ | (with_reducible refine Ext.setCells ?_ ?_ _ _; rotate_left; focus (first | omega | (simp; done) | (simp; omega))) | (with_reducible refine Ext.setCell ?_ ?_ _; rotate_left; focus (first | omega | (simp; done) | (simp; omega)))))) _ (by simp [go_sem]) (by simp)).mono ?_; rintro e w' ⟨⟨i, rfl, HCase⟩, hxl⟩; obtain ⟨xl, rfl⟩ := hxl.asLater; clear hxl)
  refine wp_world (fun W => Ext w W ∧ RowAt W w.heap.size #[.slice Av lv.length cv] ∧ RowAt W (w.heap.size + 1) #[.int .i64 t] ∧ RowAt W (w.heap.size + 1 + 1) (dgC known) ∧ RowAt W (w.heap.size + 1 + 1 + 1) (fauC noFau)) ⟨(by (repeat (first | with_reducible exact Ext.refl _ | with_reducible exact Ext.refl _ | with_reducible refine Ext.drew ?_ | with_reducible refine Ext.drewN ?_ _ | with_reducible refine Ext.alloc ?_ _ | with_reducible refine Ext.onto ?_ _ | (with_reducible refine Ext.setCells ?_ ?_ _ _; rotate_left; focus (first | omega | (simp; done) | (simp; omega))) | (with_reducible refine Ext.setCell ?_ ?_ _; rotate_left; focus (first | omega | (simp; done) | (simp; omega)))))), RowAt.later ((((RowAt.new _ _ _).alloc _).alloc _).alloc _) _, RowAt.later (((RowAt.newAt (by simp)).alloc _).alloc _) _, RowAt.later ((RowAt.newAt (by simp)).alloc _) _, RowAt.later (RowAt.newAt (by simp)) _⟩ ?_
  clear HF
  obtain ⟨B, hB⟩ : ∃ B, w.heap.size = B := ⟨_, rfl⟩
  rw [hB] at HR HRF ⊢
  rintro W1 ⟨x1, u0, u1, u2, u3⟩
  have HX1 := Lib.hid x1
  have HU0 := Lib.hid u0
  have HU1 := Lib.hid u1
  have HU2 := Lib.hid u2
  have HU3 := Lib.hid u3
  have m3 : roomOf W1 (B + 1 + 1 + 1) 0 4 = true := by rw [u3.room]; rfl
  have hl3 := u3.lt
  clear x1 u0 u1 u2 u3
  rcases HCase.out with ⟨k, hk, rfl, hfk⟩ | ⟨rfl, hfk⟩
  · obtain ⟨bf, off, rfl, hbf, hrow, _, _⟩ := ReadsFau.cell (HRF.out.below (HX1.out.mono (by omega))) k hk
    have hff := fau_fits lf[k]
    have hfs := fau_size lf[k]
    rw [← hfk] at hrow hff hfs
    clear hfk HCase
    go_upto_region 5 with (fail)
    refine wp_world (fun W => Ext w W ∧ RowAt W B #[.slice Av lv.length cv] ∧ RowAt W (B + 1) #[.int .i64 t] ∧ RowAt W (B + 1 + 1) (dgC known) ∧ RowAt W (B + 1 + 1 + 1) (fauC x)) ⟨HX1.out.setCells (by omega) _ _, HU0.out.others (by omega) _ _, HU1.out.others (by omega) _ _, HU2.out.others (by omega) _ _, HU3.out.store rfl⟩ ?_
    clear hrow hff hfs
    clear HX1 HU0 HU1 HU2 HU3 m3 hl3 HRF
    rintro W1 ⟨x1, u0, u1, u2, u3⟩
    have HX1 := Lib.hid x1
    have HU0 := Lib.hid u0
    have HU1 := Lib.hid u1
    have HU2 := Lib.hid u2
    have HU3 := Lib.hid u3
    have hl3 := u3.lt
    clear x1 u0 u1 u2 u3
    go_upto_region 7 with (fail)
    refine wp_world (fun W => Ext W1 W ∧ W.heap.size = W1.heap.size + 1 + 1 ∧ RowAt W W1.heap.size #[.slice none 0 0] ∧ RowAt W (W1.heap.size + 1) #[.func (.func 100) #[] #[.pointer (some ⟨W1.heap.size, 0, none⟩), .pointer (some ⟨B, 0, none⟩), .pointer (some ⟨B + 1 + 1, 0, none⟩)]]) ⟨((Ext.refl _).alloc _).alloc _, by simp, RowAt.alloc (RowAt.new _ _ _) _, RowAt.newAt (by simp)⟩ ?_
    obtain ⟨n, hn⟩ : ∃ n, W1.heap.size = n := ⟨_, rfl⟩
    rw [hn] at hl3 ⊢
    rintro W2 ⟨x2, hs2, z0, z1⟩
    obtain ⟨m1, m2, m3, m4, r1, r2, r3, r4, hm4, q0, q1, q2, q3⟩ := four_funcs W2 (.func (.func 101) #[] #[.pointer (some ⟨n + 1, 0, none⟩), .pointer (some ⟨B + 1, 0, none⟩)]) (.func (.func 102) #[] #[]) (.func (.func 103) #[] #[.pointer (some ⟨n + 1, 0, none⟩), .pointer (some ⟨B + 1, 0, none⟩), .pointer (some ⟨B + 1 + 1 + 1, 0, none⟩)]) (.func (.func 104) #[] #[.pointer (some ⟨n + 1, 0, none⟩), .pointer (some ⟨B + 1, 0, none⟩), .pointer (some ⟨B + 1 + 1 + 1, 0, none⟩)])
    rw [hs2] at r1 r2 r3 r4 q0 q1 q2 q3
    have hsm := hm4.size
    have hkl := HK.out.lt
    have hx14 : Ext W1 m4 := x2.trans hm4
    have HX4 : Hid (Ext w m4) := Lib.hid (HX1.out.trans hx14)
    have HE : Hid (SEnv B n B (B + 1 + 1) (n + 1) (B + 1) (B + 1 + 1 + 1) m4.heap.size Av cv lv known t x m4) := Lib.hid ⟨HR.out.below (HX4.out.mono (by omega)), HU0.out.ext hx14, HU2.out.ext hx14, z1.ext hm4, HU1.out.ext hx14, HU3.out.ext hx14, HK.out.ext HX4.out, Nat.le_refl _, by omega, by omega, by omega, by omega, by omega, by omega, by omega, by omega⟩
    have HO : Hid (Out12 m4.heap.size n [] m4) := Lib.hid ⟨none, 0, z0.ext hm4, Owns.nil _ _ _ _ _⟩
    have c10 : m4.cell? ⟨B + 1 + 1 + 1, 2, none⟩ = some (.int .i64 x.kind) := HE.out.h10.cell 2
    have hnm : n < m4.heap.size := by omega
    have hwn : w.heap.size ≤ n := by omega
    clear HX1 HU0 HU1 HU2 HU3 x2 z0 z1 hm4 hx14 hkl HK HR
    obtain ⟨hk1, hk2⟩ := hkd
    have hk4 : x.kind = 0 ∨ x.kind = 1 ∨ x.kind = 2 ∨ x.kind = 3 := by omega
    clear hk1 hk2
    rcases hk4 with hk4 | hk4 | hk4 | hk4
    ·
      have hL : S = giveN lv known [] t := HS.out.symm.trans (by simp [servedN, hk4])
      have HC := Lib.hid (serve3_any HE.out [] HO.out hl (by simp) h16 hby hv)
      rw [← hL] at HC
      rw [hk4] at c10
      clear hL hk4 HE HO q1 q2 q3 hl h16 hby hv hs HS
      by_cases hS0 : S = []
      ·
        have hS1 : S.length = 0 := by rw [hS0]; rfl
        have hv1 : servE S = 340 := if_pos hS0
        go_wp2_with (go_at_call 101; refine HC.out.mono ?_; rintro e w5 ⟨rfl, ⟨A5, c5, h1, h2⟩, h3⟩; have H1 := Lib.hid h1; have H2 := Lib.hid h2; have H3 := Lib.hid h3; have d12 : w5.cell? ⟨n, 0, none⟩ = some (.slice A5 S.length c5) := h1.cell 0; clear h1 h2 h3)
        refine post_two (v1 := .slice none 0 0) (v2 := .int .i64 340) Tryz.results45 rfl rfl rfl ⟨none, 0, by rw [hS1, hv1], by rw [hS0]; exact fun h => absurd h (by simp), Below.trans HX4.out (Kept.below H3.out (by have := HX4.out.size; omega) hwn)⟩
      ·
        have hS1 : 0 < S.length := by rcases S with _ | ⟨a, S'⟩; exact absurd rfl hS0; simp
        have hv1 : servE S = 0 := if_neg hS0
        go_wp2_with (go_at_call 101; refine HC.out.mono ?_; rintro e w5 ⟨rfl, ⟨A5, c5, h1, h2⟩, h3⟩; have H1 := Lib.hid h1; have H2 := Lib.hid h2; have H3 := Lib.hid h3; have d12 : w5.cell? ⟨n, 0, none⟩ = some (.slice A5 S.length c5) := h1.cell 0; clear h1 h2 h3)
        refine post_two (v1 := .slice A5 S.length c5) (v2 := .int .i64 0) Tryz.results45 rfl rfl rfl ⟨A5, c5, by rw [hv1], H2.out.reads gvE, Below.trans HX4.out (Kept.below H3.out (by have := HX4.out.size; omega) hwn)⟩
    ·
      have hL : S = [] := HS.out.symm.trans (by simp [servedN, hk4])
      have HC := Lib.hid (serve4_out HO.out)
      rw [← hL] at HC
      rw [hk4] at c10
      clear hL hk4 HE HO q0 q2 q3 hl h16 hby hv hs HS
      by_cases hS0 : S = []
      ·
        have hS1 : S.length = 0 := by rw [hS0]; rfl
        have hv1 : servE S = 340 := if_pos hS0
        go_wp2_with (go_at_call 102; refine HC.out.mono ?_; rintro e w5 ⟨rfl, ⟨A5, c5, h1, h2⟩, h3⟩; have H1 := Lib.hid h1; have H2 := Lib.hid h2; have H3 := Lib.hid h3; have d12 : w5.cell? ⟨n, 0, none⟩ = some (.slice A5 S.length c5) := h1.cell 0; clear h1 h2 h3)
        refine post_two (v1 := .slice none 0 0) (v2 := .int .i64 340) Tryz.results45 rfl rfl rfl ⟨none, 0, by rw [hS1, hv1], by rw [hS0]; exact fun h => absurd h (by simp), Below.trans HX4.out (Kept.below H3.out (by have := HX4.out.size; omega) hwn)⟩
      ·
        have hS1 : 0 < S.length := by rcases S with _ | ⟨a, S'⟩; exact absurd rfl hS0; simp
        have hv1 : servE S = 0 := if_neg hS0
        go_wp2_with (go_at_call 102; refine HC.out.mono ?_; rintro e w5 ⟨rfl, ⟨A5, c5, h1, h2⟩, h3⟩; have H1 := Lib.hid h1; have H2 := Lib.hid h2; have H3 := Lib.hid h3; have d12 : w5.cell? ⟨n, 0, none⟩ = some (.slice A5 S.length c5) := h1.cell 0; clear h1 h2 h3)
        refine post_two (v1 := .slice A5 S.length c5) (v2 := .int .i64 0) Tryz.results45 rfl rfl rfl ⟨A5, c5, by rw [hv1], H2.out.reads gvE, Below.trans HX4.out (Kept.below H3.out (by have := HX4.out.size; omega) hwn)⟩
    ·
      have hL : S = giveN lv known [] (t + x.delay) := HS.out.symm.trans (by simp [servedN, hk4])
      have HC := Lib.hid (serve5_any HE.out [] HO.out hl (by simp) h16 hby hv hs)
      rw [← hL] at HC
      rw [hk4] at c10
      clear hL hk4 HE HO q0 q1 q3 hl h16 hby hv hs HS
      by_cases hS0 : S = []
      ·
        have hS1 : S.length = 0 := by rw [hS0]; rfl
        have hv1 : servE S = 340 := if_pos hS0
        go_wp2_with (go_at_call 103; refine HC.out.mono ?_; rintro e w5 ⟨rfl, ⟨A5, c5, h1, h2⟩, h3⟩; have H1 := Lib.hid h1; have H2 := Lib.hid h2; have H3 := Lib.hid h3; have d12 : w5.cell? ⟨n, 0, none⟩ = some (.slice A5 S.length c5) := h1.cell 0; clear h1 h2 h3)
        refine post_two (v1 := .slice none 0 0) (v2 := .int .i64 340) Tryz.results45 rfl rfl rfl ⟨none, 0, by rw [hS1, hv1], by rw [hS0]; exact fun h => absurd h (by simp), Below.trans HX4.out (Kept.below H3.out (by have := HX4.out.size; omega) hwn)⟩
      ·
        have hS1 : 0 < S.length := by rcases S with _ | ⟨a, S'⟩; exact absurd rfl hS0; simp
        have hv1 : servE S = 0 := if_neg hS0
        go_wp2_with (go_at_call 103; refine HC.out.mono ?_; rintro e w5 ⟨rfl, ⟨A5, c5, h1, h2⟩, h3⟩; have H1 := Lib.hid h1; have H2 := Lib.hid h2; have H3 := Lib.hid h3; have d12 : w5.cell? ⟨n, 0, none⟩ = some (.slice A5 S.length c5) := h1.cell 0; clear h1 h2 h3)
        refine post_two (v1 := .slice A5 S.length c5) (v2 := .int .i64 0) Tryz.results45 rfl rfl rfl ⟨A5, c5, by rw [hv1], H2.out.reads gvE, Below.trans HX4.out (Kept.below H3.out (by have := HX4.out.size; omega) hwn)⟩
    ·
      have hL : S = giveN lv known (giveN lv known [] t) (t + x.delay) := HS.out.symm.trans (by simp [servedN, hk4])
      have HC := Lib.hid (serve6_any HE.out HO.out hl h16 hby hv hs)
      rw [← hL] at HC
      rw [hk4] at c10
      clear hL hk4 HE HO q0 q1 q2 hl h16 hby hv hs HS
      by_cases hS0 : S = []
      ·
        have hS1 : S.length = 0 := by rw [hS0]; rfl
        have hv1 : servE S = 340 := if_pos hS0
        go_wp2_with (go_at_call 104; refine HC.out.mono ?_; rintro e w5 ⟨rfl, ⟨A5, c5, h1, h2⟩, h3⟩; have H1 := Lib.hid h1; have H2 := Lib.hid h2; have H3 := Lib.hid h3; have d12 : w5.cell? ⟨n, 0, none⟩ = some (.slice A5 S.length c5) := h1.cell 0; clear h1 h2 h3)
        refine post_two (v1 := .slice none 0 0) (v2 := .int .i64 340) Tryz.results45 rfl rfl rfl ⟨none, 0, by rw [hS1, hv1], by rw [hS0]; exact fun h => absurd h (by simp), Below.trans HX4.out (Kept.below H3.out (by have := HX4.out.size; omega) hwn)⟩
      ·
        have hS1 : 0 < S.length := by rcases S with _ | ⟨a, S'⟩; exact absurd rfl hS0; simp
        have hv1 : servE S = 0 := if_neg hS0
        go_wp2_with (go_at_call 104; refine HC.out.mono ?_; rintro e w5 ⟨rfl, ⟨A5, c5, h1, h2⟩, h3⟩; have H1 := Lib.hid h1; have H2 := Lib.hid h2; have H3 := Lib.hid h3; have d12 : w5.cell? ⟨n, 0, none⟩ = some (.slice A5 S.length c5) := h1.cell 0; clear h1 h2 h3)
        refine post_two (v1 := .slice A5 S.length c5) (v2 := .int .i64 0) Tryz.results45 rfl rfl rfl ⟨A5, c5, by rw [hv1], H2.out.reads gvE, Below.trans HX4.out (Kept.below H3.out (by have := HX4.out.size; omega) hwn)⟩
  · subst hfk
    clear HCase
    go_upto_region 5 with (fail)
    refine wp_world (fun W => Ext w W ∧ RowAt W B #[.slice Av lv.length cv] ∧ RowAt W (B + 1) #[.int .i64 t] ∧ RowAt W (B + 1 + 1) (dgC known) ∧ RowAt W (B + 1 + 1 + 1) (fauC noFau)) ⟨HX1.out, HU0.out, HU1.out, HU2.out, HU3.out⟩ ?_
    generalize noFau = x at *
    clear HX1 HU0 HU1 HU2 HU3 m3 hl3 HRF
    rintro W1 ⟨x1, u0, u1, u2, u3⟩
    have HX1 := Lib.hid x1
    have HU0 := Lib.hid u0
    have HU1 := Lib.hid u1
    have HU2 := Lib.hid u2
    have HU3 := Lib.hid u3
    have hl3 := u3.lt
    clear x1 u0 u1 u2 u3
    go_upto_region 7 with (fail)
    refine wp_world (fun W => Ext W1 W ∧ W.heap.size = W1.heap.size + 1 + 1 ∧ RowAt W W1.heap.size #[.slice none 0 0] ∧ RowAt W (W1.heap.size + 1) #[.func (.func 100) #[] #[.pointer (some ⟨W1.heap.size, 0, none⟩), .pointer (some ⟨B, 0, none⟩), .pointer (some ⟨B + 1 + 1, 0, none⟩)]]) ⟨((Ext.refl _).alloc _).alloc _, by simp, RowAt.alloc (RowAt.new _ _ _) _, RowAt.newAt (by simp)⟩ ?_
    obtain ⟨n, hn⟩ : ∃ n, W1.heap.size = n := ⟨_, rfl⟩
    rw [hn] at hl3 ⊢
    rintro W2 ⟨x2, hs2, z0, z1⟩
    obtain ⟨m1, m2, m3, m4, r1, r2, r3, r4, hm4, q0, q1, q2, q3⟩ := four_funcs W2 (.func (.func 101) #[] #[.pointer (some ⟨n + 1, 0, none⟩), .pointer (some ⟨B + 1, 0, none⟩)]) (.func (.func 102) #[] #[]) (.func (.func 103) #[] #[.pointer (some ⟨n + 1, 0, none⟩), .pointer (some ⟨B + 1, 0, none⟩), .pointer (some ⟨B + 1 + 1 + 1, 0, none⟩)]) (.func (.func 104) #[] #[.pointer (some ⟨n + 1, 0, none⟩), .pointer (some ⟨B + 1, 0, none⟩), .pointer (some ⟨B + 1 + 1 + 1, 0, none⟩)])
    rw [hs2] at r1 r2 r3 r4 q0 q1 q2 q3
    have hsm := hm4.size
    have hkl := HK.out.lt
    have hx14 : Ext W1 m4 := x2.trans hm4
    have HX4 : Hid (Ext w m4) := Lib.hid (HX1.out.trans hx14)
    have HE : Hid (SEnv B n B (B + 1 + 1) (n + 1) (B + 1) (B + 1 + 1 + 1) m4.heap.size Av cv lv known t x m4) := Lib.hid ⟨HR.out.below (HX4.out.mono (by omega)), HU0.out.ext hx14, HU2.out.ext hx14, z1.ext hm4, HU1.out.ext hx14, HU3.out.ext hx14, HK.out.ext HX4.out, Nat.le_refl _, by omega, by omega, by omega, by omega, by omega, by omega, by omega, by omega⟩
    have HO : Hid (Out12 m4.heap.size n [] m4) := Lib.hid ⟨none, 0, z0.ext hm4, Owns.nil _ _ _ _ _⟩
    have c10 : m4.cell? ⟨B + 1 + 1 + 1, 2, none⟩ = some (.int .i64 x.kind) := HE.out.h10.cell 2
    have hnm : n < m4.heap.size := by omega
    have hwn : w.heap.size ≤ n := by omega
    clear HX1 HU0 HU1 HU2 HU3 x2 z0 z1 hm4 hx14 hkl HK HR
    obtain ⟨hk1, hk2⟩ := hkd
    have hk4 : x.kind = 0 ∨ x.kind = 1 ∨ x.kind = 2 ∨ x.kind = 3 := by omega
    clear hk1 hk2
    rcases hk4 with hk4 | hk4 | hk4 | hk4
    ·
      have hL : S = giveN lv known [] t := HS.out.symm.trans (by simp [servedN, hk4])
      have HC := Lib.hid (serve3_any HE.out [] HO.out hl (by simp) h16 hby hv)
      rw [← hL] at HC
      rw [hk4] at c10
      clear hL hk4 HE HO q1 q2 q3 hl h16 hby hv hs HS
      by_cases hS0 : S = []
      ·
        have hS1 : S.length = 0 := by rw [hS0]; rfl
        have hv1 : servE S = 340 := if_pos hS0
        go_wp2_with (go_at_call 101; refine HC.out.mono ?_; rintro e w5 ⟨rfl, ⟨A5, c5, h1, h2⟩, h3⟩; have H1 := Lib.hid h1; have H2 := Lib.hid h2; have H3 := Lib.hid h3; have d12 : w5.cell? ⟨n, 0, none⟩ = some (.slice A5 S.length c5) := h1.cell 0; clear h1 h2 h3)
        refine post_two (v1 := .slice none 0 0) (v2 := .int .i64 340) Tryz.results45 rfl rfl rfl ⟨none, 0, by rw [hS1, hv1], by rw [hS0]; exact fun h => absurd h (by simp), Below.trans HX4.out (Kept.below H3.out (by have := HX4.out.size; omega) hwn)⟩
      ·
        have hS1 : 0 < S.length := by rcases S with _ | ⟨a, S'⟩; exact absurd rfl hS0; simp
        have hv1 : servE S = 0 := if_neg hS0
        go_wp2_with (go_at_call 101; refine HC.out.mono ?_; rintro e w5 ⟨rfl, ⟨A5, c5, h1, h2⟩, h3⟩; have H1 := Lib.hid h1; have H2 := Lib.hid h2; have H3 := Lib.hid h3; have d12 : w5.cell? ⟨n, 0, none⟩ = some (.slice A5 S.length c5) := h1.cell 0; clear h1 h2 h3)
        refine post_two (v1 := .slice A5 S.length c5) (v2 := .int .i64 0) Tryz.results45 rfl rfl rfl ⟨A5, c5, by rw [hv1], H2.out.reads gvE, Below.trans HX4.out (Kept.below H3.out (by have := HX4.out.size; omega) hwn)⟩
    ·
      have hL : S = [] := HS.out.symm.trans (by simp [servedN, hk4])
      have HC := Lib.hid (serve4_out HO.out)
      rw [← hL] at HC
      rw [hk4] at c10
      clear hL hk4 HE HO q0 q2 q3 hl h16 hby hv hs HS
      by_cases hS0 : S = []
      ·
        have hS1 : S.length = 0 := by rw [hS0]; rfl
        have hv1 : servE S = 340 := if_pos hS0
        go_wp2_with (go_at_call 102; refine HC.out.mono ?_; rintro e w5 ⟨rfl, ⟨A5, c5, h1, h2⟩, h3⟩; have H1 := Lib.hid h1; have H2 := Lib.hid h2; have H3 := Lib.hid h3; have d12 : w5.cell? ⟨n, 0, none⟩ = some (.slice A5 S.length c5) := h1.cell 0; clear h1 h2 h3)
        refine post_two (v1 := .slice none 0 0) (v2 := .int .i64 340) Tryz.results45 rfl rfl rfl ⟨none, 0, by rw [hS1, hv1], by rw [hS0]; exact fun h => absurd h (by simp), Below.trans HX4.out (Kept.below H3.out (by have := HX4.out.size; omega) hwn)⟩
      ·
        have hS1 : 0 < S.length := by rcases S with _ | ⟨a, S'⟩; exact absurd rfl hS0; simp
        have hv1 : servE S = 0 := if_neg hS0
        go_wp2_with (go_at_call 102; refine HC.out.mono ?_; rintro e w5 ⟨rfl, ⟨A5, c5, h1, h2⟩, h3⟩; have H1 := Lib.hid h1; have H2 := Lib.hid h2; have H3 := Lib.hid h3; have d12 : w5.cell? ⟨n, 0, none⟩ = some (.slice A5 S.length c5) := h1.cell 0; clear h1 h2 h3)
        refine post_two (v1 := .slice A5 S.length c5) (v2 := .int .i64 0) Tryz.results45 rfl rfl rfl ⟨A5, c5, by rw [hv1], H2.out.reads gvE, Below.trans HX4.out (Kept.below H3.out (by have := HX4.out.size; omega) hwn)⟩
    ·
      have hL : S = giveN lv known [] (t + x.delay) := HS.out.symm.trans (by simp [servedN, hk4])
      have HC := Lib.hid (serve5_any HE.out [] HO.out hl (by simp) h16 hby hv hs)
      rw [← hL] at HC
      rw [hk4] at c10
      clear hL hk4 HE HO q0 q1 q3 hl h16 hby hv hs HS
      by_cases hS0 : S = []
      ·
        have hS1 : S.length = 0 := by rw [hS0]; rfl
        have hv1 : servE S = 340 := if_pos hS0
        go_wp2_with (go_at_call 103; refine HC.out.mono ?_; rintro e w5 ⟨rfl, ⟨A5, c5, h1, h2⟩, h3⟩; have H1 := Lib.hid h1; have H2 := Lib.hid h2; have H3 := Lib.hid h3; have d12 : w5.cell? ⟨n, 0, none⟩ = some (.slice A5 S.length c5) := h1.cell 0; clear h1 h2 h3)
        refine post_two (v1 := .slice none 0 0) (v2 := .int .i64 340) Tryz.results45 rfl rfl rfl ⟨none, 0, by rw [hS1, hv1], by rw [hS0]; exact fun h => absurd h (by simp), Below.trans HX4.out (Kept.below H3.out (by have := HX4.out.size; omega) hwn)⟩
      ·
        have hS1 : 0 < S.length := by rcases S with _ | ⟨a, S'⟩; exact absurd rfl hS0; simp
        have hv1 : servE S = 0 := if_neg hS0
        go_wp2_with (go_at_call 103; refine HC.out.mono ?_; rintro e w5 ⟨rfl, ⟨A5, c5, h1, h2⟩, h3⟩; have H1 := Lib.hid h1; have H2 := Lib.hid h2; have H3 := Lib.hid h3; have d12 : w5.cell? ⟨n, 0, none⟩ = some (.slice A5 S.length c5) := h1.cell 0; clear h1 h2 h3)
        refine post_two (v1 := .slice A5 S.length c5) (v2 := .int .i64 0) Tryz.results45 rfl rfl rfl ⟨A5, c5, by rw [hv1], H2.out.reads gvE, Below.trans HX4.out (Kept.below H3.out (by have := HX4.out.size; omega) hwn)⟩
    ·
      have hL : S = giveN lv known (giveN lv known [] t) (t + x.delay) := HS.out.symm.trans (by simp [servedN, hk4])
      have HC := Lib.hid (serve6_any HE.out HO.out hl h16 hby hv hs)
      rw [← hL] at HC
      rw [hk4] at c10
      clear hL hk4 HE HO q0 q1 q2 hl h16 hby hv hs HS
      by_cases hS0 : S = []
      ·
        have hS1 : S.length = 0 := by rw [hS0]; rfl
        have hv1 : servE S = 340 := if_pos hS0
        go_wp2_with (go_at_call 104; refine HC.out.mono ?_; rintro e w5 ⟨rfl, ⟨A5, c5, h1, h2⟩, h3⟩; have H1 := Lib.hid h1; have H2 := Lib.hid h2; have H3 := Lib.hid h3; have d12 : w5.cell? ⟨n, 0, none⟩ = some (.slice A5 S.length c5) := h1.cell 0; clear h1 h2 h3)
        refine post_two (v1 := .slice none 0 0) (v2 := .int .i64 340) Tryz.results45 rfl rfl rfl ⟨none, 0, by rw [hS1, hv1], by rw [hS0]; exact fun h => absurd h (by simp), Below.trans HX4.out (Kept.below H3.out (by have := HX4.out.size; omega) hwn)⟩
      ·
        have hS1 : 0 < S.length := by rcases S with _ | ⟨a, S'⟩; exact absurd rfl hS0; simp
        have hv1 : servE S = 0 := if_neg hS0
        go_wp2_with (go_at_call 104; refine HC.out.mono ?_; rintro e w5 ⟨rfl, ⟨A5, c5, h1, h2⟩, h3⟩; have H1 := Lib.hid h1; have H2 := Lib.hid h2; have H3 := Lib.hid h3; have d12 : w5.cell? ⟨n, 0, none⟩ = some (.slice A5 S.length c5) := h1.cell 0; clear h1 h2 h3)
        refine post_two (v1 := .slice A5 S.length c5) (v2 := .int .i64 0) Tryz.results45 rfl rfl rfl ⟨A5, c5, by rw [hv1], H2.out.reads gvE, Below.trans HX4.out (Kept.below H3.out (by have := HX4.out.size; omega) hwn)⟩
end Go.Proofs.YtpfhmcdcmepfdaaGreatDoor


set_option linter.unusedVariables false
set_option linter.unusedSimpArgs false
namespace Go.Proofs.YtpfhmcdcmepfdaaGreatDoor
open Go.RowKit Go.Shelf
open Go.Proofs

def exA : Ver := ⟨10, 200, ⟨#[97, 98, 99]⟩, ⟨#[120]⟩⟩
def exB : Ver := ⟨20, 200, ⟨#[97, 98, 100]⟩, ByteArray.empty⟩
def exV : List Ver := [exA, exB]
theorem dgA_ne_dgB : dgN exA.bytes ≠ dgN exB.bytes := by decide +kernel
theorem dgB_ne_zero : dgN exB.bytes ≠ zeros32 16 := by decide +kernel
theorem dgA_ne_zero : dgN exA.bytes ≠ zeros32 16 := by decide +kernel
theorem at9 : atN exV 9 = lostVer := rfl
theorem at10 : atN exV 10 = exA := rfl
theorem at15 : atN exV 15 = exA := rfl
theorem at25 : atN exV 25 = exB := rfl
theorem at22 : atN exV 22 = exB := rfl
theorem at20 : atN exV 20 = exB := rfl
theorem exIn (t : Int) : VerIn (atN exV t) := by
  unfold atN
  split
  · show (_ : Nat) ≤ _; decide
  · have : placeN exV t ≤ 2 := placeN_le exV t
    generalize placeN exV t = k at *
    match k, this with
    | 0, _ => show (_ : Nat) ≤ _; decide
    | 1, _ => show (_ : Nat) ≤ _; decide
    | 2, _ => show (_ : Nat) ≤ _; decide
theorem ex_listed0 : listedB ByteArray.empty = true := Tg.tags_nil
theorem ex_listed1 : listedB ⟨#[120]⟩ = true := by
  have h := Tg.tags_of (s := bsT ⟨#[120]⟩) (l := [[120]]) (m := [[120]]) ?_ (by decide) ?_ ?_ (fun x => Iff.rfl) (by decide)
  · exact h.trans (by decide)
  · exact Tg.Cut.one (by decide)
  · decide
  · exact List.pairwise_singleton _ _
theorem exValid : validV exV = true := by
  rw [validV_iff]
  refine ⟨fun j hj _ => ?_, by decide⟩
  have : j = 0 ∨ j = 1 := by simp [exV] at hj; omega
  rcases this with rfl | rfl
  · refine ⟨?_, ⟨?_, ?_, ?_, ?_⟩, ex_listed1⟩
    · show (_ : Int) < 10; decide
    · show (10 : Int) ≤ _; decide
    · show (100 : Int) ≤ 200; decide
    · show (200 : Int) ≤ 599; decide
    · show (3 : Nat) ≤ _; decide
  · refine ⟨?_, ⟨?_, ?_, ?_, ?_⟩, ex_listed0⟩
    · show (_ : Int) < 20; decide
    · show (20 : Int) ≤ _; decide
    · show (100 : Int) ≤ 200; decide
    · show (200 : Int) ≤ 599; decide
    · show (3 : Nat) ≤ _; decide
set_option maxRecDepth 100000 in
set_option maxHeartbeats 1000000 in
theorem example_any (w : World) : Calls Tryz.prog 39 #[] w fun e w' => ∃ b, e = .returned (.slice (some ⟨b, 0, none⟩) exV.length 2) ∧ ReadsVer w' w'.heap.size (some ⟨b, 0, none⟩) exV ∧ Ext w w' := by
  go_enter Tryz.func39, Tryz.ntmps39
  go_wp2
  go_ret
  exact ⟨_, rfl, reads_fresh verE exV _ _ _ rfl, (by (repeat (first | with_reducible exact Ext.refl _ | with_reducible exact Ext.refl _ | with_reducible refine Ext.drew ?_ | with_reducible refine Ext.drewN ?_ _ | with_reducible refine Ext.alloc ?_ _ | with_reducible refine Ext.onto ?_ _ | (with_reducible refine Ext.setCells ?_ ?_ _ _; rotate_left; focus (first | omega | (simp; done) | (simp; omega))) | (with_reducible refine Ext.setCell ?_ ?_ _; rotate_left; focus (first | omega | (simp; done) | (simp; omega))))))⟩
end Go.Proofs.YtpfhmcdcmepfdaaGreatDoor


set_option linter.unusedVariables false
set_option linter.unusedSimpArgs false
namespace Go.Proofs.YtpfhmcdcmepfdaaGreatDoor
open Go.RowKit Go.Shelf
open Go.Proofs

def exK : Ky := ⟨7, 1, ⟨#[115]⟩, 0, 100⟩
def acmeA : ByteArray := ⟨#[97, 99, 109, 101, 47, 97]⟩
def exAn : An := ⟨200, 3, dgN exA.bytes, exA.bytes, ⟨#[120]⟩, false⟩
def exS : St := sealedSt exK (fromAn acmeA ByteArray.empty exAn 15 30)
theorem ex_ans : ansOf (atN exV 15) (zeros32 16) = exAn := by
  rw [at15]
  unfold ansOf
  rw [if_neg dgA_ne_zero]
  rfl
theorem ex_good : goodS exK exAn ⟨15, 16⟩ ⟨20, 30⟩ = true := by
  unfold goodS
  have h1 : okKy exK = true := by decide
  have h2 : okClk ⟨15, 16⟩ = true := by decide
  have h3 : okClk ⟨20, 30⟩ = true := by decide
  have h4 : decide (exAn.body = dgN exAn.bytes) = true := by simp [exAn]
  rw [h1, h2, h3, h4]
  decide
theorem ex_stampIn : stampIn exK acmeA ByteArray.empty exAn ⟨15, 16⟩ ⟨20, 30⟩ acmeA 0 = (exS, 0) := by
  unfold stampIn
  rw [if_pos rfl, if_pos rfl, if_pos (show listedB exAn.tags = true from ex_listed1), if_neg (by decide)]
  rfl
theorem ex_stamp : stampOut exK acmeA ByteArray.empty exAn ⟨15, 16⟩ ⟨20, 30⟩ acmeA 0 = (exS, 0) := by
  unfold stampOut
  rw [if_pos ex_good]
  exact ex_stampIn
theorem exS_lo : exS.lo = 15 := rfl
theorem exS_hi : exS.hi = 30 := rfl
theorem exS_gate : exS.gate = 7 := rfl
theorem exS_body : exS.body = dgN exA.bytes := rfl
theorem mean1 : meanN exV 15 30 = [exA, exB] := rfl
theorem mean2 : meanN exV 20 30 = [exB] := rfl
theorem says_A : saysB exS exA = true := by
  unfold saysB
  rw [exS_body]
  simp
  exact ⟨⟨rfl, rfl⟩, rfl⟩
theorem true_1 : (meanN exV exS.lo exS.hi).any (saysB exS) = true := by
  rw [exS_lo, exS_hi, mean1]
  simp [says_A]
theorem says_B (s : St) (h : s.body = dgN exA.bytes) : saysB s exB = false := by
  unfold saysB
  rw [h]
  simp [dgA_ne_dgB.symm]
theorem true_2 : (meanN exV 20 30).any (saysB { exS with lo := 20 }) = false := by
  rw [mean2]
  simp [says_B { exS with lo := 20 } rfl]
theorem ex_ints : ∀ x ∈ stInts (named exK (fromAn acmeA ByteArray.empty exAn 15 30)), i64 x := by
  intro x hx
  have : stInts (named exK (fromAn acmeA ByteArray.empty exAn 15 30)) = [200, 3, 15, 30, 7, 1] := rfl
  rw [this] at hx
  simp at hx
  rcases hx with rfl | rfl | rfl | rfl | rfl | rfl <;> constructor <;> decide
theorem ex_lens : lens ([exK.secret] ++ stParts (named exK (fromAn acmeA ByteArray.empty exAn 15 30)) ++ [exK.secret]) < 8796093022208 := by decide +kernel
end Go.Proofs.YtpfhmcdcmepfdaaGreatDoor


set_option linter.unusedVariables false
set_option linter.unusedSimpArgs false
namespace Go.Proofs.YtpfhmcdcmepfdaaGreatDoor
open Go.RowKit Go.Shelf
open Go.Proofs

theorem ver_f1 (v : Ver) (W : World) : (Instr.field 107 (.agg (verC v)) 1).run Tryz.prog W = .ok (.int .i64 v.status) W := by kernel_rfl
theorem ver_f2 (v : Ver) (W : World) : (Instr.field 107 (.agg (verC v)) 2).run Tryz.prog W = .ok (.string v.bytes) W := by kernel_rfl
theorem lost_s : lostVer.status = 404 := rfl
theorem exA_b : exA.bytes = ⟨#[97, 98, 99]⟩ := rfl
theorem exB_b : exB.bytes = ⟨#[97, 98, 100]⟩ := rfl
theorem dgw_self (a0 a1 a2 a3 a4 a5 a6 a7 a8 a9 a10 a11 a12 a13 a14 a15 : Int) (W : World) : (Op.equalIn 9999 25 (.agg #[.int .u8 a0, .int .u8 a1, .int .u8 a2, .int .u8 a3, .int .u8 a4, .int .u8 a5, .int .u8 a6, .int .u8 a7, .int .u8 a8, .int .u8 a9, .int .u8 a10, .int .u8 a11, .int .u8 a12, .int .u8 a13, .int .u8 a14, .int .u8 a15]) (.agg #[.int .u8 a0, .int .u8 a1, .int .u8 a2, .int .u8 a3, .int .u8 a4, .int .u8 a5, .int .u8 a6, .int .u8 a7, .int .u8 a8, .int .u8 a9, .int .u8 a10, .int .u8 a11, .int .u8 a12, .int .u8 a13, .int .u8 a14, .int .u8 a15])).run Tryz.prog W = .ok true W := by
  have hc : Tryz.prog.cellsOf 5 = 1 := by kernel_rfl
  have hr : List.range 16 = [0, 1, 2, 3, 4, 5, 6, 7, 8, 9, 10, 11, 12, 13, 14, 15] := by decide
  have hinf : (Tryz.prog.info? 5).map (fun i => (i.zero, i.size, i.bytes)) = some (some (.int .u8 0), 1, 1) := by kernel_rfl
  obtain ⟨i, hi, _, _, _⟩ := info_parts hinf
  rw [run_equalIn_array W 9998 (t := 25) (e := 5) (n := 16) _ _ (by kernel_rfl) hi, hc, hr]
  simp [Op.eqItems, go_sem]
theorem an_self (a : An) (W : World) : (binOp .eql 27 (.agg (anC a)) (.agg (anC a))).run Tryz.prog W = .ok (.bool true) W := by
  rw [run_eql_struct]
  simp [go_sem, anC, dgC, dgw_self]
def ansBy (x0 x1 x2 x4 x5 : Value) : Sem Next := do pure (.value (← Instr.build 27 #[(0, x0), (1, x1), (2, x2), (4, x4), (5, x5)]))
theorem ansBy_x (ρ : Operand → Value) (dst : Option Tmp) (x0 x1 x2 x4 x5 : Operand) (t : TypeId) (pos : String) (after : Array Edge) (guard : Option (Nat × Bool)) : execOp ρ { dst, op := .build 27 #[(0, x0), (1, x1), (2, x2), (4, x4), (5, x5)], type := t, pos, after, guard } = ansBy (ρ x0) (ρ x1) (ρ x2) (ρ x4) (ρ x5) := by kernel_rfl
theorem ansBy_run (s z : Int) (D : List Int) (g : ByteArray) (b : Bool) (W : World) : (ansBy (.int .i64 s) (.int .i64 z) (.agg (dgC D)) (.string g) (.bool b)).run Tryz.prog W = .ok (.value (.agg (anC ⟨s, z, D, ByteArray.empty, g, b⟩))) W := by kernel_rfl
def kyB4 (x0 x1 x2 x4 : Value) : Sem Next := do pure (.value (← Instr.build 23 #[(0, x0), (1, x1), (2, x2), (4, x4)]))
theorem kyB4_x (ρ : Operand → Value) (dst : Option Tmp) (x0 x1 x2 x4 : Operand) (t : TypeId) (pos : String) (after : Array Edge) (guard : Option (Nat × Bool)) : execOp ρ { dst, op := .build 23 #[(0, x0), (1, x1), (2, x2), (4, x4)], type := t, pos, after, guard } = kyB4 (ρ x0) (ρ x1) (ρ x2) (ρ x4) := by kernel_rfl
theorem kyB4_run (p s u : Int) (z : ByteArray) (W : World) : (kyB4 (.int .i64 p) (.int .i64 s) (.string z) (.int .i64 u)).run Tryz.prog W = .ok (.value (.agg (kyC ⟨p, s, z, 0, u⟩))) W := by kernel_rfl
attribute [go_sem ↓] kyB4_x
attribute [go_sem] kyB4_run
def digB0 : Sem Next := do pure (.value (← Instr.build 25 #[]))
theorem digB0_x (ρ : Operand → Value) (dst : Option Tmp) (t : TypeId) (pos : String) (after : Array Edge) (guard : Option (Nat × Bool)) : execOp ρ { dst, op := .build 25 #[], type := t, pos, after, guard } = digB0 := by kernel_rfl
theorem digB0_run (W : World) : digB0.run Tryz.prog W = .ok (.value (.agg (dgC (zeros32 16)))) W := by kernel_rfl
attribute [go_sem ↓] digB0_x
attribute [go_sem] digB0_run
attribute [go_sem ↓] an_self ansBy_x
attribute [go_sem] ansBy_run
attribute [local go_sem] ver_f1 ver_f2 lost_s exA_b exB_b at9 at10 at25
theorem reads_freshAt {α : Type} {size : Nat} {enc : α → List Value} (E : EncTy enc size) (l : List α) (W : World) (cs : Array Value) (t : TypeId) (b : Nat) (hb : b = W.heap.size) (h : cs.toList = l.flatMap enc) : Reads size enc (W.alloc (.cells cs t)) (W.alloc (.cells cs t)).heap.size (some ⟨b, 0, none⟩) l := by
  subst hb
  exact reads_fresh E l W cs t h
def exF : Fau := ⟨15, 16, 2, 7⟩
theorem ex_fault : faultN [exF] 15 = exF := rfl
theorem ex_served : servedN exV (zeros32 16) 15 exF = [(22, ansOf exB (zeros32 16))] := by
  show giveN exV (zeros32 16) [] 22 = _
  unfold giveN
  rw [at22]
  rfl
theorem z16_byt : Byt (zeros32 16) := by unfold Byt; decide
set_option maxRecDepth 100000 in
set_option maxHeartbeats 2000000 in
theorem osanity_any (w : World) (hk : Konst 1 w)
    (hc : ∀ W, Ext w W → Calls Tryz.prog 108 #[.string ⟨#[97, 99, 109, 101, 47, 97]⟩] W fun e w' => e = .returned (.tuple #[.string ⟨#[97, 99, 109, 101, 47, 97]⟩, .int .i64 0]) ∧ Ext W w') :
    Calls Tryz.prog 10 #[] w fun e w' => e = .returned (.bool true) ∧ Ext w w' := by
  have HK := Lib.hid hk
  have HC := Lib.hid hc
  obtain ⟨DA, hDA⟩ : ∃ D, dgN exA.bytes = D := ⟨_, rfl⟩
  obtain ⟨DB, hDB⟩ : ∃ D, dgN exB.bytes = D := ⟨_, rfl⟩
  have HAB : Hid (DA ≠ DB) := Lib.hid (by rw [← hDA, ← hDB]; exact dgA_ne_dgB)
  have HBz : Hid (DB ≠ zeros32 16) := Lib.hid (by rw [← hDB]; exact dgB_ne_zero)
  have HAz : Hid (DA ≠ zeros32 16) := Lib.hid (by rw [← hDA]; exact dgA_ne_zero)
  have HdA := Lib.hid (fun (W : World) (hx : Ext w W) => odig_d exA.bytes DA W (RowAt.ext hk hx) (by decide) hDA)
  have HdB := Lib.hid (fun (W : World) (hx : Ext w W) => odig_d exB.bytes DB W (RowAt.ext hk hx) (by decide) hDB)
  have hfA : fitsRow 16 (dgC DA) = true := by simp [fitsRow, dgC, Value.oneCell']
  have hfB : fitsRow 16 (dgC DB) = true := by simp [fitsRow, dgC, Value.oneCell']
  have hz16 : ∀ {l : List Int}, (dgC l).size = (cells8 (zeros32 16)).size := by intro l; rw [cells8_size, zeros32_length]; rfl
  clear hk hc
  go_enter Tryz.func10, Tryz.ntmps10
  go_upto_region 2 with (go_at_call 39; refine (example_any _).mono ?_; rintro e w1 ⟨b, rfl, hrv, hx⟩; have HRV := Lib.hid hrv; have HX := Lib.hid hx; have hlb : b < w1.heap.size := (by obtain ⟨b', off, h1, h2, _⟩ := hrv (by decide); cases h1; exact h2); clear hrv hx)
  go_upto_region 3 with (first | (go_at_call 40; refine (HdA.out _ (HX.out)).mono ?_; rintro e w' ⟨rfl, hxl⟩; obtain ⟨xk, rfl⟩ := hxl.asLater; clear hxl) | (go_at_call 40; refine (HdB.out _ (HX.out.onto _)).mono ?_; rintro e w' ⟨rfl, hxl⟩; obtain ⟨xl, rfl⟩ := hxl.asLater; clear hxl))
  refine wp_world (fun W => Ext w W ∧ ReadsVer W W.heap.size (some ⟨b, 0, none⟩) exV ∧ RowAt W (w1.heap.size + (xk.comp xl).n) (dgC DA) ∧ RowAt W (w1.heap.size + (xk.comp xl).n + 1) (dgC DB)) ⟨?_, ?_, ?_, ?_⟩ ?_
  · exact ((((HX.out.onto _).alloc _).alloc _).setCells (by have := HX.out.size; omega) _ _).setCells (by have := HX.out.size; omega) _ _
  · exact HRV.out.on (((((ext_later _ _).alloc _).alloc _).setCells (by omega) _ _).setCells (by omega) _ _)
  · have h0 := RowAt.newAt (w := later w1 (xk.comp xl)) (cs := cells8 (zeros32 16)) (t := 25) (later_size _ _).symm
    exact RowAt.others (RowAt.store (ds := dgC DA) (h0.alloc _) hz16) (by omega) _ _
  · have h0 := RowAt.newAt (w := (later w1 (xk.comp xl)).alloc (.cells (cells8 (zeros32 16)) 25)) (cs := cells8 (zeros32 16)) (t := 25) (b := w1.heap.size + (xk.comp xl).n + 1) (by rw [World.size_alloc, later_size])
    exact RowAt.store (ds := dgC DB) (h0.others (by omega) _ _) hz16
  obtain ⟨n, hn⟩ : ∃ n, w1.heap.size + (xk.comp xl).n = n := ⟨_, rfl⟩
  have hbn : b < n := by omega
  rw [hn]
  clear hn HX HRV
  rintro W2 ⟨x2, hrv, ra, rb⟩
  have HX := Lib.hid x2
  have HRV := Lib.hid hrv
  have RA := Lib.hid ra
  have RB := Lib.hid rb
  have hlr := rb.lt
  clear x2 hrv ra rb
  have HVal := Lib.hid (fun (W : World) (hx : Ext W2 W) => (ovalid_any (some ⟨b, 0, none⟩) 2 exV W (by decide) (by intro v hv; simp only [exV, List.mem_cons, List.not_mem_nil, or_false] at hv; rcases hv with rfl | rfl <;> decide) (HRV.out.on hx)))
  rw [exValid] at HVal
  have HAt := Lib.hid (fun (t : Int) (W : World) (hx : Ext W2 W) => oat_any (some ⟨b, 0, none⟩) 2 exV t W (by decide) (HRV.out.on hx))
  go_upto_region 4 with (first | (go_at_call 41; refine (HVal.out _ (by (repeat (first | with_reducible exact Ext.refl _ | with_reducible exact Ext.refl _ | with_reducible refine Ext.drew ?_ | with_reducible refine Ext.drewN ?_ _ | with_reducible refine Ext.alloc ?_ _ | with_reducible refine Ext.onto ?_ _ | (with_reducible refine Ext.setCells ?_ ?_ _ _; rotate_left; focus (first | omega | (simp; done) | (simp; omega))) | (with_reducible refine Ext.setCell ?_ ?_ _; rotate_left; focus (first | omega | (simp; done) | (simp; omega))))))).mono ?_; rintro e w' ⟨rfl, hxl⟩; obtain ⟨xl, rfl⟩ := hxl.asLater; clear hxl) | (go_at_call 42; refine (HAt.out _ _ (by (repeat (first | with_reducible exact Ext.refl _ | with_reducible exact Ext.refl _ | with_reducible refine Ext.drew ?_ | with_reducible refine Ext.drewN ?_ _ | with_reducible refine Ext.alloc ?_ _ | with_reducible refine Ext.onto ?_ _ | (with_reducible refine Ext.setCells ?_ ?_ _ _; rotate_left; focus (first | omega | (simp; done) | (simp; omega))) | (with_reducible refine Ext.setCell ?_ ?_ _; rotate_left; focus (first | omega | (simp; done) | (simp; omega))))))).mono ?_; rintro e w' ⟨rfl, hxl⟩; obtain ⟨xl, rfl⟩ := hxl.asLater; clear hxl))
  clear HVal HAt HdA HdB
  refine wp_world (fun W => Ext W2 W) ((by (repeat (first | with_reducible exact Ext.refl _ | with_reducible exact Ext.refl _ | with_reducible refine Ext.drew ?_ | with_reducible refine Ext.drewN ?_ _ | with_reducible refine Ext.alloc ?_ _ | with_reducible refine Ext.onto ?_ _ | (with_reducible refine Ext.setCells ?_ ?_ _ _; rotate_left; focus (first | omega | (simp; done) | (simp; omega))) | (with_reducible refine Ext.setCell ?_ ?_ _; rotate_left; focus (first | omega | (simp; done) | (simp; omega))))))) ?_
  rintro W3 x3
  have HX3 := Lib.hid x3
  have hl3 := x3.size
  have k2 : rowOf W3 n 0 16 = some (dgC DA) := (RA.out.ext x3).all rfl (by omega)
  clear x3
  have hlA : DA.length = 16 := by rw [← hDA]; exact dgN_len _
  have hlB : DB.length = 16 := by rw [← hDB]; exact dgN_len _
  have hbA : Byt DA := by rw [← hDA]; exact dgN_byt _
  have hbB : Byt DB := by rw [← hDB]; exact dgN_byt _
  obtain ⟨an, han⟩ : ∃ a : An, a = ⟨200, 3, DA, ByteArray.empty, ⟨#[120]⟩, true⟩ := ⟨_, rfl⟩
  have HAns : Hid (∀ (W : World) (hx : Ext W2 W), Calls Tryz.prog 43 #[.slice (some ⟨b, 0, none⟩) exV.length 2, .int .i64 15, .agg (dgC DA)] W fun e w' => e = .returned (.agg (anC an)) ∧ Ext W w') := Lib.hid (fun W hx => by
    have h := oanswer_any (some ⟨b, 0, none⟩) 2 exV 15 DA W (by decide) (HRV.out.on hx) hlA hbA (exIn 15) (HK.out.ext (HX.out.trans hx))
    have e : ansOf (atN exV 15) DA = an := by
      rw [at15, han]
      unfold ansOf
      rw [if_pos hDA, hDA]
      rfl
    rw [e] at h
    exact h)
  have hfan := an_fits an
  go_upto_region 5 with (go_at_call 43; refine (HAns.out _ HX3.out).mono ?_; rintro e w' ⟨rfl, hxl⟩; obtain ⟨xl, rfl⟩ := hxl.asLater; clear hxl)
  refine wp_world (fun W => Ext W2 W ∧ RowAt W (W3.heap.size + xl.n) (anC an)) ⟨(HX3.out.onto _ |>.alloc _).setCells (by omega) _ _, ?_⟩ ?_
  · have h0 := RowAt.newAt (w := later W3 xl) (cs := anC noAn) (t := 27) (later_size _ _).symm
    rw [han]
    exact RowAt.store h0 rfl
  obtain ⟨b5, hb5⟩ : ∃ n, W3.heap.size + xl.n = n := ⟨_, rfl⟩
  have hn5 : n + 1 < b5 := by omega
  rw [hb5]
  clear hb5 HX3 k2
  rintro W4 ⟨x4, r4⟩
  have HX4 := Lib.hid x4
  have k5 : rowOf W4 b5 0 21 = some (anC an) := r4.all rfl (by omega)
  have hl4 := r4.lt
  have k2 : rowOf W4 n 0 16 = some (dgC DA) := (RA.out.ext x4).all rfl (by omega)
  have k3 : rowOf W4 (n + 1) 0 16 = some (dgC DB) := (RB.out.ext x4).all rfl (by omega)
  clear x4 r4
  go_upto_region 6 with (fail)
  have HPt := Lib.hid (fun (D : List Int) (W : World) (hx : Ext W2 W) (h16 : D.length = 16) (hby : Byt D) => opart_any (some ⟨b, 0, none⟩) 2 exV 25 D 1 3 W (by decide) (HRV.out.on hx) h16 hby (exIn 25) (HK.out.ext (HX.out.trans hx)))
  have hE1 : partE exB DA 1 3 = 341 := by unfold partE; rw [hDB]; exact if_neg (HAB.out.symm)
  have hS1 : partS exB DA 1 3 = ⟨#[]⟩ := by unfold partS; rw [hE1]; rfl
  have hE2 : partE exB DB 1 3 = 0 := by unfold partE; rw [hDB, if_pos rfl]; decide
  have hS2 : partS exB DB 1 3 = ⟨#[98, 100]⟩ := by unfold partS; rw [hE2]; decide
  have H16 := Lib.hid (And.intro hlA hbA)
  have H16' := Lib.hid (And.intro hlB hbB)
  go_upto_region 7 with (go_at_call 44; refine (HPt.out DA _ (HX4.out) H16.out.1 H16.out.2).mono ?_; rintro e w' ⟨rfl, hxl⟩; obtain ⟨xk, rfl⟩ := hxl.asLater; clear hxl)
  go_upto_region 8 with (go_at_call 44; refine (HPt.out DB _ (HX4.out.onto _) H16'.out.1 H16'.out.2).mono ?_; rintro e w' ⟨rfl, hxl⟩; obtain ⟨xj, rfl⟩ := hxl.asLater; clear hxl)
  clear HPt hE1 hS1 hE2 hS2
  obtain ⟨gv, hgv⟩ : ∃ g : Giv, (22, ansOf exB (zeros32 16)) = g := ⟨_, rfl⟩
  have hgb : gv.2.bytes = ⟨#[97, 98, 100]⟩ := by
    rw [← hgv]
    show (ansOf exB (zeros32 16)).bytes = _
    unfold ansOf
    rw [if_neg dgB_ne_zero]
    rfl
  have hg1 : gv.1 = 22 := by rw [← hgv]
  have HSv := Lib.hid (fun (A : Option Addr) (W : World) (hx : Ext W2 W) (hf : ReadsFau W W.heap.size A [exF]) => oserve_any (some ⟨b, 0, none⟩) A 2 1 exV [exF] 15 (zeros32 16) W (by decide) (by decide) (HRV.out.on hx) hf (by decide) z16_byt exIn (by rw [ex_fault]; constructor <;> decide) (by rw [ex_fault]; decide) (HK.out.ext (HX.out.trans hx)))
  rw [ex_fault, ex_served, hgv] at HSv
  have hsv : servE [gv] = 0 := if_neg (by simp)
  rw [hsv] at HSv
  clear hgv
  go_upto_region 9 with (go_at_call 45; refine (HSv.out (some ⟨W4.heap.size + (xk.comp xj).n, 0, none⟩) _ (((HX4.out.onto _).alloc _)) (reads_freshAt fauE [exF] _ _ _ _ (later_size _ _).symm rfl)).mono ?_; rintro e w8 ⟨A8, c8, rfl, hr8, hx8⟩; have HR8 := Lib.hid hr8; have HX8 := Lib.hid hx8; clear hr8 hx8)
  clear HSv
  have hx28 : Ext W2 w8 := ((HX4.out.onto _).alloc _).trans HX8.out
  have HX28 := Lib.hid hx28
  obtain ⟨b8, o8, rfl, hb8, hc8⟩ := HR8.out (by simp)
  have d0 : w8.cell? ⟨b8, o8, none⟩ = some (.int .i64 22) := by
    have h := hc8 0 (by simp) 0 (.int .i64 gv.1) rfl
    rw [hg1] at h
    simpa using h
  have d19 : w8.cell? ⟨b8, o8 + 1 + 18, none⟩ = some (.string ⟨#[97, 98, 100]⟩) := by
    have h := hc8 0 (by simp) 19 (.string gv.2.bytes) rfl
    rw [hgb] at h
    simpa [Nat.add_assoc] using h
  have d19' : w8.cell? ⟨b8, o8 + 19, none⟩ = some (.string ⟨#[97, 98, 100]⟩) := d19
  clear hc8 HR8 hx28
  go_upto_region 10 with (fail)
  go_upto_region 11 with (fail)
  clear d0 d19 d19' hb8 hgb hg1
  obtain ⟨b14, hb14⟩ : ∃ n, w8.heap.size = n := ⟨_, rfl⟩
  refine wp_world (fun W => Ext W2 W ∧ RowAt W w8.heap.size (kyC exK)) ⟨((HX28.out.alloc _).setCells (by have := HX28.out.size; omega) _ _), RowAt.store (RowAt.new _ _ _) rfl⟩ ?_
  rw [hb14]
  clear hb14
  rintro W9 ⟨x9, u9⟩
  have HX9 := Lib.hid x9
  have k9 : rowOf W9 b14 0 5 = some (kyC exK) := u9.all rfl (by omega)
  have hl9 := u9.lt
  have hsx9 := x9.size
  clear x9 u9
  have HAz : Hid (∀ (W : World) (hx : Ext W2 W), Calls Tryz.prog 43 #[.slice (some ⟨b, 0, none⟩) exV.length 2, .int .i64 15, .agg (dgC (zeros32 16))] W fun e w' => e = .returned (.agg (anC exAn)) ∧ Ext W w') := Lib.hid (fun W hx => by
    have h := oanswer_any (some ⟨b, 0, none⟩) 2 exV 15 (zeros32 16) W (by decide) (HRV.out.on hx) (by decide) z16_byt (exIn 15) (HK.out.ext (HX.out.trans hx))
    rw [ex_ans] at h
    exact h)
  have HSt : Hid (∀ (W : World) (hx : Ext W2 W), Calls Tryz.prog 11 #[.agg (kyC exK), .string acmeA, .string ByteArray.empty, .agg (anC exAn), .agg (clkC ⟨15, 16⟩), .agg (clkC ⟨20, 30⟩)] W fun e w' => e = .returned (.tuple #[.agg (stmC exS), .int .i64 0]) ∧ Ext W w') := Lib.hid (fun W hx => by
    have h := ostamp_any exK acmeA ByteArray.empty exAn ⟨15, 16⟩ ⟨20, 30⟩ acmeA 0 W (dgN_len _) (dgN_byt _) (by decide) (by decide) (fun _ => ⟨ex_ints, ex_lens, by decide⟩) (HK.out.ext (HX.out.trans hx)) (fun W' hx' => HC.out W' (HX.out.trans (hx.trans hx')))
    rw [ex_stamp] at h
    exact h)
  refine wp_region_rowN 13 (by kernel_rfl) 10 11 (fun i => ([.agg (kyC exK), .slice (some ⟨b, 0, none⟩) exV.length 2, .agg (dgC (zeros32 16)), .agg (anC exAn), .agg (clkC ⟨15, 16⟩), .agg (clkC ⟨20, 30⟩), .tuple #[.agg (stmC exS), .int .i64 0], .tuple #[.agg (stmC exS), .int .i64 0], .agg (stmC exS), .int .i64 0, undef, undef, .int .i64 0] : List Value).getD i undef) (stmC exS) (by kernel_rfl) (by kernel_rfl) (by decide) (of_decide_eq_true (by kernel_rfl)) (of_decide_eq_true (by kernel_rfl)) (of_decide_eq_true (by kernel_rfl)) (lt_cons ?_ (lt_cons ?_ (lt_cons ?_ (lt_cons ?_ (lt_cons ?_ (lt_cons ?_ (lt_cons ?_ (lt_cons ?_ (lt_cons ?_ (lt_cons ?_ (lt_cons ?_ (lt_cons ?_ (lt_cons ?_ lt_none))))))))))))) ?_ ?_ ?_
  ·
    intro _ _
    intro o ho xs W hW hd Q' hQ; obtain rfl := Option.some.inj ho; clear ho; simp only [fillAt, dstOf, List.getElem?_cons_zero, List.getElem?_cons_succ, Option.bind_some, Act.put, List.setIfInBounds_toArray, List.set_cons_zero, List.set_cons_succ, Nat.zero_add, Nat.reduceAdd] at hQ ⊢; have HQ := Lib.hid hQ; have HD := Lib.hid hd; have HW := Lib.hid hW; have hsW := hW.size; clear hQ hd hW
    have hc := (row_extW HW.out (b := b14) (by omega) 0 5).trans k9
    go_wp2
    exact HQ.out _ _ (Ext.refl _) rfl
  ·
    intro _ _
    intro o ho xs W hW hd Q' hQ; obtain rfl := Option.some.inj ho; clear ho; simp only [fillAt, dstOf, List.getElem?_cons_zero, List.getElem?_cons_succ, Option.bind_some, Act.put, List.setIfInBounds_toArray, List.set_cons_zero, List.set_cons_succ, Nat.zero_add, Nat.reduceAdd] at hQ ⊢; have HQ := Lib.hid hQ; have HD := Lib.hid hd; have HW := Lib.hid hW; have hsW := hW.size; clear hQ hd hW
    go_wp2
    exact HQ.out _ _ (Ext.refl _) rfl
  ·
    intro _ _
    intro o ho xs W hW hd Q' hQ; obtain rfl := Option.some.inj ho; clear ho; simp only [fillAt, dstOf, List.getElem?_cons_zero, List.getElem?_cons_succ, Option.bind_some, Act.put, List.setIfInBounds_toArray, List.set_cons_zero, List.set_cons_succ, Nat.zero_add, Nat.reduceAdd] at hQ ⊢; have HQ := Lib.hid hQ; have HD := Lib.hid hd; have HW := Lib.hid hW; have hsW := hW.size; clear hQ hd hW
    go_wp2
    exact HQ.out _ _ (Ext.refl _) rfl
  ·
    intro _ _
    intro o ho xs W hW hd Q' hQ; obtain rfl := Option.some.inj ho; clear ho; simp only [fillAt, dstOf, List.getElem?_cons_zero, List.getElem?_cons_succ, Option.bind_some, Act.put, List.setIfInBounds_toArray, List.set_cons_zero, List.set_cons_succ, Nat.zero_add, Nat.reduceAdd] at hQ ⊢; have HQ := Lib.hid hQ; have HD := Lib.hid hd; have HW := Lib.hid hW; have hsW := hW.size; clear hQ hd hW
    have hd1 : xs 1 = .slice (some ⟨b, 0, none⟩) exV.length 2 := (HD.out 1 (of_decide_eq_true (by kernel_rfl)))
    generalize xs 1 = x1 at hd1 HQ ⊢; subst hd1
    have hd2 : xs 2 = .agg (dgC (zeros32 16)) := (HD.out 2 (of_decide_eq_true (by kernel_rfl)))
    generalize xs 2 = x2 at hd2 HQ ⊢; subst hd2
    go_wp2_with (go_at_call 43; refine (HAz.out _ (HX9.out.trans HW.out)).mono ?_; rintro e w1 ⟨rfl, hx⟩)
    exact HQ.out _ _ hx rfl
  ·
    intro _ _
    intro o ho xs W hW hd Q' hQ; obtain rfl := Option.some.inj ho; clear ho; simp only [fillAt, dstOf, List.getElem?_cons_zero, List.getElem?_cons_succ, Option.bind_some, Act.put, List.setIfInBounds_toArray, List.set_cons_zero, List.set_cons_succ, Nat.zero_add, Nat.reduceAdd] at hQ ⊢; have HQ := Lib.hid hQ; have HD := Lib.hid hd; have HW := Lib.hid hW; have hsW := hW.size; clear hQ hd hW
    go_wp2
    exact HQ.out _ _ (Ext.refl _) rfl
  ·
    intro _ _
    intro o ho xs W hW hd Q' hQ; obtain rfl := Option.some.inj ho; clear ho; simp only [fillAt, dstOf, List.getElem?_cons_zero, List.getElem?_cons_succ, Option.bind_some, Act.put, List.setIfInBounds_toArray, List.set_cons_zero, List.set_cons_succ, Nat.zero_add, Nat.reduceAdd] at hQ ⊢; have HQ := Lib.hid hQ; have HD := Lib.hid hd; have HW := Lib.hid hW; have hsW := hW.size; clear hQ hd hW
    go_wp2
    exact HQ.out _ _ (Ext.refl _) rfl
  ·
    intro _ _
    intro o ho xs W hW hd Q' hQ; obtain rfl := Option.some.inj ho; clear ho; simp only [fillAt, dstOf, List.getElem?_cons_zero, List.getElem?_cons_succ, Option.bind_some, Act.put, List.setIfInBounds_toArray, List.set_cons_zero, List.set_cons_succ, Nat.zero_add, Nat.reduceAdd] at hQ ⊢; have HQ := Lib.hid hQ; have HD := Lib.hid hd; have HW := Lib.hid hW; have hsW := hW.size; clear hQ hd hW
    have hd0 : xs 0 = .agg (kyC exK) := (HD.out 0 (of_decide_eq_true (by kernel_rfl)))
    generalize xs 0 = x0 at hd0 HQ ⊢; subst hd0
    have hd3 : xs 3 = .agg (anC exAn) := (HD.out 3 (of_decide_eq_true (by kernel_rfl)))
    generalize xs 3 = x3 at hd3 HQ ⊢; subst hd3
    have hd4 : xs 4 = .agg (clkC ⟨15, 16⟩) := (HD.out 4 (of_decide_eq_true (by kernel_rfl)))
    generalize xs 4 = x4 at hd4 HQ ⊢; subst hd4
    have hd5 : xs 5 = .agg (clkC ⟨20, 30⟩) := (HD.out 5 (of_decide_eq_true (by kernel_rfl)))
    generalize xs 5 = x5 at hd5 HQ ⊢; subst hd5
    go_wp2_with (go_at_call 11; refine (HSt.out _ (HX9.out.trans HW.out)).mono ?_; rintro e w1 ⟨rfl, hx⟩)
    exact HQ.out _ _ hx rfl
  ·
    intro _ _
    intro o ho xs W hW hd Q' hQ; obtain rfl := Option.some.inj ho; clear ho; simp only [fillAt, dstOf, List.getElem?_cons_zero, List.getElem?_cons_succ, Option.bind_some, Act.put, List.setIfInBounds_toArray, List.set_cons_zero, List.set_cons_succ, Nat.zero_add, Nat.reduceAdd] at hQ ⊢; have HQ := Lib.hid hQ; have HD := Lib.hid hd; have HW := Lib.hid hW; have hsW := hW.size; clear hQ hd hW
    have hd6 : xs 6 = (.tuple #[.agg (stmC exS), .int .i64 0]) := (HD.out 6 (of_decide_eq_true (by kernel_rfl)))
    generalize xs 6 = x6 at hd6 HQ ⊢; subst hd6
    go_wp2
    exact HQ.out _ _ (Ext.refl _) rfl
  ·
    intro _ _
    intro o ho xs W hW hd Q' hQ; obtain rfl := Option.some.inj ho; clear ho; simp only [fillAt, dstOf, List.getElem?_cons_zero, List.getElem?_cons_succ, Option.bind_some, Act.put, List.setIfInBounds_toArray, List.set_cons_zero, List.set_cons_succ, Nat.zero_add, Nat.reduceAdd] at hQ ⊢; have HQ := Lib.hid hQ; have HD := Lib.hid hd; have HW := Lib.hid hW; have hsW := hW.size; clear hQ hd hW
    have hd7 : xs 7 = (.tuple #[.agg (stmC exS), .int .i64 0]) := (HD.out 7 (of_decide_eq_true (by kernel_rfl)))
    generalize xs 7 = x7 at hd7 HQ ⊢; subst hd7
    go_wp2
    exact HQ.out _ _ (Ext.refl _) rfl
  ·
    intro _ _
    intro o ho xs W hW hd Q' hQ; obtain rfl := Option.some.inj ho; clear ho; simp only [fillAt, dstOf, List.getElem?_cons_zero, List.getElem?_cons_succ, Option.bind_some, Act.put, List.setIfInBounds_toArray, List.set_cons_zero, List.set_cons_succ, Nat.zero_add, Nat.reduceAdd] at hQ ⊢; have HQ := Lib.hid hQ; have HD := Lib.hid hd; have HW := Lib.hid hW; have hsW := hW.size; clear hQ hd hW
    have hd7 : xs 7 = (.tuple #[.agg (stmC exS), .int .i64 0]) := (HD.out 7 (of_decide_eq_true (by kernel_rfl)))
    generalize xs 7 = x7 at hd7 HQ ⊢; subst hd7
    go_wp2
    exact HQ.out _ _ (Ext.refl _) rfl
  · exact fun h => absurd rfl h
  · exact fun _ h => absurd rfl h
  ·
    intro _ _
    intro o ho xs W hW hd Q' hQ; obtain rfl := Option.some.inj ho; clear ho; simp only [fillAt, dstOf, List.getElem?_cons_zero, List.getElem?_cons_succ, Option.bind_some, Act.put, List.setIfInBounds_toArray, List.set_cons_zero, List.set_cons_succ, Nat.zero_add, Nat.reduceAdd] at hQ ⊢; have HQ := Lib.hid hQ; have HD := Lib.hid hd; have HW := Lib.hid hW; have hsW := hW.size; clear hQ hd hW
    have hd9 : xs 9 = .int .i64 0 := (HD.out 9 (of_decide_eq_true (by kernel_rfl)))
    generalize xs 9 = x9 at hd9 HQ ⊢; subst hd9
    go_wp2
    exact HQ.out _ _ (Ext.refl _) rfl
  ·
    intro o ho xs W hW hd Q' hQ; obtain rfl := Option.some.inj ho; clear ho; simp only [fillAt, dstOf, List.getElem?_cons_zero, List.getElem?_cons_succ, Option.bind_some, Act.put, List.setIfInBounds_toArray, List.set_cons_zero, List.set_cons_succ, Nat.zero_add, Nat.reduceAdd] at hQ ⊢; have HQ := Lib.hid hQ; have HD := Lib.hid hd; have HW := Lib.hid hW; have hsW := hW.size; clear hQ hd hW
    go_wp2
    exact HQ.out _ _ ((Ext.refl _).alloc _) ⟨W.heap.size, rfl, by omega, _, RowAt.new _ _ _, rfl⟩
  ·
    intro o ho xs W hW hd Q' hQ; obtain rfl := Option.some.inj ho; clear ho; simp only [fillAt, dstOf, List.getElem?_cons_zero, List.getElem?_cons_succ, Option.bind_some, Act.put, List.setIfInBounds_toArray, List.set_cons_zero, List.set_cons_succ, Nat.zero_add, Nat.reduceAdd] at hQ ⊢; have HQ := Lib.hid hQ; have HD := Lib.hid hd; have HW := Lib.hid hW; have hsW := hW.size; clear hQ hd hW
    have hd8 : xs 8 = .agg (stmC exS) := (HD.out 8 (of_decide_eq_true (by kernel_rfl)))
    obtain ⟨b15, h10, hb15, ds, hr15, hz15⟩ : ∃ b, xs 10 = .pointer (some ⟨b, 0, none⟩) ∧ W9.heap.size ≤ b ∧ ∃ ds, RowAt W b ds ∧ ds.size = (stmC exS).size := (HD.out 10 (of_decide_eq_true (by kernel_rfl)))
    have hrm : roomOf W b15 0 41 = true := by rw [hr15.room, hz15]; rfl
    have hft := stm_fits exS
    generalize xs 8 = x8 at hd8 HQ ⊢; subst hd8
    generalize xs 10 = x10 at h10 HQ ⊢; subst h10
    clear hr15 hz15
    go_wp2
    exact HQ.out undef b15 rfl
  intro xs W10 b15 hx10 h10 hb15 hr15 hvs
  have h12 : xs 12 = .int .i64 0 := hvs 12 (of_decide_eq_true (by kernel_rfl)) (by decide) (by decide)
  simp only [fillAt, dstOf, List.getElem?_cons_zero, List.getElem?_cons_succ, Option.bind_some, Act.put, List.setIfInBounds_toArray, List.set_cons_zero, List.set_cons_succ, Nat.zero_add, Nat.reduceAdd]
  generalize xs 12 = x12 at *; subst h12
  generalize xs 10 = x10 at *; subst h10
  have HX10 := Lib.hid (HX9.out.trans hx10)
  have HR15 := Lib.hid hr15
  have hl15 := hr15.lt
  clear hx10 hr15 hvs HAz HSt k9
  have k15 : rowOf W10 b15 0 41 = some (stmC exS) := HR15.out.all rfl (by omega)
  have hft := stm_fits exS
  have e21 : (stmC exS).setIfInBounds 21 (.int .i64 20) = stmC { exS with lo := 20 } := by kernel_rfl
  go_upto_region 14 with (fail)
  refine wp_world (fun W => Ext W2 W ∧ RowAt W b15 (stmC exS) ∧ RowAt W W10.heap.size (stmC { exS with lo := 20 })) ⟨?_, ?_, ?_⟩ ?_
  · exact (((HX10.out.alloc _).setCells (by have := HX10.out.size; omega) _ _).setCell (by have := HX10.out.size; show _ ≤ W10.heap.size; omega) _)
  · exact ((HR15.out.alloc _).others (by omega) _ _).other (by show b15 ≠ W10.heap.size; omega) _
  · have h := (((RowAt.new W10 (stmC noSt) 32).store (ds := stmC exS) rfl).set 21 (.int .i64 20))
    rw [e21] at h
    exact h
  obtain ⟨b17, hb17⟩ : ∃ n, W10.heap.size = n := ⟨_, rfl⟩
  rw [hb17]
  clear e21 k15 hft
  rintro W11 ⟨x11, u15, u17⟩
  have HX11 := Lib.hid x11
  have k21 : W11.cell? ⟨b15, 21, none⟩ = some (.int .i64 15) := u15.cell 21
  have k22 : W11.cell? ⟨b15, 22, none⟩ = some (.int .i64 30) := u15.cell 22
  have k23 : W11.cell? ⟨b15, 23, none⟩ = some (.int .i64 7) := u15.cell 23
  have k15 : rowOf W11 b15 0 41 = some (stmC exS) := u15.all rfl (by omega)
  have k17 : rowOf W11 b17 0 41 = some (stmC { exS with lo := 20 }) := u17.all rfl (by omega)
  have hl15' := u15.lt
  have hl17 := u17.lt
  clear x11 u15 u17
  have P1 : Hid (exS.lo ≤ exS.hi ∧ exS.body.length = 16 ∧ Byt exS.body) := Lib.hid ⟨by decide, dgN_len _, dgN_byt _⟩
  have P2 : Hid (({ exS with lo := 20 } : St).lo ≤ ({ exS with lo := 20 } : St).hi ∧ ({ exS with lo := 20 } : St).body.length = 16 ∧ Byt ({ exS with lo := 20 } : St).body) := Lib.hid ⟨by decide, dgN_len _, dgN_byt _⟩
  have tr1 : (meanN exV exS.lo exS.hi).any (saysB exS) = true := true_1
  have tr2 : (meanN exV ({ exS with lo := 20 } : St).lo ({ exS with lo := 20 } : St).hi).any (saysB { exS with lo := 20 }) = false := true_2
  generalize hS2 : ({ exS with lo := 20 } : St) = S2 at *
  clear hS2
  generalize exS = S1 at *
  have HTr := Lib.hid (fun (s : St) (W : World) (hx : Ext W2 W) (h : Hid (s.lo ≤ s.hi ∧ s.body.length = 16 ∧ Byt s.body)) => otrue_any (some ⟨b, 0, none⟩) 2 exV s W (by decide) (by decide) (by decide) (fun h => by cases h) (HRV.out.on hx) (fun a h => by cases h; rfl) (by intro v hv; simp only [exV, List.mem_cons, List.not_mem_nil, or_false] at hv; rcases hv with rfl | rfl <;> (show (_ : Nat) ≤ _; decide)) h.out.1 h.out.2.1 h.out.2.2 (HK.out.ext (HX.out.trans hx)))
  go_wp2_with (go_at_call 46; refine (HTr.out _ _ ((by (repeat (first | with_reducible exact HX11.out | with_reducible exact Ext.refl _ | with_reducible refine Ext.drew ?_ | with_reducible refine Ext.drewN ?_ _ | with_reducible refine Ext.alloc ?_ _ | with_reducible refine Ext.onto ?_ _ | (with_reducible refine Ext.setCells ?_ ?_ _ _; rotate_left; focus (first | omega | (simp; done) | (simp; omega))) | (with_reducible refine Ext.setCell ?_ ?_ _; rotate_left; focus (first | omega | (simp; done) | (simp; omega))))))) (by first | exact P1 | exact P2)).mono ?_; rintro e w' ⟨rfl, hxl⟩; obtain ⟨xl, rfl⟩ := hxl.asLater; clear hxl)
  go_ret
  exact ⟨rfl, HX.out.trans (HX11.out.onto _)⟩
end Go.Proofs.YtpfhmcdcmepfdaaGreatDoor


set_option linter.unusedVariables false
set_option linter.unusedSimpArgs false
namespace Go.Proofs.YtpfhmcdcmepfdaaGreatDoor
open Go.RowKit Go.Shelf
open Go.Proofs

theorem sanity34 (w : World) (hk : Konst 1 w) : Calls Tryz.prog 10 #[] w fun e w' => e = .returned (.bool true) ∧ Ext w w' := osanity_any w hk (fun W _ => canon_acme W)
def smallV (v : Ver) : Bool := decide (v.bytes.size ≤ 100) && decide (v.tags.size ≤ 100)
def fewB (l : List Ver) (n : Int) : Bool := l.all smallV && decide ((l.length : Int) ≤ n)
theorem few_is {l : List Ver} {n : Int} (h : fewB l n = true) : (∀ v ∈ l, v.bytes.size ≤ 100 ∧ v.tags.size ≤ 100) ∧ (l.length : Int) ≤ n := by
  simp only [fewB, Bool.and_eq_true, decide_eq_true_eq, List.all_eq_true] at h
  refine ⟨fun v hv => ?_, h.2⟩
  have := h.1 v hv
  simpa [smallV] using this
theorem all_snocV {l : List Ver} {k : Nat} (h : k < l.length) (h0 : (l.take k).all smallV = true) (h1 : smallV l[k] = true) : (l.take (k + 1)).all smallV = true := by
  rw [List.take_succ_eq_append_getElem h, List.all_append, h0]
  simpa using h1
end Go.Proofs.YtpfhmcdcmepfdaaGreatDoor


set_option linter.unusedVariables false
set_option linter.unusedSimpArgs false
namespace Go.Proofs.YtpfhmcdcmepfdaaGreatDoor
open Go.RowKit Go.Shelf
open Go.Proofs

theorem per_is {lo hi : Int} (h : perB lo hi = true) : 0 ≤ lo ∧ lo ≤ hi ∧ hi ≤ 1099511627776 := by
  simp only [perB, instB, Bool.and_eq_true, decide_eq_true_eq] at h
  omega
def wideS (s : St) (b : Int) : St := { s with lo := max 0 (s.lo - b), hi := min 1099511627776 (s.hi + b) }
theorem wide_says (s : St) (b : Int) (v : Ver) : saysB (wideS s b) v = saysB s v := rfl
theorem rtrue_is (l : List Ver) (s : St) (h : ValidV listedB l) : (saysB s (lastAt l s.lo l.length) || l.any (inMean s)) = trueB l s := by
  rw [lastAt_is h.1]
  rfl
theorem stm_set21 (s : St) (v : Int) : (stmC s).setIfInBounds 21 (.int .i64 v) = stmC { s with lo := v } := by kernel_rfl
theorem stm_set22 (s : St) (v : Int) : (stmC s).setIfInBounds 22 (.int .i64 v) = stmC { s with hi := v } := by kernel_rfl
end Go.Proofs.YtpfhmcdcmepfdaaGreatDoor


set_option linter.unusedVariables false
set_option linter.unusedSimpArgs false
namespace Go.Proofs.YtpfhmcdcmepfdaaGreatDoor
open Go.RowKit Go.Shelf
open Go.Proofs

theorem per_clk (k : Clk) : perB k.lo k.hi = okClk k := by
  rw [Bool.eq_iff_iff]
  simp only [perB, instB, okClk, Bool.and_eq_true, decide_eq_true_eq]
  omega
set_option maxRecDepth 100000 in
set_option maxHeartbeats 2000000 in
theorem rfit_any (k : Ky) (n v : Clk) (w : World) (hs : k.secret.size < 9223372036854775808) : Calls Tryz.prog 51 #[.agg (kyC k), .agg (clkC n), .agg (clkC v)] w fun e w' => e = .returned (.bool (okKy k && okClk n && okClk v)) ∧ Ext w w' := by
  have HK := Lib.hid (fun W => rkvalid_any k W hs)
  have HV : Hid (∀ (lo hi : Int) (W : World), Calls Tryz.prog 34 #[.agg #[.int .i64 lo, .int .i64 hi]] W fun e w' => e = .returned (.bool (okClk ⟨lo, hi⟩)) ∧ Ext W w') := Lib.hid (fun lo hi W => by
    have h := rper_any lo hi W
    rwa [show perB lo hi = okClk ⟨lo, hi⟩ from per_clk ⟨lo, hi⟩] at h)
  have hft := ky_fits k
  obtain ⟨n0, n1⟩ := n
  obtain ⟨v0, v1⟩ := v
  generalize okKy k = a at *
  go_enter Tryz.func51, Tryz.ntmps51
  go_upto_region 1 with (fail)
  refine wp_world (fun W => Ext w W ∧ RowAt W w.heap.size (kyC k) ∧ RowAt W (w.heap.size + 1) #[.int .i64 n0, .int .i64 n1] ∧ RowAt W (w.heap.size + 1 + 1) #[.int .i64 v0, .int .i64 v1]) ⟨(by (repeat (first | with_reducible exact Ext.refl _ | with_reducible exact Ext.refl _ | with_reducible refine Ext.drew ?_ | with_reducible refine Ext.drewN ?_ _ | with_reducible refine Ext.alloc ?_ _ | with_reducible refine Ext.onto ?_ _ | (with_reducible refine Ext.setCells ?_ ?_ _ _; rotate_left; focus (first | omega | (simp; done) | (simp; omega))) | (with_reducible refine Ext.setCell ?_ ?_ _; rotate_left; focus (first | omega | (simp; done) | (simp; omega)))))), ((RowAt.new _ _ _).alloc _).alloc _, (RowAt.newAt (by simp)).alloc _, RowAt.newAt (by simp)⟩ ?_
  rintro W1 ⟨x1, r1, r2, r3⟩
  have HX1 := Lib.hid x1
  have k1 : rowOf W1 w.heap.size 0 5 = some (kyC k) := r1.all rfl (by omega)
  have c0 : W1.cell? ⟨w.heap.size + 1, 0, none⟩ = some (.int .i64 n0) := r2.cell 0
  have c1 : W1.cell? ⟨w.heap.size + 1, 1, none⟩ = some (.int .i64 n1) := r2.cell 1
  have d0 : W1.cell? ⟨w.heap.size + 1 + 1, 0, none⟩ = some (.int .i64 v0) := r3.cell 0
  have d1 : W1.cell? ⟨w.heap.size + 1 + 1, 1, none⟩ = some (.int .i64 v1) := r3.cell 1
  have hl1 := r3.lt
  clear x1 r1 r2 r3
  cases a with
  | false =>
    go_wp2_with (go_at_call 62; refine (HK.out _).mono ?_; rintro e w' ⟨rfl, hxl⟩; obtain ⟨xn, rfl⟩ := hxl.asLater; clear hxl)
    go_ret
    exact ⟨ret_bool (by simp), (by (repeat (first | with_reducible exact HX1.out | with_reducible exact Ext.refl _ | with_reducible refine Ext.drew ?_ | with_reducible refine Ext.drewN ?_ _ | with_reducible refine Ext.alloc ?_ _ | with_reducible refine Ext.onto ?_ _ | (with_reducible refine Ext.setCells ?_ ?_ _ _; rotate_left; focus (first | omega | (simp; done) | (simp; omega))) | (with_reducible refine Ext.setCell ?_ ?_ _; rotate_left; focus (first | omega | (simp; done) | (simp; omega))))))⟩
  | true =>
    obtain ⟨bb, hbb⟩ : ∃ bb, okClk ⟨n0, n1⟩ = bb := ⟨_, rfl⟩
    obtain ⟨cc, hcc⟩ : ∃ cc, okClk ⟨v0, v1⟩ = cc := ⟨_, rfl⟩
    have HB1 := Lib.hid hbb
    have HC1 := Lib.hid hcc
    have HBC : Hid ((okClk ⟨n0, n1⟩ && okClk ⟨v0, v1⟩) = (bb && cc)) := Lib.hid (by rw [hbb, hcc])
    clear hbb hcc
    cases bb with
    | false =>
      go_wp2_with (first
        | (go_at_call 62; refine (HK.out _).mono ?_; rintro e w' ⟨rfl, hxl⟩; obtain ⟨xn, rfl⟩ := hxl.asLater; clear hxl)
        | (go_at_call 34; refine (HV.out _ _ _).mono ?_; rintro e w' ⟨rfl, hxl⟩; rw [HB1.out]; obtain ⟨xo, rfl⟩ := hxl.asLater; clear hxl))
      go_ret
      exact ⟨ret_bool (by rw [Bool.true_and, HBC.out]; rfl), (by (repeat (first | with_reducible exact HX1.out | with_reducible exact Ext.refl _ | with_reducible refine Ext.drew ?_ | with_reducible refine Ext.drewN ?_ _ | with_reducible refine Ext.alloc ?_ _ | with_reducible refine Ext.onto ?_ _ | (with_reducible refine Ext.setCells ?_ ?_ _ _; rotate_left; focus (first | omega | (simp; done) | (simp; omega))) | (with_reducible refine Ext.setCell ?_ ?_ _; rotate_left; focus (first | omega | (simp; done) | (simp; omega))))))⟩
    | true =>
      go_wp2_with (first
        | (go_at_call 62; refine (HK.out _).mono ?_; rintro e w' ⟨rfl, hxl⟩; obtain ⟨xn, rfl⟩ := hxl.asLater; clear hxl)
        | (go_at_call 34; refine (HV.out _ _ _).mono ?_; rintro e w' ⟨rfl, hxl⟩; (first | rw [HB1.out] | rw [HC1.out]); obtain ⟨xo, rfl⟩ := hxl.asLater; clear hxl))
      go_ret
      exact ⟨ret_bool (by rw [Bool.true_and, HBC.out]; simp), (by (repeat (first | with_reducible exact HX1.out | with_reducible exact Ext.refl _ | with_reducible refine Ext.drew ?_ | with_reducible refine Ext.drewN ?_ _ | with_reducible refine Ext.alloc ?_ _ | with_reducible refine Ext.onto ?_ _ | (with_reducible refine Ext.setCells ?_ ?_ _ _; rotate_left; focus (first | omega | (simp; done) | (simp; omega))) | (with_reducible refine Ext.setCell ?_ ?_ _; rotate_left; focus (first | omega | (simp; done) | (simp; omega))))))⟩
end Go.Proofs.YtpfhmcdcmepfdaaGreatDoor


set_option linter.unusedVariables false
set_option linter.unusedSimpArgs false
namespace Go.Proofs.YtpfhmcdcmepfdaaGreatDoor
open Go.RowKit Go.Shelf
open Go.Proofs

set_option maxHeartbeats 1000000 in
theorem rwints_ok (A : Option Addr) (c : Nat) (l : List Int) (w : World) (hl : l.length ≤ 100000) (hr : ReadsInt w w.heap.size A l) (hi : ∀ x ∈ l, i64 x) :
    Calls Tryz.prog 88 #[.slice A l.length c] w (BytesIs (encInts l) w) := by
  have HR := Lib.hid hr
  have HI := Lib.hid hi
  clear hr hi
  have HE : Hid (intsTo l.length l = encInts l) := Lib.hid rfl
  go_enter Tryz.func88, Tryz.ntmps88
  go_wp2_with (go_at_call 132; refine (rint_ok _ _ (by omega) (by omega)).mono ?_; rintro e w1 ⟨A1, c1, rfl, ho, hx⟩; have HO1 := Lib.hid ho; have HX1 := Lib.hid hx; clear ho hx)
  go_loopw [3, 4] (fun o i wr => ∃ (A2 : Option Addr) (c2 : Nat) (out : List Int) (k : Nat), o = .slice A2 out.length c2 ∧ i = .int .i64 k ∧ k ≤ l.length ∧ Hid (out = intsTo l.length (l.take k)) ∧ Hid (OwnsB w.heap.size wr A2 c2 out) ∧ Hid (Ext w wr)) (fun _ i _ => l.length - (intOf i).toNat)
  case atStart => exact ⟨A1, c1, Wire.enc l.length, 0, rfl, rfl, Nat.zero_le _, Lib.hid (by unfold intsTo; simp), HO1, HX1⟩
  case round =>
    obtain ⟨A2, c2, out, k, rfl, rfl, hk, HOu, HO, HX⟩ := hrel
    have hsz := HX.out.size
    have hol : out.length ≤ 1000010 := by
      have h1 := intsTo_len l.length (l.take k)
      rw [← HOu.out, List.length_take] at h1
      omega
    by_cases hlt : k < l.length
    · obtain ⟨b, off, rfl, hb, c1⟩ := ReadsInt.cell (HR.out.ext HX.out (Nat.le_refl _)) k hlt
      obtain ⟨i1, i2⟩ := HI.out _ (List.getElem_mem hlt)
      have HN := Lib.hid (intsTo_succ l.length l k hlt)
      generalize l[k] = x at *
      have hxl := Wire.enc_length x
      go_wp2_with (first
        | (go_at_call 132; refine (rint_ok _ _ i1 i2).mono ?_; rintro e w3 ⟨A3, c3, rfl, ho, hx⟩; have HO3 := Lib.hid ho; have HX3 := Lib.hid hx; have hs3 := hx.size; clear ho hx)
        | (at_builtin; refine app_reads bT bE rfl _ _ rfl w.heap.size _ _ out rfl (HO.out.ext HX3.out) w3.heap.size _ _ (Wire.enc x) rfl (HO3.out.reads bE) HO3.out.none0 (by omega) (by omega) (by omega) ?_; intro A4 c4 l4 w4 HL HO4 hB hl1 hl2 _; have HO4' := Lib.hid HO4; have HB4 := Lib.hid hB; clear HO4 hB))
      go_roundw
      case rel => exact ⟨A4, c4, l4, k + 1, rfl, by go_num, by omega, Lib.hid (by rw [HL.out, HOu.out, HN.out]), HO4', Lib.hid ((HX.out.trans HX3.out).grown HB4.out (Nat.le_refl _))⟩
      case measure => simp [intOf]; omega
    · have HF : Hid (out = encInts l) := Lib.hid (by rw [HOu.out, List.take_of_length_le (by omega), HE.out])
      go_wp2
      go_ret
      obtain rfl := HF.out
      exact ⟨A2, c2, rfl, HO.out, HX.out⟩
theorem rsints_ok (A : Option Addr) (c : Nat) (l : List Int) (w : World) (hl : l.length ≤ 100000) (hr : ReadsInt w w.heap.size A l) (hi : ∀ x ∈ l, i64 x) :
    Calls Tryz.prog 133 #[.slice A l.length c] w fun e w' => e = .returned (.string (strOfNums (encInts l))) ∧ Ext w w' := by
  have H := Lib.hid (rwints_ok A c l w hl hr hi)
  have hp := encInts_pos l
  clear hr hi
  go_enter Tryz.func133, Tryz.ntmps133
  go_wp2_with (go_at_call 88; refine H.out.mono ?_; rintro e w1 ⟨A1, c1, rfl, ho, hx⟩; have hcv := conv_bytes c1 (ho.reads bE) hp; have HX1 := Lib.hid hx; clear ho hx)
  go_ret
  exact ⟨rfl, HX1.out⟩
theorem dgC_at (l : List Int) (h : l.length = 16) (i : Nat) (hi : i < 16) : (dgC l)[i]? = some (.int .u8 (l[i]'(by omega))) := by
  rw [dgC_cells h]
  unfold cells8
  simp [List.getElem?_eq_getElem (show i < l.length by omega)]
set_option maxRecDepth 100000 in
set_option maxHeartbeats 2000000 in
theorem rtext16_any (l : List Int) (w : World) (h16 : l.length = 16) :
    Calls Tryz.prog 121 #[.agg (dgC l)] w fun e w' => e = .returned (.string (strOfNums l)) ∧ Ext w w' := by
  have hfd : fitsRow 16 (dgC l) = true := by simp [fitsRow, dgC, Value.oneCell']
  have HC := Lib.hid (dgC_at l h16)
  go_enter Tryz.func121, Tryz.ntmps121
  go_wp2
  refine wp_world (fun W => Ext w W ∧ RowAt W w.heap.size (dgC l)) ⟨(by (repeat (first | with_reducible exact Ext.refl _ | with_reducible exact Ext.refl _ | with_reducible refine Ext.drew ?_ | with_reducible refine Ext.drewN ?_ _ | with_reducible refine Ext.alloc ?_ _ | with_reducible refine Ext.onto ?_ _ | (with_reducible refine Ext.setCells ?_ ?_ _ _; rotate_left; focus (first | omega | (simp; done) | (simp; omega))) | (with_reducible refine Ext.setCell ?_ ?_ _; rotate_left; focus (first | omega | (simp; done) | (simp; omega)))))), RowAt.new _ _ _⟩ ?_
  rintro W1 ⟨x1, r1⟩
  have HX1 := Lib.hid x1
  have HR1 := Lib.hid r1
  have hl1 := r1.lt
  clear x1 r1
  go_loopw [3, 4] (fun o i wr => ∃ (A2 : Option Addr) (c2 : Nat) (out : List Int) (k : Nat), o = .slice A2 out.length c2 ∧ i = .int .i64 k ∧ k ≤ 16 ∧ Hid (out = l.take k) ∧ out.length = k ∧ Hid (OwnsB W1.heap.size wr A2 c2 out) ∧ Hid (Ext W1 wr)) (fun _ i _ => 16 - (intOf i).toNat)
  case atStart => exact ⟨none, 0, [], 0, rfl, rfl, Nat.zero_le _, Lib.hid rfl, rfl, Lib.hid (Owns.nil _ _ _ _ _), Lib.hid (Ext.refl _)⟩
  case round =>
    obtain ⟨A2, c2, out, k, rfl, rfl, hk, HOu, hol, HO, HX⟩ := hrel
    have hsz := HX.out.size
    by_cases hlt : k < 16
    · have hkl : k < l.length := by rw [h16]; exact hlt
      have hc : wr.cell? ⟨w.heap.size, k, none⟩ = some (.int .u8 l[k]) := ((HR1.out.ext HX.out).cell k).trans (HC.out k hlt)
      have HN : Hid (out ++ [l[k]] = l.take (k + 1)) := Lib.hid ((congrArg (· ++ [l[k]]) HOu.out).trans (List.take_succ_eq_append_getElem hkl).symm)
      generalize l[k] = x at *
      go_wp2_with (at_builtin; refine app_from bT bE rfl _ _ rfl W1.heap.size _ _ out rfl (HO.out.alloc _) _ 1 _ [x] rfl rfl (new_cellsAt rfl _ _) (by omega) (by omega) (by simp; omega) ?_; intro A4 c4 l4 w4 HL HO4 hB hl1 hl2 _; have HO4' := Lib.hid HO4; have HB4 := Lib.hid hB; clear HO4 hB)
      go_roundw
      case rel => exact ⟨A4, c4, l4, k + 1, rfl, by go_num, by omega, Lib.hid (by rw [HL.out]; exact HN.out), by (try simp at hl1 hl2); omega, HO4', Lib.hid ((HX.out.alloc _).grown HB4.out (Nat.le_refl _))⟩
      case measure => simp [intOf]; omega
    · have hF : out = l := by rw [HOu.out, List.take_of_length_le (by omega)]
      have hk16 : k = 16 := by omega
      subst hk16
      have hcv := conv_bytes c2 (HO.out.reads bE) (by omega)
      rw [hol, hF] at hcv
      go_wp2
      go_ret
      exact ⟨rfl, HX1.out.trans HX.out⟩
theorem rdigest4_any (l : List Int) (w : World) (h16 : l.length = 16) :
    Calls Tryz.prog 160 #[.agg (dgC l)] w fun e w' => e = .returned (.string (strOfNums l)) ∧ Ext w w' := by
  have hfd : fitsRow 16 (dgC l) = true := by simp [fitsRow, dgC, Value.oneCell']
  have HT := Lib.hid (fun W => rtext16_any l W h16)
  go_enter Tryz.func160, Tryz.ntmps160
  go_upto_region 1 with (fail)
  refine wp_world (fun W => Ext w W ∧ RowAt W w.heap.size (dgC l)) ⟨(by (repeat (first | with_reducible exact Ext.refl _ | with_reducible exact Ext.refl _ | with_reducible refine Ext.drew ?_ | with_reducible refine Ext.drewN ?_ _ | with_reducible refine Ext.alloc ?_ _ | with_reducible refine Ext.onto ?_ _ | (with_reducible refine Ext.setCells ?_ ?_ _ _; rotate_left; focus (first | omega | (simp; done) | (simp; omega))) | (with_reducible refine Ext.setCell ?_ ?_ _; rotate_left; focus (first | omega | (simp; done) | (simp; omega)))))), RowAt.new _ _ _⟩ ?_
  rintro W1 ⟨x1, r1⟩
  have HX1 := Lib.hid x1
  have hrow := r1.all (n := 16) rfl (by omega)
  have hl1 := r1.lt
  clear x1 r1
  go_wp2_with (go_at_call 121; refine (HT.out _).mono ?_; rintro e w' ⟨rfl, hxl⟩; obtain ⟨xl, rfl⟩ := hxl.asLater; clear hxl)
  go_ret
  exact ⟨rfl, (by (repeat (first | with_reducible exact HX1.out | with_reducible exact Ext.refl _ | with_reducible refine Ext.drew ?_ | with_reducible refine Ext.drewN ?_ _ | with_reducible refine Ext.alloc ?_ _ | with_reducible refine Ext.onto ?_ _ | (with_reducible refine Ext.setCells ?_ ?_ _ _; rotate_left; focus (first | omega | (simp; done) | (simp; omega))) | (with_reducible refine Ext.setCell ?_ ?_ _; rotate_left; focus (first | omega | (simp; done) | (simp; omega))))))⟩
end Go.Proofs.YtpfhmcdcmepfdaaGreatDoor


set_option linter.unusedVariables false
set_option linter.unusedSimpArgs false
namespace Go.Proofs.YtpfhmcdcmepfdaaGreatDoor
open Go.RowKit Go.Shelf
open Go.Proofs

set_option maxRecDepth 100000 in
set_option maxHeartbeats 4000000 in
theorem rsparts_any (s : St) (w : World) (h16 : s.body.length = 16) (hi : ∀ x ∈ stInts s, i64 x) :
    Calls Tryz.prog 150 #[.agg (stmC s)] w fun e w' => ∃ A c, e = .returned (.slice A (stParts s).length c) ∧ ReadsStr w' w'.heap.size A (stParts s) ∧ (A = none → c = 0) ∧ Ext w w' := by
  have HI := Lib.hid (fun (A : Option Addr) (c : Nat) (W : World) (hr : ReadsInt W W.heap.size A (stInts s)) => rsints_ok A c (stInts s) W (by show 6 ≤ 100000; decide) hr hi)
  have H16 := Lib.hid h16
  have HDg := Lib.hid (fun W => rdigest4_any s.body W h16)
  clear hi h16
  go_enter Tryz.func150, Tryz.ntmps150
  go_wp2
  refine wp_world (fun W => Ext w W ∧ RowAt W w.heap.size (stmC s)) ⟨(by (repeat (first | with_reducible exact Ext.refl _ | with_reducible exact Ext.refl _ | with_reducible refine Ext.drew ?_ | with_reducible refine Ext.drewN ?_ _ | with_reducible refine Ext.alloc ?_ _ | with_reducible refine Ext.onto ?_ _ | (with_reducible refine Ext.setCells ?_ ?_ _ _; rotate_left; focus (first | omega | (simp; done) | (simp; omega))) | (with_reducible refine Ext.setCell ?_ ?_ _; rotate_left; focus (first | omega | (simp; done) | (simp; omega)))))), RowAt.new _ _ _⟩ ?_
  obtain ⟨B, hB⟩ : ∃ B, w.heap.size = B := ⟨_, rfl⟩
  rw [hB]
  rintro W1 ⟨x1, u1⟩
  have HX1 := Lib.hid x1
  have HU1 := Lib.hid u1
  have c0 : W1.cell? ⟨B, 0, none⟩ = some (.string s.addr) := (u1.cell 0).trans (stm_g0 s)
  have c1 : W1.cell? ⟨B, 1, none⟩ = some (.string s.var) := (u1.cell 1).trans (stm_g1 s)
  have c2 : W1.cell? ⟨B, 2, none⟩ = some (.int .i64 s.status) := (u1.cell 2).trans (stm_g2 s)
  have c3 : W1.cell? ⟨B, 3, none⟩ = some (.int .i64 s.size) := (u1.cell 3).trans (stm_g3 s)
  have c20 : W1.cell? ⟨B, 20, none⟩ = some (.string s.tags) := (u1.cell 20).trans (stm_g20 s)
  have c21 : W1.cell? ⟨B, 21, none⟩ = some (.int .i64 s.lo) := (u1.cell 21).trans (stm_g21 s)
  have c22 : W1.cell? ⟨B, 22, none⟩ = some (.int .i64 s.hi) := (u1.cell 22).trans (stm_g22 s)
  have c23 : W1.cell? ⟨B, 23, none⟩ = some (.int .i64 s.gate) := (u1.cell 23).trans (stm_g23 s)
  have c24 : W1.cell? ⟨B, 24, none⟩ = some (.int .i64 s.serial) := (u1.cell 24).trans (stm_g24 s)
  have r4 : rowOf W1 B 4 16 = some (dgC s.body) := by rw [u1.row, if_neg (by omega), stm_body]
  have hlu := u1.lt
  clear x1 u1
  refine wp_region_soft 25 (softsL [.eq (.pointer (some ⟨B, 0, none⟩)), .eq (.string s.addr), .eq (.pointer (some ⟨B, 1, none⟩)), .eq (.string s.var), .eq (.pointer (some ⟨B, 2, none⟩)), .eq (.int .i64 s.status), .eq (.pointer (some ⟨B, 3, none⟩)), .eq (.int .i64 s.size), .eq (.pointer (some ⟨B, 21, none⟩)), .eq (.pointer (some ⟨B, 21, none⟩)), .eq (.int .i64 s.lo), .eq (.pointer (some ⟨B, 21, none⟩)), .eq (.pointer (some ⟨B, 22, none⟩)), .eq (.int .i64 s.hi), .eq (.pointer (some ⟨B, 23, none⟩)), .eq (.int .i64 s.gate), .eq (.pointer (some ⟨B, 24, none⟩)), .eq (.int .i64 s.serial), readI (stInts s), .eq (.string (strOfNums (encInts (stInts s)))), .eq (.pointer (some ⟨B, 4, none⟩)), .eq (.agg (dgC s.body)), .eq (.string (strOfNums s.body)), .eq (.pointer (some ⟨B, 20, none⟩)), .eq (.string s.tags)]) (by kernel_rfl) (by kernel_rfl) (lt_cons ?_ (lt_cons ?_ (lt_cons ?_ (lt_cons ?_ (lt_cons ?_ (lt_cons ?_ (lt_cons ?_ (lt_cons ?_ (lt_cons ?_ (lt_cons ?_ (lt_cons ?_ (lt_cons ?_ (lt_cons ?_ (lt_cons ?_ (lt_cons ?_ (lt_cons ?_ (lt_cons ?_ (lt_cons ?_ (lt_cons ?_ (lt_cons ?_ (lt_cons ?_ (lt_cons ?_ (lt_cons ?_ (lt_cons ?_ (lt_cons ?_ lt_none))))))))))))))))))))))))) ?_
  ·
    intro o ho xs W hW hd Q' hQ; obtain rfl := Option.some.inj ho; clear ho; simp only [fillAt, dstOf, List.getElem?_cons_zero, List.getElem?_cons_succ, Option.bind_some, Act.put, List.setIfInBounds_toArray, List.set_cons_zero, List.set_cons_succ, Nat.zero_add, Nat.reduceAdd] at hQ ⊢; have HQ := Lib.hid hQ; have HD := Lib.hid hd; have HW := Lib.hid hW; have hsW := hW.size; clear hQ hd hW
    go_wp2
    exact HQ.out _ _ (Ext.refl _) rfl
  ·
    intro o ho xs W hW hd Q' hQ; obtain rfl := Option.some.inj ho; clear ho; simp only [fillAt, dstOf, List.getElem?_cons_zero, List.getElem?_cons_succ, Option.bind_some, Act.put, List.setIfInBounds_toArray, List.set_cons_zero, List.set_cons_succ, Nat.zero_add, Nat.reduceAdd] at hQ ⊢; have HQ := Lib.hid hQ; have HD := Lib.hid hd; have HW := Lib.hid hW; have hsW := hW.size; clear hQ hd hW
    have hd0 : xs 0 = (.pointer (some ⟨B, 0, none⟩)) := (HD.out 0 (of_decide_eq_true (by kernel_rfl)))
    generalize xs 0 = x0 at hd0 HQ ⊢; subst hd0
    have hc : W.cell? ⟨B, 0, none⟩ = some (.string s.addr) := (HW.out.cell (p := ⟨B, 0, none⟩) (by show B < _; omega)).trans c0
    go_wp2
    exact HQ.out _ _ (Ext.refl _) rfl
  ·
    intro o ho xs W hW hd Q' hQ; obtain rfl := Option.some.inj ho; clear ho; simp only [fillAt, dstOf, List.getElem?_cons_zero, List.getElem?_cons_succ, Option.bind_some, Act.put, List.setIfInBounds_toArray, List.set_cons_zero, List.set_cons_succ, Nat.zero_add, Nat.reduceAdd] at hQ ⊢; have HQ := Lib.hid hQ; have HD := Lib.hid hd; have HW := Lib.hid hW; have hsW := hW.size; clear hQ hd hW
    go_wp2
    exact HQ.out _ _ (Ext.refl _) rfl
  ·
    intro o ho xs W hW hd Q' hQ; obtain rfl := Option.some.inj ho; clear ho; simp only [fillAt, dstOf, List.getElem?_cons_zero, List.getElem?_cons_succ, Option.bind_some, Act.put, List.setIfInBounds_toArray, List.set_cons_zero, List.set_cons_succ, Nat.zero_add, Nat.reduceAdd] at hQ ⊢; have HQ := Lib.hid hQ; have HD := Lib.hid hd; have HW := Lib.hid hW; have hsW := hW.size; clear hQ hd hW
    have hd2 : xs 2 = (.pointer (some ⟨B, 1, none⟩)) := (HD.out 2 (of_decide_eq_true (by kernel_rfl)))
    generalize xs 2 = x2 at hd2 HQ ⊢; subst hd2
    have hc : W.cell? ⟨B, 1, none⟩ = some (.string s.var) := (HW.out.cell (p := ⟨B, 1, none⟩) (by show B < _; omega)).trans c1
    go_wp2
    exact HQ.out _ _ (Ext.refl _) rfl
  ·
    intro o ho xs W hW hd Q' hQ; obtain rfl := Option.some.inj ho; clear ho; simp only [fillAt, dstOf, List.getElem?_cons_zero, List.getElem?_cons_succ, Option.bind_some, Act.put, List.setIfInBounds_toArray, List.set_cons_zero, List.set_cons_succ, Nat.zero_add, Nat.reduceAdd] at hQ ⊢; have HQ := Lib.hid hQ; have HD := Lib.hid hd; have HW := Lib.hid hW; have hsW := hW.size; clear hQ hd hW
    go_wp2
    exact HQ.out _ _ (Ext.refl _) rfl
  ·
    intro o ho xs W hW hd Q' hQ; obtain rfl := Option.some.inj ho; clear ho; simp only [fillAt, dstOf, List.getElem?_cons_zero, List.getElem?_cons_succ, Option.bind_some, Act.put, List.setIfInBounds_toArray, List.set_cons_zero, List.set_cons_succ, Nat.zero_add, Nat.reduceAdd] at hQ ⊢; have HQ := Lib.hid hQ; have HD := Lib.hid hd; have HW := Lib.hid hW; have hsW := hW.size; clear hQ hd hW
    have hd4 : xs 4 = (.pointer (some ⟨B, 2, none⟩)) := (HD.out 4 (of_decide_eq_true (by kernel_rfl)))
    generalize xs 4 = x4 at hd4 HQ ⊢; subst hd4
    have hc : W.cell? ⟨B, 2, none⟩ = some (.int .i64 s.status) := (HW.out.cell (p := ⟨B, 2, none⟩) (by show B < _; omega)).trans c2
    go_wp2
    exact HQ.out _ _ (Ext.refl _) rfl
  ·
    intro o ho xs W hW hd Q' hQ; obtain rfl := Option.some.inj ho; clear ho; simp only [fillAt, dstOf, List.getElem?_cons_zero, List.getElem?_cons_succ, Option.bind_some, Act.put, List.setIfInBounds_toArray, List.set_cons_zero, List.set_cons_succ, Nat.zero_add, Nat.reduceAdd] at hQ ⊢; have HQ := Lib.hid hQ; have HD := Lib.hid hd; have HW := Lib.hid hW; have hsW := hW.size; clear hQ hd hW
    go_wp2
    exact HQ.out _ _ (Ext.refl _) rfl
  ·
    intro o ho xs W hW hd Q' hQ; obtain rfl := Option.some.inj ho; clear ho; simp only [fillAt, dstOf, List.getElem?_cons_zero, List.getElem?_cons_succ, Option.bind_some, Act.put, List.setIfInBounds_toArray, List.set_cons_zero, List.set_cons_succ, Nat.zero_add, Nat.reduceAdd] at hQ ⊢; have HQ := Lib.hid hQ; have HD := Lib.hid hd; have HW := Lib.hid hW; have hsW := hW.size; clear hQ hd hW
    have hd6 : xs 6 = (.pointer (some ⟨B, 3, none⟩)) := (HD.out 6 (of_decide_eq_true (by kernel_rfl)))
    generalize xs 6 = x6 at hd6 HQ ⊢; subst hd6
    have hc : W.cell? ⟨B, 3, none⟩ = some (.int .i64 s.size) := (HW.out.cell (p := ⟨B, 3, none⟩) (by show B < _; omega)).trans c3
    go_wp2
    exact HQ.out _ _ (Ext.refl _) rfl
  ·
    intro o ho xs W hW hd Q' hQ; obtain rfl := Option.some.inj ho; clear ho; simp only [fillAt, dstOf, List.getElem?_cons_zero, List.getElem?_cons_succ, Option.bind_some, Act.put, List.setIfInBounds_toArray, List.set_cons_zero, List.set_cons_succ, Nat.zero_add, Nat.reduceAdd] at hQ ⊢; have HQ := Lib.hid hQ; have HD := Lib.hid hd; have HW := Lib.hid hW; have hsW := hW.size; clear hQ hd hW
    go_wp2
    exact HQ.out _ _ (Ext.refl _) rfl
  ·
    intro o ho xs W hW hd Q' hQ; obtain rfl := Option.some.inj ho; clear ho; simp only [fillAt, dstOf, List.getElem?_cons_zero, List.getElem?_cons_succ, Option.bind_some, Act.put, List.setIfInBounds_toArray, List.set_cons_zero, List.set_cons_succ, Nat.zero_add, Nat.reduceAdd] at hQ ⊢; have HQ := Lib.hid hQ; have HD := Lib.hid hd; have HW := Lib.hid hW; have hsW := hW.size; clear hQ hd hW
    have hd8 : xs 8 = (.pointer (some ⟨B, 21, none⟩)) := (HD.out 8 (of_decide_eq_true (by kernel_rfl)))
    generalize xs 8 = x8 at hd8 HQ ⊢; subst hd8
    go_wp2
    exact HQ.out _ _ (Ext.refl _) rfl
  ·
    intro o ho xs W hW hd Q' hQ; obtain rfl := Option.some.inj ho; clear ho; simp only [fillAt, dstOf, List.getElem?_cons_zero, List.getElem?_cons_succ, Option.bind_some, Act.put, List.setIfInBounds_toArray, List.set_cons_zero, List.set_cons_succ, Nat.zero_add, Nat.reduceAdd] at hQ ⊢; have HQ := Lib.hid hQ; have HD := Lib.hid hd; have HW := Lib.hid hW; have hsW := hW.size; clear hQ hd hW
    have hd9 : xs 9 = (.pointer (some ⟨B, 21, none⟩)) := (HD.out 9 (of_decide_eq_true (by kernel_rfl)))
    generalize xs 9 = x9 at hd9 HQ ⊢; subst hd9
    have hc : W.cell? ⟨B, 21, none⟩ = some (.int .i64 s.lo) := (HW.out.cell (p := ⟨B, 21, none⟩) (by show B < _; omega)).trans c21
    go_wp2
    exact HQ.out _ _ (Ext.refl _) rfl
  ·
    intro o ho xs W hW hd Q' hQ; obtain rfl := Option.some.inj ho; clear ho; simp only [fillAt, dstOf, List.getElem?_cons_zero, List.getElem?_cons_succ, Option.bind_some, Act.put, List.setIfInBounds_toArray, List.set_cons_zero, List.set_cons_succ, Nat.zero_add, Nat.reduceAdd] at hQ ⊢; have HQ := Lib.hid hQ; have HD := Lib.hid hd; have HW := Lib.hid hW; have hsW := hW.size; clear hQ hd hW
    go_wp2
    exact HQ.out _ _ (Ext.refl _) rfl
  ·
    intro o ho xs W hW hd Q' hQ; obtain rfl := Option.some.inj ho; clear ho; simp only [fillAt, dstOf, List.getElem?_cons_zero, List.getElem?_cons_succ, Option.bind_some, Act.put, List.setIfInBounds_toArray, List.set_cons_zero, List.set_cons_succ, Nat.zero_add, Nat.reduceAdd] at hQ ⊢; have HQ := Lib.hid hQ; have HD := Lib.hid hd; have HW := Lib.hid hW; have hsW := hW.size; clear hQ hd hW
    have hd11 : xs 11 = (.pointer (some ⟨B, 21, none⟩)) := (HD.out 11 (of_decide_eq_true (by kernel_rfl)))
    generalize xs 11 = x11 at hd11 HQ ⊢; subst hd11
    go_wp2
    exact HQ.out _ _ (Ext.refl _) rfl
  ·
    intro o ho xs W hW hd Q' hQ; obtain rfl := Option.some.inj ho; clear ho; simp only [fillAt, dstOf, List.getElem?_cons_zero, List.getElem?_cons_succ, Option.bind_some, Act.put, List.setIfInBounds_toArray, List.set_cons_zero, List.set_cons_succ, Nat.zero_add, Nat.reduceAdd] at hQ ⊢; have HQ := Lib.hid hQ; have HD := Lib.hid hd; have HW := Lib.hid hW; have hsW := hW.size; clear hQ hd hW
    have hd12 : xs 12 = (.pointer (some ⟨B, 22, none⟩)) := (HD.out 12 (of_decide_eq_true (by kernel_rfl)))
    generalize xs 12 = x12 at hd12 HQ ⊢; subst hd12
    have hc : W.cell? ⟨B, 22, none⟩ = some (.int .i64 s.hi) := (HW.out.cell (p := ⟨B, 22, none⟩) (by show B < _; omega)).trans c22
    go_wp2
    exact HQ.out _ _ (Ext.refl _) rfl
  ·
    intro o ho xs W hW hd Q' hQ; obtain rfl := Option.some.inj ho; clear ho; simp only [fillAt, dstOf, List.getElem?_cons_zero, List.getElem?_cons_succ, Option.bind_some, Act.put, List.setIfInBounds_toArray, List.set_cons_zero, List.set_cons_succ, Nat.zero_add, Nat.reduceAdd] at hQ ⊢; have HQ := Lib.hid hQ; have HD := Lib.hid hd; have HW := Lib.hid hW; have hsW := hW.size; clear hQ hd hW
    go_wp2
    exact HQ.out _ _ (Ext.refl _) rfl
  ·
    intro o ho xs W hW hd Q' hQ; obtain rfl := Option.some.inj ho; clear ho; simp only [fillAt, dstOf, List.getElem?_cons_zero, List.getElem?_cons_succ, Option.bind_some, Act.put, List.setIfInBounds_toArray, List.set_cons_zero, List.set_cons_succ, Nat.zero_add, Nat.reduceAdd] at hQ ⊢; have HQ := Lib.hid hQ; have HD := Lib.hid hd; have HW := Lib.hid hW; have hsW := hW.size; clear hQ hd hW
    have hd14 : xs 14 = (.pointer (some ⟨B, 23, none⟩)) := (HD.out 14 (of_decide_eq_true (by kernel_rfl)))
    generalize xs 14 = x14 at hd14 HQ ⊢; subst hd14
    have hc : W.cell? ⟨B, 23, none⟩ = some (.int .i64 s.gate) := (HW.out.cell (p := ⟨B, 23, none⟩) (by show B < _; omega)).trans c23
    go_wp2
    exact HQ.out _ _ (Ext.refl _) rfl
  ·
    intro o ho xs W hW hd Q' hQ; obtain rfl := Option.some.inj ho; clear ho; simp only [fillAt, dstOf, List.getElem?_cons_zero, List.getElem?_cons_succ, Option.bind_some, Act.put, List.setIfInBounds_toArray, List.set_cons_zero, List.set_cons_succ, Nat.zero_add, Nat.reduceAdd] at hQ ⊢; have HQ := Lib.hid hQ; have HD := Lib.hid hd; have HW := Lib.hid hW; have hsW := hW.size; clear hQ hd hW
    go_wp2
    exact HQ.out _ _ (Ext.refl _) rfl
  ·
    intro o ho xs W hW hd Q' hQ; obtain rfl := Option.some.inj ho; clear ho; simp only [fillAt, dstOf, List.getElem?_cons_zero, List.getElem?_cons_succ, Option.bind_some, Act.put, List.setIfInBounds_toArray, List.set_cons_zero, List.set_cons_succ, Nat.zero_add, Nat.reduceAdd] at hQ ⊢; have HQ := Lib.hid hQ; have HD := Lib.hid hd; have HW := Lib.hid hW; have hsW := hW.size; clear hQ hd hW
    have hd16 : xs 16 = (.pointer (some ⟨B, 24, none⟩)) := (HD.out 16 (of_decide_eq_true (by kernel_rfl)))
    generalize xs 16 = x16 at hd16 HQ ⊢; subst hd16
    have hc : W.cell? ⟨B, 24, none⟩ = some (.int .i64 s.serial) := (HW.out.cell (p := ⟨B, 24, none⟩) (by show B < _; omega)).trans c24
    go_wp2
    exact HQ.out _ _ (Ext.refl _) rfl
  ·
    intro o ho xs W hW hd Q' hQ; obtain rfl := Option.some.inj ho; clear ho; simp only [fillAt, dstOf, List.getElem?_cons_zero, List.getElem?_cons_succ, Option.bind_some, Act.put, List.setIfInBounds_toArray, List.set_cons_zero, List.set_cons_succ, Nat.zero_add, Nat.reduceAdd] at hQ ⊢; have HQ := Lib.hid hQ; have HD := Lib.hid hd; have HW := Lib.hid hW; have hsW := hW.size; clear hQ hd hW
    have hd5 : xs 5 = .int .i64 s.status := (HD.out 5 (of_decide_eq_true (by kernel_rfl)))
    generalize xs 5 = x5 at hd5 HQ ⊢; subst hd5
    have hd7 : xs 7 = .int .i64 s.size := (HD.out 7 (of_decide_eq_true (by kernel_rfl)))
    generalize xs 7 = x7 at hd7 HQ ⊢; subst hd7
    have hd10 : xs 10 = .int .i64 s.lo := (HD.out 10 (of_decide_eq_true (by kernel_rfl)))
    generalize xs 10 = x10 at hd10 HQ ⊢; subst hd10
    have hd13 : xs 13 = .int .i64 s.hi := (HD.out 13 (of_decide_eq_true (by kernel_rfl)))
    generalize xs 13 = x13 at hd13 HQ ⊢; subst hd13
    have hd15 : xs 15 = .int .i64 s.gate := (HD.out 15 (of_decide_eq_true (by kernel_rfl)))
    generalize xs 15 = x15 at hd15 HQ ⊢; subst hd15
    have hd17 : xs 17 = .int .i64 s.serial := (HD.out 17 (of_decide_eq_true (by kernel_rfl)))
    generalize xs 17 = x17 at hd17 HQ ⊢; subst hd17
    go_wp2
    exact HQ.out _ _ ((Ext.refl _).alloc _) ⟨_, _, rfl, reads_fresh zE (stInts s) W _ _ rfl⟩
  ·
    intro o ho xs W hW hd Q' hQ; obtain rfl := Option.some.inj ho; clear ho; simp only [fillAt, dstOf, List.getElem?_cons_zero, List.getElem?_cons_succ, Option.bind_some, Act.put, List.setIfInBounds_toArray, List.set_cons_zero, List.set_cons_succ, Nat.zero_add, Nat.reduceAdd] at hQ ⊢; have HQ := Lib.hid hQ; have HD := Lib.hid hd; have HW := Lib.hid hW; have hsW := hW.size; clear hQ hd hW
    obtain ⟨A9, c9, h18, hr18⟩ : (readI (stInts s)).S (xs 18) W := (HD.out 18 (of_decide_eq_true (by kernel_rfl)))
    generalize xs 18 = x18 at h18 HQ ⊢; subst h18
    go_wp2_with (go_at_call 133; refine (HI.out A9 c9 _ hr18).mono ?_; rintro e w1 ⟨rfl, hx⟩)
    exact HQ.out _ _ hx rfl
  ·
    intro o ho xs W hW hd Q' hQ; obtain rfl := Option.some.inj ho; clear ho; simp only [fillAt, dstOf, List.getElem?_cons_zero, List.getElem?_cons_succ, Option.bind_some, Act.put, List.setIfInBounds_toArray, List.set_cons_zero, List.set_cons_succ, Nat.zero_add, Nat.reduceAdd] at hQ ⊢; have HQ := Lib.hid hQ; have HD := Lib.hid hd; have HW := Lib.hid hW; have hsW := hW.size; clear hQ hd hW
    go_wp2
    exact HQ.out _ _ (Ext.refl _) rfl
  ·
    intro o ho xs W hW hd Q' hQ; obtain rfl := Option.some.inj ho; clear ho; simp only [fillAt, dstOf, List.getElem?_cons_zero, List.getElem?_cons_succ, Option.bind_some, Act.put, List.setIfInBounds_toArray, List.set_cons_zero, List.set_cons_succ, Nat.zero_add, Nat.reduceAdd] at hQ ⊢; have HQ := Lib.hid hQ; have HD := Lib.hid hd; have HW := Lib.hid hW; have hsW := hW.size; clear hQ hd hW
    have hd20 : xs 20 = .pointer (some ⟨B, 4, none⟩) := (HD.out 20 (of_decide_eq_true (by kernel_rfl)))
    generalize xs 20 = x20 at hd20 HQ ⊢; subst hd20
    have hc := (row_extW HW.out (b := B) hlu 4 16).trans r4
    go_wp2
    exact HQ.out _ _ (Ext.refl _) rfl
  ·
    intro o ho xs W hW hd Q' hQ; obtain rfl := Option.some.inj ho; clear ho; simp only [fillAt, dstOf, List.getElem?_cons_zero, List.getElem?_cons_succ, Option.bind_some, Act.put, List.setIfInBounds_toArray, List.set_cons_zero, List.set_cons_succ, Nat.zero_add, Nat.reduceAdd] at hQ ⊢; have HQ := Lib.hid hQ; have HD := Lib.hid hd; have HW := Lib.hid hW; have hsW := hW.size; clear hQ hd hW
    have hd21 : xs 21 = .agg (dgC s.body) := (HD.out 21 (of_decide_eq_true (by kernel_rfl)))
    generalize xs 21 = x21 at hd21 HQ ⊢; subst hd21
    go_wp2_with (go_at_call 160; refine (HDg.out _).mono ?_; rintro e w1 ⟨rfl, hx⟩)
    exact HQ.out _ _ hx rfl
  ·
    intro o ho xs W hW hd Q' hQ; obtain rfl := Option.some.inj ho; clear ho; simp only [fillAt, dstOf, List.getElem?_cons_zero, List.getElem?_cons_succ, Option.bind_some, Act.put, List.setIfInBounds_toArray, List.set_cons_zero, List.set_cons_succ, Nat.zero_add, Nat.reduceAdd] at hQ ⊢; have HQ := Lib.hid hQ; have HD := Lib.hid hd; have HW := Lib.hid hW; have hsW := hW.size; clear hQ hd hW
    go_wp2
    exact HQ.out _ _ (Ext.refl _) rfl
  ·
    intro o ho xs W hW hd Q' hQ; obtain rfl := Option.some.inj ho; clear ho; simp only [fillAt, dstOf, List.getElem?_cons_zero, List.getElem?_cons_succ, Option.bind_some, Act.put, List.setIfInBounds_toArray, List.set_cons_zero, List.set_cons_succ, Nat.zero_add, Nat.reduceAdd] at hQ ⊢; have HQ := Lib.hid hQ; have HD := Lib.hid hd; have HW := Lib.hid hW; have hsW := hW.size; clear hQ hd hW
    have hd23 : xs 23 = (.pointer (some ⟨B, 20, none⟩)) := (HD.out 23 (of_decide_eq_true (by kernel_rfl)))
    generalize xs 23 = x23 at hd23 HQ ⊢; subst hd23
    have hc : W.cell? ⟨B, 20, none⟩ = some (.string s.tags) := (HW.out.cell (p := ⟨B, 20, none⟩) (by show B < _; omega)).trans c20
    go_wp2
    exact HQ.out _ _ (Ext.refl _) rfl
  intro xs W3 hW hS
  have h1 : xs 1 = .string s.addr := hS 1 (by omega)
  have h3 : xs 3 = .string s.var := hS 3 (by omega)
  have h19 : xs 19 = .string (strOfNums (encInts (stInts s))) := hS 19 (by omega)
  have h22 : xs 22 = .string (strOfNums s.body) := hS 22 (by omega)
  have h24 : xs 24 = .string s.tags := hS 24 (by omega)
  simp only [fillAt, dstOf, List.getElem?_cons_zero, List.getElem?_cons_succ, Option.bind_some, Act.put, List.setIfInBounds_toArray, List.set_cons_zero, List.set_cons_succ, Nat.zero_add, Nat.reduceAdd, List.drop_succ_cons, List.drop_zero, List.drop_nil]
  generalize xs 1 = x1 at *; subst h1
  generalize xs 3 = x3 at *; subst h3
  generalize xs 19 = x19 at *; subst h19
  generalize xs 22 = x22 at *; subst h22
  generalize xs 24 = x24 at *; subst h24
  have HX3 := Lib.hid (HX1.out.trans hW)
  clear hS hW c0 c1 c2 c3 c20 c21 c22 c23 c24
  go_wp2
  go_ret
  exact ⟨_, _, rfl, reads_fresh sE (stParts s) W3 _ _ rfl, fun h => (by cases h), (by (repeat (first | with_reducible exact HX3.out | with_reducible exact Ext.refl _ | with_reducible refine Ext.drew ?_ | with_reducible refine Ext.drewN ?_ _ | with_reducible refine Ext.alloc ?_ _ | with_reducible refine Ext.onto ?_ _ | (with_reducible refine Ext.setCells ?_ ?_ _ _; rotate_left; focus (first | omega | (simp; done) | (simp; omega))) | (with_reducible refine Ext.setCell ?_ ?_ _; rotate_left; focus (first | omega | (simp; done) | (simp; omega))))))⟩
end Go.Proofs.YtpfhmcdcmepfdaaGreatDoor


set_option linter.unusedVariables false
set_option linter.unusedSimpArgs false
namespace Go.Proofs.YtpfhmcdcmepfdaaGreatDoor
open Go.RowKit Go.Shelf
open Go.Proofs

set_option maxRecDepth 100000 in
set_option maxHeartbeats 4000000 in
theorem rmake_any (k : Ky) (tag : Int) (A : Option Addr) (c : Nat) (parts : List ByteArray) (w : World) (hr : ReadsStr w w.heap.size A parts) (hz : A = none → c = 0) (hl : lens ([k.secret] ++ parts ++ [k.secret]) < 8796093022208) (hk : RKonst w) :
    Calls Tryz.prog 31 #[.agg (kyC k), .int .i64 tag, .slice A parts.length c] w fun e w' => e = .returned (.agg (dgC (makeN k tag parts))) ∧ Ext w w' := by
  have HR := Lib.hid hr
  have HZ := Lib.hid hz
  have HK := Lib.hid hk
  have HL := Lib.hid hl
  have hll := lens_length ([k.secret] ++ parts ++ [k.secret])
  have hpl : parts.length + 2 ≤ 8796093022208 := by
    have : ([k.secret] ++ parts ++ [k.secret]).length = parts.length + 2 := by simp [List.length_append]
    omega
  obtain ⟨D, hD⟩ : ∃ D, makeN k tag parts = D := ⟨_, rfl⟩
  have h16 : D.length = 16 := by rw [← hD]; exact makeN_len _ _ _
  have HOf : Hid (∀ (A : Option Addr) (c n : Nat) (l : List ByteArray) (W : World), n = l.length → l = [k.secret] ++ parts ++ [k.secret] → RKonst W → ReadsStr W W.heap.size A l → Calls Tryz.prog 87 #[.int .i64 tag, .slice A n c] W fun e w' => e = .returned (.agg (dgC D)) ∧ Ext W w') := Lib.hid (fun A c n l W hn he h1 h2 => by
    subst hn
    subst he
    have h := rof_ok tag A c _ W h1 h2 (by omega)
    rw [show Wire.digest tag (([k.secret] ++ parts ++ [k.secret]).map bts) = D from hD, ← dgC_cells h16] at h
    exact h)
  have hfd : fitsRow 16 (dgC D) = true := by simp [fitsRow, dgC, Value.oneCell']
  rw [hD]
  clear hr hz hk hl hll hD
  go_enter Tryz.func31, Tryz.ntmps31
  go_upto_region 1 with (fail)
  refine wp_world (fun W => Ext w W ∧ W.heap.size = w.heap.size + 2 ∧ RowAt W w.heap.size (kyC k) ∧ RowAt W (w.heap.size + 1) (cells8 (zeros32 16))) ⟨(by (repeat (first | with_reducible exact Ext.refl _ | with_reducible exact Ext.refl _ | with_reducible refine Ext.drew ?_ | with_reducible refine Ext.drewN ?_ _ | with_reducible refine Ext.alloc ?_ _ | with_reducible refine Ext.onto ?_ _ | (with_reducible refine Ext.setCells ?_ ?_ _ _; rotate_left; focus (first | omega | (simp; done) | (simp; omega))) | (with_reducible refine Ext.setCell ?_ ?_ _; rotate_left; focus (first | omega | (simp; done) | (simp; omega)))))), by simp, (RowAt.new _ _ _).alloc _, RowAt.newAt (by simp)⟩ ?_
  rintro W1 ⟨x1, hs1, r1, r2⟩
  have HX1 := Lib.hid x1
  have HRk := Lib.hid r1
  have HRs := Lib.hid r2
  have s2 : W1.cell? ⟨w.heap.size, 2, none⟩ = some (.string k.secret) := r1.cell 2
  clear x1 r1 r2
  go_wp2_with (at_builtin; refine (show Hid _ from ?_).out)
  refine Lib.hid ?_
  have hg : (W1.alloc (.cells #[.string k.secret] 9)).heap[w.heap.size + 2]? = some (.cells #[.string k.secret] 9 (0, 0)) := by rw [← hs1]; exact heap_alloc_new W1 _
  refine app_reads strT sE rfl _ _ rfl (w.heap.size + 2) _ 1 [k.secret] rfl (Owns.mk sE (Nat.le_refl _) hg (Nat.le_refl _) (by unfold maxLen; omega) rfl rfl) _ _ _ parts rfl (HR.out.on (HX1.out.alloc _)) HZ.out (by simp; omega) (by simp; omega) (by simp; omega) ?_
  intro A2 c2 l2 w2 HL2 hO9 hB9 hl1 hl2 _
  have HO2 := Lib.hid hO9
  have HB2 := Lib.hid hB9
  have hs2 := hB9.size
  rw [World.size_alloc] at hs2
  have s22 : w2.cell? ⟨w.heap.size, 2, none⟩ = some (.string k.secret) := (hB9.cell (p := ⟨w.heap.size, 2, none⟩) (by show w.heap.size < w.heap.size + 2; omega)).trans (Lib.cell?_alloc_some _ s2)
  have HX2 : Hid (Ext w w2) := Lib.hid ((HX1.out.alloc _).grown HB2.out (by omega))
  have HRs2 : Hid (RowAt w2 (w.heap.size + 1) (cells8 (zeros32 16))) := Lib.hid ((HRs.out.alloc _).below HB2.out (by omega))
  simp only [List.length_cons, List.length_nil] at hl1 hl2
  clear hO9 hB9 s2
  go_wp2_with (at_builtin; refine (show Hid _ from ?_).out)
  refine Lib.hid ?_
  refine app_from strT sE rfl _ _ rfl (w.heap.size + 2) _ _ l2 rfl (HO2.out.alloc _) _ 1 _ [k.secret] rfl rfl (new_cellsAt rfl _ _) (by omega) (by omega) (by simp; omega) ?_
  intro A3 c3 l3 w3 HL3 hO9 hB9 hl3 hl4 _
  have HO3 := Lib.hid hO9
  have hs3 := hB9.size
  rw [World.size_alloc] at hs3
  have HX3 : Hid (Ext w w3) := Lib.hid ((HX2.out.alloc _).grown hB9 (by omega))
  have HRs3 : Hid (RowAt w3 (w.heap.size + 1) (cells8 (zeros32 16))) := Lib.hid ((HRs2.out.alloc _).below hB9 (by omega))
  have HE3 : Hid (l3 = [k.secret] ++ parts ++ [k.secret]) := Lib.hid (by rw [HL3.out, HL2.out])
  have hm3 : roomOf w3 (w.heap.size + 1) 0 16 = true := by rw [HRs3.out.room]; rfl
  have hlr := HRs3.out.lt
  clear hO9 hB9
  go_wp2_with (go_at_call 87; refine (HOf.out _ _ _ l3 _ rfl HE3.out (RowAt.ext HK.out HX3.out) (HO3.out.reads sE)).mono ?_; rintro e w' ⟨rfl, hxl⟩; obtain ⟨xo, rfl⟩ := hxl.asLater; clear hxl)
  exact post_row sel_ty Tryz.results31 rfl rfl (RowAt.stored (n := 16) (ds := dgC D) (HRs3.out.later _) (by rw [cells8_size]; rfl) rfl (by omega)) ⟨rfl, (by (repeat (first | with_reducible exact HX3.out | with_reducible exact Ext.refl _ | with_reducible refine Ext.drew ?_ | with_reducible refine Ext.drewN ?_ _ | with_reducible refine Ext.alloc ?_ _ | with_reducible refine Ext.onto ?_ _ | (with_reducible refine Ext.setCells ?_ ?_ _ _; rotate_left; focus (first | omega | (simp; done) | (simp; omega))) | (with_reducible refine Ext.setCell ?_ ?_ _; rotate_left; focus (first | omega | (simp; done) | (simp; omega))))))⟩
end Go.Proofs.YtpfhmcdcmepfdaaGreatDoor


set_option linter.unusedVariables false
set_option linter.unusedSimpArgs false
namespace Go.Proofs.YtpfhmcdcmepfdaaGreatDoor
open Go.RowKit Go.Shelf
open Go.Proofs

set_option maxRecDepth 100000 in
set_option maxHeartbeats 4000000 in
theorem rsealStamp_any (k : Ky) (s : St) (w : World) (h16 : s.body.length = 16) (hi : ∀ x ∈ stInts (named k s), i64 x) (hl : lens ([k.secret] ++ stParts (named k s) ++ [k.secret]) < 8796093022208) (hk : RKonst w) :
    Calls Tryz.prog 112 #[.agg (kyC k), .agg (stmC s)] w fun e w' => e = .returned (.agg (stmC (sealedSt k s))) ∧ Ext w w' := by
  have HI := Lib.hid (fun W : World => rsparts_any (named k s) W h16 hi)
  have HM := Lib.hid (fun (A : Option Addr) (c : Nat) (W : World) (h1 : ReadsStr W W.heap.size A (stParts (named k s))) (h2 : A = none → c = 0) (hx : Ext w W) => rmake_any k 41 A c (stParts (named k s)) W h1 h2 hl (RowAt.ext hk hx))
  obtain ⟨D, hD⟩ : ∃ D, makeN k 41 (stParts (named k s)) = D := ⟨_, rfl⟩
  have hsp : sealedSt k s = { named k s with seal_ := D } := by rw [← hD]; rfl
  have hfit : fitsRow 16 (dgC D) = true := by simp [fitsRow, dgC, Value.oneCell']
  have hsz : (dgC D).size = 16 := rfl
  rw [hD] at HM
  rw [hsp]
  clear h16 hi hl hk hD hsp
  go_enter Tryz.func112, Tryz.ntmps112
  go_upto_region 1 with (fail)
  refine wp_world (fun W => Ext w W ∧ RowAt W w.heap.size (kyC k) ∧ RowAt W (w.heap.size + 1) (stmC s) ∧ RowAt W (w.heap.size + 1 + 1) (stmC noSt)) ⟨(by (repeat (first | with_reducible exact Ext.refl _ | with_reducible exact Ext.refl _ | with_reducible refine Ext.drew ?_ | with_reducible refine Ext.drewN ?_ _ | with_reducible refine Ext.alloc ?_ _ | with_reducible refine Ext.onto ?_ _ | (with_reducible refine Ext.setCells ?_ ?_ _ _; rotate_left; focus (first | omega | (simp; done) | (simp; omega))) | (with_reducible refine Ext.setCell ?_ ?_ _; rotate_left; focus (first | omega | (simp; done) | (simp; omega)))))), ((RowAt.new _ _ _).alloc _).alloc _, RowAt.alloc (RowAt.newAt (by simp)) _, RowAt.newAt (by simp)⟩ ?_
  obtain ⟨B, hB⟩ : ∃ B, w.heap.size = B := ⟨_, rfl⟩
  rw [hB]
  rintro W1 ⟨x1, u0, u1, u2⟩
  have HX1 := Lib.hid x1
  have HU0 := Lib.hid u0
  have HU1 := Lib.hid u1
  have HU2 := Lib.hid u2
  have q0 : W1.cell? ⟨B, 0, none⟩ = some (.int .i64 k.party) := (u0.cell 0).trans (ky_g0 k)
  have q1 : W1.cell? ⟨B, 1, none⟩ = some (.int .i64 k.serial) := (u0.cell 1).trans (ky_g1 k)
  have q3 : W1.cell? ⟨B + 1, 23, none⟩ = some (.int .i64 s.gate) := (u1.cell 23).trans (stm_g23 s)
  have q4 : W1.cell? ⟨B + 1, 24, none⟩ = some (.int .i64 s.serial) := (u1.cell 24).trans (stm_g24 s)
  have f1 := u1.free 23
  have f2 := u1.free 24
  have hlu := u2.lt
  clear x1 u0 u1 u2
  go_upto_region 3 with (fail)
  refine wp_world (fun W => Ext w W ∧ RowAt W B (kyC k) ∧ RowAt W (B + 1) (stmC (named k s)) ∧ RowAt W (B + 1 + 1) (stmC noSt)) ⟨?_, ?_, ?_, ?_⟩ ?_
  · exact (HX1.out.setCell (by show _ ≤ B + 1; omega) _).setCell (by show _ ≤ B + 1; omega) _
  · exact (HU0.out.other (by show B ≠ B + 1; omega) _).other (by show B ≠ B + 1; omega) _
  · rw [← named_set]; exact (HU1.out.set 23 _).set 24 _
  · exact (HU2.out.other (by show B + 1 + 1 ≠ B + 1; omega) _).other (by show B + 1 + 1 ≠ B + 1; omega) _
  clear HX1 HU0 HU1 HU2 q0 q1 q3 q4 f1 f2 hlu
  rintro W2 ⟨x2, u0, u1, u2⟩
  have HX2 := Lib.hid x2
  have HU1 := Lib.hid u1
  have HU2 := Lib.hid u2
  have k0 : rowOf W2 B 0 5 = some (kyC k) := u0.all rfl (by omega)
  have k1 : rowOf W2 (B + 1) 0 41 = some (stmC (named k s)) := u1.all rfl (by omega)
  have hlu := u2.lt
  clear x2 u0 u1 u2
  refine wp_region_soft 5 (softsL [.eq (.agg (kyC k)), .eq (.agg (stmC (named k s))), readS (stParts (named k s)), .eq (.agg (dgC D)), .eq (.pointer (some ⟨B + 1, 25, none⟩))]) (by kernel_rfl) (by kernel_rfl) (lt_cons ?_ (lt_cons ?_ (lt_cons ?_ (lt_cons ?_ (lt_cons ?_ lt_none))))) ?_
  ·
    intro o ho xs W hW hd Q' hQ; obtain rfl := Option.some.inj ho; clear ho; simp only [fillAt, dstOf, List.getElem?_cons_zero, List.getElem?_cons_succ, Option.bind_some, Act.put, List.setIfInBounds_toArray, List.set_cons_zero, List.set_cons_succ, Nat.zero_add, Nat.reduceAdd] at hQ ⊢; have HQ := Lib.hid hQ; have HD := Lib.hid hd; have HW := Lib.hid hW; have hsW := hW.size; clear hQ hd hW
    have hc := (row_extW HW.out (b := B) (by omega) 0 5).trans k0
    go_wp2
    exact HQ.out _ _ (Ext.refl _) rfl
  ·
    intro o ho xs W hW hd Q' hQ; obtain rfl := Option.some.inj ho; clear ho; simp only [fillAt, dstOf, List.getElem?_cons_zero, List.getElem?_cons_succ, Option.bind_some, Act.put, List.setIfInBounds_toArray, List.set_cons_zero, List.set_cons_succ, Nat.zero_add, Nat.reduceAdd] at hQ ⊢; have HQ := Lib.hid hQ; have HD := Lib.hid hd; have HW := Lib.hid hW; have hsW := hW.size; clear hQ hd hW
    have hc := (row_extW HW.out (b := B + 1) (by omega) 0 41).trans k1
    go_wp2
    exact HQ.out _ _ (Ext.refl _) rfl
  ·
    intro o ho xs W hW hd Q' hQ; obtain rfl := Option.some.inj ho; clear ho; simp only [fillAt, dstOf, List.getElem?_cons_zero, List.getElem?_cons_succ, Option.bind_some, Act.put, List.setIfInBounds_toArray, List.set_cons_zero, List.set_cons_succ, Nat.zero_add, Nat.reduceAdd] at hQ ⊢; have HQ := Lib.hid hQ; have HD := Lib.hid hd; have HW := Lib.hid hW; have hsW := hW.size; clear hQ hd hW
    have hd1 : xs 1 = .agg (stmC (named k s)) := (HD.out 1 (of_decide_eq_true (by kernel_rfl)))
    generalize xs 1 = x1 at hd1 HQ ⊢; subst hd1
    go_wp2_with (go_at_call 150; refine (HI.out _).mono ?_; rintro e w1 ⟨A, c, rfl, h1, h2, hx⟩)
    exact HQ.out _ _ hx ⟨A, c, rfl, h1, h2⟩
  ·
    intro o ho xs W hW hd Q' hQ; obtain rfl := Option.some.inj ho; clear ho; simp only [fillAt, dstOf, List.getElem?_cons_zero, List.getElem?_cons_succ, Option.bind_some, Act.put, List.setIfInBounds_toArray, List.set_cons_zero, List.set_cons_succ, Nat.zero_add, Nat.reduceAdd] at hQ ⊢; have HQ := Lib.hid hQ; have HD := Lib.hid hd; have HW := Lib.hid hW; have hsW := hW.size; clear hQ hd hW
    have hd0 : xs 0 = .agg (kyC k) := (HD.out 0 (of_decide_eq_true (by kernel_rfl)))
    generalize xs 0 = x0 at hd0 HQ ⊢; subst hd0
    obtain ⟨A, c, h2, hr2, hz2⟩ : (readS (stParts (named k s))).S (xs 2) W := (HD.out 2 (of_decide_eq_true (by kernel_rfl)))
    generalize xs 2 = x2 at h2 HQ ⊢; subst h2
    go_wp2_with (go_at_call 31; refine (HM.out A c _ hr2 hz2 (HX2.out.trans HW.out)).mono ?_; rintro e w1 ⟨rfl, hx⟩)
    exact HQ.out _ _ hx rfl
  ·
    intro o ho xs W hW hd Q' hQ; obtain rfl := Option.some.inj ho; clear ho; simp only [fillAt, dstOf, List.getElem?_cons_zero, List.getElem?_cons_succ, Option.bind_some, Act.put, List.setIfInBounds_toArray, List.set_cons_zero, List.set_cons_succ, Nat.zero_add, Nat.reduceAdd] at hQ ⊢; have HQ := Lib.hid hQ; have HD := Lib.hid hd; have HW := Lib.hid hW; have hsW := hW.size; clear hQ hd hW
    go_wp2
    exact HQ.out _ _ (Ext.refl _) rfl
  intro xs W3 hW hS
  have h3 : xs 3 = .agg (dgC D) := hS 3 (by omega)
  have h4 : xs 4 = .pointer (some ⟨B + 1, 25, none⟩) := hS 4 (by omega)
  simp only [fillAt, dstOf, List.getElem?_cons_zero, List.getElem?_cons_succ, Option.bind_some, Act.put, List.setIfInBounds_toArray, List.set_cons_zero, List.set_cons_succ, Nat.zero_add, Nat.reduceAdd, List.drop_succ_cons, List.drop_zero, List.drop_nil]
  generalize xs 3 = x3 at *; subst h3
  generalize xs 4 = x4 at *; subst h4
  have HX3 := Lib.hid (HX2.out.trans hW)
  have HU13 := Lib.hid (HU1.out.ext hW)
  have HU23 := Lib.hid (HU2.out.ext hW)
  have m1 : roomOf W3 (B + 1) 25 16 = true := by rw [HU13.out.room]; rfl
  have hl3 := hW.size
  clear hS hW k0 k1 HU1 HU2 HX2
  go_upto_region 4 with (fail)
  refine wp_world (fun W => Ext w W ∧ RowAt W (B + 1) (stmC { named k s with seal_ := D }) ∧ RowAt W (B + 1 + 1) (stmC noSt)) ⟨?_, ?_, ?_⟩ ?_
  · exact HX3.out.setCells (by omega) _ _
  · have h := HU13.out.sets 25 (dgC D).toList
    rw [seal_set] at h
    exact h
  · exact HU23.out.others (by omega) _ _
  clear HX3 HU13 HU23 m1 hl3 hlu
  rintro W4 ⟨x4, u1, u2⟩
  have HX4 := Lib.hid x4
  have HU2 := Lib.hid u2
  have hws := stm_size { named k s with seal_ := D }
  have k1 : rowOf W4 (B + 1) 0 41 = some (stmC { named k s with seal_ := D }) := u1.all hws.symm (by omega)
  have hft := stm_fits { named k s with seal_ := D }
  have m2 : roomOf W4 (B + 1 + 1) 0 41 = true := by rw [u2.room]; rfl
  have hlu := u2.lt
  clear x4 u1 u2
  go_wp2
  exact post_row stm_ty Tryz.results112 rfl rfl (RowAt.stored (n := 41) HU2.out rfl rfl (by omega)) ⟨rfl, (by (repeat (first | with_reducible exact HX4.out | with_reducible exact Ext.refl _ | with_reducible refine Ext.drew ?_ | with_reducible refine Ext.drewN ?_ _ | with_reducible refine Ext.alloc ?_ _ | with_reducible refine Ext.onto ?_ _ | (with_reducible refine Ext.setCells ?_ ?_ _ _; rotate_left; focus (first | omega | (simp; done) | (simp; omega))) | (with_reducible refine Ext.setCell ?_ ?_ _; rotate_left; focus (first | omega | (simp; done) | (simp; omega))))))⟩
end Go.Proofs.YtpfhmcdcmepfdaaGreatDoor


set_option linter.unusedVariables false
set_option linter.unusedSimpArgs false
namespace Go.Proofs.YtpfhmcdcmepfdaaGreatDoor
open Go.RowKit Go.Shelf
open Go.Proofs

def ssC (s : St) (e : Int) : Array Value := (stmL s ++ [Value.int .i64 e]).toArray
theorem ssd_ty : RowTy Tryz.prog 41 42 := ⟨by kernel_rfl, by kernel_rfl⟩
theorem ssd_ld (w : World) (b o : Nat) : (rowLoad 41 42 (.pointer (some ⟨b, o, none⟩))).run Tryz.prog w = rowLoadR Tryz.prog w 41 42 b o (rowOf w b o 42) := run_rowLoad ssd_ty w b o
theorem ssd_st (w : World) (b o : Nat) (cells : Array Value) : (rowStore 41 42 (.pointer (some ⟨b, o, none⟩)) (.agg cells)).run Tryz.prog w = rowStoreR Tryz.prog w 41 42 b o cells (roomOf w b o 42 && fitsRow 42 cells) := run_rowStore ssd_ty w b o cells
theorem ssd_lv (w : World) (b o : Nat) : (loadVar 41 ⟨b, o, none⟩).run Tryz.prog w = varRes Tryz.prog w 41 b o (rowOf w b o 42) := loadVar_row ssd_ty w b o
theorem ssd_al (w : World) : (rowAlloc 41).run Tryz.prog w = .ok (.value (.pointer (some ⟨w.heap.size, 0, none⟩))) (w.alloc (.cells (ssC noSt 0) 41)) := run_rowAlloc (by kernel_rfl) w
theorem ssd_xl (ρ : Operand → Value) (dst : Option Tmp) (x : Operand) (t : TypeId) (pos : String) (after : Array Edge) (guard : Option (Nat × Bool)) : execOp ρ { dst, op := .load 41 x, type := t, pos, after, guard } = rowLoad 41 42 (ρ x) := rfl
theorem ssd_xs (ρ : Operand → Value) (dst : Option Tmp) (x y : Operand) (t : TypeId) (pos : String) (after : Array Edge) (guard : Option (Nat × Bool)) : execOp ρ { dst, op := .store 41 x y, type := t, pos, after, guard } = rowStore 41 42 (ρ x) (ρ y) := rfl
theorem ssd_xa (ρ : Operand → Value) (dst : Option Tmp) (t : TypeId) (pos : String) (after : Array Edge) (guard : Option (Nat × Bool)) : execOp ρ { dst, op := .alloc 41, type := t, pos, after, guard } = rowAlloc 41 := rfl
attribute [go_sem ↓] ssd_xl ssd_xs ssd_xa
attribute [go_sem] ssd_ld ssd_st ssd_al
theorem ss_size (s : St) (e : Int) : (ssC s e).size = 42 := rfl
theorem ss_all (s : St) (e : Int) : rowSub (ssC s e) 0 42 = some (ssC s e) := rowSub_all _ _ rfl
theorem ss_fits (s : St) (e : Int) : fitsRow 42 (ssC s e) = true := by kernel_rfl
theorem ss_stm (s : St) (e : Int) : rowSub (ssC s e) 0 41 = some (stmC s) := by kernel_rfl
theorem ss_g41 (s : St) (e : Int) : (ssC s e)[41]? = some (.int .i64 e) := by kernel_rfl
attribute [go_sem] ss_size ss_all ss_fits ss_stm ss_g41
def ssB1 (x : Value) : Sem Next := do pure (.value (← Instr.build 41 #[(1, x)]))
theorem ssB1_x (ρ : Operand → Value) (dst : Option Tmp) (x : Operand) (t : TypeId) (pos : String) (after : Array Edge) (guard : Option (Nat × Bool)) : execOp ρ { dst, op := .build 41 #[(1, x)], type := t, pos, after, guard } = ssB1 (ρ x) := by kernel_rfl
theorem ssB1_run (e : Int) (W : World) : (ssB1 (.int .i64 e)).run Tryz.prog W = .ok (.value (.agg (ssC noSt e))) W := by kernel_rfl
def ssB0 (x : Value) : Sem Next := do pure (.value (← Instr.build 41 #[(0, x)]))
theorem ssB0_x (ρ : Operand → Value) (dst : Option Tmp) (x : Operand) (t : TypeId) (pos : String) (after : Array Edge) (guard : Option (Nat × Bool)) : execOp ρ { dst, op := .build 41 #[(0, x)], type := t, pos, after, guard } = ssB0 (ρ x) := by kernel_rfl
theorem ssB0_run (s : St) (W : World) : (ssB0 (.agg (stmC s))).run Tryz.prog W = .ok (.value (.agg (ssC s 0))) W := by kernel_rfl
attribute [go_sem ↓] ssB1_x ssB0_x
attribute [go_sem] ssB1_run ssB0_run
/-- What sealed answers, in both sides' terms. -/
noncomputable def sealedIn (k : Ky) (addr var : ByteArray) (a : An) (n v : Clk) : St × Int :=
  if Ad.canonB (bsT addr) = true then if listedB a.tags = true then if v.hi < n.lo then (noSt, 9) else (sealedSt k (fromAn addr var a n.lo v.hi), 0) else (noSt, 3) else (noSt, 3)
theorem sealedIn_is (k : Ky) (addr var : ByteArray) (a : An) (n v : Clk) : stampIn k addr var a n v ⟨(Ad.canonT (bsT addr)).toArray⟩ (Ad.canonE (bsT addr)) = sealedIn k addr var a n v := by
  unfold stampIn sealedIn
  by_cases h0 : Ad.canonE (bsT addr) = 0
  · rw [if_pos h0]
    by_cases h1 : Ad.canonT (bsT addr) = bsT addr
    · have hb : Ad.canonB (bsT addr) = true := by unfold Ad.canonB; rw [decide_eq_true h0, decide_eq_true h1]; rfl
      rw [if_pos hb, if_pos (by rw [h1]; exact bs_mk addr)]
    · have hb : ¬ Ad.canonB (bsT addr) = true := by unfold Ad.canonB; rw [decide_eq_false h1]; simp
      rw [if_neg hb, if_neg (fun h => h1 (by
        have := congrArg bsT h
        exact this))]
  · have hb : ¬ Ad.canonB (bsT addr) = true := by unfold Ad.canonB; rw [decide_eq_false h0]; simp
    rw [if_neg h0, if_neg hb]
set_option maxRecDepth 100000 in
set_option maxHeartbeats 4000000 in
theorem rsealed_any (k : Ky) (addr var : ByteArray) (a : An) (n v : Clk) (w : World) (hs : addr.size ≤ 900000) (h16 : a.body.length = 16) (hi : ∀ x ∈ stInts (named k (fromAn addr var a n.lo v.hi)), i64 x) (hl : lens ([k.secret] ++ stParts (named k (fromAn addr var a n.lo v.hi)) ++ [k.secret]) < 8796093022208) (ht : a.tags.size ≤ 900000) (hk : RKonst w) :
    Calls Tryz.prog 53 #[.agg (kyC k), .string addr, .string var, .agg (anC a), .agg (clkC n), .agg (clkC v)] w fun e w' => e = .returned (.agg (ssC (sealedIn k addr var a n v).1 (sealedIn k addr var a n v).2)) ∧ Ext w w' := by
  have HI := Lib.hid (fun (W : World) (h3 : RKonst W) => rsealStamp_any k (fromAn addr var a n.lo v.hi) W h16 hi hl h3)
  have HC := Lib.hid (fun W => rcanon_any addr W hs)
  have HT := Lib.hid (fun W : World => rlisted_any a.tags W (by omega))
  have HK := Lib.hid hk
  obtain ⟨R, hR⟩ : ∃ R, sealedIn k addr var a n v = R := ⟨_, rfl⟩
  have HR := Lib.hid hR
  rw [hR]
  have hfk := ky_fits k
  have hfa := an_fits a
  generalize hT : sealedSt k (fromAn addr var a n.lo v.hi) = T at *
  clear h16 hi hl ht hk hR
  go_enter Tryz.func53, Tryz.ntmps53
  go_upto_region 1 with (fail)
  refine wp_world (fun W => Ext w W ∧ RowAt W w.heap.size (kyC k) ∧ RowAt W (w.heap.size + 1) (anC a) ∧ RowAt W (w.heap.size + 1 + 1) (clkC n) ∧ RowAt W (w.heap.size + 1 + 1 + 1) (clkC v) ∧ RowAt W (w.heap.size + 1 + 1 + 1 + 1) (ssC noSt 0)) ⟨(by (repeat (first | with_reducible exact Ext.refl _ | with_reducible exact Ext.refl _ | with_reducible refine Ext.drew ?_ | with_reducible refine Ext.drewN ?_ _ | with_reducible refine Ext.alloc ?_ _ | with_reducible refine Ext.onto ?_ _ | (with_reducible refine Ext.setCells ?_ ?_ _ _; rotate_left; focus (first | omega | (simp; done) | (simp; omega))) | (with_reducible refine Ext.setCell ?_ ?_ _; rotate_left; focus (first | omega | (simp; done) | (simp; omega)))))), ?_, ?_, ?_, ?_, ?_⟩ ?_
  · exact ((((RowAt.new _ _ _).alloc _).alloc _).alloc _).alloc _
  · exact (((RowAt.newAt (by simp)).alloc _).alloc _).alloc _
  · exact ((RowAt.newAt (by simp)).alloc _).alloc _
  · exact (RowAt.newAt (by simp)).alloc _
  · exact RowAt.newAt (by simp)
  obtain ⟨B, hB⟩ : ∃ B, w.heap.size = B := ⟨_, rfl⟩
  rw [hB]
  rintro W1 ⟨x1, u0, u1, u2, u3, u4⟩
  have HX1 := Lib.hid x1
  have HU4 := Lib.hid u4
  have HU0 := Lib.hid u0
  have k0 : rowOf W1 B 0 5 = some (kyC k) := u0.all rfl (by omega)
  have a0 : W1.cell? ⟨B + 1, 0, none⟩ = some (.int .i64 a.status) := u1.cell 0
  have a1 : W1.cell? ⟨B + 1, 1, none⟩ = some (.int .i64 a.size) := u1.cell 1
  have a2 : rowOf W1 (B + 1) 2 16 = some (dgC a.body) := by rw [u1.row, if_neg (by omega), an_body]
  have a3 : W1.cell? ⟨B + 1, 19, none⟩ = some (.string a.tags) := u1.cell 19
  have n0 : W1.cell? ⟨B + 1 + 1, 0, none⟩ = some (.int .i64 n.lo) := u2.cell 0
  have v1 : W1.cell? ⟨B + 1 + 1 + 1, 1, none⟩ = some (.int .i64 v.hi) := u3.cell 1
  have m4 : roomOf W1 (B + 1 + 1 + 1 + 1) 0 42 = true := by rw [u4.room]; rfl
  have hlu := u4.lt
  clear x1 u0 u1 u2 u3 u4
  cases b1 : Ad.canonB (bsT addr) with
  | true =>
    have HB1 := Lib.hid b1
    cases b2 : listedB a.tags with
    | true =>
      have HB2 := Lib.hid b2
      by_cases b3 : v.hi < n.lo
      · have HR' : Hid (R = (noSt, 9)) := Lib.hid (by rw [← HR.out]; unfold sealedIn; rw [if_pos b1, if_pos b2, if_pos b3])
        clear b1 b2 HR hT HI
        go_wp2_with (first
          | (go_at_call 110; refine (HC.out _).mono ?_; rintro e w' ⟨rfl, hxl⟩; rw [HB1.out]; obtain ⟨xn, rfl⟩ := hxl.asLater; clear hxl)
          | (go_at_call 111; refine (HT.out _).mono ?_; rintro e w' ⟨rfl, hxl⟩; rw [HB2.out]; obtain ⟨xo, rfl⟩ := hxl.asLater; clear hxl)
          | (go_at_call 112; refine (HI.out _ (RowAt.ext HK.out (by (repeat (first | with_reducible exact HX1.out | with_reducible exact Ext.refl _ | with_reducible refine Ext.drew ?_ | with_reducible refine Ext.drewN ?_ _ | with_reducible refine Ext.alloc ?_ _ | with_reducible refine Ext.onto ?_ _ | (with_reducible refine Ext.setCells ?_ ?_ _ _; rotate_left; focus (first | omega | (simp; done) | (simp; omega))) | (with_reducible refine Ext.setCell ?_ ?_ _; rotate_left; focus (first | omega | (simp; done) | (simp; omega)))))))).mono ?_; rintro e w' ⟨rfl, hxl⟩; obtain ⟨xp, rfl⟩ := hxl.asLater; clear hxl))
        rw [HR'.out]
        exact post_row ssd_ty Tryz.results53 rfl rfl (RowAt.stored (n := 42) (ds := ssC noSt 9) (HU4.out.later _) rfl rfl (by omega)) ⟨rfl, (by (repeat (first | with_reducible exact HX1.out | with_reducible exact Ext.refl _ | with_reducible refine Ext.drew ?_ | with_reducible refine Ext.drewN ?_ _ | with_reducible refine Ext.alloc ?_ _ | with_reducible refine Ext.onto ?_ _ | (with_reducible refine Ext.setCells ?_ ?_ _ _; rotate_left; focus (first | omega | (simp; done) | (simp; omega))) | (with_reducible refine Ext.setCell ?_ ?_ _; rotate_left; focus (first | omega | (simp; done) | (simp; omega))))))⟩
      · have HR' : Hid (R = (T, 0)) := Lib.hid (by rw [← HR.out]; unfold sealedIn; rw [if_pos b1, if_pos b2, if_neg b3, hT])
        have hfT := stm_fits T
        have hfF := stm_fits (fromAn addr var a n.lo v.hi)
        clear b1 b2 HR hT
        go_upto_region 7 with (first
          | (go_at_call 110; refine (HC.out _).mono ?_; rintro e w' ⟨rfl, hxl⟩; rw [HB1.out]; obtain ⟨xn, rfl⟩ := hxl.asLater; clear hxl)
          | (go_at_call 111; refine (HT.out _).mono ?_; rintro e w' ⟨rfl, hxl⟩; rw [HB2.out]; obtain ⟨xo, rfl⟩ := hxl.asLater; clear hxl)
          | (go_at_call 112; refine (HI.out _ (RowAt.ext HK.out (by (repeat (first | with_reducible exact HX1.out | with_reducible exact Ext.refl _ | with_reducible refine Ext.drew ?_ | with_reducible refine Ext.drewN ?_ _ | with_reducible refine Ext.alloc ?_ _ | with_reducible refine Ext.onto ?_ _ | (with_reducible refine Ext.setCells ?_ ?_ _ _; rotate_left; focus (first | omega | (simp; done) | (simp; omega))) | (with_reducible refine Ext.setCell ?_ ?_ _; rotate_left; focus (first | omega | (simp; done) | (simp; omega)))))))).mono ?_; rintro e w' ⟨rfl, hxl⟩; obtain ⟨xp, rfl⟩ := hxl.asLater; clear hxl))
        refine wp_world (fun W => Ext w W ∧ RowAt W B (kyC k) ∧ RowAt W (B + 1 + 1 + 1 + 1) (ssC noSt 0) ∧ RowAt W (W1.heap.size + (xn.comp xo).n) (stmC (fromAn addr var a n.lo v.hi))) ⟨(by (repeat (first | with_reducible exact HX1.out | with_reducible exact Ext.refl _ | with_reducible refine Ext.drew ?_ | with_reducible refine Ext.drewN ?_ _ | with_reducible refine Ext.alloc ?_ _ | with_reducible refine Ext.onto ?_ _ | (with_reducible refine Ext.setCells ?_ ?_ _ _; rotate_left; focus (first | omega | (simp; done) | (simp; omega))) | (with_reducible refine Ext.setCell ?_ ?_ _; rotate_left; focus (first | omega | (simp; done) | (simp; omega)))))), ?_, ?_, ?_⟩ ?_
        · exact ((HU0.out.later _).alloc _).others (by omega) _ _
        · exact ((HU4.out.later _).alloc _).others (by omega) _ _
        · exact (RowAt.newAt (by simp [later_size])).store rfl
        obtain ⟨g, hg⟩ : ∃ g, W1.heap.size + (xn.comp xo).n = g := ⟨_, rfl⟩
        rw [hg]
        clear hg HX1 HU4 HU0 k0 a0 a1 a2 a3 n0 v1 m4 hlu
        rintro W2 ⟨x2, u0, u4, u5⟩
        have HX1 := Lib.hid x2
        have HU4 := Lib.hid u4
        have k0 : rowOf W2 B 0 5 = some (kyC k) := u0.all rfl (by omega)
        have t0 : rowOf W2 g 0 41 = some (stmC (fromAn addr var a n.lo v.hi)) := u5.all rfl (by omega)
        have m4 : roomOf W2 (B + 1 + 1 + 1 + 1) 0 42 = true := by rw [u4.room]; rfl
        have hlu := u4.lt
        have hlg := u5.lt
        clear x2 u0 u4 u5
        go_wp2_with (first
          | (go_at_call 110; refine (HC.out _).mono ?_; rintro e w' ⟨rfl, hxl⟩; rw [HB1.out]; obtain ⟨xn, rfl⟩ := hxl.asLater; clear hxl)
          | (go_at_call 111; refine (HT.out _).mono ?_; rintro e w' ⟨rfl, hxl⟩; rw [HB2.out]; obtain ⟨xo, rfl⟩ := hxl.asLater; clear hxl)
          | (go_at_call 112; refine (HI.out _ (RowAt.ext HK.out (by (repeat (first | with_reducible exact HX1.out | with_reducible exact Ext.refl _ | with_reducible refine Ext.drew ?_ | with_reducible refine Ext.drewN ?_ _ | with_reducible refine Ext.alloc ?_ _ | with_reducible refine Ext.onto ?_ _ | (with_reducible refine Ext.setCells ?_ ?_ _ _; rotate_left; focus (first | omega | (simp; done) | (simp; omega))) | (with_reducible refine Ext.setCell ?_ ?_ _; rotate_left; focus (first | omega | (simp; done) | (simp; omega)))))))).mono ?_; rintro e w' ⟨rfl, hxl⟩; obtain ⟨xp, rfl⟩ := hxl.asLater; clear hxl))
        rw [HR'.out]
        exact post_row ssd_ty Tryz.results53 rfl rfl (RowAt.stored (n := 42) (ds := ssC T 0) (HU4.out.later _) rfl rfl (by omega)) ⟨rfl, (by (repeat (first | with_reducible exact HX1.out | with_reducible exact Ext.refl _ | with_reducible refine Ext.drew ?_ | with_reducible refine Ext.drewN ?_ _ | with_reducible refine Ext.alloc ?_ _ | with_reducible refine Ext.onto ?_ _ | (with_reducible refine Ext.setCells ?_ ?_ _ _; rotate_left; focus (first | omega | (simp; done) | (simp; omega))) | (with_reducible refine Ext.setCell ?_ ?_ _; rotate_left; focus (first | omega | (simp; done) | (simp; omega))))))⟩
    | false =>
      have HB2 := Lib.hid b2
      have HR' : Hid (R = (noSt, 3)) := Lib.hid (by rw [← HR.out]; unfold sealedIn; rw [if_pos b1, if_neg (by rw [b2]; decide)])
      clear b1 b2 HR hT HI
      go_wp2_with (first
        | (go_at_call 110; refine (HC.out _).mono ?_; rintro e w' ⟨rfl, hxl⟩; rw [HB1.out]; obtain ⟨xn, rfl⟩ := hxl.asLater; clear hxl)
        | (go_at_call 111; refine (HT.out _).mono ?_; rintro e w' ⟨rfl, hxl⟩; rw [HB2.out]; obtain ⟨xo, rfl⟩ := hxl.asLater; clear hxl)
        | (go_at_call 112; refine (HI.out _ (RowAt.ext HK.out (by (repeat (first | with_reducible exact HX1.out | with_reducible exact Ext.refl _ | with_reducible refine Ext.drew ?_ | with_reducible refine Ext.drewN ?_ _ | with_reducible refine Ext.alloc ?_ _ | with_reducible refine Ext.onto ?_ _ | (with_reducible refine Ext.setCells ?_ ?_ _ _; rotate_left; focus (first | omega | (simp; done) | (simp; omega))) | (with_reducible refine Ext.setCell ?_ ?_ _; rotate_left; focus (first | omega | (simp; done) | (simp; omega)))))))).mono ?_; rintro e w' ⟨rfl, hxl⟩; obtain ⟨xp, rfl⟩ := hxl.asLater; clear hxl))
      rw [HR'.out]
      exact post_row ssd_ty Tryz.results53 rfl rfl (RowAt.stored (n := 42) (ds := ssC noSt 3) (HU4.out.later _) rfl rfl (by omega)) ⟨rfl, (by (repeat (first | with_reducible exact HX1.out | with_reducible exact Ext.refl _ | with_reducible refine Ext.drew ?_ | with_reducible refine Ext.drewN ?_ _ | with_reducible refine Ext.alloc ?_ _ | with_reducible refine Ext.onto ?_ _ | (with_reducible refine Ext.setCells ?_ ?_ _ _; rotate_left; focus (first | omega | (simp; done) | (simp; omega))) | (with_reducible refine Ext.setCell ?_ ?_ _; rotate_left; focus (first | omega | (simp; done) | (simp; omega))))))⟩
  | false =>
    have HB1 := Lib.hid b1
    have HR' : Hid (R = (noSt, 3)) := Lib.hid (by rw [← HR.out]; unfold sealedIn; rw [if_neg (by rw [b1]; decide)])
    clear b1 HR hT HI
    go_wp2_with (first
      | (go_at_call 110; refine (HC.out _).mono ?_; rintro e w' ⟨rfl, hxl⟩; rw [HB1.out]; obtain ⟨xn, rfl⟩ := hxl.asLater; clear hxl)
      | (go_at_call 111; refine (HT.out _).mono ?_; rintro e w' ⟨rfl, hxl⟩; rw [HB2.out]; obtain ⟨xo, rfl⟩ := hxl.asLater; clear hxl)
      | (go_at_call 112; refine (HI.out _ (RowAt.ext HK.out (by (repeat (first | with_reducible exact HX1.out | with_reducible exact Ext.refl _ | with_reducible refine Ext.drew ?_ | with_reducible refine Ext.drewN ?_ _ | with_reducible refine Ext.alloc ?_ _ | with_reducible refine Ext.onto ?_ _ | (with_reducible refine Ext.setCells ?_ ?_ _ _; rotate_left; focus (first | omega | (simp; done) | (simp; omega))) | (with_reducible refine Ext.setCell ?_ ?_ _; rotate_left; focus (first | omega | (simp; done) | (simp; omega)))))))).mono ?_; rintro e w' ⟨rfl, hxl⟩; obtain ⟨xp, rfl⟩ := hxl.asLater; clear hxl))
    rw [HR'.out]
    exact post_row ssd_ty Tryz.results53 rfl rfl (RowAt.stored (n := 42) (ds := ssC noSt 3) (HU4.out.later _) rfl rfl (by omega)) ⟨rfl, (by (repeat (first | with_reducible exact HX1.out | with_reducible exact Ext.refl _ | with_reducible refine Ext.drew ?_ | with_reducible refine Ext.drewN ?_ _ | with_reducible refine Ext.alloc ?_ _ | with_reducible refine Ext.onto ?_ _ | (with_reducible refine Ext.setCells ?_ ?_ _ _; rotate_left; focus (first | omega | (simp; done) | (simp; omega))) | (with_reducible refine Ext.setCell ?_ ?_ _; rotate_left; focus (first | omega | (simp; done) | (simp; omega))))))⟩
end Go.Proofs.YtpfhmcdcmepfdaaGreatDoor


set_option linter.unusedVariables false
set_option linter.unusedSimpArgs false
namespace Go.Proofs.YtpfhmcdcmepfdaaGreatDoor
open Go.RowKit Go.Shelf
open Go.Proofs

noncomputable def stampS (k : Ky) (addr var : ByteArray) (a : An) (n v : Clk) : St × Int := if goodS k a n v = true then sealedIn k addr var a n v else (noSt, 1)
set_option maxRecDepth 100000 in
set_option maxHeartbeats 8000000 in
theorem rstamp_any (k : Ky) (addr var : ByteArray) (a : An) (n v : Clk) (w : World) (hs : addr.size ≤ 900000) (h16 : a.body.length = 16) (hby : Byt a.body) (hsc : k.secret.size < 9223372036854775808) (hab : a.bytes.size ≤ 140737488351200)
    (hg : goodS k a n v = true → (∀ x ∈ stInts (named k (fromAn addr var a n.lo v.hi)), i64 x) ∧ lens ([k.secret] ++ stParts (named k (fromAn addr var a n.lo v.hi)) ++ [k.secret]) < 8796093022208 ∧ a.tags.size ≤ 900000) (hk : RKonst w) :
    Calls Tryz.prog 13 #[.agg (kyC k), .string addr, .string var, .agg (anC a), .agg (clkC n), .agg (clkC v)] w fun e w' => e = .returned (.agg (ssC (stampS k addr var a n v).1 (stampS k addr var a n v).2)) ∧ Ext w w' := by
  have HK := Lib.hid hk
  obtain ⟨D, hD⟩ : ∃ D, dgN a.bytes = D := ⟨_, rfl⟩
  have HDg := Lib.hid (fun (W : World) (hx : Ext w W) => rdig_d a.bytes D W (RowAt.ext HK.out hx) hab hD)
  have hneq := neq_dd (a := a.body) (b := D) h16 (by rw [← hD]; exact dgN_len _) hby (by rw [← hD]; exact dgN_byt _)
  have HG : Hid (goodS k a n v = (okKy k && okClk n && okClk v && !a.same && (a.size == (a.bytes.size : Int)) && decide (a.body = D))) := Lib.hid (by rw [← hD]; rfl)
  have HS0 := Lib.hid (fun (W : World) (hx : Ext w W) (h : goodS k a n v = true) => rsealed_any k addr var a n v W hs h16 (hg h).1 (hg h).2.1 (hg h).2.2 (RowAt.ext HK.out hx))
  have HFt : Hid (∀ W, Calls Tryz.prog 51 #[.agg (kyC k), .agg #[.int .i64 n.lo, .int .i64 n.hi], .agg #[.int .i64 v.lo, .int .i64 v.hi]] W fun e w' => e = .returned (.bool (okKy k && okClk n && okClk v)) ∧ Ext W w') := Lib.hid (fun W => rfit_any k n v W hsc)
  obtain ⟨R, hR⟩ : ∃ R, sealedIn k addr var a n v = R := ⟨_, rfl⟩
  have HO : Hid (stampS k addr var a n v = if goodS k a n v = true then R else (noSt, 1)) := Lib.hid (by rw [← hR]; rfl)
  rw [hR] at HS0
  replace HS0 : Hid (∀ (W : World) (hx : Ext w W) (h : goodS k a n v = true), Calls Tryz.prog 53 #[.agg (kyC k), .string addr, .string var, .agg (anC a), .agg #[.int .i64 n.lo, .int .i64 n.hi], .agg #[.int .i64 v.lo, .int .i64 v.hi]] W fun e w' => e = .returned (.agg (ssC R.1 R.2)) ∧ Ext W w') := HS0
  generalize stampS k addr var a n v = O at *
  generalize goodS k a n v = G at *
  generalize (okKy k && okClk n && okClk v) = F at *
  have hfk := ky_fits k
  have hfa := an_fits a
  clear hR h16 hby hg hk hD hsc
  go_enter Tryz.func13, Tryz.ntmps13
  go_upto_region 1 with (fail)
  refine wp_world (fun W => Ext w W ∧ RowAt W w.heap.size (kyC k) ∧ RowAt W (w.heap.size + 1) (anC a) ∧ RowAt W (w.heap.size + 1 + 1) #[.int .i64 n.lo, .int .i64 n.hi] ∧ RowAt W (w.heap.size + 1 + 1 + 1) #[.int .i64 v.lo, .int .i64 v.hi] ∧ RowAt W (w.heap.size + 1 + 1 + 1 + 1) (ssC noSt 0)) ⟨(by (repeat (first | with_reducible exact Ext.refl _ | with_reducible exact Ext.refl _ | with_reducible refine Ext.drew ?_ | with_reducible refine Ext.drewN ?_ _ | with_reducible refine Ext.alloc ?_ _ | with_reducible refine Ext.onto ?_ _ | (with_reducible refine Ext.setCells ?_ ?_ _ _; rotate_left; focus (first | omega | (simp; done) | (simp; omega))) | (with_reducible refine Ext.setCell ?_ ?_ _; rotate_left; focus (first | omega | (simp; done) | (simp; omega)))))), ?_, ?_, ?_, ?_, ?_⟩ ?_
  · exact ((((RowAt.new _ _ _).alloc _).alloc _).alloc _).alloc _
  · exact (((RowAt.newAt (by simp)).alloc _).alloc _).alloc _
  · exact ((RowAt.newAt (by simp)).alloc _).alloc _
  · exact (RowAt.newAt (by simp)).alloc _
  · exact RowAt.newAt (by simp)
  obtain ⟨B, hB⟩ : ∃ B, w.heap.size = B := ⟨_, rfl⟩
  rw [hB]
  rintro W1 ⟨x1, u0, u1, u2, u3, u4⟩
  have HX1 := Lib.hid x1
  have HU4 := Lib.hid u4
  have k0 : rowOf W1 B 0 5 = some (kyC k) := u0.all rfl (by omega)
  have a0 : rowOf W1 (B + 1) 0 21 = some (anC a) := u1.all rfl (by omega)
  have a1 : W1.cell? ⟨B + 1, 1, none⟩ = some (.int .i64 a.size) := u1.cell 1
  have a2 : rowOf W1 (B + 1) 2 16 = some (dgC a.body) := by rw [u1.row, if_neg (by omega), an_body]
  have a3 : W1.cell? ⟨B + 1, 18, none⟩ = some (.string a.bytes) := u1.cell 18
  have a4 : W1.cell? ⟨B + 1, 20, none⟩ = some (.bool a.same) := u1.cell 20
  have n0 : W1.cell? ⟨B + 1 + 1, 0, none⟩ = some (.int .i64 n.lo) := u2.cell 0
  have n1 : W1.cell? ⟨B + 1 + 1, 1, none⟩ = some (.int .i64 n.hi) := u2.cell 1
  have v0 : W1.cell? ⟨B + 1 + 1 + 1, 0, none⟩ = some (.int .i64 v.lo) := u3.cell 0
  have v1 : W1.cell? ⟨B + 1 + 1 + 1, 1, none⟩ = some (.int .i64 v.hi) := u3.cell 1
  have m4 : roomOf W1 (B + 1 + 1 + 1 + 1) 0 42 = true := by rw [u4.room]; rfl
  have hlu := u4.lt
  clear x1 u0 u1 u2 u3 u4
  cases F with
  | false =>
    have HR' : Hid (O = (noSt, 1)) := Lib.hid (by rw [HO.out, HG.out]; rfl)
    clear HO HS0 HG
    go_wp2_with (first
      | (go_at_call 51; refine (HFt.out _).mono ?_; rintro e w' ⟨rfl, hxl⟩; obtain ⟨xn, rfl⟩ := hxl.asLater; clear hxl)
      | (go_at_call 53; refine (HSl.out _ (by (repeat (first | with_reducible exact HX1.out | with_reducible exact Ext.refl _ | with_reducible refine Ext.drew ?_ | with_reducible refine Ext.drewN ?_ _ | with_reducible refine Ext.alloc ?_ _ | with_reducible refine Ext.onto ?_ _ | (with_reducible refine Ext.setCells ?_ ?_ _ _; rotate_left; focus (first | omega | (simp; done) | (simp; omega))) | (with_reducible refine Ext.setCell ?_ ?_ _; rotate_left; focus (first | omega | (simp; done) | (simp; omega))))))).mono ?_; rintro e w' ⟨rfl, hxl⟩; obtain ⟨xp, rfl⟩ := hxl.asLater; clear hxl))
    refine wp_region_later (by kernel_rfl) (by kernel_rfl) ?_
    repeat (first | go_big_quiet_step ((go_at_call 52; exact quietE (HDg.out _ (by first | exact (HX1.out.onto _).onto _ | exact HX1.out.onto _)))) | quiet_step ((go_at_call 52; exact quietE (HDg.out _ (by first | exact (HX1.out.onto _).onto _ | exact HX1.out.onto _)))))
    refine wpQuiet_nil ?_
    rintro _ ⟨xq, rfl⟩
    go_wp2_with (first
      | (go_at_call 51; refine (HFt.out _).mono ?_; rintro e w' ⟨rfl, hxl⟩; obtain ⟨xn, rfl⟩ := hxl.asLater; clear hxl)
      | (go_at_call 53; refine (HSl.out _ (by (repeat (first | with_reducible exact HX1.out | with_reducible exact Ext.refl _ | with_reducible refine Ext.drew ?_ | with_reducible refine Ext.drewN ?_ _ | with_reducible refine Ext.alloc ?_ _ | with_reducible refine Ext.onto ?_ _ | (with_reducible refine Ext.setCells ?_ ?_ _ _; rotate_left; focus (first | omega | (simp; done) | (simp; omega))) | (with_reducible refine Ext.setCell ?_ ?_ _; rotate_left; focus (first | omega | (simp; done) | (simp; omega))))))).mono ?_; rintro e w' ⟨rfl, hxl⟩; obtain ⟨xp, rfl⟩ := hxl.asLater; clear hxl))
    rw [HR'.out]
    exact post_row ssd_ty Tryz.results13 rfl rfl (RowAt.stored (n := 42) (ds := ssC noSt 1) (HU4.out.later _) rfl rfl (by omega)) ⟨rfl, (by (repeat (first | with_reducible exact HX1.out | with_reducible exact Ext.refl _ | with_reducible refine Ext.drew ?_ | with_reducible refine Ext.drewN ?_ _ | with_reducible refine Ext.alloc ?_ _ | with_reducible refine Ext.onto ?_ _ | (with_reducible refine Ext.setCells ?_ ?_ _ _; rotate_left; focus (first | omega | (simp; done) | (simp; omega))) | (with_reducible refine Ext.setCell ?_ ?_ _; rotate_left; focus (first | omega | (simp; done) | (simp; omega))))))⟩
  | true =>
    cases hsame : a.same with
    | true =>
      rw [hsame] at a4
      have HR' : Hid (O = (noSt, 1)) := Lib.hid (by rw [HO.out, HG.out]; rw [hsame]; rfl)
      clear HO HS0 HG
      go_wp2_with (first
        | (go_at_call 51; refine (HFt.out _).mono ?_; rintro e w' ⟨rfl, hxl⟩; obtain ⟨xn, rfl⟩ := hxl.asLater; clear hxl)
        | (go_at_call 53; refine (HSl.out _ (by (repeat (first | with_reducible exact HX1.out | with_reducible exact Ext.refl _ | with_reducible refine Ext.drew ?_ | with_reducible refine Ext.drewN ?_ _ | with_reducible refine Ext.alloc ?_ _ | with_reducible refine Ext.onto ?_ _ | (with_reducible refine Ext.setCells ?_ ?_ _ _; rotate_left; focus (first | omega | (simp; done) | (simp; omega))) | (with_reducible refine Ext.setCell ?_ ?_ _; rotate_left; focus (first | omega | (simp; done) | (simp; omega))))))).mono ?_; rintro e w' ⟨rfl, hxl⟩; obtain ⟨xp, rfl⟩ := hxl.asLater; clear hxl))
      refine wp_region_later (by kernel_rfl) (by kernel_rfl) ?_
      repeat (first | go_big_quiet_step ((go_at_call 52; exact quietE (HDg.out _ (by first | exact (HX1.out.onto _).onto _ | exact HX1.out.onto _)))) | quiet_step ((go_at_call 52; exact quietE (HDg.out _ (by first | exact (HX1.out.onto _).onto _ | exact HX1.out.onto _)))))
      refine wpQuiet_nil ?_
      rintro _ ⟨xq, rfl⟩
      go_wp2_with (first
        | (go_at_call 51; refine (HFt.out _).mono ?_; rintro e w' ⟨rfl, hxl⟩; obtain ⟨xn, rfl⟩ := hxl.asLater; clear hxl)
        | (go_at_call 53; refine (HSl.out _ (by (repeat (first | with_reducible exact HX1.out | with_reducible exact Ext.refl _ | with_reducible refine Ext.drew ?_ | with_reducible refine Ext.drewN ?_ _ | with_reducible refine Ext.alloc ?_ _ | with_reducible refine Ext.onto ?_ _ | (with_reducible refine Ext.setCells ?_ ?_ _ _; rotate_left; focus (first | omega | (simp; done) | (simp; omega))) | (with_reducible refine Ext.setCell ?_ ?_ _; rotate_left; focus (first | omega | (simp; done) | (simp; omega))))))).mono ?_; rintro e w' ⟨rfl, hxl⟩; obtain ⟨xp, rfl⟩ := hxl.asLater; clear hxl))
      rw [HR'.out]
      exact post_row ssd_ty Tryz.results13 rfl rfl (RowAt.stored (n := 42) (ds := ssC noSt 1) (HU4.out.later _) rfl rfl (by omega)) ⟨rfl, (by (repeat (first | with_reducible exact HX1.out | with_reducible exact Ext.refl _ | with_reducible refine Ext.drew ?_ | with_reducible refine Ext.drewN ?_ _ | with_reducible refine Ext.alloc ?_ _ | with_reducible refine Ext.onto ?_ _ | (with_reducible refine Ext.setCells ?_ ?_ _ _; rotate_left; focus (first | omega | (simp; done) | (simp; omega))) | (with_reducible refine Ext.setCell ?_ ?_ _; rotate_left; focus (first | omega | (simp; done) | (simp; omega))))))⟩
    | false =>
      rw [hsame] at a4
      by_cases hz : a.size = (a.bytes.size : Int)
      · have dz : (a.size != (a.bytes.size : Int)) = false := by simpa using hz
        have dz2 : (a.size == (a.bytes.size : Int)) = true := by simpa using hz
        by_cases hbd : a.body = D
        · have db : decide (a.body = D) = true := decide_eq_true hbd
          have hGt : G = true := by rw [HG.out, hsame, dz2, db]; rfl
          have HR' : Hid (O = R) := Lib.hid (by rw [HO.out, if_pos hGt])
          have HSl := Lib.hid (fun W hx => HS0.out W hx hGt)
          clear HO HS0 HG hGt hbd hz dz2
          go_wp2_with (first
            | (go_at_call 51; refine (HFt.out _).mono ?_; rintro e w' ⟨rfl, hxl⟩; obtain ⟨xn, rfl⟩ := hxl.asLater; clear hxl)
            | (go_at_call 53; refine (HSl.out _ (by (repeat (first | with_reducible exact HX1.out | with_reducible exact Ext.refl _ | with_reducible refine Ext.drew ?_ | with_reducible refine Ext.drewN ?_ _ | with_reducible refine Ext.alloc ?_ _ | with_reducible refine Ext.onto ?_ _ | (with_reducible refine Ext.setCells ?_ ?_ _ _; rotate_left; focus (first | omega | (simp; done) | (simp; omega))) | (with_reducible refine Ext.setCell ?_ ?_ _; rotate_left; focus (first | omega | (simp; done) | (simp; omega))))))).mono ?_; rintro e w' ⟨rfl, hxl⟩; obtain ⟨xp, rfl⟩ := hxl.asLater; clear hxl))
          refine wp_region_later (by kernel_rfl) (by kernel_rfl) ?_
          repeat (first | go_big_quiet_step ((go_at_call 52; exact quietE (HDg.out _ (by first | exact (HX1.out.onto _).onto _ | exact HX1.out.onto _)))) | quiet_step ((go_at_call 52; exact quietE (HDg.out _ (by first | exact (HX1.out.onto _).onto _ | exact HX1.out.onto _)))))
          refine wpQuiet_nil ?_
          rintro _ ⟨xq, rfl⟩
          go_wp2_with (first
            | (go_at_call 51; refine (HFt.out _).mono ?_; rintro e w' ⟨rfl, hxl⟩; obtain ⟨xn, rfl⟩ := hxl.asLater; clear hxl)
            | (go_at_call 53; refine (HSl.out _ (by (repeat (first | with_reducible exact HX1.out | with_reducible exact Ext.refl _ | with_reducible refine Ext.drew ?_ | with_reducible refine Ext.drewN ?_ _ | with_reducible refine Ext.alloc ?_ _ | with_reducible refine Ext.onto ?_ _ | (with_reducible refine Ext.setCells ?_ ?_ _ _; rotate_left; focus (first | omega | (simp; done) | (simp; omega))) | (with_reducible refine Ext.setCell ?_ ?_ _; rotate_left; focus (first | omega | (simp; done) | (simp; omega))))))).mono ?_; rintro e w' ⟨rfl, hxl⟩; obtain ⟨xp, rfl⟩ := hxl.asLater; clear hxl))
          rw [HR'.out]
          exact post_row ssd_ty Tryz.results13 rfl rfl (RowAt.stored (n := 42) (ds := ssC R.1 R.2) (HU4.out.later _) rfl rfl (by omega)) ⟨rfl, (by (repeat (first | with_reducible exact HX1.out | with_reducible exact Ext.refl _ | with_reducible refine Ext.drew ?_ | with_reducible refine Ext.drewN ?_ _ | with_reducible refine Ext.alloc ?_ _ | with_reducible refine Ext.onto ?_ _ | (with_reducible refine Ext.setCells ?_ ?_ _ _; rotate_left; focus (first | omega | (simp; done) | (simp; omega))) | (with_reducible refine Ext.setCell ?_ ?_ _; rotate_left; focus (first | omega | (simp; done) | (simp; omega))))))⟩
        · have db : decide (a.body = D) = false := decide_eq_false hbd
          clear hbd hz
          have HR' : Hid (O = (noSt, 1)) := Lib.hid (by rw [HO.out, HG.out]; rw [db]; simp)
          clear HO HS0 HG
          go_wp2_with (first
            | (go_at_call 51; refine (HFt.out _).mono ?_; rintro e w' ⟨rfl, hxl⟩; obtain ⟨xn, rfl⟩ := hxl.asLater; clear hxl)
            | (go_at_call 53; refine (HSl.out _ (by (repeat (first | with_reducible exact HX1.out | with_reducible exact Ext.refl _ | with_reducible refine Ext.drew ?_ | with_reducible refine Ext.drewN ?_ _ | with_reducible refine Ext.alloc ?_ _ | with_reducible refine Ext.onto ?_ _ | (with_reducible refine Ext.setCells ?_ ?_ _ _; rotate_left; focus (first | omega | (simp; done) | (simp; omega))) | (with_reducible refine Ext.setCell ?_ ?_ _; rotate_left; focus (first | omega | (simp; done) | (simp; omega))))))).mono ?_; rintro e w' ⟨rfl, hxl⟩; obtain ⟨xp, rfl⟩ := hxl.asLater; clear hxl))
          refine wp_region_later (by kernel_rfl) (by kernel_rfl) ?_
          repeat (first | go_big_quiet_step ((go_at_call 52; exact quietE (HDg.out _ (by first | exact (HX1.out.onto _).onto _ | exact HX1.out.onto _)))) | quiet_step ((go_at_call 52; exact quietE (HDg.out _ (by first | exact (HX1.out.onto _).onto _ | exact HX1.out.onto _)))))
          refine wpQuiet_nil ?_
          rintro _ ⟨xq, rfl⟩
          go_wp2_with (first
            | (go_at_call 51; refine (HFt.out _).mono ?_; rintro e w' ⟨rfl, hxl⟩; obtain ⟨xn, rfl⟩ := hxl.asLater; clear hxl)
            | (go_at_call 53; refine (HSl.out _ (by (repeat (first | with_reducible exact HX1.out | with_reducible exact Ext.refl _ | with_reducible refine Ext.drew ?_ | with_reducible refine Ext.drewN ?_ _ | with_reducible refine Ext.alloc ?_ _ | with_reducible refine Ext.onto ?_ _ | (with_reducible refine Ext.setCells ?_ ?_ _ _; rotate_left; focus (first | omega | (simp; done) | (simp; omega))) | (with_reducible refine Ext.setCell ?_ ?_ _; rotate_left; focus (first | omega | (simp; done) | (simp; omega))))))).mono ?_; rintro e w' ⟨rfl, hxl⟩; obtain ⟨xp, rfl⟩ := hxl.asLater; clear hxl))
          rw [HR'.out]
          exact post_row ssd_ty Tryz.results13 rfl rfl (RowAt.stored (n := 42) (ds := ssC noSt 1) (HU4.out.later _) rfl rfl (by omega)) ⟨rfl, (by (repeat (first | with_reducible exact HX1.out | with_reducible exact Ext.refl _ | with_reducible refine Ext.drew ?_ | with_reducible refine Ext.drewN ?_ _ | with_reducible refine Ext.alloc ?_ _ | with_reducible refine Ext.onto ?_ _ | (with_reducible refine Ext.setCells ?_ ?_ _ _; rotate_left; focus (first | omega | (simp; done) | (simp; omega))) | (with_reducible refine Ext.setCell ?_ ?_ _; rotate_left; focus (first | omega | (simp; done) | (simp; omega))))))⟩
      · have dz : (a.size != (a.bytes.size : Int)) = true := by simpa using hz
        have dz2 : (a.size == (a.bytes.size : Int)) = false := by simpa using hz
        clear hz
        have HR' : Hid (O = (noSt, 1)) := Lib.hid (by rw [HO.out, HG.out]; rw [dz2]; simp)
        clear HO HS0 HG
        go_wp2_with (first
          | (go_at_call 51; refine (HFt.out _).mono ?_; rintro e w' ⟨rfl, hxl⟩; obtain ⟨xn, rfl⟩ := hxl.asLater; clear hxl)
          | (go_at_call 53; refine (HSl.out _ (by (repeat (first | with_reducible exact HX1.out | with_reducible exact Ext.refl _ | with_reducible refine Ext.drew ?_ | with_reducible refine Ext.drewN ?_ _ | with_reducible refine Ext.alloc ?_ _ | with_reducible refine Ext.onto ?_ _ | (with_reducible refine Ext.setCells ?_ ?_ _ _; rotate_left; focus (first | omega | (simp; done) | (simp; omega))) | (with_reducible refine Ext.setCell ?_ ?_ _; rotate_left; focus (first | omega | (simp; done) | (simp; omega))))))).mono ?_; rintro e w' ⟨rfl, hxl⟩; obtain ⟨xp, rfl⟩ := hxl.asLater; clear hxl))
        refine wp_region_later (by kernel_rfl) (by kernel_rfl) ?_
        repeat (first | go_big_quiet_step ((go_at_call 52; exact quietE (HDg.out _ (by first | exact (HX1.out.onto _).onto _ | exact HX1.out.onto _)))) | quiet_step ((go_at_call 52; exact quietE (HDg.out _ (by first | exact (HX1.out.onto _).onto _ | exact HX1.out.onto _)))))
        refine wpQuiet_nil ?_
        rintro _ ⟨xq, rfl⟩
        go_wp2_with (first
          | (go_at_call 51; refine (HFt.out _).mono ?_; rintro e w' ⟨rfl, hxl⟩; obtain ⟨xn, rfl⟩ := hxl.asLater; clear hxl)
          | (go_at_call 53; refine (HSl.out _ (by (repeat (first | with_reducible exact HX1.out | with_reducible exact Ext.refl _ | with_reducible refine Ext.drew ?_ | with_reducible refine Ext.drewN ?_ _ | with_reducible refine Ext.alloc ?_ _ | with_reducible refine Ext.onto ?_ _ | (with_reducible refine Ext.setCells ?_ ?_ _ _; rotate_left; focus (first | omega | (simp; done) | (simp; omega))) | (with_reducible refine Ext.setCell ?_ ?_ _; rotate_left; focus (first | omega | (simp; done) | (simp; omega))))))).mono ?_; rintro e w' ⟨rfl, hxl⟩; obtain ⟨xp, rfl⟩ := hxl.asLater; clear hxl))
        rw [HR'.out]
        exact post_row ssd_ty Tryz.results13 rfl rfl (RowAt.stored (n := 42) (ds := ssC noSt 1) (HU4.out.later _) rfl rfl (by omega)) ⟨rfl, (by (repeat (first | with_reducible exact HX1.out | with_reducible exact Ext.refl _ | with_reducible refine Ext.drew ?_ | with_reducible refine Ext.drewN ?_ _ | with_reducible refine Ext.alloc ?_ _ | with_reducible refine Ext.onto ?_ _ | (with_reducible refine Ext.setCells ?_ ?_ _ _; rotate_left; focus (first | omega | (simp; done) | (simp; omega))) | (with_reducible refine Ext.setCell ?_ ?_ _; rotate_left; focus (first | omega | (simp; done) | (simp; omega))))))⟩
end Go.Proofs.YtpfhmcdcmepfdaaGreatDoor


set_option linter.unusedVariables false
set_option linter.unusedSimpArgs false
namespace Go.Proofs.YtpfhmcdcmepfdaaGreatDoor
open Go.RowKit Go.Shelf
open Go.Proofs

noncomputable def renewS (k : Ky) (s : St) (a : An) (n v : Clk) : St × Int := if goodR k a n v = true then if a.body = s.body then if a.size = s.size then sealedIn k s.addr s.var a n v else (noSt, 341) else (noSt, 341) else (noSt, 1)
set_option maxRecDepth 100000 in
set_option maxHeartbeats 8000000 in
theorem rrenew_any (k : Ky) (s : St) (a : An) (n v : Clk) (w : World) (hs : s.addr.size ≤ 900000) (h16 : a.body.length = 16) (hby : Byt a.body) (h16s : s.body.length = 16) (hbys : Byt s.body) (hsc : k.secret.size < 9223372036854775808)
    (hg : goodR k a n v = true → a.body = s.body → a.size = s.size → (∀ x ∈ stInts (named k (fromAn s.addr s.var a n.lo v.hi)), i64 x) ∧ lens ([k.secret] ++ stParts (named k (fromAn s.addr s.var a n.lo v.hi)) ++ [k.secret]) < 8796093022208 ∧ a.tags.size ≤ 900000) (hk : RKonst w) :
    Calls Tryz.prog 14 #[.agg (kyC k), .agg (stmC s), .agg (anC a), .agg (clkC n), .agg (clkC v)] w fun e w' => e = .returned (.agg (ssC (renewS k s a n v).1 (renewS k s a n v).2)) ∧ Ext w w' := by
  have HK := Lib.hid hk
  have hneq := neq_dd (a := a.body) (b := s.body) h16 h16s hby hbys
  have HG : Hid (goodR k a n v = (okKy k && okClk n && okClk v && a.same)) := Lib.hid rfl
  have HS0 := Lib.hid (fun (W : World) (hx : Ext w W) (h : goodR k a n v = true) (h2 : a.body = s.body) (h3 : a.size = s.size) => rsealed_any k s.addr s.var a n v W hs h16 (hg h h2 h3).1 (hg h h2 h3).2.1 (hg h h2 h3).2.2 (RowAt.ext HK.out hx))
  have HFt : Hid (∀ W, Calls Tryz.prog 51 #[.agg (kyC k), .agg #[.int .i64 n.lo, .int .i64 n.hi], .agg #[.int .i64 v.lo, .int .i64 v.hi]] W fun e w' => e = .returned (.bool (okKy k && okClk n && okClk v)) ∧ Ext W w') := Lib.hid (fun W => rfit_any k n v W hsc)
  obtain ⟨R, hR⟩ : ∃ R, sealedIn k s.addr s.var a n v = R := ⟨_, rfl⟩
  have HO : Hid (renewS k s a n v = if goodR k a n v = true then if a.body = s.body then if a.size = s.size then R else (noSt, 341) else (noSt, 341) else (noSt, 1)) := Lib.hid (by rw [← hR]; rfl)
  rw [hR] at HS0
  replace HS0 : Hid (∀ (W : World) (hx : Ext w W) (h : goodR k a n v = true) (h2 : a.body = s.body) (h3 : a.size = s.size), Calls Tryz.prog 53 #[.agg (kyC k), .string s.addr, .string s.var, .agg (anC a), .agg #[.int .i64 n.lo, .int .i64 n.hi], .agg #[.int .i64 v.lo, .int .i64 v.hi]] W fun e w' => e = .returned (.agg (ssC R.1 R.2)) ∧ Ext W w') := HS0
  generalize renewS k s a n v = O at *
  generalize goodR k a n v = G at *
  generalize (okKy k && okClk n && okClk v) = F at *
  have hfk := ky_fits k
  have hfa := an_fits a
  have hfs := stm_fits s
  clear hR h16 hby hg hk hsc h16s hbys
  go_enter Tryz.func14, Tryz.ntmps14
  go_upto_region 1 with (fail)
  refine wp_world (fun W => Ext w W ∧ RowAt W w.heap.size (kyC k) ∧ RowAt W (w.heap.size + 1) (stmC s) ∧ RowAt W (w.heap.size + 1 + 1) (anC a) ∧ RowAt W (w.heap.size + 1 + 1 + 1) #[.int .i64 n.lo, .int .i64 n.hi] ∧ RowAt W (w.heap.size + 1 + 1 + 1 + 1) #[.int .i64 v.lo, .int .i64 v.hi] ∧ RowAt W (w.heap.size + 1 + 1 + 1 + 1 + 1) (ssC noSt 0)) ⟨(by (repeat (first | with_reducible exact Ext.refl _ | with_reducible exact Ext.refl _ | with_reducible refine Ext.drew ?_ | with_reducible refine Ext.drewN ?_ _ | with_reducible refine Ext.alloc ?_ _ | with_reducible refine Ext.onto ?_ _ | (with_reducible refine Ext.setCells ?_ ?_ _ _; rotate_left; focus (first | omega | (simp; done) | (simp; omega))) | (with_reducible refine Ext.setCell ?_ ?_ _; rotate_left; focus (first | omega | (simp; done) | (simp; omega)))))), ?_, ?_, ?_, ?_, ?_, ?_⟩ ?_
  · exact (((((RowAt.new _ _ _).alloc _).alloc _).alloc _).alloc _).alloc _
  · exact ((((RowAt.newAt (by simp)).alloc _).alloc _).alloc _).alloc _
  · exact (((RowAt.newAt (by simp)).alloc _).alloc _).alloc _
  · exact ((RowAt.newAt (by simp)).alloc _).alloc _
  · exact (RowAt.newAt (by simp)).alloc _
  · exact RowAt.newAt (by simp)
  obtain ⟨B, hB⟩ : ∃ B, w.heap.size = B := ⟨_, rfl⟩
  rw [hB]
  rintro W1 ⟨x1, u0, us, u1, u2, u3, u4⟩
  have HX1 := Lib.hid x1
  have HU4 := Lib.hid u4
  have k0 : rowOf W1 B 0 5 = some (kyC k) := u0.all rfl (by omega)
  have s0 : W1.cell? ⟨B + 1, 0, none⟩ = some (.string s.addr) := us.cell 0
  have s1 : W1.cell? ⟨B + 1, 1, none⟩ = some (.string s.var) := us.cell 1
  have s3 : W1.cell? ⟨B + 1, 3, none⟩ = some (.int .i64 s.size) := us.cell 3
  have s4 : rowOf W1 (B + 1) 4 16 = some (dgC s.body) := by rw [us.row, if_neg (by omega), stm_body]
  have a0 : rowOf W1 (B + 1 + 1) 0 21 = some (anC a) := u1.all rfl (by omega)
  have a1 : W1.cell? ⟨B + 1 + 1, 1, none⟩ = some (.int .i64 a.size) := u1.cell 1
  have a2 : rowOf W1 (B + 1 + 1) 2 16 = some (dgC a.body) := by rw [u1.row, if_neg (by omega), an_body]
  have a4 : W1.cell? ⟨B + 1 + 1, 20, none⟩ = some (.bool a.same) := u1.cell 20
  have n0 : W1.cell? ⟨B + 1 + 1 + 1, 0, none⟩ = some (.int .i64 n.lo) := u2.cell 0
  have n1 : W1.cell? ⟨B + 1 + 1 + 1, 1, none⟩ = some (.int .i64 n.hi) := u2.cell 1
  have v0 : W1.cell? ⟨B + 1 + 1 + 1 + 1, 0, none⟩ = some (.int .i64 v.lo) := u3.cell 0
  have v1 : W1.cell? ⟨B + 1 + 1 + 1 + 1, 1, none⟩ = some (.int .i64 v.hi) := u3.cell 1
  have m4 : roomOf W1 (B + 1 + 1 + 1 + 1 + 1) 0 42 = true := by rw [u4.room]; rfl
  have hlu := u4.lt
  clear x1 u0 us u1 u2 u3 u4
  cases F with
  | false =>
    have HR' : Hid (O = (noSt, 1)) := Lib.hid (by rw [HO.out, HG.out]; rfl)
    clear HO HS0 HG
    go_wp2_with (first
      | (go_at_call 51; refine (HFt.out _).mono ?_; rintro e w' ⟨rfl, hxl⟩; obtain ⟨xn, rfl⟩ := hxl.asLater; clear hxl)
      | (go_at_call 53; refine (HSl.out _ (by (repeat (first | with_reducible exact HX1.out | with_reducible exact Ext.refl _ | with_reducible refine Ext.drew ?_ | with_reducible refine Ext.drewN ?_ _ | with_reducible refine Ext.alloc ?_ _ | with_reducible refine Ext.onto ?_ _ | (with_reducible refine Ext.setCells ?_ ?_ _ _; rotate_left; focus (first | omega | (simp; done) | (simp; omega))) | (with_reducible refine Ext.setCell ?_ ?_ _; rotate_left; focus (first | omega | (simp; done) | (simp; omega))))))).mono ?_; rintro e w' ⟨rfl, hxl⟩; obtain ⟨xp, rfl⟩ := hxl.asLater; clear hxl))
    rw [HR'.out]
    exact post_row ssd_ty Tryz.results14 rfl rfl (RowAt.stored (n := 42) (ds := ssC noSt 1) (HU4.out.later _) rfl rfl (by omega)) ⟨rfl, (by (repeat (first | with_reducible exact HX1.out | with_reducible exact Ext.refl _ | with_reducible refine Ext.drew ?_ | with_reducible refine Ext.drewN ?_ _ | with_reducible refine Ext.alloc ?_ _ | with_reducible refine Ext.onto ?_ _ | (with_reducible refine Ext.setCells ?_ ?_ _ _; rotate_left; focus (first | omega | (simp; done) | (simp; omega))) | (with_reducible refine Ext.setCell ?_ ?_ _; rotate_left; focus (first | omega | (simp; done) | (simp; omega))))))⟩
  | true =>
    cases hsame : a.same with
    | false =>
      rw [hsame] at a4
      have HR' : Hid (O = (noSt, 1)) := Lib.hid (by rw [HO.out, HG.out, hsame]; rfl)
      clear HO HS0 HG
      go_wp2_with (first
        | (go_at_call 51; refine (HFt.out _).mono ?_; rintro e w' ⟨rfl, hxl⟩; obtain ⟨xn, rfl⟩ := hxl.asLater; clear hxl)
        | (go_at_call 53; refine (HSl.out _ (by (repeat (first | with_reducible exact HX1.out | with_reducible exact Ext.refl _ | with_reducible refine Ext.drew ?_ | with_reducible refine Ext.drewN ?_ _ | with_reducible refine Ext.alloc ?_ _ | with_reducible refine Ext.onto ?_ _ | (with_reducible refine Ext.setCells ?_ ?_ _ _; rotate_left; focus (first | omega | (simp; done) | (simp; omega))) | (with_reducible refine Ext.setCell ?_ ?_ _; rotate_left; focus (first | omega | (simp; done) | (simp; omega))))))).mono ?_; rintro e w' ⟨rfl, hxl⟩; obtain ⟨xp, rfl⟩ := hxl.asLater; clear hxl))
      rw [HR'.out]
      exact post_row ssd_ty Tryz.results14 rfl rfl (RowAt.stored (n := 42) (ds := ssC noSt 1) (HU4.out.later _) rfl rfl (by omega)) ⟨rfl, (by (repeat (first | with_reducible exact HX1.out | with_reducible exact Ext.refl _ | with_reducible refine Ext.drew ?_ | with_reducible refine Ext.drewN ?_ _ | with_reducible refine Ext.alloc ?_ _ | with_reducible refine Ext.onto ?_ _ | (with_reducible refine Ext.setCells ?_ ?_ _ _; rotate_left; focus (first | omega | (simp; done) | (simp; omega))) | (with_reducible refine Ext.setCell ?_ ?_ _; rotate_left; focus (first | omega | (simp; done) | (simp; omega))))))⟩
    | true =>
      rw [hsame] at a4
      have hGt : G = true := by rw [HG.out, hsame]; rfl
      by_cases hbd : a.body = s.body
      · have db : decide (a.body = s.body) = true := decide_eq_true hbd
        by_cases hz : a.size = s.size
        · have dz : (a.size != s.size) = false := by simpa using hz
          have HR' : Hid (O = R) := Lib.hid (by rw [HO.out, if_pos hGt, if_pos hbd, if_pos hz])
          have HSl := Lib.hid (fun W hx => HS0.out W hx hGt hbd hz)
          clear HO HS0 HG hGt hbd
          go_wp2_with (first
            | (go_at_call 51; refine (HFt.out _).mono ?_; rintro e w' ⟨rfl, hxl⟩; obtain ⟨xn, rfl⟩ := hxl.asLater; clear hxl)
            | (go_at_call 53; refine (HSl.out _ (by (repeat (first | with_reducible exact HX1.out | with_reducible exact Ext.refl _ | with_reducible refine Ext.drew ?_ | with_reducible refine Ext.drewN ?_ _ | with_reducible refine Ext.alloc ?_ _ | with_reducible refine Ext.onto ?_ _ | (with_reducible refine Ext.setCells ?_ ?_ _ _; rotate_left; focus (first | omega | (simp; done) | (simp; omega))) | (with_reducible refine Ext.setCell ?_ ?_ _; rotate_left; focus (first | omega | (simp; done) | (simp; omega))))))).mono ?_; rintro e w' ⟨rfl, hxl⟩; obtain ⟨xp, rfl⟩ := hxl.asLater; clear hxl))
          rw [HR'.out]
          exact post_row ssd_ty Tryz.results14 rfl rfl (RowAt.stored (n := 42) (ds := ssC R.1 R.2) (HU4.out.later _) rfl rfl (by omega)) ⟨rfl, (by (repeat (first | with_reducible exact HX1.out | with_reducible exact Ext.refl _ | with_reducible refine Ext.drew ?_ | with_reducible refine Ext.drewN ?_ _ | with_reducible refine Ext.alloc ?_ _ | with_reducible refine Ext.onto ?_ _ | (with_reducible refine Ext.setCells ?_ ?_ _ _; rotate_left; focus (first | omega | (simp; done) | (simp; omega))) | (with_reducible refine Ext.setCell ?_ ?_ _; rotate_left; focus (first | omega | (simp; done) | (simp; omega))))))⟩
        · have dz : (a.size != s.size) = true := by simpa using hz
          have HR' : Hid (O = (noSt, 341)) := Lib.hid (by rw [HO.out, if_pos hGt, if_pos hbd, if_neg hz])
          clear HO HS0 HG hGt hbd
          go_wp2_with (first
            | (go_at_call 51; refine (HFt.out _).mono ?_; rintro e w' ⟨rfl, hxl⟩; obtain ⟨xn, rfl⟩ := hxl.asLater; clear hxl)
            | (go_at_call 53; refine (HSl.out _ (by (repeat (first | with_reducible exact HX1.out | with_reducible exact Ext.refl _ | with_reducible refine Ext.drew ?_ | with_reducible refine Ext.drewN ?_ _ | with_reducible refine Ext.alloc ?_ _ | with_reducible refine Ext.onto ?_ _ | (with_reducible refine Ext.setCells ?_ ?_ _ _; rotate_left; focus (first | omega | (simp; done) | (simp; omega))) | (with_reducible refine Ext.setCell ?_ ?_ _; rotate_left; focus (first | omega | (simp; done) | (simp; omega))))))).mono ?_; rintro e w' ⟨rfl, hxl⟩; obtain ⟨xp, rfl⟩ := hxl.asLater; clear hxl))
          rw [HR'.out]
          exact post_row ssd_ty Tryz.results14 rfl rfl (RowAt.stored (n := 42) (ds := ssC noSt 341) (HU4.out.later _) rfl rfl (by omega)) ⟨rfl, (by (repeat (first | with_reducible exact HX1.out | with_reducible exact Ext.refl _ | with_reducible refine Ext.drew ?_ | with_reducible refine Ext.drewN ?_ _ | with_reducible refine Ext.alloc ?_ _ | with_reducible refine Ext.onto ?_ _ | (with_reducible refine Ext.setCells ?_ ?_ _ _; rotate_left; focus (first | omega | (simp; done) | (simp; omega))) | (with_reducible refine Ext.setCell ?_ ?_ _; rotate_left; focus (first | omega | (simp; done) | (simp; omega))))))⟩
      · have db : decide (a.body = s.body) = false := decide_eq_false hbd
        have HR' : Hid (O = (noSt, 341)) := Lib.hid (by rw [HO.out, if_pos hGt, if_neg hbd])
        clear HO HS0 HG hGt hbd
        go_wp2_with (first
          | (go_at_call 51; refine (HFt.out _).mono ?_; rintro e w' ⟨rfl, hxl⟩; obtain ⟨xn, rfl⟩ := hxl.asLater; clear hxl)
          | (go_at_call 53; refine (HSl.out _ (by (repeat (first | with_reducible exact HX1.out | with_reducible exact Ext.refl _ | with_reducible refine Ext.drew ?_ | with_reducible refine Ext.drewN ?_ _ | with_reducible refine Ext.alloc ?_ _ | with_reducible refine Ext.onto ?_ _ | (with_reducible refine Ext.setCells ?_ ?_ _ _; rotate_left; focus (first | omega | (simp; done) | (simp; omega))) | (with_reducible refine Ext.setCell ?_ ?_ _; rotate_left; focus (first | omega | (simp; done) | (simp; omega))))))).mono ?_; rintro e w' ⟨rfl, hxl⟩; obtain ⟨xp, rfl⟩ := hxl.asLater; clear hxl))
        rw [HR'.out]
        exact post_row ssd_ty Tryz.results14 rfl rfl (RowAt.stored (n := 42) (ds := ssC noSt 341) (HU4.out.later _) rfl rfl (by omega)) ⟨rfl, (by (repeat (first | with_reducible exact HX1.out | with_reducible exact Ext.refl _ | with_reducible refine Ext.drew ?_ | with_reducible refine Ext.drewN ?_ _ | with_reducible refine Ext.alloc ?_ _ | with_reducible refine Ext.onto ?_ _ | (with_reducible refine Ext.setCells ?_ ?_ _ _; rotate_left; focus (first | omega | (simp; done) | (simp; omega))) | (with_reducible refine Ext.setCell ?_ ?_ _; rotate_left; focus (first | omega | (simp; done) | (simp; omega))))))⟩
end Go.Proofs.YtpfhmcdcmepfdaaGreatDoor


set_option linter.unusedVariables false
set_option linter.unusedSimpArgs false
namespace Go.Proofs.YtpfhmcdcmepfdaaGreatDoor
open Go.RowKit Go.Shelf
open Go.Proofs

def short200 (x : ByteArray) : Bool := decide (x.size ≤ 200)
set_option maxHeartbeats 2000000 in
theorem rshort_any (A : Option Addr) (c : Nat) (ls : List ByteArray) (n : Int) (w : World) (hl : ls.length ≤ 100000) (hz : ∀ x ∈ ls, x.size ≤ 9223372036854775807) (hr : ReadsStr w w.heap.size A ls) :
    Calls Tryz.prog 9 #[.slice A ls.length c, .int .i64 n] w fun e w' => e = .returned (.bool (ls.all short200 && decide ((ls.length : Int) ≤ n))) ∧ Ext w w' := by
  have HR := Lib.hid hr
  have HZ := Lib.hid hz
  clear hr hz
  have HF : Hid ((ls.all short200 && decide ((ls.length : Int) ≤ n)) = (ls.all short200 && decide ((ls.length : Int) ≤ n))) := Lib.hid rfl
  obtain ⟨R, hR⟩ : ∃ R, (ls.all short200 && decide ((ls.length : Int) ≤ n)) = R := ⟨_, rfl⟩
  rw [hR]
  replace HF := Lib.hid hR
  clear hR
  go_enter Tryz.func9, Tryz.ntmps9
  go_wp2
  go_loopw [5] (fun i wr => ∃ k : Nat, k ≤ ls.length ∧ i = .int .i64 k ∧ Hid ((ls.take k).all short200 = true) ∧ Hid (Ext w wr)) (fun i _ => ls.length - (intOf i).toNat)
  case atStart => exact ⟨0, Nat.zero_le _, rfl, Lib.hid rfl, Lib.hid (Ext.refl _)⟩
  case round =>
    obtain ⟨k, hk, rfl, HB, HX⟩ := hrel
    by_cases hlt : k < ls.length
    · obtain ⟨b, off, rfl, hb, d1⟩ := ReadsStr.cell (HR.out.ext HX.out (Nat.le_refl _)) k hlt
      have hx := HZ.out _ (List.getElem_mem hlt)
      have hmem := List.getElem_mem hlt
      have HS : Hid ((ls.take (k + 1)).all short200 = short200 ls[k]) := Lib.hid (by rw [List.take_succ_eq_append_getElem hlt, List.all_append, HB.out]; simp)
      have HA : Hid (ls.all short200 = true → short200 ls[k] = true) := Lib.hid (fun h => List.all_eq_true.1 h _ hmem)
      generalize ls[k] = x at *
      by_cases h2 : 200 < x.size
      · have d2 : decide ((200 : Int) < (x.size : Int)) = true := decide_eq_true (by omega)
        have hf : ls.all short200 = false := by
          cases h : ls.all short200 with
          | false => rfl
          | true =>
            have := HA.out h
            simp only [short200, decide_eq_true_eq] at this
            omega
        have HF2 : Hid (R = false) := Lib.hid (by rw [← HF.out, hf]; rfl)
        clear hf hmem
        go_wp2
        go_ret
        exact ⟨ret_bool HF2.out.symm, HX.out⟩
      · have d2 : decide ((200 : Int) < (x.size : Int)) = false := decide_eq_false (by omega)
        have HN : Hid ((ls.take (k + 1)).all short200 = true) := Lib.hid (by rw [HS.out]; simp only [short200, decide_eq_true_eq]; omega)
        clear hmem
        go_wp2
        go_roundw
        case rel => exact ⟨k + 1, by omega, by go_num, HN, HX⟩
        case measure => simp [intOf]; omega
    · have e : k = ls.length := by omega
      subst e
      rw [List.take_length] at HB
      have HF2 : Hid (R = decide ((ls.length : Int) ≤ n)) := Lib.hid (by rw [← HF.out, HB.out, Bool.true_and])
      go_wp2
      go_ret
      exact ⟨ret_bool HF2.out.symm, HX.out⟩
theorem dgx2_self (a0 a1 a2 a3 a4 a5 a6 a7 a8 a9 a10 a11 a12 a13 a14 a15 : Int) (W : World) : (Op.equalIn 9999 25 (.agg #[.int .u8 a0, .int .u8 a1, .int .u8 a2, .int .u8 a3, .int .u8 a4, .int .u8 a5, .int .u8 a6, .int .u8 a7, .int .u8 a8, .int .u8 a9, .int .u8 a10, .int .u8 a11, .int .u8 a12, .int .u8 a13, .int .u8 a14, .int .u8 a15]) (.agg #[.int .u8 a0, .int .u8 a1, .int .u8 a2, .int .u8 a3, .int .u8 a4, .int .u8 a5, .int .u8 a6, .int .u8 a7, .int .u8 a8, .int .u8 a9, .int .u8 a10, .int .u8 a11, .int .u8 a12, .int .u8 a13, .int .u8 a14, .int .u8 a15])).run Tryz.prog W = .ok true W := by
  have hc : Tryz.prog.cellsOf 5 = 1 := by kernel_rfl
  have hr : List.range 16 = [0, 1, 2, 3, 4, 5, 6, 7, 8, 9, 10, 11, 12, 13, 14, 15] := by decide
  have hinf : (Tryz.prog.info? 5).map (fun i => (i.zero, i.size, i.bytes)) = some (some (.int .u8 0), 1, 1) := by kernel_rfl
  obtain ⟨i, hi, _, _, _⟩ := info_parts hinf
  rw [run_equalIn_array W 9998 (t := 25) (e := 5) (n := 16) _ _ (by kernel_rfl) hi, hc, hr]
  simp [Op.eqItems, go_sem]
theorem slx_self (a0 a1 a2 a3 a4 a5 a6 a7 a8 a9 a10 a11 a12 a13 a14 a15 : Int) (W : World) : (Op.equalIn 9999 30 (.agg #[.int .u8 a0, .int .u8 a1, .int .u8 a2, .int .u8 a3, .int .u8 a4, .int .u8 a5, .int .u8 a6, .int .u8 a7, .int .u8 a8, .int .u8 a9, .int .u8 a10, .int .u8 a11, .int .u8 a12, .int .u8 a13, .int .u8 a14, .int .u8 a15]) (.agg #[.int .u8 a0, .int .u8 a1, .int .u8 a2, .int .u8 a3, .int .u8 a4, .int .u8 a5, .int .u8 a6, .int .u8 a7, .int .u8 a8, .int .u8 a9, .int .u8 a10, .int .u8 a11, .int .u8 a12, .int .u8 a13, .int .u8 a14, .int .u8 a15])).run Tryz.prog W = .ok true W := by
  have hc : Tryz.prog.cellsOf 5 = 1 := by kernel_rfl
  have hr : List.range 16 = [0, 1, 2, 3, 4, 5, 6, 7, 8, 9, 10, 11, 12, 13, 14, 15] := by decide
  have hinf : (Tryz.prog.info? 5).map (fun i => (i.zero, i.size, i.bytes)) = some (some (.int .u8 0), 1, 1) := by kernel_rfl
  obtain ⟨i, hi, _, _, _⟩ := info_parts hinf
  rw [run_equalIn_array W 9998 (t := 30) (e := 5) (n := 16) _ _ (by kernel_rfl) hi, hc, hr]
  simp [Op.eqItems, go_sem]
theorem stm_eqself (s : St) (W : World) : (binOp .eql 32 (.agg (stmC s)) (.agg (stmC s))).run Tryz.prog W = .ok (.bool true) W := by
  rw [run_eql_struct]
  simp [go_sem, stmC, stmL, dgC, dgx2_self, slx_self]
end Go.Proofs.YtpfhmcdcmepfdaaGreatDoor


set_option linter.unusedVariables false
set_option linter.unusedSimpArgs false
namespace Go.Proofs.YtpfhmcdcmepfdaaGreatDoor
open Go.RowKit Go.Shelf
open Go.Proofs

def texts7 (k : Ky) (addr var : ByteArray) (a : An) (s : St) : List ByteArray := [addr, var, a.bytes, a.tags, k.secret, s.addr, s.var]
def shortB (k : Ky) (addr var : ByteArray) (a : An) (s : St) : Bool := (texts7 k addr var a s).all short200 && decide (((texts7 k addr var a s).length : Int) ≤ 7)
theorem short_is {k : Ky} {addr var : ByteArray} {a : An} {s : St} (h : shortB k addr var a s = true) : addr.size ≤ 200 ∧ var.size ≤ 200 ∧ a.bytes.size ≤ 200 ∧ a.tags.size ≤ 200 ∧ k.secret.size ≤ 200 ∧ s.addr.size ≤ 200 ∧ s.var.size ≤ 200 := by
  simp only [shortB, texts7, short200, List.all_cons, List.all_nil, Bool.and_true, Bool.and_eq_true, decide_eq_true_eq] at h
  omega
theorem stampOut_is (k : Ky) (addr var : ByteArray) (a : An) (n v : Clk) : stampOut k addr var a n v ⟨(Ad.canonT (bsT addr)).toArray⟩ (Ad.canonE (bsT addr)) = stampS k addr var a n v := by
  unfold stampOut stampS
  rw [sealedIn_is]
theorem renewOut_is (k : Ky) (s : St) (a : An) (n v : Clk) : renewOut k s a n v ⟨(Ad.canonT (bsT s.addr)).toArray⟩ (Ad.canonE (bsT s.addr)) = renewS k s a n v := by
  unfold renewOut renewS
  rw [sealedIn_is]
theorem lens_any (k : Ky) (addr var : ByteArray) (a : An) (lo hi : Int) (h1 : k.secret.size ≤ 200) (h2 : addr.size ≤ 200) (h3 : var.size ≤ 200) (ht : a.tags.size ≤ 200) (hb : a.body.length = 16) :
    lens ([k.secret] ++ stParts (named k (fromAn addr var a lo hi)) ++ [k.secret]) < 8796093022208 := by
  have g1 := encInts_len (stInts (named k (fromAn addr var a lo hi)))
  have g2 : (stInts (named k (fromAn addr var a lo hi))).length = 6 := rfl
  have g3 := strOfNums_size (encInts (stInts (named k (fromAn addr var a lo hi))))
  have g4 := strOfNums_size a.body
  rw [lens_append, lens_append]
  have e1 : lens [k.secret] = k.secret.size + 10 := by simp [lens]
  have e2 : lens (stParts (named k (fromAn addr var a lo hi))) = (addr.size + 10) + ((var.size + 10) + (((strOfNums (encInts (stInts (named k (fromAn addr var a lo hi))))).size + 10) + (((strOfNums a.body).size + 10) + ((a.tags.size + 10) + 0)))) := rfl
  rw [e1, e2]
  omega
theorem clk_is {c : Clk} (h : okClk c = true) : 0 ≤ c.lo ∧ c.lo ≤ c.hi ∧ c.hi ≤ 1099511627776 := by
  simp only [okClk, Bool.and_eq_true, decide_eq_true_eq] at h
  omega
theorem ky_is {k : Ky} (h : okKy k = true) : 1 ≤ k.party ∧ 1 ≤ k.serial ∧ k.party ≤ 1073741824 ∧ k.serial ≤ 1073741824 := by
  simp only [okKy, Bool.and_eq_true, decide_eq_true_eq] at h
  omega
theorem ints_any (k : Ky) (addr var : ByteArray) (a : An) (n v : Clk) (h1 : i64 a.status) (h2 : i64 a.size) (hk : okKy k = true) (hn : okClk n = true) (hv : okClk v = true) : ∀ x ∈ stInts (named k (fromAn addr var a n.lo v.hi)), i64 x := by
  have g1 := clk_is hn
  have g2 := clk_is hv
  have g3 := ky_is hk
  unfold i64 at *
  intro x hx
  have e : stInts (named k (fromAn addr var a n.lo v.hi)) = [a.status, a.size, n.lo, v.hi, k.party, k.serial] := rfl
  rw [e] at hx
  simp only [List.mem_cons, List.not_mem_nil, or_false] at hx
  rcases hx with rfl | rfl | rfl | rfl | rfl | rfl <;> constructor <;> omega
end Go.Proofs.YtpfhmcdcmepfdaaGreatDoor


set_option linter.unusedVariables false
set_option linter.unusedSimpArgs false
namespace Go.Proofs.YtpfhmcdcmepfdaaGreatDoor
open Go.RowKit Go.Shelf
open Go.Proofs

set_option maxRecDepth 100000 in
set_option maxHeartbeats 40000000 in
theorem stampsSpec_ok (k : Ky) (addr var : ByteArray) (a : An) (s : St) (n v : Clk) (w : World) (hks : k.secret.size < 9223372036854775808) (hz : ∀ x ∈ texts7 k addr var a s, x.size ≤ 9223372036854775807) (h16 : a.body.length = 16) (hby : Byt a.body) (h16s : s.body.length = 16) (hbys : Byt s.body) (hst : i64 a.status) (hsz : i64 a.size) (hk : Konst 1 w) (hrk : RKonst w) :
    Calls Tryz.prog 3 #[.agg (kyC k), .string addr, .string var, .agg (anC a), .agg (stmC s), .agg (clkC n), .agg (clkC v)] w fun e w' => e = .returned (.bool true) ∧ Ext w w' := by
  have HS := Lib.hid (fun (W : World) (hx : Ext w W) => sanity34 W (RowAt.ext hk hx))
  have HSh : Hid (∀ (W : World) (b : Nat) (t : TypeId), b = W.heap.size → Calls Tryz.prog 9 #[.slice (some ⟨b, 0, none⟩) 7 7, .int .i64 7] (W.alloc (.cells #[.string addr, .string var, .string a.bytes, .string a.tags, .string k.secret, .string s.addr, .string s.var] t)) fun e w' => e = .returned (.bool (shortB k addr var a s)) ∧ Ext (W.alloc (.cells #[.string addr, .string var, .string a.bytes, .string a.tags, .string k.secret, .string s.addr, .string s.var] t)) w') := Lib.hid (fun W b t hb => by
    subst hb
    exact rshort_any _ 7 (texts7 k addr var a s) 7 _ (by show 7 ≤ 100000; omega) hz (reads_fresh sE (texts7 k addr var a s) W _ t rfl))
  have hfk := ky_fits k
  have hfa := an_fits a
  have hfs := stm_fits s
  obtain ⟨n0, n1⟩ := n
  obtain ⟨v0, v1⟩ := v
  have HB := Lib.hid (And.intro hz (And.intro h16 (And.intro hby (And.intro h16s (And.intro hbys (And.intro hst (And.intro hsz (And.intro hk hrk))))))))
  clear hz h16 hby h16s hbys hst hsz hk hrk
  go_enter Tryz.func3, Tryz.ntmps3
  go_upto_region 1 with (fail)
  refine wp_world (fun W => Ext w W ∧ RowAt W w.heap.size (kyC k) ∧ RowAt W (w.heap.size + 1) (anC a) ∧ RowAt W (w.heap.size + 1 + 1) (stmC s) ∧ RowAt W (w.heap.size + 1 + 1 + 1) #[.int .i64 n0, .int .i64 n1] ∧ RowAt W (w.heap.size + 1 + 1 + 1 + 1) #[.int .i64 v0, .int .i64 v1]) ⟨(by (repeat (first | with_reducible exact Ext.refl _ | with_reducible exact Ext.refl _ | with_reducible refine Ext.drew ?_ | with_reducible refine Ext.drewN ?_ _ | with_reducible refine Ext.alloc ?_ _ | with_reducible refine Ext.onto ?_ _ | (with_reducible refine Ext.setCells ?_ ?_ _ _; rotate_left; focus (first | omega | (simp; done) | (simp; omega))) | (with_reducible refine Ext.setCell ?_ ?_ _; rotate_left; focus (first | omega | (simp; done) | (simp; omega)))))), ?_, ?_, ?_, ?_, ?_⟩ ?_
  · exact ((((RowAt.new _ _ _).alloc _).alloc _).alloc _).alloc _
  · exact (((RowAt.newAt (by simp)).alloc _).alloc _).alloc _
  · exact ((RowAt.newAt (by simp)).alloc _).alloc _
  · exact (RowAt.newAt (by simp)).alloc _
  · exact RowAt.newAt (by simp)
  obtain ⟨B, hBB⟩ : ∃ B, w.heap.size = B := ⟨_, rfl⟩
  rw [hBB]
  rintro W1 ⟨x1, u0, u1, u2, u3, u4⟩
  have HX1 := Lib.hid x1
  have HU0 := Lib.hid u0
  have HU1 := Lib.hid u1
  have HU2 := Lib.hid u2
  have HU3 := Lib.hid u3
  have HU4 := Lib.hid u4
  have k2 : W1.cell? ⟨B, 2, none⟩ = some (.string k.secret) := u0.cell 2
  have a18 : W1.cell? ⟨B + 1, 18, none⟩ = some (.string a.bytes) := u1.cell 18
  have a19 : W1.cell? ⟨B + 1, 19, none⟩ = some (.string a.tags) := u1.cell 19
  have s0 : W1.cell? ⟨B + 1 + 1, 0, none⟩ = some (.string s.addr) := u2.cell 0
  have s1 : W1.cell? ⟨B + 1 + 1, 1, none⟩ = some (.string s.var) := u2.cell 1
  have hl1 := u4.lt
  clear x1 u0 u1 u2 u3 u4
  cases hsh : shortB k addr var a s with
  | false =>
    have Hsh := Lib.hid hsh
    clear hsh
    go_wp2_with (first
      | (go_at_call 9; refine (HSh.out _ _ _ rfl).mono ?_; rintro e w' ⟨rfl, hxl⟩; rw [Hsh.out]; obtain ⟨xn, rfl⟩ := hxl.asLater; clear hxl)
      | (go_at_call 10; refine (HS.out _ (by (repeat (first | with_reducible exact HX1.out | with_reducible exact Ext.refl _ | with_reducible refine Ext.drew ?_ | with_reducible refine Ext.drewN ?_ _ | with_reducible refine Ext.alloc ?_ _ | with_reducible refine Ext.onto ?_ _ | (with_reducible refine Ext.setCells ?_ ?_ _ _; rotate_left; focus (first | omega | (simp; done) | (simp; omega))) | (with_reducible refine Ext.setCell ?_ ?_ _; rotate_left; focus (first | omega | (simp; done) | (simp; omega))))))).mono ?_; rintro e w' ⟨rfl, hxl⟩; obtain ⟨xo, rfl⟩ := hxl.asLater; clear hxl))
    go_ret
    exact ⟨rfl, (by (repeat (first | with_reducible exact HX1.out | with_reducible exact Ext.refl _ | with_reducible refine Ext.drew ?_ | with_reducible refine Ext.drewN ?_ _ | with_reducible refine Ext.alloc ?_ _ | with_reducible refine Ext.onto ?_ _ | (with_reducible refine Ext.setCells ?_ ?_ _ _; rotate_left; focus (first | omega | (simp; done) | (simp; omega))) | (with_reducible refine Ext.setCell ?_ ?_ _; rotate_left; focus (first | omega | (simp; done) | (simp; omega))))))⟩
  | true =>
    have Hsh := Lib.hid hsh
    clear hsh
    go_upto_region 3 with (first
      | (go_at_call 9; refine (HSh.out _ _ _ rfl).mono ?_; rintro e w' ⟨rfl, hxl⟩; rw [Hsh.out]; obtain ⟨xn, rfl⟩ := hxl.asLater; clear hxl))
    obtain ⟨hz, h16, hby, h16s, hbys, hst, hsz, hk, hrk⟩ := HB.out
    obtain ⟨z1, z2, z3, z4, z5, z6, z7⟩ := short_is Hsh.out
    have hgS : goodS k a ⟨n0, n1⟩ ⟨v0, v1⟩ = true → (∀ x ∈ stInts (named k (fromAn addr var a n0 v1)), i64 x) ∧ lens ([k.secret] ++ stParts (named k (fromAn addr var a n0 v1)) ++ [k.secret]) < 8796093022208 ∧ a.tags.size ≤ 900000 := fun h => by
      simp only [goodS, Bool.and_eq_true] at h
      exact ⟨ints_any k addr var a ⟨n0, n1⟩ ⟨v0, v1⟩ hst hsz h.1.1.1.1.1 h.1.1.1.1.2 h.1.1.1.2, lens_any k addr var a _ _ z5 z1 z2 z4 h16, by omega⟩
    have hgR : goodR k a ⟨n0, n1⟩ ⟨v0, v1⟩ = true → a.body = s.body → a.size = s.size → (∀ x ∈ stInts (named k (fromAn s.addr s.var a n0 v1)), i64 x) ∧ lens ([k.secret] ++ stParts (named k (fromAn s.addr s.var a n0 v1)) ++ [k.secret]) < 8796093022208 ∧ a.tags.size ≤ 900000 := fun h _ _ => by
      simp only [goodR, Bool.and_eq_true] at h
      exact ⟨ints_any k s.addr s.var a ⟨n0, n1⟩ ⟨v0, v1⟩ hst hsz h.1.1.1 h.1.1.2 h.1.2, lens_any k s.addr s.var a _ _ z5 z6 z7 z4 h16, by omega⟩
    obtain ⟨X, hX⟩ : ∃ X, stampS k addr var a ⟨n0, n1⟩ ⟨v0, v1⟩ = X := ⟨_, rfl⟩
    obtain ⟨Y, hY⟩ : ∃ Y, renewS k s a ⟨n0, n1⟩ ⟨v0, v1⟩ = Y := ⟨_, rfl⟩
    have HO1 : Hid (∀ W, Ext w W → Calls Tryz.prog 11 #[.agg (kyC k), .string addr, .string var, .agg (anC a), .agg #[.int .i64 n0, .int .i64 n1], .agg #[.int .i64 v0, .int .i64 v1]] W fun e w' => e = .returned (.tuple #[.agg (stmC X.1), .int .i64 X.2]) ∧ Ext W w') := Lib.hid (fun W hx => by
      have h := ostamp_any k addr var a ⟨n0, n1⟩ ⟨v0, v1⟩ _ _ W h16 hby hks (by omega) hgS (RowAt.ext hk hx) (fun W' _ => canon_all addr W' (by omega))
      rw [stampOut_is, hX] at h
      exact h)
    have HO2 : Hid (∀ W, Ext w W → Calls Tryz.prog 12 #[.agg (kyC k), .agg (stmC s), .agg (anC a), .agg #[.int .i64 n0, .int .i64 n1], .agg #[.int .i64 v0, .int .i64 v1]] W fun e w' => e = .returned (.tuple #[.agg (stmC Y.1), .int .i64 Y.2]) ∧ Ext W w') := Lib.hid (fun W hx => by
      have h := orenew_any k s a ⟨n0, n1⟩ ⟨v0, v1⟩ _ _ W h16 hby h16s hbys hks hgR (RowAt.ext hk hx) (fun W' _ => canon_all s.addr W' (by omega))
      rw [renewOut_is, hY] at h
      exact h)
    have HR1 : Hid (∀ W, Ext w W → Calls Tryz.prog 13 #[.agg (kyC k), .string addr, .string var, .agg (anC a), .agg #[.int .i64 n0, .int .i64 n1], .agg #[.int .i64 v0, .int .i64 v1]] W fun e w' => e = .returned (.agg (ssC X.1 X.2)) ∧ Ext W w') := Lib.hid (fun W hx => by
      have h := rstamp_any k addr var a ⟨n0, n1⟩ ⟨v0, v1⟩ W (by omega) h16 hby hks (by omega) hgS (RowAt.ext hrk hx)
      rw [hX] at h
      exact h)
    have HR2 : Hid (∀ W, Ext w W → Calls Tryz.prog 14 #[.agg (kyC k), .agg (stmC s), .agg (anC a), .agg #[.int .i64 n0, .int .i64 n1], .agg #[.int .i64 v0, .int .i64 v1]] W fun e w' => e = .returned (.agg (ssC Y.1 Y.2)) ∧ Ext W w') := Lib.hid (fun W hx => by
      have h := rrenew_any k s a ⟨n0, n1⟩ ⟨v0, v1⟩ W (by omega) h16 hby h16s hbys hks hgR (RowAt.ext hrk hx)
      rw [hY] at h
      exact h)
    have hfX := stm_fits X.1
    have hfY := stm_fits Y.1
    clear hz h16 hby h16s hbys hst hsz hk hrk hgS hgR hX hY HB HSh Hsh
    refine wp_world (fun W => Ext w W ∧ RowAt W B (kyC k) ∧ RowAt W (B + 1) (anC a) ∧ RowAt W (B + 1 + 1) (stmC s) ∧ RowAt W (B + 1 + 1 + 1) #[.int .i64 n0, .int .i64 n1] ∧ RowAt W (B + 1 + 1 + 1 + 1) #[.int .i64 v0, .int .i64 v1]) ⟨(by (repeat (first | with_reducible exact HX1.out | with_reducible exact Ext.refl _ | with_reducible refine Ext.drew ?_ | with_reducible refine Ext.drewN ?_ _ | with_reducible refine Ext.alloc ?_ _ | with_reducible refine Ext.onto ?_ _ | (with_reducible refine Ext.setCells ?_ ?_ _ _; rotate_left; focus (first | omega | (simp; done) | (simp; omega))) | (with_reducible refine Ext.setCell ?_ ?_ _; rotate_left; focus (first | omega | (simp; done) | (simp; omega)))))), (HU0.out.alloc _).later _, (HU1.out.alloc _).later _, (HU2.out.alloc _).later _, (HU3.out.alloc _).later _, (HU4.out.alloc _).later _⟩ ?_
    clear HX1 HU0 HU1 HU2 HU3 HU4 k2 a18 a19 s0 s1 hl1
    rintro W2 ⟨x1, u0, u1, u2, u3, u4⟩
    have HX1 := Lib.hid x1
    have HU0 := Lib.hid u0
    have HU1 := Lib.hid u1
    have HU2 := Lib.hid u2
    have HU3 := Lib.hid u3
    have HU4 := Lib.hid u4
    have k0 : rowOf W2 B 0 5 = some (kyC k) := u0.all rfl (by omega)
    have a0 : rowOf W2 (B + 1) 0 21 = some (anC a) := u1.all rfl (by omega)
    have c0 : W2.cell? ⟨B + 1 + 1 + 1, 0, none⟩ = some (.int .i64 n0) := u3.cell 0
    have c1 : W2.cell? ⟨B + 1 + 1 + 1, 1, none⟩ = some (.int .i64 n1) := u3.cell 1
    have e0 : W2.cell? ⟨B + 1 + 1 + 1 + 1, 0, none⟩ = some (.int .i64 v0) := u4.cell 0
    have e1 : W2.cell? ⟨B + 1 + 1 + 1 + 1, 1, none⟩ = some (.int .i64 v1) := u4.cell 1
    have hl1 := u4.lt
    clear x1 u0 u1 u2 u3 u4
    go_upto_region 4 with (go_at_call 11; refine (HO1.out _ HX1.out).mono ?_; rintro e w' ⟨rfl, hxl⟩; obtain ⟨xp, rfl⟩ := hxl.asLater; clear hxl)
    refine wp_world (fun W => Ext w W ∧ RowAt W B (kyC k) ∧ RowAt W (B + 1) (anC a) ∧ RowAt W (B + 1 + 1) (stmC s) ∧ RowAt W (B + 1 + 1 + 1) #[.int .i64 n0, .int .i64 n1] ∧ RowAt W (B + 1 + 1 + 1 + 1) #[.int .i64 v0, .int .i64 v1] ∧ RowAt W (W2.heap.size + xp.n) (stmC X.1)) ⟨(by (repeat (first | with_reducible exact HX1.out | with_reducible exact Ext.refl _ | with_reducible refine Ext.drew ?_ | with_reducible refine Ext.drewN ?_ _ | with_reducible refine Ext.alloc ?_ _ | with_reducible refine Ext.onto ?_ _ | (with_reducible refine Ext.setCells ?_ ?_ _ _; rotate_left; focus (first | omega | (simp; done) | (simp; omega))) | (with_reducible refine Ext.setCell ?_ ?_ _; rotate_left; focus (first | omega | (simp; done) | (simp; omega)))))), ((HU0.out.later _).alloc _).others (by omega) _ _, ((HU1.out.later _).alloc _).others (by omega) _ _, ((HU2.out.later _).alloc _).others (by omega) _ _, ((HU3.out.later _).alloc _).others (by omega) _ _, ((HU4.out.later _).alloc _).others (by omega) _ _, (RowAt.newAt (by simp [later_size])).store rfl⟩ ?_
    obtain ⟨g1, hg1⟩ : ∃ g, W2.heap.size + xp.n = g := ⟨_, rfl⟩
    rw [hg1]
    clear hg1 HX1 HU0 HU1 HU2 HU3 HU4 k0 a0 c0 c1 e0 e1 hl1
    rintro W3 ⟨x1, u0, u1, u2, u3, u4, u5⟩
    have HX1 := Lib.hid x1
    have HU0 := Lib.hid u0
    have HU1 := Lib.hid u1
    have HU2 := Lib.hid u2
    have HU3 := Lib.hid u3
    have HU4 := Lib.hid u4
    have HU5 := Lib.hid u5
    have k0 : rowOf W3 B 0 5 = some (kyC k) := u0.all rfl (by omega)
    have a0 : rowOf W3 (B + 1) 0 21 = some (anC a) := u1.all rfl (by omega)
    have t0 : rowOf W3 (B + 1 + 1) 0 41 = some (stmC s) := u2.all rfl (by omega)
    have c0 : W3.cell? ⟨B + 1 + 1 + 1, 0, none⟩ = some (.int .i64 n0) := u3.cell 0
    have c1 : W3.cell? ⟨B + 1 + 1 + 1, 1, none⟩ = some (.int .i64 n1) := u3.cell 1
    have e0 : W3.cell? ⟨B + 1 + 1 + 1 + 1, 0, none⟩ = some (.int .i64 v0) := u4.cell 0
    have e1 : W3.cell? ⟨B + 1 + 1 + 1 + 1, 1, none⟩ = some (.int .i64 v1) := u4.cell 1
    have hl1 := u4.lt
    have hl5 := u5.lt
    clear x1 u0 u1 u2 u3 u4 u5
    go_upto_region 5 with (go_at_call 12; refine (HO2.out _ HX1.out).mono ?_; rintro e w' ⟨rfl, hxl⟩; obtain ⟨xq, rfl⟩ := hxl.asLater; clear hxl)
    refine wp_world (fun W => Ext w W ∧ RowAt W B (kyC k) ∧ RowAt W (B + 1) (anC a) ∧ RowAt W (B + 1 + 1) (stmC s) ∧ RowAt W (B + 1 + 1 + 1) #[.int .i64 n0, .int .i64 n1] ∧ RowAt W (B + 1 + 1 + 1 + 1) #[.int .i64 v0, .int .i64 v1] ∧ RowAt W g1 (stmC X.1) ∧ RowAt W (W3.heap.size + xq.n) (stmC Y.1)) ⟨(by (repeat (first | with_reducible exact HX1.out | with_reducible exact Ext.refl _ | with_reducible refine Ext.drew ?_ | with_reducible refine Ext.drewN ?_ _ | with_reducible refine Ext.alloc ?_ _ | with_reducible refine Ext.onto ?_ _ | (with_reducible refine Ext.setCells ?_ ?_ _ _; rotate_left; focus (first | omega | (simp; done) | (simp; omega))) | (with_reducible refine Ext.setCell ?_ ?_ _; rotate_left; focus (first | omega | (simp; done) | (simp; omega)))))), ((HU0.out.later _).alloc _).others (by omega) _ _, ((HU1.out.later _).alloc _).others (by omega) _ _, ((HU2.out.later _).alloc _).others (by omega) _ _, ((HU3.out.later _).alloc _).others (by omega) _ _, ((HU4.out.later _).alloc _).others (by omega) _ _, ((HU5.out.later _).alloc _).others (by omega) _ _, (RowAt.newAt (by simp [later_size])).store rfl⟩ ?_
    obtain ⟨g2, hg2⟩ : ∃ g, W3.heap.size + xq.n = g := ⟨_, rfl⟩
    rw [hg2]
    clear hg2 HX1 HU0 HU1 HU2 HU3 HU4 HU5 k0 a0 t0 c0 c1 e0 e1 hl1 hl5
    rintro W4 ⟨x1, u0, u1, u2, u3, u4, u5, u6⟩
    have HX1 := Lib.hid x1
    have HU5 := Lib.hid u5
    have HU6 := Lib.hid u6
    have k0 : rowOf W4 B 0 5 = some (kyC k) := u0.all rfl (by omega)
    have a0 : rowOf W4 (B + 1) 0 21 = some (anC a) := u1.all rfl (by omega)
    have t0 : rowOf W4 (B + 1 + 1) 0 41 = some (stmC s) := u2.all rfl (by omega)
    have c0 : W4.cell? ⟨B + 1 + 1 + 1, 0, none⟩ = some (.int .i64 n0) := u3.cell 0
    have c1 : W4.cell? ⟨B + 1 + 1 + 1, 1, none⟩ = some (.int .i64 n1) := u3.cell 1
    have e0 : W4.cell? ⟨B + 1 + 1 + 1 + 1, 0, none⟩ = some (.int .i64 v0) := u4.cell 0
    have e1 : W4.cell? ⟨B + 1 + 1 + 1 + 1, 1, none⟩ = some (.int .i64 v1) := u4.cell 1
    have hl1 := u4.lt
    have hfsx := ss_fits X.1 X.2
    have hfsy := ss_fits Y.1 Y.2
    clear x1 u0 u1 u2 u3 u4 u5 u6
    refine wp_region_row2N 17 (by kernel_rfl) 13 15 14 16 (fun i => ([.agg (kyC k), .string addr, .string var, .agg (anC a), .agg #[.int .i64 n0, .int .i64 n1], .agg #[.int .i64 v0, .int .i64 v1], .agg (ssC X.1 X.2), .agg (kyC k), .agg (stmC s), .agg (anC a), .agg #[.int .i64 n0, .int .i64 n1], .agg #[.int .i64 v0, .int .i64 v1], .agg (ssC Y.1 Y.2)] : List Value).getD i undef) (ssC X.1 X.2) (ssC Y.1 Y.2) (by kernel_rfl) (by kernel_rfl) (by decide) (by decide) (by decide) (by decide) (by decide) (by decide) (by decide) (by decide) (by decide) (by decide) (of_decide_eq_true (by kernel_rfl)) (of_decide_eq_true (by kernel_rfl)) (lt_cons ?_ (lt_cons ?_ (lt_cons ?_ (lt_cons ?_ (lt_cons ?_ (lt_cons ?_ (lt_cons ?_ (lt_cons ?_ (lt_cons ?_ (lt_cons ?_ (lt_cons ?_ (lt_cons ?_ (lt_cons ?_ (lt_cons ?_ (lt_cons ?_ (lt_cons ?_ (lt_cons ?_ lt_none))))))))))))))))) ?_ ?_ ?_
    ·
      intro _
      intro o ho xs W hW hd Q' hQ; obtain rfl := Option.some.inj ho; clear ho; simp only [fillAt, dstOf, List.getElem?_cons_zero, List.getElem?_cons_succ, Option.bind_some, Act.put, List.setIfInBounds_toArray, List.set_cons_zero, List.set_cons_succ, Nat.zero_add, Nat.reduceAdd] at hQ ⊢; have HQ := Lib.hid hQ; have HD := Lib.hid hd; have HW := Lib.hid hW; have hsW := hW.size; clear hQ hd hW
      have hc := (row_extW HW.out (b := B) (by omega) 0 5).trans k0
      go_wp2
      exact HQ.out _ _ (Ext.refl _) rfl
    ·
      intro _
      intro o ho xs W hW hd Q' hQ; obtain rfl := Option.some.inj ho; clear ho; simp only [fillAt, dstOf, List.getElem?_cons_zero, List.getElem?_cons_succ, Option.bind_some, Act.put, List.setIfInBounds_toArray, List.set_cons_zero, List.set_cons_succ, Nat.zero_add, Nat.reduceAdd] at hQ ⊢; have HQ := Lib.hid hQ; have HD := Lib.hid hd; have HW := Lib.hid hW; have hsW := hW.size; clear hQ hd hW
      go_wp2
      exact HQ.out _ _ (Ext.refl _) rfl
    ·
      intro _
      intro o ho xs W hW hd Q' hQ; obtain rfl := Option.some.inj ho; clear ho; simp only [fillAt, dstOf, List.getElem?_cons_zero, List.getElem?_cons_succ, Option.bind_some, Act.put, List.setIfInBounds_toArray, List.set_cons_zero, List.set_cons_succ, Nat.zero_add, Nat.reduceAdd] at hQ ⊢; have HQ := Lib.hid hQ; have HD := Lib.hid hd; have HW := Lib.hid hW; have hsW := hW.size; clear hQ hd hW
      go_wp2
      exact HQ.out _ _ (Ext.refl _) rfl
    ·
      intro _
      intro o ho xs W hW hd Q' hQ; obtain rfl := Option.some.inj ho; clear ho; simp only [fillAt, dstOf, List.getElem?_cons_zero, List.getElem?_cons_succ, Option.bind_some, Act.put, List.setIfInBounds_toArray, List.set_cons_zero, List.set_cons_succ, Nat.zero_add, Nat.reduceAdd] at hQ ⊢; have HQ := Lib.hid hQ; have HD := Lib.hid hd; have HW := Lib.hid hW; have hsW := hW.size; clear hQ hd hW
      have hc := (row_extW HW.out (b := B + 1) (by omega) 0 21).trans a0
      go_wp2
      exact HQ.out _ _ (Ext.refl _) rfl
    ·
      intro _
      intro o ho xs W hW hd Q' hQ; obtain rfl := Option.some.inj ho; clear ho; simp only [fillAt, dstOf, List.getElem?_cons_zero, List.getElem?_cons_succ, Option.bind_some, Act.put, List.setIfInBounds_toArray, List.set_cons_zero, List.set_cons_succ, Nat.zero_add, Nat.reduceAdd] at hQ ⊢; have HQ := Lib.hid hQ; have HD := Lib.hid hd; have HW := Lib.hid hW; have hsW := hW.size; clear hQ hd hW
      have hc := (HW.out.cell (p := ⟨B + 1 + 1 + 1, 0, none⟩) (by show B + 1 + 1 + 1 < _; omega)).trans c0
      have hc2 := (HW.out.cell (p := ⟨B + 1 + 1 + 1, 1, none⟩) (by show B + 1 + 1 + 1 < _; omega)).trans c1
      go_wp2
      exact HQ.out _ _ (Ext.refl _) rfl
    ·
      intro _
      intro o ho xs W hW hd Q' hQ; obtain rfl := Option.some.inj ho; clear ho; simp only [fillAt, dstOf, List.getElem?_cons_zero, List.getElem?_cons_succ, Option.bind_some, Act.put, List.setIfInBounds_toArray, List.set_cons_zero, List.set_cons_succ, Nat.zero_add, Nat.reduceAdd] at hQ ⊢; have HQ := Lib.hid hQ; have HD := Lib.hid hd; have HW := Lib.hid hW; have hsW := hW.size; clear hQ hd hW
      have hc := (HW.out.cell (p := ⟨B + 1 + 1 + 1 + 1, 0, none⟩) (by show B + 1 + 1 + 1 + 1 < _; omega)).trans e0
      have hc2 := (HW.out.cell (p := ⟨B + 1 + 1 + 1 + 1, 1, none⟩) (by show B + 1 + 1 + 1 + 1 < _; omega)).trans e1
      go_wp2
      exact HQ.out _ _ (Ext.refl _) rfl
    ·
      intro _
      intro o ho xs W hW hd Q' hQ; obtain rfl := Option.some.inj ho; clear ho; simp only [fillAt, dstOf, List.getElem?_cons_zero, List.getElem?_cons_succ, Option.bind_some, Act.put, List.setIfInBounds_toArray, List.set_cons_zero, List.set_cons_succ, Nat.zero_add, Nat.reduceAdd] at hQ ⊢; have HQ := Lib.hid hQ; have HD := Lib.hid hd; have HW := Lib.hid hW; have hsW := hW.size; clear hQ hd hW
      have hd0 : xs 0 = .agg (kyC k) := (HD.out 0 (of_decide_eq_true (by kernel_rfl)) ⟨by decide, by decide, by decide, by decide⟩)
      generalize xs 0 = x0 at hd0 HQ ⊢; subst hd0
      have hd1 : xs 1 = .string addr := (HD.out 1 (of_decide_eq_true (by kernel_rfl)) ⟨by decide, by decide, by decide, by decide⟩)
      generalize xs 1 = x1 at hd1 HQ ⊢; subst hd1
      have hd2 : xs 2 = .string var := (HD.out 2 (of_decide_eq_true (by kernel_rfl)) ⟨by decide, by decide, by decide, by decide⟩)
      generalize xs 2 = x2 at hd2 HQ ⊢; subst hd2
      have hd3 : xs 3 = .agg (anC a) := (HD.out 3 (of_decide_eq_true (by kernel_rfl)) ⟨by decide, by decide, by decide, by decide⟩)
      generalize xs 3 = x3 at hd3 HQ ⊢; subst hd3
      have hd4 : xs 4 = .agg #[.int .i64 n0, .int .i64 n1] := (HD.out 4 (of_decide_eq_true (by kernel_rfl)) ⟨by decide, by decide, by decide, by decide⟩)
      generalize xs 4 = x4 at hd4 HQ ⊢; subst hd4
      have hd5 : xs 5 = .agg #[.int .i64 v0, .int .i64 v1] := (HD.out 5 (of_decide_eq_true (by kernel_rfl)) ⟨by decide, by decide, by decide, by decide⟩)
      generalize xs 5 = x5 at hd5 HQ ⊢; subst hd5
      go_wp2_with (go_at_call 13; refine (HR1.out _ (HX1.out.trans HW.out)).mono ?_; rintro e w1 ⟨rfl, hx⟩)
      exact HQ.out _ _ hx rfl
    ·
      intro _
      intro o ho xs W hW hd Q' hQ; obtain rfl := Option.some.inj ho; clear ho; simp only [fillAt, dstOf, List.getElem?_cons_zero, List.getElem?_cons_succ, Option.bind_some, Act.put, List.setIfInBounds_toArray, List.set_cons_zero, List.set_cons_succ, Nat.zero_add, Nat.reduceAdd] at hQ ⊢; have HQ := Lib.hid hQ; have HD := Lib.hid hd; have HW := Lib.hid hW; have hsW := hW.size; clear hQ hd hW
      have hc := (row_extW HW.out (b := B) (by omega) 0 5).trans k0
      go_wp2
      exact HQ.out _ _ (Ext.refl _) rfl
    ·
      intro _
      intro o ho xs W hW hd Q' hQ; obtain rfl := Option.some.inj ho; clear ho; simp only [fillAt, dstOf, List.getElem?_cons_zero, List.getElem?_cons_succ, Option.bind_some, Act.put, List.setIfInBounds_toArray, List.set_cons_zero, List.set_cons_succ, Nat.zero_add, Nat.reduceAdd] at hQ ⊢; have HQ := Lib.hid hQ; have HD := Lib.hid hd; have HW := Lib.hid hW; have hsW := hW.size; clear hQ hd hW
      have hc := (row_extW HW.out (b := B + 1 + 1) (by omega) 0 41).trans t0
      go_wp2
      exact HQ.out _ _ (Ext.refl _) rfl
    ·
      intro _
      intro o ho xs W hW hd Q' hQ; obtain rfl := Option.some.inj ho; clear ho; simp only [fillAt, dstOf, List.getElem?_cons_zero, List.getElem?_cons_succ, Option.bind_some, Act.put, List.setIfInBounds_toArray, List.set_cons_zero, List.set_cons_succ, Nat.zero_add, Nat.reduceAdd] at hQ ⊢; have HQ := Lib.hid hQ; have HD := Lib.hid hd; have HW := Lib.hid hW; have hsW := hW.size; clear hQ hd hW
      have hc := (row_extW HW.out (b := B + 1) (by omega) 0 21).trans a0
      go_wp2
      exact HQ.out _ _ (Ext.refl _) rfl
    ·
      intro _
      intro o ho xs W hW hd Q' hQ; obtain rfl := Option.some.inj ho; clear ho; simp only [fillAt, dstOf, List.getElem?_cons_zero, List.getElem?_cons_succ, Option.bind_some, Act.put, List.setIfInBounds_toArray, List.set_cons_zero, List.set_cons_succ, Nat.zero_add, Nat.reduceAdd] at hQ ⊢; have HQ := Lib.hid hQ; have HD := Lib.hid hd; have HW := Lib.hid hW; have hsW := hW.size; clear hQ hd hW
      have hc := (HW.out.cell (p := ⟨B + 1 + 1 + 1, 0, none⟩) (by show B + 1 + 1 + 1 < _; omega)).trans c0
      have hc2 := (HW.out.cell (p := ⟨B + 1 + 1 + 1, 1, none⟩) (by show B + 1 + 1 + 1 < _; omega)).trans c1
      go_wp2
      exact HQ.out _ _ (Ext.refl _) rfl
    ·
      intro _
      intro o ho xs W hW hd Q' hQ; obtain rfl := Option.some.inj ho; clear ho; simp only [fillAt, dstOf, List.getElem?_cons_zero, List.getElem?_cons_succ, Option.bind_some, Act.put, List.setIfInBounds_toArray, List.set_cons_zero, List.set_cons_succ, Nat.zero_add, Nat.reduceAdd] at hQ ⊢; have HQ := Lib.hid hQ; have HD := Lib.hid hd; have HW := Lib.hid hW; have hsW := hW.size; clear hQ hd hW
      have hc := (HW.out.cell (p := ⟨B + 1 + 1 + 1 + 1, 0, none⟩) (by show B + 1 + 1 + 1 + 1 < _; omega)).trans e0
      have hc2 := (HW.out.cell (p := ⟨B + 1 + 1 + 1 + 1, 1, none⟩) (by show B + 1 + 1 + 1 + 1 < _; omega)).trans e1
      go_wp2
      exact HQ.out _ _ (Ext.refl _) rfl
    ·
      intro _
      intro o ho xs W hW hd Q' hQ; obtain rfl := Option.some.inj ho; clear ho; simp only [fillAt, dstOf, List.getElem?_cons_zero, List.getElem?_cons_succ, Option.bind_some, Act.put, List.setIfInBounds_toArray, List.set_cons_zero, List.set_cons_succ, Nat.zero_add, Nat.reduceAdd] at hQ ⊢; have HQ := Lib.hid hQ; have HD := Lib.hid hd; have HW := Lib.hid hW; have hsW := hW.size; clear hQ hd hW
      have hd7 : xs 7 = .agg (kyC k) := (HD.out 7 (of_decide_eq_true (by kernel_rfl)) ⟨by decide, by decide, by decide, by decide⟩)
      generalize xs 7 = x7 at hd7 HQ ⊢; subst hd7
      have hd8 : xs 8 = .agg (stmC s) := (HD.out 8 (of_decide_eq_true (by kernel_rfl)) ⟨by decide, by decide, by decide, by decide⟩)
      generalize xs 8 = x8 at hd8 HQ ⊢; subst hd8
      have hd9 : xs 9 = .agg (anC a) := (HD.out 9 (of_decide_eq_true (by kernel_rfl)) ⟨by decide, by decide, by decide, by decide⟩)
      generalize xs 9 = x9 at hd9 HQ ⊢; subst hd9
      have hd10 : xs 10 = .agg #[.int .i64 n0, .int .i64 n1] := (HD.out 10 (of_decide_eq_true (by kernel_rfl)) ⟨by decide, by decide, by decide, by decide⟩)
      generalize xs 10 = x10 at hd10 HQ ⊢; subst hd10
      have hd11 : xs 11 = .agg #[.int .i64 v0, .int .i64 v1] := (HD.out 11 (of_decide_eq_true (by kernel_rfl)) ⟨by decide, by decide, by decide, by decide⟩)
      generalize xs 11 = x11 at hd11 HQ ⊢; subst hd11
      go_wp2_with (go_at_call 14; refine (HR2.out _ (HX1.out.trans HW.out)).mono ?_; rintro e w1 ⟨rfl, hx⟩)
      exact HQ.out _ _ hx rfl
    · exact fun h => absurd rfl h.1
    · exact fun h => absurd rfl h.2.2.1
    · exact fun h => absurd rfl h.2.1
    · exact fun h => absurd rfl h.2.2.2
    · rintro ia cs (⟨rfl, rfl⟩ | ⟨rfl, rfl⟩)
      ·
        intro o ho xs W hW Q' hQ; obtain rfl := Option.some.inj ho; clear ho; simp only [fillAt, dstOf, List.getElem?_cons_zero, List.getElem?_cons_succ, Option.bind_some, Act.put, List.setIfInBounds_toArray, List.set_cons_zero, List.set_cons_succ, Nat.zero_add, Nat.reduceAdd] at hQ ⊢; have HQ := Lib.hid hQ; have HW := Lib.hid hW; have hsW := hW.size; clear hQ hW
        go_wp2
        exact HQ.out _ W.heap.size ((Ext.refl _).alloc _) (Nat.le_refl _) ⟨_, RowAt.new _ _ _, rfl⟩
      ·
        intro o ho xs W hW Q' hQ; obtain rfl := Option.some.inj ho; clear ho; simp only [fillAt, dstOf, List.getElem?_cons_zero, List.getElem?_cons_succ, Option.bind_some, Act.put, List.setIfInBounds_toArray, List.set_cons_zero, List.set_cons_succ, Nat.zero_add, Nat.reduceAdd] at hQ ⊢; have HQ := Lib.hid hQ; have HW := Lib.hid hW; have hsW := hW.size; clear hQ hW
        go_wp2
        exact HQ.out _ W.heap.size ((Ext.refl _).alloc _) (Nat.le_refl _) ⟨_, RowAt.new _ _ _, rfl⟩
    · rintro ia is cs (⟨rfl, rfl, rfl⟩ | ⟨rfl, rfl, rfl⟩)
      ·
        intro o ho xs W b hW hb hr hd Q' hQ; obtain rfl := Option.some.inj ho; clear ho; simp only [fillAt, dstOf, List.getElem?_cons_zero, List.getElem?_cons_succ, Option.bind_some, Act.put, List.setIfInBounds_toArray, List.set_cons_zero, List.set_cons_succ, Nat.zero_add, Nat.reduceAdd] at hQ ⊢; have HQ := Lib.hid hQ; have HD := Lib.hid hd; have HW := Lib.hid hW; clear hQ hd hW
        have hdv : xs 6 = .agg (ssC X.1 X.2) := (HD.out 6 (of_decide_eq_true (by kernel_rfl)) ⟨by decide, by decide, by decide, by decide⟩)
        obtain ⟨ds, hr1, hz1⟩ := hr
        have hrm : roomOf W b 0 42 = true := by rw [hr1.room, hz1]; rfl
        generalize xs 6 = x6 at hdv HQ ⊢; subst hdv
        generalize xs 13 = xa at hb HQ ⊢; subst hb
        clear hr1 hz1
        go_wp2
        exact HQ.out undef
      ·
        intro o ho xs W b hW hb hr hd Q' hQ; obtain rfl := Option.some.inj ho; clear ho; simp only [fillAt, dstOf, List.getElem?_cons_zero, List.getElem?_cons_succ, Option.bind_some, Act.put, List.setIfInBounds_toArray, List.set_cons_zero, List.set_cons_succ, Nat.zero_add, Nat.reduceAdd] at hQ ⊢; have HQ := Lib.hid hQ; have HD := Lib.hid hd; have HW := Lib.hid hW; clear hQ hd hW
        have hdv : xs 12 = .agg (ssC Y.1 Y.2) := (HD.out 12 (of_decide_eq_true (by kernel_rfl)) ⟨by decide, by decide, by decide, by decide⟩)
        obtain ⟨ds, hr1, hz1⟩ := hr
        have hrm : roomOf W b 0 42 = true := by rw [hr1.room, hz1]; rfl
        generalize xs 12 = x12 at hdv HQ ⊢; subst hdv
        generalize xs 14 = xa at hb HQ ⊢; subst hb
        clear hr1 hz1
        go_wp2
        exact HQ.out undef
    intro xs W5 b1 b2 hx5 h13 h14 hb1 hb2 hr1 hr2 _
    simp only [fillAt, dstOf, List.getElem?_cons_zero, List.getElem?_cons_succ, Option.bind_some, Act.put, List.setIfInBounds_toArray, List.set_cons_zero, List.set_cons_succ, Nat.zero_add, Nat.reduceAdd]
    generalize xs 13 = x13 at *; subst h13
    generalize xs 14 = x14 at *; subst h14
    have HX5 := Lib.hid (HX1.out.trans hx5)
    have rX : rowOf W5 g1 0 41 = some (stmC X.1) := (HU5.out.ext hx5).all rfl (by omega)
    have rY : rowOf W5 g2 0 41 = some (stmC Y.1) := (HU6.out.ext hx5).all rfl (by omega)
    have q1 : rowOf W5 b1 0 41 = some (stmC X.1) := by rw [hr1.row, if_neg (by omega), ss_stm]
    have q2 : rowOf W5 b2 0 41 = some (stmC Y.1) := by rw [hr2.row, if_neg (by omega), ss_stm]
    have f1 : W5.cell? ⟨b1, 41, none⟩ = some (.int .i64 X.2) := (hr1.cell 41).trans (ss_g41 _ _)
    have f2 : W5.cell? ⟨b2, 41, none⟩ = some (.int .i64 Y.2) := (hr2.cell 41).trans (ss_g41 _ _)
    have hlb1 := hr1.lt
    have hlb2 := hr2.lt
    have hlg1 := (HU5.out.ext hx5).lt
    have hlg2 := (HU6.out.ext hx5).lt
    have eqX := stm_eqself X.1
    have eqY := stm_eqself Y.1
    clear hx5 hr1 hr2 k0 a0 t0 c0 c1 e0 e1 hl1 HU5 HU6 HR1 HR2 HO1 HO2
    go_wp2_with (go_at_call 10; refine (HS.out _ (by (repeat (first | with_reducible exact HX5.out | with_reducible exact Ext.refl _ | with_reducible refine Ext.drew ?_ | with_reducible refine Ext.drewN ?_ _ | with_reducible refine Ext.alloc ?_ _ | with_reducible refine Ext.onto ?_ _ | (with_reducible refine Ext.setCells ?_ ?_ _ _; rotate_left; focus (first | omega | (simp; done) | (simp; omega))) | (with_reducible refine Ext.setCell ?_ ?_ _; rotate_left; focus (first | omega | (simp; done) | (simp; omega))))))).mono ?_; rintro e w' ⟨rfl, hxl⟩; obtain ⟨xo, rfl⟩ := hxl.asLater; clear hxl)
    go_ret
    exact ⟨rfl, (by (repeat (first | with_reducible exact HX5.out | with_reducible exact Ext.refl _ | with_reducible refine Ext.drew ?_ | with_reducible refine Ext.drewN ?_ _ | with_reducible refine Ext.alloc ?_ _ | with_reducible refine Ext.onto ?_ _ | (with_reducible refine Ext.setCells ?_ ?_ _ _; rotate_left; focus (first | omega | (simp; done) | (simp; omega))) | (with_reducible refine Ext.setCell ?_ ?_ _; rotate_left; focus (first | omega | (simp; done) | (simp; omega))))))⟩
end Go.Proofs.YtpfhmcdcmepfdaaGreatDoor


set_option linter.unusedVariables false
set_option linter.unusedSimpArgs false
namespace Go.Proofs.YtpfhmcdcmepfdaaGreatDoor
open Go.ChangeShapes Go.WideShapes Go.ChangeAt Go.ChangeMaps Go.RowKit
open Go.Proofs

set_option maxRecDepth 100000 in
theorem laidT {W : World} (h : laidMetH Tryz.prog Rows.originStampsAsSpecifiedRow.laid W) : Konst 1 W ∧ RKonst W := by
  rw [MakeChecks.laidMetH_plain _ _ _ (by kernel_rfl)] at h
  obtain ⟨ps, ⟨ga, ta, csa, fa, pa, qa, hga, hta, hva, hda, ⟨g0, t0, cs0, f0, p0, q0, hg0, ht0, hv0, hd0, ⟨g1, t1, cs1, f1, p1, q1, hg1, ht1, hv1, hd1, _, rfl⟩, rfl⟩, rfl⟩, _, hf⟩ := h
  obtain rfl := Option.some.inj ((show Tryz.prog.globalNamed "weirgate/weirgateref02.constants" = some 0 by kernel_rfl).symm.trans hg0)
  obtain rfl := Option.some.inj ((show Tryz.prog.globalNamed "weirgate/hash.constants" = some 1 by kernel_rfl).symm.trans hg1)
  obtain rfl := Option.some.inj ((show (Tryz.prog.globals[(0 : Nat)]?).map (·.type) = some 264 by kernel_rfl).symm.trans ht0)
  obtain rfl := Option.some.inj ((show (Tryz.prog.globals[(1 : Nat)]?).map (·.type) = some 264 by kernel_rfl).symm.trans ht1)
  rw [laidRK] at hd0
  rw [laidK] at hd1
  exact ⟨table_at hg1 hv1 hd1 (fun x hx => by simp [hx]) hf, table_at hg0 hv0 hd0 (fun x hx => by simp [hx]) hf⟩

set_option maxRecDepth 100000 in
theorem originStampsAsSpecified_lifted (os : Os) (started : os.Started) (H : Type) (enc : TypeId × Value → H) :
    ReturnsInHanded {} Tryz.checked os 3 .any (fun w args => (Rows.originStampsAsSpecifiedSpec.pre enc Tryz.prog Tryz.f3 Rows.originStampsAsSpecifiedRow.domain false w args ∧ laidMetH Tryz.prog Rows.originStampsAsSpecifiedRow.laid w) ∧ sizedMet enc Tryz.prog Tryz.f3 (OpenSpec.ofChange Rows.originStampsAsSpecifiedSpec) false w args)
      (Rows.originStampsAsSpecifiedSpec.post enc Tryz.prog Tryz.f3 false true false false) := by
  refine returnsInHanded_of_change_and (C := Tryz.checked) (X := fun w _ => laidMetH Tryz.prog Rows.originStampsAsSpecifiedRow.laid w) (fun _ _ _ hh h => h.of_heap hh) Tryz.own started (by kernel_rfl) Tryz.func3
    (ChangeSpec.witness_shaped (enc := enc) (C := Tryz.checked) (os := os) (X := fun w _ => laidMetH Tryz.prog Rows.originStampsAsSpecifiedRow.laid w) false (World.laidAll Tryz.prog os Rows.originStampsAsSpecifiedRow.laid) #[.agg (kyC noKy), .string ByteArray.empty, .string ByteArray.empty, .agg (anC noAn), .agg (stmC noSt), .agg (clkC ⟨0, 0⟩), .agg (clkC ⟨0, 0⟩)] 8 (World.laidAll_os _ _ _)
      (World.shaped_of_ZipB (by kernel_rfl) (by kernel_rfl)) (by kernel_rfl) (by kernel_rfl) (by kernel_rfl)
      (by rw [MakeChecks.laidMetH_plain _ _ _ (by kernel_rfl)]; exact laidMet_laidAll _ (by kernel_rfl) (by kernel_rfl))) ?_
  intro W base args ds gs before hval0 hW hcnd hSz hL _
  have hval : ∀ (j : Nat) t v, Tryz.f3.params[j]? = some t → args[j]? = some v → Value.okWide Tryz.prog W .any base t v := hval0
  have hW' := hW
  obtain ⟨p, q, hA0, hV, rfl, hfz, hnd⟩ := hW
  have hA : DataW.TrodAll enc Tryz.prog W 0 (fun _ => true) true Tryz.f3.params.toList args.toList ds p := hA0
  rw [Tryz.params3] at hA hval
  obtain ⟨rfl, rfl⟩ := trodVars_none hV
  clear hA0 hval0 hcnd
  obtain ⟨v0, vs0, d0, ds0, p0, q0, ea0, rfl, rfl, h0, hA⟩ := trodAll_cons hA
  obtain ⟨v1, vs1, d1, ds1, p1, q1, rfl, rfl, rfl, h1, hA⟩ := trodAll_cons hA
  obtain ⟨v2, vs2, d2, ds2, p2, q2, rfl, rfl, rfl, h2, hA⟩ := trodAll_cons hA
  obtain ⟨v3, vs3, d3, ds3, p3, q3, rfl, rfl, rfl, h3, hA⟩ := trodAll_cons hA
  obtain ⟨v4, vs4, d4, ds4, p4, q4, rfl, rfl, rfl, h4, hA⟩ := trodAll_cons hA
  obtain ⟨v5, vs5, d5, ds5, p5, q5, rfl, rfl, rfl, h5, hA⟩ := trodAll_cons hA
  obtain ⟨v6, vs6, d6, ds6, p6, q6, rfl, rfl, rfl, h6, hA⟩ := trodAll_cons hA
  obtain ⟨rfl, rfl, rfl⟩ := trodAll_nil hA
  obtain rfl : args = #[v0, v1, v2, v3, v4, v5, v6] := by cases args; simp_all
  obtain ⟨hk, hrk⟩ := laidT hL
  obtain ⟨k, rfl, hks⟩ := open_key (hval 0 23 v0 rfl rfl) h0
  obtain ⟨ad, rfl, had⟩ := open_string Tryz.underlying9 (hval 1 9 v1 rfl rfl) h1
  obtain ⟨va, rfl, hva⟩ := open_string Tryz.underlying9 (hval 2 9 v2 rfl rfl) h2
  obtain ⟨a, rfl, a16, aby, z1, z2, hst, hsz⟩ := open_answer (hval 3 27 v3 rfl rfl) h3
  obtain ⟨s, rfl, s16, sby, y1, y2, _, _, _⟩ := open_stampO (hval 4 32 v4 rfl rfl) h4
  obtain ⟨n0, n1, rfl, _, _⟩ := open_period (hval 5 29 v5 rfl rfl) h5
  obtain ⟨m0, m1, rfl, _, _⟩ := open_period (hval 6 29 v6 rfl rfl) h6
  have main := stampsSpec_ok k ad va a s ⟨n0, n1⟩ ⟨m0, m1⟩ W (by unfold maxLen at hks; omega) (fun x hx => by
    unfold maxLen at *
    simp only [texts7, List.mem_cons, List.not_mem_nil, or_false] at hx
    rcases hx with rfl | rfl | rfl | rfl | rfl | rfl | rfl <;> omega) a16 aby s16 sby hst hsz hk hrk
  refine main.mono fun e' W' ⟨he, hx⟩ => ?_
  subst he
  exact ⟨_, rfl, law_post Tryz.laidOut (by kernel_rfl) rfl hW' hx 4 (by kernel_rfl) Tryz.underlying4 rfl rfl rfl⟩
end Go.Proofs.YtpfhmcdcmepfdaaGreatDoor
