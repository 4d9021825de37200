
import Derived.WalkKit
import Derived.WalkSpells
import Derived.WalkLawsBesides
import Derived.Deep.QuietTactic
import Derived.BigQuiet
import Derived.Test.YtpfhmcdcmepfdaaGreatDoorRSoG
import Derived.Test.YtpfhmcdcmepfdaaGreatDoorRJz
set_option maxRecDepth 100000
set_option maxHeartbeats 64000000
set_option linter.unusedVariables false
set_option linter.unusedSimpArgs false
namespace Go.Proofs.YtpfhmcdcmepfdaaGreatDoor
open Go.RowKit Go.Shelf
open Go.Proofs
theorem reads_at {α : Type} {size : Nat} {enc : α → List Value} (E : EncTy enc size) {w : World} {B : Nat} {A : Option Addr} {l : List α} (h : Reads size enc w B A l) (i : Nat) (hi : i < l.length) :
  ∃ b off, A = some ⟨b, off, none⟩ ∧ b < B ∧ rowOf w b (off + i * size) size = some (enc l[i]).toArray ∧ ∀ j v, (enc l[i])[j]? = some v → w.cell? ⟨b, off + i * size + j, none⟩ = some v := by
 obtain ⟨b, off, h1, h2, h3⟩ := reads_row E h i hi
 obtain ⟨b', off', k1, _, k3⟩ := h (by omega)
 rw [h1] at k1
 injection k1 with k1
 injection k1 with k1 k2
 subst k1 k2
 exact ⟨b, off, h1, h2, h3, fun j v hv => k3 i hi j v hv⟩
def leBz : Sem Next := do pure (.value (← Instr.build 87 #[]))
theorem leBz_x (ρ : Operand → Value) (dst : Option Tmp) (t : TypeId) (pos : String) (after : Array Edge) (guard : Option (Nat × Bool)) : execOp ρ { dst, op := .build 87 #[], type := t, pos, after, guard } = leBz := by kernel_rfl
attribute [go_sem ↓] leBz_x
theorem leBz_run (W : World) : leBz.run Tryz.prog W = .ok (.value (.agg (leC noLe))) W := by kernel_rfl
attribute [go_sem] leBz_run
theorem best_uniq {α : Type} {z : α} {p : α → Bool} {q : α → α → Bool} {x : α} (hp : p x = true) (hq : q x x = false) : ∀ {L : List α}, x ∈ L → (∀ y ∈ L, p y = true → y = x) → bestS z p q L = (x, true) := by
 have h1 : ∀ L : List α, (∀ y ∈ L, p y = true → y = x) → L.foldl (fun o x => if p x && (!o.2 || q x o.1) then (x, true) else o) (x, true) = (x, true) := by
  intro L
  induction L with
  | nil => intro _; rfl
  | cons y t ih =>
   intro h
   rw [List.foldl_cons]
   have hy := h y (by simp)
   cases hpy : p y with
   | false => simpa [hpy] using ih (fun u hu => h u (by simp [hu]))
   | true =>
    have := hy hpy
    subst this
    simpa [hpy, hq] using ih (fun u hu => h u (by simp [hu]))
 intro L
 unfold bestS
 induction L with
 | nil => intro h; simp at h
 | cons y t ih =>
  intro h hu
  rw [List.foldl_cons]
  cases hpy : p y with
  | false =>
   have hne : x ≠ y := by intro e; subst e; rw [hp] at hpy; cases hpy
   have hm : x ∈ t := by
    rcases List.mem_cons.1 h with e | e
    ·exact absurd e hne
    ·exact e
   simpa [hpy] using ih hm (fun u hu' => hu u (by simp [hu']))
  | true =>
   have := hu y (by simp) hpy
   subst this
   simpa [hpy] using h1 t (fun u hu' => hu u (by simp [hu']))
theorem best_nohit {α : Type} {z : α} {p : α → Bool} {q : α → α → Bool} : ∀ {L : List α}, (∀ y ∈ L, p y = false) → bestS z p q L = (z, false) := by
 intro L
 unfold bestS
 induction L with
 | nil => intro _; rfl
 | cons y t ih =>
  intro h
  rw [List.foldl_cons]
  simpa [h y (by simp)] using ih (fun u hu => h u (by simp [hu]))
def ddAt (l : List Dd) (k : Nat) : Dd := l.getD k noDd
def idx (l : List Dd) (k : Nat) : List Nat := (List.range k).filter fun i => (ddAt l i).is
def idC (l : List Dd) (k : Nat) : List Nat := (List.range k).filter fun i => (ddAt l i).is && (ddAt l i).conf
def idL (l : List Dd) (k : Nat) : List Nat := (List.range k).filter fun i => (ddAt l i).is && decide (0 < (ddAt l i).until_)
theorem mem_idx {l : List Dd} {k i : Nat} : i ∈ idx l k ↔ i < k ∧ (ddAt l i).is = true := by simp [idx]
theorem mem_idC {l : List Dd} {k i : Nat} : i ∈ idC l k ↔ i < k ∧ (ddAt l i).is = true ∧ (ddAt l i).conf = true := by simp [idC]
theorem mem_idL {l : List Dd} {k i : Nat} : i ∈ idL l k ↔ i < k ∧ (ddAt l i).is = true ∧ 0 < (ddAt l i).until_ := by simp [idL]
def tGr (num : Int) (l : List Dd) (i : Nat) : Gr := ⟨(i : Int), if (ddAt l i).conf then num else 0, (ddAt l i).until_⟩
noncomputable def tCf (e : Ep) (now : Clk) (i : Nat) : Cf := cfSeal (theKey (1000 + (i : Int))) (cfOf (theKey (1000 + (i : Int))) i e now)
def tLe0 (num : Int) (l : List Dd) (i : Nat) : Le := ⟨(i : Int), num - 1, (ddAt l i).until_, 0, zeros32 16⟩
noncomputable def tLe (num : Int) (l : List Dd) (i : Nat) : Le := sealedLe (theKey 1) (tLe0 num l i)
def grs (num : Int) (l : List Dd) (k : Nat) : List Gr := (idx l k).map (tGr num l)
noncomputable def cfs (e : Ep) (now : Clk) (l : List Dd) (k : Nat) : List Cf := (idC l k).map (tCf e now)
noncomputable def les (num : Int) (l : List Dd) (k : Nat) : List Le := (idL l k).map (tLe num l)
noncomputable def tLn (e : Ep) (now : Clk) (l : List Dd) (i : Nat) : Ln :=
 if (ddAt l i).conf then ⟨(i : Int), 1, tCf e now i, noLe⟩ else ⟨(i : Int), if (ddAt l i).until_ ≤ now.lo then 2 else 3, noCf, if 0 < (ddAt l i).until_ then tLe e.num l i else noLe⟩
def tEp (num : Int) : Ep := ⟨num, zeros32 16, 1, 2, none, 0, [], none, 0, [], 0, zeros32 16⟩
def tGs (num : Int) (GA : Option Addr) (gc : Nat) (l : List Gr) : Gs := ⟨num, 1000, GA, gc, l⟩
structure DdsOk (l : List Dd) : Prop where
 len : l.length ≤ 10
 lo : ∀ i, 0 ≤ (ddAt l i).until_
 hi : ∀ i, (ddAt l i).until_ ≤ 65535
theorem tEp_num {n : Int} (h0 : 1 ≤ n) (h1 : n ≤ 65536) : okEp (tEp n) = true := by
 have a : decide ((tEp n).num ≥ 1) = true := decide_eq_true (by show n ≥ 1; omega)
 have b : decide ((tEp n).num ≤ 1099511627776) = true := decide_eq_true (by show n ≤ _; omega)
 unfold okEp
 rw [a, b]
 rfl
theorem tEp_ok {n : Int} (h0 : 1 ≤ n) (h1 : n ≤ 65536) : EpOk (tEp n) := ⟨zeros_ok, zeros_ok, by intro d h; simp [tEp] at h, by
 intro x hx
 simp only [tEp, List.mem_cons, List.not_mem_nil, or_false] at hx
 unfold i64
 rcases hx with rfl | rfl | rfl | rfl <;> omega, by intro p h; simp [tEp] at h, by simp [tEp], by simp [tEp], by simp [tEp], by simp [tEp], fun _ => rfl, fun _ => rfl⟩
theorem tEp_short (n : Int) : EpShort (tEp n) := ⟨by simp [tEp], by simp [tEp], by intro p h; simp [tEp] at h⟩
theorem tEp_at (n : Int) (w : World) : EpAt w (tEp n) := ⟨Reads.nil _ _ _ _ _, Reads.nil _ _ _ _ _⟩
theorem idx_asc (l : List Dd) (k : Nat) : (idx l k).Pairwise (· < ·) := List.Pairwise.filter _ List.pairwise_lt_range
theorem idx_len (l : List Dd) (k : Nat) : (idx l k).length ≤ k := by
 have := List.length_filter_le (fun i => (ddAt l i).is) (List.range k)
 simpa [idx] using this
theorem grs_len (n : Int) (l : List Dd) (k : Nat) : (grs n l k).length ≤ k := by simpa [grs] using idx_len l k
theorem grs_get {n : Int} {l : List Dd} {k i : Nat} (h : i < (grs n l k).length) : ∃ h' : i < (idx l k).length, (grs n l k)[i] = tGr n l ((idx l k)[i]) := ⟨by simpa [grs] using h, by simp [grs]⟩
theorem tGs_ok {n : Int} {GA : Option Addr} {gc : Nat} {l : List Dd} (h : DdsOk l) (h0 : 1 ≤ n) (h1 : n ≤ 65536) : okGs (tGs n GA gc (grs n l l.length)) = true := by
 have a : decide (0 ≤ (tGs n GA gc (grs n l l.length)).latest) = true := decide_eq_true (by show 0 ≤ n; omega)
 have b : decide ((tGs n GA gc (grs n l l.length)).latest ≤ 1099511627776) = true := decide_eq_true (by show n ≤ _; omega)
 unfold okGs
 rw [a, b]
 simp only [Bool.and_eq_true, decide_eq_true_eq, List.all_eq_true, List.mem_range]
 refine ⟨⟨⟨⟨trivial, trivial⟩, by show (1 : Int) ≤ 1000; decide⟩, by show (1000 : Int) ≤ 3600000; decide⟩, ?_⟩
 intro i hi
 change i < (grs n l l.length).length at hi
 show gAt (grs n l l.length) n i = true
 rw [gAt_is hi]
 obtain ⟨hi', e⟩ := grs_get hi
 have hm := mem_idx.1 (List.getElem_mem hi')
 have hlen := h.len
 have u0 := h.lo ((idx l l.length)[i])
 have u1 := h.hi ((idx l l.length)[i])
 rw [e]
 refine ⟨⟨?_, ?_, ?_, ?_, ?_, ?_⟩, ?_⟩
 ·show (0 : Int) ≤ ((idx l l.length)[i] : Nat); omega
 ·show (((idx l l.length)[i] : Nat) : Int) < 64; omega
 ·show 0 ≤ if (ddAt l _).conf then n else 0
  split <;> omega
 ·show (if (ddAt l _).conf then n else 0) ≤ n
  split <;> omega
 ·exact u0
 ·show (ddAt l _).until_ ≤ _; omega
 ·show lastG (grs n l l.length) i < ((idx l l.length)[i] : Nat)
  by_cases h0 : 0 < i
  ·rw [lastG_pos h0 hi]
   obtain ⟨hj', e'⟩ := grs_get (n := n) (l := l) (k := l.length) (i := i - 1) (by omega)
   rw [e']
   show (((idx l l.length)[i - 1] : Nat) : Int) < _
   have := (List.pairwise_iff_getElem.1 (idx_asc l l.length)) (i - 1) i hj' hi' (by omega)
   omega
  ·have : i = 0 := by omega
   subst this
   show (-1 : Int) < _
   omega
theorem tMake {n : Int} {GA : Option Addr} {gc : Nat} {l : List Dd} {now : Clk} (h : DdsOk l) (h0 : 1 ≤ n) (h1 : n ≤ 65536) (hn : okClk now = true) : makeB (theKey 1) (tGs n GA gc (grs n l l.length)) (tEp n) now = true := by
 have a : okKy (theKey 1) = true := by decide
 unfold makeB
 rw [a, tGs_ok h h0 h1, tEp_num h0 h1, hn, decide_eq_true (show (tEp n).num ≤ (tGs n GA gc (grs n l l.length)).latest from Int.le_refl _)]
 rfl
theorem lineN_t {e : Ep} {now : Clk} {l : List Dd} {k i : Nat} (h : DdsOk l) (hi : i ∈ idx l k) : lineN (tGr e.num l i) e.num (cfs e now l k) (les e.num l k) now.lo = tLn e now l i := by
 obtain ⟨hik, his⟩ := mem_idx.1 hi
 have hs : (tGr e.num l i).site = (i : Int) := rfl
 have hu : (tGr e.num l i).until_ = (ddAt l i).until_ := rfl
 unfold lineN tLn
 rw [hs, hu]
 cases hc : (ddAt l i).conf with
 | true =>
  have hb : bestS noCf (cfHit (i : Int) e.num) cfNone (cfs e now l k) = (tCf e now i, true) := by
   refine best_uniq (by simp [cfHit, tCf, cfSeal, cfOf]) rfl ?_ ?_
   ·exact List.mem_map_of_mem (mem_idC.2 ⟨hik, his, hc⟩)
   ·intro y hy hp
    obtain ⟨j, hj, rfl⟩ := List.mem_map.1 hy
    have : (j : Int) = i := by
     simp only [cfHit, Bool.and_eq_true, decide_eq_true_eq] at hp
     exact hp.1
    rw [show j = i by omega]
  rw [hb]
  rfl
 | false =>
  have hb : bestS noCf (cfHit (i : Int) e.num) cfNone (cfs e now l k) = (noCf, false) := by
   refine best_nohit ?_
   intro y hy
   obtain ⟨j, hj, rfl⟩ := List.mem_map.1 hy
   have hj' := mem_idC.1 hj
   have : j ≠ i := by intro e'; subst e'; rw [hc] at hj'; simp at hj'
   have h2 : ¬ ((j : Int) = i) := by omega
   simp [cfHit, tCf, cfSeal, cfOf, h2]
  rw [hb]
  simp only [Bool.false_eq_true, if_false]
  by_cases hp : 0 < (ddAt l i).until_
  ·have hb2 : bestS noLe (leHit (i : Int)) leMore (les e.num l k) = (tLe e.num l i, true) := by
    refine best_uniq (by simp [leHit, tLe, sealedLe, leOf, tLe0]) (by simp [leMore]) ?_ ?_
    ·exact List.mem_map_of_mem (mem_idL.2 ⟨hik, his, hp⟩)
    ·intro y hy hp
     obtain ⟨j, hj, rfl⟩ := List.mem_map.1 hy
     have : (j : Int) = i := by
      simp only [leHit, decide_eq_true_eq] at hp
      exact hp
     rw [show j = i by omega]
   rw [hb2, if_pos rfl, if_pos hp]
   rfl
  ·have hb2 : bestS noLe (leHit (i : Int)) leMore (les e.num l k) = (noLe, false) := by
    refine best_nohit ?_
    intro y hy
    obtain ⟨j, hj, rfl⟩ := List.mem_map.1 hy
    have hj' := mem_idL.1 hj
    have : j ≠ i := by intro e'; subst e'; omega
    have h2 : ¬ ((j : Int) = i) := by omega
    simp [leHit, tLe, sealedLe, leOf, tLe0, h2]
   rw [hb2, if_neg hp]
   rfl
noncomputable def tLns (e : Ep) (now : Clk) (l : List Dd) : List Ln := (idx l l.length).map (tLn e now l)
theorem mkLines_t {e : Ep} {now : Clk} {l : List Dd} {GA : Option Addr} {gc : Nat} (h : DdsOk l) : mkLines (tGs e.num GA gc (grs e.num l l.length)) e (cfs e now l l.length) (les e.num l l.length) now = tLns e now l := by
 unfold mkLines tLns
 show (grs e.num l l.length).map _ = _
 unfold grs
 rw [List.map_map]
 exact List.map_congr_left fun i hi => lineN_t h hi
noncomputable def tR (e : Ep) (now : Clk) (l : List Dd) (LA : Option Addr) (lc : Nat) : Rp := rpSeal (theKey 1) ⟨e.num, epName e, now.lo, now.hi, LA, lc, tLns e now l, 1, zeros32 16⟩
theorem mkR_t {n : Int} {now : Clk} {l : List Dd} {GA : Option Addr} {gc : Nat} (h : DdsOk l) (h0 : 1 ≤ n) (h1 : n ≤ 65536) (hn : okClk now = true) (LA : Option Addr) (lc : Nat) : mkR (theKey 1) (tGs n GA gc (grs n l l.length)) (tEp n) (cfs (tEp n) now l l.length) (les n l l.length) now LA lc = tR (tEp n) now l LA lc := by
 unfold mkR
 rw [if_pos (tMake h h0 h1 hn)]
 unfold rpOf tR
 rw [show mkLines (tGs n GA gc (grs n l l.length)) (tEp n) (cfs (tEp n) now l l.length) (les n l l.length) now = tLns (tEp n) now l from mkLines_t (e := tEp n) h]
 rfl
theorem mkE_t {n : Int} {now : Clk} {l : List Dd} {GA : Option Addr} {gc : Nat} (h : DdsOk l) (h0 : 1 ≤ n) (h1 : n ≤ 65536) (hn : okClk now = true) : mkE (theKey 1) (tGs n GA gc (grs n l l.length)) (tEp n) now = 0 := by
 unfold mkE
 rw [if_pos (tMake h h0 h1 hn)]
theorem count_key (p lo hi : Int) (h0 : 0 ≤ lo) (h1 : lo ≤ hi) (h2 : hi < 1099511627776) : countB (theKey p) lo hi = true := by
 simp only [countB, Bool.and_eq_true, decide_eq_true_eq]
 exact ⟨⟨⟨⟨h0, h1⟩, by omega⟩, h0⟩, h2⟩
theorem found_t {n : Int} (X : Rp) (he : X.epoch = n) (hnm : X.name = epName (tEp n)) (hc : okClk ⟨X.lo, X.hi⟩ = true) (hh : X.hi < 1099511627776) (hs : X.serial = 1) :
  ((decide ((checkRp theKeys (tEp n) X).1 = -1) && decide ((checkRp theKeys (tEp n) X).2 = 8)) || decide (makeN (theKey 1) 321 (rpParts X) = X.sl)) = true := by
 by_cases hm : makeN (theKey 1) 321 (rpParts X) = X.sl
 ·simp [hm]
 have hl := okClk_lims hc
 have h8 : checkR theKeys 1 X.serial 321 (rpParts X) X.sl X.lo X.hi = 8 := by
  rw [hs]
  unfold checkR checkOut
  rw [exK1, exK1e, if_pos rfl, if_pos (count_key _ _ _ hl.1 hl.2.1 hh), if_neg hm]
 have : checkRp theKeys (tEp n) X = (-1, 8) := by
  unfold checkRp
  rw [if_pos (show X.epoch = (tEp n).num from he), if_pos hnm, if_pos hc, h8, if_neg (by decide)]
 rw [this]
 rfl
theorem Owns.apart {α β : Type} {e1 e2 : TypeId} {s1 s2 : Nat} {enc1 : α → List Value} {enc2 : β → List Value} {b1 b2 : Nat} {w w' : World} {A1 A2 : Option Addr} {c1 c2 n : Nat} {l1 : List α} {l2 : List β} (h : Owns e1 s1 enc1 b1 w A1 c1 l1) (h2 : Owns e2 s2 enc2 b2 w A2 c2 l2) (hne : e1 ≠ e2) (hg : w.grownBy w' (Value.slice A2 n c2).ownBlock) : Owns e1 s1 enc1 b1 w' A1 c1 l1 := by
 refine ⟨h.1, ?_⟩
 rcases h.2 with k | ⟨g, cap, cur, h1, h3, h4, h5⟩
 ·exact .inl k
 ·refine .inr ⟨g, cap, cur, h1, h3, (hg.block g (Array.getElem?_eq_some_iff.1 h4).1 ?_).trans h4, h5⟩
  intro e
  rcases h2.cases with ⟨rfl, _, _⟩ | ⟨g2, cur2, rfl, _, k2, _⟩
  ·simp [Value.ownBlock] at e
  ·simp [Value.ownBlock] at e
   subst e
   rw [h4] at k2
   injection k2 with k2
   injection k2 with _ k2
   exact hne k2
theorem new_listAt {α : Type} {enc : α → List Value} {w : World} {b : Nat} (hb : b = w.heap.size) (l : List α) (cs : Array Value) (t : TypeId) (h : cs.toList = l.flatMap enc) : ∀ j u, (l.flatMap enc)[j]? = some u → (w.alloc (.cells cs t)).cell? ((⟨b, 0, none⟩ : Addr).add j) = some u := fun j u hj =>
 new_cellsAt hb cs t j u (by rw [h]; exact hj)
theorem cfT : ElemTy Tryz.prog 63 51 37 72 := ⟨by kernel_rfl, by kernel_rfl, by omega⟩
theorem leT : ElemTy Tryz.prog 64 87 20 48 := ⟨by kernel_rfl, by kernel_rfl, by omega⟩
theorem grT : ElemTy Tryz.prog 60 128 3 24 := ⟨by kernel_rfl, by kernel_rfl, by omega⟩
abbrev OwnsCf (base : Nat) (w : World) (A : Option Addr) (c : Nat) (l : List Cf) : Prop := Owns 51 37 cfL base w A c l
abbrev OwnsLe (base : Nat) (w : World) (A : Option Addr) (c : Nat) (l : List Le) : Prop := Owns 87 20 leL base w A c l
abbrev OwnsGr (base : Nat) (w : World) (A : Option Addr) (c : Nat) (l : List Gr) : Prop := Owns 128 3 grL base w A c l
theorem idx_snoc (l : List Dd) (k : Nat) : idx l (k + 1) = idx l k ++ (if (ddAt l k).is then [k] else []) := by
 unfold idx
 rw [List.range_succ, List.filter_append]
 congr 1
 cases h : (ddAt l k).is <;> simp [h]
theorem grs_no {n : Int} {l : List Dd} {k : Nat} (h : (ddAt l k).is = false) : grs n l (k + 1) = grs n l k := by
 unfold grs; rw [idx_snoc, h]; simp
theorem grs_yes {n : Int} {l : List Dd} {k : Nat} (h : (ddAt l k).is = true) : grs n l (k + 1) = grs n l k ++ [tGr n l k] := by
 unfold grs; rw [idx_snoc, h]; simp
theorem cfs_no {e : Ep} {p : Clk} {l : List Dd} {k : Nat} (h : ((ddAt l k).is && (ddAt l k).conf) = false) : cfs e p l (k + 1) = cfs e p l k := by
 unfold cfs idC; rw [List.range_succ, List.filter_append]; simp [h]
theorem cfs_yes {e : Ep} {p : Clk} {l : List Dd} {k : Nat} (h : ((ddAt l k).is && (ddAt l k).conf) = true) : cfs e p l (k + 1) = cfs e p l k ++ [tCf e p k] := by
 unfold cfs idC; rw [List.range_succ, List.filter_append]; simp [h]
theorem les_no {n : Int} {l : List Dd} {k : Nat} (h : ((ddAt l k).is && decide (0 < (ddAt l k).until_)) = false) : les n l (k + 1) = les n l k := by
 unfold les idL; rw [List.range_succ, List.filter_append]; simp [h]
theorem les_yes {n : Int} {l : List Dd} {k : Nat} (h : ((ddAt l k).is && decide (0 < (ddAt l k).until_)) = true) : les n l (k + 1) = les n l k ++ [tLe n l k] := by
 unfold les idL; rw [List.range_succ, List.filter_append]; simp [h]
theorem ddAt_get {l : List Dd} {k : Nat} (h : k < l.length) : ddAt l k = l[k] := by unfold ddAt; rw [List.getD_eq_getElem?_getD, List.getElem?_eq_getElem h]; rfl
theorem okKy_site {i : Nat} (h : i < 10) : okKy (theKey (1000 + (i : Int))) = true := by
 have : ∀ j : Fin 10, okKy (theKey (1000 + (j.val : Int))) = true := by decide
 exact this ⟨i, h⟩
theorem confirmN_t {n : Int} {p : Clk} {i : Nat} (h0 : 1 ≤ n) (h1 : n ≤ 65536) (hn : okClk p = true) (hi : i < 10) : confirmB (theKey (1000 + (i : Int))) i (tEp n) p = true := by
 unfold confirmB
 rw [okKy_site hi, tEp_num h0 h1, hn, siteB_is.2 ⟨by omega, by omega⟩]
 simp [theKey]
theorem tCf_ok {n : Int} {p : Clk} {i : Nat} (h0 : 1 ≤ n) (h1 : n ≤ 65536) (hn : okClk p = true) (hi : i < 10) : CfOk (tCf (tEp n) p i) := by
 have h := cfOf_ok (confirmN_t h0 h1 hn hi)
 exact ⟨h.name, ⟨makeN_len _ _ _, makeN_byt _ _ _⟩, h.ints⟩
theorem tLe_i64 {n : Int} {l : List Dd} {i : Nat} (h : DdsOk l) (h0 : 1 ≤ n) (h1 : n ≤ 65536) (hi : i < 10) : ∀ x ∈ leInts (leOf (theKey 1) (tLe0 n l i)), i64 x := by
 intro x hx
 have u0 := h.lo i
 have u1 := h.hi i
 simp only [leInts, leOf, tLe0, theKey, List.mem_cons, List.not_mem_nil, or_false] at hx
 unfold i64
 rcases hx with rfl | rfl | rfl | rfl <;> omega
theorem tLe_ok {n : Int} {l : List Dd} {i : Nat} (h : DdsOk l) (h0 : 1 ≤ n) (h1 : n ≤ 65536) (hi : i < 10) : LeOk (tLe n l i) := ⟨⟨makeN_len _ _ _, makeN_byt _ _ _⟩, tLe_i64 h h0 h1 hi⟩
theorem gr_set1 (a b c x : Int) : (grC ⟨a, b, c⟩).setIfInBounds 1 (.int .i64 x) = grC ⟨a, x, c⟩ := by kernel_rfl
theorem gs_set2 (n : Int) (A A' : Option Addr) (c c' : Nat) (l l' : List Gr) : (gsC (tGs n A c l)).setIfInBounds 2 (.slice A' l'.length c') = gsC (tGs n A' c' l') := by kernel_rfl
theorem gs_q2 (n : Int) (A : Option Addr) (c : Nat) (l : List Gr) : (gsC (tGs n A c l))[2]? = some (.slice A l.length c) := by kernel_rfl
def gsB2 (a b : Value) : Sem Next := do pure (.value (← Instr.build 62 #[(0, a), (1, b)]))
theorem gsB2_x (ρ : Operand → Value) (dst : Option Tmp) (a b : Operand) (t : TypeId) (pos : String) (after : Array Edge) (guard : Option (Nat × Bool)) : execOp ρ { dst, op := .build 62 #[(0, a), (1, b)], type := t, pos, after, guard } = gsB2 (ρ a) (ρ b) := by kernel_rfl
attribute [go_sem ↓] gsB2_x
theorem gsB2_run (a : Int) (W : World) : (gsB2 (.int .i64 a) (.int .i64 1000)).run Tryz.prog W = .ok (.value (.agg (gsC (tGs a none 0 [])))) W := by kernel_rfl
def leB3t (a b c : Value) : Sem Next := do pure (.value (← Instr.build 87 #[(0, a), (1, b), (2, c)]))
theorem leB3t_x (ρ : Operand → Value) (dst : Option Tmp) (a b c : Operand) (t : TypeId) (pos : String) (after : Array Edge) (guard : Option (Nat × Bool)) : execOp ρ { dst, op := .build 87 #[(0, a), (1, b), (2, c)], type := t, pos, after, guard } = leB3t (ρ a) (ρ b) (ρ c) := by kernel_rfl
attribute [go_sem ↓] leB3t_x
theorem leB3t_run (a b c : Int) (W : World) : (leB3t (.int .i64 a) (.int .i64 b) (.int .i64 c)).run Tryz.prog W = .ok (.value (.agg (leC ⟨a, b, c, 0, zeros32 16⟩))) W := by kernel_rfl
def grB2t (a b : Value) : Sem Next := do pure (.value (← Instr.build 128 #[(0, a), (2, b)]))
theorem grB2t_x (ρ : Operand → Value) (dst : Option Tmp) (a b : Operand) (t : TypeId) (pos : String) (after : Array Edge) (guard : Option (Nat × Bool)) : execOp ρ { dst, op := .build 128 #[(0, a), (2, b)], type := t, pos, after, guard } = grB2t (ρ a) (ρ b) := by kernel_rfl
attribute [go_sem ↓] grB2t_x
theorem grB2t_run (a b : Int) (W : World) : (grB2t (.int .i64 a) (.int .i64 b)).run Tryz.prog W = .ok (.value (.agg (grC ⟨a, 0, b⟩))) W := by kernel_rfl
attribute [go_sem] gsB2_run leB3t_run grB2t_run
def read1 {α : Type} (size : Nat) (enc : α → List Value) (x : α) : Soft := ⟨fun v w => ∃ b, v = .slice (some ⟨b, 0, none⟩) 1 1 ∧ Reads size enc w w.heap.size (some ⟨b, 0, none⟩) [x], fun _ _ _ ⟨b, h1, h2⟩ hx => ⟨b, h1, h2.on hx⟩⟩
noncomputable def toldS (base : Nat) (e : Ep) (p : Clk) (l : List Dd) : Soft := ⟨fun v w => ∃ LA lc, v = .tuple #[.agg (rpC (tR e p l LA lc)), .int .i64 0] ∧ OwnsLn base w LA lc (tLns e p l), fun _ _ _ ⟨A, c, h1, h2⟩ hx => ⟨A, c, h1, h2.ext hx⟩⟩
theorem told_any (n : Int) (DA : Option Addr) (dc : Nat) (l : List Dd) (p : Clk) (w : World) (h : DdsOk l) (hd : Reads 3 ddL w w.heap.size DA l) (hn0 : 1 ≤ n) (hn1 : n ≤ 65536) (hn : okClk p = true) (hk : KonstP w) (hr : RKonst w) :
  Calls Tryz.prog 27 #[.agg (epC (tEp n)), .slice DA l.length dc, .agg (clkC p)] w fun r w' => (∃ LA lc, r = .returned (.tuple #[.agg (rpC (tR (tEp n) p l LA lc)), .int .i64 0]) ∧ OwnsLn w.heap.size w' LA lc (tLns (tEp n) p l)) ∧ Ext w w' := by
 have hl10 := h.len
 have HKy := lh (fun p (W : World) => lkey_any p W)
 have HCf := lh (fun (k : Nat) (hk10 : k < 10) (W : World) (hx : Ext w W) => (show Calls Tryz.prog 17 #[.agg (kyC (theKey (1000 + (k : Int)))), .int .i64 (k : Int), .agg (epC (tEp n)), .agg (clkC p)] W fun r w' => r = .returned (.tuple #[.agg (cfC (tCf (tEp n) p k)), .int .i64 0]) ∧ Ext W w' from by
  have h := aconfirm_any (theKey (1000 + (k : Int))) k (tEp n) p W (show (1 : Nat) < _ by decide) (tEp_ok hn0 hn1) (tEp_short n) (tEp_at n W) (RowAt.ext hk hx)
  rw [show confirmN (theKey (1000 + (k : Int))) k (tEp n) p = (tCf (tEp n) p k, 0) from by unfold confirmN; rw [if_pos (confirmN_t hn0 hn1 hn hk10)]; rfl] at h
  exact h))
 have HSl := lh (fun (k : Nat) (hk10 : k < 10) (W : World) (hx : Ext w W) => rsealLease_any (theKey 1) (tLe0 n l k) W (by decide) (tLe_i64 h hn0 hn1 hk10) (RowAt.ext hr hx))
 have HMk := lh (fun (GA : Option Addr) (gc : Nat) (CA : Option Addr) (cc : Nat) (LsA : Option Addr) (lsc : Nat) (gl : List Gr) (cl : List Cf) (ll : List Le) (W : World) (hgl : Hid (gl = grs n l l.length)) (hcl : Hid (cl = cfs (tEp n) p l l.length)) (hll : Hid (ll = les n l l.length)) (hx : Ext w W) (r1 : Reads 3 grL W W.heap.size GA gl) (r2 : Reads 37 cfL W W.heap.size CA cl) (r3 : Reads 20 leL W W.heap.size LsA ll) =>
  (show Calls Tryz.prog 22 #[.agg (kyC (theKey 1)), .agg (gsC (tGs n GA gc gl)), .agg (epC (tEp n)), .slice CA cl.length cc, .slice LsA ll.length lsc, .agg (clkC p)] W fun r w' => (∃ LA lc, r = .returned (.tuple #[.agg (rpC (tR (tEp n) p l LA lc)), .int .i64 0]) ∧ OwnsLn W.heap.size w' LA lc (tLns (tEp n) p l)) ∧ Ext W w' from by
  have hgl := hgl.out
  have hcl := hcl.out
  have hll := hll.out
  subst hgl hcl hll
  have hb : (cfs (tEp n) p l l.length).length ≤ 10 := by
   have := List.length_filter_le (fun i => (ddAt l i).is && (ddAt l i).conf) (List.range l.length)
   simp only [List.length_range] at this
   simp only [cfs, idC, List.length_map]
   omega
  have hb2 : (les n l l.length).length ≤ 10 := by
   have := List.length_filter_le (fun i => (ddAt l i).is && decide (0 < (ddAt l i).until_)) (List.range l.length)
   simp only [List.length_range] at this
   simp only [les, idL, List.length_map]
   omega
  refine (amake_any (theKey 1) (tGs n GA gc (grs n l l.length)) (tEp n) CA LsA cc lsc (cfs (tEp n) p l l.length) (les n l l.length) p W (by decide) (by show (grs n l l.length).length ≤ _; have := grs_len n l l.length; omega) r1 (tEp_ok hn0 hn1) (tEp_short n) (tEp_at n W) (by omega) (by omega) ?_ ?_ r2 r3 (RowAt.ext hk hx)).mono ?_
  ·intro c hc
   obtain ⟨i, hi, rfl⟩ := List.mem_map.1 hc
   exact tCf_ok hn0 hn1 hn (by have := (mem_idC.1 hi).1; omega)
  ·intro c hc
   obtain ⟨i, hi, rfl⟩ := List.mem_map.1 hc
   exact tLe_ok h hn0 hn1 (by have := (mem_idL.1 hi).1; omega)
  ·rintro r w' ⟨⟨LA, lc, h4, h5⟩, h6⟩
   rw [mkR_t h hn0 hn1 hn] at h4 h5
   rw [mkE_t h hn0 hn1 hn] at h4
   exact ⟨⟨LA, lc, h4, h5⟩, h6⟩))
 have HD := lh hd
 have HLo := lh h.lo
 have HHi := lh h.hi
 have hfe := ep_fits (tEp n)
 have hfg := gs_fits (tGs n none 0 [])
 have hfx := fun a b c => gr_fits ⟨a, b, c⟩
 have hfR := fun A c => rp_fits (tR (tEp n) p l A c)
 have hq0 : (epC (tEp n))[0]? = some (.int .i64 n) := ep_g0 (tEp n)
 have HQ0 := lh hq0
 clear hd hk hr h hn hq0
 obtain ⟨p0, p1⟩ := p
 go_enter Tryz.func27, Tryz.ntmps27
 go_wp2
 refine wp_world (fun W => Ext w W ∧ RowAt W w.heap.size (epC (tEp n)) ∧ RowAt W (w.heap.size + 1) #[.int .i64 p0, .int .i64 p1] ∧ RowAt W (w.heap.size + 1 + 1) (rpC noRp) ∧ RowAt W (w.heap.size + 1 + 1 + 1) (gsC (tGs n none 0 []))) ⟨(by (with_reducible repeat first|exact eR _|apply eD|apply eN|apply eA|apply eO|apply eS|apply eC);all_goals first|omega|simp <;> omega), ?_, ?_, ?_, ?_⟩ ?_
 ·exact ((((RowAt.new _ _ _).alloc _).alloc _).alloc _).others (by omega) _ _
 ·exact (((RowAt.newAt (by simp)).alloc _).alloc _).others (by omega) _ _
 ·exact ((RowAt.newAt (by simp)).alloc _).others (by omega) _ _
 ·exact RowAt.store (RowAt.newAt (by simp)) rfl
 obtain ⟨B, hB⟩ : ∃ B, w.heap.size = B := ⟨_, rfl⟩
 rw [hB]
 rintro W1 ⟨x1, uE, uP, uR, uG⟩
 have HX1 := lh x1
 have HUE := lh uE
 have HUP := lh uP
 have HUR := lh uR
 have HUG := lh uG
 clear x1 uE uP uR uG hfg
 go_loopw [9, 10, 11] (fun vc vl i wr => ∃ (CA : Option Addr) (cc : Nat) (cl : List Cf) (LsA : Option Addr) (lsc : Nat) (ll : List Le) (GA : Option Addr) (gc : Nat) (gl : List Gr) (k : Nat), vc = .slice CA cl.length cc ∧ vl = .slice LsA ll.length lsc ∧ i = .int .i64 k ∧ k ≤ l.length ∧ cl.length ≤ k ∧ ll.length ≤ k ∧ gl.length ≤ k ∧ Hid (cl = cfs (tEp n) ⟨p0, p1⟩ l k) ∧ Hid (ll = les n l k) ∧ Hid (gl = grs n l k) ∧
  Hid (OwnsCf (B+1+1+1+1) wr CA cc cl) ∧ Hid (OwnsLe (B+1+1+1+1) wr LsA lsc ll) ∧ Hid (OwnsGr (B+1+1+1+1) wr GA gc gl) ∧ Hid (RowAt wr B (epC (tEp n))) ∧ Hid (RowAt wr (B+1) #[.int .i64 p0, .int .i64 p1]) ∧ Hid (RowAt wr (B+1+1) (rpC noRp)) ∧ Hid (RowAt wr (B+1+1+1) (gsC (tGs n GA gc gl))) ∧ Hid (Ext w wr)) (fun _ _ i _ => l.length - (intOf i).toNat)
 case atStart => exact ⟨none, 0, [], none, 0, [], none, 0, [], 0, rfl, rfl, rfl, Nat.zero_le _, Nat.le_refl _, Nat.le_refl _, Nat.le_refl _, lh rfl, lh rfl, lh rfl, lh (Owns.nil _ _ _ _ _), lh (Owns.nil _ _ _ _ _), lh (Owns.nil _ _ _ _ _), HUE, HUP, HUR, HUG, HX1⟩
 case round =>
  obtain ⟨CA, cc, cl, LsA, lsc, ll, GA, gc, gl, k, rfl, rfl, rfl, hkl, hcl, hll, hgl, HCl, HLl, HGl, HOC, HOL, HOG, HRE, HRP, HRR, HRG, HX⟩ := hrel
  clear HUE HUP HUR HUG HX1
  have hsz := HX.out.size
  have hlG := HRG.out.lt
  have qE_0 : wr.cell? ⟨B, 0, none⟩ = some (.int .i64 n) := (HRE.out.cell 0).trans HQ0.out
  have kE : rowOf wr B 0 38 = some (epC (tEp n)) := HRE.out.all rfl (by omega)
  have qP_0 : wr.cell? ⟨B+1, 0, none⟩ = some (.int .i64 p0) := HRP.out.cell 0
  have qP_1 : wr.cell? ⟨B+1, 1, none⟩ = some (.int .i64 p1) := HRP.out.cell 1
  by_cases hlt : k < l.length
  ·obtain ⟨b, off, rfl, hb, hrow, hcel⟩ := reads_at ddE (HD.out.ext HX.out (Nat.le_refl _)) k hlt
   have hb2 : b < wr.heap.size := by omega
   have c0 : wr.cell? ⟨b, off + k * 3, none⟩ = some (.bool (ddAt l k).is) := by rw [ddAt_get hlt]; exact hcel 0 _ rfl
   have c1 : wr.cell? ⟨b, off + k * 3 + 1, none⟩ = some (.bool (ddAt l k).conf) := by rw [ddAt_get hlt]; exact hcel 1 _ rfl
   have c2 : wr.cell? ⟨b, off + k * 3 + 2, none⟩ = some (.int .u16 (ddAt l k).until_) := by rw [ddAt_get hlt]; exact hcel 2 _ rfl
   have u0 := HLo.out k
   have u1 := HHi.out k
   have HCn := lh (cfs_no (e := tEp n) (p := ⟨p0, p1⟩) (l := l) (k := k))
   have HCy := lh (cfs_yes (e := tEp n) (p := ⟨p0, p1⟩) (l := l) (k := k))
   have HLn := lh (les_no (n := n) (l := l) (k := k))
   have HLy := lh (les_yes (n := n) (l := l) (k := k))
   have HGn := lh (grs_no (n := n) (l := l) (k := k))
   have HGy := lh (grs_yes (n := n) (l := l) (k := k))
   have HTg : Hid (tGr n l k = ⟨(k : Int), if (ddAt l k).conf then n else 0, (ddAt l k).until_⟩) := lh rfl
   have HT0 : Hid (tLe0 n l k = ⟨(k : Int), n - 1, (ddAt l k).until_, 0, zeros32 16⟩) := lh rfl
   have HTe : Hid (sealedLe (theKey 1) (tLe0 n l k) = tLe n l k) := lh rfl
   have HSl' := lh (HSl.out k (by omega))
   have HCf' := lh (HCf.out k (by omega))
   rw [HTe.out] at HSl'
   rw [HT0.out] at HSl'
   clear hrow hcel HSl HCf HT0 HTe
   generalize ddAt l k = d at *
   obtain ⟨is, conf, til⟩ := d
   simp only at *
   cases is with
   | false =>
    have HC1 := lh (HCl.out.trans (HCn.out rfl).symm)
    have HL1 := lh (HLl.out.trans (HLn.out rfl).symm)
    have HG1 := lh (HGl.out.trans (HGn.out rfl).symm)
    clear HCn HCy HLn HLy HGn HGy HTg HSl' HCf' HMk HD HLo HHi HCl HLl HGl
    go_wp2
    go_roundw
    case rel => exact ⟨CA, cc, cl, LsA, lsc, ll, GA, gc, gl, k + 1, rfl, rfl, by go_num, by omega, by omega, by omega, by omega, HC1, HL1, HG1, HOC, HOL, HOG, HRE, HRP, HRR, HRG, HX⟩
    case measure => simp [intOf]; omega
   | true =>
    have HG1 := lh (HGy.out rfl)
    clear HGn HGy HMk HLo HHi HD
    cases conf with
    | false =>
     have HC1 := lh (HCl.out.trans (HCn.out rfl).symm)
     have HT1 : Hid (tGr n l k = ⟨(k : Int), 0, til⟩) := lh HTg.out
     clear HCn HCy HTg HCf' HCl
     generalize tGr n l k = gx at *
     have HT1' := HT1.out
     subst HT1'
     go_upto_region 15 with (fail)
     refine wp_world (fun W => Ext wr W ∧ RowAt W wr.heap.size (grC ⟨(k : Int), 0, til⟩)) ⟨(by (with_reducible repeat first|exact eR _|apply eD|apply eN|apply eA|apply eO|apply eS|apply eC);all_goals first|omega|simp <;> omega), RowAt.store (RowAt.new _ _ _) rfl⟩ ?_
     have HLt8 := lh (fun a ha => (HOL.out.lt a ha).2)
     obtain ⟨g8, hg8⟩ : ∃ g, wr.heap.size = g := ⟨_, rfl⟩
     rw [hg8]
     rintro W7 ⟨x7, u8⟩
     have hs7 := x7.size
     have hl8 := u8.lt
     have hcl7 : cl.length ≤ k + 1 := by omega
     have HX7 := lh (HX.out.trans x7)
     have HOC7 := lh (HOC.out.ext x7)
     have HOL7 := lh (HOL.out.ext x7)
     have HOG7 := lh (HOG.out.ext x7)
     have HRE7 := lh (HRE.out.ext x7)
     have HRP7 := lh (HRP.out.ext x7)
     have HRR7 := lh (HRR.out.ext x7)
     have HRG7 := lh (HRG.out.ext x7)
     have HU8 := lh u8
     have c2 : W7.cell? ⟨b, off + k * 3 + 2, none⟩ = some (.int .u16 til) := (x7.cell (p := ⟨b, off + k * 3 + 2, none⟩) hb2).trans c2
     have hb7 : b < W7.heap.size := by omega
     clear x7 u8 HOC HOL HOG HRE HRP HRR HRG qE_0 kE qP_0 qP_1 c0 c1 HX hb2
     by_cases hu : 0 < til
     ·have HLy1 := lh (HLy.out (by simp; omega))
      have d1 : decide ((0 : Int) < til) = true := by simpa using hu
      have hfl := le_fits (tLe n l k)
      have hfl0 := le_fits ⟨(k : Int), n - 1, til, 0, zeros32 16⟩
      clear HLn HLy hu
      generalize tLe n l k = lx at *
      go_upto_region 16 with (fail)
      have qE_0 : W7.cell? ⟨B, 0, none⟩ = some (.int .i64 n) := (HRE7.out.cell 0).trans HQ0.out
      refine wp_region_soft 15 (softsL [.eq (.slice LsA ll.length lsc), .eq (.agg (kyC (theKey 1))), .eq (.int .i64 k), .eq (.pointer (some ⟨B, 0, none⟩)), .eq (.int .i64 n), .eq (.int .i64 (n - 1)), .eq (.slice (some ⟨b, off, none⟩) l.length dc), .eq (.int .i64 k), .eq (.pointer (some ⟨b, off + k * 3, none⟩)), .eq (.pointer (some ⟨b, off + k * 3 + 2, none⟩)), .eq (.int .u16 til), .eq (.int .i64 til), .eq (.agg (leC ⟨(k : Int), n - 1, til, 0, zeros32 16⟩)), .eq (.agg (leC lx)), read1 20 leL lx]) (by kernel_rfl) (by kernel_rfl) (lt_cons ?_ (lt_cons ?_ (lt_cons ?_ (lt_cons ?_ (lt_cons ?_ (lt_cons ?_ (lt_cons ?_ (lt_cons ?_ (lt_cons ?_ (lt_cons ?_ (lt_cons ?_ (lt_cons ?_ (lt_cons ?_ (lt_cons ?_ (lt_cons ?_ (lt_none)))))))))))))))) ?_
      any_goals (refine sop rfl fun xs W HW hsW HD Q' HQ => ?_; simp only [fillAt, dstOf, lc0, lcs, obs, Act.put, lsa, lsz, lss, nz, Nat.reduceAdd] at HQ ⊢)
      ·
       go_wp2
       exact HQ.out _ _ (eR _) rfl
      ·
       go_wp2_with (go_at_call 32; refine (HKy.out 1 _).mono ?_; rintro e w1 ⟨rfl, hx⟩)
       exact HQ.out _ _ hx rfl
      ·
       go_wp2
       exact HQ.out _ _ (eR _) rfl
      ·
       go_wp2
       exact HQ.out _ _ (eR _) rfl
      ·
       have hd3 : xs 3 = .pointer (some ⟨B, 0, none⟩) := (HD.out 3 (dk (by kernel_rfl)))
       generalize xs 3 = x3 at hd3 HQ ⊢; subst hd3
       have hc : W.cell? ⟨B, 0, none⟩ = some (.int .i64 n) := (HW.out.cell (p := ⟨B, 0, none⟩) (by show B < _; omega)).trans qE_0
       go_wp2
       exact HQ.out _ _ (eR _) rfl
      ·
       have hd4 : xs 4 = .int .i64 n := (HD.out 4 (dk (by kernel_rfl)))
       generalize xs 4 = x4 at hd4 HQ ⊢; subst hd4
       go_wp2
       exact HQ.out _ _ (eR _) rfl
      ·
       go_wp2
       exact HQ.out _ _ (eR _) rfl
      ·
       go_wp2
       exact HQ.out _ _ (eR _) rfl
      ·
       have hd6 : xs 6 = .slice (some ⟨b, off, none⟩) l.length dc := (HD.out 6 (dk (by kernel_rfl)))
       generalize xs 6 = x6 at hd6 HQ ⊢; subst hd6
       have hd7 : xs 7 = .int .i64 k := (HD.out 7 (dk (by kernel_rfl)))
       generalize xs 7 = x7 at hd7 HQ ⊢; subst hd7
       go_wp2
       exact HQ.out _ _ (eR _) rfl
      ·
       have hd8 : xs 8 = .pointer (some ⟨b, off + k * 3, none⟩) := (HD.out 8 (dk (by kernel_rfl)))
       generalize xs 8 = x8 at hd8 HQ ⊢; subst hd8
       go_wp2
       exact HQ.out _ _ (eR _) rfl
      ·
       have hd9 : xs 9 = .pointer (some ⟨b, off + k * 3 + 2, none⟩) := (HD.out 9 (dk (by kernel_rfl)))
       generalize xs 9 = x9 at hd9 HQ ⊢; subst hd9
       have hc : W.cell? ⟨b, off+k*3+2, none⟩ = some (.int .u16 til) := (HW.out.cell (p := ⟨b, off+k*3+2, none⟩) (by show b < _; omega)).trans c2
       go_wp2
       exact HQ.out _ _ (eR _) rfl
      ·
       have hd10 : xs 10 = .int .u16 til := (HD.out 10 (dk (by kernel_rfl)))
       generalize xs 10 = x10 at hd10 HQ ⊢; subst hd10
       go_wp2
       exact HQ.out _ _ (eR _) rfl
      ·
       have hd2 : xs 2 = .int .i64 k := (HD.out 2 (dk (by kernel_rfl)))
       generalize xs 2 = x2 at hd2 HQ ⊢; subst hd2
       have hd5 : xs 5 = .int .i64 (n - 1) := (HD.out 5 (dk (by kernel_rfl)))
       generalize xs 5 = x5 at hd5 HQ ⊢; subst hd5
       have hd11 : xs 11 = .int .i64 til := (HD.out 11 (dk (by kernel_rfl)))
       generalize xs 11 = x11 at hd11 HQ ⊢; subst hd11
       go_wp2
       exact HQ.out _ _ (eR _) rfl
      ·
       have hd1 : xs 1 = .agg (kyC (theKey 1)) := (HD.out 1 (dk (by kernel_rfl)))
       generalize xs 1 = x1 at hd1 HQ ⊢; subst hd1
       have hd12 : xs 12 = .agg (leC ⟨(k : Int), n - 1, til, 0, zeros32 16⟩) := (HD.out 12 (dk (by kernel_rfl)))
       generalize xs 12 = x12 at hd12 HQ ⊢; subst hd12
       go_wp2_with (go_at_call 55; refine (HSl'.out _ (HX7.out.trans HW.out)).mono ?_; rintro e w1 ⟨rfl, hx⟩)
       exact HQ.out _ _ hx rfl
      ·
       have hd13 : xs 13 = .agg (leC lx) := (HD.out 13 (dk (by kernel_rfl)))
       generalize xs 13 = x13 at hd13 HQ ⊢; subst hd13
       go_wp2
       exact HQ.out _ _ ((eR _).alloc _) ⟨_, rfl, reads_fresh leE [lx] W _ _ (by kernel_rfl)⟩
      intro xs W8 hW hS
      have h0 : xs 0 = .slice LsA ll.length lsc := hS 0 (by omega)
      have h14 : (read1 20 leL lx).S (xs 14) W8 := hS 14 (by omega)
      simp only [fillAt, dstOf, lc0, lcs, obs, Act.put, lsa, lsz, lss, nz, Nat.reduceAdd, List.drop_succ_cons, List.drop_zero, List.drop_nil]
      generalize xs 0 = x0 at *; subst h0
      have HW8 := lh (HX7.out.trans hW)
      have HWW8 := lh hW
      clear hS hW qE_0
      obtain ⟨bl, h14, hr14⟩ := h14
      generalize xs 14 = x14 at *
      subst h14
      have HR14 := lh hr14
      have hs8 := HWW8.out.size
      clear hr14 hfl hfl0 HSl' d1
      go_upto_region 17 with (at_builtin; refine app_reads leT leE rfl _ _ rfl (B+1+1+1+1) _ _ ll rfl (HOL7.out.ext (by (with_reducible repeat first|exact HWW8.out|exact eR _|apply eD|apply eN|apply eA|apply eO|apply eS|apply eC);all_goals first|omega|simp <;> omega)) W8.heap.size _ _ [lx] rfl HR14.out (fun h => by cases h) (by simp; omega) (by simp; omega) (by omega) ?_; intro LA5 lc5 ll5 w5 HLL HO5 hB5 hll1 hll2 hg5; have HO5' := lh HO5; have HB5 := lh hB5; have HG5 := lh hg5; clear HO5 hB5 hg5)
      refine wp_world (fun W => Ext w W ∧ OwnsCf (B+1+1+1+1) W CA cc cl ∧ OwnsLe (B+1+1+1+1) W LA5 lc5 ll5 ∧ OwnsGr (B+1+1+1+1) W GA gc gl ∧ RowAt W B (epC (tEp n)) ∧ RowAt W (B+1) #[.int .i64 p0, .int .i64 p1] ∧ RowAt W (B+1+1) (rpC noRp) ∧ RowAt W (B+1+1+1) (gsC (tGs n GA gc gl)) ∧ RowAt W g8 (grC (⟨(k : Int), 0, til⟩ : Gr))) ⟨?_, ?_, HO5'.out, ?_, ?_, ?_, ?_, ?_, ?_⟩ ?_
      ·exact (show Ext w _ from HW8.out).grown HB5.out (by omega)
      ·exact Owns.apart (HOC7.out.ext (by (with_reducible repeat first|exact HWW8.out|exact eR _|apply eD|apply eN|apply eA|apply eO|apply eS|apply eC);all_goals first|omega|simp <;> omega)) (HOL7.out.ext (by (with_reducible repeat first|exact HWW8.out|exact eR _|apply eD|apply eN|apply eA|apply eO|apply eS|apply eC);all_goals first|omega|simp <;> omega)) (by decide) HG5.out
      ·exact Owns.apart (HOG7.out.ext (by (with_reducible repeat first|exact HWW8.out|exact eR _|apply eD|apply eN|apply eA|apply eO|apply eS|apply eC);all_goals first|omega|simp <;> omega)) (HOL7.out.ext (by (with_reducible repeat first|exact HWW8.out|exact eR _|apply eD|apply eN|apply eA|apply eO|apply eS|apply eC);all_goals first|omega|simp <;> omega)) (by decide) HG5.out
      ·exact RowAt.below (HRE7.out.ext (by (with_reducible repeat first|exact HWW8.out|exact eR _|apply eD|apply eN|apply eA|apply eO|apply eS|apply eC);all_goals first|omega|simp <;> omega)) HB5.out (by omega)
      ·exact RowAt.below (HRP7.out.ext (by (with_reducible repeat first|exact HWW8.out|exact eR _|apply eD|apply eN|apply eA|apply eO|apply eS|apply eC);all_goals first|omega|simp <;> omega)) HB5.out (by omega)
      ·exact RowAt.below (HRR7.out.ext (by (with_reducible repeat first|exact HWW8.out|exact eR _|apply eD|apply eN|apply eA|apply eO|apply eS|apply eC);all_goals first|omega|simp <;> omega)) HB5.out (by omega)
      ·exact RowAt.below (HRG7.out.ext (by (with_reducible repeat first|exact HWW8.out|exact eR _|apply eD|apply eN|apply eA|apply eO|apply eS|apply eC);all_goals first|omega|simp <;> omega)) HB5.out (by omega)
      ·exact RowAt.grown (HU8.out.ext (by (with_reducible repeat first|exact HWW8.out|exact eR _|apply eD|apply eN|apply eA|apply eO|apply eS|apply eC);all_goals first|omega|simp <;> omega)) HG5.out (fun e => by have := own_lt HLt8.out _ e; omega)
      rintro W9 ⟨x9, o1, o2, o3, r1, r2, r3, r4, u8⟩
      have hl8 := u8.lt
      have HX9 := lh x9
      have hs9 := x9.size
      have hll9 : ll5.length ≤ k + 1 := by simp only [List.length_singleton] at hll1 hll2; omega
      have HL9 : Hid (ll5 = les n l (k + 1)) := lh (by rw [HLL.out, HLl.out, HLy1.out])
      have HOC9 := lh o1
      have HOL9 := lh o2
      have HOG9 := lh o3
      have HRE9 := lh r1
      have HRP9 := lh r2
      have HRR9 := lh r3
      have HRG9 := lh r4
      have kX : rowOf W9 g8 0 3 = some (grC (⟨(k : Int), 0, til⟩ : Gr)) := u8.all rfl (by omega)
      clear x9 o1 o2 o3 r1 r2 r3 r4 u8 HLL HLl HLy1 HW8 HWW8 HR14 HO5' HB5 HG5 HOC7 HOL7 HOG7 HRE7 HRP7 HRR7 HRG7 HU8 HX7 c2
      have qG_2 : W9.cell? ⟨B+1+1+1, 2, none⟩ = some (.slice GA gl.length gc) := (HRG9.out.cell 2).trans (gs_q2 n GA gc gl)
      have hlG9 := HRG9.out.lt
      go_wp2_with (at_builtin; refine app_from grT grE rfl _ _ rfl (B+1+1+1+1) _ _ gl rfl (HOG9.out.ext (by (with_reducible repeat first|exact eR _|apply eD|apply eN|apply eA|apply eO|apply eS|apply eC);all_goals first|omega|simp <;> omega)) _ 1 _ [(⟨(k : Int), 0, til⟩ : Gr)] rfl rfl (new_listAt rfl [(⟨(k : Int), 0, til⟩ : Gr)] _ _ (by kernel_rfl)) (by omega) (by omega) (by simp; omega) ?_; intro GA6 gc6 gl6 w6 HGL HO6 hB6 hgl1 hgl2 hg6; have HO6' := lh HO6; have HB6 := lh hB6; have HG6 := lh hg6; have HRG6 := lh (RowAt.below (HRG9.out.ext (by (with_reducible repeat first|exact eR _|apply eD|apply eN|apply eA|apply eO|apply eS|apply eC);all_goals first|omega|simp <;> omega)) hB6 (by omega)); have q6 := (HRG6.out.cell 2).trans (gs_q2 n GA gc gl); have f6 := HRG6.out.free 2; have l6 := HRG6.out.lt; clear HO6 hB6 hg6)
      go_roundw
      case rel =>
       refine ⟨CA, cc, cl, LA5, lc5, ll5, GA6, gc6, gl6, k + 1, rfl, rfl, by go_num, by omega, by omega, by omega, by omega, HC1, HL9, lh (by rw [HGL.out, HGl.out, HG1.out]), lh (Owns.other ?_ (by show B+1+1+1 < _; omega) _), lh (Owns.other ?_ (by show B+1+1+1 < _; omega) _), lh (Owns.other HO6'.out (by show B+1+1+1 < _; omega) _), lh (RowAt.other ?_ (by show B ≠ B+1+1+1; omega) _), lh (RowAt.other ?_ (by show B+1 ≠ B+1+1+1; omega) _), lh (RowAt.other ?_ (by show B+1+1 ≠ B+1+1+1; omega) _), lh ?_, lh ?_⟩
       ·exact Owns.apart (HOC9.out.ext (by (with_reducible repeat first|exact eR _|apply eD|apply eN|apply eA|apply eO|apply eS|apply eC);all_goals first|omega|simp <;> omega)) (HOG9.out.ext (by (with_reducible repeat first|exact eR _|apply eD|apply eN|apply eA|apply eO|apply eS|apply eC);all_goals first|omega|simp <;> omega)) (by decide) HG6.out
       ·exact Owns.apart (HOL9.out.ext (by (with_reducible repeat first|exact eR _|apply eD|apply eN|apply eA|apply eO|apply eS|apply eC);all_goals first|omega|simp <;> omega)) (HOG9.out.ext (by (with_reducible repeat first|exact eR _|apply eD|apply eN|apply eA|apply eO|apply eS|apply eC);all_goals first|omega|simp <;> omega)) (by decide) HG6.out
       ·exact RowAt.below (HRE9.out.ext (by (with_reducible repeat first|exact eR _|apply eD|apply eN|apply eA|apply eO|apply eS|apply eC);all_goals first|omega|simp <;> omega)) HB6.out (by omega)
       ·exact RowAt.below (HRP9.out.ext (by (with_reducible repeat first|exact eR _|apply eD|apply eN|apply eA|apply eO|apply eS|apply eC);all_goals first|omega|simp <;> omega)) HB6.out (by omega)
       ·exact RowAt.below (HRR9.out.ext (by (with_reducible repeat first|exact eR _|apply eD|apply eN|apply eA|apply eO|apply eS|apply eC);all_goals first|omega|simp <;> omega)) HB6.out (by omega)
       ·have hst := HRG6.out.set 2 (.slice GA6 gl6.length gc6)
        rw [gs_set2] at hst
        exact hst
       ·exact Ext.setCell ((show Ext w _ from (by (with_reducible repeat first|exact HX9.out|exact eR _|apply eD|apply eN|apply eA|apply eO|apply eS|apply eC);all_goals first|omega|simp <;> omega)).grown HB6.out (by omega)) (by show _ ≤ B+1+1+1; omega) _
      case measure => simp [intOf]; omega
     ·have HL9 := lh (HLl.out.trans (HLn.out (by simp; omega)).symm)
      have d1 : decide ((0 : Int) < til) = false := by simpa using hu
      clear HLn HLy hu HSl' HLl
      go_upto_region 17 with (fail)
      have HX9 := HX7
      have hs9 := hs7
      have hll9 : ll.length ≤ k + 1 := by omega
      have HOC9 := HOC7
      have HOL9 := HOL7
      have HOG9 := HOG7
      have HRE9 := HRE7
      have HRP9 := HRP7
      have HRR9 := HRR7
      have HRG9 := HRG7
      have kX : rowOf W7 g8 0 3 = some (grC (⟨(k : Int), 0, til⟩ : Gr)) := HU8.out.all rfl (by omega)
      clear HOC7 HOL7 HOG7 HRE7 HRP7 HRR7 HRG7 HU8 HX7 c2 d1
      have qG_2 : W7.cell? ⟨B+1+1+1, 2, none⟩ = some (.slice GA gl.length gc) := (HRG9.out.cell 2).trans (gs_q2 n GA gc gl)
      have hlG9 := HRG9.out.lt
      go_wp2_with (at_builtin; refine app_from grT grE rfl _ _ rfl (B+1+1+1+1) _ _ gl rfl (HOG9.out.ext (by (with_reducible repeat first|exact eR _|apply eD|apply eN|apply eA|apply eO|apply eS|apply eC);all_goals first|omega|simp <;> omega)) _ 1 _ [(⟨(k : Int), 0, til⟩ : Gr)] rfl rfl (new_listAt rfl [(⟨(k : Int), 0, til⟩ : Gr)] _ _ (by kernel_rfl)) (by omega) (by omega) (by simp; omega) ?_; intro GA6 gc6 gl6 w6 HGL HO6 hB6 hgl1 hgl2 hg6; have HO6' := lh HO6; have HB6 := lh hB6; have HG6 := lh hg6; have HRG6 := lh (RowAt.below (HRG9.out.ext (by (with_reducible repeat first|exact eR _|apply eD|apply eN|apply eA|apply eO|apply eS|apply eC);all_goals first|omega|simp <;> omega)) hB6 (by omega)); have q6 := (HRG6.out.cell 2).trans (gs_q2 n GA gc gl); have f6 := HRG6.out.free 2; have l6 := HRG6.out.lt; clear HO6 hB6 hg6)
      go_roundw
      case rel =>
       refine ⟨CA, cc, cl, LsA, lsc, ll, GA6, gc6, gl6, k + 1, rfl, rfl, by go_num, by omega, by omega, by omega, by omega, HC1, HL9, lh (by rw [HGL.out, HGl.out, HG1.out]), lh (Owns.other ?_ (by show B+1+1+1 < _; omega) _), lh (Owns.other ?_ (by show B+1+1+1 < _; omega) _), lh (Owns.other HO6'.out (by show B+1+1+1 < _; omega) _), lh (RowAt.other ?_ (by show B ≠ B+1+1+1; omega) _), lh (RowAt.other ?_ (by show B+1 ≠ B+1+1+1; omega) _), lh (RowAt.other ?_ (by show B+1+1 ≠ B+1+1+1; omega) _), lh ?_, lh ?_⟩
       ·exact Owns.apart (HOC9.out.ext (by (with_reducible repeat first|exact eR _|apply eD|apply eN|apply eA|apply eO|apply eS|apply eC);all_goals first|omega|simp <;> omega)) (HOG9.out.ext (by (with_reducible repeat first|exact eR _|apply eD|apply eN|apply eA|apply eO|apply eS|apply eC);all_goals first|omega|simp <;> omega)) (by decide) HG6.out
       ·exact Owns.apart (HOL9.out.ext (by (with_reducible repeat first|exact eR _|apply eD|apply eN|apply eA|apply eO|apply eS|apply eC);all_goals first|omega|simp <;> omega)) (HOG9.out.ext (by (with_reducible repeat first|exact eR _|apply eD|apply eN|apply eA|apply eO|apply eS|apply eC);all_goals first|omega|simp <;> omega)) (by decide) HG6.out
       ·exact RowAt.below (HRE9.out.ext (by (with_reducible repeat first|exact eR _|apply eD|apply eN|apply eA|apply eO|apply eS|apply eC);all_goals first|omega|simp <;> omega)) HB6.out (by omega)
       ·exact RowAt.below (HRP9.out.ext (by (with_reducible repeat first|exact eR _|apply eD|apply eN|apply eA|apply eO|apply eS|apply eC);all_goals first|omega|simp <;> omega)) HB6.out (by omega)
       ·exact RowAt.below (HRR9.out.ext (by (with_reducible repeat first|exact eR _|apply eD|apply eN|apply eA|apply eO|apply eS|apply eC);all_goals first|omega|simp <;> omega)) HB6.out (by omega)
       ·have hst := HRG6.out.set 2 (.slice GA6 gl6.length gc6)
        rw [gs_set2] at hst
        exact hst
       ·exact Ext.setCell ((show Ext w _ from (by (with_reducible repeat first|exact HX9.out|exact eR _|apply eD|apply eN|apply eA|apply eO|apply eS|apply eC);all_goals first|omega|simp <;> omega)).grown HB6.out (by omega)) (by show _ ≤ B+1+1+1; omega) _
      case measure => simp [intOf]; omega
    | true =>
     have HC0 := lh (HCy.out rfl)
     have HT1 : Hid (tGr n l k = ⟨(k : Int), n, til⟩) := lh HTg.out
     have hfC := cf_fits (tCf (tEp n) ⟨p0, p1⟩ k)
     clear HCn HCy HTg
     generalize tCf (tEp n) ⟨p0, p1⟩ k = cx at *
     generalize tGr n l k = gx at *
     have HT1' := HT1.out
     subst HT1'
     go_upto_region 11 with (fail)
     refine wp_world (fun W => Ext wr W ∧ RowAt W wr.heap.size (grC ⟨(k : Int), n, til⟩)) ⟨(by (with_reducible repeat first|exact eR _|apply eD|apply eN|apply eA|apply eO|apply eS|apply eC);all_goals first|omega|simp <;> omega), ?_⟩ ?_
     ·have hst := (RowAt.store (ds := grC ⟨(k : Int), 0, til⟩) (RowAt.new wr (grC noGr) 128) rfl).set 1 (.int .i64 n)
      rw [gr_set1] at hst
      exact hst
     have HLt8 := lh (fun a ha => (HOL.out.lt a ha).2)
     obtain ⟨g8, hg8⟩ : ∃ g, wr.heap.size = g := ⟨_, rfl⟩
     rw [hg8]
     rintro W5 ⟨x5, u8⟩
     have HX5 := lh x5
     have HU5 := lh u8
     have hl8 := u8.lt
     have hs5 := x5.size
     have kE : rowOf W5 B 0 38 = some (epC (tEp n)) := (HRE.out.ext x5).all rfl (by omega)
     have qP_0 : W5.cell? ⟨B+1, 0, none⟩ = some (.int .i64 p0) := (HRP.out.ext x5).cell 0
     have qP_1 : W5.cell? ⟨B+1, 1, none⟩ = some (.int .i64 p1) := (HRP.out.ext x5).cell 1
     clear x5 u8 qE_0 c0 c1
     refine wp_region_rowN 13 (by kernel_rfl) 10 11 (fun i => ([.int .i64 k, .int .i64 (1000 + (k : Int)), .agg (kyC (theKey (1000 + (k : Int)))), .int .i64 k, .agg (epC (tEp n)), .agg #[.int .i64 p0, .int .i64 p1], .tuple #[.agg (cfC cx), .int .i64 0], .tuple #[.agg (cfC cx), .int .i64 0], .agg (cfC cx), .int .i64 0, undef, undef, .int .i64 0] : List Value).getD i undef) (cfC cx) (by kernel_rfl) (by kernel_rfl) (by decide) (dk (by kernel_rfl)) (dk (by kernel_rfl)) (dk (by kernel_rfl)) (lt_cons ?_ (lt_cons ?_ (lt_cons ?_ (lt_cons ?_ (lt_cons ?_ (lt_cons ?_ (lt_cons ?_ (lt_cons ?_ (lt_cons ?_ (lt_cons ?_ (lt_cons ?_ (lt_cons ?_ (lt_cons ?_ (lt_none)))))))))))))) ?_ ?_ ?_
     ·
      intro _ _
      refine sop rfl fun xs W HW hsW HD Q' HQ => ?_; simp only [fillAt, dstOf, lc0, lcs, obs, Act.put, lsa, lsz, lss, nz, Nat.reduceAdd] at HQ ⊢
      go_wp2
      exact HQ.out _ _ (eR _) rfl
     ·
      intro _ _
      refine sop rfl fun xs W HW hsW HD Q' HQ => ?_; simp only [fillAt, dstOf, lc0, lcs, obs, Act.put, lsa, lsz, lss, nz, Nat.reduceAdd] at HQ ⊢
      have hd0 : xs 0 = .int .i64 k := (HD.out 0 (dk (by kernel_rfl)))
      generalize xs 0 = x0 at hd0 HQ ⊢; subst hd0
      go_wp2
      exact HQ.out _ _ (eR _) rfl
     ·
      intro _ _
      refine sop rfl fun xs W HW hsW HD Q' HQ => ?_; simp only [fillAt, dstOf, lc0, lcs, obs, Act.put, lsa, lsz, lss, nz, Nat.reduceAdd] at HQ ⊢
      have hd1 : xs 1 = .int .i64 (1000 + (k : Int)) := (HD.out 1 (dk (by kernel_rfl)))
      generalize xs 1 = x1 at hd1 HQ ⊢; subst hd1
      go_wp2_with (go_at_call 32; refine (HKy.out _ _).mono ?_; rintro e w1 ⟨rfl, hx⟩)
      exact HQ.out _ _ hx rfl
     ·
      intro _ _
      refine sop rfl fun xs W HW hsW HD Q' HQ => ?_; simp only [fillAt, dstOf, lc0, lcs, obs, Act.put, lsa, lsz, lss, nz, Nat.reduceAdd] at HQ ⊢
      go_wp2
      exact HQ.out _ _ (eR _) rfl
     ·
      intro _ _
      refine sop rfl fun xs W HW hsW HD Q' HQ => ?_; simp only [fillAt, dstOf, lc0, lcs, obs, Act.put, lsa, lsz, lss, nz, Nat.reduceAdd] at HQ ⊢
      have hc := (row_extW HW.out (b := B) (by omega) 0 38).trans kE
      go_wp2
      exact HQ.out _ _ (eR _) rfl
     ·
      intro _ _
      refine sop rfl fun xs W HW hsW HD Q' HQ => ?_; simp only [fillAt, dstOf, lc0, lcs, obs, Act.put, lsa, lsz, lss, nz, Nat.reduceAdd] at HQ ⊢
      have hc := (HW.out.cell (p := ⟨B+1, 0, none⟩) (by show B+1 < _; omega)).trans qP_0
      have hc2 := (HW.out.cell (p := ⟨B+1, 1, none⟩) (by show B+1 < _; omega)).trans qP_1
      go_wp2
      exact HQ.out _ _ (eR _) rfl
     ·
      intro _ _
      refine sop rfl fun xs W HW hsW HD Q' HQ => ?_; simp only [fillAt, dstOf, lc0, lcs, obs, Act.put, lsa, lsz, lss, nz, Nat.reduceAdd] at HQ ⊢
      have hd2 : xs 2 = .agg (kyC (theKey (1000 + (k : Int)))) := (HD.out 2 (dk (by kernel_rfl)))
      generalize xs 2 = x2 at hd2 HQ ⊢; subst hd2
      have hd3 : xs 3 = .int .i64 k := (HD.out 3 (dk (by kernel_rfl)))
      generalize xs 3 = x3 at hd3 HQ ⊢; subst hd3
      have hd4 : xs 4 = .agg (epC (tEp n)) := (HD.out 4 (dk (by kernel_rfl)))
      generalize xs 4 = x4 at hd4 HQ ⊢; subst hd4
      have hd5 : xs 5 = .agg #[.int .i64 p0, .int .i64 p1] := (HD.out 5 (dk (by kernel_rfl)))
      generalize xs 5 = x5 at hd5 HQ ⊢; subst hd5
      go_wp2_with (go_at_call 17; refine (HCf'.out _ (HX.out.trans (HX5.out.trans HW.out))).mono ?_; rintro e w1 ⟨rfl, hx⟩)
      exact HQ.out _ _ hx rfl
     ·
      intro _ _
      refine sop rfl fun xs W HW hsW HD Q' HQ => ?_; simp only [fillAt, dstOf, lc0, lcs, obs, Act.put, lsa, lsz, lss, nz, Nat.reduceAdd] at HQ ⊢
      have hd6 : xs 6 = .tuple #[.agg (cfC cx), .int .i64 0] := (HD.out 6 (dk (by kernel_rfl)))
      generalize xs 6 = x6 at hd6 HQ ⊢; subst hd6
      go_wp2
      exact HQ.out _ _ (eR _) rfl
     ·
      intro _ _
      refine sop rfl fun xs W HW hsW HD Q' HQ => ?_; simp only [fillAt, dstOf, lc0, lcs, obs, Act.put, lsa, lsz, lss, nz, Nat.reduceAdd] at HQ ⊢
      have hd7 : xs 7 = .tuple #[.agg (cfC cx), .int .i64 0] := (HD.out 7 (dk (by kernel_rfl)))
      generalize xs 7 = x7 at hd7 HQ ⊢; subst hd7
      go_wp2
      exact HQ.out _ _ (eR _) rfl
     ·
      intro _ _
      refine sop rfl fun xs W HW hsW HD Q' HQ => ?_; simp only [fillAt, dstOf, lc0, lcs, obs, Act.put, lsa, lsz, lss, nz, Nat.reduceAdd] at HQ ⊢
      have hd7 : xs 7 = .tuple #[.agg (cfC cx), .int .i64 0] := (HD.out 7 (dk (by kernel_rfl)))
      generalize xs 7 = x7 at hd7 HQ ⊢; subst hd7
      go_wp2
      exact HQ.out _ _ (eR _) rfl
     ·exact fun h => absurd rfl h
     ·exact fun _ h => absurd rfl h
     ·
      intro _ _
      refine sop rfl fun xs W HW hsW HD Q' HQ => ?_; simp only [fillAt, dstOf, lc0, lcs, obs, Act.put, lsa, lsz, lss, nz, Nat.reduceAdd] at HQ ⊢
      have hd9 : xs 9 = .int .i64 0 := (HD.out 9 (dk (by kernel_rfl)))
      generalize xs 9 = x9 at hd9 HQ ⊢; subst hd9
      go_wp2
      exact HQ.out _ _ (eR _) rfl
     ·
      refine sop rfl fun xs W HW hsW HD Q' HQ => ?_; simp only [fillAt, dstOf, lc0, lcs, obs, Act.put, lsa, lsz, lss, nz, Nat.reduceAdd] at HQ ⊢
      go_wp2
      exact HQ.out _ _ ((eR _).alloc _) ⟨W.heap.size, rfl, by omega, _, RowAt.new _ _ _, rfl⟩
     ·
      refine sop rfl fun xs W HW hsW HD Q' HQ => ?_; simp only [fillAt, dstOf, lc0, lcs, obs, Act.put, lsa, lsz, lss, nz, Nat.reduceAdd] at HQ ⊢
      have hdv : xs 8 = .agg (cfC cx) := (HD.out 8 (dk (by kernel_rfl)))
      obtain ⟨bb, hxa, hbb, ds, hrb, hzb⟩ : ∃ b, xs 10 = .pointer (some ⟨b, 0, none⟩) ∧ W5.heap.size ≤ b ∧ ∃ ds, RowAt W b ds ∧ ds.size = (cfC cx).size := (HD.out 10 (dk (by kernel_rfl)))
      have hrm : roomOf W bb 0 37 = true := by rw [hrb.room, hzb]; rfl
      generalize xs 8 = x8 at hdv HQ ⊢; subst hdv
      generalize xs 10 = x10 at hxa HQ ⊢; subst hxa
      clear hrb hzb
      go_wp2
      exact HQ.out undef bb rfl
     intro xs W6 g hW hxb hbaseg hrowg hvs
     have h12 : xs 12 = .int .i64 0 := hvs 12 (dk (by kernel_rfl)) (by decide) (by decide)
     simp only [fillAt, dstOf, lc0, lcs, obs, Act.put, lsa, lsz, lss, nz, Nat.reduceAdd]
     generalize xs 12 = x12 at *; subst h12
     generalize xs 10 = xa at *; subst hxb
     have HW6 := lh (HX5.out.trans hW)
     have HWW6 := lh hW
     have HRg := lh hrowg
     have hlg := hrowg.lt
     clear hW hvs hrowg kE qP_0 qP_1
     have hs6 := HWW6.out.size
     have kC : rowOf W6 g 0 37 = some (cfC cx) := HRg.out.all rfl (by omega)
     have c2 : W6.cell? ⟨b, off + k * 3 + 2, none⟩ = some (.int .u16 til) := (HW6.out.cell (p := ⟨b, off + k * 3 + 2, none⟩) hb2).trans c2
     go_upto_region 15 with (at_builtin; refine app_from cfT cfE rfl _ _ rfl (B+1+1+1+1) _ _ cl rfl (HOC.out.ext (by (with_reducible repeat first|exact HW6.out|exact eR _|apply eD|apply eN|apply eA|apply eO|apply eS|apply eC);all_goals first|omega|simp <;> omega)) _ 1 _ [cx] rfl rfl (new_listAt rfl [cx] _ _ (by kernel_rfl)) (by omega) (by omega) (by simp; omega) ?_; intro CA4 cc4 cl4 w4 HCL HO4 hB4 hcl1 hcl2 hg4; have HO4' := lh HO4; have HB4 := lh hB4; have HG4 := lh hg4; clear HO4 hB4 hg4)
     refine wp_world (fun W => Ext w W ∧ OwnsCf (B+1+1+1+1) W CA4 cc4 cl4 ∧ OwnsLe (B+1+1+1+1) W LsA lsc ll ∧ OwnsGr (B+1+1+1+1) W GA gc gl ∧ RowAt W B (epC (tEp n)) ∧ RowAt W (B+1) #[.int .i64 p0, .int .i64 p1] ∧ RowAt W (B+1+1) (rpC noRp) ∧ RowAt W (B+1+1+1) (gsC (tGs n GA gc gl)) ∧ RowAt W g8 (grC ⟨(k : Int), n, til⟩) ∧ W.cell? ⟨b, off + k * 3 + 2, none⟩ = some (.int .u16 til)) ⟨?_, HO4'.out, ?_, ?_, ?_, ?_, ?_, ?_, ?_, ?_⟩ ?_
     ·exact (show Ext w _ from (by (with_reducible repeat first|exact HX.out.trans HW6.out|exact eR _|apply eD|apply eN|apply eA|apply eO|apply eS|apply eC);all_goals first|omega|simp <;> omega)).grown HB4.out (by omega)
     ·exact Owns.apart (HOL.out.ext (by (with_reducible repeat first|exact HW6.out|exact eR _|apply eD|apply eN|apply eA|apply eO|apply eS|apply eC);all_goals first|omega|simp <;> omega)) (HOC.out.ext (by (with_reducible repeat first|exact HW6.out|exact eR _|apply eD|apply eN|apply eA|apply eO|apply eS|apply eC);all_goals first|omega|simp <;> omega)) (by decide) HG4.out
     ·exact Owns.apart (HOG.out.ext (by (with_reducible repeat first|exact HW6.out|exact eR _|apply eD|apply eN|apply eA|apply eO|apply eS|apply eC);all_goals first|omega|simp <;> omega)) (HOC.out.ext (by (with_reducible repeat first|exact HW6.out|exact eR _|apply eD|apply eN|apply eA|apply eO|apply eS|apply eC);all_goals first|omega|simp <;> omega)) (by decide) HG4.out
     ·exact RowAt.below (HRE.out.ext (by (with_reducible repeat first|exact HW6.out|exact eR _|apply eD|apply eN|apply eA|apply eO|apply eS|apply eC);all_goals first|omega|simp <;> omega)) HB4.out (by omega)
     ·exact RowAt.below (HRP.out.ext (by (with_reducible repeat first|exact HW6.out|exact eR _|apply eD|apply eN|apply eA|apply eO|apply eS|apply eC);all_goals first|omega|simp <;> omega)) HB4.out (by omega)
     ·exact RowAt.below (HRR.out.ext (by (with_reducible repeat first|exact HW6.out|exact eR _|apply eD|apply eN|apply eA|apply eO|apply eS|apply eC);all_goals first|omega|simp <;> omega)) HB4.out (by omega)
     ·exact RowAt.below (HRG.out.ext (by (with_reducible repeat first|exact HW6.out|exact eR _|apply eD|apply eN|apply eA|apply eO|apply eS|apply eC);all_goals first|omega|simp <;> omega)) HB4.out (by omega)
     ·exact RowAt.grown (HU5.out.ext (by (with_reducible repeat first|exact HWW6.out|exact eR _|apply eD|apply eN|apply eA|apply eO|apply eS|apply eC);all_goals first|omega|simp <;> omega)) HG4.out (fun e => by have := own_lt (fun a ha => (HOC.out.lt a ha).2) _ e; omega)
     ·refine (HB4.out.cell (p := ⟨b, off + k * 3 + 2, none⟩) (by show b < _; omega)).trans ?_
      exact ((show Ext W6 _ from (by (with_reducible repeat first|exact eR _|apply eD|apply eN|apply eA|apply eO|apply eS|apply eC);all_goals first|omega|simp <;> omega)).cell (p := ⟨b, off + k * 3 + 2, none⟩) (by show b < _; omega)).trans c2
     rintro W7 ⟨x7, o1, o2, o3, r1, r2, r3, r4, u8, c2⟩
     have hl8 := u8.lt
     have HX7 := lh x7
     have hs7 := x7.size
     have hcl7 : cl4.length ≤ k + 1 := by omega
     have HC1 : Hid (cl4 = cfs (tEp n) ⟨p0, p1⟩ l (k + 1)) := lh (by rw [HCL.out, HCl.out, HC0.out])
     have HOC7 := lh o1
     have HOL7 := lh o2
     have HOG7 := lh o3
     have HRE7 := lh r1
     have HRP7 := lh r2
     have HRR7 := lh r3
     have HRG7 := lh r4
     have HU8 := lh u8
     have hb7 : b < W7.heap.size := by omega
     clear x7 o1 o2 o3 r1 r2 r3 r4 u8 HOC HOL HOG HRE HRP HRR HRG HX hb2 HCL HCl HC0 HB4 HG4 HO4' HCf' kC HW6 HWW6 HX5 HU5 HRg hfC
     by_cases hu : 0 < til
     ·have HLy1 := lh (HLy.out (by simp; omega))
      have d1 : decide ((0 : Int) < til) = true := by simpa using hu
      have hfl := le_fits (tLe n l k)
      have hfl0 := le_fits ⟨(k : Int), n - 1, til, 0, zeros32 16⟩
      clear HLn HLy hu
      generalize tLe n l k = lx at *
      go_upto_region 16 with (fail)
      have qE_0 : W7.cell? ⟨B, 0, none⟩ = some (.int .i64 n) := (HRE7.out.cell 0).trans HQ0.out
      refine wp_region_soft 15 (softsL [.eq (.slice LsA ll.length lsc), .eq (.agg (kyC (theKey 1))), .eq (.int .i64 k), .eq (.pointer (some ⟨B, 0, none⟩)), .eq (.int .i64 n), .eq (.int .i64 (n - 1)), .eq (.slice (some ⟨b, off, none⟩) l.length dc), .eq (.int .i64 k), .eq (.pointer (some ⟨b, off + k * 3, none⟩)), .eq (.pointer (some ⟨b, off + k * 3 + 2, none⟩)), .eq (.int .u16 til), .eq (.int .i64 til), .eq (.agg (leC ⟨(k : Int), n - 1, til, 0, zeros32 16⟩)), .eq (.agg (leC lx)), read1 20 leL lx]) (by kernel_rfl) (by kernel_rfl) (lt_cons ?_ (lt_cons ?_ (lt_cons ?_ (lt_cons ?_ (lt_cons ?_ (lt_cons ?_ (lt_cons ?_ (lt_cons ?_ (lt_cons ?_ (lt_cons ?_ (lt_cons ?_ (lt_cons ?_ (lt_cons ?_ (lt_cons ?_ (lt_cons ?_ (lt_none)))))))))))))))) ?_
      any_goals (refine sop rfl fun xs W HW hsW HD Q' HQ => ?_; simp only [fillAt, dstOf, lc0, lcs, obs, Act.put, lsa, lsz, lss, nz, Nat.reduceAdd] at HQ ⊢)
      ·
       go_wp2
       exact HQ.out _ _ (eR _) rfl
      ·
       go_wp2_with (go_at_call 32; refine (HKy.out 1 _).mono ?_; rintro e w1 ⟨rfl, hx⟩)
       exact HQ.out _ _ hx rfl
      ·
       go_wp2
       exact HQ.out _ _ (eR _) rfl
      ·
       go_wp2
       exact HQ.out _ _ (eR _) rfl
      ·
       have hd3 : xs 3 = .pointer (some ⟨B, 0, none⟩) := (HD.out 3 (dk (by kernel_rfl)))
       generalize xs 3 = x3 at hd3 HQ ⊢; subst hd3
       have hc : W.cell? ⟨B, 0, none⟩ = some (.int .i64 n) := (HW.out.cell (p := ⟨B, 0, none⟩) (by show B < _; omega)).trans qE_0
       go_wp2
       exact HQ.out _ _ (eR _) rfl
      ·
       have hd4 : xs 4 = .int .i64 n := (HD.out 4 (dk (by kernel_rfl)))
       generalize xs 4 = x4 at hd4 HQ ⊢; subst hd4
       go_wp2
       exact HQ.out _ _ (eR _) rfl
      ·
       go_wp2
       exact HQ.out _ _ (eR _) rfl
      ·
       go_wp2
       exact HQ.out _ _ (eR _) rfl
      ·
       have hd6 : xs 6 = .slice (some ⟨b, off, none⟩) l.length dc := (HD.out 6 (dk (by kernel_rfl)))
       generalize xs 6 = x6 at hd6 HQ ⊢; subst hd6
       have hd7 : xs 7 = .int .i64 k := (HD.out 7 (dk (by kernel_rfl)))
       generalize xs 7 = x7 at hd7 HQ ⊢; subst hd7
       go_wp2
       exact HQ.out _ _ (eR _) rfl
      ·
       have hd8 : xs 8 = .pointer (some ⟨b, off + k * 3, none⟩) := (HD.out 8 (dk (by kernel_rfl)))
       generalize xs 8 = x8 at hd8 HQ ⊢; subst hd8
       go_wp2
       exact HQ.out _ _ (eR _) rfl
      ·
       have hd9 : xs 9 = .pointer (some ⟨b, off + k * 3 + 2, none⟩) := (HD.out 9 (dk (by kernel_rfl)))
       generalize xs 9 = x9 at hd9 HQ ⊢; subst hd9
       have hc : W.cell? ⟨b, off+k*3+2, none⟩ = some (.int .u16 til) := (HW.out.cell (p := ⟨b, off+k*3+2, none⟩) (by show b < _; omega)).trans c2
       go_wp2
       exact HQ.out _ _ (eR _) rfl
      ·
       have hd10 : xs 10 = .int .u16 til := (HD.out 10 (dk (by kernel_rfl)))
       generalize xs 10 = x10 at hd10 HQ ⊢; subst hd10
       go_wp2
       exact HQ.out _ _ (eR _) rfl
      ·
       have hd2 : xs 2 = .int .i64 k := (HD.out 2 (dk (by kernel_rfl)))
       generalize xs 2 = x2 at hd2 HQ ⊢; subst hd2
       have hd5 : xs 5 = .int .i64 (n - 1) := (HD.out 5 (dk (by kernel_rfl)))
       generalize xs 5 = x5 at hd5 HQ ⊢; subst hd5
       have hd11 : xs 11 = .int .i64 til := (HD.out 11 (dk (by kernel_rfl)))
       generalize xs 11 = x11 at hd11 HQ ⊢; subst hd11
       go_wp2
       exact HQ.out _ _ (eR _) rfl
      ·
       have hd1 : xs 1 = .agg (kyC (theKey 1)) := (HD.out 1 (dk (by kernel_rfl)))
       generalize xs 1 = x1 at hd1 HQ ⊢; subst hd1
       have hd12 : xs 12 = .agg (leC ⟨(k : Int), n - 1, til, 0, zeros32 16⟩) := (HD.out 12 (dk (by kernel_rfl)))
       generalize xs 12 = x12 at hd12 HQ ⊢; subst hd12
       go_wp2_with (go_at_call 55; refine (HSl'.out _ (HX7.out.trans HW.out)).mono ?_; rintro e w1 ⟨rfl, hx⟩)
       exact HQ.out _ _ hx rfl
      ·
       have hd13 : xs 13 = .agg (leC lx) := (HD.out 13 (dk (by kernel_rfl)))
       generalize xs 13 = x13 at hd13 HQ ⊢; subst hd13
       go_wp2
       exact HQ.out _ _ ((eR _).alloc _) ⟨_, rfl, reads_fresh leE [lx] W _ _ (by kernel_rfl)⟩
      intro xs W8 hW hS
      have h0 : xs 0 = .slice LsA ll.length lsc := hS 0 (by omega)
      have h14 : (read1 20 leL lx).S (xs 14) W8 := hS 14 (by omega)
      simp only [fillAt, dstOf, lc0, lcs, obs, Act.put, lsa, lsz, lss, nz, Nat.reduceAdd, List.drop_succ_cons, List.drop_zero, List.drop_nil]
      generalize xs 0 = x0 at *; subst h0
      have HW8 := lh (HX7.out.trans hW)
      have HWW8 := lh hW
      clear hS hW qE_0
      obtain ⟨bl, h14, hr14⟩ := h14
      generalize xs 14 = x14 at *
      subst h14
      have HR14 := lh hr14
      have hs8 := HWW8.out.size
      clear hr14 hfl hfl0 HSl' d1
      go_upto_region 17 with (at_builtin; refine app_reads leT leE rfl _ _ rfl (B+1+1+1+1) _ _ ll rfl (HOL7.out.ext (by (with_reducible repeat first|exact HWW8.out|exact eR _|apply eD|apply eN|apply eA|apply eO|apply eS|apply eC);all_goals first|omega|simp <;> omega)) W8.heap.size _ _ [lx] rfl HR14.out (fun h => by cases h) (by simp; omega) (by simp; omega) (by omega) ?_; intro LA5 lc5 ll5 w5 HLL HO5 hB5 hll1 hll2 hg5; have HO5' := lh HO5; have HB5 := lh hB5; have HG5 := lh hg5; clear HO5 hB5 hg5)
      refine wp_world (fun W => Ext w W ∧ OwnsCf (B+1+1+1+1) W CA4 cc4 cl4 ∧ OwnsLe (B+1+1+1+1) W LA5 lc5 ll5 ∧ OwnsGr (B+1+1+1+1) W GA gc gl ∧ RowAt W B (epC (tEp n)) ∧ RowAt W (B+1) #[.int .i64 p0, .int .i64 p1] ∧ RowAt W (B+1+1) (rpC noRp) ∧ RowAt W (B+1+1+1) (gsC (tGs n GA gc gl)) ∧ RowAt W g8 (grC (⟨(k : Int), n, til⟩ : Gr))) ⟨?_, ?_, HO5'.out, ?_, ?_, ?_, ?_, ?_, ?_⟩ ?_
      ·exact (show Ext w _ from HW8.out).grown HB5.out (by omega)
      ·exact Owns.apart (HOC7.out.ext (by (with_reducible repeat first|exact HWW8.out|exact eR _|apply eD|apply eN|apply eA|apply eO|apply eS|apply eC);all_goals first|omega|simp <;> omega)) (HOL7.out.ext (by (with_reducible repeat first|exact HWW8.out|exact eR _|apply eD|apply eN|apply eA|apply eO|apply eS|apply eC);all_goals first|omega|simp <;> omega)) (by decide) HG5.out
      ·exact Owns.apart (HOG7.out.ext (by (with_reducible repeat first|exact HWW8.out|exact eR _|apply eD|apply eN|apply eA|apply eO|apply eS|apply eC);all_goals first|omega|simp <;> omega)) (HOL7.out.ext (by (with_reducible repeat first|exact HWW8.out|exact eR _|apply eD|apply eN|apply eA|apply eO|apply eS|apply eC);all_goals first|omega|simp <;> omega)) (by decide) HG5.out
      ·exact RowAt.below (HRE7.out.ext (by (with_reducible repeat first|exact HWW8.out|exact eR _|apply eD|apply eN|apply eA|apply eO|apply eS|apply eC);all_goals first|omega|simp <;> omega)) HB5.out (by omega)
      ·exact RowAt.below (HRP7.out.ext (by (with_reducible repeat first|exact HWW8.out|exact eR _|apply eD|apply eN|apply eA|apply eO|apply eS|apply eC);all_goals first|omega|simp <;> omega)) HB5.out (by omega)
      ·exact RowAt.below (HRR7.out.ext (by (with_reducible repeat first|exact HWW8.out|exact eR _|apply eD|apply eN|apply eA|apply eO|apply eS|apply eC);all_goals first|omega|simp <;> omega)) HB5.out (by omega)
      ·exact RowAt.below (HRG7.out.ext (by (with_reducible repeat first|exact HWW8.out|exact eR _|apply eD|apply eN|apply eA|apply eO|apply eS|apply eC);all_goals first|omega|simp <;> omega)) HB5.out (by omega)
      ·exact RowAt.grown (HU8.out.ext (by (with_reducible repeat first|exact HWW8.out|exact eR _|apply eD|apply eN|apply eA|apply eO|apply eS|apply eC);all_goals first|omega|simp <;> omega)) HG5.out (fun e => by have := own_lt HLt8.out _ e; omega)
      rintro W9 ⟨x9, o1, o2, o3, r1, r2, r3, r4, u8⟩
      have hl8 := u8.lt
      have HX9 := lh x9
      have hs9 := x9.size
      have hll9 : ll5.length ≤ k + 1 := by simp only [List.length_singleton] at hll1 hll2; omega
      have HL9 : Hid (ll5 = les n l (k + 1)) := lh (by rw [HLL.out, HLl.out, HLy1.out])
      have HOC9 := lh o1
      have HOL9 := lh o2
      have HOG9 := lh o3
      have HRE9 := lh r1
      have HRP9 := lh r2
      have HRR9 := lh r3
      have HRG9 := lh r4
      have kX : rowOf W9 g8 0 3 = some (grC (⟨(k : Int), n, til⟩ : Gr)) := u8.all rfl (by omega)
      clear x9 o1 o2 o3 r1 r2 r3 r4 u8 HLL HLl HLy1 HW8 HWW8 HR14 HO5' HB5 HG5 HOC7 HOL7 HOG7 HRE7 HRP7 HRR7 HRG7 HU8 HX7 c2
      have qG_2 : W9.cell? ⟨B+1+1+1, 2, none⟩ = some (.slice GA gl.length gc) := (HRG9.out.cell 2).trans (gs_q2 n GA gc gl)
      have hlG9 := HRG9.out.lt
      go_wp2_with (at_builtin; refine app_from grT grE rfl _ _ rfl (B+1+1+1+1) _ _ gl rfl (HOG9.out.ext (by (with_reducible repeat first|exact eR _|apply eD|apply eN|apply eA|apply eO|apply eS|apply eC);all_goals first|omega|simp <;> omega)) _ 1 _ [(⟨(k : Int), n, til⟩ : Gr)] rfl rfl (new_listAt rfl [(⟨(k : Int), n, til⟩ : Gr)] _ _ (by kernel_rfl)) (by omega) (by omega) (by simp; omega) ?_; intro GA6 gc6 gl6 w6 HGL HO6 hB6 hgl1 hgl2 hg6; have HO6' := lh HO6; have HB6 := lh hB6; have HG6 := lh hg6; have HRG6 := lh (RowAt.below (HRG9.out.ext (by (with_reducible repeat first|exact eR _|apply eD|apply eN|apply eA|apply eO|apply eS|apply eC);all_goals first|omega|simp <;> omega)) hB6 (by omega)); have q6 := (HRG6.out.cell 2).trans (gs_q2 n GA gc gl); have f6 := HRG6.out.free 2; have l6 := HRG6.out.lt; clear HO6 hB6 hg6)
      go_roundw
      case rel =>
       refine ⟨CA4, cc4, cl4, LA5, lc5, ll5, GA6, gc6, gl6, k + 1, rfl, rfl, by go_num, by omega, by omega, by omega, by omega, HC1, HL9, lh (by rw [HGL.out, HGl.out, HG1.out]), lh (Owns.other ?_ (by show B+1+1+1 < _; omega) _), lh (Owns.other ?_ (by show B+1+1+1 < _; omega) _), lh (Owns.other HO6'.out (by show B+1+1+1 < _; omega) _), lh (RowAt.other ?_ (by show B ≠ B+1+1+1; omega) _), lh (RowAt.other ?_ (by show B+1 ≠ B+1+1+1; omega) _), lh (RowAt.other ?_ (by show B+1+1 ≠ B+1+1+1; omega) _), lh ?_, lh ?_⟩
       ·exact Owns.apart (HOC9.out.ext (by (with_reducible repeat first|exact eR _|apply eD|apply eN|apply eA|apply eO|apply eS|apply eC);all_goals first|omega|simp <;> omega)) (HOG9.out.ext (by (with_reducible repeat first|exact eR _|apply eD|apply eN|apply eA|apply eO|apply eS|apply eC);all_goals first|omega|simp <;> omega)) (by decide) HG6.out
       ·exact Owns.apart (HOL9.out.ext (by (with_reducible repeat first|exact eR _|apply eD|apply eN|apply eA|apply eO|apply eS|apply eC);all_goals first|omega|simp <;> omega)) (HOG9.out.ext (by (with_reducible repeat first|exact eR _|apply eD|apply eN|apply eA|apply eO|apply eS|apply eC);all_goals first|omega|simp <;> omega)) (by decide) HG6.out
       ·exact RowAt.below (HRE9.out.ext (by (with_reducible repeat first|exact eR _|apply eD|apply eN|apply eA|apply eO|apply eS|apply eC);all_goals first|omega|simp <;> omega)) HB6.out (by omega)
       ·exact RowAt.below (HRP9.out.ext (by (with_reducible repeat first|exact eR _|apply eD|apply eN|apply eA|apply eO|apply eS|apply eC);all_goals first|omega|simp <;> omega)) HB6.out (by omega)
       ·exact RowAt.below (HRR9.out.ext (by (with_reducible repeat first|exact eR _|apply eD|apply eN|apply eA|apply eO|apply eS|apply eC);all_goals first|omega|simp <;> omega)) HB6.out (by omega)
       ·have hst := HRG6.out.set 2 (.slice GA6 gl6.length gc6)
        rw [gs_set2] at hst
        exact hst
       ·exact Ext.setCell ((show Ext w _ from (by (with_reducible repeat first|exact HX9.out|exact eR _|apply eD|apply eN|apply eA|apply eO|apply eS|apply eC);all_goals first|omega|simp <;> omega)).grown HB6.out (by omega)) (by show _ ≤ B+1+1+1; omega) _
      case measure => simp [intOf]; omega
     ·have HL9 := lh (HLl.out.trans (HLn.out (by simp; omega)).symm)
      have d1 : decide ((0 : Int) < til) = false := by simpa using hu
      clear HLn HLy hu HSl' HLl
      go_upto_region 17 with (fail)
      have HX9 := HX7
      have hs9 := hs7
      have hll9 : ll.length ≤ k + 1 := by omega
      have HOC9 := HOC7
      have HOL9 := HOL7
      have HOG9 := HOG7
      have HRE9 := HRE7
      have HRP9 := HRP7
      have HRR9 := HRR7
      have HRG9 := HRG7
      have kX : rowOf W7 g8 0 3 = some (grC (⟨(k : Int), n, til⟩ : Gr)) := HU8.out.all rfl (by omega)
      clear HOC7 HOL7 HOG7 HRE7 HRP7 HRR7 HRG7 HU8 HX7 c2 d1
      have qG_2 : W7.cell? ⟨B+1+1+1, 2, none⟩ = some (.slice GA gl.length gc) := (HRG9.out.cell 2).trans (gs_q2 n GA gc gl)
      have hlG9 := HRG9.out.lt
      go_wp2_with (at_builtin; refine app_from grT grE rfl _ _ rfl (B+1+1+1+1) _ _ gl rfl (HOG9.out.ext (by (with_reducible repeat first|exact eR _|apply eD|apply eN|apply eA|apply eO|apply eS|apply eC);all_goals first|omega|simp <;> omega)) _ 1 _ [(⟨(k : Int), n, til⟩ : Gr)] rfl rfl (new_listAt rfl [(⟨(k : Int), n, til⟩ : Gr)] _ _ (by kernel_rfl)) (by omega) (by omega) (by simp; omega) ?_; intro GA6 gc6 gl6 w6 HGL HO6 hB6 hgl1 hgl2 hg6; have HO6' := lh HO6; have HB6 := lh hB6; have HG6 := lh hg6; have HRG6 := lh (RowAt.below (HRG9.out.ext (by (with_reducible repeat first|exact eR _|apply eD|apply eN|apply eA|apply eO|apply eS|apply eC);all_goals first|omega|simp <;> omega)) hB6 (by omega)); have q6 := (HRG6.out.cell 2).trans (gs_q2 n GA gc gl); have f6 := HRG6.out.free 2; have l6 := HRG6.out.lt; clear HO6 hB6 hg6)
      go_roundw
      case rel =>
       refine ⟨CA4, cc4, cl4, LsA, lsc, ll, GA6, gc6, gl6, k + 1, rfl, rfl, by go_num, by omega, by omega, by omega, by omega, HC1, HL9, lh (by rw [HGL.out, HGl.out, HG1.out]), lh (Owns.other ?_ (by show B+1+1+1 < _; omega) _), lh (Owns.other ?_ (by show B+1+1+1 < _; omega) _), lh (Owns.other HO6'.out (by show B+1+1+1 < _; omega) _), lh (RowAt.other ?_ (by show B ≠ B+1+1+1; omega) _), lh (RowAt.other ?_ (by show B+1 ≠ B+1+1+1; omega) _), lh (RowAt.other ?_ (by show B+1+1 ≠ B+1+1+1; omega) _), lh ?_, lh ?_⟩
       ·exact Owns.apart (HOC9.out.ext (by (with_reducible repeat first|exact eR _|apply eD|apply eN|apply eA|apply eO|apply eS|apply eC);all_goals first|omega|simp <;> omega)) (HOG9.out.ext (by (with_reducible repeat first|exact eR _|apply eD|apply eN|apply eA|apply eO|apply eS|apply eC);all_goals first|omega|simp <;> omega)) (by decide) HG6.out
       ·exact Owns.apart (HOL9.out.ext (by (with_reducible repeat first|exact eR _|apply eD|apply eN|apply eA|apply eO|apply eS|apply eC);all_goals first|omega|simp <;> omega)) (HOG9.out.ext (by (with_reducible repeat first|exact eR _|apply eD|apply eN|apply eA|apply eO|apply eS|apply eC);all_goals first|omega|simp <;> omega)) (by decide) HG6.out
       ·exact RowAt.below (HRE9.out.ext (by (with_reducible repeat first|exact eR _|apply eD|apply eN|apply eA|apply eO|apply eS|apply eC);all_goals first|omega|simp <;> omega)) HB6.out (by omega)
       ·exact RowAt.below (HRP9.out.ext (by (with_reducible repeat first|exact eR _|apply eD|apply eN|apply eA|apply eO|apply eS|apply eC);all_goals first|omega|simp <;> omega)) HB6.out (by omega)
       ·exact RowAt.below (HRR9.out.ext (by (with_reducible repeat first|exact eR _|apply eD|apply eN|apply eA|apply eO|apply eS|apply eC);all_goals first|omega|simp <;> omega)) HB6.out (by omega)
       ·have hst := HRG6.out.set 2 (.slice GA6 gl6.length gc6)
        rw [gs_set2] at hst
        exact hst
       ·exact Ext.setCell ((show Ext w _ from (by (with_reducible repeat first|exact HX9.out|exact eR _|apply eD|apply eN|apply eA|apply eO|apply eS|apply eC);all_goals first|omega|simp <;> omega)).grown HB6.out (by omega)) (by show _ ≤ B+1+1+1; omega) _
      case measure => simp [intOf]; omega
  ·have e1 : k = l.length := by omega
   subst e1
   have HMk' := lh (fun W hx r1 r2 r3 => HMk.out GA gc CA cc LsA lsc gl cl ll W HGl HCl HLl hx r1 r2 r3)
   have HRG1 := HRG
   have kG : rowOf wr (B+1+1+1) 0 3 = some (gsC (tGs n GA gc gl)) := HRG.out.all rfl (by omega)
   clear HMk HGl HCl HLl HD HLo HHi HSl HCf qE_0
   go_upto_region 18 with (fail)
   refine wp_region_softR 7 (softsL [.eq (.agg (kyC (theKey 1))), .eq (.agg (gsC (tGs n GA gc gl))), .eq (.agg (epC (tEp n))), .eq (.slice CA cl.length cc), .eq (.slice LsA ll.length lsc), .eq (.agg #[.int .i64 p0, .int .i64 p1]), toldS wr.heap.size (tEp n) ⟨p0, p1⟩ l]) (by kernel_rfl) (by kernel_rfl) (lt_cons ?_ (lt_cons ?_ (lt_cons ?_ (lt_cons ?_ (lt_cons ?_ (lt_cons ?_ (lt_cons ?_ lt_none))))))) ?_
   ·
    refine sop rfl fun xs W HW hsW HD Q' HQ => ?_; simp only [fillAt, dstOf, lc0, lcs, obs, Act.put, lsa, lsz, lss, nz, Nat.reduceAdd] at HQ ⊢
    go_wp2_with (go_at_call 32; refine (HKy.out 1 _).mono ?_; rintro e w1 ⟨rfl, hx⟩)
    exact HQ.out _ _ hx rfl
   ·
    refine sop rfl fun xs W HW hsW HD Q' HQ => ?_; simp only [fillAt, dstOf, lc0, lcs, obs, Act.put, lsa, lsz, lss, nz, Nat.reduceAdd] at HQ ⊢
    have hc := (row_extW HW.out (b := B+1+1+1) (by omega) 0 3).trans kG
    go_wp2
    exact HQ.out _ _ (eR _) rfl
   ·
    refine sop rfl fun xs W HW hsW HD Q' HQ => ?_; simp only [fillAt, dstOf, lc0, lcs, obs, Act.put, lsa, lsz, lss, nz, Nat.reduceAdd] at HQ ⊢
    have hc := (row_extW HW.out (b := B) (by omega) 0 38).trans kE
    go_wp2
    exact HQ.out _ _ (eR _) rfl
   ·
    refine sop rfl fun xs W HW hsW HD Q' HQ => ?_; simp only [fillAt, dstOf, lc0, lcs, obs, Act.put, lsa, lsz, lss, nz, Nat.reduceAdd] at HQ ⊢
    go_wp2
    exact HQ.out _ _ (eR _) rfl
   ·
    refine sop rfl fun xs W HW hsW HD Q' HQ => ?_; simp only [fillAt, dstOf, lc0, lcs, obs, Act.put, lsa, lsz, lss, nz, Nat.reduceAdd] at HQ ⊢
    go_wp2
    exact HQ.out _ _ (eR _) rfl
   ·
    refine sop rfl fun xs W HW hsW HD Q' HQ => ?_; simp only [fillAt, dstOf, lc0, lcs, obs, Act.put, lsa, lsz, lss, nz, Nat.reduceAdd] at HQ ⊢
    have hc := (HW.out.cell (p := ⟨B+1, 0, none⟩) (by show B+1 < _; omega)).trans qP_0
    have hc2 := (HW.out.cell (p := ⟨B+1, 1, none⟩) (by show B+1 < _; omega)).trans qP_1
    go_wp2
    exact HQ.out _ _ (eR _) rfl
   ·
    refine sop rfl fun xs W HW hsW HD Q' HQ => ?_; simp only [fillAt, dstOf, lc0, lcs, obs, Act.put, lsa, lsz, lss, nz, Nat.reduceAdd] at HQ ⊢
    have hd0 : xs 0 = .agg (kyC (theKey 1)) := (HD.out 0 (dk (by kernel_rfl)))
    generalize xs 0 = x0 at hd0 HQ ⊢; subst hd0
    have hd1 : xs 1 = .agg (gsC (tGs n GA gc gl)) := (HD.out 1 (dk (by kernel_rfl)))
    generalize xs 1 = x1 at hd1 HQ ⊢; subst hd1
    have hd2 : xs 2 = .agg (epC (tEp n)) := (HD.out 2 (dk (by kernel_rfl)))
    generalize xs 2 = x2 at hd2 HQ ⊢; subst hd2
    have hd3 : xs 3 = .slice CA cl.length cc := (HD.out 3 (dk (by kernel_rfl)))
    generalize xs 3 = x3 at hd3 HQ ⊢; subst hd3
    have hd4 : xs 4 = .slice LsA ll.length lsc := (HD.out 4 (dk (by kernel_rfl)))
    generalize xs 4 = x4 at hd4 HQ ⊢; subst hd4
    have hd5 : xs 5 = .agg #[.int .i64 p0, .int .i64 p1] := (HD.out 5 (dk (by kernel_rfl)))
    generalize xs 5 = x5 at hd5 HQ ⊢; subst hd5
    go_wp2_with (go_at_call 22; refine (HMk'.out _ (HX.out.trans HW.out) ((HOG.out.ext HW.out).reads grE) ((HOC.out.ext HW.out).reads cfE) ((HOL.out.ext HW.out).reads leE)).mono ?_; rintro e w1 ⟨⟨LA, lc, rfl, ho⟩, hx⟩)
    exact HQ.out _ _ hx ⟨LA, lc, rfl, ho.lower hsW⟩
   intro xs W8 hW hS
   obtain ⟨LA, lc, h6, ho6⟩ : (toldS wr.heap.size (tEp n) ⟨p0, p1⟩ l).S (xs 6) W8 := hS 6 (by omega)
   simp only [fillAt, dstOf, lc0, lcs, obs, Act.put, lsa, lsz, lss, nz, Nat.reduceAdd]
   generalize xs 6 = y6 at h6 ⊢
   subst h6
   have HX8 := lh hW
   have HO6 := lh ho6
   have hs8 := hW.size
   have room : roomOf W8 (B+1+1) 0 37 = true := by rw [(HRR.out.ext hW).room]; rfl
   have hfT := hfR LA lc
   clear hW hS ho6 kG kE qP_0 qP_1 HMk' hfR
   refine wpAny_putTail4 rp_ty (i1 := 7) (i2 := 8) (i3 := 9) (i4 := 10) (v4 := .int .i64 0) rfl rfl rfl rfl (by kernel_rfl) (by kernel_rfl) (by kernel_rfl) (by kernel_rfl) (by kernel_rfl) (by kernel_rfl) (by kernel_rfl) (by kernel_rfl) (by kernel_rfl) (fun _ _ _ _ _ h => h) rfl rfl (fun _ => run_assign _ _ rfl) rfl rfl room hfT ?_
   simp only [fillAt, dstOf, lc0, lcs, obs, Act.put, lsa, lsz, lss, nz, Nat.reduceAdd]
   go_wp2
   refine post_two (v1 := .agg (rpC (tR (tEp n) ⟨p0, p1⟩ l LA lc))) (v2 := .int .i64 0) Tryz.results27 rfl ⟨_, rfl, rp_loaded (((HRR.out.ext HX8.out).store (ds := rpC (tR (tEp n) ⟨p0, p1⟩ l LA lc)) rfl).all rfl (by omega))⟩ rfl ⟨⟨LA, lc, rfl, ?_⟩, Ext.setCells (HX.out.trans HX8.out) (by omega) _ _⟩
   exact (HO6.out.others (by omega) _ _).lower (by omega)
theorem tLn_ok {n : Int} {p : Clk} {l : List Dd} {i : Nat} (h : DdsOk l) (h0 : 1 ≤ n) (h1 : n ≤ 65536) (hn : okClk p = true) (hi : i < 10) : LnOk (tLn (tEp n) p l i) := by
 unfold tLn
 split
 ·refine ⟨tCf_ok h0 h1 hn hi, noLe_ok, ?_⟩
  intro y hy
  simp only [List.mem_cons, List.not_mem_nil, or_false] at hy
  unfold i64
  rcases hy with rfl | rfl <;> omega
 ·refine ⟨noCf_ok, ?_, ?_⟩
  ·show LeOk (if 0 < (ddAt l i).until_ then tLe n l i else noLe)
   split
   ·exact tLe_ok h h0 h1 hi
   ·exact noLe_ok
  ·intro y hy
   simp only [List.mem_cons, List.not_mem_nil, or_false] at hy
   unfold i64
   rcases hy with rfl | rfl
   ·omega
   ·split <;> omega
theorem tR_ok {n : Int} {p : Clk} {l : List Dd} (h : DdsOk l) (h0 : 1 ≤ n) (h1 : n ≤ 65536) (hn : okClk p = true) (LA : Option Addr) (lc : Nat) : RpOk (tR (tEp n) p l LA lc) := by
 have hl := okClk_lims hn
 refine ⟨⟨epName_len _, epName_byt _⟩, ⟨makeN_len _ _ _, makeN_byt _ _ _⟩, ?_, ?_⟩
 ·intro x hx
  obtain ⟨i, hi, rfl⟩ := List.mem_map.1 hx
  exact tLn_ok h h0 h1 hn (by have := (mem_idx.1 hi).1; have := h.len; omega)
 ·intro y hy
  change y ∈ [n, p.lo, p.hi, (1 : Int)] at hy
  simp only [List.mem_cons, List.not_mem_nil, or_false] at hy
  unfold i64
  rcases hy with rfl | rfl | rfl | rfl <;> omega
theorem tLns_len (e : Ep) (p : Clk) (l : List Dd) : (tLns e p l).length ≤ l.length := by simpa [tLns] using idx_len l l.length
theorem ddsOk_of {l : List Dd} (h10 : l.length ≤ 10) (h : ∀ s ∈ l, 0 ≤ s.until_ ∧ s.until_ ≤ 65535) : DdsOk l := by
 have h2 : ∀ i, 0 ≤ (ddAt l i).until_ ∧ (ddAt l i).until_ ≤ 65535 := fun i => by
  by_cases hi : i < l.length
  ·rw [ddAt_get hi]; exact h _ (List.getElem_mem hi)
  ·unfold ddAt
   rw [List.getD_eq_getElem?_getD, List.getElem?_eq_none (by omega)]
   show 0 ≤ (0 : Int) ∧ (0 : Int) ≤ 65535
   omega
 exact ⟨h10, fun i => (h2 i).1, fun i => (h2 i).2⟩
end Go.Proofs.YtpfhmcdcmepfdaaGreatDoor