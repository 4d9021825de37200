
import Derived.WalkKit
import Derived.WalkSpells
import Derived.WalkLawsBesides
import Derived.Deep.QuietTactic
import Derived.BigQuiet
import Derived.Test.YtpfhmcdcmepfdaaGreatDoorQOd
import Derived.Test.YtpfhmcdcmepfdaaGreatDoorQKj
set_option linter.unusedVariables false
set_option linter.unusedSimpArgs false
namespace Go.Proofs.YtpfhmcdcmepfdaaGreatDoor
open Go.RowKit Go.Shelf
open Go.Proofs
theorem best_uniq {α : Type} {z : α} {p : α → Bool} {q : α → α → Bool} {x : α} (hp : p x = true) (hq : q x x = false) : ∀ {L : List α}, x ∈ L → (∀ y ∈ L, p y = true → y = x) → bestS z p q L = (x, true) := by
 have h1 : ∀ L : List α, (∀ y ∈ L, p y = true → y = x) → L.foldl (fun o x => if p x && (!o.2 || q x o.1) then (x, true) else o) (x, true) = (x, true) := by
  intro L
  induction L with
  | nil => intro _; rfl
  | cons y t ih =>
   intro h
   rw [List.foldl_cons]
   have hy := h y (by simp)
   cases hpy : p y with
   | false => simpa [hpy] using ih (fun u hu => h u (by simp [hu]))
   | true =>
    have := hy hpy
    subst this
    simpa [hpy, hq] using ih (fun u hu => h u (by simp [hu]))
 intro L
 unfold bestS
 induction L with
 | nil => intro h; simp at h
 | cons y t ih =>
  intro h hu
  rw [List.foldl_cons]
  cases hpy : p y with
  | false =>
   have hne : x ≠ y := by intro e; subst e; rw [hp] at hpy; cases hpy
   have hm : x ∈ t := by
    rcases List.mem_cons.1 h with e | e
    ·exact absurd e hne
    ·exact e
   simpa [hpy] using ih hm (fun u hu' => hu u (by simp [hu']))
  | true =>
   have := hu y (by simp) hpy
   subst this
   simpa [hpy] using h1 t (fun u hu' => hu u (by simp [hu']))
theorem best_nohit {α : Type} {z : α} {p : α → Bool} {q : α → α → Bool} : ∀ {L : List α}, (∀ y ∈ L, p y = false) → bestS z p q L = (z, false) := by
 intro L
 unfold bestS
 induction L with
 | nil => intro _; rfl
 | cons y t ih =>
  intro h
  rw [List.foldl_cons]
  simpa [h y (by simp)] using ih (fun u hu => h u (by simp [hu]))
def ddAt (l : List Dd) (k : Nat) : Dd := l.getD k noDd
def idx (l : List Dd) (k : Nat) : List Nat := (List.range k).filter fun i => (ddAt l i).is
def idC (l : List Dd) (k : Nat) : List Nat := (List.range k).filter fun i => (ddAt l i).is && (ddAt l i).conf
def idL (l : List Dd) (k : Nat) : List Nat := (List.range k).filter fun i => (ddAt l i).is && decide (0 < (ddAt l i).until_)
theorem mem_idx {l : List Dd} {k i : Nat} : i ∈ idx l k ↔ i < k ∧ (ddAt l i).is = true := by simp [idx]
theorem mem_idC {l : List Dd} {k i : Nat} : i ∈ idC l k ↔ i < k ∧ (ddAt l i).is = true ∧ (ddAt l i).conf = true := by simp [idC]
theorem mem_idL {l : List Dd} {k i : Nat} : i ∈ idL l k ↔ i < k ∧ (ddAt l i).is = true ∧ 0 < (ddAt l i).until_ := by simp [idL]
def tGr (num : Int) (l : List Dd) (i : Nat) : Gr := ⟨(i : Int), if (ddAt l i).conf then num else 0, (ddAt l i).until_⟩
noncomputable def tCf (e : Ep) (now : Clk) (i : Nat) : Cf := cfSeal (theKey (1000 + (i : Int))) (cfOf (theKey (1000 + (i : Int))) i e now)
def tLe0 (num : Int) (l : List Dd) (i : Nat) : Le := ⟨(i : Int), num - 1, (ddAt l i).until_, 0, zeros32 16⟩
noncomputable def tLe (num : Int) (l : List Dd) (i : Nat) : Le := sealedLe (theKey 1) (tLe0 num l i)
def grs (num : Int) (l : List Dd) (k : Nat) : List Gr := (idx l k).map (tGr num l)
noncomputable def cfs (e : Ep) (now : Clk) (l : List Dd) (k : Nat) : List Cf := (idC l k).map (tCf e now)
noncomputable def les (num : Int) (l : List Dd) (k : Nat) : List Le := (idL l k).map (tLe num l)
noncomputable def tLn (e : Ep) (now : Clk) (l : List Dd) (i : Nat) : Ln :=
 if (ddAt l i).conf then ⟨(i : Int), 1, tCf e now i, noLe⟩ else ⟨(i : Int), if (ddAt l i).until_ ≤ now.lo then 2 else 3, noCf, if 0 < (ddAt l i).until_ then tLe e.num l i else noLe⟩
def tEp (num : Int) : Ep := ⟨num, zeros32 16, 1, 2, none, 0, [], none, 0, [], 0, zeros32 16⟩
def tGs (num : Int) (GA : Option Addr) (gc : Nat) (l : List Gr) : Gs := ⟨num, 1000, GA, gc, l⟩
structure DdsOk (l : List Dd) : Prop where
 len : l.length ≤ 10
 lo : ∀ i, 0 ≤ (ddAt l i).until_
 hi : ∀ i, (ddAt l i).until_ ≤ 65535
theorem tEp_num {n : Int} (h0 : 1 ≤ n) (h1 : n ≤ 65536) : okEp (tEp n) = true := by
 have a : decide ((tEp n).num ≥ 1) = true := decide_eq_true (by show n ≥ 1; omega)
 have b : decide ((tEp n).num ≤ 1099511627776) = true := decide_eq_true (by show n ≤ _; omega)
 unfold okEp
 rw [a, b]
 rfl
theorem tEp_ok {n : Int} (h0 : 1 ≤ n) (h1 : n ≤ 65536) : EpOk (tEp n) := ⟨zeros_ok, zeros_ok, by intro d h; simp [tEp] at h, by
 intro x hx
 simp only [tEp, List.mem_cons, List.not_mem_nil, or_false] at hx
 unfold i64
 rcases hx with rfl | rfl | rfl | rfl <;> omega, by intro p h; simp [tEp] at h, by simp [tEp], by simp [tEp], by simp [tEp], by simp [tEp], fun _ => rfl, fun _ => rfl⟩
theorem tEp_short (n : Int) : EpShort (tEp n) := ⟨by simp [tEp], by simp [tEp], by intro p h; simp [tEp] at h⟩
theorem tEp_at (n : Int) (w : World) : EpAt w (tEp n) := ⟨Reads.nil _ _ _ _ _, Reads.nil _ _ _ _ _⟩
theorem idx_asc (l : List Dd) (k : Nat) : (idx l k).Pairwise (· < ·) := List.Pairwise.filter _ List.pairwise_lt_range
theorem idx_len (l : List Dd) (k : Nat) : (idx l k).length ≤ k := by
 have := List.length_filter_le (fun i => (ddAt l i).is) (List.range k)
 simpa [idx] using this
theorem grs_len (n : Int) (l : List Dd) (k : Nat) : (grs n l k).length ≤ k := by simpa [grs] using idx_len l k
theorem grs_get {n : Int} {l : List Dd} {k i : Nat} (h : i < (grs n l k).length) : ∃ h' : i < (idx l k).length, (grs n l k)[i] = tGr n l ((idx l k)[i]) := ⟨by simpa [grs] using h, by simp [grs]⟩
theorem tGs_ok {n : Int} {GA : Option Addr} {gc : Nat} {l : List Dd} (h : DdsOk l) (h0 : 1 ≤ n) (h1 : n ≤ 65536) : okGs (tGs n GA gc (grs n l l.length)) = true := by
 have a : decide (0 ≤ (tGs n GA gc (grs n l l.length)).latest) = true := decide_eq_true (by show 0 ≤ n; omega)
 have b : decide ((tGs n GA gc (grs n l l.length)).latest ≤ 1099511627776) = true := decide_eq_true (by show n ≤ _; omega)
 unfold okGs
 rw [a, b]
 simp only [Bool.and_eq_true, decide_eq_true_eq, List.all_eq_true, List.mem_range]
 refine ⟨⟨⟨⟨trivial, trivial⟩, by show (1 : Int) ≤ 1000; decide⟩, by show (1000 : Int) ≤ 3600000; decide⟩, ?_⟩
 intro i hi
 change i < (grs n l l.length).length at hi
 show gAt (grs n l l.length) n i = true
 rw [gAt_is hi]
 obtain ⟨hi', e⟩ := grs_get hi
 have hm := mem_idx.1 (List.getElem_mem hi')
 have hlen := h.len
 have u0 := h.lo ((idx l l.length)[i])
 have u1 := h.hi ((idx l l.length)[i])
 rw [e]
 refine ⟨⟨?_, ?_, ?_, ?_, ?_, ?_⟩, ?_⟩
 ·show (0 : Int) ≤ ((idx l l.length)[i] : Nat); omega
 ·show (((idx l l.length)[i] : Nat) : Int) < 64; omega
 ·show 0 ≤ if (ddAt l _).conf then n else 0
  split <;> omega
 ·show (if (ddAt l _).conf then n else 0) ≤ n
  split <;> omega
 ·exact u0
 ·show (ddAt l _).until_ ≤ _; omega
 ·show lastG (grs n l l.length) i < ((idx l l.length)[i] : Nat)
  by_cases h0 : 0 < i
  ·rw [lastG_pos h0 hi]
   obtain ⟨hj', e'⟩ := grs_get (n := n) (l := l) (k := l.length) (i := i - 1) (by omega)
   rw [e']
   show (((idx l l.length)[i - 1] : Nat) : Int) < _
   have := (List.pairwise_iff_getElem.1 (idx_asc l l.length)) (i - 1) i hj' hi' (by omega)
   omega
  ·have : i = 0 := by omega
   subst this
   show (-1 : Int) < _
   omega
theorem tMake {n : Int} {GA : Option Addr} {gc : Nat} {l : List Dd} {now : Clk} (h : DdsOk l) (h0 : 1 ≤ n) (h1 : n ≤ 65536) (hn : okClk now = true) : makeB (theKey 1) (tGs n GA gc (grs n l l.length)) (tEp n) now = true := by
 have a : okKy (theKey 1) = true := by decide
 unfold makeB
 rw [a, tGs_ok h h0 h1, tEp_num h0 h1, hn, decide_eq_true (show (tEp n).num ≤ (tGs n GA gc (grs n l l.length)).latest from Int.le_refl _)]
 rfl
theorem lineN_t {e : Ep} {now : Clk} {l : List Dd} {k i : Nat} (h : DdsOk l) (hi : i ∈ idx l k) : lineN (tGr e.num l i) e.num (cfs e now l k) (les e.num l k) now.lo = tLn e now l i := by
 obtain ⟨hik, his⟩ := mem_idx.1 hi
 have hs : (tGr e.num l i).site = (i : Int) := rfl
 have hu : (tGr e.num l i).until_ = (ddAt l i).until_ := rfl
 unfold lineN tLn
 rw [hs, hu]
 cases hc : (ddAt l i).conf with
 | true =>
  have hb : bestS noCf (cfHit (i : Int) e.num) cfNone (cfs e now l k) = (tCf e now i, true) := by
   refine best_uniq (by simp [cfHit, tCf, cfSeal, cfOf]) rfl ?_ ?_
   ·exact List.mem_map_of_mem (mem_idC.2 ⟨hik, his, hc⟩)
   ·intro y hy hp
    obtain ⟨j, hj, rfl⟩ := List.mem_map.1 hy
    have : (j : Int) = i := by
     simp only [cfHit, Bool.and_eq_true, decide_eq_true_eq] at hp
     exact hp.1
    rw [show j = i by omega]
  rw [hb]
  rfl
 | false =>
  have hb : bestS noCf (cfHit (i : Int) e.num) cfNone (cfs e now l k) = (noCf, false) := by
   refine best_nohit ?_
   intro y hy
   obtain ⟨j, hj, rfl⟩ := List.mem_map.1 hy
   have hj' := mem_idC.1 hj
   have : j ≠ i := by intro e'; subst e'; rw [hc] at hj'; simp at hj'
   have h2 : ¬ ((j : Int) = i) := by omega
   simp [cfHit, tCf, cfSeal, cfOf, h2]
  rw [hb]
  simp only [Bool.false_eq_true, if_false]
  by_cases hp : 0 < (ddAt l i).until_
  ·have hb2 : bestS noLe (leHit (i : Int)) leMore (les e.num l k) = (tLe e.num l i, true) := by
    refine best_uniq (by simp [leHit, tLe, sealedLe, leOf, tLe0]) (by simp [leMore]) ?_ ?_
    ·exact List.mem_map_of_mem (mem_idL.2 ⟨hik, his, hp⟩)
    ·intro y hy hp
     obtain ⟨j, hj, rfl⟩ := List.mem_map.1 hy
     have : (j : Int) = i := by
      simp only [leHit, decide_eq_true_eq] at hp
      exact hp
     rw [show j = i by omega]
   rw [hb2, if_pos rfl, if_pos hp]
   rfl
  ·have hb2 : bestS noLe (leHit (i : Int)) leMore (les e.num l k) = (noLe, false) := by
    refine best_nohit ?_
    intro y hy
    obtain ⟨j, hj, rfl⟩ := List.mem_map.1 hy
    have hj' := mem_idL.1 hj
    have : j ≠ i := by intro e'; subst e'; omega
    have h2 : ¬ ((j : Int) = i) := by omega
    simp [leHit, tLe, sealedLe, leOf, tLe0, h2]
   rw [hb2, if_neg hp]
   rfl
noncomputable def tLns (e : Ep) (now : Clk) (l : List Dd) : List Ln := (idx l l.length).map (tLn e now l)
theorem mkLines_t {e : Ep} {now : Clk} {l : List Dd} {GA : Option Addr} {gc : Nat} (h : DdsOk l) : mkLines (tGs e.num GA gc (grs e.num l l.length)) e (cfs e now l l.length) (les e.num l l.length) now = tLns e now l := by
 unfold mkLines tLns
 show (grs e.num l l.length).map _ = _
 unfold grs
 rw [List.map_map]
 exact List.map_congr_left fun i hi => lineN_t h hi
noncomputable def tR (e : Ep) (now : Clk) (l : List Dd) (LA : Option Addr) (lc : Nat) : Rp := rpSeal (theKey 1) ⟨e.num, epName e, now.lo, now.hi, LA, lc, tLns e now l, 1, zeros32 16⟩
theorem mkR_t {n : Int} {now : Clk} {l : List Dd} {GA : Option Addr} {gc : Nat} (h : DdsOk l) (h0 : 1 ≤ n) (h1 : n ≤ 65536) (hn : okClk now = true) (LA : Option Addr) (lc : Nat) : mkR (theKey 1) (tGs n GA gc (grs n l l.length)) (tEp n) (cfs (tEp n) now l l.length) (les n l l.length) now LA lc = tR (tEp n) now l LA lc := by
 unfold mkR
 rw [if_pos (tMake h h0 h1 hn)]
 unfold rpOf tR
 rw [show mkLines (tGs n GA gc (grs n l l.length)) (tEp n) (cfs (tEp n) now l l.length) (les n l l.length) now = tLns (tEp n) now l from mkLines_t (e := tEp n) h]
 rfl
theorem mkE_t {n : Int} {now : Clk} {l : List Dd} {GA : Option Addr} {gc : Nat} (h : DdsOk l) (h0 : 1 ≤ n) (h1 : n ≤ 65536) (hn : okClk now = true) : mkE (theKey 1) (tGs n GA gc (grs n l l.length)) (tEp n) now = 0 := by
 unfold mkE
 rw [if_pos (tMake h h0 h1 hn)]
theorem siteKey {i : Nat} (h : i < 10) : keyF theKeys (1000 + (i : Int)) 1 = theKey (1000 + (i : Int)) ∧ keyE theKeys (1000 + (i : Int)) 1 = 0 := by
 match i, h with
 | 0, _ => exact ⟨by kernel_rfl, by kernel_rfl⟩
 | 1, _ => exact ⟨by kernel_rfl, by kernel_rfl⟩
 | 2, _ => exact ⟨by kernel_rfl, by kernel_rfl⟩
 | 3, _ => exact ⟨by kernel_rfl, by kernel_rfl⟩
 | 4, _ => exact ⟨by kernel_rfl, by kernel_rfl⟩
 | 5, _ => exact ⟨by kernel_rfl, by kernel_rfl⟩
 | 6, _ => exact ⟨by kernel_rfl, by kernel_rfl⟩
 | 7, _ => exact ⟨by kernel_rfl, by kernel_rfl⟩
 | 8, _ => exact ⟨by kernel_rfl, by kernel_rfl⟩
 | 9, _ => exact ⟨by kernel_rfl, by kernel_rfl⟩
 | n + 10, h => omega
theorem count_key (p lo hi : Int) (h0 : 0 ≤ lo) (h1 : lo ≤ hi) (h2 : hi < 1099511627776) : countB (theKey p) lo hi = true := by
 simp only [countB, Bool.and_eq_true, decide_eq_true_eq]
 exact ⟨⟨⟨⟨h0, h1⟩, by omega⟩, h0⟩, h2⟩
theorem checkCf_t {e : Ep} {now : Clk} {i : Nat} (hi : i < 10) (hn : okClk now = true) (hh : now.hi < 1099511627776) : checkCf theKeys (tCf e now i) = 0 := by
 obtain ⟨k1, k2⟩ := siteKey hi
 have hl := okClk_lims hn
 unfold checkCf
 rw [if_pos (siteB_is.2 ⟨by show (0 : Int) ≤ i; omega, by show (i : Int) < 64; omega⟩)]
 show checkR theKeys (1000 + (i : Int)) 1 320 (cfParts (cfOf (theKey (1000 + (i : Int))) i e now)) (makeN (theKey (1000 + (i : Int))) 320 (cfParts (cfOf (theKey (1000 + (i : Int))) i e now))) now.lo now.hi = 0
 unfold checkR checkOut
 rw [k1, k2, if_pos rfl, if_pos (count_key _ _ _ hl.1 hl.2.1 hh), if_pos rfl]
theorem checkLe_t {n : Int} {l : List Dd} {i : Nat} (h : DdsOk l) (hi : i < 10) (hp : 0 < (ddAt l i).until_) : checkLe theKeys (tLe n l i) = 0 := by
 have hu := h.hi i
 unfold checkLe
 rw [if_pos (siteB_is.2 ⟨by show (0 : Int) ≤ i; omega, by show (i : Int) < 64; omega⟩)]
 show checkR theKeys 1 1 43 (leParts (leOf (theKey 1) (tLe0 n l i))) (makeN (theKey 1) 43 (leParts (leOf (theKey 1) (tLe0 n l i)))) (leLo (tLe n l i)) (leHi (tLe n l i)) = 0
 have e1 : leLo (tLe n l i) = (ddAt l i).until_ - 1 := if_pos (by show 1 ≤ (ddAt l i).until_; omega)
 have e2 : leHi (tLe n l i) = (ddAt l i).until_ - 1 := if_pos (by show 1 ≤ (ddAt l i).until_; omega)
 rw [e1, e2]
 unfold checkR checkOut
 rw [exK1, exK1e, if_pos rfl, if_pos (count_key _ _ _ (by omega) (Int.le_refl _) (by omega)), if_pos rfl]
theorem tLns_get {e : Ep} {now : Clk} {l : List Dd} {k : Nat} (h : k < (tLns e now l).length) : ∃ h' : k < (idx l l.length).length, (tLns e now l)[k] = tLn e now l ((idx l l.length)[k]) := ⟨by simpa [tLns] using h, by simp [tLns]⟩
theorem tLn_site (e : Ep) (now : Clk) (l : List Dd) (i : Nat) : (tLn e now l i).site = (i : Int) := by
 unfold tLn
 split <;> rfl
theorem leEq_self (a : Le) : leEq a a = true := by simp [leEq]
theorem wrong_t {n : Int} {now : Clk} {l : List Dd} {i : Nat} (h : DdsOk l) (hi : i < 10) (hn : okClk now = true) (hh : now.hi < 1099511627776) :
  (if (tLn (tEp n) now l i).kind = 1 then wrongCf theKeys (tEp n) (tLn (tEp n) now l i) else if (tLn (tEp n) now l i).kind = 2 ∨ (tLn (tEp n) now l i).kind = 3 then wrongLe theKeys (tEp n) now.lo (tLn (tEp n) now l i) else 3) = 0 := by
 unfold tLn
 cases hc : (ddAt l i).conf with
 | true =>
  simp only [if_true]
  unfold wrongCf
  rw [if_pos (leEq_self noLe), if_pos (show (tCf (tEp n) now i).site = (i : Int) from rfl), if_neg (by show ¬ n < n; omega), if_pos (show (tCf (tEp n) now i).epoch = (tEp n).num from rfl), if_pos (show (tCf (tEp n) now i).name = epName (tEp n) from rfl)]
  exact checkCf_t hi hn hh
 | false =>
  simp only [Bool.false_eq_true, if_false]
  have hk : ∀ x : Int, (x = 2 ∨ x = 3) → ¬ x = 1 := fun x hx => by omega
  have h23 : (if (ddAt l i).until_ ≤ now.lo then (2 : Int) else 3) = 2 ∨ (if (ddAt l i).until_ ≤ now.lo then (2 : Int) else 3) = 3 := by split <;> simp
  rw [if_neg (hk _ h23), if_pos h23]
  unfold wrongLe
  rw [if_pos (cfEq_is.2 rfl)]
  by_cases hp : 0 < (ddAt l i).until_
  ·simp only [if_pos hp]
   by_cases hl : leEq (tLe (tEp n).num l i) noLe = true
   ·rw [if_pos hl]
   ·rw [if_neg hl, if_pos (show (tLe (tEp n).num l i).site = (i : Int) from rfl), if_neg (by show ¬ n ≤ n - 1; omega), if_pos (checkLe_t h hi hp), if_pos]
    show decide ((ddAt l i).until_ ≤ now.lo) = _
    by_cases hlo : (ddAt l i).until_ ≤ now.lo
    ·simp [hlo]
    ·simp [hlo]
  ·simp only [if_neg hp]
   rw [if_pos (leEq_self noLe)]
theorem check_t {n : Int} {now : Clk} {l : List Dd} (h : DdsOk l) (hn : okClk now = true) (hh : now.hi < 1099511627776) (LA : Option Addr) (lc : Nat) : checkRp theKeys (tEp n) (tR (tEp n) now l LA lc) = (-1, 0) := by
 have hl := okClk_lims hn
 have hc : checkR theKeys 1 (tR (tEp n) now l LA lc).serial 321 (rpParts (tR (tEp n) now l LA lc)) (tR (tEp n) now l LA lc).sl (tR (tEp n) now l LA lc).lo (tR (tEp n) now l LA lc).hi = 0 := by
  show checkR theKeys 1 1 321 (rpParts ⟨(tEp n).num, epName (tEp n), now.lo, now.hi, LA, lc, tLns (tEp n) now l, 1, zeros32 16⟩) (makeN (theKey 1) 321 (rpParts ⟨(tEp n).num, epName (tEp n), now.lo, now.hi, LA, lc, tLns (tEp n) now l, 1, zeros32 16⟩)) now.lo now.hi = 0
  unfold checkR checkOut
  rw [exK1, exK1e, if_pos rfl, if_pos (count_key _ _ _ hl.1 hl.2.1 hh), if_pos rfl]
 unfold checkRp
 rw [if_pos (show (tR (tEp n) now l LA lc).epoch = (tEp n).num from rfl), if_pos (show (tR (tEp n) now l LA lc).name = epName (tEp n) from rfl), if_pos (show okClk ⟨(tR (tEp n) now l LA lc).lo, (tR (tEp n) now l LA lc).hi⟩ = true from hn), if_pos hc]
 refine firstBad_none ?_
 intro k hk
 change k < (tLns (tEp n) now l).length at hk
 obtain ⟨hk', e⟩ := tLns_get hk
 have hm := mem_idx.1 (List.getElem_mem hk')
 have hlen := h.len
 unfold wrongLn
 rw [show (tR (tEp n) now l LA lc).lines.getD k noLn = tLn (tEp n) now l ((idx l l.length)[k]) by rw [← e]; exact lnget hk]
 rw [if_pos]
 ·exact wrong_t h (by omega) hn hh
 ·rw [tLn_site]
  refine ⟨siteB_is.2 ⟨by omega, by omega⟩, ?_⟩
  by_cases h0 : k = 0
  ·exact .inl h0
  ·right
   obtain ⟨hj', e'⟩ := tLns_get (e := tEp n) (now := now) (l := l) (k := k - 1) (by omega)
   rw [show (tR (tEp n) now l LA lc).lines.getD (k - 1) noLn = tLn (tEp n) now l ((idx l l.length)[k - 1]) by rw [← e']; exact lnget (by show k - 1 < (tLns (tEp n) now l).length; omega)]
   rw [tLn_site]
   have := (List.pairwise_iff_getElem.1 (idx_asc l l.length)) (k - 1) k hj' hk' (by omega)
   omega
def openD (now : Clk) (l : List Dd) (i : Nat) : Bool := (ddAt l i).is && !(ddAt l i).conf && decide (now.lo < (ddAt l i).until_)
theorem closed_t {n : Int} {now : Clk} {l : List Dd} (LA : Option Addr) (lc : Nat) : closedB (tR (tEp n) now l LA lc) = !((List.range l.length).any (openD now l)) := by
 unfold closedB
 congr 1
 show (tLns (tEp n) now l).any openLn = _
 rw [Bool.eq_iff_iff, List.any_eq_true, List.any_eq_true]
 constructor
 ·rintro ⟨x, hx, ho⟩
  obtain ⟨i, hi, rfl⟩ := List.mem_map.1 hx
  obtain ⟨h1, h2⟩ := mem_idx.1 hi
  refine ⟨i, by simpa using h1, ?_⟩
  unfold openLn tLn at ho
  unfold openD
  cases hc : (ddAt l i).conf with
  | true => rw [hc] at ho; simp at ho
  | false =>
   rw [hc] at ho
   simp only [Bool.false_eq_true, if_false, decide_eq_true_eq] at ho
   by_cases hu : (ddAt l i).until_ ≤ now.lo
   ·rw [if_pos hu] at ho; simp at ho
   ·simp [h2]; omega
 ·rintro ⟨i, hi, ho⟩
  unfold openD at ho
  simp only [Bool.and_eq_true, Bool.not_eq_true', decide_eq_true_eq] at ho
  obtain ⟨⟨h1, h2⟩, h3⟩ := ho
  refine ⟨_, List.mem_map_of_mem (mem_idx.2 ⟨by simpa using hi, h1⟩), ?_⟩
  unfold openLn tLn
  rw [h2]
  simp only [Bool.false_eq_true, if_false, decide_eq_true_eq]
  rw [if_neg (by omega)]
theorem refutes_t {n : Int} {now : Clk} {l : List Dd} (hn : okClk now = true) (LA : Option Addr) (lc : Nat) : ∀ x ∈ tLns (tEp n) now l, refutesB theKeys (tEp n) (tR (tEp n) now l LA lc) x.le = false := by
 intro x hx
 obtain ⟨i, hi, rfl⟩ := List.mem_map.1 hx
 have hl := okClk_lims hn
 have hno : refutesB theKeys (tEp n) (tR (tEp n) now l LA lc) noLe = false := by
  unfold refutesB
  rw [if_neg]
  intro h
  have : now.hi < 0 := h.2.1
  omega
 by_cases hc : (ddAt l i).conf = true
 ·have : (tLn (tEp n) now l i).le = noLe := by unfold tLn; rw [if_pos hc]
  rw [this]
  exact hno
 ·by_cases hp : 0 < (ddAt l i).until_
  ·have e : (tLn (tEp n) now l i).le = tLe n l i := by unfold tLn; rw [if_neg hc, if_pos hp]; rfl
   rw [e]
   unfold refutesB
   by_cases hh : now.hi < (ddAt l i).until_
   ·have hk : (tLn (tEp n) now l i).kind = 3 := by
     unfold tLn
     rw [if_neg hc]
     show (if (ddAt l i).until_ ≤ now.lo then (2 : Int) else 3) = 3
     rw [if_neg (by omega)]
    have hb : bestS noLn (lnSite (tLe n l i).site) lnNone (tR (tEp n) now l LA lc).lines = (tLn (tEp n) now l i, true) := by
     show bestS noLn (lnSite (i : Int)) lnNone (tLns (tEp n) now l) = _
     refine best_uniq (by simp [lnSite, tLn_site]) rfl hx ?_
     intro y hy hq
     obtain ⟨j, hj, rfl⟩ := List.mem_map.1 hy
     simp only [lnSite, tLn_site, decide_eq_true_eq] at hq
     rw [show j = i by omega]
    rw [hb, hk]
    split <;> rfl
   ·rw [if_neg]
    intro h
    exact hh h.2.1
  ·have e : (tLn (tEp n) now l i).le = noLe := by unfold tLn; rw [if_neg hc, if_neg hp]
   rw [e]
   exact hno
end Go.Proofs.YtpfhmcdcmepfdaaGreatDoor