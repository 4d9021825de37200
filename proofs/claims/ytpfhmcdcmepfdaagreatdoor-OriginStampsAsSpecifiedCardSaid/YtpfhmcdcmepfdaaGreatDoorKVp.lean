/- Versions of an origin: plain laws. -/
import Derived.Test.YtpfhmcdcmepfdaaGreatDoorProg
import Derived.Test.YtpfhmcdcmepfdaaGreatDoorKSpv
import Derived.WalkKit
import Derived.WalkSpells
import Derived.WalkLawsBesides
import Derived.Deep.QuietTactic
import Derived.BigQuiet
import Derived.Test.YtpfhmcdcmepfdaaGreatDoorKOw
import Derived.Stop.BytesEq
set_option linter.unusedVariables false
set_option linter.unusedSimpArgs false
namespace Go.Proofs.YtpfhmcdcmepfdaaGreatDoor
open Go.RowKit
open Go.Proofs

def rightB (s : St) : Bool :=
  decide (100 ≤ s.status) && decide (s.status ≤ 599) && decide (0 ≤ s.size) && decide (s.size ≤ 1099511627776) && decide (0 ≤ s.lo) && decide (s.lo ≤ s.hi) && decide (s.hi ≤ 1099511627776) &&
  decide (s.addr.size ≤ 4096) && decide (s.var.size ≤ 4096) && decide (s.tags.size ≤ 4096) && decide (0 ≤ s.gate) && decide (s.gate ≤ 1099511627776) && decide (0 ≤ s.serial) && decide (s.serial ≤ 1099511627776)
def lightB (e : En) (n : Nat) : Bool :=
  decide (e.st.size ≤ 2000) && decide (e.bytes.size ≤ 2000) && decide (n ≤ 40) && decide (e.st.addr.size ≤ 500) && decide (e.st.var.size ≤ 500) && decide (e.st.tags.size ≤ 500)
def fairB (r : Ru) : Bool :=
  decide (0 ≤ r.fresh) && decide (r.fresh ≤ 1099511627776) && decide (0 ≤ r.stale) && decide (r.stale ≤ 1099511627776) && decide (0 ≤ r.down) && decide (r.down ≤ 1099511627776) && decide (0 ≤ r.neg) && decide (r.neg ≤ 1099511627776)
theorem fairB_R {r : Ru} (h : fairB r = true) : RuR r := by
  simp [fairB] at h
  obtain ⟨⟨⟨⟨⟨⟨⟨a, b⟩, c⟩, d⟩, e⟩, f⟩, g⟩, i⟩ := h
  exact ⟨a, b, c, d, e, f, g, i⟩
def instB (t : Int) : Bool := decide (0 ≤ t) && decide (t ≤ 1099511627776)
theorem rinst_any (t : Int) (w : World) : Calls Tryz.prog 90 #[.int .i64 t] w fun e' w' => e' = .returned (.bool (instB t)) ∧ w = w' := by
  go_enter Tryz.func90, Tryz.ntmps90
  go_wp2
  all_goals
    go_ret
    refine ⟨ret_bool ?_, rfl⟩
    simp_all [instB]
    try omega
def perB (lo hi : Int) : Bool := instB lo && instB hi && decide (lo ≤ hi)
theorem perB_iff {lo hi : Int} : perB lo hi = true ↔ 0 ≤ lo ∧ lo ≤ hi ∧ hi ≤ 1099511627776 := by
  simp [perB, instB]
  omega
theorem rper_any (lo hi : Int) (w : World) : Calls Tryz.prog 34 #[.agg #[.int .i64 lo, .int .i64 hi]] w fun e' w' => e' = .returned (.bool (perB lo hi)) ∧ Ext w w' := by
  cases h1 : instB lo with
  | false =>
    have H1 := Lib.hid h1
    have HP : Hid (perB lo hi = false) := Lib.hid (by simp [perB, h1])
    clear h1
    go_enter Tryz.func34, Tryz.ntmps34
    go_wp2_with (go_at_call 90; refine (rinst_any lo _).mono ?_; rintro e w' ⟨rfl, rfl⟩; rw [H1.out])
    go_ret
    exact ⟨ret_bool (by rw [HP.out]), (by (repeat (first | with_reducible exact Ext.refl _ | with_reducible exact Ext.refl _ | with_reducible refine Ext.drew ?_ | with_reducible refine Ext.drewN ?_ _ | with_reducible refine Ext.alloc ?_ _ | with_reducible refine Ext.onto ?_ _ | (with_reducible refine Ext.setCells ?_ ?_ _ _; rotate_left; focus (first | omega | (simp; done) | (simp; omega))) | (with_reducible refine Ext.setCell ?_ ?_ _; rotate_left; focus (first | omega | (simp; done) | (simp; omega))))))⟩
  | true =>
    cases h2 : instB hi with
    | false =>
      have H1 := Lib.hid h1
      have H2 := Lib.hid h2
      have HP : Hid (perB lo hi = false) := Lib.hid (by simp [perB, h2])
      clear h1 h2
      go_enter Tryz.func34, Tryz.ntmps34
      go_wp2_with (go_at_call 90; first | ((with_reducible refine (rinst_any lo _).mono ?_); rintro e w' ⟨rfl, rfl⟩; rw [H1.out]) | ((with_reducible refine (rinst_any hi _).mono ?_); rintro e w' ⟨rfl, rfl⟩; rw [H2.out]))
      go_ret
      exact ⟨ret_bool (by rw [HP.out]), (by (repeat (first | with_reducible exact Ext.refl _ | with_reducible exact Ext.refl _ | with_reducible refine Ext.drew ?_ | with_reducible refine Ext.drewN ?_ _ | with_reducible refine Ext.alloc ?_ _ | with_reducible refine Ext.onto ?_ _ | (with_reducible refine Ext.setCells ?_ ?_ _ _; rotate_left; focus (first | omega | (simp; done) | (simp; omega))) | (with_reducible refine Ext.setCell ?_ ?_ _; rotate_left; focus (first | omega | (simp; done) | (simp; omega))))))⟩
    | true =>
      have H1 := Lib.hid h1
      have H2 := Lib.hid h2
      have HP : Hid (perB lo hi = decide (lo ≤ hi)) := Lib.hid (by simp [perB, h1, h2])
      clear h1 h2
      go_enter Tryz.func34, Tryz.ntmps34
      go_wp2_with (go_at_call 90; first | ((with_reducible refine (rinst_any lo _).mono ?_); rintro e w' ⟨rfl, rfl⟩; rw [H1.out]) | ((with_reducible refine (rinst_any hi _).mono ?_); rintro e w' ⟨rfl, rfl⟩; rw [H2.out]))
      go_ret
      exact ⟨ret_bool (by rw [HP.out]), (by (repeat (first | with_reducible exact Ext.refl _ | with_reducible exact Ext.refl _ | with_reducible refine Ext.drew ?_ | with_reducible refine Ext.drewN ?_ _ | with_reducible refine Ext.alloc ?_ _ | with_reducible refine Ext.onto ?_ _ | (with_reducible refine Ext.setCells ?_ ?_ _ _; rotate_left; focus (first | omega | (simp; done) | (simp; omega))) | (with_reducible refine Ext.setCell ?_ ?_ _; rotate_left; focus (first | omega | (simp; done) | (simp; omega))))))⟩
end Go.Proofs.YtpfhmcdcmepfdaaGreatDoor


set_option linter.unusedVariables false
set_option linter.unusedSimpArgs false
namespace Go.Proofs.YtpfhmcdcmepfdaaGreatDoor
open Go.RowKit
open Go.Proofs
open Go.Proofs.Sp (Sp)

end Go.Proofs.YtpfhmcdcmepfdaaGreatDoor


set_option linter.unusedVariables false
set_option linter.unusedSimpArgs false
namespace Go.Proofs.YtpfhmcdcmepfdaaGreatDoor
open Go.RowKit
open Go.Proofs

def u8s (l : List Int) : List UInt8 := l.map fun n => UInt8.ofNat n.toNat
theorem u8s_cells {l : List Int} (h : Byt l) : ((u8s l).map Extern.Stop.cell).toArray = cells8 l := by
  unfold cells8 u8s
  congr 1
  rw [List.map_map]
  apply List.map_congr_left
  intro x hx
  have := h x hx
  simp [Extern.Stop.cell]
  omega
theorem u8s_inj : ∀ {a b : List Int}, Byt a → Byt b → u8s a = u8s b → a = b
  | [], [], _, _, _ => rfl
  | [], y :: b, _, _, h => by simp [u8s] at h
  | x :: a, [], _, _, h => by simp [u8s] at h
  | x :: a, y :: b, ha, hb, h => by
    simp only [u8s, List.map_cons, List.cons.injEq] at h
    have h1 := ha x (by simp)
    have h2 := hb y (by simp)
    have e : x = y := by
      have := congrArg UInt8.toNat h.1
      simp at this
      omega
    rw [e, u8s_inj (fun z hz => ha z (by simp [hz])) (fun z hz => hb z (by simp [hz])) h.2]
theorem u8s_beq {a b : List Int} (ha : Byt a) (hb : Byt b) : (u8s a == u8s b) = decide (a = b) := by
  by_cases e : a = b
  · subst e; simp
  · have : ¬ (u8s a = u8s b) := fun h => e (u8s_inj ha hb h)
    simp [e, this]
/-- '==' of two digests. -/
theorem eq_dig {a b : List Int} (ha : a.length = 16) (hb : b.length = 16) (ba : Byt a) (bb : Byt b) (W : World) : (binOp .eql 25 (.agg (cells8 a)) (.agg (dgC b))).run Tryz.prog W = .ok (.bool (decide (a = b))) W := by
  have := run_eql_bytes (P := Tryz.prog) W 25 5 16 (by kernel_rfl) (by kernel_rfl) u8_size (u8s a) (u8s b) (by simp [u8s, ha]) (by simp [u8s, hb])
  rw [u8s_cells ba, u8s_cells bb, u8s_beq ba bb] at this
  rw [dgC_cells hb]
  exact this
theorem neq_dig {a b : List Int} (ha : a.length = 16) (hb : b.length = 16) (ba : Byt a) (bb : Byt b) (W : World) : (binOp .neq 25 (.agg (cells8 a)) (.agg (dgC b))).run Tryz.prog W = .ok (.bool (!(decide (a = b)))) W := by
  have h := run_equalIn_bytes (P := Tryz.prog) W 9998 25 5 16 (by kernel_rfl) (by kernel_rfl) u8_size (u8s a) (u8s b) (by simp [u8s, ha]) (by simp [u8s, hb])
  rw [u8s_cells ba, u8s_cells bb, u8s_beq ba bb] at h
  rw [dgC_cells hb, run_neq_struct, h]
  rfl
theorem digest_length (t : Int) (l : List (List Int)) : (Wire.digest t l).length = 16 := by rw [Wire.digest, List.length_take, Sha.sha_length]; omega
theorem digest_byt (t : Int) (l : List (List Int)) : Byt (Wire.digest t l) := fun x hx => Sha.out_byte _ x (List.mem_of_mem_take hx)
end Go.Proofs.YtpfhmcdcmepfdaaGreatDoor

namespace Go.Proofs.YtpfhmcdcmepfdaaGreatDoor
open Go.RowKit
open Go.Proofs
open Go.Proofs.Sp (Sp)

def lastB (l : List Sp) (n : Int) : Bool := decide (l.length = 0) || decide ((l.getD (l.length - 1) (0, 0)).2 ≤ n)
def zeroAt (b : ByteArray) (l : List Sp) (k : Nat) : Bool := decide ((bts b).getD k 0 = 0) || hasB l k
def zeroB (b : ByteArray) (l : List Sp) : Bool := (List.range b.size).all (zeroAt b l)
/-- What the specification calls a valid entry. -/
def validB (e : En) (l : List Sp) : Bool :=
  rightB e.st && setB l && decide (e.st.size ≤ 65536) && decide ((e.bytes.size : Int) = e.st.size) && lastB l e.st.size && zeroB e.bytes l && (e.whole == fullB l e.st.size) && (!(fullB l e.st.size) || decide (Wire.digest 34 [bts e.bytes] = e.st.body))

theorem odigest_is (s : ByteArray) (D : List Int) (w : World) (hk : Konst 1 w) (hl : s.size ≤ 140737488351200) (h : Wire.digest 34 [bts s] = D) :
    Calls Tryz.prog 40 #[.string s] w fun e w' => e = .returned (.agg (cells8 D)) ∧ Ext w w' := by subst h; exact odigest_ok s w hk hl
theorem rdigest_is (s : ByteArray) (D : List Int) (w : World) (hk : RKonst w) (hl : s.size ≤ 140737488351200) (h : Wire.digest 34 [bts s] = D) :
    Calls Tryz.prog 52 #[.string s] w fun e w' => e = .returned (.agg (cells8 D)) ∧ Ext w w' := by subst h; exact rdigest_ok s w hk hl
theorem zeroB_no {b : ByteArray} {l : List Sp} {k : Nat} (h : k < b.size) (hf : zeroAt b l k = false) : zeroB b l = false := by
  cases e : zeroB b l with
  | false => rfl
  | true =>
    have := List.all_eq_true.1 e k (List.mem_range.2 h)
    rw [hf] at this
    cases this
theorem zeroB_yes {b : ByteArray} {l : List Sp} (h : ∀ j, j < b.size → zeroAt b l j = true) : zeroB b l = true := List.all_eq_true.2 (fun j hj => h j (List.mem_range.1 hj))
end Go.Proofs.YtpfhmcdcmepfdaaGreatDoor


set_option linter.unusedVariables false
set_option linter.unusedSimpArgs false
namespace Go.Proofs.YtpfhmcdcmepfdaaGreatDoor
open Go.RowKit
open Go.Proofs

structure Ver where
  (fr status : Int)
  (bytes tags : ByteArray)
def verL (v : Ver) : List Value := [.int .i64 v.fr, .int .i64 v.status, .string v.bytes, .string v.tags]
def verC (v : Ver) : Array Value := #[.int .i64 v.fr, .int .i64 v.status, .string v.bytes, .string v.tags]
def noVer : Ver := ⟨0, 0, ByteArray.empty, ByteArray.empty⟩
def lostVer : Ver := ⟨0, 404, ByteArray.empty, ByteArray.empty⟩
/-- The instant of the version before. -/
def lastOf (l : List Ver) (k : Nat) : Int := if k = 0 then -1 else (l.getD (k - 1) noVer).fr
def fitV (v : Ver) : Prop := v.fr ≤ 1099511627776 ∧ 100 ≤ v.status ∧ v.status ≤ 599 ∧ v.bytes.size ≤ 1099511627776
variable (lb : ByteArray → Bool)
def OkV (last : Int) (v : Ver) : Prop := last < v.fr ∧ fitV v ∧ lb v.tags = true
/-- The first k versions are as they must be. -/
def OkTo (l : List Ver) (k : Nat) : Prop := ∀ j (h : j < l.length), j < k → OkV lb (lastOf l j) l[j]
def ValidV (l : List Ver) : Prop := OkTo lb l l.length ∧ l.length ≤ 1000
variable {lb}
theorem OkTo.zero (l : List Ver) : OkTo lb l 0 := fun j _ h => absurd h (Nat.not_lt_zero _)
theorem OkTo.snoc {l : List Ver} {k : Nat} (h : OkTo lb l k) (hk : k < l.length) (hv : OkV lb (lastOf l k) l[k]) : OkTo lb l (k + 1) := fun j hj hjk => by
  by_cases e : j = k
  · subst e; exact hv
  · exact h j hj (by omega)
theorem OkTo.not {l : List Ver} {k : Nat} (hk : k < l.length) (hv : ¬ OkV lb (lastOf l k) l[k]) : ¬ ValidV lb l := fun h => hv (h.1 k hk hk)
theorem lastOf_succ {l : List Ver} {k : Nat} (hk : k < l.length) : lastOf l (k + 1) = l[k].fr := by
  unfold lastOf
  rw [if_neg (by omega), Nat.add_sub_cancel]
  simp [hk]
theorem OkTo.from0 {l : List Ver} {k : Nat} (h : OkTo lb l k) : ∀ j (hj : j < l.length), j < k → 0 ≤ l[j].fr := by
  intro j
  induction j with
  | zero =>
    intro hj hk
    have := (h 0 hj hk).1
    unfold lastOf at this
    rw [if_pos rfl] at this
    omega
  | succ j ih =>
    intro hj hk
    have h1 := ih (by omega) (by omega)
    have h2 := (h (j + 1) hj hk).1
    rw [lastOf_succ (by omega)] at h2
    omega
theorem OkTo.lt {l : List Ver} {k : Nat} (h : OkTo lb l k) : ∀ i j (hi : i < l.length) (hj : j < l.length), i < j → j < k → l[i].fr < l[j].fr := by
  intro i j
  induction j with
  | zero => intro _ _ h; omega
  | succ j ih =>
    intro hi hj hij hk
    have h2 := (h (j + 1) hj hk).1
    rw [lastOf_succ (by omega)] at h2
    by_cases e : i = j
    · subst e; exact h2
    · have := ih hi (by omega) (by omega) (by omega)
      omega
/-- How many versions begin at t or before. -/
def placeN (l : List Ver) (t : Int) : Nat := (l.takeWhile fun v => decide (v.fr ≤ t)).length
theorem placeN_le (l : List Ver) (t : Int) : placeN l t ≤ l.length := by
  unfold placeN
  have := (List.takeWhile_prefix (fun v : Ver => decide (v.fr ≤ t)) (l := l)).length_le
  exact this
theorem placeN_before : ∀ (l : List Ver) (t : Int) (i : Nat) (h : i < l.length), i < placeN l t → l[i].fr ≤ t
  | [], _, i, h, _ => by simp at h
  | v :: l, t, i, h, hi => by
    unfold placeN at hi
    rw [List.takeWhile_cons] at hi
    split at hi
    · rename_i hv
      cases i with
      | zero => simpa using hv
      | succ i => exact placeN_before l t i (by simpa using h) (by simpa [placeN] using hi)
    · simp at hi
theorem placeN_at : ∀ (l : List Ver) (t : Int) (h : placeN l t < l.length), t < (l[placeN l t]'h).fr
  | [], _, h => by simp at h
  | v :: l, t, h => by
    by_cases hv : v.fr ≤ t
    · have e : placeN (v :: l) t = placeN l t + 1 := by simp [placeN, List.takeWhile_cons, hv]
      have h2 : placeN l t < l.length := by rw [e] at h; simpa using h
      have := placeN_at l t h2
      simp only [e, List.getElem_cons_succ]
      exact this
    · have e : placeN (v :: l) t = 0 := by simp [placeN, List.takeWhile_cons, hv]
      simp only [e, List.getElem_cons_zero]
      omega
theorem placeN_is {l : List Ver} {t : Int} {k : Nat} (hk : k ≤ l.length) (h1 : ∀ i (h : i < l.length), i < k → l[i].fr ≤ t) (h2 : ∀ h : k < l.length, t < l[k].fr) : placeN l t = k := by
  rcases Nat.lt_trichotomy (placeN l t) k with h | h | h
  · have := placeN_at l t (by omega)
    have := h1 (placeN l t) (by omega) h
    omega
  · exact h
  · have hl := placeN_le l t
    have := placeN_before l t k (by omega) h
    have := h2 (by omega)
    omega
def atN (l : List Ver) (t : Int) : Ver := if placeN l t = 0 then lostVer else l.getD (placeN l t - 1) noVer
theorem atN_pos {l : List Ver} {t : Int} (h : 0 < placeN l t) : ∃ hl : placeN l t - 1 < l.length, atN l t = l[placeN l t - 1]'hl := by
  have := placeN_le l t
  refine ⟨by omega, ?_⟩
  unfold atN
  rw [if_neg (by omega)]
  simp [List.getD, show placeN l t - 1 < l.length by omega]
theorem atN_or (l : List Ver) (t : Int) : atN l t = lostVer ∨ ∃ k, ∃ h : k < l.length, atN l t = l[k] := by
  by_cases h : placeN l t = 0
  · left; unfold atN; rw [if_pos h]
  · obtain ⟨hl, e⟩ := atN_pos (l := l) (t := t) (by omega)
    exact .inr ⟨_, hl, e⟩
/-- Of an ascending list: the last one that begins at t or before. -/
def lastAt (l : List Ver) (t : Int) (k : Nat) : Ver := (l.take k).foldl (fun o v => if v.fr ≤ t then v else o) lostVer
theorem lastAt_zero (l : List Ver) (t : Int) : lastAt l t 0 = lostVer := by simp [lastAt]
theorem lastAt_succ (l : List Ver) (t : Int) (k : Nat) (h : k < l.length) : lastAt l t (k + 1) = if l[k].fr ≤ t then l[k] else lastAt l t k := by
  unfold lastAt
  rw [List.take_succ_eq_append_getElem h, List.foldl_append]
  rfl
theorem lastAt_upto {l : List Ver} {t : Int} (h : OkTo lb l l.length) : ∀ k, k ≤ l.length → lastAt l t k = if min k (placeN l t) = 0 then lostVer else l.getD (min k (placeN l t) - 1) noVer
  | 0, _ => by rw [lastAt_zero]; simp
  | k + 1, hk => by
    rw [lastAt_succ l t k (by omega)]
    have hp := placeN_le l t
    by_cases hlt : k < placeN l t
    · rw [if_pos (placeN_before l t k (by omega) hlt)]
      rw [show min (k + 1) (placeN l t) = k + 1 by omega, if_neg (by omega), Nat.add_sub_cancel]
      simp [show k < l.length by omega]
    · have hgt : ¬ l[k].fr ≤ t := by
        have h1 := placeN_at l t (by omega)
        by_cases e : placeN l t = k
        · simp only [e] at h1; omega
        · have := h.lt (placeN l t) k (by omega) (by omega) (by omega) (by omega)
          omega
      rw [if_neg hgt, lastAt_upto h k (by omega), show min k (placeN l t) = placeN l t by omega, show min (k + 1) (placeN l t) = placeN l t by omega]
theorem lastAt_is {l : List Ver} {t : Int} (h : OkTo lb l l.length) : lastAt l t l.length = atN l t := by
  have := placeN_le l t
  rw [lastAt_upto h l.length (Nat.le_refl _), show min l.length (placeN l t) = placeN l t by omega]
  rfl
/-- What lies between two places of an ascending list: what begins behind the one and not behind the other instant. -/
theorem between {l : List Ver} {lo hi : Int} (h : OkTo lb l l.length) (hle : lo ≤ hi) (k : Nat) (hk : k < l.length) : (placeN l lo ≤ k ∧ k < placeN l hi) ↔ lo < l[k].fr ∧ l[k].fr ≤ hi := by
  have hp := placeN_le l lo
  have hq := placeN_le l hi
  constructor
  · rintro ⟨h1, h2⟩
    refine ⟨?_, placeN_before l hi k hk h2⟩
    have h3 := placeN_at l lo (by omega)
    by_cases e : placeN l lo = k
    · simp only [e] at h3; exact h3
    · have := h.lt (placeN l lo) k (by omega) hk (by omega) (by omega)
      omega
  · rintro ⟨h1, h2⟩
    constructor
    · by_cases e : k < placeN l lo
      · have := placeN_before l lo k hk e
        omega
      · omega
    · by_cases e : placeN l hi ≤ k
      · have h3 := placeN_at l hi (by omega)
        by_cases e2 : placeN l hi = k
        · simp only [e2] at h3; omega
        · have := h.lt (placeN l hi) k (by omega) hk (by omega) (by omega)
          omega
      · omega
theorem placeN_mono {l : List Ver} {lo hi : Int} (h : lo ≤ hi) : placeN l lo ≤ placeN l hi := by
  have hp := placeN_le l lo
  by_cases e : placeN l hi < placeN l lo
  · have h1 := placeN_at l hi (by omega)
    have h2 := placeN_before l lo (placeN l hi) (by omega) e
    omega
  · omega

/-! ### What an origin answers -/
structure An where
  (status size : Int)
  body : List Int
  (bytes tags : ByteArray)
  same : Bool
def anC (a : An) : Array Value := (([.int .i64 a.status, .int .i64 a.size] : List Value) ++ (dgC a.body).toList ++ ([.string a.bytes, .string a.tags, .bool a.same] : List Value)).toArray
def noAn : An := ⟨0, 0, zeros32 16, ByteArray.empty, ByteArray.empty, false⟩
def dgN (b : ByteArray) : List Int := Wire.digest 34 [bts b]
theorem dgN_len (b : ByteArray) : (dgN b).length = 16 := digest_length _ _
theorem dgN_byt (b : ByteArray) : Byt (dgN b) := digest_byt _ _
def ansOf (v : Ver) (known : List Int) : An := if dgN v.bytes = known then ⟨v.status, v.bytes.size, dgN v.bytes, ByteArray.empty, v.tags, true⟩ else ⟨v.status, v.bytes.size, dgN v.bytes, v.bytes, v.tags, false⟩
/-- A part: bytes and an error's number. -/
def partV (v : Ver) (known : List Int) (f t : Int) : ByteArray × Int :=
  if dgN v.bytes ≠ known then (ByteArray.empty, 341) else if 0 ≤ f ∧ f ≤ t ∧ t ≤ v.bytes.size then (v.bytes.extract f.toNat t.toNat, 0) else (ByteArray.empty, 1)
def saysB (s : St) (v : Ver) : Bool := decide (v.status = s.status) && decide ((v.bytes.size : Int) = s.size) && decide (v.tags = s.tags) && decide (dgN v.bytes = s.body)
def trueB (l : List Ver) (s : St) : Bool := saysB s (atN l s.lo) || l.any fun v => decide (s.lo < v.fr) && decide (v.fr ≤ s.hi) && saysB s v
/-- What has been true in the meantime. -/
def meanN (l : List Ver) (lo hi : Int) : List Ver := atN l lo :: (l.drop (placeN l lo)).take (placeN l hi - placeN l lo)
end Go.Proofs.YtpfhmcdcmepfdaaGreatDoor
