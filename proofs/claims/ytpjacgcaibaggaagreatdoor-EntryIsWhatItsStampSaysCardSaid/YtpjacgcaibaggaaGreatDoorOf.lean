/- Walks of the hash: digests. -/
import Derived.Test.YtpjacgcaibaggaaGreatDoorProg
import Derived.Test.YtpjacgcaibaggaaGreatDoorExt
import Derived.WalkKit
import Derived.WalkSpells
import Derived.WalkLawsBesides
import Derived.Deep.QuietTactic
import Derived.BigQuiet
import Derived.Test.YtpjacgcaibaggaaGreatDoorSum
import Derived.Test.YtpjacgcaibaggaaGreatDoorSoft
set_option linter.unusedVariables false
set_option linter.unusedSimpArgs false
namespace Go.Proofs.YtpjacgcaibaggaaGreatDoor
open Go.RowKit
open Go.Proofs
attribute [local go_sem] st0_size

/-- Texts in memory. -/
abbrev ReadsS (w : World) (B : Nat) (A : Option Addr) (l : List ByteArray) : Prop := Reads 1 encStr w B A l
theorem ReadsS.cell {w : World} {B : Nat} {A : Option Addr} {l : List ByteArray} (h : ReadsS w B A l) (i : Nat) (hi : i < l.length) : ∃ b off, A = some ⟨b, off, none⟩ ∧ b < B ∧ w.cell? ⟨b, off + i, none⟩ = some (.string l[i]) := by
  obtain ⟨b, off, h1, h2, h3⟩ := h (by omega)
  refine ⟨b, off, h1, h2, ?_⟩
  have := h3 i hi 0 (.string l[i]) rfl
  rwa [Nat.mul_one, Nat.add_zero] at this
/-- How long the input is at most. -/
def lens (l : List ByteArray) : Nat := (l.map fun s => s.size + 10).sum
/-- The input of a digest, of so many parts. -/
def inputS (tag : Int) (l : List ByteArray) : List Int := Wire.input tag (l.map bts)

/-- A stream of message m, as a value. -/
def StreamV (m : List Int) (v : Value) : Prop := ∃ s blk, Sha.Holds s blk m ∧ Byt blk ∧ v = .agg (stC s blk m.length)
theorem StreamIs.v {m : List Int} {w w' : World} {e : Ending} (h : StreamIs m w e w') : ∃ v, e = .returned v ∧ Ext w w' ∧ StreamV m v := by
  obtain ⟨s, blk, h1, h2, h3, h4⟩ := h
  exact ⟨_, h3, h4, s, blk, h1, h2, rfl⟩
def oneByte (x : Int) : Soft := ⟨fun v w => ∃ b, v = .slice (some ⟨b, 0, none⟩) 1 1 ∧ b < w.heap.size ∧ w.cell? ⟨b, 0, none⟩ = some (.int .u8 x), fun v w w' ⟨b, h1, h2, h3⟩ hx => ⟨b, h1, Nat.lt_of_lt_of_le h2 hx.size, (hx.cell (p := ⟨b, 0, none⟩) h2).trans h3⟩⟩
def newRow (base : Nat) (cs : Array Value) : Soft := ⟨fun v w => ∃ b, v = .pointer (some ⟨b, 0, none⟩) ∧ base ≤ b ∧ RowAt w b cs, fun v w w' ⟨b, h1, h2, h3⟩ hx => ⟨b, h1, h2, h3.ext hx⟩⟩

def ofSoft (tag : Int) (base : Nat) : Nat → Soft
  | 0 => Soft.pl (StreamV [])
  | 1 => Soft.eq (.int .i64 tag)
  | 2 => Soft.eq (.int .u8 (tag % 256))
  | 3 => oneByte (tag % 256)
  | 4 => Soft.eq (.string (strOfNums [tag % 256]))
  | 5 => Soft.pl (StreamV [tag % 256])
  | _ => newRow base (stC zeroS (zeros32 64) 0)

theorem lens_append (l m : List ByteArray) : lens (l ++ m) = lens l + lens m := by simp [lens]
theorem lens_take (l : List ByteArray) (k : Nat) : lens (l.take k) ≤ lens l := by
  conv => rhs; rw [← List.take_append_drop k l]
  rw [lens_append]
  omega
theorem lens_get (l : List ByteArray) (k : Nat) (h : k < l.length) : lens (l.take k) + l[k].size + 10 ≤ lens l := by
  have e : lens (l.take (k + 1)) = lens (l.take k) + (l[k].size + 10) := by
    rw [List.take_succ_eq_append_getElem h, lens_append]
    simp [lens]
  have := lens_take l (k + 1)
  omega
theorem lens_length (l : List ByteArray) : l.length ≤ lens l := by
  induction l with
  | nil => simp [lens]
  | cons s l ih =>
    have e : lens (s :: l) = s.size + 10 + lens l := by simp [lens]
    simp only [List.length_cons]
    omega
theorem encS_len (s : ByteArray) : (Wire.encS (bts s)).length ≤ s.size + 10 := by
  have := Wire.enc_length (s.size : Int)
  rw [encS_eq, List.length_append, bts_length]
  omega
theorem inputS_snoc (tag : Int) (l : List ByteArray) (k : Nat) (h : k < l.length) : inputS tag (l.take (k + 1)) = inputS tag (l.take k) ++ Wire.encS (bts l[k]) := by
  rw [List.take_succ_eq_append_getElem h, inputS, inputS, Wire.input, Wire.input, List.map_append, List.flatMap_append, List.map_singleton, List.flatMap_singleton]
  rfl
theorem inputS_len (tag : Int) : ∀ l : List ByteArray, (inputS tag l).length ≤ 1 + lens l := by
  intro l
  suffices H : ∀ l : List ByteArray, ((l.map bts).flatMap Wire.encS).length ≤ lens l by
    have := H l
    simp only [inputS, Wire.input, List.length_cons]
    omega
  intro l
  induction l with
  | nil => simp [lens]
  | cons s l ih =>
    have := encS_len s
    simp only [List.map_cons, List.flatMap_cons, List.length_append]
    have e : lens (s :: l) = s.size + 10 + lens l := by simp [lens]
    omega
theorem encS_byt (s : ByteArray) (h : s.size ≤ 140737488351232) : ∀ x ∈ Wire.encS (bts s), 0 ≤ x ∧ x < 256 := by
  intro x hx
  rw [encS_eq, List.mem_append] at hx
  rcases hx with hx | hx
  · exact Wire.enc_byte _ (by omega) (by omega) x hx
  · exact bts_byte s x hx
def freshB (lb : List Int) : Soft := ⟨fun v w => ∃ A c, v = .slice A lb.length c ∧ ReadsB w w.heap.size A lb, fun v w w' ⟨A, c, h1, h2⟩ hx => ⟨A, c, h1, h2.on hx⟩⟩
def ofSoft2 (v0 : Value) (p : ByteArray) (lb : List Int) (m : List Int) : Nat → Soft
  | 0 => Soft.eq v0
  | 1 => Soft.eq (.string p)
  | 2 => freshB lb
  | 3 => Soft.eq (.string (strOfNums lb))
  | _ => Soft.pl (StreamV m)

theorem cells8_take16 (l : List Int) {n : Nat} (h : n ≤ l.length) (h0 : 0 < n) : rowSub (cells8 l) 0 n = some (cells8 (l.take n)) := by
  rw [rowSub, if_pos (by rw [cells8_size]; omega)]
  congr 1
  apply Array.toList_inj.1
  rw [Array.toList_extract]
  simp [cells8, List.map_take]
/-- Between two rounds of Of: m is in the stream. -/
def OfRel (w : World) (b : Nat) (m : List Int) (wr : World) : Prop := ∃ s blk, Sha.Holds s blk m ∧ Byt blk ∧ Ext w wr ∧ RowAt wr w.heap.size (cells8 (zeros32 16)) ∧ RowAt wr b (stC s blk m.length)

set_option maxRecDepth 100000 in
set_option maxHeartbeats 4000000 in
theorem of_ok (tag : Int) (A : Option Addr) (c : Nat) (l : List ByteArray) (w : World) (hk : Konst 0 w) (hr : ReadsS w w.heap.size A l) (hl : lens l < 140737488351232) :
    Calls Tryz.prog 56 #[.int .i64 tag, .slice A l.length c] w fun e w' => e = .returned (.agg (cells8 (Wire.digest tag (l.map bts)))) ∧ Ext w w' := by
  have HK := Lib.hid hk
  have HR := Lib.hid hr
  have hll := lens_length l
  clear hk hr
  go_enter Tryz.func56, Tryz.ntmps56
  go_wp2
  refine wp_region_soft 7 (ofSoft tag (w.heap.size + 1)) (by kernel_rfl) (by kernel_rfl) (lt_cons ?_ (lt_cons ?_ (lt_cons ?_ (lt_cons ?_ (lt_cons ?_ (lt_cons ?_ (lt_cons ?_ lt_none))))))) ?_
  · intro o ho xs W hW hd Q' hQ; obtain rfl := Option.some.inj ho; clear ho; simp only [fillAt, dstOf, List.getElem?_cons_zero, List.getElem?_cons_succ, Option.bind_some, Act.put, List.setIfInBounds_toArray, List.set_cons_zero, List.set_cons_succ, Nat.zero_add, Nat.reduceAdd] at hQ ⊢; have HQ := Lib.hid hQ; have HD := Lib.hid hd; have HW := Lib.hid hW; have hsW := hW.size; clear hQ hd hW
    go_wp2_with (go_at_call 95; refine (begin_ok _).mono ?_; rintro e w1 h1; obtain ⟨v, rfl, hx, hv⟩ := h1.v; clear h1)
    exact HQ.out _ _ hx hv
  · intro o ho xs W hW hd Q' hQ; obtain rfl := Option.some.inj ho; clear ho; simp only [fillAt, dstOf, List.getElem?_cons_zero, List.getElem?_cons_succ, Option.bind_some, Act.put, List.setIfInBounds_toArray, List.set_cons_zero, List.set_cons_succ, Nat.zero_add, Nat.reduceAdd] at hQ ⊢; have HQ := Lib.hid hQ; have HD := Lib.hid hd; have HW := Lib.hid hW; have hsW := hW.size; clear hQ hd hW
    go_wp2
    exact HQ.out _ _ (Ext.refl _) rfl
  · intro o ho xs W hW hd Q' hQ; obtain rfl := Option.some.inj ho; clear ho; simp only [fillAt, dstOf, List.getElem?_cons_zero, List.getElem?_cons_succ, Option.bind_some, Act.put, List.setIfInBounds_toArray, List.set_cons_zero, List.set_cons_succ, Nat.zero_add, Nat.reduceAdd] at hQ ⊢; have HQ := Lib.hid hQ; have HD := Lib.hid hd; have HW := Lib.hid hW; have hsW := hW.size; clear hQ hd hW
    have h1 : xs 1 = .int .i64 tag := (HD.out 1 (of_decide_eq_true (by kernel_rfl)))
    go_wp2
    exact HQ.out _ _ (Ext.refl _) rfl
  · intro o ho xs W hW hd Q' hQ; obtain rfl := Option.some.inj ho; clear ho; simp only [fillAt, dstOf, List.getElem?_cons_zero, List.getElem?_cons_succ, Option.bind_some, Act.put, List.setIfInBounds_toArray, List.set_cons_zero, List.set_cons_succ, Nat.zero_add, Nat.reduceAdd] at hQ ⊢; have HQ := Lib.hid hQ; have HD := Lib.hid hd; have HW := Lib.hid hW; have hsW := hW.size; clear hQ hd hW
    have h1 : xs 2 = .int .u8 (tag % 256) := (HD.out 2 (of_decide_eq_true (by kernel_rfl)))
    go_wp2
    exact HQ.out _ _ ((Ext.refl _).alloc _) ⟨W.heap.size, rfl, by simp, by rw [alloc_cell_if, if_pos rfl]; rfl⟩
  · intro o ho xs W hW hd Q' hQ; obtain rfl := Option.some.inj ho; clear ho; simp only [fillAt, dstOf, List.getElem?_cons_zero, List.getElem?_cons_succ, Option.bind_some, Act.put, List.setIfInBounds_toArray, List.set_cons_zero, List.set_cons_succ, Nat.zero_add, Nat.reduceAdd] at hQ ⊢; have HQ := Lib.hid hQ; have HD := Lib.hid hd; have HW := Lib.hid hW; have hsW := hW.size; clear hQ hd hW
    obtain ⟨b, h1, h2, h3⟩ : (oneByte (tag % 256)).S (xs 3) W := (HD.out 3 (of_decide_eq_true (by kernel_rfl)))
    have hcv := conv_bytes (w := W) (B := W.heap.size) (A := some ⟨b, 0, none⟩) (l := [tag % 256]) 1 (fun _ => ⟨b, 0, rfl, h2, fun i hi j v hv => by
      have : i = 0 := by simp at hi; omega
      subst this
      have : j = 0 := by
        have := (List.getElem?_eq_some_iff.1 hv).1
        simp [encB] at this; omega
      subst this
      simp [encB] at hv
      subst hv
      exact h3⟩) (by simp)
    rw [show [tag % 256].length = 1 from rfl] at hcv
    go_wp2
    exact HQ.out _ _ (Ext.refl _) rfl
  · intro o ho xs W hW hd Q' hQ; obtain rfl := Option.some.inj ho; clear ho; simp only [fillAt, dstOf, List.getElem?_cons_zero, List.getElem?_cons_succ, Option.bind_some, Act.put, List.setIfInBounds_toArray, List.set_cons_zero, List.set_cons_succ, Nat.zero_add, Nat.reduceAdd] at hQ ⊢; have HQ := Lib.hid hQ; have HD := Lib.hid hd; have HW := Lib.hid hW; have hsW := hW.size; clear hQ hd hW
    obtain ⟨s1, blk1, hh, hb, h1⟩ : StreamV [] (xs 0) := (HD.out 0 (of_decide_eq_true (by kernel_rfl)))
    have h4 : xs 4 = .string (strOfNums [tag % 256]) := (HD.out 4 (of_decide_eq_true (by kernel_rfl)))
    generalize xs 0 = x0 at h1 HQ ⊢; subst h1
    generalize xs 4 = x4 at h4 HQ ⊢; subst h4
    have HH := Lib.hid hh
    have HB := Lib.hid hb
    have HE : Hid ([] ++ bts (strOfNums [tag % 256]) = [tag % 256]) := Lib.hid (by rw [List.nil_append, bts_nums (by intro x hx; simp at hx; omega)])
    have hsz := strOfNums_size [tag % 256]
    have hsz2 : (strOfNums [tag % 256]).size ≤ 1 := by rw [hsz]; simp
    clear hh hb hsz
    generalize strOfNums [tag % 256] = r at *
    go_wp2_with (go_at_call 96; refine (add_ok s1 blk1 [] r _ HH.out HB.out ((HK.out.alloc _).ext HW.out) (by simp; omega)).mono ?_; rintro e w1 h1; obtain ⟨v, rfl, hx, hv⟩ := h1.v; clear h1)
    rw [HE.out] at hv
    exact HQ.out _ _ hx hv
  · intro o ho xs W hW hd Q' hQ; obtain rfl := Option.some.inj ho; clear ho; simp only [fillAt, dstOf, List.getElem?_cons_zero, List.getElem?_cons_succ, Option.bind_some, Act.put, List.setIfInBounds_toArray, List.set_cons_zero, List.set_cons_succ, Nat.zero_add, Nat.reduceAdd] at hQ ⊢; have HQ := Lib.hid hQ; have HD := Lib.hid hd; have HW := Lib.hid hW; have hsW := hW.size; clear hQ hd hW
    go_wp2
    exact HQ.out _ _ ((Ext.refl _).alloc _) ⟨W.heap.size, rfl, by simp at hsW; omega, RowAt.new _ _ _⟩
  · intro xs W hW hS
    obtain ⟨s1, blk1, hh, hb, h5⟩ : StreamV [tag % 256] (xs 5) := hS 5 (by omega)
    obtain ⟨b, h6, hbs, hrow⟩ : (newRow (w.heap.size + 1) (stC zeroS (zeros32 64) 0)).S (xs 6) W := hS 6 (by omega)
    simp only [fillAt, dstOf, List.getElem?_cons_zero, List.getElem?_cons_succ, Option.bind_some, Act.put, List.setIfInBounds_toArray, List.set_cons_zero, List.set_cons_succ, Nat.zero_add, Nat.reduceAdd, List.drop_succ_cons, List.drop_zero]
    generalize xs 5 = x5 at h5 ⊢; subst h5
    generalize xs 6 = x6 at h6 ⊢; subst h6
    have hl64 := hh.len
    have hft := fits_st s1 blk1 1 hl64
    have hrm : roomOf W b 0 73 = true := by rw [hrow.room, st0_size]; rfl
    have HR2 : Hid (ReadsS W w.heap.size A l) := Lib.hid (HR.out.ext (((Ext.refl _).alloc _).trans hW) (Nat.le_refl _))
    have H0 : Hid (RowAt W w.heap.size (cells8 (zeros32 16))) := Lib.hid ((RowAt.new w _ _).ext hW)
    have HW := Lib.hid (((Ext.refl w).alloc _).trans hW)
    have HH := Lib.hid hh
    have HB := Lib.hid hb
    have HRo := Lib.hid hrow
    clear hW hS hh hb hrow
    go_wp2
    go_loopw [17] (fun j wr => ∃ k : Nat, k ≤ l.length ∧ j = .int .i64 k ∧ OfRel w b (inputS tag (l.take k)) wr) (fun j _ => l.length - (intOf j).toNat)
    case atStart => exact ⟨0, Nat.zero_le _, rfl, s1, blk1, HH.out, HB.out, HW.out.setCells (by omega) _ _, H0.out.others (by omega) _ _, HRo.out.store (by rw [stC_size hl64, st0_size])⟩
    case round =>
      obtain ⟨k, hk, rfl, s, blk, hh, hb, hx, h0, h1⟩ := hrel
      have HX := Lib.hid hx
      have HH := Lib.hid hh
      have HB := Lib.hid hb
      have H0 := Lib.hid h0
      have H1 := Lib.hid h1
      have hl64 := hh.len
      clear hh hb hx h0 h1
      by_cases hlt : k < l.length
      · have HRw := HR.out.ext HX.out (Nat.le_refl _)
        obtain ⟨ba, off, rfl, hba, hcs⟩ := ReadsS.cell HRw k hlt
        have HI := Lib.hid (inputS_snoc tag l k hlt)
        have hlg := lens_get l k hlt
        have hml := inputS_len tag (l.take k)
        have hel := encS_len l[k]
        have HBy := Lib.hid (encS_byt l[k] (by omega))
        have hrow : rowOf wr b 0 73 = some (stC s blk (inputS tag (l.take k)).length) := H1.out.all (stC_size hl64).symm (by omega)
        have hbl := H1.out.lt
        have hwl := HX.out.size
        generalize inputS tag (l.take k) = M at *
        generalize hp : l[k] = p at *
        clear hp HRw
        go_wp2
        refine wp_region_soft 5 (ofSoft2 (.agg (stC s blk M.length)) p (Wire.encS (bts p)) (M ++ Wire.encS (bts p))) (by kernel_rfl) (by kernel_rfl) (lt_cons ?_ (lt_cons ?_ (lt_cons ?_ (lt_cons ?_ (lt_cons ?_ lt_none))))) ?_
        · intro o ho xs W hW hd Q' hQ; obtain rfl := Option.some.inj ho; clear ho; simp only [fillAt, dstOf, List.getElem?_cons_zero, List.getElem?_cons_succ, Option.bind_some, Act.put, List.setIfInBounds_toArray, List.set_cons_zero, List.set_cons_succ, Nat.zero_add, Nat.reduceAdd] at hQ ⊢; have HQ := Lib.hid hQ; have HD := Lib.hid hd; have HW := Lib.hid hW; have hsW := hW.size; clear hQ hd hW
          have hr2 : rowOf W b 0 73 = some (stC s blk M.length) := (H1.out.ext HW.out).all (stC_size hl64).symm (by omega)
          go_wp2
          exact HQ.out _ _ (Ext.refl _) rfl
        · intro o ho xs W hW hd Q' hQ; obtain rfl := Option.some.inj ho; clear ho; simp only [fillAt, dstOf, List.getElem?_cons_zero, List.getElem?_cons_succ, Option.bind_some, Act.put, List.setIfInBounds_toArray, List.set_cons_zero, List.set_cons_succ, Nat.zero_add, Nat.reduceAdd] at hQ ⊢; have HQ := Lib.hid hQ; have HD := Lib.hid hd; have HW := Lib.hid hW; have hsW := hW.size; clear hQ hd hW
          go_wp2
          exact HQ.out _ _ (Ext.refl _) rfl
        · intro o ho xs W hW hd Q' hQ; obtain rfl := Option.some.inj ho; clear ho; simp only [fillAt, dstOf, List.getElem?_cons_zero, List.getElem?_cons_succ, Option.bind_some, Act.put, List.setIfInBounds_toArray, List.set_cons_zero, List.set_cons_succ, Nat.zero_add, Nat.reduceAdd] at hQ ⊢; have HQ := Lib.hid hQ; have HD := Lib.hid hd; have HW := Lib.hid hW; have hsW := hW.size; clear hQ hd hW
          have h1 : xs 1 = .string p := (HD.out 1 (of_decide_eq_true (by kernel_rfl)))
          generalize xs 1 = x1 at h1 HQ ⊢; subst h1
          go_wp2_with (go_at_call 97; refine (wbytes_ok p _ (by omega)).mono ?_; rintro e w1 ⟨A1, c1, rfl, ho, hx⟩)
          exact HQ.out _ _ hx ⟨A1, c1, rfl, ho.reads bE⟩
        · intro o ho xs W hW hd Q' hQ; obtain rfl := Option.some.inj ho; clear ho; simp only [fillAt, dstOf, List.getElem?_cons_zero, List.getElem?_cons_succ, Option.bind_some, Act.put, List.setIfInBounds_toArray, List.set_cons_zero, List.set_cons_succ, Nat.zero_add, Nat.reduceAdd] at hQ ⊢; have HQ := Lib.hid hQ; have HD := Lib.hid hd; have HW := Lib.hid hW; have hsW := hW.size; clear hQ hd hW
          obtain ⟨A1, c1, h2, hr⟩ : (freshB (Wire.encS (bts p))).S (xs 2) W := (HD.out 2 (of_decide_eq_true (by kernel_rfl)))
          have hpos : 0 < (Wire.encS (bts p)).length := by have := Wire.enc_pos (p.size : Int); rw [encS_eq, List.length_append]; omega
          have hcv := conv_bytes c1 hr hpos
          have HR3 := Lib.hid hr
          clear hr
          generalize xs 2 = x2 at h2 HQ ⊢; subst h2
          generalize Wire.encS (bts p) = lb at *
          go_wp2
          exact HQ.out _ _ (Ext.refl _) rfl
        · intro o ho xs W hW hd Q' hQ; obtain rfl := Option.some.inj ho; clear ho; simp only [fillAt, dstOf, List.getElem?_cons_zero, List.getElem?_cons_succ, Option.bind_some, Act.put, List.setIfInBounds_toArray, List.set_cons_zero, List.set_cons_succ, Nat.zero_add, Nat.reduceAdd] at hQ ⊢; have HQ := Lib.hid hQ; have HD := Lib.hid hd; have HW := Lib.hid hW; have hsW := hW.size; clear hQ hd hW
          have h0 : xs 0 = .agg (stC s blk M.length) := (HD.out 0 (of_decide_eq_true (by kernel_rfl)))
          have h3 : xs 3 = .string (strOfNums (Wire.encS (bts p))) := (HD.out 3 (of_decide_eq_true (by kernel_rfl)))
          have HE : Hid (M ++ bts (strOfNums (Wire.encS (bts p))) = M ++ Wire.encS (bts p)) := Lib.hid (by rw [bts_nums HBy.out])
          have hsz2 : (strOfNums (Wire.encS (bts p))).size ≤ p.size + 10 := by rw [strOfNums_size]; exact hel
          generalize xs 0 = x0 at h0 HQ ⊢; subst h0
          generalize xs 3 = x3 at h3 HQ ⊢; subst h3
          generalize strOfNums (Wire.encS (bts p)) = r at *
          go_wp2_with (go_at_call 96; refine (add_ok s blk M r _ HH.out HB.out ((HK.out.ext HX.out).ext HW.out) (by omega)).mono ?_; rintro e w1 h1; obtain ⟨v, rfl, hx, hv⟩ := h1.v; clear h1)
          rw [HE.out] at hv
          exact HQ.out _ _ hx hv
        · intro xs W hW hS
          obtain ⟨s2, blk2, hh, hb, h4⟩ : StreamV (M ++ Wire.encS (bts p)) (xs 4) := hS 4 (by omega)
          simp only [fillAt, dstOf, List.getElem?_cons_zero, List.getElem?_cons_succ, Option.bind_some, Act.put, List.setIfInBounds_toArray, List.set_cons_zero, List.set_cons_succ, Nat.zero_add, Nat.reduceAdd, List.drop_succ_cons, List.drop_zero]
          generalize xs 4 = x4 at h4 ⊢; subst h4
          rw [← HI.out] at hh ⊢
          have hl2 := hh.len
          have hft := fits_st s2 blk2 ((inputS tag (l.take (k + 1))).length : Nat) hl2
          have hrm : roomOf W b 0 73 = true := by rw [(H1.out.ext hW).room, stC_size hl64]; rfl
          have HW := Lib.hid hW
          have HH2 := Lib.hid hh
          have HB2 := Lib.hid hb
          clear hW hS hh hb
          generalize hM2 : inputS tag (l.take (k + 1)) = M2 at *
          have HM2 := Lib.hid hM2
          clear hM2
          go_wp2
          go_roundw
          case rel => exact ⟨k + 1, by omega, by go_num, s2, blk2, by rw [HM2.out]; exact HH2.out, HB2.out, (HX.out.trans HW.out).setCells (by omega) _ _, (H0.out.ext HW.out).others (by omega) _ _, by rw [HM2.out]; exact (H1.out.ext HW.out).store (by rw [stC_size hl2, stC_size hl64])⟩
          case measure => simp [intOf]; omega
      · have e : k = l.length := by omega
        subst e
        rw [List.take_length] at HH H1
        have hml := inputS_len tag l
        have HD : Hid ((Sha.sha (inputS tag l)).take 16 = Wire.digest tag (l.map bts)) := Lib.hid rfl
        have hrow : rowOf wr b 0 73 = some (stC s blk (inputS tag l).length) := H1.out.all (stC_size hl64).symm (by omega)
        have hbl := H1.out.lt
        have hwl := HX.out.size
        generalize inputS tag l = M at *
        have hsl := Sha.sha_length M
        have hf32 : fitsRow 32 (cells8 (Sha.sha M)) = true := fits8 hsl
        have hs16 := cells8_take16 (Sha.sha M) (n := 16) (by omega) (by omega)
        rw [HD.out] at hs16
        have hd16 : (Wire.digest tag (l.map bts)).length = 16 := by rw [← HD.out, List.length_take]; omega
        have hfd : fitsRow 16 (cells8 (Wire.digest tag (l.map bts))) = true := fits8 hd16
        have hrd : roomOf wr w.heap.size 0 16 = true := by rw [H0.out.room]; rfl
        generalize hDD : Wire.digest tag (l.map bts) = D at *
        have HDD := Lib.hid hDD
        clear hDD
        go_upto_region 8 with (go_at_call 98; refine (ssum_ok s blk M _ HH.out HB.out (HK.out.ext HX.out) (by omega)).mono ?_; rintro e w' ⟨rfl, hxl⟩; obtain ⟨xl, rfl⟩ := hxl.asLater; clear hxl)
        refine wp_world (fun W => Ext w W ∧ RowAt W w.heap.size (cells8 (zeros32 16)) ∧ RowAt W (wr.heap.size + xl.n) (cells8 (Sha.sha M)))
          ⟨(by (repeat (first | with_reducible exact HX.out | with_reducible exact Ext.refl _ | with_reducible refine Ext.drew ?_ | with_reducible refine Ext.drewN ?_ _ | with_reducible refine Ext.alloc ?_ _ | with_reducible refine Ext.onto ?_ _ | (with_reducible refine Ext.setCells ?_ ?_ _ _; rotate_left; focus (first | omega | (simp; done) | (simp; omega))) | (with_reducible refine Ext.setCell ?_ ?_ _; rotate_left; focus (first | omega | (simp; done) | (simp; omega)))))), (by (repeat (first | with_reducible exact H0.out | with_reducible refine RowAt.drew ?_ | with_reducible refine RowAt.later ?_ _ | with_reducible exact RowAt.newAt (by first | rfl | omega | (simp [later_size, setCells_size]; done) | (simp [later_size, setCells_size]; omega)) | with_reducible refine RowAt.alloc ?_ _ | with_reducible apply RowAt.store | with_reducible refine RowAt.others ?_ ?_ _ _ | with_reducible refine RowAt.other ?_ ?_ _)); all_goals first | omega | (simp; done) | (simp; omega) | (simp [go_sem]; done)), (RowAt.newAt (by rw [later_size])).store (by rw [cells8_size, cells8_size, hsl, zeros32_length])⟩ ?_
        rintro W ⟨hx, h0, h1⟩
        have hr16 : rowOf W (wr.heap.size + xl.n) 0 16 = some (cells8 D) := by rw [h1.row, if_neg (by omega), hs16]
        have hm16 : roomOf W w.heap.size 0 16 = true := by rw [h0.room]; rfl
        have rr := Lib.hid (h0.stored (n := 16) (ds := cells8 D) (by rw [cells8_size, cells8_size, hd16, zeros32_length]) (by rw [cells8_size, hd16]) (by omega))
        have HX2 := Lib.hid hx
        have hl0 := h0.lt
        have hl1 := h1.lt
        clear hx h0 h1 hs16 hf32 hrow hrd
        go_wp2
        refine post_row dig_ty Tryz.results56 rfl rfl rr.out ⟨by rw [HDD.out], (by (repeat (first | with_reducible exact HX2.out | with_reducible exact Ext.refl _ | with_reducible refine Ext.drew ?_ | with_reducible refine Ext.drewN ?_ _ | with_reducible refine Ext.alloc ?_ _ | with_reducible refine Ext.onto ?_ _ | (with_reducible refine Ext.setCells ?_ ?_ _ _; rotate_left; focus (first | omega | (simp; done) | (simp; omega))) | (with_reducible refine Ext.setCell ?_ ?_ _; rotate_left; focus (first | omega | (simp; done) | (simp; omega))))))⟩
end Go.Proofs.YtpjacgcaibaggaaGreatDoor
