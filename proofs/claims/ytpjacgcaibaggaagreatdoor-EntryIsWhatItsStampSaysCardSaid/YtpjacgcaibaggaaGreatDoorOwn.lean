/- Slices of the call's own, as lists of elements: appending, reading, and bytes as texts. -/
import Derived.Test.YtpjacgcaibaggaaGreatDoorProg
import Derived.Test.YtpjacgcaibaggaaGreatDoorExt
import Derived.WalkKit
import Derived.WalkSpells
import Derived.WalkLawsBesides
import Derived.Deep.QuietTactic
import Derived.BigQuiet
import Derived.Test.YtpjacgcaibaggaaGreatDoorRowT
import Derived.Test.YtpjacgcaibaggaaGreatDoorStr
import Derived.Laws.AppendOwn
import Derived.Laws.AppendOwnNone
import Derived.Laws.BytesArg
import Derived.Lib.AppendStr
import Derived.Lib.IndexBytes
set_option linter.unusedVariables false
set_option linter.unusedSimpArgs false
namespace Go.Proofs.YtpjacgcaibaggaaGreatDoor
open Go.RowKit
open Go.Proofs

structure ElemTy (P : Program) (t e : TypeId) (size bytes : Nat) : Prop where
  ut : P.underlying t = some (.slice e)
  info : (P.info? e).map (fun i => (i.zero.map (fun z => z.cells.size), i.size, i.bytes)) = some (some size, size, bytes)
  pos : 0 < size
theorem ElemTy.parts {P : Program} {t e : TypeId} {size bytes : Nat} (h : ElemTy P t e size bytes) : ∃ i z, P.info? e = some i ∧ i.zero = some z ∧ i.size = size ∧ i.bytes = bytes ∧ z.cells.size = size := by
  have k := h.info
  cases hi : P.info? e with
  | none => simp [hi] at k
  | some i =>
    cases hz : i.zero with
    | none => simp [hi, hz] at k
    | some z =>
      simp [hi, hz] at k
      exact ⟨i, z, rfl, hz, k.2.1, k.2.2, k.1⟩
structure EncTy {α : Type} (enc : α → List Value) (size : Nat) : Prop where
  len : ∀ x, (enc x).length = size
  one : ∀ x, ∀ v ∈ enc x, v.oneCell' = true
theorem EncTy.flat_len {α : Type} {enc : α → List Value} {size : Nat} (h : EncTy enc size) : ∀ l : List α, (l.flatMap enc).length = l.length * size
  | [] => by simp
  | x :: l => by
    rw [List.flatMap_cons, List.length_append, h.len, h.flat_len l, List.length_cons, Nat.add_mul]
    omega
theorem EncTy.flat_one {α : Type} {enc : α → List Value} {size : Nat} (h : EncTy enc size) (l : List α) : ∀ v ∈ l.flatMap enc, v.oneCell' = true := by
  intro v hv
  obtain ⟨x, _, hx⟩ := List.mem_flatMap.1 hv
  exact h.one x v hx
theorem EncTy.flat_get {α : Type} {enc : α → List Value} {size : Nat} (h : EncTy enc size) : ∀ (l : List α) (i : Nat) (hi : i < l.length) (j : Nat), j < size → (l.flatMap enc)[i * size + j]? = (enc l[i])[j]?
  | [], i, hi, j, hj => by simp at hi
  | x :: l, 0, hi, j, hj => by
    rw [List.flatMap_cons, List.getElem?_append_left (by rw [h.len]; omega)]
    simp
  | x :: l, i + 1, hi, j, hj => by
    rw [List.flatMap_cons, List.getElem?_append_right (by rw [h.len, Nat.add_mul]; omega), h.len, show (i + 1) * size + j - size = i * size + j by rw [Nat.add_mul]; omega]
    exact h.flat_get l i (by simpa using hi) j hj

/-- The slice is the call's own, from block base on, and its elements are these. -/
def Owns {α : Type} (e : TypeId) (size : Nat) (enc : α → List Value) (base : Nat) (w : World) (A : Option Addr) (c : Nat) (l : List α) : Prop := w.ownsRow base e size (.slice A l.length c) l.length (l.flatMap enc)
/-- The elements of a slice lie in memory, below a block. -/
def Reads {α : Type} (size : Nat) (enc : α → List Value) (w : World) (B : Nat) (A : Option Addr) (l : List α) : Prop :=
  0 < l.length → ∃ b off, A = some ⟨b, off, none⟩ ∧ b < B ∧ ∀ i (h : i < l.length) j v, (enc l[i])[j]? = some v → w.cell? ⟨b, off + i * size + j, none⟩ = some v

section
variable {α : Type} {e : TypeId} {size base : Nat} {enc : α → List Value} {w w' : World} {A : Option Addr} {c : Nat} {l : List α}

theorem Owns.nil (e : TypeId) (size : Nat) (enc : α → List Value) (base : Nat) (w : World) : Owns e size enc base w none 0 ([] : List α) := World.ownsRow_nil w base e size
theorem Owns.cases (h : Owns e size enc base w A c l) : (A = none ∧ c = 0 ∧ l = []) ∨ ∃ g cur, A = some ⟨g, 0, none⟩ ∧ base ≤ g ∧ w.heap[g]? = some (.cells cur e (0, 0)) ∧ l.length ≤ c ∧ c ≤ maxLen ∧ cur.size = c * size ∧ cur.toList.take (l.length * size) = l.flatMap enc := by
  rcases h.2 with ⟨h1, h2⟩ | ⟨g, cap, cur, h1, h2, h3, h4, h5, h6, h7⟩
  · injection h1 with e1 e2 e3
    exact .inl ⟨e1, e3, List.eq_nil_of_length_eq_zero h2⟩
  · injection h1 with e1 e2 e3
    subst e3
    exact .inr ⟨g, cur, e1, h2, h3, h4, h5, h6, h7⟩
theorem Owns.mk (E : EncTy enc size) {g : Nat} {cur : Array Value} (h2 : base ≤ g) (h3 : w.heap[g]? = some (.cells cur e (0, 0))) (h4 : l.length ≤ c) (h5 : c ≤ maxLen) (h6 : cur.size = c * size) (h7 : cur.toList.take (l.length * size) = l.flatMap enc) : Owns e size enc base w (some ⟨g, 0, none⟩) c l :=
  ⟨E.flat_len l, .inr ⟨g, c, cur, rfl, h2, h3, h4, h5, h6, h7⟩⟩
theorem Owns.lower (h : Owns e size enc base w A c l) {b2 : Nat} (hb : b2 ≤ base) : Owns e size enc b2 w A c l := by
  refine ⟨h.1, ?_⟩
  rcases h.2 with k | ⟨g, cap, cur, h1, h2, h3⟩
  · exact .inl k
  · exact .inr ⟨g, cap, cur, h1, by omega, h3⟩
theorem Owns.ext (h : Owns e size enc base w A c l) (hx : Ext w w') : Owns e size enc base w' A c l := by
  refine ⟨h.1, ?_⟩
  rcases h.2 with k | ⟨g, cap, cur, h1, h2, h3, h4⟩
  · exact .inl k
  · exact .inr ⟨g, cap, cur, h1, h2, (hx.below.block g (Array.getElem?_eq_some_iff.1 h3).1).trans h3, h4⟩
theorem Owns.alloc (h : Owns e size enc base w A c l) (o : Obj) : Owns e size enc base (w.alloc o) A c l := h.ext ((Ext.refl w).alloc o)
theorem Owns.later (h : Owns e size enc base w A c l) (x : Later) : Owns e size enc base (later w x) A c l := h.ext (ext_later w x)
theorem Owns.drew (h : Owns e size enc base w A c l) : Owns e size enc base w.drew A c l := h.ext ((Ext.refl w).drew)
/-- A write into a block below the own ones. -/
theorem Owns.other (h : Owns e size enc base w A c l) {p : Addr} (hp : p.block < base) (v : Value) : Owns e size enc base (w.setCell p v) A c l := by
  refine ⟨h.1, ?_⟩
  rcases h.2 with k | ⟨g, cap, cur, h1, h2, h3, h4⟩
  · exact .inl k
  · exact .inr ⟨g, cap, cur, h1, h2, (heap_setCell_other w p g v (by omega)).trans h3, h4⟩
theorem Owns.others (h : Owns e size enc base w A c l) {m : Nat} (hm : m < base) (o : Nat) (vs : List Value) : Owns e size enc base (w.setCells m o vs) A c l := by
  induction vs generalizing o w with
  | nil => exact h
  | cons v r ih => exact ih (h.other (p := ⟨m, o, none⟩) hm v) (o + 1)
theorem Owns.reads (E : EncTy enc size) (h : Owns e size enc base w A c l) : Reads size enc w w.heap.size A l := by
  intro h0
  rcases h.cases with ⟨_, _, rfl⟩ | ⟨g, cur, rfl, h2, h3, h4, h5, h6, h7⟩
  · simp at h0
  · refine ⟨g, 0, rfl, (Array.getElem?_eq_some_iff.1 h3).1, fun i hi j v hv => ?_⟩
    have hj : j < size := by
      have := (List.getElem?_eq_some_iff.1 hv).1
      rwa [E.len] at this
    have k := E.flat_get l i hi j hj
    rw [hv, ← h7, List.getElem?_take] at k
    split at k
    · simp only [World.cell?, h3]
      simpa using k
    · cases k
theorem Owns.lt (h : Owns e size enc base w A c l) : ∀ a, A = some a → base ≤ a.block ∧ a.block < w.heap.size := by
  rintro a rfl
  rcases h.cases with ⟨k, _⟩ | ⟨g, cur, k, h2, h3, _⟩
  · cases k
  · injection k with k
    subst k
    exact ⟨h2, (Array.getElem?_eq_some_iff.1 h3).1⟩
theorem Reads.ext {B : Nat} (h : Reads size enc w B A l) (hx : Ext w w') (hB : B ≤ w.heap.size) : Reads size enc w' B A l := by
  intro h0
  obtain ⟨b, off, h1, h2, h3⟩ := h h0
  exact ⟨b, off, h1, h2, fun i hi j v hv => (hx.cell (p := ⟨b, off + i * size + j, none⟩) (by show b < _; omega)).trans (h3 i hi j v hv)⟩
theorem Reads.up {B B' : Nat} (h : Reads size enc w B A l) (hB : B ≤ B') : Reads size enc w B' A l := by
  intro h0
  obtain ⟨b, off, h1, h2, h3⟩ := h h0
  exact ⟨b, off, h1, by omega, h3⟩
/-- Read on in a later world. -/
theorem Reads.on (h : Reads size enc w w.heap.size A l) (hx : Ext w w') : Reads size enc w' w'.heap.size A l := (h.ext hx (Nat.le_refl _)).up hx.size
theorem Reads.below {B : Nat} (h : Reads size enc w B A l) (hx : Below B w w') : Reads size enc w' B A l := by
  intro h0
  obtain ⟨b, off, h1, h2, h3⟩ := h h0
  exact ⟨b, off, h1, h2, fun i hi j v hv => (hx.cell (p := ⟨b, off + i * size + j, none⟩) h2).trans (h3 i hi j v hv)⟩
theorem Reads.nil (size : Nat) (enc : α → List Value) (w : World) (B : Nat) (A : Option Addr) : Reads size enc w B A ([] : List α) := fun h => by simp at h
theorem RowAt.below {b : Nat} {cs : Array Value} (h : RowAt w b cs) {B : Nat} (hx : Below B w w') (hb : b < B) : RowAt w' b cs := by
  obtain ⟨t, k⟩ := h
  exact ⟨t, (hx.block b hb).trans k⟩
theorem Ext.grown {w0 : World} (h : Ext w0 w) {B : Nat} (hx : Below B w w') (hb : w0.heap.size ≤ B) : Ext w0 w' := Below.trans h (Below.mono hx hb)
end

theorem Owns.blk {α : Type} {e : TypeId} {size base : Nat} {enc : α → List Value} {w : World} {A : Option Addr} {c n : Nat} {l : List α} (h : Owns e size enc base w A c l) : ∀ k, (Value.slice A n c).ownBlock = some k → base ≤ k := by
  intro k hk
  cases A with
  | none => simp [Value.ownBlock] at hk
  | some a0 =>
    simp [Value.ownBlock] at hk
    subst hk
    exact (h.lt a0 rfl).1
theorem addr_add (b o j : Nat) : (⟨b, o, none⟩ : Addr).add j = ⟨b, o + j, none⟩ := by unfold Addr.add; split <;> simp_all
theorem flat_map {α β : Type} (f : α → β) : ∀ l : List α, l.flatMap (fun a => [f a]) = l.map f
  | [] => rfl
  | x :: l => by rw [List.flatMap_cons, flat_map f l]; rfl
/-- New cells lie in the new block. -/
theorem new_cells (w : World) (cs : Array Value) (t : TypeId) : ∀ j u, cs.toList[j]? = some u → (w.alloc (.cells cs t)).cell? ((⟨w.heap.size, 0, none⟩ : Addr).add j) = some u := by
  intro j u hu
  rw [addr_add, Nat.zero_add, alloc_cell_if, if_pos rfl]
  simpa using hu
theorem Below.of_grownBy {w w' : World} {row : Option Nat} {B : Nat} (h : w.grownBy w' row) (hr : ∀ k, row = some k → B ≤ k) (hB : B ≤ w.heap.size) : Below B w w' :=
  ⟨h.os, h.tape, h.output, h.size, fun k hk => h.block k (by omega) (fun e => by have := hr k e.symm; omega)⟩

section
variable {P : Program} {w : World} {ops : Array Oper} {rest : List Oper} {o : Oper} {a : Act} {Q : Exit → Act → World → Prop} {α : Type} {enc : α → List Value} {t e : TypeId} {size bytes : Nat}

/-- 'append(s, x...)': s the call's own, x a slice that lies somewhere. -/
theorem app_from (T : ElemTy P t e size bytes) (E : EncTy enc size) (hgd : o.guard = none) (s x : Operand) (ho : o.op = .call { callee := .builtin .append, args := #[s, x], argTypes := #[t, t] })
    (base : Nat) (A : Option Addr) (c : Nat) (l : List α) (hs : a.eval s = .slice A l.length c) (hown : Owns e size enc base w A c l)
    (ad : Addr) (m c' : Nat) (news : List α) (hx : a.eval x = .slice (some ad) m c') (hm : news.length = m) (hnews : ∀ j u, (news.flatMap enc)[j]? = some u → w.cell? (ad.add j) = some u)
    (h63 : l.length + m ≤ 140737488355328) (hbytes : (l.length + m) * bytes ≤ 140737488355328) (hbase : base ≤ w.heap.size)
    (h : ∀ (A' : Option Addr) (c' : Nat) (l' : List α) (w' : World), Hid (l' = l ++ news) → Owns e size enc base w' A' c' l' → Below base w w' → l'.length ≤ l.length + m → l.length + m ≤ l'.length → w.grownBy w' (Value.slice A l.length c).ownBlock → wpList P ops Q rest (a.put o.dst (.slice A' l'.length c')) w') :
    wpList P ops Q (o :: rest) a w := by
  obtain ⟨i, z, hi, hz, h1, h2, h3⟩ := T.parts
  subst hm
  refine wpList_append_own w hgd s x t ho base e i z size bytes T.ut hi hz h1 h2 h3 T.pos _ l.length (l.flatMap enc) hs hown ad news.length c' (news.flatMap enc) hx (E.flat_len news) hnews (E.flat_one news) (by unfold maxLen; omega) hbytes hbase ?_
  intro v' w' k1 k2 k3
  have hl : (l ++ news).length = l.length + news.length := List.length_append
  have hv : ∃ A' c'', v' = .slice A' (l ++ news).length c'' := by
    rcases k1.2 with ⟨rfl, q⟩ | ⟨g, cap, cur, rfl, _⟩
    · exact ⟨none, 0, by rw [hl, q]⟩
    · exact ⟨_, _, by rw [hl]⟩
  obtain ⟨A', c'', rfl⟩ := hv
  refine h A' c'' (l ++ news) w' (Lib.hid rfl) ?_ (Below.of_grownBy k2 hown.blk hbase) (by omega) (by omega) k2
  · unfold Owns
    rw [List.flatMap_append, hl]
    rw [hl] at k1
    exact k1
/-- 'append(s, x...)' of a slice that is read, or none. -/
theorem app_reads (T : ElemTy P t e size bytes) (E : EncTy enc size) (hgd : o.guard = none) (s x : Operand) (ho : o.op = .call { callee := .builtin .append, args := #[s, x], argTypes := #[t, t] })
    (base : Nat) (A : Option Addr) (c : Nat) (l : List α) (hs : a.eval s = .slice A l.length c) (hown : Owns e size enc base w A c l)
    (B : Nat) (Ax : Option Addr) (cx : Nat) (news : List α) (hx : a.eval x = .slice Ax news.length cx) (hr : Reads size enc w B Ax news) (h0 : Ax = none → cx = 0)
    (h63 : l.length + news.length ≤ 140737488355328) (hbytes : (l.length + news.length) * bytes ≤ 140737488355328) (hbase : base ≤ w.heap.size)
    (h : ∀ (A' : Option Addr) (c' : Nat) (l' : List α) (w' : World), Hid (l' = l ++ news) → Owns e size enc base w' A' c' l' → Below base w w' → l'.length ≤ l.length + news.length → l.length + news.length ≤ l'.length → w.grownBy w' (Value.slice A l.length c).ownBlock → wpList P ops Q rest (a.put o.dst (.slice A' l'.length c')) w') :
    wpList P ops Q (o :: rest) a w := by
  cases Ax with
  | some ad =>
    refine app_from T E hgd s x ho base A c l hs hown ad news.length cx news hx rfl ?_ h63 hbytes hbase h
    intro j u hu
    have hj := (List.getElem?_eq_some_iff.1 hu).1
    rw [E.flat_len] at hj
    have hpos : 0 < news.length := by
      rcases Nat.eq_zero_or_pos news.length with q | q
      · rw [q] at hj; simp at hj
      · exact q
    obtain ⟨b, off, h1, _, h3⟩ := hr hpos
    injection h1 with h1
    subst h1
    have hd : j / size < news.length := Nat.div_lt_of_lt_mul (by rw [Nat.mul_comm]; exact hj)
    have hm : j % size < size := Nat.mod_lt _ T.pos
    have e1 : j = j / size * size + j % size := by rw [Nat.mul_comm]; exact (Nat.div_add_mod j size).symm
    have k := E.flat_get news (j / size) hd (j % size) hm
    rw [← e1, hu] at k
    have := h3 (j / size) hd (j % size) u k.symm
    rw [addr_add]
    rw [Nat.add_assoc, ← e1] at this
    exact this
  | none =>
    have hn : news = [] := by
      rcases Nat.eq_zero_or_pos news.length with q | q
      · exact List.eq_nil_of_length_eq_zero q
      · obtain ⟨b, off, h1, _⟩ := hr q
        cases h1
    subst hn
    have := h0 rfl
    subst this
    obtain ⟨i, z, hi, hz, h1, h2, h3⟩ := T.parts
    refine wpList_append_own_none hgd s x t ho base e i size T.ut hi _ l.length (l.flatMap enc) hs hown hx ?_
    exact h A c l w (Lib.hid (by simp)) hown (Below.refl _ _) (by simp) (by simp) ⟨rfl, rfl, rfl, Nat.le_refl _, fun _ _ _ => rfl⟩
end

/-! ### Bytes -/
def encB (x : Int) : List Value := [.int .u8 x]
theorem bE : EncTy encB 1 := ⟨fun _ => rfl, fun x v hv => by simp [encB] at hv; subst hv; rfl⟩
theorem bT : ElemTy Tryz.prog 118 5 1 1 := ⟨by kernel_rfl, by kernel_rfl, by omega⟩
abbrev OwnsB (base : Nat) (w : World) (A : Option Addr) (c : Nat) (l : List Int) : Prop := Owns 5 1 encB base w A c l
abbrev ReadsB (w : World) (B : Nat) (A : Option Addr) (l : List Int) : Prop := Reads 1 encB w B A l
theorem ReadsB.cell {w : World} {B : Nat} {A : Option Addr} {l : List Int} (h : ReadsB w B A l) (h0 : 0 < l.length) : ∃ b off, A = some ⟨b, off, none⟩ ∧ b < B ∧ ∀ i, i < l.length → w.cell? ⟨b, off + i, none⟩ = some (.int .u8 (l.getD i 0)) := by
  obtain ⟨b, off, h1, h2, h3⟩ := h h0
  refine ⟨b, off, h1, h2, fun i hi => ?_⟩
  have := h3 i hi 0 (.int .u8 l[i]) rfl
  rw [Nat.mul_one, Nat.add_zero] at this
  rw [this]
  simp [hi]
/-- Bytes as a text. -/
theorem conv_bytes {w : World} {B : Nat} {A : Option Addr} {l : List Int} (c : Nat) (h : ReadsB w B A l) (h0 : 0 < l.length) : (convert 118 9 (.slice A l.length c)).run Tryz.prog w = .ok (.string (strOfNums l)) w := by
  obtain ⟨b, off, rfl, _, h3⟩ := h.cell h0
  exact run_convert_bytes_arg w 118 5 (by kernel_rfl) (by kernel_rfl) b off l.length c l rfl h3 9 (by kernel_rfl)
theorem bts_nums {l : List Int} (h : ∀ x ∈ l, 0 ≤ x ∧ x < 256) : bts (strOfNums l) = l := by
  unfold bts
  rw [strOfNums_data, List.map_map]
  conv => rhs; rw [← List.map_id l]
  apply List.map_congr_left
  intro x hx
  have := h x hx
  simp
  omega
theorem nums_bts (s : ByteArray) : strOfNums (bts s) = s := by
  apply ByteArray.ext
  apply Array.toList_inj.1
  rw [strOfNums_data]
  unfold bts
  rw [List.map_map]
  conv => rhs; rw [← List.map_id s.data.toList]
  apply List.map_congr_left
  intro x hx
  simp
section
variable {w : World} {ops : Array Oper} {rest : List Oper} {o : Oper} {a : Act} {Q : Exit → Act → World → Prop}
/-- 'append(s, x...)', x a text. -/
theorem app_str (hgd : o.guard = none) (s x : Operand) (ho : o.op = .call { callee := .builtin .append, args := #[s, x], argTypes := #[118, 9] })
    (base : Nat) (A : Option Addr) (c : Nat) (l : List Int) (hs : a.eval s = .slice A l.length c) (hown : OwnsB base w A c l) (r : ByteArray) (hx : a.eval x = .string r)
    (hbytes : l.length + r.size ≤ 140737488355328) (hbase : base ≤ w.heap.size)
    (h : ∀ (A' : Option Addr) (c' : Nat) (l' : List Int) (w' : World), Hid (l' = l ++ bts r) → OwnsB base w' A' c' l' → Below base w w' → l'.length ≤ l.length + r.size → l.length + r.size ≤ l'.length → wpList Tryz.prog ops Q rest (a.put o.dst (.slice A' l'.length c')) w') :
    wpList Tryz.prog ops Q (o :: rest) a w := by
  have hinf : (Tryz.prog.info? 5).map (fun i => (i.zero, i.size, i.bytes)) = some (some (.int .u8 0), 1, 1) := by kernel_rfl
  obtain ⟨i, hi, hz, h1, h2⟩ := info_parts hinf
  refine Lib.wpList_append_own_string w hgd s x 118 9 ho base 5 i (by kernel_rfl) (by kernel_rfl) hi hz h1 h2 _ l.length (l.flatMap encB) hs hown r hx (by unfold maxLen; omega) hbytes hbase ?_
  intro v' w' k1 k2 k3
  have hl : (l ++ bts r).length = l.length + r.size := by rw [List.length_append, bts_length]
  have hv : ∃ A' c'', v' = .slice A' (l ++ bts r).length c'' := by
    rcases k1.2 with ⟨rfl, q⟩ | ⟨g, cap, cur, rfl, _⟩
    · exact ⟨none, 0, by rw [hl, q]⟩
    · exact ⟨_, _, by rw [hl]⟩
  obtain ⟨A', c'', rfl⟩ := hv
  refine h A' c'' (l ++ bts r) w' (Lib.hid rfl) ?_ (Below.of_grownBy k2 hown.blk hbase) (by omega) (by omega)
  · have e : (bts r).flatMap encB = Lib.strCells r := by
      rw [show encB = (fun x => [Value.int .u8 x]) from rfl, flat_map, bts, List.map_map]
      rfl
    show w'.ownsRow _ _ _ _ _ _
    rw [List.flatMap_append, hl, e]
    rw [hl] at k1
    exact k1
end
theorem Owns.none0 {α : Type} {e : TypeId} {size base : Nat} {enc : α → List Value} {w : World} {A : Option Addr} {c : Nat} {l : List α} (h : Owns e size enc base w A c l) : A = none → c = 0 := by
  rintro rfl
  rcases h.cases with ⟨_, h1, _⟩ | ⟨g, cur, h1, _⟩
  · exact h1
  · cases h1
def encStr (s : ByteArray) : List Value := [.string s]
theorem sE : EncTy encStr 1 := ⟨fun _ => rfl, fun x v hv => by simp [encStr] at hv; subst hv; rfl⟩
end Go.Proofs.YtpjacgcaibaggaaGreatDoor
