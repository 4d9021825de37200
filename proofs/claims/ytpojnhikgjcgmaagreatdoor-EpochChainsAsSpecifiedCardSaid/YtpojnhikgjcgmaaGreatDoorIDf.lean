/- Appending onto a slice with no room; a guarded operation that is wanted. -/
import Derived.WalkKit
import Derived.WalkSpells
import Derived.WalkLawsBesides
import Derived.Deep.QuietTactic
import Derived.BigQuiet
import Derived.Test.YtpojnhikgjcgmaaGreatDoorIYs
set_option linter.unusedVariables false
set_option linter.unusedSimpArgs false
namespace Go.Proofs.YtpojnhikgjcgmaaGreatDoor
open Go.RowKit Go.Shelf Go.Maps
open Go.Proofs
section
variable {P : Program} {w : World} {ops : Array Oper} {rest : List Oper} {o : Oper} {a : Act} {Q : Exit → Act → World → Prop} {α : Type} {enc : α → List Value} {t e : TypeId} {size bytes : Nat}
theorem app_empty (T : ElemTy P t e size bytes) (E : EncTy enc size) (hgd : o.guard = none) (s x : Operand) (ho : o.op = .call { callee := .builtin .append, args := #[s, x], argTypes := #[t, t] })
  (base : Nat) (A : Option Addr) (hs : a.eval s = .slice A 0 0) (hown : Owns e size enc base w A 0 ([] : List α))
  (B : Nat) (Ax : Option Addr) (cx : Nat) (news : List α) (hx : a.eval x = .slice Ax news.length cx) (hr : Reads size enc w B Ax news) (h0 : Ax = none → cx = 0)
  (h63 : news.length ≤ 140737488355328) (hbytes : news.length * bytes ≤ 140737488355328) (hbase : base ≤ w.heap.size)
  (h : ∀ (A' : Option Addr) (c' : Nat) (l' : List α) (w' : World), Hid (l' = news) → Owns e size enc base w' A' c' l' → Ext w w' → wpList P ops Q rest (a.put o.dst (.slice A' l'.length c')) w') :
  wpList P ops Q (o :: rest) a w := by
 rcases hown.cases with ⟨rfl, _, _⟩ | ⟨g, cur, rfl, hb, hg, _, _, hcs, _⟩
 ·refine app_reads T E hgd s x ho w.heap.size none 0 [] hs (Owns.nil _ _ _ _ _) B Ax cx news hx hr h0 (by simpa using h63) (by simpa using hbytes) (Nat.le_refl _) ?_
  intro A' c' l' w' hl ho hB _ _ _
  exact h A' c' l' w' (lh (by have := hl.out; simpa using this)) (ho.lower hbase) hB
 ·obtain ⟨i, z, hi, hz, h1, h2, h3⟩ := T.parts
  subst h1
  by_cases hn : news.length = 0
  ·have hn0 := List.eq_nil_of_length_eq_zero hn
   subst hn0
   cases Ax with
   | none =>
    have hc := h0 rfl
    subst hc
    exact wpList_append_own_none hgd s x t ho base e i i.size T.ut hi _ 0 [] hs hown hx (h (some ⟨g, 0, none⟩) 0 [] w (lh rfl) hown (eR _))
   | some ad =>
    refine wpList_plain hgd fun K hK => ?_
    have hrun := run_append_room (P := P) w t o.type e i T.ut hi g 0 0 cur hg ad 0 cx [] (by simp) (by simp) (by simp) (Nat.le_refl _) (by simp)
    have hw : w.setRow g (cur.toList.take (0 * i.size) ++ [] ++ cur.toList.drop (0 * i.size + ([] : List Value).length)).toArray = w := by
     have h4 : (cur.toList.take (0 * i.size) ++ [] ++ cur.toList.drop (0 * i.size + ([] : List Value).length)).toArray = cur := by simp
     rw [h4]
     exact setRow_self w g cur e (0, 0) hg
    rw [hw] at hrun
    unfold Oper.wp execOp
    simp only [ho, resolve, invoke, builtin, Sem.run_bind, Sem.run_pure, Result.andThen_ok, List.map_toArray, List.map_cons, List.map_nil, hs, hx, List.length_nil, hrun]
    exact hK _ _ (h (some ⟨g, 0, none⟩) 0 [] w (lh rfl) hown (eR _))
  ·obtain ⟨b, off, rfl, _, hrd⟩ := hr (by omega)
   have hnews : ∀ j u, (news.flatMap enc)[j]? = some u → w.cell? ((⟨b, off, none⟩ : Addr).add j) = some u := by
    intro j u hu
    have hj := (List.getElem?_eq_some_iff.1 hu).1
    rw [E.flat_len] at hj
    have hd : j / i.size < news.length := Nat.div_lt_of_lt_mul (by rw [Nat.mul_comm]; exact hj)
    have hm : j % i.size < i.size := Nat.mod_lt _ T.pos
    have e1 : j = j / i.size * i.size + j % i.size := by rw [Nat.mul_comm]; exact (Nat.div_add_mod j i.size).symm
    have k := E.flat_get news (j / i.size) hd (j % i.size) hm
    rw [← e1, hu] at k
    have := hrd (j / i.size) hd (j % i.size) u k.symm
    rw [addr_add]
    rw [Nat.add_assoc, ← e1] at this
    exact this
   refine wpList_plain hgd fun K hK => ?_
   have hrun := run_append_grow (P := P) w t o.type e i z T.ut hi hz ⟨g, 0, none⟩ 0 0 [] (by simp) (by simp) ⟨b, off, none⟩ news.length cx (news.flatMap enc) (E.flat_len news) hnews (by omega) (by omega) (growslice_fits (by omega) (by rw [h2]; simpa using hbytes))
   rw [Nat.zero_add] at hrun
   unfold Oper.wp execOp
   simp only [ho, resolve, invoke, builtin, Sem.run_bind, Sem.run_pure, Result.andThen_ok, List.map_toArray, List.map_cons, List.map_nil, hs, hx, hrun]
   have hcm := grownCap_le_maxLen w news.length 0 e (by unfold maxLen; omega)
   have hge := grownCap_ge w news.length 0 e
   have hO : Owns e i.size enc base (w.drew.alloc (.cells (([] : List Value).toArray ++ (news.flatMap enc).toArray ++ Builtin.zeroCells z.cells (grownCap w news.length 0 e - news.length)) e)) (some ⟨w.heap.size, 0, none⟩) (grownCap w news.length 0 e) news := by
    refine Owns.mk E hbase (heap_alloc_new w.drew _) hge hcm ?_ ?_
    ·simp only [Array.size_append, List.size_toArray, size_zeroCells, h3, E.flat_len, List.length_nil, Nat.zero_add, ← Nat.add_mul]
     congr 1
     omega
    ·simp only [Array.toList_append, List.append_assoc, List.nil_append]
     exact List.take_left' (E.flat_len news)
   have hX : Ext w (w.drew.alloc (.cells (([] : List Value).toArray ++ (news.flatMap enc).toArray ++ Builtin.zeroCells z.cells (grownCap w news.length 0 e - news.length)) e)) := ((Ext.refl w).drew).alloc _
   exact hK _ _ (h _ _ news _ (lh rfl) hO hX)
theorem wpList_want {o : Oper} (h : Region.wanted o (yielded ops a.tmps) = true) (k : wpList P ops Q ({ o with guard := none } :: rest) a w) : wpList P ops Q (o :: rest) a w := by
 have h0 : Region.wanted { o with guard := none } (yielded ops a.tmps) = true := rfl
 unfold wpList at k ⊢
 rw [if_pos h]
 rw [if_pos h0] at k
 exact k
end
theorem mem_short {s : Ep} (h : EpShort s) (A : Option Addr) (c : Nat) (A2 : Option Addr) (c2 : Nat) : EpShort (memE s A c A2 c2) := ⟨h.pu, h.rv, h.what⟩
def own0 (base : Nat) : Soft := ⟨fun v w => ∃ A, v = .slice A 0 0 ∧ OwnsEp base w A 0 [], fun v w w' ⟨A, h1, h2⟩ hx => ⟨A, h1, h2.ext hx⟩⟩
end Go.Proofs.YtpojnhikgjcgmaaGreatDoor