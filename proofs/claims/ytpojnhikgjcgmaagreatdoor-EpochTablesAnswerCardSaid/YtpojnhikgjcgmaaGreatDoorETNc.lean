import Derived.Test.YtpojnhikgjcgmaaGreatDoorProg
import Derived.Test.YtpojnhikgjcgmaaGreatDoorEOwn
import Derived.WalkKit
import Derived.WalkSpells
import Derived.WalkLawsBesides
import Derived.Deep.QuietTactic
import Derived.BigQuiet
import Derived.Test.YtpojnhikgjcgmaaGreatDoorENx
import Derived.Test.YtpojnhikgjcgmaaGreatDoorENx
set_option linter.unusedVariables false
set_option linter.unusedSimpArgs false
namespace Go.Proofs.YtpojnhikgjcgmaaGreatDoor
open Go.RowKit Go.Shelf
open Go.Proofs
open Ad (Bs)
theorem issued_num {k : Ky} {l : List Ep} (h : IssuedOk k l) (i : Nat) (hi : i < l.length) : l[i].num = (i : Int) + 1 := by
 have := (follows_is (issued_follows h i hi)).2.1
 rw [this, List.length_take, Nat.min_eq_left (by omega)]
theorem state_le {l m : List Ep} (lo : Int) (a t : Bs) : stateB l lo a t ≤ stateB (l ++ m) lo a t := by
 unfold stateB
 rw [List.foldl_append]
 generalize l.foldl (fun m e => max m (removesB e lo a t)) 0 = v
 have : ∀ (m : List Ep) (v : Int), v ≤ m.foldl (fun m e => max m (removesB e lo a t)) v := by
  intro m
  induction m with
  | nil => intro v; exact Int.le_refl _
  | cons y r ih =>
   intro v
   rw [List.foldl_cons]
   exact Int.le_trans (Int.le_max_left _ _) (ih _)
 exact this m v
theorem state_fresh {k : Ky} {l : List Ep} (h : IssuedOk k l) (a t : Bs) (lo : Int) (hlo : lastHi l < lo) : stateB l lo a t = 0 := by
 have h0 : ∀ e ∈ l, removesB e lo a t = 0 := by
  intro e he
  obtain ⟨i, hi, rfl⟩ := List.getElem_of_mem he
  have h1 := issued_hi h (l.length - 1) i (by omega) (by omega)
  have h2 : lastHi l = (l[l.length - 1]'(by omega)).hi := by
   have := (last_take (l := l) (i := l.length - 1) (by omega)).2.1
   rwa [show l.length - 1 + 1 = l.length by omega, List.take_length] at this
  unfold removesB
  rw [if_pos (by omega)]
 unfold stateB
 have : ∀ (m : List Ep), (∀ e ∈ m, removesB e lo a t = 0) → m.foldl (fun m e => max m (removesB e lo a t)) 0 = 0 := by
  intro m
  induction m with
  | nil => intro _; rfl
  | cons y r ih =>
   intro hm
   rw [List.foldl_cons, hm y (by simp)]
   exact ih (fun e he => hm e (by simp [he]))
 exact this l h0
end Go.Proofs.YtpojnhikgjcgmaaGreatDoor