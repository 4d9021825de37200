/- What comes in with an entry. -/
import Derived.Test.YtpjacgcaibaggaaGreatDoorProg
import Derived.Test.YtpjacgcaibaggaaGreatDoorExt
import Derived.WalkKit
import Derived.WalkSpells
import Derived.WalkLawsBesides
import Derived.Deep.QuietTactic
import Derived.BigQuiet
import Derived.Test.YtpjacgcaibaggaaGreatDoorEv
import Derived.Test.YtpjacgcaibaggaaGreatDoorOj
set_option linter.unusedVariables false
set_option linter.unusedSimpArgs false
namespace Go.Proofs.YtpjacgcaibaggaaGreatDoor
open Go.RowKit
open Go.Proofs
open Go.Proofs.Sp (Sp)

def fineB (e : En) (l : List Sp) : Bool := lightB e l.length && validB e l
end Go.Proofs.YtpjacgcaibaggaaGreatDoor

namespace Go.Proofs.YtpjacgcaibaggaaGreatDoor
open Go.RowKit Go.Shelf
open Go.Proofs
open Go.Proofs.Sp (Sp)

/-- What comes in with an entry. -/
structure EntIn (e : En) (A : Option Addr) (c : Nat) (l : List Sp) (w : World) : Prop where
  hv : e.hv = .slice A l.length c
  hl : l.length ≤ 9223372036854775807
  h1 : e.st.addr.size ≤ 9223372036854775807
  h2 : e.st.var.size ≤ 9223372036854775807
  h3 : e.st.tags.size ≤ 9223372036854775807
  h4 : e.bytes.size ≤ 9223372036854775807
  hb : e.st.body.length = 16
  hby : Byt e.st.body
  hA : plainA A
  hr : ReadsSp w w.heap.size A l
  z : A = none → c = 0
  hs : e.st.seal_.length = 16
theorem fineB_bd {e : En} {l : List Sp} (h : fineB e l = true) : l.length ≤ 40 ∧ 0 ≤ e.st.lo ∧ e.st.lo ≤ e.st.hi ∧ e.st.hi ≤ 1099511627776 := by
  simp only [fineB, lightB, validB, rightB, Bool.and_eq_true, decide_eq_true_eq] at h
  omega
theorem ru_all (r : Ru) (h : (ruC r).size = 18) : rowSub (ruC r) 0 18 = some (ruC r) := rowSub_all _ _ h.symm
end Go.Proofs.YtpjacgcaibaggaaGreatDoor
