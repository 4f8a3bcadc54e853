/-
  DERIVED. What cpset's functions compute, in the print's own form (Has, Count, Nth, Text, Or, And, Minus, Not).
-/
import Derived.Test.YtpnkkhichkmmmaaGreatDoorPairSem
import Derived.Test.YtpnkkhichkmmmaaGreatDoorIter
import Derived.Test.YtpnkkhichkmmmaaGreatDoorText
namespace Go.Proofs.YtpnkkhichkmmmaaGreatDoor.Q
set_option linter.unusedVariables false
set_option linter.unusedSimpArgs false
open Go.RowKit Go.Proofs.YtpnkkhichkmmmaaGreatDoorW.PrintWords Go.Proofs.YtpnkkhichkmmmaaGreatDoorW.PrintLast Go.Proofs.YtpnkkhichkmmmaaGreatDoorW.PrintMore

def cpset_Has.f (l : List Rg) (c : Int) : Option Bool := if l.length ≤ 100000 then some (hasL l c) else none
def cpset_Count.f (l : List Rg) : Option Int := if l.length ≤ 100000 then some (countL (makeL l)) else none
def nthR (ys : List Rg) (i : Int) : Int × Bool := if i < 0 then (0, false) else nthL ys i
def cpset_Nth.f (l : List Rg) (i : Int) : Option (Int × Bool) := if l.length ≤ 100000 then some (nthR (makeL l) i) else none
def cpset_Text.f (l : List Rg) : Option ByteArray := if l.length ≤ 100000 then strings_Join.f ((makeL l).map partB) ⟨#[32]⟩ else none
def cpset_Or.f (a b : List Rg) : Option (List Rg) := if a.length ≤ 100000 ∧ b.length ≤ 100000 then some (combL (fun x y => x || y) a b) else none
def cpset_And.f (a b : List Rg) : Option (List Rg) := if a.length ≤ 100000 ∧ b.length ≤ 100000 then some (combL (fun x y => x && y) a b) else none
def cpset_Minus.f (a b : List Rg) : Option (List Rg) := if a.length ≤ 100000 ∧ b.length ≤ 100000 then some (combL (fun x y => x && !y) a b) else none
def cpset_Not.f (a : List Rg) : Option (List Rg) := if a.length ≤ 100000 then some (combL (fun x _ => !x) a []) else none

end Go.Proofs.YtpnkkhichkmmmaaGreatDoor.Q
