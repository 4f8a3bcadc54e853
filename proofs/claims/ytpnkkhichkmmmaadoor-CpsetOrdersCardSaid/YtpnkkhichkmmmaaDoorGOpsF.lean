/-
  DERIVED. What cpset's functions compute, in the print's own form (Has, Count, Nth, Text, Or, And, Minus, Not).
-/
import Derived.Test.YtpnkkhichkmmmaaDoorGPairSem
import Derived.Test.YtpnkkhichkmmmaaDoorGIter
import Derived.Test.YtpnkkhichkmmmaaDoorGText
namespace Go.Proofs.YtpnkkhichkmmmaaDoor.Q
set_option linter.unusedVariables false
set_option linter.unusedSimpArgs false
open Go.RowKit Go.Proofs.YtpnkkhichkmmmaaDoorW.PrintWords Go.Proofs.YtpnkkhichkmmmaaDoorW.PrintLast Go.Proofs.YtpnkkhichkmmmaaDoorW.PrintMore

def cpset_Has.f (l : List Rg) (c : Int) : Option Bool := if l.length ≤ 100000 then some (hasL l c) else none
def cpset_Count.f (l : List Rg) : Option Int := if l.length ≤ 100000 then some (countL (makeL l)) else none
def cpset_Text.f (l : List Rg) : Option ByteArray := if l.length ≤ 100000 then strings_Join.f ((makeL l).map partB) ⟨#[32]⟩ else none
def cpset_Or.f (a b : List Rg) : Option (List Rg) := if a.length ≤ 100000 ∧ b.length ≤ 100000 then some (combL (fun x y => x || y) a b) else none
def cpset_And.f (a b : List Rg) : Option (List Rg) := if a.length ≤ 100000 ∧ b.length ≤ 100000 then some (combL (fun x y => x && y) a b) else none
def cpset_Minus.f (a b : List Rg) : Option (List Rg) := if a.length ≤ 100000 ∧ b.length ≤ 100000 then some (combL (fun x y => x && !y) a b) else none
def cpset_Not.f (a : List Rg) : Option (List Rg) := if a.length ≤ 100000 then some (combL (fun x _ => !x) a []) else none

end Go.Proofs.YtpnkkhichkmmmaaDoor.Q
