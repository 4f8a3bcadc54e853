-- written by wip/mkprint.py: the kit's print over functions some of which are told by hand. Not trusted: Lean checks it.
import Derived.Test.YtpnkkhichkmmmaaDoorBUQ0
import Derived.Test.YtpnkkhichkmmmaaDoorBUQ2
import Derived.Test.YtpnkkhichkmmmaaDoorBUQ3
import Derived.Test.YtpnkkhichkmmmaaDoorBUQ5
import Derived.Test.YtpnkkhichkmmmaaDoorBUOps
namespace Go.Proofs.YtpnkkhichkmmmaaDoor.Q
open Go.RowKit Go.Proofs.YtpnkkhichkmmmaaDoorW.PrintWords Go.Proofs.YtpnkkhichkmmmaaDoorW.PrintLast Go.Proofs.YtpnkkhichkmmmaaDoorW.PrintMore
attribute [local go_sem] max2_int min2_int max_two min_two
set_option linter.unusedVariables false
set_option linter.unusedSimpArgs false

/-! ### unicodetextlaw02_CpsetHas: function 4 -/
def unicodetextlaw02_CpsetHas.f (k : Nat) (l0_0 : List (S43)) (a1 : Int) : Option (Bool) := (unicodetextref02_Small.f l0_0).bind fun t305 => (if t305 = true then ((cpset_Has.f l0_0 a1).bind fun t307 => ((unicodetextref02_Has.f k l0_0 a1).bind fun t308 => (if (t307 == t308) = true then ((cpset_Make.f k l0_0).bind fun t309 => ((cpset_Has.f t309 a1).bind fun t312 => ((unicodetextref02_Has.f k l0_0 a1).bind fun t313 => (if (t312 == t313) = true then ((unicodetextlaw02_alive.f k).bind fun t314 => (some t314)) else (some false))))) else (some false)))) else ((unicodetextlaw02_alive.f k).bind fun t306 => (some t306)))
theorem unicodetextlaw02_CpsetHas.mono : ∀ a0 a1 k, LeO (unicodetextlaw02_CpsetHas.f k a0 a1) (unicodetextlaw02_CpsetHas.f (k + 1) a0 a1) := by
  intro a0 a1 k
  unfold unicodetextlaw02_CpsetHas.f
  repeat' first
      | (with_reducible exact cpset_Make.mono _ _)
      | (with_reducible exact unicodetextlaw02_alive.mono _)
      | (with_reducible exact unicodetextref02_Has.mono _ _ _)
      | (with_reducible exact LeO.refl _)
      | (with_reducible exact LeO.none _)
      | (with_reducible refine LeO.ite ?_ ?_)
      | (with_reducible refine LeO.bind ?_ (fun _ => ?_))
      | exact cpset_Make.mono _ _
      | exact unicodetextlaw02_alive.mono _
      | exact unicodetextref02_Has.mono _ _ _
      | exact LeO.none _
      | refine LeO.ite ?_ ?_
      | refine LeO.bind ?_ (fun _ => ?_)
/-! ### unicodetextlaw02_small: function 22 -/
end Go.Proofs.YtpnkkhichkmmmaaDoor.Q
