-- written by wip/mkprint.py: the kit's print over functions some of which are told by hand. Not trusted: Lean checks it.
import Derived.Test.YtpnkkhichkmmmaaDoorBUQ0
import Derived.Test.YtpnkkhichkmmmaaDoorBUQ2
import Derived.Test.YtpnkkhichkmmmaaDoorBUQ4
import Derived.Test.YtpnkkhichkmmmaaDoorBUQ5
import Derived.Test.YtpnkkhichkmmmaaDoorBUQ8
import Derived.Test.YtpnkkhichkmmmaaDoorBUQ9
import Derived.Test.YtpnkkhichkmmmaaDoorBUOps
namespace Go.Proofs.YtpnkkhichkmmmaaDoor.Q
open Go.RowKit Go.Proofs.YtpnkkhichkmmmaaDoorW.PrintWords Go.Proofs.YtpnkkhichkmmmaaDoorW.PrintLast Go.Proofs.YtpnkkhichkmmmaaDoorW.PrintMore
attribute [local go_sem] max2_int min2_int max_two min_two
set_option linter.unusedVariables false
set_option linter.unusedSimpArgs false

/-! ### unicodetextlaw02_CpsetTexts: function 3 -/
def unicodetextlaw02_CpsetTexts.j0 : Nat → ByteArray → Bool → List (S43) → Option (Bool)
  | 0, _, _, _ => none
  | k + 1, x1, x16, x288000 => if x16 = true then ((unicodetextlaw02_alive.f k).bind fun t289 => (some t289)) else ((cpset_Parse.f k x1).bind fun bt290 => ((unicodetextref02_Parse.f k x1).bind fun bt295 => ((cpset_Text.f x288000).bind fun t300 => ((unicodetextref02_Text.f k x288000).bind fun t301 => (if t300.toList = t301.toList then ((unicodetextref02_Same.f k bt290.1 bt295.1).bind fun t302 => (if t302 = true then (if bt290.2 = bt295.2 then ((unicodetextlaw02_alive.f k).bind fun t303 => (some t303)) else (some false)) else (some false))) else (some false))))))
def unicodetextlaw02_CpsetTexts.f (k : Nat) (l0_0 : List (S43)) (a1 : ByteArray) : Option (Bool) := (unicodetextref02_Small.f l0_0).bind fun t288 => (if t288 = true then (unicodetextlaw02_CpsetTexts.j0 k a1 (decide ((a1.size : Int) > 400)) l0_0) else (unicodetextlaw02_CpsetTexts.j0 k a1 true l0_0))
theorem unicodetextlaw02_CpsetTexts.mono_l : ∀ k, (∀ y0 y1 y2, LeO (unicodetextlaw02_CpsetTexts.j0 k y0 y1 y2) (unicodetextlaw02_CpsetTexts.j0 (k + 1) y0 y1 y2))
  | 0 => fun _ _ _ r h => by simp [unicodetextlaw02_CpsetTexts.j0] at h
  | k + 1 => by
    have ih0 := unicodetextlaw02_CpsetTexts.mono_l k
    · intro y0 y1 y2
      unfold unicodetextlaw02_CpsetTexts.j0
      repeat' first
      | (with_reducible exact ih0 _ _ _)
      | (with_reducible exact cpset_Parse.mono _ _)
      | (with_reducible exact unicodetextlaw02_alive.mono _)
      | (with_reducible exact unicodetextref02_Parse.mono _ _)
      | (with_reducible exact unicodetextref02_Same.mono _ _ _)
      | (with_reducible exact unicodetextref02_Text.mono _ _)
      | (with_reducible exact LeO.refl _)
      | (with_reducible exact LeO.none _)
      | (with_reducible refine LeO.ite ?_ ?_)
      | (with_reducible refine LeO.bind ?_ (fun _ => ?_))
      | exact ih0 _ _ _
      | exact cpset_Parse.mono _ _
      | exact unicodetextlaw02_alive.mono _
      | exact unicodetextref02_Parse.mono _ _
      | exact unicodetextref02_Same.mono _ _ _
      | exact unicodetextref02_Text.mono _ _
      | exact LeO.none _
      | refine LeO.ite ?_ ?_
      | refine LeO.bind ?_ (fun _ => ?_)
theorem unicodetextlaw02_CpsetTexts.mono : ∀ a0 a1 k, LeO (unicodetextlaw02_CpsetTexts.f k a0 a1) (unicodetextlaw02_CpsetTexts.f (k + 1) a0 a1) := by
  intro a0 a1 k
  have ih0 := unicodetextlaw02_CpsetTexts.mono_l k
  unfold unicodetextlaw02_CpsetTexts.f
  repeat' first
      | (with_reducible exact ih0 _ _ _)
      | (with_reducible exact cpset_Parse.mono _ _)
      | (with_reducible exact unicodetextlaw02_alive.mono _)
      | (with_reducible exact unicodetextref02_Parse.mono _ _)
      | (with_reducible exact unicodetextref02_Same.mono _ _ _)
      | (with_reducible exact unicodetextref02_Text.mono _ _)
      | (with_reducible exact LeO.refl _)
      | (with_reducible exact LeO.none _)
      | (with_reducible refine LeO.ite ?_ ?_)
      | (with_reducible refine LeO.bind ?_ (fun _ => ?_))
      | exact ih0 _ _ _
      | exact cpset_Parse.mono _ _
      | exact unicodetextlaw02_alive.mono _
      | exact unicodetextref02_Parse.mono _ _
      | exact unicodetextref02_Same.mono _ _ _
      | exact unicodetextref02_Text.mono _ _
      | exact LeO.none _
      | refine LeO.ite ?_ ?_
      | refine LeO.bind ?_ (fun _ => ?_)
end Go.Proofs.YtpnkkhichkmmmaaDoor.Q
