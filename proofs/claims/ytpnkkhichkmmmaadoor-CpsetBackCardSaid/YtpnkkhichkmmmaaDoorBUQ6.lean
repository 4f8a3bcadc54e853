-- written by wip/mkprint.py: the kit's print over functions some of which are told by hand. Not trusted: Lean checks it.
import Derived.Test.YtpnkkhichkmmmaaDoorBUQ0
import Derived.Test.YtpnkkhichkmmmaaDoorBUQ5
namespace Go.Proofs.YtpnkkhichkmmmaaDoor.Q
open Go.RowKit Go.Proofs.YtpnkkhichkmmmaaDoorW.PrintWords Go.Proofs.YtpnkkhichkmmmaaDoorW.PrintLast Go.Proofs.YtpnkkhichkmmmaaDoorW.PrintMore
attribute [local go_sem] max2_int min2_int max_two min_two
set_option linter.unusedVariables false
set_option linter.unusedSimpArgs false

/-! ### unicodetextref02_Cuts: function 71 -/
def unicodetextref02_Cuts.l0 : Nat → List Int → Int → List (S43) → Option (List Int)
  | 0, _, _, _ => none
  | k + 1, x0, x5, x198000 => if x5 < (x198000.length : Int) then (if 0 ≤ x5 then ((unicodetextref01_Valid.f ((rd_T43 x198000 x5).f0)).bind fun t203 => (if t203 = true then ((unicodetextref02_place.f k x0 ((rd_T43 x198000 x5).f0)).bind fun t204 => (if ((rd_T43 x198000 x5).f1) ≥ 0 then (if ((rd_T43 x198000 x5).f1) < 1114111 then ((unicodetextref02_place.f k t204 (wrap64 (((rd_T43 x198000 x5).f1) + 1))).bind fun t207 => (unicodetextref02_Cuts.l0 k t207 (wrap64 (x5 + 1)) x198000)) else (unicodetextref02_Cuts.l0 k t204 (wrap64 (x5 + 1)) x198000)) else (unicodetextref02_Cuts.l0 k t204 (wrap64 (x5 + 1)) x198000))) else (if ((rd_T43 x198000 x5).f1) ≥ 0 then (if ((rd_T43 x198000 x5).f1) < 1114111 then ((unicodetextref02_place.f k x0 (wrap64 (((rd_T43 x198000 x5).f1) + 1))).bind fun t210 => (unicodetextref02_Cuts.l0 k t210 (wrap64 (x5 + 1)) x198000)) else (unicodetextref02_Cuts.l0 k x0 (wrap64 (x5 + 1)) x198000)) else (unicodetextref02_Cuts.l0 k x0 (wrap64 (x5 + 1)) x198000)))) else (none)) else ((unicodetextref02_place.f k x0 0).bind fun t198 => (some t198))
def unicodetextref02_Cuts.f (k : Nat) (l0 : List Int) (l1_0 : List (S43)) : Option (List Int) := unicodetextref02_Cuts.l0 k l0 0 l1_0
theorem unicodetextref02_Cuts.mono_l : ∀ k, (∀ y0 y1 y2, LeO (unicodetextref02_Cuts.l0 k y0 y1 y2) (unicodetextref02_Cuts.l0 (k + 1) y0 y1 y2))
  | 0 => fun _ _ _ r h => by simp [unicodetextref02_Cuts.l0] at h
  | k + 1 => by
    have ih0 := unicodetextref02_Cuts.mono_l k
    · intro y0 y1 y2
      unfold unicodetextref02_Cuts.l0
      repeat' first
      | (with_reducible exact ih0 _ _ _)
      | (with_reducible exact unicodetextref02_place.mono _ _ _)
      | (with_reducible exact LeO.refl _)
      | (with_reducible exact LeO.none _)
      | (with_reducible refine LeO.ite ?_ ?_)
      | (with_reducible refine LeO.bind ?_ (fun _ => ?_))
      | exact ih0 _ _ _
      | exact unicodetextref02_place.mono _ _ _
      | exact LeO.none _
      | refine LeO.ite ?_ ?_
      | refine LeO.bind ?_ (fun _ => ?_)
theorem unicodetextref02_Cuts.mono : ∀ a0 a1 k, LeO (unicodetextref02_Cuts.f k a0 a1) (unicodetextref02_Cuts.f (k + 1) a0 a1) := by
  intro a0 a1 k
  have ih0 := unicodetextref02_Cuts.mono_l k
  unfold unicodetextref02_Cuts.f
  repeat' first
      | (with_reducible exact ih0 _ _ _)
      | (with_reducible exact unicodetextref02_place.mono _ _ _)
      | (with_reducible exact LeO.refl _)
      | (with_reducible exact LeO.none _)
      | (with_reducible refine LeO.ite ?_ ?_)
      | (with_reducible refine LeO.bind ?_ (fun _ => ?_))
      | exact ih0 _ _ _
      | exact unicodetextref02_place.mono _ _ _
      | exact LeO.none _
      | refine LeO.ite ?_ ?_
      | refine LeO.bind ?_ (fun _ => ?_)
/-! ### unicodetextref02_keeps: function 72 -/
def unicodetextref02_keeps.f (a0 : Int) (a1 : Bool) (a2 : Bool) : Option (Bool) := if a0 = 1 then (if a1 = true then (some true) else (some a2)) else (if a0 = 2 then (if a1 = true then (some a2) else (some false)) else (if a1 = true then (some (!a2)) else (some false)))
end Go.Proofs.YtpnkkhichkmmmaaDoor.Q
