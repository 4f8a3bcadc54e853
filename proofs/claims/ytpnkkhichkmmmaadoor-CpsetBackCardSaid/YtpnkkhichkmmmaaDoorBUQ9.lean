-- written by wip/mkprint.py: the kit's print over functions some of which are told by hand. Not trusted: Lean checks it.
import Derived.Test.YtpnkkhichkmmmaaDoorBUQ0
import Derived.Test.YtpnkkhichkmmmaaDoorBUQ8
namespace Go.Proofs.YtpnkkhichkmmmaaDoor.Q
open Go.RowKit Go.Proofs.YtpnkkhichkmmmaaDoorW.PrintWords Go.Proofs.YtpnkkhichkmmmaaDoorW.PrintLast Go.Proofs.YtpnkkhichkmmmaaDoorW.PrintMore
attribute [local go_sem] max2_int min2_int max_two min_two
set_option linter.unusedVariables false
set_option linter.unusedSimpArgs false

/-! ### unicodetextref01_Parse: function 39 -/
mutual
def unicodetextref01_Parse.j0 : Nat → ByteArray → Int → Bool → Option (Int × Int)
  | 0, _, _, _ => none
  | k + 1, x0, x4, x13 => if x13 = true then (some (0, 3)) else (unicodetextref01_Parse.l0 k x0 x4 0)
def unicodetextref01_Parse.l0 : Nat → ByteArray → Int → Int → Option (Int × Int)
  | 0, _, _, _ => none
  | k + 1, x0, x4, x5 => if x5 < (x0.size : Int) then (if 0 ≤ x5 then ((unicodetextref01_digit.f k (bt x0 x5)).bind fun t265 => (if t265 < 0 then (some (0, 3)) else ((unicodetextref01_digit.f k (bt x0 x5)).bind fun t266 => (unicodetextref01_Parse.l0 k x0 (wrap64 ((wrap64 (16 * x4)) + t266)) (wrap64 (x5 + 1)))))) else (none)) else ((unicodetextref01_Hex.f k x4).bind fun t264 => (if t264.toList = x0.toList then (some (x4, 0)) else (some (0, 3))))
end
def unicodetextref01_Parse.f (k : Nat) (a0 : ByteArray) : Option (Int × Int) := if (a0.size : Int) < 4 then (unicodetextref01_Parse.j0 k a0 0 true) else (unicodetextref01_Parse.j0 k a0 0 (decide ((a0.size : Int) > 6)))
theorem unicodetextref01_Parse.mono_l : ∀ k, (∀ y0 y1 y2, LeO (unicodetextref01_Parse.j0 k y0 y1 y2) (unicodetextref01_Parse.j0 (k + 1) y0 y1 y2)) ∧ (∀ y0 y1 y2, LeO (unicodetextref01_Parse.l0 k y0 y1 y2) (unicodetextref01_Parse.l0 (k + 1) y0 y1 y2))
  | 0 => ⟨fun _ _ _ r h => by simp [unicodetextref01_Parse.j0] at h, fun _ _ _ r h => by simp [unicodetextref01_Parse.l0] at h⟩
  | k + 1 => by
    obtain ⟨ih0, ih1⟩ := unicodetextref01_Parse.mono_l k
    refine ⟨?_, ?_⟩
    · intro y0 y1 y2
      unfold unicodetextref01_Parse.j0
      repeat' first
      | (with_reducible exact ih0 _ _ _)
      | (with_reducible exact ih1 _ _ _)
      | (with_reducible exact unicodetextref01_Hex.mono _ _)
      | (with_reducible exact unicodetextref01_digit.mono _ _)
      | (with_reducible exact LeO.refl _)
      | (with_reducible exact LeO.none _)
      | (with_reducible refine LeO.ite ?_ ?_)
      | (with_reducible refine LeO.bind ?_ (fun _ => ?_))
      | exact ih0 _ _ _
      | exact ih1 _ _ _
      | exact unicodetextref01_Hex.mono _ _
      | exact unicodetextref01_digit.mono _ _
      | exact LeO.none _
      | refine LeO.ite ?_ ?_
      | refine LeO.bind ?_ (fun _ => ?_)
    · intro y0 y1 y2
      unfold unicodetextref01_Parse.l0
      repeat' first
      | (with_reducible exact ih0 _ _ _)
      | (with_reducible exact ih1 _ _ _)
      | (with_reducible exact unicodetextref01_Hex.mono _ _)
      | (with_reducible exact unicodetextref01_digit.mono _ _)
      | (with_reducible exact LeO.refl _)
      | (with_reducible exact LeO.none _)
      | (with_reducible refine LeO.ite ?_ ?_)
      | (with_reducible refine LeO.bind ?_ (fun _ => ?_))
      | exact ih0 _ _ _
      | exact ih1 _ _ _
      | exact unicodetextref01_Hex.mono _ _
      | exact unicodetextref01_digit.mono _ _
      | exact LeO.none _
      | refine LeO.ite ?_ ?_
      | refine LeO.bind ?_ (fun _ => ?_)
theorem unicodetextref01_Parse.mono : ∀ a0 k, LeO (unicodetextref01_Parse.f k a0) (unicodetextref01_Parse.f (k + 1) a0) := by
  intro a0 k
  obtain ⟨ih0, ih1⟩ := unicodetextref01_Parse.mono_l k
  unfold unicodetextref01_Parse.f
  repeat' first
      | (with_reducible exact ih0 _ _ _)
      | (with_reducible exact ih1 _ _ _)
      | (with_reducible exact unicodetextref01_Hex.mono _ _)
      | (with_reducible exact unicodetextref01_digit.mono _ _)
      | (with_reducible exact LeO.refl _)
      | (with_reducible exact LeO.none _)
      | (with_reducible refine LeO.ite ?_ ?_)
      | (with_reducible refine LeO.bind ?_ (fun _ => ?_))
      | exact ih0 _ _ _
      | exact ih1 _ _ _
      | exact unicodetextref01_Hex.mono _ _
      | exact unicodetextref01_digit.mono _ _
      | exact LeO.none _
      | refine LeO.ite ?_ ?_
      | refine LeO.bind ?_ (fun _ => ?_)
/-! ### unicodetextref02_Parse: function 15 -/
mutual
def unicodetextref02_Parse.l0 : Nat → ByteArray → List ByteArray → Int → List (S43) → Option ((List (S43)) × Int)
  | 0, _, _, _, _ => none
  | k + 1, x0, x5, x6, x269000 => if x6 < (x5.length : Int) then (unicodetextref02_Parse.j1 k x0 x5 x6 (x0.toList != ([] : List UInt8)) x269000) else (unicodetextref02_Parse.j1 k x0 x5 x6 false x269000)
def unicodetextref02_Parse.j1 : Nat → ByteArray → List ByteArray → Int → Bool → List (S43) → Option ((List (S43)) × Int)
  | 0, _, _, _, _, _ => none
  | k + 1, x0, x5, x6, x21, x269000 => if x21 = true then (if 0 ≤ x6 then (if x6 < (x5.length : Int) then ((unicodetextref02_Cut.f k (rdOf ByteArray.empty x5 x6) 46).bind fun t273 => (if 0 < (t273.length : Int) then ((unicodetextref01_Parse.f k (rdOf ByteArray.empty t273 0)).bind fun bt277 => (if 0 ≤ (wrap64 ((t273.length : Int) - 1)) then (if (wrap64 ((t273.length : Int) - 1)) < (t273.length : Int) then ((unicodetextref01_Parse.f k (rdOf ByteArray.empty t273 (wrap64 ((t273.length : Int) - 1)))).bind fun bt280 => (if bt277.2 = 0 then (if bt280.2 = 0 then (if x269000.length < 8796093022208 then (unicodetextref02_Parse.l0 k x0 x5 (wrap64 (x6 + 1)) (x269000 ++ [(⟨bt277.1, bt280.1⟩ : S43)])) else (none)) else (some (([] : List (S43)), 3))) else (some (([] : List (S43)), 3)))) else (none)) else (none))) else (none))) else (none)) else (none)) else ((unicodetextref02_Valid.f k x269000).bind fun t285 => (if t285 = true then ((unicodetextref02_Text.f k x269000).bind fun t286 => (if t286.toList = x0.toList then (some (x269000, 0)) else (some (([] : List (S43)), 3)))) else (some (([] : List (S43)), 3))))
end
def unicodetextref02_Parse.f (k : Nat) (a0 : ByteArray) : Option ((List (S43)) × Int) := (unicodetextref02_Cut.f k a0 32).bind fun t269 => (unicodetextref02_Parse.l0 k a0 t269 0 ([] : List (S43)))
theorem unicodetextref02_Parse.mono_l : ∀ k, (∀ y0 y1 y2 y3, LeO (unicodetextref02_Parse.l0 k y0 y1 y2 y3) (unicodetextref02_Parse.l0 (k + 1) y0 y1 y2 y3)) ∧ (∀ y0 y1 y2 y3 y4, LeO (unicodetextref02_Parse.j1 k y0 y1 y2 y3 y4) (unicodetextref02_Parse.j1 (k + 1) y0 y1 y2 y3 y4))
  | 0 => ⟨fun _ _ _ _ r h => by simp [unicodetextref02_Parse.l0] at h, fun _ _ _ _ _ r h => by simp [unicodetextref02_Parse.j1] at h⟩
  | k + 1 => by
    obtain ⟨ih0, ih1⟩ := unicodetextref02_Parse.mono_l k
    refine ⟨?_, ?_⟩
    · intro y0 y1 y2 y3
      unfold unicodetextref02_Parse.l0
      repeat' first
      | (with_reducible exact ih0 _ _ _ _)
      | (with_reducible exact ih1 _ _ _ _ _)
      | (with_reducible exact unicodetextref01_Parse.mono _ _)
      | (with_reducible exact unicodetextref02_Cut.mono _ _ _)
      | (with_reducible exact unicodetextref02_Text.mono _ _)
      | (with_reducible exact unicodetextref02_Valid.mono _ _)
      | (with_reducible exact LeO.refl _)
      | (with_reducible exact LeO.none _)
      | (with_reducible refine LeO.ite ?_ ?_)
      | (with_reducible refine LeO.bind ?_ (fun _ => ?_))
      | exact ih0 _ _ _ _
      | exact ih1 _ _ _ _ _
      | exact unicodetextref01_Parse.mono _ _
      | exact unicodetextref02_Cut.mono _ _ _
      | exact unicodetextref02_Text.mono _ _
      | exact unicodetextref02_Valid.mono _ _
      | exact LeO.none _
      | refine LeO.ite ?_ ?_
      | refine LeO.bind ?_ (fun _ => ?_)
    · intro y0 y1 y2 y3 y4
      unfold unicodetextref02_Parse.j1
      repeat' first
      | (with_reducible exact ih0 _ _ _ _)
      | (with_reducible exact ih1 _ _ _ _ _)
      | (with_reducible exact unicodetextref01_Parse.mono _ _)
      | (with_reducible exact unicodetextref02_Cut.mono _ _ _)
      | (with_reducible exact unicodetextref02_Text.mono _ _)
      | (with_reducible exact unicodetextref02_Valid.mono _ _)
      | (with_reducible exact LeO.refl _)
      | (with_reducible exact LeO.none _)
      | (with_reducible refine LeO.ite ?_ ?_)
      | (with_reducible refine LeO.bind ?_ (fun _ => ?_))
      | exact ih0 _ _ _ _
      | exact ih1 _ _ _ _ _
      | exact unicodetextref01_Parse.mono _ _
      | exact unicodetextref02_Cut.mono _ _ _
      | exact unicodetextref02_Text.mono _ _
      | exact unicodetextref02_Valid.mono _ _
      | exact LeO.none _
      | refine LeO.ite ?_ ?_
      | refine LeO.bind ?_ (fun _ => ?_)
theorem unicodetextref02_Parse.mono : ∀ a0 k, LeO (unicodetextref02_Parse.f k a0) (unicodetextref02_Parse.f (k + 1) a0) := by
  intro a0 k
  obtain ⟨ih0, ih1⟩ := unicodetextref02_Parse.mono_l k
  unfold unicodetextref02_Parse.f
  repeat' first
      | (with_reducible exact ih0 _ _ _ _)
      | (with_reducible exact ih1 _ _ _ _ _)
      | (with_reducible exact unicodetextref01_Parse.mono _ _)
      | (with_reducible exact unicodetextref02_Cut.mono _ _ _)
      | (with_reducible exact unicodetextref02_Text.mono _ _)
      | (with_reducible exact unicodetextref02_Valid.mono _ _)
      | (with_reducible exact LeO.refl _)
      | (with_reducible exact LeO.none _)
      | (with_reducible refine LeO.ite ?_ ?_)
      | (with_reducible refine LeO.bind ?_ (fun _ => ?_))
      | exact ih0 _ _ _ _
      | exact ih1 _ _ _ _ _
      | exact unicodetextref01_Parse.mono _ _
      | exact unicodetextref02_Cut.mono _ _ _
      | exact unicodetextref02_Text.mono _ _
      | exact unicodetextref02_Valid.mono _ _
      | exact LeO.none _
      | refine LeO.ite ?_ ?_
      | refine LeO.bind ?_ (fun _ => ?_)
end Go.Proofs.YtpnkkhichkmmmaaDoor.Q
