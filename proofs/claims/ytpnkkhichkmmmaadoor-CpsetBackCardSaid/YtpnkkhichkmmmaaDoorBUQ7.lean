-- written by wip/mkprint.py: the kit's print over functions some of which are told by hand. Not trusted: Lean checks it.
import Derived.Test.YtpnkkhichkmmmaaDoorBUQ0
import Derived.Test.YtpnkkhichkmmmaaDoorBUQ5
import Derived.Test.YtpnkkhichkmmmaaDoorBUQ6
namespace Go.Proofs.YtpnkkhichkmmmaaDoor.Q
open Go.RowKit Go.Proofs.YtpnkkhichkmmmaaDoorW.PrintWords Go.Proofs.YtpnkkhichkmmmaaDoorW.PrintLast Go.Proofs.YtpnkkhichkmmmaaDoorW.PrintMore
attribute [local go_sem] max2_int min2_int max_two min_two
set_option linter.unusedVariables false
set_option linter.unusedSimpArgs false

/-! ### unicodetextref02_combine: function 54 -/
mutual
def unicodetextref02_combine.l0 : Nat → Int → List Int → Bool → Int → List (S43) → List (S43) → List (S43) → Option ((List (S43)))
  | 0, _, _, _, _, _, _, _ => none
  | k + 1, x2, x7, x9, x10, x214000, x215000, x223000 => if x10 < (x7.length : Int) then (if (wrap64 (x10 + 1)) < (x7.length : Int) then (if 0 ≤ (wrap64 (x10 + 1)) then (unicodetextref02_combine.j1 k x2 x7 x9 x10 (wrap64 ((rd x7 (wrap64 (x10 + 1))) - 1)) x214000 x215000 x223000) else (none)) else (unicodetextref02_combine.j1 k x2 x7 x9 x10 1114111 x214000 x215000 x223000)) else (some x223000)
def unicodetextref02_combine.j1 : Nat → Int → List Int → Bool → Int → Int → List (S43) → List (S43) → List (S43) → Option ((List (S43)))
  | 0, _, _, _, _, _, _, _, _ => none
  | k + 1, x2, x7, x9, x10, x11, x214000, x215000, x223000 => if 0 ≤ x10 then (if x10 < (x7.length : Int) then ((unicodetextref02_Has.f k x214000 (rd x7 x10)).bind fun t225 => ((unicodetextref02_Has.f k x215000 (rd x7 x10)).bind fun t227 => ((unicodetextref02_keeps.f x2 t225 t227).bind fun t228 => (if t228 = true then (unicodetextref02_combine.j2 k x2 x7 x9 x10 x11 t228 x9 x214000 x215000 x223000) else (unicodetextref02_combine.j2 k x2 x7 x9 x10 x11 t228 false x214000 x215000 x223000))))) else (none)) else (none)
def unicodetextref02_combine.j2 : Nat → Int → List Int → Bool → Int → Int → Bool → Bool → List (S43) → List (S43) → List (S43) → Option ((List (S43)))
  | 0, _, _, _, _, _, _, _, _, _, _ => none
  | k + 1, x2, x7, x9, x10, x11, x12, x51, x214000, x215000, x223000 => if x51 = true then (if 0 ≤ (wrap64 ((x223000.length : Int) - 1)) then (if (wrap64 ((x223000.length : Int) - 1)) < (x223000.length : Int) then ((some (x223000.set ((wrap64 ((x223000.length : Int) - 1)) : Int).toNat (⟨(rd_T43 x223000 (wrap64 ((x223000.length : Int) - 1))).f0, x11⟩ : S43) : List (S43))).bind fun y229 => (if x12 = true then (if x9 = true then (unicodetextref02_combine.l0 k x2 x7 x12 (wrap64 (x10 + 1)) x214000 x215000 y229) else (if 0 ≤ x10 then (if x10 < (x7.length : Int) then (if y229.length < 8796093022208 then (unicodetextref02_combine.l0 k x2 x7 x12 (wrap64 (x10 + 1)) x214000 x215000 (y229 ++ [(⟨rd x7 x10, x11⟩ : S43)])) else (none)) else (none)) else (none))) else (unicodetextref02_combine.l0 k x2 x7 x12 (wrap64 (x10 + 1)) x214000 x215000 y229))) else (none)) else (none)) else (if x12 = true then (if x9 = true then (unicodetextref02_combine.l0 k x2 x7 x12 (wrap64 (x10 + 1)) x214000 x215000 x223000) else (if 0 ≤ x10 then (if x10 < (x7.length : Int) then (if x223000.length < 8796093022208 then (unicodetextref02_combine.l0 k x2 x7 x12 (wrap64 (x10 + 1)) x214000 x215000 (x223000 ++ [(⟨rd x7 x10, x11⟩ : S43)])) else (none)) else (none)) else (none))) else (unicodetextref02_combine.l0 k x2 x7 x12 (wrap64 (x10 + 1)) x214000 x215000 x223000))
end
def unicodetextref02_combine.f (k : Nat) (l0_0 : List (S43)) (l1_0 : List (S43)) (a2 : Int) : Option ((List (S43))) := (unicodetextref02_Cuts.f k ([] : List Int) l0_0).bind fun t216 => ((unicodetextref02_Cuts.f k t216 l1_0).bind fun t219 => (unicodetextref02_combine.l0 k a2 t219 false 0 l0_0 l1_0 ([] : List (S43))))
theorem unicodetextref02_combine.mono_l : ∀ k, (∀ y0 y1 y2 y3 y4 y5 y6, LeO (unicodetextref02_combine.l0 k y0 y1 y2 y3 y4 y5 y6) (unicodetextref02_combine.l0 (k + 1) y0 y1 y2 y3 y4 y5 y6)) ∧ (∀ y0 y1 y2 y3 y4 y5 y6 y7, LeO (unicodetextref02_combine.j1 k y0 y1 y2 y3 y4 y5 y6 y7) (unicodetextref02_combine.j1 (k + 1) y0 y1 y2 y3 y4 y5 y6 y7)) ∧ (∀ y0 y1 y2 y3 y4 y5 y6 y7 y8 y9, LeO (unicodetextref02_combine.j2 k y0 y1 y2 y3 y4 y5 y6 y7 y8 y9) (unicodetextref02_combine.j2 (k + 1) y0 y1 y2 y3 y4 y5 y6 y7 y8 y9))
  | 0 => ⟨fun _ _ _ _ _ _ _ r h => by simp [unicodetextref02_combine.l0] at h, fun _ _ _ _ _ _ _ _ r h => by simp [unicodetextref02_combine.j1] at h, fun _ _ _ _ _ _ _ _ _ _ r h => by simp [unicodetextref02_combine.j2] at h⟩
  | k + 1 => by
    obtain ⟨ih0, ih1, ih2⟩ := unicodetextref02_combine.mono_l k
    refine ⟨?_, ?_, ?_⟩
    · intro y0 y1 y2 y3 y4 y5 y6
      unfold unicodetextref02_combine.l0
      repeat' first
      | (with_reducible exact ih0 _ _ _ _ _ _ _)
      | (with_reducible exact ih1 _ _ _ _ _ _ _ _)
      | (with_reducible exact ih2 _ _ _ _ _ _ _ _ _ _)
      | (with_reducible exact unicodetextref02_Cuts.mono _ _ _)
      | (with_reducible exact unicodetextref02_Has.mono _ _ _)
      | (with_reducible exact LeO.refl _)
      | (with_reducible exact LeO.none _)
      | (with_reducible refine LeO.ite ?_ ?_)
      | (with_reducible refine LeO.bind ?_ (fun _ => ?_))
      | exact ih0 _ _ _ _ _ _ _
      | exact ih1 _ _ _ _ _ _ _ _
      | exact ih2 _ _ _ _ _ _ _ _ _ _
      | exact unicodetextref02_Cuts.mono _ _ _
      | exact unicodetextref02_Has.mono _ _ _
      | exact LeO.none _
      | refine LeO.ite ?_ ?_
      | refine LeO.bind ?_ (fun _ => ?_)
    · intro y0 y1 y2 y3 y4 y5 y6 y7
      unfold unicodetextref02_combine.j1
      repeat' first
      | (with_reducible exact ih0 _ _ _ _ _ _ _)
      | (with_reducible exact ih1 _ _ _ _ _ _ _ _)
      | (with_reducible exact ih2 _ _ _ _ _ _ _ _ _ _)
      | (with_reducible exact unicodetextref02_Cuts.mono _ _ _)
      | (with_reducible exact unicodetextref02_Has.mono _ _ _)
      | (with_reducible exact LeO.refl _)
      | (with_reducible exact LeO.none _)
      | (with_reducible refine LeO.ite ?_ ?_)
      | (with_reducible refine LeO.bind ?_ (fun _ => ?_))
      | exact ih0 _ _ _ _ _ _ _
      | exact ih1 _ _ _ _ _ _ _ _
      | exact ih2 _ _ _ _ _ _ _ _ _ _
      | exact unicodetextref02_Cuts.mono _ _ _
      | exact unicodetextref02_Has.mono _ _ _
      | exact LeO.none _
      | refine LeO.ite ?_ ?_
      | refine LeO.bind ?_ (fun _ => ?_)
    · intro y0 y1 y2 y3 y4 y5 y6 y7 y8 y9
      unfold unicodetextref02_combine.j2
      repeat' first
      | (with_reducible exact ih0 _ _ _ _ _ _ _)
      | (with_reducible exact ih1 _ _ _ _ _ _ _ _)
      | (with_reducible exact ih2 _ _ _ _ _ _ _ _ _ _)
      | (with_reducible exact unicodetextref02_Cuts.mono _ _ _)
      | (with_reducible exact unicodetextref02_Has.mono _ _ _)
      | (with_reducible exact LeO.refl _)
      | (with_reducible exact LeO.none _)
      | (with_reducible refine LeO.ite ?_ ?_)
      | (with_reducible refine LeO.bind ?_ (fun _ => ?_))
      | exact ih0 _ _ _ _ _ _ _
      | exact ih1 _ _ _ _ _ _ _ _
      | exact ih2 _ _ _ _ _ _ _ _ _ _
      | exact unicodetextref02_Cuts.mono _ _ _
      | exact unicodetextref02_Has.mono _ _ _
      | exact LeO.none _
      | refine LeO.ite ?_ ?_
      | refine LeO.bind ?_ (fun _ => ?_)
theorem unicodetextref02_combine.mono : ∀ a0 a1 a2 k, LeO (unicodetextref02_combine.f k a0 a1 a2) (unicodetextref02_combine.f (k + 1) a0 a1 a2) := by
  intro a0 a1 a2 k
  obtain ⟨ih0, ih1, ih2⟩ := unicodetextref02_combine.mono_l k
  unfold unicodetextref02_combine.f
  repeat' first
      | (with_reducible exact ih0 _ _ _ _ _ _ _)
      | (with_reducible exact ih1 _ _ _ _ _ _ _ _)
      | (with_reducible exact ih2 _ _ _ _ _ _ _ _ _ _)
      | (with_reducible exact unicodetextref02_Cuts.mono _ _ _)
      | (with_reducible exact unicodetextref02_Has.mono _ _ _)
      | (with_reducible exact LeO.refl _)
      | (with_reducible exact LeO.none _)
      | (with_reducible refine LeO.ite ?_ ?_)
      | (with_reducible refine LeO.bind ?_ (fun _ => ?_))
      | exact ih0 _ _ _ _ _ _ _
      | exact ih1 _ _ _ _ _ _ _ _
      | exact ih2 _ _ _ _ _ _ _ _ _ _
      | exact unicodetextref02_Cuts.mono _ _ _
      | exact unicodetextref02_Has.mono _ _ _
      | exact LeO.none _
      | refine LeO.ite ?_ ?_
      | refine LeO.bind ?_ (fun _ => ?_)
end Go.Proofs.YtpnkkhichkmmmaaDoor.Q
