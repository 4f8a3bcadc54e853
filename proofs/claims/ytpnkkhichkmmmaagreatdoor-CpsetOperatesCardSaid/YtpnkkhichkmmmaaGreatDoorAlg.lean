/-
  DERIVED. The laws of the sets' operations, in plain Lean: what combL hands back is the valid list of the code points that are asked for, so two such lists with the same code points are one.
-/
import Derived.Test.YtpnkkhichkmmmaaGreatDoorAlive
import Derived.Test.YtpnkkhichkmmmaaGreatDoorAbsSet
namespace Go.Proofs.YtpnkkhichkmmmaaGreatDoor.Q
set_option linter.unusedVariables false
set_option linter.unusedSimpArgs false
open Go.RowKit Go.Proofs.YtpnkkhichkmmmaaGreatDoorW.PrintWords Go.Proofs.YtpnkkhichkmmmaaGreatDoorW.PrintLast Go.Proofs.YtpnkkhichkmmmaaGreatDoorW.PrintMore

theorem hasL_valid {l : List Rg} (h : VL l) {c : Int} (h0 : 0 ≤ c) (h1 : c ≤ 1114111) : hasL l c = true ↔ Mem l c := by
  rw [hasL_iff]
  exact ⟨fun k => k.2.2, fun k => ⟨h0, h1, k⟩⟩
theorem hasL_comb (kf : Bool → Bool → Bool) (a b : List Rg) {c : Int} (h0 : 0 ≤ c) (h1 : c ≤ 1114111) : hasL (combL kf a b) c = kf (hasL a c) (hasL b c) := by
  rw [Bool.eq_iff_iff, hasL_valid (combL_valid kf a b) h0 h1, combL_mem]
  exact ⟨fun k => k.2.2, fun k => ⟨h0, h1, k⟩⟩
theorem hasL_make (l : List Rg) {c : Int} (h0 : 0 ≤ c) (h1 : c ≤ 1114111) : hasL (makeL l) c = hasL l c := by
  rw [Bool.eq_iff_iff, hasL_iff, hasL_iff, makeL_mem]
  exact ⟨fun k => ⟨h0, h1, k.2.2.2.2⟩, fun k => ⟨h0, h1, h0, h1, k.2.2⟩⟩
theorem has_nil (c : Int) : hasL [] c = false := by
  cases h : hasL [] c with
  | false => rfl
  | true => exact absurd ((hasL_iff [] c).1 h).2.2 (Mem_nil c)
theorem VL_mem {l : List Rg} (h : VL l) {c : Int} (hm : Mem l c) : 0 ≤ c ∧ c ≤ 1114111 := by
  obtain ⟨r, hr, h1, h2⟩ := hm
  have := h.1 r hr
  unfold Ok at this
  omega
theorem eq_of_has {x y : List Rg} (hx : VL x) (hy : VL y) (h : ∀ c : Int, 0 ≤ c → c ≤ 1114111 → hasL x c = hasL y c) : x = y := by
  refine VL_unique x y hx hy fun c => ⟨fun hm => ?_, fun hm => ?_⟩
  · obtain ⟨h0, h1⟩ := VL_mem hx hm
    exact (hasL_valid hy h0 h1).1 ((h c h0 h1) ▸ (hasL_valid hx h0 h1).2 hm)
  · obtain ⟨h0, h1⟩ := VL_mem hy hm
    exact (hasL_valid hx h0 h1).1 ((h c h0 h1).symm ▸ (hasL_valid hy h0 h1).2 hm)
theorem has_or (a b : List Rg) {c : Int} (h0 : 0 ≤ c) (h1 : c ≤ 1114111) : hasL (orL a b) c = (hasL a c || hasL b c) := hasL_comb _ a b h0 h1
theorem has_and (a b : List Rg) {c : Int} (h0 : 0 ≤ c) (h1 : c ≤ 1114111) : hasL (andL a b) c = (hasL a c && hasL b c) := hasL_comb _ a b h0 h1
theorem has_minus (a b : List Rg) {c : Int} (h0 : 0 ≤ c) (h1 : c ≤ 1114111) : hasL (minusL a b) c = (hasL a c && !hasL b c) := hasL_comb _ a b h0 h1
theorem has_not (a : List Rg) {c : Int} (h0 : 0 ≤ c) (h1 : c ≤ 1114111) : hasL (notL a) c = !hasL a c := hasL_comb _ a [] h0 h1
theorem VL_or (a b : List Rg) : VL (orL a b) := combL_valid _ a b
theorem VL_and (a b : List Rg) : VL (andL a b) := combL_valid _ a b
theorem VL_minus (a b : List Rg) : VL (minusL a b) := combL_valid _ a b
theorem VL_not (a : List Rg) : VL (notL a) := combL_valid _ a []

theorem al_dm (a b : List Rg) : notL (orL a b) = andL (notL a) (notL b) := eq_of_has (VL_not _) (VL_and _ _) fun c h0 h1 => by
  rw [has_not _ h0 h1, has_or _ _ h0 h1, has_and _ _ h0 h1, has_not _ h0 h1, has_not _ h0 h1]; cases hasL a c <;> rfl
theorem al_ao (a b c : List Rg) : andL a (orL b c) = orL (andL a b) (andL a c) := eq_of_has (VL_and _ _) (VL_or _ _) fun x h0 h1 => by
  rw [has_and _ _ h0 h1, has_or _ _ h0 h1, has_or _ _ h0 h1, has_and _ _ h0 h1, has_and _ _ h0 h1]; cases hasL a x <;> rfl
theorem al_oa (a b c : List Rg) : orL a (andL b c) = andL (orL a b) (orL a c) := eq_of_has (VL_or _ _) (VL_and _ _) fun x h0 h1 => by
  rw [has_or _ _ h0 h1, has_and _ _ h0 h1, has_and _ _ h0 h1, has_or _ _ h0 h1, has_or _ _ h0 h1]; cases hasL a x <;> rfl
theorem al_nn (a : List Rg) : notL (notL a) = makeL a := eq_of_has (VL_not _) (makeL_valid _) fun x h0 h1 => by
  rw [has_not _ h0 h1, has_not _ h0 h1, hasL_make _ h0 h1]; cases hasL a x <;> rfl
theorem al_o0 (a : List Rg) : orL a [] = makeL a := eq_of_has (VL_or _ _) (makeL_valid _) fun x h0 h1 => by
  rw [has_or _ _ h0 h1, has_nil, hasL_make _ h0 h1]; cases hasL a x <;> rfl
theorem al_a1 (a : List Rg) : andL a (notL []) = makeL a := eq_of_has (VL_and _ _) (makeL_valid _) fun x h0 h1 => by
  rw [has_and _ _ h0 h1, has_not _ h0 h1, has_nil, hasL_make _ h0 h1]; cases hasL a x <;> rfl
theorem al_on (a : List Rg) : orL a (notL a) = notL [] := eq_of_has (VL_or _ _) (VL_not _) fun x h0 h1 => by
  rw [has_or _ _ h0 h1, has_not _ h0 h1, has_not _ h0 h1, has_nil]; cases hasL a x <;> rfl
theorem al_an (a : List Rg) : andL a (notL a) = [] := eq_of_has (VL_and _ _) ⟨fun r hr => (by cases hr), List.Pairwise.nil⟩ fun x h0 h1 => by
  rw [has_and _ _ h0 h1, has_not _ h0 h1, has_nil]; cases hasL a x <;> rfl
theorem al_oc (a b : List Rg) : orL a b = orL b a := eq_of_has (VL_or _ _) (VL_or _ _) fun x h0 h1 => by
  rw [has_or _ _ h0 h1, has_or _ _ h0 h1]; cases hasL a x <;> cases hasL b x <;> rfl
theorem al_ac (a b : List Rg) : andL a b = andL b a := eq_of_has (VL_and _ _) (VL_and _ _) fun x h0 h1 => by
  rw [has_and _ _ h0 h1, has_and _ _ h0 h1]; cases hasL a x <;> cases hasL b x <;> rfl
theorem al_oo (a : List Rg) : orL a a = makeL a := eq_of_has (VL_or _ _) (makeL_valid _) fun x h0 h1 => by
  rw [has_or _ _ h0 h1, hasL_make _ h0 h1]; cases hasL a x <;> rfl
theorem al_aa (a : List Rg) : andL a a = makeL a := eq_of_has (VL_and _ _) (makeL_valid _) fun x h0 h1 => by
  rw [has_and _ _ h0 h1, hasL_make _ h0 h1]; cases hasL a x <;> rfl
theorem al_z (a : List Rg) : decide ((0 : Int) < ((andL a (notL a)).length : Int)) = false := by rw [al_an]; rfl
end Go.Proofs.YtpnkkhichkmmmaaGreatDoor.Q
