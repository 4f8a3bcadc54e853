/-
  DERIVED. The plain law of CpsetOperates: what its printed function computes is true.
-/
import Derived.Test.YtpnkkhichkmmmaaGreatDoorAlg
import Derived.Test.YtpnkkhichkmmmaaGreatDoorRef
import Derived.Test.YtpnkkhichkmmmaaGreatDoorQ8
import Derived.Test.YtpnkkhichkmmmaaGreatDoorQ9
import Derived.Test.YtpnkkhichkmmmaaGreatDoorQ10
import Derived.Test.YtpnkkhichkmmmaaGreatDoorQ10
import Derived.Test.YtpnkkhichkmmmaaGreatDoorQ11
namespace Go.Proofs.YtpnkkhichkmmmaaGreatDoor.Q
set_option linter.unusedVariables false
set_option linter.unusedSimpArgs false
open Go.RowKit Go.Proofs.YtpnkkhichkmmmaaGreatDoorW.PrintWords Go.Proofs.YtpnkkhichkmmmaaGreatDoorW.PrintLast Go.Proofs.YtpnkkhichkmmmaaGreatDoorW.PrintMore

theorem keeps1 : keepsB 1 = fun x y => x || y := by funext x y; simp [keepsB]
theorem keeps2 : keepsB 2 = fun x y => x && y := by funext x y; simp [keepsB]
theorem keeps3 : keepsB 3 = fun x y => x && !y := by funext x y; simp [keepsB]
theorem ROr_total (a b : List Rg) (ha : a.length ≤ 1000) (hb : b.length ≤ 1000) (k : Nat) (hk : 300000 ≤ k) : unicodetextref02_Or.f k a b = some (orL a b) := by
  unfold unicodetextref02_Or.f
  rw [RComb_total a b 1 ha hb k hk, keeps1]
  rfl
theorem RAnd_total (a b : List Rg) (ha : a.length ≤ 1000) (hb : b.length ≤ 1000) (k : Nat) (hk : 300000 ≤ k) : unicodetextref02_And.f k a b = some (andL a b) := by
  unfold unicodetextref02_And.f
  rw [RComb_total a b 2 ha hb k hk, keeps2]
  rfl
theorem RMinus_total (a b : List Rg) (ha : a.length ≤ 1000) (hb : b.length ≤ 1000) (k : Nat) (hk : 300000 ≤ k) : unicodetextref02_Minus.f k a b = some (minusL a b) := by
  unfold unicodetextref02_Minus.f
  rw [RComb_total a b 3 ha hb k hk, keeps3]
  rfl
theorem has_all {c : Int} (h0 : 0 ≤ c) (h1 : c ≤ 1114111) : hasL [(⟨0, 1114111⟩ : Rg)] c = true := by
  rw [hasL_iff]
  exact ⟨h0, h1, Mem_one.2 ⟨h0, h1⟩⟩
theorem not_minus (a : List Rg) : minusL [(⟨0, 1114111⟩ : Rg)] a = notL a := eq_of_has (VL_minus _ _) (VL_not _) fun c h0 h1 => by
  rw [has_minus _ _ h0 h1, has_not _ h0 h1, has_all h0 h1, Bool.true_and]
theorem RNot_total (a : List Rg) (ha : a.length ≤ 1000) (k : Nat) (hk : 300000 ≤ k) : unicodetextref02_Not.f k a = some (notL a) := by
  unfold unicodetextref02_Not.f
  rw [RMinus_total _ a (by simp) ha k hk, not_minus]
  rfl
theorem smallS (l : List Rg) : unicodetextref02_Small.f l = some (decide (l.length ≤ 12)) := by unfold unicodetextref02_Small.f; congr 2; exact propext (by omega)
theorem small2S (a b : List Rg) : unicodetextlaw02_small.f a b = some (decide (a.length ≤ 12 ∧ b.length ≤ 12)) := by
  unfold unicodetextlaw02_small.f
  rw [smallS, smallS]
  by_cases h1 : a.length ≤ 12 <;> simp [h1]
theorem cpsetOperates_plain (a : List Rg) (_ : ∀ r ∈ a, (Lit.int .i64 r.f0).wf = true ∧ (Lit.int .i64 r.f1).wf = true) (b : List Rg) (_ : ∀ r ∈ b, (Lit.int .i64 r.f0).wf = true ∧ (Lit.int .i64 r.f1).wf = true) : ∃ k, unicodetextlaw02_CpsetOperates.f k a b = some true := by
  refine ⟨300000, ?_⟩
  have al := alive_total 300000 (by decide)
  unfold unicodetextlaw02_CpsetOperates.f
  rw [small2S, Option.bind_some]
  by_cases h : a.length ≤ 12 ∧ b.length ≤ 12
  · have lo : (orL a b).length ≤ 1000 := Nat.le_trans (two_le h.1 h.2) (by decide)
    have la : (andL a b).length ≤ 1000 := Nat.le_trans (two_le h.1 h.2) (by decide)
    have lm : (minusL a b).length ≤ 1000 := Nat.le_trans (two_le h.1 h.2) (by decide)
    have ln : (notL a).length ≤ 1000 := Nat.le_trans (not_le h.1) (by decide)
    have ha : a.length ≤ 1000 := by omega
    have hb : b.length ≤ 1000 := by omega
    have eo : cpset_Or.f a b = some (orL a b) := by unfold cpset_Or.f; rw [if_pos ⟨by omega, by omega⟩]; rfl
    have ea : cpset_And.f a b = some (andL a b) := by unfold cpset_And.f; rw [if_pos ⟨by omega, by omega⟩]; rfl
    have em : cpset_Minus.f a b = some (minusL a b) := by unfold cpset_Minus.f; rw [if_pos ⟨by omega, by omega⟩]; rfl
    have en : cpset_Not.f a = some (notL a) := by unfold cpset_Not.f; rw [if_pos (by omega)]; rfl
    have es : cpset_Subset.f a b = some (((minusL a b).length : Int) == 0) := by unfold cpset_Subset.f; rw [em]; rfl
    have et : unicodetextref02_Subset.f 300000 a b = some (((minusL a b).length : Int) == 0) := by unfold unicodetextref02_Subset.f; rw [RMinus_total a b ha hb _ (Nat.le_refl _)]; rfl
    have sm : ∀ x : List Rg, x.length ≤ 1000 → unicodetextref02_Same.f 300000 x x = some true := fun x hx => by rw [Same_total x x (by omega) _ (by omega), decide_eq_true rfl]
    rw [decide_eq_true h, if_pos rfl, eo, Option.bind_some, ROr_total a b ha hb _ (Nat.le_refl _), Option.bind_some, sm _ lo, Option.bind_some, if_pos rfl,
      ea, Option.bind_some, RAnd_total a b ha hb _ (Nat.le_refl _), Option.bind_some, sm _ la, Option.bind_some, if_pos rfl,
      em, Option.bind_some, RMinus_total a b ha hb _ (Nat.le_refl _), Option.bind_some, sm _ lm, Option.bind_some, if_pos rfl,
      en, Option.bind_some, RNot_total a ha _ (Nat.le_refl _), Option.bind_some, sm _ ln, Option.bind_some, if_pos rfl,
      es, Option.bind_some, et, Option.bind_some, if_pos (by simp), al]
    rfl
  · rw [decide_eq_false h, if_neg (by simp), al]
    rfl
end Go.Proofs.YtpnkkhichkmmmaaGreatDoor.Q
