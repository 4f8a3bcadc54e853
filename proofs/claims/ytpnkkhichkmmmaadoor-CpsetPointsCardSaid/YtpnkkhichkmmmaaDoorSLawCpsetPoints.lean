/-
  DERIVED. The plain law of CpsetPoints: what its printed function computes is true.
-/
import Derived.Test.YtpnkkhichkmmmaaDoorSAlive
import Derived.Test.YtpnkkhichkmmmaaDoorSLawCpsetHas
import Derived.Test.YtpnkkhichkmmmaaDoorSQ13
namespace Go.Proofs.YtpnkkhichkmmmaaDoor.Q
set_option linter.unusedVariables false
set_option linter.unusedSimpArgs false
open Go.RowKit Go.Proofs.YtpnkkhichkmmmaaDoorW.PrintWords Go.Proofs.YtpnkkhichkmmmaaDoorW.PrintLast Go.Proofs.YtpnkkhichkmmmaaDoorW.PrintMore

theorem small2_f (a b : List Rg) : unicodetextlaw02_small.f a b = some (decide (a.length ≤ 12 ∧ b.length ≤ 12)) := by
  unfold unicodetextlaw02_small.f
  rw [small_f, Option.bind_some, small_f]
  by_cases h1 : a.length ≤ 12 <;> simp [h1]
theorem pairL_len2 (kf : Bool → Bool → Bool) (a b : List Rg) : (combL kf a b).length ≤ 2 * a.length + 2 * b.length + 2 := by
  have h1 := pairL_len kf (makeL a) (makeL b) (cutS (makeL a) (makeL b))
  rw [cutS_len] at h1
  have h2 := makeL_len a
  have h3 := makeL_len b
  have h4 := makeL_len (pairL kf (makeL a) (makeL b) (cutS (makeL a) (makeL b)))
  unfold combL
  omega
theorem hasR_comb (kf : Bool → Bool → Bool) (a b : List Rg) (c : Int) : hasR (combL kf a b) c = (validI c && kf (hasR a c) (hasR b c)) := by
  rw [Bool.eq_iff_iff, hasR_iff, combL_mem, hasR_hasL, hasR_hasL]
  unfold validI
  simp only [Bool.and_eq_true, decide_eq_true_eq]
  constructor
  · rintro ⟨h1, h2, _, _, h3⟩; exact ⟨⟨h1, h2⟩, h3⟩
  · rintro ⟨⟨h1, h2⟩, h3⟩; exact ⟨h1, h2, h1, h2, h3⟩
theorem hasR_valid {l : List Rg} {c : Int} (h : hasR l c = true) : validI c = true := by
  rw [hasR_iff] at h
  unfold validI
  simp [h.1, h.2.1]
theorem or_f {a b : List Rg} (ha : a.length ≤ 100000) (hb : b.length ≤ 100000) : cpset_Or.f a b = some (combL (fun x y => x || y) a b) := by unfold cpset_Or.f; rw [if_pos ⟨ha, hb⟩]
theorem and_f {a b : List Rg} (ha : a.length ≤ 100000) (hb : b.length ≤ 100000) : cpset_And.f a b = some (combL (fun x y => x && y) a b) := by unfold cpset_And.f; rw [if_pos ⟨ha, hb⟩]
theorem minus_f {a b : List Rg} (ha : a.length ≤ 100000) (hb : b.length ≤ 100000) : cpset_Minus.f a b = some (combL (fun x y => x && !y) a b) := by unfold cpset_Minus.f; rw [if_pos ⟨ha, hb⟩]
theorem not_f {a : List Rg} (ha : a.length ≤ 100000) : cpset_Not.f a = some (combL (fun x _ => !x) a []) := by unfold cpset_Not.f; rw [if_pos ha]
theorem cpsetPoints_plain (a : List Rg) (_ : ∀ r ∈ a, (Lit.int .i64 r.f0).wf = true ∧ (Lit.int .i64 r.f1).wf = true) (b : List Rg) (_ : ∀ r ∈ b, (Lit.int .i64 r.f0).wf = true ∧ (Lit.int .i64 r.f1).wf = true) (c : Int) (_ : (Lit.int .i64 c).wf = true) : ∃ k, unicodetextlaw02_CpsetPoints.f k a b c = some true := by
  refine ⟨401, ?_⟩
  unfold unicodetextlaw02_CpsetPoints.f
  rw [small2_f, Option.bind_some, alive_total 401 (by decide), Option.bind_some]
  by_cases h : a.length ≤ 12 ∧ b.length ≤ 12
  · have l1 := pairL_len2 (fun x y => x || y) a b
    have l2 := pairL_len2 (fun x y => x && y) a b
    have l3 := pairL_len2 (fun x y => x && !y) a b
    have l4 := pairL_len2 (fun x _ => !x) a []
    simp only [List.length_nil] at l4
    have hv : validI c = decide (0 ≤ c ∧ c ≤ 1114111) := rfl
    rw [decide_eq_true h, if_pos rfl, has_f (by omega), Option.bind_some, has_f (by omega), Option.bind_some]
    have key : ∀ v : Bool, v = validI c → unicodetextlaw02_CpsetPoints.j0 401 c (hasR a c) (hasR b c) v a b = some true := by
      rintro v rfl
      have va : hasR a c = true → validI c = true := hasR_valid
      have vb : hasR b c = true → validI c = true := hasR_valid
      simp only [unicodetextlaw02_CpsetPoints.j0, or_f (a := a) (b := b) (by omega) (by omega), and_f (a := a) (b := b) (by omega) (by omega), minus_f (a := a) (b := b) (by omega) (by omega), not_f (a := a) (by omega), Option.bind_some,
        has_f (show (combL (fun x y => x || y) a b).length ≤ 100000 by omega), has_f (show (combL (fun x y => x && y) a b).length ≤ 100000 by omega), has_f (show (combL (fun x y => x && !y) a b).length ≤ 100000 by omega), has_f (show (combL (fun x _ => !x) a []).length ≤ 100000 by omega), hasR_comb, alive_total 400 (by decide)]
      generalize hasR a c = x at va
      generalize hasR b c = y at vb
      generalize validI c = v at va vb
      revert va vb
      cases x <;> cases y <;> cases v <;> simp
    by_cases h0 : c ≥ 0
    · rw [if_pos h0]
      exact key _ (by rw [hv]; simp [h0])
    · rw [if_neg h0]
      exact key _ (by rw [hv]; simp [h0])
  · rw [decide_eq_false h, if_neg (by simp)]
end Go.Proofs.YtpnkkhichkmmmaaDoor.Q
