/-
  DERIVED. The plain law of CpsetEnumerates: what its printed function computes is true.
-/
import Derived.Test.YtpnkkhichkmmmaaDoorSNum
import Derived.Test.YtpnkkhichkmmmaaDoorSQ17
namespace Go.Proofs.YtpnkkhichkmmmaaDoor.Q
set_option linter.unusedVariables false
set_option linter.unusedSimpArgs false
open Go.RowKit Go.Proofs.YtpnkkhichkmmmaaDoorW.PrintWords Go.Proofs.YtpnkkhichkmmmaaDoorW.PrintLast Go.Proofs.YtpnkkhichkmmmaaDoorW.PrintMore

theorem comb_len (kf : Bool → Bool → Bool) (a b : List Rg) : (combL kf a b).length ≤ 2 * a.length + 2 * b.length + 2 := by
  have h1 := pairL_len kf (makeL a) (makeL b) (cutS (makeL a) (makeL b))
  rw [cutS_len] at h1
  have h2 := makeL_len a
  have h3 := makeL_len b
  have h4 := makeL_len (pairL kf (makeL a) (makeL b) (cutS (makeL a) (makeL b)))
  unfold combL
  omega
theorem below_cut (l : List Rg) (c : Int) (hc : c ≤ 1114111) : combL (fun x y => x && y) l (makeL [⟨0, c - 1⟩]) = cutB (makeL l) c := by
  obtain ⟨h1, h2⟩ := cutB_spec (makeL l) c (makeL_valid l)
  refine VL_unique _ _ (combL_valid _ _ _) h1 (fun x => ?_)
  rw [combL_mem, h2, makeL_mem]
  simp only [Bool.and_eq_true, hasL_iff, makeL_mem, Mem_one]
  constructor
  · rintro ⟨a, b, ⟨_, _, d⟩, _, _, _, _, _, e⟩; exact ⟨⟨a, b, d⟩, by omega⟩
  · rintro ⟨⟨a, b, d⟩, e⟩; exact ⟨a, b, ⟨a, b, d⟩, a, b, a, b, by omega, by omega⟩
theorem enum_j1 (l : List Rg) (h : l.length ≤ 12) (x : Int) (hx : -9223372036854775808 ≤ x ∧ x ≤ 9223372036854775807) (k : Nat) (hk : 400 ≤ k) : unicodetextlaw02_CpsetEnumerates.j1 k x (sumL (makeL l)) l = some true := by
  obtain ⟨k, rfl, hk1⟩ := pred1 (show 399 + 1 ≤ k by omega)
  obtain ⟨k, rfl, hk2⟩ := pred1 (show 398 + 1 ≤ k by omega)
  have hv := makeL_valid l
  have hs := sumL_le hv
  have e2 : nthR (makeL l) (sumL (makeL l)) = (0, false) := by
    unfold nthR
    rw [if_neg (by omega), nthL_out _ _ hv (Int.le_refl _) (by omega)]
  simp only [unicodetextlaw02_CpsetEnumerates.j1, nth_f (show l.length ≤ 100000 by omega), Option.bind_some, e2]
  by_cases h0 : x ≥ 0
  · rw [if_pos h0]
    by_cases h1 : x < sumL (makeL l)
    · obtain ⟨c, e1, hm, hc⟩ := nthL_in _ x hv h0 h1
      have e3 : nthR (makeL l) x = (c, true) := by unfold nthR; rw [if_neg (by omega), e1]
      rw [e3, if_neg (by simp [h1])]
      rw [makeL_mem] at hm
      have w : wrap64 (c - 1) = c - 1 := by unfold wrap64; omega
      have l1 := makeL_len [(⟨0, c - 1⟩ : Rg)]
      simp only [List.length_cons, List.length_nil] at l1
      have l2 := comb_len (fun x y => x && y) l (makeL [(⟨0, c - 1⟩ : Rg)])
      have m1 := Make_total [(⟨0, c - 1⟩ : Rg)] (by simp) k (by simp; omega)
      have a1 : cpset_And.f l (makeL [(⟨0, c - 1⟩ : Rg)]) = some (cutB (makeL l) c) := by
        unfold cpset_And.f; rw [if_pos ⟨by omega, by omega⟩, below_cut l c hm.2.1]
      have hcv := (cutB_spec (makeL l) c hv).1
      have c1 : cpset_Count.f (cutB (makeL l) c) = some x := by
        rw [← below_cut l c hm.2.1, count_f (by omega), below_cut l c hm.2.1, makeL_VL hcv, hc]
      have hh : hasR l c = true := (hasR_iff l c).2 hm
      simp only [unicodetextlaw02_CpsetEnumerates.j2, Bool.false_eq_true, if_false, if_true, w, m1, a1, c1, has_f (show l.length ≤ 100000 by omega), hh, Option.bind_some, alive_total k (by omega)]
    · have e3 : nthR (makeL l) x = (0, false) := by unfold nthR; rw [if_neg (by omega), nthL_out _ _ hv (by omega) hx.2]
      rw [e3, if_neg (by simp; omega)]
      simp only [unicodetextlaw02_CpsetEnumerates.j2, Bool.false_eq_true, if_false, if_true, alive_total k (by omega), Option.bind_some]
  · have e3 : nthR (makeL l) x = (0, false) := by unfold nthR; rw [if_pos (by omega)]
    rw [if_neg h0, e3, if_neg (by simp)]
    simp only [unicodetextlaw02_CpsetEnumerates.j2, Bool.false_eq_true, if_false, if_true, alive_total k (by omega), Option.bind_some]
theorem cpsetEnumerates_plain (l : List Rg) (_ : ∀ r ∈ l, (Lit.int .i64 r.f0).wf = true ∧ (Lit.int .i64 r.f1).wf = true) (x : Int) (hx : (Lit.int .i64 x).wf = true) : ∃ k, unicodetextlaw02_CpsetEnumerates.f k l x = some true := by
  refine ⟨402, ?_⟩
  have hb : -9223372036854775808 ≤ x ∧ x ≤ 9223372036854775807 := by
    have h1 : IntKind.i64.min = -9223372036854775808 := rfl
    have h2 : IntKind.i64.max = 9223372036854775807 := rfl
    simp only [Lit.wf, Bool.and_eq_true, decide_eq_true_eq] at hx
    omega
  unfold unicodetextlaw02_CpsetEnumerates.f
  rw [small_f, Option.bind_some, alive_total 402 (by decide), Option.bind_some]
  by_cases h : l.length ≤ 12
  · have hs := sumL_le (makeL_valid l)
    rw [decide_eq_true h, if_pos rfl, count_f (by omega), Option.bind_some]
    by_cases hp : sumL (makeL l) > 0
    · rw [if_pos hp]
      by_cases h0 : x ≥ 0
      · rw [decide_eq_true h0]
        simp only [unicodetextlaw02_CpsetEnumerates.j0, if_true]
        rw [if_neg (by omega)]
        have t1 := Int.tmod_lt_of_pos x hp
        have t2 := Int.tmod_nonneg (sumL (makeL l)) h0
        exact enum_j1 l h _ ⟨by omega, by omega⟩ 401 (by omega)
      · rw [decide_eq_false h0]
        simp only [unicodetextlaw02_CpsetEnumerates.j0, Bool.false_eq_true, if_false]
        exact enum_j1 l h x hb 401 (by omega)
    · rw [if_neg hp]
      simp only [unicodetextlaw02_CpsetEnumerates.j0, Bool.false_eq_true, if_false]
      exact enum_j1 l h x hb 401 (by omega)
  · rw [decide_eq_false h, if_neg (by simp)]
end Go.Proofs.YtpnkkhichkmmmaaDoor.Q
