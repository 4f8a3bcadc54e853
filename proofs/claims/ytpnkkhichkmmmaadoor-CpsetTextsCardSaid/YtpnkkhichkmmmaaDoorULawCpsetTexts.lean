/-
  DERIVED. The plain law of CpsetTexts: what its printed function computes is true.
-/
import Derived.Test.YtpnkkhichkmmmaaDoorUBackP
import Derived.Test.YtpnkkhichkmmmaaDoorULawCpsetHas
import Derived.Test.YtpnkkhichkmmmaaDoorUQ10
namespace Go.Proofs.YtpnkkhichkmmmaaDoor.Q
set_option linter.unusedVariables false
set_option linter.unusedSimpArgs false
open Go.RowKit Go.Proofs.YtpnkkhichkmmmaaDoorW.PrintWords Go.Proofs.YtpnkkhichkmmmaaDoorW.PrintLast Go.Proofs.YtpnkkhichkmmmaaDoorW.PrintMore

theorem parse_len (s : ByteArray) (h : s.size ≤ 900) : (parseP s).1.length ≤ 1000 := by
  rcases parseP_or s with e | ⟨ys, hv, rfl, e⟩
  · rw [e]; simp
  · rw [e]
    cases ys with
    | nil => simp
    | cons r t =>
      have hl : ∀ (t : List Rg), (∀ r ∈ t, Ok r) → t.length ≤ (Lib.joinTail [32] (t.map pL)).length := by
        intro t
        induction t with
        | nil => intro _; simp
        | cons x t ih =>
          intro ho
          have h1 := partB_pos (ho x (by simp))
          have h2 := ih (fun y hy => ho y (by simp [hy]))
          simp only [Lib.joinTail, List.map_cons, List.flatten_cons, List.length_append, List.length_cons, List.length_nil, List.map_map] at h2 ⊢
          omega
      have h2 := hl t (fun y hy => hv.1 y (by simp [hy]))
      rw [← data_length, textL_data, List.length_append] at h
      simp only [List.length_cons]
      omega
theorem cpsetTexts_plain (l : List Rg) (_ : ∀ r ∈ l, (Lit.int .i64 r.f0).wf = true ∧ (Lit.int .i64 r.f1).wf = true) (s : ByteArray) : ∃ k, unicodetextlaw02_CpsetTexts.f k l s = some true := by
  refine ⟨600001, ?_⟩
  have hal : (unicodetextlaw02_alive.f 600000).bind (fun t => some t) = some true := by rw [alive_total _ (by decide)]; rfl
  have hdead : unicodetextlaw02_CpsetTexts.j0 600001 s true l = some true := by
    have e : (600001 : Nat) = 600000 + 1 := rfl
    rw [e]
    simp only [unicodetextlaw02_CpsetTexts.j0, if_true]
    exact hal
  unfold unicodetextlaw02_CpsetTexts.f
  rw [small_f, Option.bind_some]
  by_cases h : l.length ≤ 12
  · rw [decide_eq_true h, if_pos rfl]
    by_cases h2 : (s.size : Int) > 400
    · rw [decide_eq_true h2]; exact hdead
    · have hp := parse_len s (by omega)
      have e : (600001 : Nat) = 600000 + 1 := rfl
      rw [decide_eq_false h2, e]
      simp only [unicodetextlaw02_CpsetTexts.j0, Bool.false_eq_true, if_false, CSParse_total s (by omega) 600000 (by omega), RSParse_total s (by omega) 600000 (by omega), Option.bind_some, text_f (show l.length ≤ 100000 by omega), RText_total l (by omega) 600000 (by omega), ← parse_same, if_true]
      rw [Same_total _ _ (by omega) 600000 (by omega), Option.bind_some, if_pos (by simp)]
      exact hal
  · rw [decide_eq_false h, if_neg (by simp)]
    exact hdead
end Go.Proofs.YtpnkkhichkmmmaaDoor.Q
