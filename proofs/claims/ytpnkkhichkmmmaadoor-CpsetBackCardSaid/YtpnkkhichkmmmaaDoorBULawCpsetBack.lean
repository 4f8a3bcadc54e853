/-
  DERIVED. The plain law of CpsetBack: what its printed function computes is true.
-/
import Derived.Test.YtpnkkhichkmmmaaDoorBUBackP
import Derived.Test.YtpnkkhichkmmmaaDoorBULawCpsetMakes
import Derived.Test.YtpnkkhichkmmmaaDoorBULawCpsetTexts
import Derived.Test.YtpnkkhichkmmmaaDoorBUQ16
namespace Go.Proofs.YtpnkkhichkmmmaaDoor.Q
set_option linter.unusedVariables false
set_option linter.unusedSimpArgs false
open Go.RowKit Go.Proofs.YtpnkkhichkmmmaaDoorW.PrintWords Go.Proofs.YtpnkkhichkmmmaaDoorW.PrintLast Go.Proofs.YtpnkkhichkmmmaaDoorW.PrintMore

theorem textL_size (ys : List Rg) : (textL ys).size ≤ 15 * ys.length := by
  have := join_len ys
  rw [← data_length]
  exact this
theorem cpsetBack_plain (l : List Rg) (_ : ∀ r ∈ l, (Lit.int .i64 r.f0).wf = true ∧ (Lit.int .i64 r.f1).wf = true) (s : ByteArray) : ∃ k, unicodetextlaw02_CpsetBack.f k l s = some true := by
  refine ⟨600001, ?_⟩
  have hal : (unicodetextlaw02_alive.f 600000).bind (fun t => some t) = some true := by rw [alive_total _ (by decide)]; rfl
  have e : (600001 : Nat) = 600000 + 1 := rfl
  have hdead : unicodetextlaw02_CpsetBack.j0 600001 s true l = some true := by
    rw [e]
    simp only [unicodetextlaw02_CpsetBack.j0, if_true]
    exact hal
  unfold unicodetextlaw02_CpsetBack.f
  rw [small_f, Option.bind_some]
  by_cases h : l.length ≤ 12
  · rw [decide_eq_true h, if_pos rfl]
    by_cases h2 : (s.size : Int) > 400
    · rw [decide_eq_true h2]; exact hdead
    · have hm := makeL_len l
      have ht := textL_size (makeL l)
      have hv := makeL_valid l
      rw [decide_eq_false h2, e]
      simp only [unicodetextlaw02_CpsetBack.j0, Bool.false_eq_true, if_false, text_f (show l.length ≤ 100000 by omega), Option.bind_some, CSParse_total (textL (makeL l)) (by omega) 600000 (by omega), parseP_text hv, CSParse_total s (by omega) 600000 (by omega), if_true, Make_total l (by omega) 600000 (by omega)]
      rw [Same_total _ _ (by omega) 600000 (by omega), Option.bind_some, if_pos (by simp)]
      have hp := parse_len s (by omega)
      rcases parseP_or s with h3 | ⟨ys, hy, hs, h3⟩
      · rw [h3]
        exact hal
      · rw [h3] at hp ⊢
        have hmk := makeL_VL hy
        have v1 := CValid_total ys (by simp at hp; omega) 600000 (by omega)
        rw [hmk, decide_eq_true rfl] at v1
        have t1 := text_f (l := ys) (by simp at hp; omega)
        rw [hmk, hs] at t1
        simp only [v1, t1, Option.bind_some, if_true]
        exact hal
  · rw [decide_eq_false h, if_neg (by simp)]
    exact hdead
end Go.Proofs.YtpnkkhichkmmmaaDoor.Q
