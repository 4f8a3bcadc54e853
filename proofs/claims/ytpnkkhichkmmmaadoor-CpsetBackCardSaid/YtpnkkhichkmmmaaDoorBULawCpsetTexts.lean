/-
  DERIVED. The plain law of CpsetTexts: what its printed function computes is true.
-/
import Derived.Test.YtpnkkhichkmmmaaDoorBUBackP
import Derived.Test.YtpnkkhichkmmmaaDoorBULawCpsetHas
import Derived.Test.YtpnkkhichkmmmaaDoorBUQ10
namespace Go.Proofs.YtpnkkhichkmmmaaDoor.Q
set_option linter.unusedVariables false
set_option linter.unusedSimpArgs false
open Go.RowKit Go.Proofs.YtpnkkhichkmmmaaDoorW.PrintWords Go.Proofs.YtpnkkhichkmmmaaDoorW.PrintLast Go.Proofs.YtpnkkhichkmmmaaDoorW.PrintMore

theorem parse_len (s : ByteArray) (h : s.size ≤ 900) : (parseP s).1.length ≤ 1000 := by
  rcases parseP_or s with e | ⟨ys, hv, rfl, e⟩
  · rw [e]; simp
  · rw [e]
    cases ys with
    | nil => simp
    | cons r t =>
      have hl : ∀ (t : List Rg), (∀ r ∈ t, Ok r) → t.length ≤ (Lib.joinTail [32] (t.map pL)).length := by
        intro t
        induction t with
        | nil => intro _; simp
        | cons x t ih =>
          intro ho
          have h1 := partB_pos (ho x (by simp))
          have h2 := ih (fun y hy => ho y (by simp [hy]))
          simp only [Lib.joinTail, List.map_cons, List.flatten_cons, List.length_append, List.length_cons, List.length_nil, List.map_map] at h2 ⊢
          omega
      have h2 := hl t (fun y hy => hv.1 y (by simp [hy]))
      rw [← data_length, textL_data, List.length_append] at h
      simp only [List.length_cons]
      omega
end Go.Proofs.YtpnkkhichkmmmaaDoor.Q
