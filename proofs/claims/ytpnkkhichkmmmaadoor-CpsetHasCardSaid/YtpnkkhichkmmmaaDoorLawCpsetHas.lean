/-
  DERIVED. The plain law of CpsetHas: what its printed function computes is true.
-/
import Derived.Test.YtpnkkhichkmmmaaDoorAlive
import Derived.Test.YtpnkkhichkmmmaaDoorQ11
namespace Go.Proofs.YtpnkkhichkmmmaaDoor.Q
set_option linter.unusedVariables false
set_option linter.unusedSimpArgs false
open Go.RowKit Go.Proofs.YtpnkkhichkmmmaaDoorW.PrintWords Go.Proofs.YtpnkkhichkmmmaaDoorW.PrintLast Go.Proofs.YtpnkkhichkmmmaaDoorW.PrintMore

theorem small_f (l : List Rg) : unicodetextref02_Small.f l = some (decide (l.length ≤ 12)) := by
  unfold unicodetextref02_Small.f
  congr 2
  exact propext ⟨fun h => by omega, fun h => by omega⟩
theorem has_f {l : List Rg} (h : l.length ≤ 100000) (c : Int) : cpset_Has.f l c = some (hasR l c) := by
  unfold cpset_Has.f
  rw [if_pos h, hasR_hasL]
theorem hasR_make (l : List Rg) (c : Int) : hasR (makeL l) c = hasR l c := by
  rw [hasR_hasL, hasR_hasL]
  unfold hasL
  rw [makeL_VL (makeL_valid l)]
theorem cpsetHas_plain (l : List Rg) (_ : ∀ r ∈ l, (Lit.int .i64 r.f0).wf = true ∧ (Lit.int .i64 r.f1).wf = true) (c : Int) (_ : (Lit.int .i64 c).wf = true) : ∃ k, unicodetextlaw02_CpsetHas.f k l c = some true := by
  refine ⟨100, ?_⟩
  unfold unicodetextlaw02_CpsetHas.f
  rw [small_f, Option.bind_some, alive_total 100 (by decide), Option.bind_some]
  by_cases h : l.length ≤ 12
  · have hm := makeL_len l
    rw [decide_eq_true h, if_pos rfl, has_f (by omega), Option.bind_some, RHas_total l c (by omega) 100 (by omega), Option.bind_some, if_pos (by simp), Make_total l (by omega) 100 (by omega), Option.bind_some, has_f (by omega), Option.bind_some, Option.bind_some, hasR_make, if_pos (by simp)]
  · rw [decide_eq_false h, if_neg (by simp)]
end Go.Proofs.YtpnkkhichkmmmaaDoor.Q
