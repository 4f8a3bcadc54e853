/-
  DERIVED. The plain law of CpsetHas: what its printed function computes is true.
-/
import Derived.Test.YtpnkkhichkmmmaaDoorBUAlive
import Derived.Test.YtpnkkhichkmmmaaDoorBUQ11
namespace Go.Proofs.YtpnkkhichkmmmaaDoor.Q
set_option linter.unusedVariables false
set_option linter.unusedSimpArgs false
open Go.RowKit Go.Proofs.YtpnkkhichkmmmaaDoorW.PrintWords Go.Proofs.YtpnkkhichkmmmaaDoorW.PrintLast Go.Proofs.YtpnkkhichkmmmaaDoorW.PrintMore

theorem small_f (l : List Rg) : unicodetextref02_Small.f l = some (decide (l.length ≤ 12)) := by
  unfold unicodetextref02_Small.f
  congr 2
  exact propext ⟨fun h => by omega, fun h => by omega⟩
end Go.Proofs.YtpnkkhichkmmmaaDoor.Q
