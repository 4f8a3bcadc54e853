/-
  DERIVED. The plain law of CpsetMakes: what its printed function computes is true.
-/
import Derived.Test.YtpnkkhichkmmmaaDoorBUAlive
import Derived.Test.YtpnkkhichkmmmaaDoorBURef
import Derived.Test.YtpnkkhichkmmmaaDoorBULawCpsetHas
import Derived.Test.YtpnkkhichkmmmaaDoorBUQ14
namespace Go.Proofs.YtpnkkhichkmmmaaDoor.Q
set_option linter.unusedVariables false
set_option linter.unusedSimpArgs false
open Go.RowKit Go.Proofs.YtpnkkhichkmmmaaDoorW.PrintWords Go.Proofs.YtpnkkhichkmmmaaDoorW.PrintLast Go.Proofs.YtpnkkhichkmmmaaDoorW.PrintMore

theorem valid_l0 (a b : List Rg) (hl : a.length = b.length) (ha : a.length ≤ 1000000) : ∀ (n i k : Nat), i + n = a.length → n + 1 ≤ k →
    cpset_Valid.l0 k a (a.length : Int) (i : Int) b = some (decide (a.drop i = b.drop i))
  | 0, i, k, hi, hk => by
    obtain ⟨k, rfl, hk1⟩ := pred1 hk
    have h : ¬ ((i : Int) < (a.length : Int)) := by omega
    rw [List.drop_eq_nil_of_le (show a.length ≤ i by omega), List.drop_eq_nil_of_le (show b.length ≤ i by omega)]
    simp only [cpset_Valid.l0, if_neg h, decide_true]
  | n + 1, i, k, hi, hk => by
    obtain ⟨k, rfl, hk1⟩ := pred1 hk
    have h : (i : Int) < (a.length : Int) := by omega
    have h0 : (0 : Int) ≤ (i : Int) := by omega
    have h2 : (i : Int) < (b.length : Int) := by omega
    have ih := valid_l0 a b hl ha n (i + 1) k (by omega) (by omega)
    rw [getD_drop (show i < a.length by omega), getD_drop (show i < b.length by omega)]
    simp only [cpset_Valid.l0, if_pos h, if_pos h0, if_pos h2, rd_R, wrap_nat (show i < 4611686018427387904 by omega), ih]
    generalize a.getD i z43 = x
    generalize b.getD i z43 = y
    obtain ⟨x0, x1⟩ := x
    obtain ⟨y0, y1⟩ := y
    by_cases e0 : x0 = y0 <;> by_cases e1 : x1 = y1 <;> simp [e0, e1]
theorem CValid_total (l : List Rg) (h : l.length ≤ 100000) (k : Nat) (hk : 400000 ≤ k) : cpset_Valid.f k l = some (decide (makeL l = l)) := by
  have hm := makeL_len l
  unfold cpset_Valid.f
  rw [Make_total l (by omega) k (by omega), Option.bind_some]
  by_cases hl : (makeL l).length = l.length
  · rw [if_pos (by omega)]
    have := valid_l0 (makeL l) l hl (by omega) (makeL l).length 0 k (by omega) (by omega)
    simpa using this
  · rw [if_neg (by omega)]
    have : makeL l ≠ l := fun e => hl (by rw [e])
    simp [this]
end Go.Proofs.YtpnkkhichkmmmaaDoor.Q
