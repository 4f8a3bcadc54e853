/-
  DERIVED. The reference of the chapter on sets (unicodetextref02), in plain Lean: Same and Has.
-/
import Derived.Test.YtpnkkhichkmmmaaDoorGPairSem
import Derived.Test.YtpnkkhichkmmmaaDoorGQ4
import Derived.Test.YtpnkkhichkmmmaaDoorGQ5
namespace Go.Proofs.YtpnkkhichkmmmaaDoor.Q
set_option linter.unusedVariables false
set_option linter.unusedSimpArgs false
open Go.RowKit Go.Proofs.YtpnkkhichkmmmaaDoorW.PrintWords Go.Proofs.YtpnkkhichkmmmaaDoorW.PrintLast Go.Proofs.YtpnkkhichkmmmaaDoorW.PrintMore

instance decRg : DecidableEq Rg := fun a b => if h : a.f0 = b.f0 ∧ a.f1 = b.f1 then isTrue (by cases a; cases b; simp at h; simp [h]) else isFalse (fun e => h (by rw [e]; exact ⟨rfl, rfl⟩))
theorem pred1 {k n : Nat} (h : n + 1 ≤ k) : ∃ j, k = j + 1 ∧ n ≤ j := ⟨k - 1, by omega, by omega⟩
theorem wrap_nat {i : Nat} (h : i < 4611686018427387904) : wrap64 ((i : Int) + 1) = ((i + 1 : Nat) : Int) := by unfold wrap64; omega
theorem rd_R (xs : List Rg) (i : Nat) : rd_T43 xs (i : Int) = xs.getD i z43 := by simp [rd_T43]
theorem same_l0 (a b : List Rg) (hl : a.length = b.length) (ha : a.length ≤ 1000000) : ∀ (n i k : Nat), i + n = a.length → n + 1 ≤ k →
    unicodetextref02_Same.l0 k (i : Int) a b = some (decide (a.drop i = b.drop i))
  | 0, i, k, hi, hk => by
    obtain ⟨k, rfl, hk1⟩ := pred1 hk
    have h : ¬ ((i : Int) < (a.length : Int)) := by omega
    rw [List.drop_eq_nil_of_le (show a.length ≤ i by omega), List.drop_eq_nil_of_le (show b.length ≤ i by omega)]
    simp only [unicodetextref02_Same.l0, if_neg h, decide_true]
  | n + 1, i, k, hi, hk => by
    obtain ⟨k, rfl, hk1⟩ := pred1 hk
    have h : (i : Int) < (a.length : Int) := by omega
    have h0 : (0 : Int) ≤ (i : Int) := by omega
    have h2 : (i : Int) < (b.length : Int) := by omega
    have ih := same_l0 a b hl ha n (i + 1) k (by omega) (by omega)
    rw [getD_drop (show i < a.length by omega), getD_drop (show i < b.length by omega)]
    simp only [unicodetextref02_Same.l0, if_pos h, if_pos h0, if_pos h2, rd_R, wrap_nat (show i < 4611686018427387904 by omega), ih]
    generalize a.getD i z43 = x
    generalize b.getD i z43 = y
    obtain ⟨x0, x1⟩ := x
    obtain ⟨y0, y1⟩ := y
    by_cases e0 : x0 = y0 <;> by_cases e1 : x1 = y1 <;> simp [e0, e1]
theorem Same_total (a b : List Rg) (ha : a.length ≤ 1000000) (k : Nat) (hk : a.length + 1 ≤ k) : unicodetextref02_Same.f k a b = some (decide (a = b)) := by
  unfold unicodetextref02_Same.f
  by_cases hl : a.length = b.length
  · rw [if_pos (by omega)]
    have := same_l0 a b hl ha a.length 0 k (by omega) (by omega)
    simpa using this
  · rw [if_neg (by omega)]
    have : a ≠ b := fun e => hl (by rw [e])
    simp [this]

def hasR (l : List Rg) (c : Int) : Bool := decide (0 ≤ c ∧ c ≤ 1114111 ∧ Mem l c)
  where Mem (l : List Rg) (c : Int) : Bool := l.any fun r => decide (r.f0 ≤ c ∧ c ≤ r.f1)
theorem hasR_nil (c : Int) : hasR [] c = false := by simp [hasR, hasR.Mem]
theorem hasR_iff (l : List Rg) (c : Int) : hasR l c = true ↔ 0 ≤ c ∧ c ≤ 1114111 ∧ Mem l c := by
  simp [hasR, hasR.Mem, Mem]
theorem hasR_hasL (l : List Rg) (c : Int) : hasR l c = hasL l c := by
  rw [Bool.eq_iff_iff, hasR_iff, hasL_iff]
theorem hasL_nil (c : Int) : hasL [] c = false := by
  have := hasR_hasL [] c
  rw [← this, hasR_nil]
end Go.Proofs.YtpnkkhichkmmmaaDoor.Q
