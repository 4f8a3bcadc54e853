/-
  DERIVED. The reference of the chapter on sets (unicodetextref02), in plain Lean: Same and Has.
-/
import Derived.Test.YtpnkkhichkmmmaaGreatDoorPairSem
import Derived.Test.YtpnkkhichkmmmaaGreatDoorQ2
import Derived.Test.YtpnkkhichkmmmaaGreatDoorQ6
namespace Go.Proofs.YtpnkkhichkmmmaaGreatDoor.Q
set_option linter.unusedVariables false
set_option linter.unusedSimpArgs false
open Go.RowKit Go.Proofs.YtpnkkhichkmmmaaGreatDoorW.PrintWords Go.Proofs.YtpnkkhichkmmmaaGreatDoorW.PrintLast Go.Proofs.YtpnkkhichkmmmaaGreatDoorW.PrintMore

instance decRg : DecidableEq Rg := fun a b => if h : a.f0 = b.f0 ∧ a.f1 = b.f1 then isTrue (by cases a; cases b; simp at h; simp [h]) else isFalse (fun e => h (by rw [e]; exact ⟨rfl, rfl⟩))
theorem ilt (a b : Int) : a < b ∨ b ≤ a := by omega
theorem pred1 {k n : Nat} (h : n + 1 ≤ k) : ∃ j, k = j + 1 ∧ n ≤ j := ⟨k - 1, by omega, by omega⟩
theorem wrap_nat {i : Nat} (h : i < 4611686018427387904) : wrap64 ((i : Int) + 1) = ((i + 1 : Nat) : Int) := by unfold wrap64; omega
theorem rd_R (xs : List Rg) (i : Nat) : rd_T32 xs (i : Int) = xs.getD i z32 := by simp [rd_T32]
theorem rd_I (xs : List Int) (i : Nat) : rd xs (i : Int) = xs.getD i 0 := by simp [rd]
theorem getD_dropI {xs : List Int} {i : Nat} (h : i < xs.length) : xs.drop i = xs.getD i 0 :: xs.drop (i + 1) := by
  rw [List.drop_eq_getElem_cons h]; simp [h]

theorem same_l0 (a b : List Rg) (hl : a.length = b.length) (ha : a.length ≤ 1000000) : ∀ (n i k : Nat), i + n = a.length → n + 1 ≤ k →
    unicodetextref02_Same.l0 k (i : Int) a b = some (decide (a.drop i = b.drop i))
  | 0, i, k, hi, hk => by
    obtain ⟨k, rfl, hk1⟩ := pred1 hk
    have h : ¬ ((i : Int) < (a.length : Int)) := by omega
    rw [List.drop_eq_nil_of_le (show a.length ≤ i by omega), List.drop_eq_nil_of_le (show b.length ≤ i by omega)]
    simp only [unicodetextref02_Same.l0, if_neg h, decide_true]
  | n + 1, i, k, hi, hk => by
    obtain ⟨k, rfl, hk1⟩ := pred1 hk
    have h : (i : Int) < (a.length : Int) := by omega
    have h0 : (0 : Int) ≤ (i : Int) := by omega
    have h2 : (i : Int) < (b.length : Int) := by omega
    have ih := same_l0 a b hl ha n (i + 1) k (by omega) (by omega)
    rw [getD_drop (show i < a.length by omega), getD_drop (show i < b.length by omega)]
    simp only [unicodetextref02_Same.l0, if_pos h, if_pos h0, if_pos h2, rd_R, wrap_nat (show i < 4611686018427387904 by omega), ih]
    generalize a.getD i z32 = x
    generalize b.getD i z32 = y
    obtain ⟨x0, x1⟩ := x
    obtain ⟨y0, y1⟩ := y
    by_cases e0 : x0 = y0 <;> by_cases e1 : x1 = y1 <;> simp [e0, e1]
theorem Same_total (a b : List Rg) (ha : a.length ≤ 1000000) (k : Nat) (hk : a.length + 1 ≤ k) : unicodetextref02_Same.f k a b = some (decide (a = b)) := by
  unfold unicodetextref02_Same.f
  by_cases hl : a.length = b.length
  · rw [if_pos (by omega)]
    have := same_l0 a b hl ha a.length 0 k (by omega) (by omega)
    simpa using this
  · rw [if_neg (by omega)]
    have : a ≠ b := fun e => hl (by rw [e])
    simp [this]

def validI (c : Int) : Bool := decide (0 ≤ c ∧ c ≤ 1114111)
theorem Valid_f (c : Int) : unicodetextref01_Valid.f c = some (validI c) := by
  unfold unicodetextref01_Valid.f validI
  by_cases h : c ≥ 0
  · rw [if_pos h]; simp [h]
  · rw [if_neg h]; simp [h]
def hasR (l : List Rg) (c : Int) : Bool := decide (0 ≤ c ∧ c ≤ 1114111 ∧ Mem l c)
  where Mem (l : List Rg) (c : Int) : Bool := l.any fun r => decide (r.f0 ≤ c ∧ c ≤ r.f1)
theorem hasR_nil (c : Int) : hasR [] c = false := by simp [hasR, hasR.Mem]
theorem hasR_iff (l : List Rg) (c : Int) : hasR l c = true ↔ 0 ≤ c ∧ c ≤ 1114111 ∧ Mem l c := by
  simp [hasR, hasR.Mem, Mem]
theorem hasR_cons (r : Rg) (l : List Rg) (c : Int) : hasR (r :: l) c = (if validI c = true ∧ r.f0 ≤ c ∧ c ≤ r.f1 then true else hasR l c) := by
  unfold hasR hasR.Mem validI
  by_cases h : (0 ≤ c ∧ c ≤ 1114111)
  · by_cases h1 : r.f0 ≤ c ∧ c ≤ r.f1
    · simp [h, h1]
    · simp [h, h1]
  · have : ¬ (0 ≤ c ∧ c ≤ 1114111 ∧ l.any (fun r => decide (r.f0 ≤ c ∧ c ≤ r.f1)) = true) := fun h' => h ⟨h'.1, h'.2.1⟩
    have h2 : ¬ (0 ≤ c ∧ c ≤ 1114111 ∧ (r :: l).any (fun r => decide (r.f0 ≤ c ∧ c ≤ r.f1)) = true) := fun h' => h ⟨h'.1, h'.2.1⟩
    simp only [this, h2, h, decide_false, Bool.false_eq_true, false_and, if_false]
theorem hasR_hasL (l : List Rg) (c : Int) : hasR l c = hasL l c := by
  rw [Bool.eq_iff_iff, hasR_iff, hasL_iff]
theorem has_l0 (l : List Rg) (c : Int) (hl : l.length ≤ 1000000) : ∀ (n i k : Nat), i + n = l.length → n + 1 ≤ k →
    unicodetextref02_Has.l0 k c (i : Int) l = some (hasR (l.drop i) c)
  | 0, i, k, hi, hk => by
    obtain ⟨k, rfl, hk1⟩ := pred1 hk
    have h : ¬ ((i : Int) < (l.length : Int)) := by omega
    rw [List.drop_eq_nil_of_le (show l.length ≤ i by omega), hasR_nil]
    simp only [unicodetextref02_Has.l0, if_neg h]
  | n + 1, i, k, hi, hk => by
    obtain ⟨k, rfl, hk1⟩ := pred1 hk
    have h : (i : Int) < (l.length : Int) := by omega
    have h0 : (0 : Int) ≤ (i : Int) := by omega
    have ih := has_l0 l c hl n (i + 1) k (by omega) (by omega)
    rw [getD_drop (show i < l.length by omega), hasR_cons]
    simp only [unicodetextref02_Has.l0, if_pos h, if_pos h0, rd_R, wrap_nat (show i < 4611686018427387904 by omega), ih, Valid_f, Option.bind_some]
    generalize l.getD i z32 = x
    by_cases hv : validI c = true
    · by_cases e0 : x.f0 ≤ c <;> by_cases e1 : c ≤ x.f1 <;> simp [hv, e0, e1]
    · simp [hv]
theorem RHas_total (l : List Rg) (c : Int) (hl : l.length ≤ 1000000) (k : Nat) (hk : l.length + 1 ≤ k) : unicodetextref02_Has.f k l c = some (hasR l c) := by
  have := has_l0 l c hl l.length 0 k (by omega) (by omega)
  simpa [unicodetextref02_Has.f] using this

theorem hasL_nil (c : Int) : hasL [] c = false := by
  have := hasR_hasL [] c
  rw [← this, hasR_nil]
end Go.Proofs.YtpnkkhichkmmmaaGreatDoor.Q
