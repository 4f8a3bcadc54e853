/-
  DERIVED. The plain law of CpsetCounts: what its printed function computes is true.
-/
import Derived.Test.YtpnkkhichkmmmaaDoorSAlive
import Derived.Test.YtpnkkhichkmmmaaDoorSRef
import Derived.Test.YtpnkkhichkmmmaaDoorSLawCpsetHas
import Derived.Test.YtpnkkhichkmmmaaDoorSQ15
namespace Go.Proofs.YtpnkkhichkmmmaaDoor.Q
set_option linter.unusedVariables false
set_option linter.unusedSimpArgs false
open Go.RowKit Go.Proofs.YtpnkkhichkmmmaaDoorW.PrintWords Go.Proofs.YtpnkkhichkmmmaaDoorW.PrintLast Go.Proofs.YtpnkkhichkmmmaaDoorW.PrintMore

theorem getD_ok {ys : List Rg} (h : ∀ r ∈ ys, Ok r) {i : Nat} (hi : i < ys.length) : Ok (ys.getD i z43) := h _ (by simp [hi])
theorem count_l0 (ys : List Rg) (h : ∀ r ∈ ys, Ok r) (hl : ys.length ≤ 1000000) : ∀ (n i k : Nat) (c : Int), i + n = ys.length → n + 1 ≤ k →
    unicodetextref02_Count.l0 k c (i : Int) ys = some ((ys.drop i).foldl (fun n r => wrap64 (n + wrap64 (wrap64 (r.f1 - r.f0) + 1))) c)
  | 0, i, k, c, hi, hk => by
    obtain ⟨k, rfl, hk1⟩ := pred1 hk
    have h : ¬ ((i : Int) < (ys.length : Int)) := by omega
    rw [List.drop_eq_nil_of_le (show ys.length ≤ i by omega)]
    simp only [unicodetextref02_Count.l0, if_neg h, List.foldl_nil]
  | n + 1, i, k, c, hi, hk => by
    obtain ⟨k, rfl, hk1⟩ := pred1 hk
    have h1 : (i : Int) < (ys.length : Int) := by omega
    have h0 : (0 : Int) ≤ (i : Int) := by omega
    have ih := fun c => count_l0 ys h hl n (i + 1) k c (by omega) (by omega)
    rw [getD_drop (show i < ys.length by omega), List.foldl_cons]
    simp only [unicodetextref02_Count.l0, if_pos h1, if_pos h0, rd_R, wrap_nat (show i < 4611686018427387904 by omega), ih]
    generalize ys.getD i z43 = x
    have e : wrap64 (wrap64 (wrap64 (c + x.f1) - x.f0) + 1) = wrap64 (c + wrap64 (wrap64 (x.f1 - x.f0) + 1)) := by unfold wrap64; omega
    rw [e]
theorem RCount_total (l : List Rg) (h : l.length ≤ 1000) (k : Nat) (hk : 300000 ≤ k) : unicodetextref02_Count.f k l = some (countL (makeL l)) := by
  have hm := makeL_len l
  unfold unicodetextref02_Count.f
  rw [RMake_total l h k hk, Option.bind_some]
  have := count_l0 (makeL l) (makeL_valid l).1 (by omega) (makeL l).length 0 k 0 (by omega) (by omega)
  simpa [countL] using this
theorem nth_l0 (ys : List Rg) (h : ∀ r ∈ ys, Ok r) (hl : ys.length ≤ 1000000) : ∀ (n i k : Nat) (x : Int), i + n = ys.length → 0 ≤ x → x ≤ 9223372036854775807 → n + 1 ≤ k →
    unicodetextref02_Nth.l0 k x (i : Int) ys = some (nthL (ys.drop i) x)
  | 0, i, k, x, hi, h0x, h1x, hk => by
    obtain ⟨k, rfl, hk1⟩ := pred1 hk
    have h : ¬ ((i : Int) < (ys.length : Int)) := by omega
    rw [List.drop_eq_nil_of_le (show ys.length ≤ i by omega)]
    simp only [unicodetextref02_Nth.l0, if_neg h, nthL]
  | n + 1, i, k, x, hi, h0x, h1x, hk => by
    obtain ⟨k, rfl, hk1⟩ := pred1 hk
    have h1 : (i : Int) < (ys.length : Int) := by omega
    have h0 : (0 : Int) ≤ (i : Int) := by omega
    have ho := getD_ok h (show i < ys.length by omega)
    have ih := fun x a b => nth_l0 ys h hl n (i + 1) k x (by omega) a b (by omega)
    rw [getD_drop (show i < ys.length by omega)]
    simp only [unicodetextref02_Nth.l0, if_pos h1, if_pos h0, rd_R, wrap_nat (show i < 4611686018427387904 by omega)]
    generalize ys.getD i z43 = r at ho
    unfold Ok at ho
    have w0 : wrap64 (r.f1 - r.f0) = r.f1 - r.f0 := by unfold wrap64; omega
    have w1 : wrap64 (r.f1 - r.f0 + 1) = r.f1 - r.f0 + 1 := by unfold wrap64; omega
    simp only [nthL, w0, w1]
    by_cases hc : x ≤ r.f1 - r.f0
    · rw [if_pos (by omega), if_pos hc]
    · have w2 : wrap64 (x - (r.f1 - r.f0 + 1)) = x - (r.f1 - r.f0 + 1) := by unfold wrap64; omega
      rw [if_neg (by omega), if_neg hc, w2, ih _ (by omega) (by omega)]
theorem RNth_total (l : List Rg) (x : Int) (hx : (Lit.int .i64 x).wf = true) (h : l.length ≤ 1000) (k : Nat) (hk : 300000 ≤ k) : unicodetextref02_Nth.f k l x = some (nthR (makeL l) x) := by
  have hm := makeL_len l
  have hb : x ≤ 9223372036854775807 := by
    have h2 : IntKind.i64.max = 9223372036854775807 := rfl
    simp only [Lit.wf, Bool.and_eq_true, decide_eq_true_eq] at hx
    omega
  unfold unicodetextref02_Nth.f nthR
  rw [RMake_total l h k hk, Option.bind_some]
  by_cases hn : x < 0
  · rw [if_pos hn, if_pos hn]
  · rw [if_neg hn, if_neg hn]
    have := nth_l0 (makeL l) (makeL_valid l).1 (by omega) (makeL l).length 0 k x (by omega) (by omega) hb (by omega)
    simpa using this
theorem cpsetCounts_plain (l : List Rg) (_ : ∀ r ∈ l, (Lit.int .i64 r.f0).wf = true ∧ (Lit.int .i64 r.f1).wf = true) (x : Int) (hx : (Lit.int .i64 x).wf = true) : ∃ k, unicodetextlaw02_CpsetCounts.f k l x = some true := by
  refine ⟨400000, ?_⟩
  unfold unicodetextlaw02_CpsetCounts.f
  rw [small_f, Option.bind_some, alive_total 400000 (by decide), Option.bind_some]
  by_cases h : l.length ≤ 12
  · have e1 : cpset_Nth.f l x = some (nthR (makeL l) x) := by unfold cpset_Nth.f; rw [if_pos (by omega)]
    have e2 : cpset_Count.f l = some (countL (makeL l)) := by unfold cpset_Count.f; rw [if_pos (by omega)]
    rw [decide_eq_true h, if_pos rfl, e1, Option.bind_some, RNth_total l x hx (by omega) _ (by omega), Option.bind_some, if_pos rfl, if_pos (by simp), e2, Option.bind_some, RCount_total l (by omega) _ (by omega), Option.bind_some, if_pos rfl]
  · rw [decide_eq_false h, if_neg (by simp)]
end Go.Proofs.YtpnkkhichkmmmaaDoor.Q
