/-
  DERIVED. The sets' order and their sizes, in plain Lean: a difference is empty exactly if one set is in the other; a valid list's size is the number of its code points.
-/
import Derived.Test.YtpnkkhichkmmmaaDoorGAlg
import Derived.Test.YtpnkkhichkmmmaaDoorGNum
namespace Go.Proofs.YtpnkkhichkmmmaaDoor.Q
set_option linter.unusedVariables false
set_option linter.unusedSimpArgs false
open Go.RowKit Go.Proofs.YtpnkkhichkmmmaaDoorW.PrintWords Go.Proofs.YtpnkkhichkmmmaaDoorW.PrintLast Go.Proofs.YtpnkkhichkmmmaaDoorW.PrintMore

theorem nil_iff {x : List Rg} (hx : VL x) : x = [] ↔ ∀ c : Int, 0 ≤ c → c ≤ 1114111 → hasL x c = false := by
  constructor
  · rintro rfl c _ _
    exact has_nil c
  · intro h
    exact eq_of_has hx ⟨fun r hr => (by cases hr), List.Pairwise.nil⟩ fun c h0 h1 => by rw [h c h0 h1, has_nil]
theorem len0 (x : List Rg) : ((x.length : Int) == 0) = decide (x = []) := by
  cases x with
  | nil => rfl
  | cons r t =>
    rw [decide_eq_false (by simp)]
    exact beq_eq_false_iff_ne.2 (by simp only [List.length_cons]; omega)
theorem sub_iff (a b : List Rg) : (((minusL a b).length : Int) == 0) = true ↔ ∀ c : Int, 0 ≤ c → c ≤ 1114111 → hasL a c = true → hasL b c = true := by
  rw [len0, decide_eq_true_iff, nil_iff (VL_minus a b)]
  constructor
  · intro h c h0 h1 ha
    have := h c h0 h1
    rw [has_minus _ _ h0 h1, ha] at this
    simpa using this
  · intro h c h0 h1
    rw [has_minus _ _ h0 h1]
    have := h c h0 h1
    cases ha : hasL a c with
    | false => rfl
    | true => rw [this ha]; rfl
theorem or_in (a b : List Rg) {x : Bool} (h : (((minusL a b).length : Int) == 0) = x) : decide (orL a b = makeL b) = x := by
  rw [← h, Bool.eq_iff_iff, decide_eq_true_iff, sub_iff]
  constructor
  · intro e c h0 h1 ha
    have := congrArg (fun l => hasL l c) e
    simp only [has_or _ _ h0 h1, hasL_make _ h0 h1, ha, Bool.true_or] at this
    exact this.symm
  · intro k
    refine eq_of_has (VL_or _ _) (makeL_valid _) fun c h0 h1 => ?_
    rw [has_or _ _ h0 h1, hasL_make _ h0 h1]
    have := k c h0 h1
    cases ha : hasL a c with
    | false => rfl
    | true => rw [this ha]; rfl
theorem or_ma (a b : List Rg) : minusL a b = andL a (notL b) := eq_of_has (VL_minus _ _) (VL_and _ _) fun c h0 h1 => by
  rw [has_minus _ _ h0 h1, has_and _ _ h0 h1, has_not _ h0 h1]
theorem or_anti (a b : List Rg) (h : (((minusL a b).length : Int) == 0) = true) {x : Bool} (hx : (((minusL b a).length : Int) == 0) = x) : decide (makeL a = makeL b) = x := by
  rw [sub_iff] at h
  rw [← hx, Bool.eq_iff_iff, decide_eq_true_iff, sub_iff]
  constructor
  · intro e c h0 h1 hb
    have := congrArg (fun l => hasL l c) e
    simp only [hasL_make _ h0 h1, hb] at this
    exact this
  · intro k
    refine eq_of_has (makeL_valid _) (makeL_valid _) fun c h0 h1 => ?_
    rw [hasL_make _ h0 h1, hasL_make _ h0 h1, Bool.eq_iff_iff]
    exact ⟨h c h0 h1, k c h0 h1⟩
theorem or_trans (a b c : List Rg) (h : (((minusL a b).length : Int) == 0) = true) (k : (((minusL b c).length : Int) == 0) = true) : (((minusL a c).length : Int) == 0) = true := by
  rw [sub_iff] at h k ⊢
  exact fun x h0 h1 ha => k x h0 h1 (h x h0 h1 ha)
theorem sub_and (a b : List Rg) : (((minusL (andL a b) a).length : Int) == 0) = true := by
  rw [sub_iff]
  intro c h0 h1 h
  rw [has_and _ _ h0 h1] at h
  exact (Bool.and_eq_true_iff.1 h).1
theorem sub_or (a b : List Rg) : (((minusL a (orL a b)).length : Int) == 0) = true := by
  rw [sub_iff]
  intro c h0 h1 h
  rw [has_or _ _ h0 h1, h]
  rfl

/-! ### Sizes -/
def cnt (P : Int → Bool) : Nat → Int
  | 0 => 0
  | n + 1 => cnt P n + (if P (n : Int) = true then 1 else 0)
theorem cnt_congr {P Q : Int → Bool} : ∀ n : Nat, (∀ i : Int, 0 ≤ i → i < n → P i = Q i) → cnt P n = cnt Q n
  | 0, _ => rfl
  | n + 1, h => by
    rw [cnt, cnt, cnt_congr n (fun i h0 h1 => h i h0 (by omega)), h n (by omega) (by omega)]
theorem cnt_or {P Q : Int → Bool} : ∀ n : Nat, cnt P n + cnt Q n = cnt (fun i => P i || Q i) n + cnt (fun i => P i && Q i) n
  | 0 => rfl
  | n + 1 => by
    have ih := cnt_or (P := P) (Q := Q) n
    simp only [cnt]
    by_cases hP : P (n : Int) = true <;> by_cases hQ : Q (n : Int) = true <;> simp [hP, hQ] <;> omega
theorem cnt_mono {P Q : Int → Bool} : ∀ n : Nat, (∀ i : Int, 0 ≤ i → i < n → P i = true → Q i = true) → cnt P n ≤ cnt Q n
  | 0, _ => Int.le_refl _
  | n + 1, h => by
    have ih := cnt_mono n (fun i h0 h1 => h i h0 (by omega))
    have := h n (by omega) (by omega)
    simp only [cnt]
    cases hP : P n with
    | false => simp; split <;> omega
    | true => rw [this hP]; simp; omega
theorem cnt_none {P : Int → Bool} : ∀ n : Nat, (∀ i : Int, 0 ≤ i → i < n → P i = false) → cnt P n = 0
  | 0, _ => rfl
  | n + 1, h => by
    rw [cnt, cnt_none n (fun i h0 h1 => h i h0 (by omega)), h n (by omega) (by omega)]
    rfl
theorem cnt_ival (lo hi : Int) (h0 : 0 ≤ lo) (h1 : lo ≤ hi + 1) : ∀ n : Nat, cnt (fun i => decide (lo ≤ i ∧ i ≤ hi)) n = (if (n : Int) ≤ lo then 0 else if (n : Int) ≤ hi then n - lo else hi - lo + 1)
  | 0 => by simp [cnt]; omega
  | n + 1 => by
    rw [cnt, cnt_ival lo hi h0 h1 n]
    simp only [decide_eq_true_eq]
    (repeat' split) <;> omega
def memB (l : List Rg) (c : Int) : Bool := l.any fun r => decide (r.f0 ≤ c ∧ c ≤ r.f1)
theorem memB_iff (l : List Rg) (c : Int) : memB l c = true ↔ Mem l c := by
  simp [memB, Mem]
theorem sum_cnt : ∀ l : List Rg, VL l → sumL l = cnt (memB l) 1114112
  | [], _ => by rw [cnt_none (P := memB []) _ (fun i _ _ => rfl)]; rfl
  | r :: t, h => by
    obtain ⟨hr, ht, hd⟩ := VL_cons h
    have ih := sum_cnt t ht
    unfold Ok at hr
    have e := cnt_or (P := fun i => decide (r.f0 ≤ i ∧ i ≤ r.f1)) (Q := memB t) 1114112
    have ei := cnt_ival r.f0 r.f1 hr.1 (by omega) 1114112
    rw [if_neg (by omega), if_neg (by omega)] at ei
    rw [cnt_none (P := fun i => decide (r.f0 ≤ i ∧ i ≤ r.f1) && memB t i) 1114112 (fun i _ _ => by
      cases hm : memB t i with
      | false => rw [Bool.and_false]
      | true =>
        have := hd i ((memB_iff t i).1 hm)
        rw [decide_eq_false (by omega), Bool.false_and]), ei, ← ih] at e
    show (r.f1 - r.f0 + 1) + sumL t = cnt (fun i => decide (r.f0 ≤ i ∧ i ≤ r.f1) || memB t i) 1114112
    omega
theorem cnt_has (a : List Rg) : cntL a = cnt (hasL a) 1114112 := by
  unfold cntL
  rw [countL_sum (makeL_valid a), sum_cnt _ (makeL_valid a)]
  refine cnt_congr _ fun i h0 h1 => ?_
  rw [Bool.eq_iff_iff, memB_iff, ← hasL_valid (makeL_valid a) h0 (by omega), hasL_make _ h0 (by omega)]
theorem or_cnt (a b : List Rg) (h : (((minusL a b).length : Int) == 0) = true) : decide (cntL b < cntL a) = false := by
  rw [sub_iff] at h
  have := cnt_mono (P := hasL a) (Q := hasL b) 1114112 (fun i h0 h1 => h i h0 (by omega))
  rw [cnt_has a, cnt_has b]
  exact decide_eq_false (by omega)
theorem or_add (a b : List Rg) : (wrap64 (cntL a + cntL b) == wrap64 (cntL (orL a b) + cntL (andL a b))) = true := by
  have key : ∀ N : Nat, N = 1114112 → cnt (hasL a) N + cnt (hasL b) N = cnt (hasL (orL a b)) N + cnt (hasL (andL a b)) N := fun N hN => by
    rw [cnt_or, cnt_congr (P := hasL (orL a b)) (Q := fun i => hasL a i || hasL b i) N (fun i h0 h1 => has_or a b h0 (by omega)), cnt_congr (P := hasL (andL a b)) (Q := fun i => hasL a i && hasL b i) N (fun i h0 h1 => has_and a b h0 (by omega))]
  have e : cntL a + cntL b = cntL (orL a b) + cntL (andL a b) := by
    rw [cnt_has a, cnt_has b, cnt_has (orL a b), cnt_has (andL a b)]
    exact key _ rfl
  rw [e]
  exact beq_self_eq_true _
end Go.Proofs.YtpnkkhichkmmmaaDoor.Q
