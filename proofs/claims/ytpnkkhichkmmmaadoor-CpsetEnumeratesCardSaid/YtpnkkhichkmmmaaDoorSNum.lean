/-
  DERIVED. Numbers of elements, in plain Lean: Count is the sum of the ranges' sizes; the element with an index; the elements below a code point.
-/
import Derived.Test.YtpnkkhichkmmmaaDoorSAlive
import Derived.Test.YtpnkkhichkmmmaaDoorSLawCpsetHas
namespace Go.Proofs.YtpnkkhichkmmmaaDoor.Q
set_option linter.unusedVariables false
set_option linter.unusedSimpArgs false
open Go.RowKit Go.Proofs.YtpnkkhichkmmmaaDoorW.PrintWords Go.Proofs.YtpnkkhichkmmmaaDoorW.PrintLast Go.Proofs.YtpnkkhichkmmmaaDoorW.PrintMore

def sumL : List Rg → Int
  | [] => 0
  | r :: t => (r.f1 - r.f0 + 1) + sumL t
theorem VL_mk {r : Rg} {t : List Rg} (h1 : Ok r) (h2 : VL t) (h3 : ∀ c, Mem t c → r.f1 + 1 < c) : VL (r :: t) := by
  refine ⟨fun x hx => ?_, List.pairwise_cons.2 ⟨fun x hx => ?_, h2.2⟩⟩
  · rcases List.mem_cons.1 hx with rfl | hx
    · exact h1
    · exact h2.1 x hx
  · have := h2.1 x hx
    unfold Ok at this
    exact h3 x.f0 ⟨x, hx, Int.le_refl _, this.2.1⟩
theorem VL_nil : VL [] := ⟨fun r hr => (by cases hr), List.Pairwise.nil⟩
theorem sumL_bound : ∀ (ys : List Rg) (lo : Int), VL ys → (∀ c, Mem ys c → lo ≤ c) → 0 ≤ lo → lo ≤ 1114112 → 0 ≤ sumL ys ∧ sumL ys ≤ 1114112 - lo
  | [], lo, _, _, h0, h1 => by simp [sumL]; omega
  | r :: t, lo, hv, hm, h0, h1 => by
    obtain ⟨a, b, c⟩ := VL_cons hv
    unfold Ok at a
    have hl := hm r.f0 (Mem_cons.2 (.inl ⟨Int.le_refl _, a.2.1⟩))
    have ih := sumL_bound t (r.f1 + 1) b (fun x hx => by have := c x hx; omega) (by omega) (by omega)
    simp only [sumL]
    omega
theorem sumL_le {ys : List Rg} (hv : VL ys) : 0 ≤ sumL ys ∧ sumL ys ≤ 1114112 := by
  have := sumL_bound ys 0 hv (fun c ⟨r, hr, h1, _⟩ => by have := hv.1 r hr; unfold Ok at this; omega) (by omega) (by omega)
  omega
theorem count_fold : ∀ (ys : List Rg) (c : Int), VL ys → 0 ≤ c → c ≤ 4000000000000 → ys.foldl (fun n r => wrap64 (n + wrap64 (wrap64 (r.f1 - r.f0) + 1))) c = c + sumL ys
  | [], c, _, _, _ => by simp [sumL]
  | r :: t, c, hv, h0, h1 => by
    obtain ⟨a, b, _⟩ := VL_cons hv
    unfold Ok at a
    have e : wrap64 (c + wrap64 (wrap64 (r.f1 - r.f0) + 1)) = c + (r.f1 - r.f0 + 1) := by unfold wrap64; omega
    rw [List.foldl_cons, e]
    by_cases h2 : c + (r.f1 - r.f0 + 1) ≤ 4000000000000
    · rw [count_fold t _ b (by omega) h2]
      simp only [sumL]; omega
    · have : t.foldl (fun n r => wrap64 (n + wrap64 (wrap64 (r.f1 - r.f0) + 1))) (c + (r.f1 - r.f0 + 1)) = (c + (r.f1 - r.f0 + 1)) + sumL t := by
        have hgen : ∀ (t : List Rg) (d : Int), VL t → 0 ≤ d → d ≤ 4000002000000 → t.foldl (fun n r => wrap64 (n + wrap64 (wrap64 (r.f1 - r.f0) + 1))) d = d + sumL t := by
          intro t
          have key : ∀ (t : List Rg) (d : Int), VL t → 0 ≤ d → d + sumL t ≤ 5000000000000 → t.foldl (fun n r => wrap64 (n + wrap64 (wrap64 (r.f1 - r.f0) + 1))) d = d + sumL t := by
            intro t
            induction t with
            | nil => intro d _ _ _; simp [sumL]
            | cons x t ih =>
              intro d hv hd hs
              obtain ⟨a, b, _⟩ := VL_cons hv
              unfold Ok at a
              have hb := sumL_le b
              simp only [sumL] at hs
              have e : wrap64 (d + wrap64 (wrap64 (x.f1 - x.f0) + 1)) = d + (x.f1 - x.f0 + 1) := by unfold wrap64; omega
              rw [List.foldl_cons, e, ih _ b (by omega) (by omega)]
              simp only [sumL]; omega
          intro d hv h0 h1
          have := sumL_le hv
          exact key t d hv h0 (by omega)
        exact hgen t _ b (by omega) (by omega)
      rw [this]
      simp only [sumL]; omega
theorem countL_sum {ys : List Rg} (hv : VL ys) : countL ys = sumL ys := by
  have := count_fold ys 0 hv (by omega) (by omega)
  unfold countL
  rw [this, Int.zero_add]
def cutB : List Rg → Int → List Rg
  | [], _ => []
  | r :: t, c => if r.f1 < c then r :: cutB t c else if r.f0 < c then [⟨r.f0, c - 1⟩] else []
theorem cutB_spec : ∀ (ys : List Rg) (c : Int), VL ys → VL (cutB ys c) ∧ ∀ x, Mem (cutB ys c) x ↔ Mem ys x ∧ x < c
  | [], c, _ => ⟨VL_nil, fun x => ⟨fun h => absurd h (Mem_nil x), fun h => absurd h.1 (Mem_nil x)⟩⟩
  | r :: t, c, hv => by
    obtain ⟨a, b, d⟩ := VL_cons hv
    obtain ⟨i1, i2⟩ := cutB_spec t c b
    have a' := a
    unfold Ok at a'
    unfold cutB
    by_cases h1 : r.f1 < c
    · rw [if_pos h1]
      refine ⟨VL_mk a i1 (fun x hx => d x ((i2 x).1 hx).1), fun x => ?_⟩
      rw [Mem_cons, Mem_cons, i2]
      constructor
      · rintro (h | h)
        · exact ⟨.inl h, by omega⟩
        · exact ⟨.inr h.1, h.2⟩
      · rintro ⟨h | h, h2⟩
        · exact .inl h
        · exact .inr ⟨h, h2⟩
    · rw [if_neg h1]
      by_cases h2 : r.f0 < c
      · rw [if_pos h2]
        refine ⟨VL_one (by omega), fun x => ?_⟩
        rw [Mem_one, Mem_cons]
        constructor
        · rintro ⟨h3, h4⟩; exact ⟨.inl ⟨h3, by omega⟩, by omega⟩
        · rintro ⟨h | h, h4⟩
          · exact ⟨h.1, by omega⟩
          · have := d x h; omega
      · rw [if_neg h2]
        refine ⟨VL_nil, fun x => ⟨fun h => absurd h (Mem_nil x), ?_⟩⟩
        rintro ⟨h, h4⟩
        rcases Mem_cons.1 h with h | h
        · omega
        · have := d x h; omega
theorem nthL_in : ∀ (ys : List Rg) (i : Int), VL ys → 0 ≤ i → i < sumL ys → ∃ c, nthL ys i = (c, true) ∧ Mem ys c ∧ sumL (cutB ys c) = i
  | [], i, _, h0, h1 => by simp [sumL] at h1; omega
  | r :: t, i, hv, h0, h1 => by
    obtain ⟨a, b, d⟩ := VL_cons hv
    unfold Ok at a
    have hb := sumL_le hv
    have w0 : wrap64 (r.f1 - r.f0) = r.f1 - r.f0 := by unfold wrap64; omega
    have w1 : wrap64 (r.f1 - r.f0 + 1) = r.f1 - r.f0 + 1 := by unfold wrap64; omega
    simp only [nthL, w0, w1]
    by_cases hc : i ≤ r.f1 - r.f0
    · have w2 : wrap64 (r.f0 + i) = r.f0 + i := by unfold wrap64; omega
      rw [if_pos hc, w2]
      refine ⟨_, rfl, Mem_cons.2 (.inl ⟨by omega, by omega⟩), ?_⟩
      unfold cutB
      rw [if_neg (by omega)]
      by_cases h2 : r.f0 < r.f0 + i
      · rw [if_pos h2]; simp [sumL]; omega
      · rw [if_neg h2]; simp [sumL]; omega
    · have w2 : wrap64 (i - (r.f1 - r.f0 + 1)) = i - (r.f1 - r.f0 + 1) := by unfold wrap64; omega
      rw [if_neg hc, w2]
      simp only [sumL] at h1
      obtain ⟨c, e1, e2, e3⟩ := nthL_in t (i - (r.f1 - r.f0 + 1)) b (by omega) (by omega)
      refine ⟨c, e1, Mem_cons.2 (.inr e2), ?_⟩
      have := d c e2
      unfold cutB
      rw [if_pos (by omega)]
      simp only [sumL, e3]
      omega
theorem nthL_out : ∀ (ys : List Rg) (i : Int), VL ys → sumL ys ≤ i → i ≤ 9223372036854775807 → nthL ys i = (0, false)
  | [], i, _, h0, h1 => rfl
  | r :: t, i, hv, h0, h1 => by
    obtain ⟨a, b, d⟩ := VL_cons hv
    unfold Ok at a
    have hb := sumL_le b
    simp only [sumL] at h0
    have w0 : wrap64 (r.f1 - r.f0) = r.f1 - r.f0 := by unfold wrap64; omega
    have w1 : wrap64 (r.f1 - r.f0 + 1) = r.f1 - r.f0 + 1 := by unfold wrap64; omega
    have w2 : wrap64 (i - (r.f1 - r.f0 + 1)) = i - (r.f1 - r.f0 + 1) := by unfold wrap64; omega
    simp only [nthL, w0, w1, w2]
    rw [if_neg (by omega)]
    exact nthL_out t _ b (by omega) (by omega)
theorem count_f {l : List Rg} (h : l.length ≤ 100000) : cpset_Count.f l = some (sumL (makeL l)) := by
  unfold cpset_Count.f
  rw [if_pos h, countL_sum (makeL_valid l)]
theorem nth_f {l : List Rg} (h : l.length ≤ 100000) (i : Int) : cpset_Nth.f l i = some (nthR (makeL l) i) := by
  unfold cpset_Nth.f
  rw [if_pos h]
end Go.Proofs.YtpnkkhichkmmmaaDoor.Q
