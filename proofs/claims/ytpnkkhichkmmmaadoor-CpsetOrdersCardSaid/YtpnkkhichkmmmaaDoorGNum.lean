/-
  DERIVED. Numbers of elements, in plain Lean: Count is the sum of the ranges' sizes; the element with an index; the elements below a code point.
-/
import Derived.Test.YtpnkkhichkmmmaaDoorGAlive
import Derived.Test.YtpnkkhichkmmmaaDoorGQ11
namespace Go.Proofs.YtpnkkhichkmmmaaDoor.Q
set_option linter.unusedVariables false
set_option linter.unusedSimpArgs false
open Go.RowKit Go.Proofs.YtpnkkhichkmmmaaDoorW.PrintWords Go.Proofs.YtpnkkhichkmmmaaDoorW.PrintLast Go.Proofs.YtpnkkhichkmmmaaDoorW.PrintMore

def sumL : List Rg → Int
  | [] => 0
  | r :: t => (r.f1 - r.f0 + 1) + sumL t
theorem sumL_bound : ∀ (ys : List Rg) (lo : Int), VL ys → (∀ c, Mem ys c → lo ≤ c) → 0 ≤ lo → lo ≤ 1114112 → 0 ≤ sumL ys ∧ sumL ys ≤ 1114112 - lo
  | [], lo, _, _, h0, h1 => by simp [sumL]; omega
  | r :: t, lo, hv, hm, h0, h1 => by
    obtain ⟨a, b, c⟩ := VL_cons hv
    unfold Ok at a
    have hl := hm r.f0 (Mem_cons.2 (.inl ⟨Int.le_refl _, a.2.1⟩))
    have ih := sumL_bound t (r.f1 + 1) b (fun x hx => by have := c x hx; omega) (by omega) (by omega)
    simp only [sumL]
    omega
theorem sumL_le {ys : List Rg} (hv : VL ys) : 0 ≤ sumL ys ∧ sumL ys ≤ 1114112 := by
  have := sumL_bound ys 0 hv (fun c ⟨r, hr, h1, _⟩ => by have := hv.1 r hr; unfold Ok at this; omega) (by omega) (by omega)
  omega
theorem count_fold : ∀ (ys : List Rg) (c : Int), VL ys → 0 ≤ c → c ≤ 4000000000000 → ys.foldl (fun n r => wrap64 (n + wrap64 (wrap64 (r.f1 - r.f0) + 1))) c = c + sumL ys
  | [], c, _, _, _ => by simp [sumL]
  | r :: t, c, hv, h0, h1 => by
    obtain ⟨a, b, _⟩ := VL_cons hv
    unfold Ok at a
    have e : wrap64 (c + wrap64 (wrap64 (r.f1 - r.f0) + 1)) = c + (r.f1 - r.f0 + 1) := by unfold wrap64; omega
    rw [List.foldl_cons, e]
    by_cases h2 : c + (r.f1 - r.f0 + 1) ≤ 4000000000000
    · rw [count_fold t _ b (by omega) h2]
      simp only [sumL]; omega
    · have : t.foldl (fun n r => wrap64 (n + wrap64 (wrap64 (r.f1 - r.f0) + 1))) (c + (r.f1 - r.f0 + 1)) = (c + (r.f1 - r.f0 + 1)) + sumL t := by
        have hgen : ∀ (t : List Rg) (d : Int), VL t → 0 ≤ d → d ≤ 4000002000000 → t.foldl (fun n r => wrap64 (n + wrap64 (wrap64 (r.f1 - r.f0) + 1))) d = d + sumL t := by
          intro t
          have key : ∀ (t : List Rg) (d : Int), VL t → 0 ≤ d → d + sumL t ≤ 5000000000000 → t.foldl (fun n r => wrap64 (n + wrap64 (wrap64 (r.f1 - r.f0) + 1))) d = d + sumL t := by
            intro t
            induction t with
            | nil => intro d _ _ _; simp [sumL]
            | cons x t ih =>
              intro d hv hd hs
              obtain ⟨a, b, _⟩ := VL_cons hv
              unfold Ok at a
              have hb := sumL_le b
              simp only [sumL] at hs
              have e : wrap64 (d + wrap64 (wrap64 (x.f1 - x.f0) + 1)) = d + (x.f1 - x.f0 + 1) := by unfold wrap64; omega
              rw [List.foldl_cons, e, ih _ b (by omega) (by omega)]
              simp only [sumL]; omega
          intro d hv h0 h1
          have := sumL_le hv
          exact key t d hv h0 (by omega)
        exact hgen t _ b (by omega) (by omega)
      rw [this]
      simp only [sumL]; omega
theorem countL_sum {ys : List Rg} (hv : VL ys) : countL ys = sumL ys := by
  have := count_fold ys 0 hv (by omega) (by omega)
  unfold countL
  rw [this, Int.zero_add]
end Go.Proofs.YtpnkkhichkmmmaaDoor.Q
