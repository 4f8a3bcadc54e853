/-
  DERIVED. What combine computes: the valid list of the code points that kf keeps. No program in sight.
-/
import Derived.Test.YtpnkkhichkmmmaaGreatDoorPairs
namespace Go.Proofs.YtpnkkhichkmmmaaGreatDoor.Q
set_option linter.unusedVariables false
set_option linter.unusedSimpArgs false
open Go.RowKit Go.Proofs.YtpnkkhichkmmmaaGreatDoorW.PrintWords Go.Proofs.YtpnkkhichkmmmaaGreatDoorW.PrintLast Go.Proofs.YtpnkkhichkmmmaaGreatDoorW.PrintMore

/-- a and b lie side by side. -/
def Adj (ss : List Int) (a b : Int) : Prop := ∃ pre post, ss = pre ++ a :: b :: post
theorem Adj_cons {x a b : Int} {ss : List Int} (h : Adj ss a b) : Adj (x :: ss) a b := by
  obtain ⟨pre, post, rfl⟩ := h
  exact ⟨x :: pre, post, rfl⟩
theorem Adj_mem {a b : Int} {ss : List Int} (h : Adj ss a b) : a ∈ ss ∧ b ∈ ss := by
  obtain ⟨pre, post, rfl⟩ := h
  simp
theorem Adj_between {ss : List Int} (hs : ss.Pairwise (· ≤ ·)) {a b p : Int} (h : Adj ss a b) (hp : p ∈ ss) : p ≤ a ∨ b ≤ p := by
  obtain ⟨pre, post, rfl⟩ := h
  rw [List.pairwise_append] at hs
  obtain ⟨_, h2, h3⟩ := hs
  rcases List.mem_append.1 hp with hp | hp
  · exact .inl (h3 p hp a (by simp))
  · rcases List.mem_cons.1 hp with rfl | hp
    · exact .inl (Int.le_refl _)
    · rcases List.mem_cons.1 hp with rfl | hp
      · exact .inr (Int.le_refl _)
      · exact .inr ((List.pairwise_cons.1 (List.pairwise_cons.1 h2).2).1 p hp)
theorem Adj_find : ∀ (ss : List Int) (c : Int), ss.Pairwise (· ≤ ·) → (∃ x ∈ ss, x ≤ c) → (∃ y ∈ ss, c < y) → ∃ a b, Adj ss a b ∧ a ≤ c ∧ c < b
  | [], _, _, ⟨_, h, _⟩, _ => by cases h
  | [s], c, _, ⟨x, hx, h1⟩, ⟨y, hy, h2⟩ => by simp at hx hy; subst hx; subst hy; omega
  | s :: t :: u, c, hs, ⟨x, hx, h1⟩, ⟨y, hy, h2⟩ => by
    have hp := List.pairwise_cons.1 hs
    have hsc : s ≤ c := by
      rcases List.mem_cons.1 hx with rfl | hx
      · exact h1
      · exact Int.le_trans (hp.1 x hx) h1
    by_cases ht : c < t
    · exact ⟨s, t, ⟨[], u, rfl⟩, hsc, ht⟩
    · have hy' : y ∈ t :: u := by
        rcases List.mem_cons.1 hy with rfl | hy
        · omega
        · exact hy
      obtain ⟨a, b, h, k⟩ := Adj_find (t :: u) c hp.2 ⟨t, by simp, by omega⟩ ⟨y, hy', h2⟩
      exact ⟨a, b, Adj_cons h, k⟩
theorem pairL_iff (kf : Bool → Bool → Bool) (ya yb : List Rg) : ∀ (ss : List Int) (x : Rg), x ∈ pairL kf ya yb ss ↔ ∃ a b, Adj ss a b ∧ a ≤ wrap64 (b - 1) ∧ kf (hasB ya a) (hasB yb a) = true ∧ x = ⟨a, wrap64 (b - 1)⟩
  | [], x => ⟨fun h => (by cases h), fun ⟨a, b, h, _⟩ => (by have := (Adj_mem h).1; cases this)⟩
  | [s], x => ⟨fun h => (by cases h), fun ⟨a, b, ⟨pre, post, h⟩, _⟩ => (by have := congrArg List.length h; simp at this; omega)⟩
  | s :: t :: u, x => by
    have ih := pairL_iff kf ya yb (t :: u) x
    simp only [pairL, List.mem_append, ih]
    constructor
    · rintro (h | ⟨a, b, h, k⟩)
      · split at h
        · rename_i hc
          simp only [List.mem_singleton] at h
          exact ⟨s, t, ⟨[], u, rfl⟩, hc.1, hc.2, h⟩
        · cases h
      · exact ⟨a, b, Adj_cons h, k⟩
    · rintro ⟨a, b, ⟨pre, post, h⟩, k1, k2, k3⟩
      cases pre with
      | nil =>
        simp only [List.nil_append, List.cons.injEq] at h
        obtain ⟨rfl, rfl, rfl⟩ := h
        left
        rw [if_pos ⟨k1, k2⟩]
        simp [k3]
      | cons p pre =>
        simp only [List.cons_append, List.cons.injEq] at h
        exact .inr ⟨a, b, ⟨pre, post, h.2⟩, k1, k2, k3⟩
theorem cutsV_mem {ys : List Rg} {r : Rg} (h : r ∈ ys) : r.f0 ∈ cutsV ys ∧ wrap64 (r.f1 + 1) ∈ cutsV ys := by
  unfold cutsV
  exact ⟨List.mem_flatMap.2 ⟨r, h, by simp⟩, List.mem_flatMap.2 ⟨r, h, by simp⟩⟩
theorem cutsV_bound {ys : List Rg} (hv : VL ys) {p : Int} (h : p ∈ cutsV ys) : 0 ≤ p ∧ p ≤ 1114112 := by
  obtain ⟨r, hr, hp⟩ := List.mem_flatMap.1 h
  have := hv.1 r hr
  unfold Ok at this
  simp only [List.mem_cons, List.not_mem_nil, or_false] at hp
  rcases hp with rfl | rfl
  · omega
  · unfold wrap64; omega
theorem hasB_const {ys : List Rg} (hv : VL ys) {ss : List Int} (hs : ss.Pairwise (· ≤ ·)) (hc : ∀ p ∈ cutsV ys, p ∈ ss) {a b c : Int} (h : Adj ss a b) (h1 : a ≤ c) (h2 : c < b) : hasB ys a = hasB ys c := by
  rw [Bool.eq_iff_iff, hasB_mem ys a hv, hasB_mem ys c hv]
  have key : ∀ r ∈ ys, (r.f0 ≤ a ∧ a ≤ r.f1) ↔ (r.f0 ≤ c ∧ c ≤ r.f1) := fun r hr => by
    have ok := hv.1 r hr
    unfold Ok at ok
    have c0 := Adj_between hs h (hc _ (cutsV_mem hr).1)
    have c1 := Adj_between hs h (hc _ (cutsV_mem hr).2)
    rw [show wrap64 (r.f1 + 1) = r.f1 + 1 by unfold wrap64; omega] at c1
    omega
  exact ⟨fun ⟨r, hr, k⟩ => ⟨r, hr, (key r hr).1 k⟩, fun ⟨r, hr, k⟩ => ⟨r, hr, (key r hr).2 k⟩⟩
def cutS (ya yb : List Rg) : List Int := ([0, 1114112] ++ cutsV ya ++ cutsV yb).mergeSort fun x y => decide (x ≤ y)
theorem cutS_sorted (ya yb : List Rg) : (cutS ya yb).Pairwise (· ≤ ·) := by
  have := List.pairwise_mergeSort (le := fun x y : Int => decide (x ≤ y)) (fun a b c h1 h2 => by simp at h1 h2 ⊢; omega) (fun a b => by simp; omega) ([0, 1114112] ++ cutsV ya ++ cutsV yb)
  exact this.imp (fun h => by simpa using h)
theorem cutS_mem {ya yb : List Rg} {p : Int} : p ∈ cutS ya yb ↔ p = 0 ∨ p = 1114112 ∨ p ∈ cutsV ya ∨ p ∈ cutsV yb := by
  unfold cutS
  rw [List.mem_mergeSort]
  simp
theorem cutS_len (ya yb : List Rg) : (cutS ya yb).length = 2 + ya.length * 2 + yb.length * 2 := by
  unfold cutS
  rw [List.length_mergeSort]
  simp only [List.length_append, cutsV_len]
  rfl
theorem pairL_mem (kf : Bool → Bool → Bool) {ya yb : List Rg} (hva : VL ya) (hvb : VL yb) (c : Int) :
    Mem (pairL kf ya yb (cutS ya yb)) c ↔ 0 ≤ c ∧ c ≤ 1114111 ∧ kf (hasB ya c) (hasB yb c) = true := by
  have hs := cutS_sorted ya yb
  have hb : ∀ p ∈ cutS ya yb, 0 ≤ p ∧ p ≤ 1114112 := fun p hp => by
    rcases cutS_mem.1 hp with rfl | rfl | h | h
    · omega
    · omega
    · exact cutsV_bound hva h
    · exact cutsV_bound hvb h
  have ha : ∀ p ∈ cutsV ya, p ∈ cutS ya yb := fun p hp => cutS_mem.2 (.inr (.inr (.inl hp)))
  have hb' : ∀ p ∈ cutsV yb, p ∈ cutS ya yb := fun p hp => cutS_mem.2 (.inr (.inr (.inr hp)))
  constructor
  · rintro ⟨x, hx, h1, h2⟩
    obtain ⟨a, b, hA, hle, hk, rfl⟩ := (pairL_iff kf ya yb _ x).1 hx
    have hm := Adj_mem hA
    have b1 := hb a hm.1
    have b2 := hb b hm.2
    have hw : wrap64 (b - 1) = b - 1 := by unfold wrap64; omega
    simp only [hw] at h1 h2
    refine ⟨by omega, by omega, ?_⟩
    rw [← hasB_const hva hs ha hA h1 (by omega), ← hasB_const hvb hs hb' hA h1 (by omega)]
    exact hk
  · rintro ⟨h0, h1, hk⟩
    obtain ⟨a, b, hA, hac, hcb⟩ := Adj_find (cutS ya yb) c hs ⟨0, cutS_mem.2 (.inl rfl), h0⟩ ⟨1114112, cutS_mem.2 (.inr (.inl rfl)), by omega⟩
    have hm := Adj_mem hA
    have b1 := hb a hm.1
    have b2 := hb b hm.2
    have hw : wrap64 (b - 1) = b - 1 := by unfold wrap64; omega
    refine ⟨⟨a, b - 1⟩, (pairL_iff kf ya yb _ _).2 ⟨a, b, hA, by omega, ?_, by rw [hw]⟩, hac, by show c ≤ b - 1; omega⟩
    rw [hasB_const hva hs ha hA hac hcb, hasB_const hvb hs hb' hA hac hcb]
    exact hk
/-- What combine hands back. -/
def combL (kf : Bool → Bool → Bool) (a b : List Rg) : List Rg := makeL (pairL kf (makeL a) (makeL b) (cutS (makeL a) (makeL b)))
theorem combL_valid (kf : Bool → Bool → Bool) (a b : List Rg) : VL (combL kf a b) := makeL_valid _
def hasL (l : List Rg) (c : Int) : Bool := hasB (makeL l) c
theorem hasL_iff (l : List Rg) (c : Int) : hasL l c = true ↔ 0 ≤ c ∧ c ≤ 1114111 ∧ Mem l c := by
  unfold hasL; rw [hasB_mem _ _ (makeL_valid l), makeL_mem]
theorem combL_mem (kf : Bool → Bool → Bool) (a b : List Rg) (c : Int) : Mem (combL kf a b) c ↔ 0 ≤ c ∧ c ≤ 1114111 ∧ kf (hasL a c) (hasL b c) = true := by
  unfold combL hasL
  rw [makeL_mem, pairL_mem kf (makeL_valid a) (makeL_valid b)]
  exact ⟨fun h => h.2.2, fun h => ⟨h.1, h.2.1, h⟩⟩
theorem merge_len : ∀ (rs acc : List Rg), (rs.foldl mergeR acc).length ≤ acc.length + rs.length
  | [], acc => Nat.le_refl _
  | r :: rs, acc => by
    have h := merge_len rs (mergeR acc r)
    have : (mergeR acc r).length ≤ acc.length + 1 := by
      cases acc with
      | nil => simp [mergeR]
      | cons l t => simp only [mergeR]; split <;> simp
    simp only [List.foldl_cons, List.length_cons]
    omega
theorem makeL_len (l : List Rg) : (makeL l).length ≤ l.length := by
  unfold makeL
  have h1 := merge_len (sortedR (l.flatMap clampR)) []
  have h2 : (sortedR (l.flatMap clampR)).length = (l.flatMap clampR).length := (sortedR_perm _).1.length_eq
  have h3 := clamps_len l
  simp at h1 ⊢
  omega
end Go.Proofs.YtpnkkhichkmmmaaGreatDoor.Q
