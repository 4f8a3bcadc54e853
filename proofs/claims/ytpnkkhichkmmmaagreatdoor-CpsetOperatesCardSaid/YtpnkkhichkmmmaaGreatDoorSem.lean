/-
  DERIVED. What makeL is: the valid list of the same code points; a valid list is told by its code points; what a finder answers. No program in sight.
-/
import Derived.Test.YtpnkkhichkmmmaaGreatDoorMake
import Derived.Test.YtpnkkhichkmmmaaGreatDoorHas
namespace Go.Proofs.YtpnkkhichkmmmaaGreatDoor.Q
set_option linter.unusedVariables false
set_option linter.unusedSimpArgs false
open Go.RowKit Go.Proofs.YtpnkkhichkmmmaaGreatDoorW.PrintWords Go.Proofs.YtpnkkhichkmmmaaGreatDoorW.PrintLast Go.Proofs.YtpnkkhichkmmmaaGreatDoorW.PrintMore

def Mem (l : List Rg) (c : Int) : Prop := ∃ r ∈ l, r.f0 ≤ c ∧ c ≤ r.f1
theorem Mem_nil (c : Int) : ¬ Mem [] c := fun ⟨_, h, _⟩ => by cases h
theorem Mem_cons {r : Rg} {l : List Rg} {c : Int} : Mem (r :: l) c ↔ (r.f0 ≤ c ∧ c ≤ r.f1) ∨ Mem l c := by
  constructor
  · rintro ⟨x, hx, h⟩
    rcases List.mem_cons.1 hx with rfl | hx
    · exact .inl h
    · exact .inr ⟨x, hx, h⟩
  · rintro (h | ⟨x, hx, h⟩)
    · exact ⟨r, by simp, h⟩
    · exact ⟨x, List.mem_cons_of_mem _ hx, h⟩
theorem Mem_perm {a b : List Rg} (h : ∀ x, x ∈ a ↔ x ∈ b) (c : Int) : Mem a c ↔ Mem b c :=
  ⟨fun ⟨x, hx, k⟩ => ⟨x, (h x).1 hx, k⟩, fun ⟨x, hx, k⟩ => ⟨x, (h x).2 hx, k⟩⟩
/-- A range of code points. -/
def Ok (r : Rg) : Prop := 0 ≤ r.f0 ∧ r.f0 ≤ r.f1 ∧ r.f1 ≤ 1114111
/-- A valid list. -/
def VL (l : List Rg) : Prop := (∀ r ∈ l, Ok r) ∧ l.Pairwise fun a b => a.f1 + 1 < b.f0
theorem merge_fold : ∀ (rs acc : List Rg), (∀ r ∈ rs, Ok r) → rs.Pairwise (fun a b => a.f0 ≤ b.f0) → (∀ r ∈ acc, Ok r) → acc.Pairwise (fun b a => a.f1 + 1 < b.f0) → (∀ a ∈ acc.head?, ∀ r ∈ rs, a.f0 ≤ r.f0) →
    (∀ r ∈ rs.foldl mergeR acc, Ok r) ∧ (rs.foldl mergeR acc).Pairwise (fun b a => a.f1 + 1 < b.f0) ∧ ∀ c, Mem (rs.foldl mergeR acc) c ↔ Mem acc c ∨ Mem rs c
  | [], acc, _, _, h3, h4, _ => ⟨h3, h4, fun c => ⟨.inl, fun h => h.elim id fun h => (Mem_nil c h).elim⟩⟩
  | r :: rs, [], h1, h2, _, _, _ => by
    have hr := h1 r (by simp)
    have := merge_fold rs [r] (fun x hx => h1 x (List.mem_cons_of_mem _ hx)) (List.pairwise_cons.1 h2).2 (by simpa using hr) (by simp) (by simpa using (List.pairwise_cons.1 h2).1)
    refine ⟨this.1, this.2.1, fun c => ?_⟩
    show Mem (rs.foldl mergeR [r]) c ↔ _
    rw [this.2.2 c, Mem_cons, Mem_cons]
    constructor
    · rintro ((h | h) | h)
      · exact .inr (.inl h)
      · exact .inl h
      · exact .inr (.inr h)
    · rintro (h | h | h)
      · exact .inl (.inr h)
      · exact .inl (.inl h)
      · exact .inr h
  | r :: rs, l :: t, h1, h2, h3, h4, h5 => by
    have hr := h1 r (by simp)
    have hl := h3 l (by simp)
    have hlr := h5 l (by simp) r (by simp)
    have hp := List.pairwise_cons.1 h4
    have hq := List.pairwise_cons.1 h2
    unfold Ok at hr hl
    by_cases hc : r.f0 ≤ l.f1 + 1
    · have e : (r :: rs).foldl mergeR (l :: t) = rs.foldl mergeR (⟨l.f0, mx l.f1 r.f1⟩ :: t) := by simp [mergeR, hc]
      have hm : mx l.f1 r.f1 = l.f1 ∧ r.f1 ≤ l.f1 ∨ mx l.f1 r.f1 = r.f1 ∧ l.f1 ≤ r.f1 := by unfold mx; split <;> omega
      have := merge_fold rs (⟨l.f0, mx l.f1 r.f1⟩ :: t) (fun x hx => h1 x (List.mem_cons_of_mem _ hx)) hq.2
        (fun x hx => by
          rcases List.mem_cons.1 hx with rfl | hx
          · refine ⟨hl.1, ?_, ?_⟩
            · show l.f0 ≤ mx l.f1 r.f1; omega
            · show mx l.f1 r.f1 ≤ 1114111; omega
          · exact h3 x (List.mem_cons_of_mem _ hx))
        (List.pairwise_cons.2 ⟨hp.1, hp.2⟩)
        (fun a ha x hx => by
          simp only [List.head?_cons, Option.mem_def, Option.some.injEq] at ha
          subst ha
          exact Int.le_trans hlr (hq.1 x hx))
      rw [e]
      refine ⟨this.1, this.2.1, fun c => ?_⟩
      rw [this.2.2 c, Mem_cons, Mem_cons, Mem_cons]
      show ((l.f0 ≤ c ∧ c ≤ mx l.f1 r.f1) ∨ _) ∨ _ ↔ _
      constructor
      · rintro ((h | h) | h)
        · by_cases hcl : c ≤ l.f1
          · exact .inl (.inl ⟨h.1, hcl⟩)
          · exact .inr (.inl ⟨by omega, by omega⟩)
        · exact .inl (.inr h)
        · exact .inr (.inr h)
      · rintro ((h | h) | h | h)
        · exact .inl (.inl ⟨h.1, by omega⟩)
        · exact .inl (.inr h)
        · exact .inl (.inl ⟨by omega, by omega⟩)
        · exact .inr h
    · have e : (r :: rs).foldl mergeR (l :: t) = rs.foldl mergeR (r :: l :: t) := by simp [mergeR, hc]
      have := merge_fold rs (r :: l :: t) (fun x hx => h1 x (List.mem_cons_of_mem _ hx)) hq.2
        (fun x hx => by
          rcases List.mem_cons.1 hx with rfl | hx
          · exact hr
          · exact h3 x hx)
        (List.pairwise_cons.2 ⟨fun a ha => by
          rcases List.mem_cons.1 ha with rfl | ha
          · omega
          · have := hp.1 a ha; omega, h4⟩)
        (fun a ha x hx => by
          simp only [List.head?_cons, Option.mem_def, Option.some.injEq] at ha
          subst ha
          exact hq.1 x hx)
      rw [e]
      refine ⟨this.1, this.2.1, fun c => ?_⟩
      rw [this.2.2 c, Mem_cons, Mem_cons, Mem_cons]
      constructor
      · rintro ((h | h) | h)
        · exact .inr (.inl h)
        · exact .inl h
        · exact .inr (.inr h)
      · rintro (h | h | h)
        · exact .inl (.inr h)
        · exact .inl (.inl h)
        · exact .inr h
theorem Mem_clamp (l : List Rg) (c : Int) : Mem (l.flatMap clampR) c ↔ 0 ≤ c ∧ c ≤ 1114111 ∧ Mem l c := by
  constructor
  · rintro ⟨x, hx, h⟩
    obtain ⟨r, hr, hxr⟩ := List.mem_flatMap.1 hx
    have hok := clampR_ok hxr
    refine ⟨by omega, by omega, r, hr, ?_⟩
    unfold clampR at hxr
    split at hxr
    · simp only [List.mem_singleton] at hxr
      subst hxr
      have h1 : mx r.f0 0 ≤ c := h.1
      have h2 : c ≤ mn r.f1 1114111 := h.2
      unfold mx at h1; unfold mn at h2
      split at h1 <;> split at h2 <;> omega
    · cases hxr
  · rintro ⟨h0, h1, r, hr, h⟩
    have hle : mx r.f0 0 ≤ c := by unfold mx; split <;> omega
    have hge : c ≤ mn r.f1 1114111 := by unfold mn; split <;> omega
    refine ⟨⟨mx r.f0 0, mn r.f1 1114111⟩, List.mem_flatMap.2 ⟨r, hr, ?_⟩, hle, hge⟩
    unfold clampR
    rw [if_pos (by omega)]
    simp
theorem makeL_all (l : List Rg) : VL (makeL l) ∧ ∀ c, Mem (makeL l) c ↔ 0 ≤ c ∧ c ≤ 1114111 ∧ Mem l c := by
  have h := merge_fold (sortedR (l.flatMap clampR)) [] (fun r hr => clamps_ok hr) (sortedR_perm _).2 (by simp) (by simp) (by simp)
  refine ⟨⟨fun r hr => h.1 r (List.mem_reverse.1 hr), List.pairwise_reverse.2 h.2.1⟩, fun c => ?_⟩
  rw [← Mem_clamp, makeL, Mem_perm (fun x => List.mem_reverse) c, h.2.2 c, Mem_perm (fun x => sorted_mem) c]
  exact ⟨fun h => h.elim (fun h => (Mem_nil c h).elim) id, .inr⟩
theorem makeL_valid (l : List Rg) : VL (makeL l) := (makeL_all l).1
theorem makeL_mem (l : List Rg) (c : Int) : Mem (makeL l) c ↔ 0 ≤ c ∧ c ≤ 1114111 ∧ Mem l c := (makeL_all l).2 c
theorem VL_cons {r : Rg} {l : List Rg} (h : VL (r :: l)) : Ok r ∧ VL l ∧ ∀ c, Mem l c → r.f1 + 1 < c := by
  have hp := List.pairwise_cons.1 h.2
  refine ⟨h.1 r (by simp), ⟨fun x hx => h.1 x (List.mem_cons_of_mem _ hx), hp.2⟩, ?_⟩
  rintro c ⟨x, hx, h1, _⟩
  have := hp.1 x hx
  omega
/-- A valid list is told by its code points. -/
theorem VL_unique : ∀ (a b : List Rg), VL a → VL b → (∀ c, Mem a c ↔ Mem b c) → a = b
  | [], [], _, _, _ => rfl
  | [], y :: b, _, hb, h => by
    have := (VL_cons hb).1
    exact ((Mem_nil y.f0) ((h y.f0).2 (Mem_cons.2 (.inl ⟨Int.le_refl _, this.2.1⟩)))).elim
  | x :: a, [], ha, _, h => by
    have := (VL_cons ha).1
    exact ((Mem_nil x.f0) ((h x.f0).1 (Mem_cons.2 (.inl ⟨Int.le_refl _, this.2.1⟩)))).elim
  | x :: a, y :: b, ha, hb, h => by
    obtain ⟨ox, va, na⟩ := VL_cons ha
    obtain ⟨oy, vb, nb⟩ := VL_cons hb
    unfold Ok at ox oy
    have m1 : ∀ c, Mem (x :: a) c → x.f0 ≤ c := fun c hc => by
      rcases Mem_cons.1 hc with h | h
      · exact h.1
      · have := na c h; omega
    have m2 : ∀ c, Mem (y :: b) c → y.f0 ≤ c := fun c hc => by
      rcases Mem_cons.1 hc with h | h
      · exact h.1
      · have := nb c h; omega
    have e0 : x.f0 = y.f0 := by
      have h1 := m2 x.f0 ((h x.f0).1 (Mem_cons.2 (.inl ⟨Int.le_refl _, ox.2.1⟩)))
      have h2 := m1 y.f0 ((h y.f0).2 (Mem_cons.2 (.inl ⟨Int.le_refl _, oy.2.1⟩)))
      omega
    have k1 : x.f1 ≤ y.f1 := by
      rcases Int.lt_or_le y.f1 x.f1 with hlt | hle
      · have : Mem (y :: b) (y.f1 + 1) := (h _).1 (Mem_cons.2 (.inl ⟨by omega, by omega⟩))
        rcases Mem_cons.1 this with h | h
        · omega
        · have := nb _ h; omega
      · exact hle
    have k2 : y.f1 ≤ x.f1 := by
      rcases Int.lt_or_le x.f1 y.f1 with hlt | hle
      · have : Mem (x :: a) (x.f1 + 1) := (h _).2 (Mem_cons.2 (.inl ⟨by omega, by omega⟩))
        rcases Mem_cons.1 this with h | h
        · omega
        · have := na _ h; omega
      · exact hle
    have e : x = y := by
      cases x; cases y
      simp only at e0 k1 k2
      congr 1
      omega
    subst e
    congr 1
    refine VL_unique a b va vb fun c => ⟨fun hc => ?_, fun hc => ?_⟩
    · have := na c hc
      rcases Mem_cons.1 ((h c).1 (Mem_cons.2 (.inr hc))) with h | h
      · omega
      · exact h
    · have := nb c hc
      rcases Mem_cons.1 ((h c).2 (Mem_cons.2 (.inr hc))) with h | h
      · omega
      · exact h
theorem VL_hi {l : List Rg} (h : VL l) : l.Pairwise fun a b => a.f1 ≤ b.f1 := by
  refine h.2.imp_of_mem ?_
  intro a b _ hb hab
  have := h.1 b hb
  unfold Ok at this
  omega
/-- What a finder answers. -/
theorem hasB_mem : ∀ (ys : List Rg) (c : Int), VL ys → (hasB ys c = true ↔ Mem ys c)
  | [], c, _ => ⟨fun h => by simp [hasB, cntB] at h, fun h => (Mem_nil c h).elim⟩
  | y :: ys, c, h => by
    obtain ⟨oy, vy, ny⟩ := VL_cons h
    have ih := hasB_mem ys c vy
    unfold Ok at oy
    rw [Mem_cons]
    by_cases hc : c ≤ y.f1
    · have hz : cntB (y :: ys) c = 0 := by
        unfold cntB
        rw [List.countP_eq_zero]
        intro x hx
        have h2 : y.f1 ≤ x.f1 := by
          rcases List.mem_cons.1 hx with rfl | hx
          · exact Int.le_refl _
          · exact (List.pairwise_cons.1 (VL_hi h)).1 x hx
        simp; omega
      have e : hasB (y :: ys) c = decide (y.f0 ≤ c) := by simp [hasB, hz]
      rw [e]
      simp only [decide_eq_true_eq]
      exact ⟨fun h => .inl ⟨h, hc⟩, fun h => h.elim (fun h => h.1) fun h => by have := ny c h; omega⟩
    · have hz : cntB (y :: ys) c = cntB ys c + 1 := by
        unfold cntB
        rw [List.countP_cons, if_pos (by simp; omega)]
      have e : hasB (y :: ys) c = hasB ys c := by simp [hasB, hz]
      rw [e, ih]
      exact ⟨.inr, fun h => h.elim (fun h => by omega) id⟩
end Go.Proofs.YtpnkkhichkmmmaaGreatDoor.Q
