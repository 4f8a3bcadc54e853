/-
  DERIVED. cpset.Make: what the printed function computes, in plain Lean; that it always comes to an end.
-/
import Derived.Test.YtpnkkhichkmmmaaGreatDoorQ3
import Derived.Test.YtpnkkhichkmmmaaGreatDoorSort
namespace Go.Proofs.YtpnkkhichkmmmaaGreatDoor.Q
set_option linter.unusedVariables false
set_option linter.unusedSimpArgs false
open Go.RowKit Go.Proofs.YtpnkkhichkmmmaaGreatDoorW.PrintWords Go.Proofs.YtpnkkhichkmmmaaGreatDoorW.PrintLast Go.Proofs.YtpnkkhichkmmmaaGreatDoorW.PrintMore

abbrev Rg := S32
def clampR (r : Rg) : List Rg := if mx r.f0 0 ≤ mn r.f1 1114111 then [⟨mx r.f0 0, mn r.f1 1114111⟩] else []
def mergeR : List Rg → Rg → List Rg
  | [], r => [r]
  | l :: t, r => if r.f0 ≤ l.f1 + 1 then ⟨l.f0, mx l.f1 r.f1⟩ :: t else r :: l :: t
def makeL (l : List Rg) : List Rg := ((sortedR (l.flatMap clampR)).foldl mergeR []).reverse
theorem getD_drop {xs : List Rg} {i : Nat} (h : i < xs.length) : xs.drop i = xs.getD i z32 :: xs.drop (i + 1) := by
  rw [List.drop_eq_getElem_cons h]; simp [h]
theorem clampR_len (r : Rg) : (clampR r).length ≤ 1 := by unfold clampR; split <;> simp
theorem clamps_len (l : List Rg) : (l.flatMap clampR).length ≤ l.length := by
  induction l with
  | nil => simp
  | cons x xs ih => have := clampR_len x; simp only [List.flatMap_cons, List.length_append, List.length_cons]; omega
theorem clampR_ok {r x : Rg} (h : x ∈ clampR r) : 0 ≤ x.f0 ∧ x.f0 ≤ x.f1 ∧ x.f1 ≤ 1114111 := by
  unfold clampR at h
  split at h
  · simp only [List.mem_singleton] at h
    subst h
    refine ⟨?_, by assumption, ?_⟩
    · show 0 ≤ mx r.f0 0; unfold mx; split <;> omega
    · show mn r.f1 1114111 ≤ 1114111; unfold mn; split <;> omega
  · cases h
theorem l0_spec (xs : List Rg) : ∀ (n i : Nat) (acc : List Rg) (k : Nat), i + n = xs.length → xs.length ≤ 1000000 → acc.length + n ≤ 1000000 →
    cpset_Make.l0 (n + 1 + k) acc xs (xs.length : Int) (i : Int) = (sort_Range.f (acc ++ (xs.drop i).flatMap clampR)).bind fun t => cpset_Make.l1 k [] t ((acc ++ (xs.drop i).flatMap clampR).length : Int) 0
  | 0, i, acc, k, hi, hx, ha => by
    have e : xs.drop i = [] := List.drop_eq_nil_of_le (by omega)
    have h : ¬ ((i : Int) < (xs.length : Int)) := by omega
    rw [e, show 0 + 1 + k = k + 1 by omega]
    simp only [cpset_Make.l0, if_neg h, List.flatMap_nil, List.append_nil]
  | n + 1, i, acc, k, hi, hx, ha => by
    have hlt : i < xs.length := by omega
    have h : (i : Int) < (xs.length : Int) := by omega
    have h0 : (0 : Int) ≤ (i : Int) := by omega
    have hw : wrap64 ((i : Int) + 1) = ((i + 1 : Nat) : Int) := by unfold wrap64; omega
    have hr : rd_T32 xs (i : Int) = xs.getD i z32 := by simp [rd_T32]
    have hl : acc.length < 8796093022208 := by omega
    rw [getD_drop hlt, List.flatMap_cons, show n + 1 + 1 + k = (n + 1 + k) + 1 by omega]
    generalize xs.getD i z32 = r at hr
    simp only [cpset_Make.l0, if_pos h, if_pos h0, hr, hw, if_pos hl, clampR]
    by_cases hc : mx r.f0 0 ≤ mn r.f1 1114111
    · simp only [if_pos hc]
      have := l0_spec xs n (i + 1) (acc ++ [(⟨mx r.f0 0, mn r.f1 1114111⟩ : Rg)]) k (by omega) hx (by simp; omega)
      rw [List.append_assoc] at this
      exact this
    · simp only [if_neg hc]
      rw [l0_spec xs n (i + 1) acc k (by omega) hx (by omega), List.nil_append]
theorem l1_spec (xs : List Rg) (hxs : ∀ r ∈ xs, r.f1 ≤ 1114111) : ∀ (n i : Nat) (acc : List Rg) (k : Nat), i + n = xs.length → xs.length ≤ 1000000 → acc.length + n ≤ 1000000 → (∀ r ∈ acc, 0 ≤ r.f1 ∧ r.f1 ≤ 1114111) → (∀ r ∈ xs, 0 ≤ r.f1) →
    cpset_Make.l1 (n + 1 + k) acc.reverse xs (xs.length : Int) (i : Int) = some ((xs.drop i).foldl mergeR acc).reverse
  | 0, i, acc, k, hi, hx, ha, hb, hp => by
    have e : xs.drop i = [] := List.drop_eq_nil_of_le (by omega)
    have h : ¬ ((i : Int) < (xs.length : Int)) := by omega
    rw [e, show 0 + 1 + k = k + 1 by omega]
    simp only [cpset_Make.l1, if_neg h, List.foldl_nil]
  | n + 1, i, acc, k, hi, hx, ha, hb, hp => by
    have hlt : i < xs.length := by omega
    have h : (i : Int) < (xs.length : Int) := by omega
    have h0 : (0 : Int) ≤ (i : Int) := by omega
    have hw : wrap64 ((i : Int) + 1) = ((i + 1 : Nat) : Int) := by unfold wrap64; omega
    have hr : rd_T32 xs (i : Int) = xs.getD i z32 := by simp [rd_T32]
    have hm : xs.getD i z32 ∈ xs := by simp [hlt]
    have hr1 := hxs _ hm
    have hr0 := hp _ hm
    have hl : acc.reverse.length < 8796093022208 := by simp; omega
    rw [getD_drop hlt, List.foldl_cons, show n + 1 + 1 + k = (n + 1 + k) + 1 by omega]
    generalize xs.getD i z32 = r at hr hr1 hr0 hm
    simp only [cpset_Make.l1, if_pos h, if_pos h0, hr, hw, if_pos hl]
    cases acc with
    | nil =>
      have hz : ¬ (((([] : List Rg).reverse.length : Nat) : Int) > 0) := by simp
      simp only [if_neg hz, mergeR]
      have := l1_spec xs hxs n (i + 1) [r] k (by omega) hx (by simp at ha ⊢; omega) (by simpa using ⟨hr0, hr1⟩) hp
      simpa using this
    | cons a t =>
      have hal := hb a (by simp)
      have hz : ((((a :: t).reverse.length : Nat) : Int) > 0) := by simp
      have hw1 : wrap64 ((((a :: t).reverse.length : Nat) : Int) - 1) = (t.length : Int) := by simp at ha ⊢; unfold wrap64; omega
      have hg0 : (0 : Int) ≤ (t.length : Int) := by omega
      have hg1 : (t.length : Int) < (((a :: t).reverse.length : Nat) : Int) := by simp; omega
      have hrd : rd_T32 (a :: t).reverse (t.length : Int) = a := by simp [rd_T32, List.getElem?_append]
      have hwa : wrap64 (a.f1 + 1) = a.f1 + 1 := by unfold wrap64; omega
      simp only [if_pos hz, hw1, if_pos hg0, if_pos hg1, hrd, hwa, mergeR]
      by_cases hc : r.f0 ≤ a.f1 + 1
      · simp only [if_pos hc]
        have hset : (a :: t).reverse.set (t.length : Int).toNat ⟨a.f0, mx a.f1 r.f1⟩ = ((⟨a.f0, mx a.f1 r.f1⟩ : Rg) :: t).reverse := by
          simp [List.set_append]
        rw [hset]
        refine l1_spec xs hxs n (i + 1) (⟨a.f0, mx a.f1 r.f1⟩ :: t) k (by omega) hx (by simp at ha ⊢; omega) (fun x hx => ?_) hp
        rcases List.mem_cons.1 hx with rfl | hx
        · show 0 ≤ mx a.f1 r.f1 ∧ mx a.f1 r.f1 ≤ 1114111
          unfold mx; split <;> omega
        · exact hb x (List.mem_cons_of_mem _ hx)
      · simp only [if_neg hc]
        have := l1_spec xs hxs n (i + 1) (r :: a :: t) k (by omega) hx (by simp at ha ⊢; omega) (fun x hx => by rcases List.mem_cons.1 hx with rfl | hx; exact ⟨hr0, hr1⟩; exact hb x hx) hp
        simpa using this
theorem sorted_mem {l : List Rg} {x : Rg} : x ∈ sortedR l ↔ x ∈ l := (sortedR_perm l).1.mem_iff
theorem clamps_ok {l : List Rg} {x : Rg} (h : x ∈ sortedR (l.flatMap clampR)) : 0 ≤ x.f0 ∧ x.f0 ≤ x.f1 ∧ x.f1 ≤ 1114111 := by
  rw [sorted_mem, List.mem_flatMap] at h
  obtain ⟨r, _, hx⟩ := h
  exact clampR_ok hx
/-- Make comes to an end. -/
theorem Make_total (l : List Rg) (h : l.length ≤ 1000000) (k : Nat) (hk : 2 * l.length + 2 ≤ k) : cpset_Make.f k l = some (makeL l) := by
  have hlen := clamps_len l
  have hsl : (sortedR (l.flatMap clampR)).length = (l.flatMap clampR).length := (sortedR_perm _).1.length_eq
  unfold cpset_Make.f
  obtain ⟨j, rfl⟩ : ∃ j, k = l.length + 1 + ((sortedR (l.flatMap clampR)).length + 1 + j) := ⟨k - (l.length + 1 + ((sortedR (l.flatMap clampR)).length + 1)), by omega⟩
  have h0 := l0_spec l l.length 0 [] ((sortedR (l.flatMap clampR)).length + 1 + j) (by omega) h (by simp; omega)
  simp only [List.drop_zero, List.nil_append] at h0
  rw [show ((0 : Nat) : Int) = 0 from rfl] at h0
  rw [h0, sort_Range.f, if_pos (by omega)]
  simp only [Option.bind_some]
  rw [← hsl]
  have h1 := l1_spec (sortedR (l.flatMap clampR)) (fun r hr => (clamps_ok hr).2.2) (sortedR (l.flatMap clampR)).length 0 [] j (by omega) (by omega) (by simp; omega) (by simp) (fun r hr => by have := clamps_ok hr; omega)
  simp only [List.drop_zero, List.reverse_nil] at h1
  exact h1
end Go.Proofs.YtpnkkhichkmmmaaGreatDoor.Q
