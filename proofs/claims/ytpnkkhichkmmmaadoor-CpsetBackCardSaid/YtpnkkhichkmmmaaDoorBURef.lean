/-
  DERIVED. The reference of the chapter on sets (unicodetextref02), in plain Lean: what the printed functions compute, and that it is the valid set of the code points.
-/
import Derived.Test.YtpnkkhichkmmmaaDoorBURef1
import Derived.Test.YtpnkkhichkmmmaaDoorBUQ7
import Derived.Test.YtpnkkhichkmmmaaDoorBUQ8
namespace Go.Proofs.YtpnkkhichkmmmaaDoor.Q
set_option linter.unusedVariables false
set_option linter.unusedSimpArgs false
open Go.RowKit Go.Proofs.YtpnkkhichkmmmaaDoorW.PrintWords Go.Proofs.YtpnkkhichkmmmaaDoorW.PrintLast Go.Proofs.YtpnkkhichkmmmaaDoorW.PrintMore

def extR : List Rg → Int → List Rg
  | [], _ => []
  | a :: t, hi => ⟨a.f0, hi⟩ :: t
def stepR (P : Int → Bool) (c hi : Int) (op : Bool) (acc : List Rg) : List Rg := if P c = true then (if op = true then extR acc hi else ⟨c, hi⟩ :: acc) else acc
structure InvR (P : Int → Bool) (cur : Int) (op : Bool) (acc : List Rg) : Prop where
  ok : ∀ r ∈ acc, Ok r
  pw : acc.Pairwise fun b a => a.f1 + 1 < b.f0
  mem : ∀ x, Mem acc x ↔ 0 ≤ x ∧ x < cur ∧ P x = true
  on : op = true → ∃ a t, acc = a :: t ∧ a.f1 + 1 = cur
  off : op = false → ∀ a ∈ acc, a.f1 + 1 < cur
theorem InvR.step {P : Int → Bool} {c hi : Int} {op : Bool} {acc : List Rg} (h : InvR P c op acc) (h0 : 0 ≤ c) (h1 : c ≤ hi) (h2 : hi ≤ 1114111) (hp : ∀ x, c ≤ x → x ≤ hi → P x = P c) : InvR P (hi + 1) (P c) (stepR P c hi op acc) := by
  unfold stepR
  by_cases hc : P c = true
  · rw [if_pos hc, hc]
    by_cases ho : op = true
    · rw [if_pos ho]
      obtain ⟨a, t, rfl, ha⟩ := h.on ho
      have hak := h.ok a (by simp)
      obtain ⟨p1, p2⟩ := List.pairwise_cons.1 h.pw
      unfold Ok at hak
      refine ⟨fun r hr => ?_, List.pairwise_cons.2 ⟨fun x hx => p1 x hx, p2⟩, fun x => ?_, fun _ => ⟨_, t, rfl, rfl⟩, fun e => by cases e⟩
      · rcases List.mem_cons.1 hr with rfl | hr
        · exact ⟨hak.1, show a.f0 ≤ hi by omega, h2⟩
        · exact h.ok r (List.mem_cons_of_mem _ hr)
      · have hm := h.mem x
        rw [Mem_cons] at hm
        show Mem (⟨a.f0, hi⟩ :: t) x ↔ _
        rw [Mem_cons]
        show (a.f0 ≤ x ∧ x ≤ hi) ∨ Mem t x ↔ _
        constructor
        · rintro (h3 | h3)
          · rcases ilt x c with h4 | h4
            · have := hm.1 (.inl ⟨h3.1, by omega⟩)
              exact ⟨this.1, by omega, this.2.2⟩
            · exact ⟨by omega, by omega, by rw [hp x h4 h3.2]; exact hc⟩
          · have := hm.1 (.inr h3)
            exact ⟨this.1, by omega, this.2.2⟩
        · rintro ⟨h3, h4, h5⟩
          rcases ilt x c with h6 | h6
          · rcases hm.2 ⟨h3, h6, h5⟩ with h7 | h7
            · exact .inl ⟨h7.1, by omega⟩
            · exact .inr h7
          · exact .inl ⟨by omega, by omega⟩
    · rw [if_neg ho]
      have ho' : op = false := by simpa using ho
      have hoff := h.off ho'
      refine ⟨fun r hr => ?_, List.pairwise_cons.2 ⟨fun x hx => hoff x hx, h.pw⟩, fun x => ?_, fun _ => ⟨_, acc, rfl, rfl⟩, fun e => by cases e⟩
      · rcases List.mem_cons.1 hr with rfl | hr
        · exact ⟨h0, h1, h2⟩
        · exact h.ok r hr
      · have hm := h.mem x
        rw [Mem_cons]
        show (c ≤ x ∧ x ≤ hi) ∨ Mem acc x ↔ _
        constructor
        · rintro (h3 | h3)
          · exact ⟨by omega, by omega, by rw [hp x h3.1 h3.2]; exact hc⟩
          · have := hm.1 h3
            exact ⟨this.1, by omega, this.2.2⟩
        · rintro ⟨h3, h4, h5⟩
          rcases ilt x c with h6 | h6
          · exact .inr (hm.2 ⟨h3, h6, h5⟩)
          · exact .inl ⟨h6, by omega⟩
  · have hc' : P c = false := by simpa using hc
    rw [if_neg hc, hc']
    refine ⟨h.ok, h.pw, fun x => ?_, (fun e => by cases e), fun _ a ha => ?_⟩
    · rw [h.mem x]
      constructor
      · rintro ⟨h3, h4, h5⟩; exact ⟨h3, by omega, h5⟩
      · rintro ⟨h3, h4, h5⟩
        refine ⟨h3, ?_, h5⟩
        rcases ilt x c with h6 | h6
        · exact h6
        · rw [hp x h6 (by omega), hc'] at h5; cases h5
    · cases op with
      | false => have := h.off rfl a ha; omega
      | true =>
        obtain ⟨b, t, rfl, hb⟩ := h.on rfl
        rcases List.mem_cons.1 ha with rfl | ha
        · omega
        · have := (List.pairwise_cons.1 h.pw).1 a ha
          have hbk := h.ok b (by simp)
          unfold Ok at hbk
          omega
theorem InvR.valid {P : Int → Bool} {op : Bool} {acc : List Rg} (h : InvR P 1114112 op acc) : VL acc.reverse ∧ ∀ x, Mem acc.reverse x ↔ 0 ≤ x ∧ x ≤ 1114111 ∧ P x = true := by
  refine ⟨⟨fun r hr => h.ok r (by simpa using hr), by simpa [List.pairwise_reverse] using h.pw⟩, fun x => ?_⟩
  have := Mem_perm (a := acc.reverse) (b := acc) (by simp) x
  rw [this, h.mem x]
  constructor
  · rintro ⟨h1, h2, h3⟩; exact ⟨h1, by omega, h3⟩
  · rintro ⟨h1, h2, h3⟩; exact ⟨h1, by omega, h3⟩
end Go.Proofs.YtpnkkhichkmmmaaDoor.Q
