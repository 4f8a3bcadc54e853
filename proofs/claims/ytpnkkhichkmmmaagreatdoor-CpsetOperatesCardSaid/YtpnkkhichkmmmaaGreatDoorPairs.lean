/-
  DERIVED. The cuts of combine and what it makes of them, in plain Lean.
-/
import Derived.Test.YtpnkkhichkmmmaaGreatDoorSem
namespace Go.Proofs.YtpnkkhichkmmmaaGreatDoor.Q
set_option linter.unusedVariables false
set_option linter.unusedSimpArgs false
open Go.RowKit Go.Proofs.YtpnkkhichkmmmaaGreatDoorW.PrintWords Go.Proofs.YtpnkkhichkmmmaaGreatDoorW.PrintLast Go.Proofs.YtpnkkhichkmmmaaGreatDoorW.PrintMore

def cutsV (pre : List S32) : List Int := pre.flatMap fun r => [r.f0, wrap64 (r.f1 + 1)]
theorem cutsV_snoc (pre : List S32) (x) : cutsV (pre ++ [x]) = cutsV pre ++ [x.f0, wrap64 (x.f1 + 1)] := by simp [cutsV]
theorem cutsV_len (pre : List S32) : (cutsV pre).length = pre.length * 2 := by
  induction pre with
  | nil => rfl
  | cons x xs ih => simp [cutsV] at ih ⊢; omega
def pairL (kf : Bool → Bool → Bool) (ya yb : List S32) : List Int → List S32
  | a :: b :: t => (if a ≤ wrap64 (b - 1) ∧ kf (hasB ya a) (hasB yb a) = true then [⟨a, wrap64 (b - 1)⟩] else []) ++ pairL kf ya yb (b :: t)
  | _ => []
theorem pairL_snoc (kf : Bool → Bool → Bool) (ya yb : List S32) : ∀ (pre : List Int) (a b : Int), pairL kf ya yb (pre ++ [a, b]) = pairL kf ya yb (pre ++ [a]) ++ (if a ≤ wrap64 (b - 1) ∧ kf (hasB ya a) (hasB yb a) = true then [⟨a, wrap64 (b - 1)⟩] else [])
  | [], a, b => by simp [pairL]
  | [x], a, b => by simp [pairL]
  | x :: y :: t, a, b => by
    have := pairL_snoc kf ya yb (y :: t) a b
    simp only [List.cons_append, pairL, List.append_assoc] at this ⊢
    rw [this]
theorem pairL_len (kf : Bool → Bool → Bool) (ya yb : List S32) : ∀ l, (pairL kf ya yb l).length ≤ l.length
  | [] => Nat.le_refl _
  | [x] => by simp [pairL]
  | a :: b :: t => by
    have := pairL_len kf ya yb (b :: t)
    simp only [pairL, List.length_append, List.length_cons] at this ⊢
    split <;> simp <;> omega
theorem pairL_one {kf : Bool → Bool → Bool} {ya yb : List S32} {ss : List Int} (h : 1 ≤ ss.length) : pairL kf ya yb (ss.take (0 + 1)) = [] := by
  cases ss with
  | nil => simp at h
  | cons a t => simp [pairL]
theorem take_two {ss : List Int} {m : Nat} (h : m + 1 < ss.length) : ss.take (m + 2) = ss.take m ++ [ss[m], ss[m + 1]] := by
  rw [show m + 2 = m + 1 + 1 from rfl, List.take_add_one, List.take_add_one, List.getElem?_eq_getElem (by omega), List.getElem?_eq_getElem h]
  simp only [List.append_assoc, Option.toList_some, List.cons_append, List.nil_append]
theorem wrap_m2 {m L : Nat} (h : m + 1 ≤ L) (hL : L ≤ 7036874417764) : wrap64 ((m : Int) + 1 + 1) = (m : Int) + 1 + 1 := by unfold wrap64; omega
theorem wrap_m0 {m L : Nat} (h : m + 1 ≤ L) (hL : L ≤ 7036874417764) : wrap64 (m : Int) = (m : Int) := by unfold wrap64; omega
end Go.Proofs.YtpnkkhichkmmmaaGreatDoor.Q
