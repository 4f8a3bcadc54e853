/-
  DERIVED. The examples with which each statement on sets begins: they hold.
-/
import Derived.Test.YtpnkkhichkmmmaaGreatDoorHexP
import Derived.Test.YtpnkkhichkmmmaaGreatDoorQ5
namespace Go.Proofs.YtpnkkhichkmmmaaGreatDoor.Q
set_option linter.unusedVariables false
set_option linter.unusedSimpArgs false
open Go.RowKit Go.Proofs.YtpnkkhichkmmmaaGreatDoorW.PrintWords Go.Proofs.YtpnkkhichkmmmaaGreatDoorW.PrintLast Go.Proofs.YtpnkkhichkmmmaaGreatDoorW.PrintMore

theorem makeL_VL {l : List Rg} (h : VL l) : makeL l = l := by
  refine VL_unique _ _ (makeL_valid l) h (fun c => ?_)
  rw [makeL_mem]
  constructor
  · exact fun h => h.2.2
  · rintro ⟨r, hr, h1, h2⟩
    have := h.1 r hr
    unfold Ok at this
    exact ⟨by omega, by omega, r, hr, h1, h2⟩
theorem VL_one {a b : Int} (h : 0 ≤ a ∧ a ≤ b ∧ b ≤ 1114111) : VL [(⟨a, b⟩ : Rg)] := ⟨fun r hr => by simp at hr; subst hr; exact h, by simp⟩
theorem VL_two {a b c d : Int} (h : 0 ≤ a ∧ a ≤ b ∧ b + 1 < c ∧ c ≤ d ∧ d ≤ 1114111) : VL [(⟨a, b⟩ : Rg), ⟨c, d⟩] := ⟨fun r hr => by
  simp at hr
  rcases hr with rfl | rfl
  · exact ⟨h.1, h.2.1, show b ≤ 1114111 by omega⟩
  · exact ⟨show 0 ≤ c by omega, h.2.2.2.1, h.2.2.2.2⟩, by simp; exact h.2.2.1⟩
theorem Mem_one {a b c : Int} : Mem [(⟨a, b⟩ : Rg)] c ↔ a ≤ c ∧ c ≤ b := by
  rw [Mem_cons]
  exact ⟨fun h => h.elim id (fun h => absurd h (Mem_nil c)), .inl⟩
theorem mk_ex1 : makeL [(⟨5, 7⟩ : Rg), ⟨8, 8⟩, ⟨3, 2⟩] = [⟨5, 8⟩] := by
  refine VL_unique _ _ (makeL_valid _) (VL_one (by omega)) (fun c => ?_)
  rw [makeL_mem, Mem_cons, Mem_cons, Mem_one, Mem_one]
  show _ ∧ _ ∧ ((5 ≤ c ∧ c ≤ 7) ∨ (8 ≤ c ∧ c ≤ 8) ∨ 3 ≤ c ∧ c ≤ 2) ↔ _
  omega
theorem mk_ex2 : makeL [(⟨65, 65⟩ : Rg), ⟨66, 66⟩] = [⟨65, 66⟩] := by
  refine VL_unique _ _ (makeL_valid _) (VL_one (by omega)) (fun c => ?_)
  rw [makeL_mem, Mem_cons, Mem_one, Mem_one]
  show _ ∧ _ ∧ ((65 ≤ c ∧ c ≤ 65) ∨ 66 ≤ c ∧ c ≤ 66) ↔ _
  omega
theorem not_ex : combL (fun x _ => !x) [] [] = [(⟨0, 1114111⟩ : Rg)] := by
  refine VL_unique _ _ (combL_valid _ _ _) (VL_one (by omega)) (fun c => ?_)
  rw [combL_mem, hasL_nil, Mem_one]
  simp
theorem text_ex1 : cpset_Text.f [(⟨65, 90⟩ : Rg), ⟨97, 97⟩] = some ⟨#[48, 48, 52, 49, 46, 46, 48, 48, 53, 65, 32, 48, 48, 54, 49]⟩ := by
  unfold cpset_Text.f
  rw [if_pos (by simp), makeL_VL (VL_two (by omega))]
  decide +kernel
theorem text_ex2 : cpset_Text.f [(⟨65, 66⟩ : Rg)] = some ⟨#[48, 48, 52, 49, 46, 46, 48, 48, 52, 50]⟩ := by
  unfold cpset_Text.f
  rw [if_pos (by simp), makeL_VL (VL_one (by omega))]
  decide +kernel
theorem split_ex : strings_Split.f ⟨#[48, 48, 52, 49, 32, 48, 48, 52, 50]⟩ ⟨#[32]⟩ = some [⟨#[48, 48, 52, 49]⟩, ⟨#[48, 48, 52, 50]⟩] := by decide +kernel
theorem cut_ex1 : strings_Cut.f ⟨#[48, 48, 52, 49]⟩ ⟨#[46, 46]⟩ = some (⟨#[48, 48, 52, 49]⟩, ⟨#[]⟩, false) := by decide +kernel
theorem cut_ex2 : strings_Cut.f ⟨#[48, 48, 52, 50]⟩ ⟨#[46, 46]⟩ = some (⟨#[48, 48, 52, 50]⟩, ⟨#[]⟩, false) := by decide +kernel
theorem cp_ex1 : parseV ⟨#[48, 48, 52, 49]⟩ = (65, 0) := by decide +kernel
theorem cp_ex2 : parseV ⟨#[48, 48, 52, 50]⟩ = (66, 0) := by decide +kernel
theorem parse_ex (k : Nat) : cpset_Parse.f (k + 30) ⟨#[48, 48, 52, 49, 32, 48, 48, 52, 50]⟩ = some ([], 3) := by
  unfold cpset_Parse.f
  rw [if_neg (by rw [tl]; simp), split_ex, Option.bind_some]
  have c1 := CParse_total ⟨#[48, 48, 52, 49]⟩ (k + 29) (by omega)
  have c2 := CParse_total ⟨#[48, 48, 52, 50]⟩ (k + 27) (by omega)
  rw [cp_ex1] at c1
  rw [cp_ex2] at c2
  have w1 : wrap64 (0 + 1) = 1 := by unfold wrap64; omega
  have w2 : wrap64 (1 + 1) = 2 := by unfold wrap64; omega
  have m := Make_total [(⟨65, 65⟩ : Rg), ⟨66, 66⟩] (by simp) (k + 25) (by simp)
  rw [mk_ex2] at m
  have ne : ¬ ((⟨#[48, 48, 52, 49, 46, 46, 48, 48, 52, 50]⟩ : ByteArray).toList = (⟨#[48, 48, 52, 49, 32, 48, 48, 52, 50]⟩ : ByteArray).toList) := by rw [tl, tl]; simp
  have s1 : cpset_Parse.l0 (k + 30) ⟨#[48, 48, 52, 49, 32, 48, 48, 52, 50]⟩ [] [⟨#[48, 48, 52, 49]⟩, ⟨#[48, 48, 52, 50]⟩] (([(⟨#[48, 48, 52, 49]⟩ : ByteArray), ⟨#[48, 48, 52, 50]⟩] : List ByteArray).length : Int) 0 = cpset_Parse.l0 (k + 28) ⟨#[48, 48, 52, 49, 32, 48, 48, 52, 50]⟩ [⟨65, 65⟩] [⟨#[48, 48, 52, 49]⟩, ⟨#[48, 48, 52, 50]⟩] 2 1 := by
    rw [show k + 30 = (k + 28) + 1 + 1 from rfl, cpset_Parse.l0]
    simp only [List.length_cons, List.length_nil, rdOf]
    rw [if_pos (by decide), if_pos (by decide), if_pos (by decide)]
    simp only [Int.toNat_zero, List.getD_cons_zero, cut_ex1, Option.bind_some, c1, Bool.false_eq_true, if_false, cpset_Parse.j1, if_true, w1]
    rw [if_pos (by simp)]
    rfl
  have s2 : cpset_Parse.l0 (k + 28) ⟨#[48, 48, 52, 49, 32, 48, 48, 52, 50]⟩ [⟨65, 65⟩] [⟨#[48, 48, 52, 49]⟩, ⟨#[48, 48, 52, 50]⟩] 2 1 = cpset_Parse.l0 (k + 26) ⟨#[48, 48, 52, 49, 32, 48, 48, 52, 50]⟩ [⟨65, 65⟩, ⟨66, 66⟩] [⟨#[48, 48, 52, 49]⟩, ⟨#[48, 48, 52, 50]⟩] 2 2 := by
    rw [show k + 28 = (k + 26) + 1 + 1 from rfl, cpset_Parse.l0]
    simp only [List.length_cons, List.length_nil, rdOf]
    rw [if_pos (by decide), if_pos (by decide), if_pos (by decide)]
    simp only [show (1 : Int).toNat = 1 from rfl, List.getD_cons_succ, List.getD_cons_zero, cut_ex2, Option.bind_some, c2, Bool.false_eq_true, if_false, cpset_Parse.j1, if_true, w2]
    rw [if_pos (by simp)]
    rfl
  rw [s1, s2, show k + 26 = (k + 25) + 1 from rfl, cpset_Parse.l0, if_neg (by decide), m, Option.bind_some, text_ex2, Option.bind_some, if_neg ne]
theorem alive_total (k : Nat) (hk : 30 ≤ k) : unicodetextlaw02_alive.f k = some true := by
  obtain ⟨k, rfl⟩ : ∃ j, k = j + 30 := ⟨k - 30, by omega⟩
  unfold unicodetextlaw02_alive.f
  rw [Make_total _ (by simp) _ (by simp), Option.bind_some, parse_ex, Option.bind_some, mk_ex1, Same_total _ _ (by simp) _ (by simp), Option.bind_some]
  rw [text_ex1]
  have n1 : cpset_Not.f [] = some [(⟨0, 1114111⟩ : Rg)] := by unfold cpset_Not.f; rw [if_pos (by simp), not_ex]
  have n2 : cpset_Count.f [(⟨0, 1114111⟩ : Rg)] = some 1114112 := by
    unfold cpset_Count.f
    rw [if_pos (by simp), makeL_VL (VL_one (by omega))]
    decide +kernel
  simp [n1, n2]
end Go.Proofs.YtpnkkhichkmmmaaGreatDoor.Q
