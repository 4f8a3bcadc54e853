/-
  DERIVED. Parse of a set, in plain Lean: the program's and the reference's both read what Text writes, and nothing else.
-/
import Derived.Test.YtpnkkhichkmmmaaDoorBUTextP
import Derived.Test.YtpnkkhichkmmmaaDoorBUQ4
import Derived.Test.YtpnkkhichkmmmaaDoorBUQ9
import Derived.Test.YtpnkkhichkmmmaaDoorBUQ8
namespace Go.Proofs.YtpnkkhichkmmmaaDoor.Q
set_option linter.unusedVariables false
set_option linter.unusedSimpArgs false
open Go.RowKit Go.Proofs.YtpnkkhichkmmmaaDoorW.PrintWords Go.Proofs.YtpnkkhichkmmmaaDoorW.PrintLast Go.Proofs.YtpnkkhichkmmmaaDoorW.PrintMore

def mkB (l : List UInt8) : ByteArray := ⟨l.toArray⟩
theorem mkB_data (l : List UInt8) : (mkB l).data.toList = l := by simp [mkB]
theorem mkB_self (s : ByteArray) : mkB s.data.toList = s := ba_inj (mkB_data _)
/-! ### a part -/
def onePart (p : ByteArray) : Option Rg :=
  let c := Lib.cut p.data.toList [46, 46]
  let a := parseV (mkB c.1)
  if c.2.2 = true ∧ a.2 = 0 then (let b := parseV (mkB c.2.1); if b.2 = 0 then some ⟨a.1, b.1⟩ else none) else if a.2 = 0 then some ⟨a.1, a.1⟩ else none
def parseParts : List ByteArray → List Rg → Option (List Rg)
  | [], acc => some acc
  | p :: ps, acc => match onePart p with
    | none => none
    | some r => parseParts ps (acc ++ [r])
def finishP (s : ByteArray) : Option (List Rg) → List Rg × Int
  | none => ([], 3)
  | some l => if textL (makeL l) = s then (makeL l, 0) else ([], 3)
theorem cut_f {a : ByteArray} (h : a.size < 4294967281) : strings_Cut.f a ⟨#[46, 46]⟩ = some (mkB (Lib.cut a.data.toList [46, 46]).1, mkB (Lib.cut a.data.toList [46, 46]).2.1, (Lib.cut a.data.toList [46, 46]).2.2) := by
  unfold strings_Cut.f
  rw [if_pos h]
  rfl
theorem cloop (s : ByteArray) (ps : List ByteArray) (hps : ∀ p ∈ ps, p.size < 4294967281) (hl : ps.length ≤ 10000) (B : Nat) (hB : 30000 ≤ B) : ∀ (n i : Nat) (acc : List Rg) (k : Nat), i + n = ps.length → acc.length + n ≤ 10000 → 2 * n + B ≤ k →
    cpset_Parse.l0 k s acc ps (ps.length : Int) (i : Int) = some (finishP s (parseParts (ps.drop i) acc))
  | 0, i, acc, k, hi, ha, hk => by
    obtain ⟨k, rfl, _⟩ := pred1 (show (B - 1) + 1 ≤ k by omega)
    have h : ¬ ((i : Int) < (ps.length : Int)) := by omega
    have hm := makeL_len acc
    rw [List.drop_eq_nil_of_le (show ps.length ≤ i by omega)]
    simp only [cpset_Parse.l0, if_neg h, Make_total acc (by omega) k (by omega), Option.bind_some, text_f (show (makeL acc).length ≤ 100000 by omega), makeL_VL (makeL_valid acc), parseParts, finishP, tl_iff]
    by_cases e : textL (makeL acc) = s
    · rw [if_pos e, if_pos e]
    · rw [if_neg e, if_neg e]
  | n + 1, i, acc, k, hi, ha, hk => by
    obtain ⟨k, rfl, _⟩ := pred1 (show (2 * n + B + 1) + 1 ≤ k by omega)
    obtain ⟨k, rfl, _⟩ := pred1 (show (2 * n + B) + 1 ≤ k by omega)
    have h : (i : Int) < (ps.length : Int) := by omega
    have h0 : (0 : Int) ≤ (i : Int) := by omega
    have hw := wrap_nat (show i < 4611686018427387904 by omega)
    have hlt : i < ps.length := by omega
    have hal : acc.length < 8796093022208 := by omega
    have ih := fun r => cloop s ps hps hl B hB n (i + 1) (acc ++ [r]) k (by omega) (by simp; omega) (by omega)
    have er : rdOf ByteArray.empty ps (i : Int) = ps[i] := by simp [rdOf, hlt]
    have hsz := hps _ (List.getElem_mem hlt)
    rw [List.drop_eq_getElem_cons hlt]
    obtain ⟨p, ep⟩ : ∃ p, ps[i] = p := ⟨_, rfl⟩
    rw [ep] at er hsz ⊢
    obtain ⟨c, ec⟩ : ∃ c, Lib.cut p.data.toList [46, 46] = c := ⟨_, rfl⟩
    obtain ⟨a, ea⟩ : ∃ a, parseV (mkB c.1) = a := ⟨_, rfl⟩
    obtain ⟨b, eb⟩ : ∃ b, parseV (mkB c.2.1) = b := ⟨_, rfl⟩
    simp only [cpset_Parse.l0, if_pos h, if_pos h0, er, cut_f hsz, Option.bind_some, CParse_total _ (k + 1) (show 13 ≤ k + 1 by omega), ec, ea, parseParts, onePart, eb]
    by_cases h2 : c.2.2 = true
    · rw [if_pos h2]
      by_cases h3 : a.2 = 0
      · have e3 : (a.2 == 0) = true := by simp [h3]
        rw [if_pos ⟨h2, h3⟩]
        simp only [e3, cpset_Parse.j1, if_true, CParse_total _ k (show 13 ≤ k by omega), eb, Option.bind_some]
        by_cases h4 : b.2 = 0
        · simp only [if_pos h4, if_pos hal, hw]
          exact ih _
        · simp only [if_neg h4]; rfl
      · have e3 : (a.2 == 0) = false := by simp [h3]
        rw [if_neg (fun h => h3 h.2), if_neg h3]
        simp only [e3, cpset_Parse.j1, Bool.false_eq_true, if_false, if_neg h3]
        rfl
    · rw [if_neg h2, if_neg (fun h => h2 h.1)]
      simp only [cpset_Parse.j1, Bool.false_eq_true, if_false]
      by_cases h3 : a.2 = 0
      · simp only [if_pos h3, if_pos hal, hw]
        exact ih _
      · simp only [if_neg h3]; rfl
theorem splitB_le (sep : ByteArray) : ∀ (k : Nat) (s : ByteArray), ∀ p ∈ Lib.splitB sep 0 k s, p.size ≤ s.size
  | 0, s, p, hp => by simp [Lib.splitB] at hp; rw [hp]; exact Nat.le_refl _
  | k + 1, s, p, hp => by
    unfold Lib.splitB at hp
    split at hp
    · simp at hp; rw [hp]; exact Nat.le_refl _
    · rcases List.mem_cons.1 hp with rfl | hp
      · rw [← data_length, ← data_length, Lib.extract_data, List.length_take, List.length_drop]; omega
      · have := splitB_le sep k _ p hp
        refine Nat.le_trans this ?_
        rw [← data_length, ← data_length, Lib.extract_data, List.length_take, List.length_drop]; omega
def partsP (s : ByteArray) : List ByteArray := Lib.splitB ⟨#[32]⟩ 0 (Lib.countB s ⟨#[32]⟩) s
theorem split_f {s : ByteArray} (h : s.size < 4294967281) : strings_Split.f s ⟨#[32]⟩ = some (partsP s) := by
  unfold strings_Split.f
  rw [if_pos ⟨by decide, h⟩]
  rfl
theorem partsP_len (s : ByteArray) : (partsP s).length ≤ s.size + 2 := by
  have h1 := Lib.splitB_length_le ⟨#[32]⟩ 0 (Lib.countB s ⟨#[32]⟩) s
  have h2 : Lib.countB s ⟨#[32]⟩ ≤ s.data.toList.length + 1 := Lib.count_le _ _
  rw [data_length] at h2
  unfold partsP
  omega
def parseP (s : ByteArray) : List Rg × Int := if s = ⟨#[]⟩ then ([], 0) else finishP s (parseParts (partsP s) [])
theorem CSParse_total (s : ByteArray) (h : s.size ≤ 9000) (k : Nat) (hk : 60000 ≤ k) : cpset_Parse.f k s = some (parseP s) := by
  have hl := partsP_len s
  unfold cpset_Parse.f parseP
  simp only [tl_nil]
  by_cases e : s = ⟨#[]⟩
  · rw [if_pos e, if_pos e]
  · rw [if_neg e, if_neg e, split_f (by omega), Option.bind_some]
    have := cloop s (partsP s) (fun p hp => by have := splitB_le _ _ _ p hp; omega) (by omega) 30000 (Nat.le_refl _) (partsP s).length 0 [] k (by omega) (by simp; omega) (by omega)
    simpa using this

/-! ### the reference's -/
theorem textL_nil : textL [] = ⟨#[]⟩ := rfl
end Go.Proofs.YtpnkkhichkmmmaaDoor.Q
