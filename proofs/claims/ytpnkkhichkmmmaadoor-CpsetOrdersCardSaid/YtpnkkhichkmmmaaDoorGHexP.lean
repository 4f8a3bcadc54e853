/-
  DERIVED. Parse of a code point (the program's), in plain Lean: what it computes; it reads what Hex writes.
-/
import Derived.Test.YtpnkkhichkmmmaaDoorGRef1
import Derived.Test.YtpnkkhichkmmmaaDoorGOpsF
import Derived.Test.YtpnkkhichkmmmaaDoorGQ4
namespace Go.Proofs.YtpnkkhichkmmmaaDoor.Q
set_option linter.unusedVariables false
set_option linter.unusedSimpArgs false
open Go.RowKit Go.Proofs.YtpnkkhichkmmmaaDoorW.PrintWords Go.Proofs.YtpnkkhichkmmmaaDoorW.PrintLast Go.Proofs.YtpnkkhichkmmmaaDoorW.PrintMore

theorem toList_loop (s : ByteArray) : ∀ (n i : Nat) (r : List UInt8), i + n = s.size → ByteArray.toList.loop s i r = r.reverse ++ s.data.toList.drop i
  | 0, i, r, h => by
    unfold ByteArray.toList.loop
    have h2 : s.data.toList.length ≤ i := by rw [data_length]; omega
    rw [if_neg (by omega), List.drop_eq_nil_of_le h2, List.append_nil]
  | n + 1, i, r, h => by
    have hl : i < s.data.toList.length := by rw [data_length]; omega
    unfold ByteArray.toList.loop
    rw [if_pos (by omega), toList_loop s n (i + 1) _ (by omega), List.drop_eq_getElem_cons hl]
    have e : s.get! i = s.data.toList[i] := by
      show s.data[i]! = _
      rw [getElem!_pos s.data i (by simpa using hl)]
      simp
    rw [e]
    simp
theorem tl (s : ByteArray) : s.toList = s.data.toList := by
  have := toList_loop s s.size 0 [] (by omega)
  simpa [ByteArray.toList] using this
theorem ba_inj {a b : ByteArray} (h : a.data.toList = b.data.toList) : a = b := by
  cases a; cases b; simp at h; simp [h]
theorem tl_iff {a b : ByteArray} : a.toList = b.toList ↔ a = b := by
  rw [tl, tl]
  exact ⟨ba_inj, fun h => by rw [h]⟩
theorem tl_nil {a : ByteArray} : a.toList = ([] : List UInt8) ↔ a = ⟨#[]⟩ := by
  rw [tl]
  exact ⟨fun h => ba_inj (by rw [h]), fun h => by rw [h]⟩
theorem bt_get {s : ByteArray} {i : Nat} (h : i < s.size) : bt s (i : Int) = ((s.data.toList[i]'(by rw [data_length]; exact h)).toNat : Int) := by
  unfold bt
  rw [dif_pos (by simpa using h)]
  simp only [Int.toNat_natCast, Array.getElem_toList]
  rfl

theorem CHex_total (c : Int) : codepoint_Hex.f c = some (hexB c) := rfl

def digV (b : Int) : Int := if 48 ≤ b ∧ b ≤ 57 then b - 48 else if 65 ≤ b ∧ b ≤ 70 then b - 55 else -1
def parseGo : List UInt8 → Int → Option Int
  | [], c => some c
  | b :: t, c => if digV (b.toNat : Int) < 0 then none else parseGo t (16 * c + digV (b.toNat : Int))
def parseEnd (s : ByteArray) : Option Int → Int × Int
  | none => (0, 3)
  | some c => if s ≠ ⟨#[]⟩ ∧ hexB c = s then (c, 0) else (0, 3)
def parseV (s : ByteArray) : Int × Int := if s.size > 6 then (0, 3) else parseEnd s (parseGo s.data.toList 0)
theorem byte_lt (b : UInt8) : (b.toNat : Int) < 256 := by have := b.toNat_lt; omega
theorem drop_byte {s : ByteArray} {i : Nat} (h : i < s.size) : ∃ b, s.data.toList.drop i = b :: s.data.toList.drop (i + 1) ∧ bt s (i : Int) = (b.toNat : Int) := by
  have hl : i < s.data.toList.length := by rw [data_length]; exact h
  exact ⟨s.data.toList[i], List.drop_eq_getElem_cons hl, bt_get h⟩
theorem cparse_l0 (s : ByteArray) (hs : s.size ≤ 6) : ∀ (n i : Nat) (c : Int) (k : Nat), i + n = s.size → 0 ≤ c → c < 16 ^ i → 2 * n + 1 ≤ k →
    codepoint_Parse.l0 k s c (s.size : Int) (i : Int) = some (parseEnd s (parseGo (s.data.toList.drop i) c))
  | 0, i, c, k, hi, h0, h1, hk => by
    obtain ⟨k, rfl, _⟩ := pred1 hk
    have h : ¬ ((i : Int) < (s.size : Int)) := by omega
    have hl : s.data.toList.length ≤ i := by rw [data_length]; omega
    rw [List.drop_eq_nil_of_le hl]
    simp only [codepoint_Parse.l0, if_neg h, CHex_total, Option.bind_some, parseGo, parseEnd, tl_nil, tl_iff]
    by_cases e1 : s = ⟨#[]⟩
    · rw [if_pos e1, if_neg (fun h => h.1 e1)]
    · by_cases e2 : hexB c = s
      · rw [if_neg e1, if_pos e2, if_pos ⟨e1, e2⟩]
      · rw [if_neg e1, if_neg e2, if_neg (fun h => e2 h.2)]
  | n + 1, i, c, k, hi, h0, h1, hk => by
    obtain ⟨k, rfl, _⟩ := pred1 (show (2 * n + 2) + 1 ≤ k by omega)
    obtain ⟨k, rfl, _⟩ := pred1 (show (2 * n + 1) + 1 ≤ k by omega)
    have h : (i : Int) < (s.size : Int) := by omega
    have hz : (0 : Int) ≤ (i : Int) := by omega
    obtain ⟨b, eb, ebt⟩ := drop_byte (show i < s.size by omega)
    have hb := byte_lt b
    have hb0 : (0 : Int) ≤ (b.toNat : Int) := by omega
    have hpow : (16 : Int) ^ (i + 1) = 16 ^ i * 16 := Int.pow_succ ..
    have hbig : (16 : Int) ^ i ≤ 16 ^ 6 := by
      have : ∀ x : Fin 7, (16 : Int) ^ x.1 ≤ 16 ^ 6 := by decide
      exact this ⟨i, by omega⟩
    have hw := wrap_nat (show i < 4611686018427387904 by omega)
    have hc : c < 16777216 := by omega
    have ih := fun d (h0 : 0 ≤ d) (h1 : d < 16 ^ (i + 1)) => cparse_l0 s hs n (i + 1) d k (by omega) h0 h1 (by omega)
    rw [eb]
    obtain ⟨x, ex⟩ : ∃ x : Int, (b.toNat : Int) = x := ⟨_, rfl⟩
    rw [ex] at hb hb0 ebt
    simp only [codepoint_Parse.l0, if_pos h, if_pos hz, ebt, parseGo, ex]
    have w1 : wrap64 (c * 16) = c * 16 := by unfold wrap64; omega
    by_cases c1 : x ≥ 48
    · rw [if_pos c1]
      by_cases c2 : x ≤ 57
      · have ev : digV x = x - 48 := by unfold digV; rw [if_pos ⟨c1, c2⟩]
        have w2 : wrap64 (c * 16 + (x - 48) % 256) = 16 * c + (x - 48) := by unfold wrap64; omega
        simp only [decide_eq_true c2, codepoint_Parse.j1, if_true, w1, w2, hw, ev]
        rw [if_neg (by omega)]
        exact ih _ (by omega) (by omega)
      · simp only [decide_eq_false c2, codepoint_Parse.j1, Bool.false_eq_true, if_false]
        by_cases c3 : x ≥ 65
        · by_cases c4 : x ≤ 70
          · have ev : digV x = x - 55 := by unfold digV; rw [if_neg (by omega), if_pos ⟨c3, c4⟩]
            have w2 : wrap64 (c * 16 + (x - 65) % 256) = c * 16 + (x - 65) := by unfold wrap64; omega
            have w3 : wrap64 (c * 16 + (x - 65) + 10) = 16 * c + (x - 55) := by unfold wrap64; omega
            simp only [if_pos c3, if_pos c4, w1, w2, w3, hw, ev]
            rw [if_neg (by omega)]
            exact ih _ (by omega) (by omega)
          · have ev : digV x = -1 := by unfold digV; rw [if_neg (by omega), if_neg (by omega)]
            simp only [if_pos c3, if_neg c4, ev]
            rfl
        · have ev : digV x = -1 := by unfold digV; rw [if_neg (by omega), if_neg (by omega)]
          simp only [if_neg c3, ev]
          rfl
    · have ev : digV x = -1 := by unfold digV; rw [if_neg (by omega), if_neg (by omega)]
      have c3 : ¬ x ≥ 65 := by omega
      simp only [if_neg c1, codepoint_Parse.j1, Bool.false_eq_true, if_false, if_neg c3, ev]
      rfl
theorem CParse_total (s : ByteArray) (k : Nat) (hk : 13 ≤ k) : codepoint_Parse.f k s = some (parseV s) := by
  unfold codepoint_Parse.f parseV
  by_cases h : s.size > 6
  · rw [if_pos (by omega), if_pos h]
  · rw [if_neg (by omega), if_neg h]
    have := cparse_l0 s (by omega) s.size 0 0 k (by omega) (by omega) (by decide) (by omega)
    simpa using this
end Go.Proofs.YtpnkkhichkmmmaaDoor.Q
