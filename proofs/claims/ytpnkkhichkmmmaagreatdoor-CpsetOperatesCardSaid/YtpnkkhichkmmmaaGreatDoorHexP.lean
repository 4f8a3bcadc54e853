/-
  DERIVED. Parse of a code point (the program's), in plain Lean: what it computes; it reads what Hex writes.
-/
import Derived.Test.YtpnkkhichkmmmaaGreatDoorRef1
import Derived.Test.YtpnkkhichkmmmaaGreatDoorOpsF
import Derived.Test.YtpnkkhichkmmmaaGreatDoorQ4
namespace Go.Proofs.YtpnkkhichkmmmaaGreatDoor.Q
set_option linter.unusedVariables false
set_option linter.unusedSimpArgs false
open Go.RowKit Go.Proofs.YtpnkkhichkmmmaaGreatDoorW.PrintWords Go.Proofs.YtpnkkhichkmmmaaGreatDoorW.PrintLast Go.Proofs.YtpnkkhichkmmmaaGreatDoorW.PrintMore

theorem toList_loop (s : ByteArray) : ∀ (n i : Nat) (r : List UInt8), i + n = s.size → ByteArray.toList.loop s i r = r.reverse ++ s.data.toList.drop i
  | 0, i, r, h => by
    unfold ByteArray.toList.loop
    have h2 : s.data.toList.length ≤ i := by rw [data_length]; omega
    rw [if_neg (by omega), List.drop_eq_nil_of_le h2, List.append_nil]
  | n + 1, i, r, h => by
    have hl : i < s.data.toList.length := by rw [data_length]; omega
    unfold ByteArray.toList.loop
    rw [if_pos (by omega), toList_loop s n (i + 1) _ (by omega), List.drop_eq_getElem_cons hl]
    have e : s.get! i = s.data.toList[i] := by
      show s.data[i]! = _
      rw [getElem!_pos s.data i (by simpa using hl)]
      simp
    rw [e]
    simp
theorem tl (s : ByteArray) : s.toList = s.data.toList := by
  have := toList_loop s s.size 0 [] (by omega)
  simpa [ByteArray.toList] using this
theorem ba_inj {a b : ByteArray} (h : a.data.toList = b.data.toList) : a = b := by
  cases a; cases b; simp at h; simp [h]
theorem tl_iff {a b : ByteArray} : a.toList = b.toList ↔ a = b := by
  rw [tl, tl]
  exact ⟨ba_inj, fun h => by rw [h]⟩
theorem tl_nil {a : ByteArray} : a.toList = ([] : List UInt8) ↔ a = ⟨#[]⟩ := by
  rw [tl]
  exact ⟨fun h => ba_inj (by rw [h]), fun h => by rw [h]⟩
theorem bt_get {s : ByteArray} {i : Nat} (h : i < s.size) : bt s (i : Int) = ((s.data.toList[i]'(by rw [data_length]; exact h)).toNat : Int) := by
  unfold bt
  rw [dif_pos (by simpa using h)]
  simp only [Int.toNat_natCast, Array.getElem_toList]
  rfl

theorem hexL_succ (f c : Nat) (acc : List UInt8) : hexL (f + 1) c acc = if 0 < c ∨ acc.length < 4 then hexL f (c / 16) (hexDig (c % 16) :: acc) else acc := rfl
theorem hexB_bad {c : Int} (h : ¬ (0 ≤ c ∧ c ≤ 1114111)) : hexB c = ⟨#[]⟩ := by unfold hexB; rw [if_neg h]
theorem hexB_ok {c : Int} (h : 0 ≤ c ∧ c ≤ 1114111) : (hexB c).data.toList = hexL 7 c.toNat [] := by unfold hexB; rw [if_pos h]
theorem CHex_total (c : Int) : codepoint_Hex.f c = some (hexB c) := rfl

def digV (b : Int) : Int := if 48 ≤ b ∧ b ≤ 57 then b - 48 else if 65 ≤ b ∧ b ≤ 70 then b - 55 else -1
def parseGo : List UInt8 → Int → Option Int
  | [], c => some c
  | b :: t, c => if digV (b.toNat : Int) < 0 then none else parseGo t (16 * c + digV (b.toNat : Int))
def parseEnd (s : ByteArray) : Option Int → Int × Int
  | none => (0, 3)
  | some c => if s ≠ ⟨#[]⟩ ∧ hexB c = s then (c, 0) else (0, 3)
def parseV (s : ByteArray) : Int × Int := if s.size > 6 then (0, 3) else parseEnd s (parseGo s.data.toList 0)
theorem digV_le (b : Int) : digV b ≤ 15 := by unfold digV; split; omega; split <;> omega
theorem byte_lt (b : UInt8) : (b.toNat : Int) < 256 := by have := b.toNat_lt; omega
theorem drop_byte {s : ByteArray} {i : Nat} (h : i < s.size) : ∃ b, s.data.toList.drop i = b :: s.data.toList.drop (i + 1) ∧ bt s (i : Int) = (b.toNat : Int) := by
  have hl : i < s.data.toList.length := by rw [data_length]; exact h
  exact ⟨s.data.toList[i], List.drop_eq_getElem_cons hl, bt_get h⟩
theorem cparse_l0 (s : ByteArray) (hs : s.size ≤ 6) : ∀ (n i : Nat) (c : Int) (k : Nat), i + n = s.size → 0 ≤ c → c < 16 ^ i → 2 * n + 1 ≤ k →
    codepoint_Parse.l0 k s c (s.size : Int) (i : Int) = some (parseEnd s (parseGo (s.data.toList.drop i) c))
  | 0, i, c, k, hi, h0, h1, hk => by
    obtain ⟨k, rfl, _⟩ := pred1 hk
    have h : ¬ ((i : Int) < (s.size : Int)) := by omega
    have hl : s.data.toList.length ≤ i := by rw [data_length]; omega
    rw [List.drop_eq_nil_of_le hl]
    simp only [codepoint_Parse.l0, if_neg h, CHex_total, Option.bind_some, parseGo, parseEnd, tl_nil, tl_iff]
    by_cases e1 : s = ⟨#[]⟩
    · rw [if_pos e1, if_neg (fun h => h.1 e1)]
    · by_cases e2 : hexB c = s
      · rw [if_neg e1, if_pos e2, if_pos ⟨e1, e2⟩]
      · rw [if_neg e1, if_neg e2, if_neg (fun h => e2 h.2)]
  | n + 1, i, c, k, hi, h0, h1, hk => by
    obtain ⟨k, rfl, _⟩ := pred1 (show (2 * n + 2) + 1 ≤ k by omega)
    obtain ⟨k, rfl, _⟩ := pred1 (show (2 * n + 1) + 1 ≤ k by omega)
    have h : (i : Int) < (s.size : Int) := by omega
    have hz : (0 : Int) ≤ (i : Int) := by omega
    obtain ⟨b, eb, ebt⟩ := drop_byte (show i < s.size by omega)
    have hb := byte_lt b
    have hb0 : (0 : Int) ≤ (b.toNat : Int) := by omega
    have hpow : (16 : Int) ^ (i + 1) = 16 ^ i * 16 := Int.pow_succ ..
    have hbig : (16 : Int) ^ i ≤ 16 ^ 6 := by
      have : ∀ x : Fin 7, (16 : Int) ^ x.1 ≤ 16 ^ 6 := by decide
      exact this ⟨i, by omega⟩
    have hw := wrap_nat (show i < 4611686018427387904 by omega)
    have hc : c < 16777216 := by omega
    have ih := fun d (h0 : 0 ≤ d) (h1 : d < 16 ^ (i + 1)) => cparse_l0 s hs n (i + 1) d k (by omega) h0 h1 (by omega)
    rw [eb]
    obtain ⟨x, ex⟩ : ∃ x : Int, (b.toNat : Int) = x := ⟨_, rfl⟩
    rw [ex] at hb hb0 ebt
    simp only [codepoint_Parse.l0, if_pos h, if_pos hz, ebt, parseGo, ex]
    have w1 : wrap64 (c * 16) = c * 16 := by unfold wrap64; omega
    by_cases c1 : x ≥ 48
    · rw [if_pos c1]
      by_cases c2 : x ≤ 57
      · have ev : digV x = x - 48 := by unfold digV; rw [if_pos ⟨c1, c2⟩]
        have w2 : wrap64 (c * 16 + (x - 48) % 256) = 16 * c + (x - 48) := by unfold wrap64; omega
        simp only [decide_eq_true c2, codepoint_Parse.j1, if_true, w1, w2, hw, ev]
        rw [if_neg (by omega)]
        exact ih _ (by omega) (by omega)
      · simp only [decide_eq_false c2, codepoint_Parse.j1, Bool.false_eq_true, if_false]
        by_cases c3 : x ≥ 65
        · by_cases c4 : x ≤ 70
          · have ev : digV x = x - 55 := by unfold digV; rw [if_neg (by omega), if_pos ⟨c3, c4⟩]
            have w2 : wrap64 (c * 16 + (x - 65) % 256) = c * 16 + (x - 65) := by unfold wrap64; omega
            have w3 : wrap64 (c * 16 + (x - 65) + 10) = 16 * c + (x - 55) := by unfold wrap64; omega
            simp only [if_pos c3, if_pos c4, w1, w2, w3, hw, ev]
            rw [if_neg (by omega)]
            exact ih _ (by omega) (by omega)
          · have ev : digV x = -1 := by unfold digV; rw [if_neg (by omega), if_neg (by omega)]
            simp only [if_pos c3, if_neg c4, ev]
            rfl
        · have ev : digV x = -1 := by unfold digV; rw [if_neg (by omega), if_neg (by omega)]
          simp only [if_neg c3, ev]
          rfl
    · have ev : digV x = -1 := by unfold digV; rw [if_neg (by omega), if_neg (by omega)]
      have c3 : ¬ x ≥ 65 := by omega
      simp only [if_neg c1, codepoint_Parse.j1, Bool.false_eq_true, if_false, if_neg c3, ev]
      rfl
theorem CParse_total (s : ByteArray) (k : Nat) (hk : 13 ≤ k) : codepoint_Parse.f k s = some (parseV s) := by
  unfold codepoint_Parse.f parseV
  by_cases h : s.size > 6
  · rw [if_pos (by omega), if_pos h]
  · rw [if_neg (by omega), if_neg h]
    have := cparse_l0 s (by omega) s.size 0 0 k (by omega) (by omega) (by decide) (by omega)
    simpa using this
theorem hexL_ge : ∀ (f c : Nat) (acc : List UInt8), 4 ≤ acc.length + f → 4 ≤ (hexL f c acc).length
  | 0, c, acc, h => by simpa [hexL] using h
  | f + 1, c, acc, h => by
    unfold hexL
    split
    · exact hexL_ge f _ _ (by simp; omega)
    · omega
theorem hexL_le : ∀ (f m c : Nat) (acc : List UInt8), c < 16 ^ m → acc.length + m ≤ 6 → (hexL f c acc).length ≤ 6
  | 0, m, c, acc, h, h2 => by simp [hexL]; omega
  | f + 1, m, c, acc, h, h2 => by
    unfold hexL
    split
    · cases m with
      | zero => exact hexL_le f 0 _ _ (by simp at h ⊢; omega) (by simp; omega)
      | succ m =>
        have : 16 ^ (m + 1) = 16 ^ m * 16 := Nat.pow_succ ..
        exact hexL_le f m _ _ (by omega) (by simp; omega)
    · omega
theorem hexB_sz {c : Int} (h : 0 ≤ c ∧ c ≤ 1114111) : 4 ≤ (hexB c).size ∧ (hexB c).size ≤ 6 := by
  rw [← data_length, hexB_ok h]
  exact ⟨hexL_ge 7 _ [] (by simp), hexL_le 7 6 _ [] (by omega) (by simp)⟩
/-- What Hex writes, Parse reads. -/
theorem hexDig_V (d : Nat) (h : d < 16) : digV ((hexDig d).toNat : Int) = (d : Int) := by
  have : ∀ x : Fin 16, digV ((hexDig x.1).toNat : Int) = (x.1 : Int) := by decide +kernel
  exact this ⟨d, h⟩
theorem parse_hexL : ∀ (f c : Nat) (acc : List UInt8), c < 16 ^ f → parseGo (hexL f c acc) 0 = parseGo acc (c : Int)
  | 0, c, acc, h => by
    have : c = 0 := by simpa using h
    subst this; rfl
  | f + 1, c, acc, h => by
    unfold hexL
    split
    · have e : 16 ^ (f + 1) = 16 ^ f * 16 := Nat.pow_succ ..
      rw [parse_hexL f (c / 16) _ (by omega), parseGo, hexDig_V _ (Nat.mod_lt _ (by decide)), if_neg (by omega)]
      congr 1
      omega
    · have : c = 0 := by omega
      subst this; rfl
theorem parseV_hexB {c : Int} (h : 0 ≤ c ∧ c ≤ 1114111) : parseV (hexB c) = (c, 0) := by
  have hs := hexB_sz h
  unfold parseV
  rw [if_neg (by omega), hexB_ok h, parse_hexL 7 _ _ (by omega), parseGo, parseEnd, Int.toNat_of_nonneg h.1, if_pos]
  refine ⟨fun e => ?_, rfl⟩
  have : (hexB c).size = 0 := by rw [e]; rfl
  omega
theorem hexL_bytes {P : UInt8 → Prop} (hP : ∀ d : Nat, d < 16 → P (hexDig d)) : ∀ (f c : Nat) (acc : List UInt8), (∀ b ∈ acc, P b) → ∀ b ∈ hexL f c acc, P b
  | 0, c, acc, h => by simpa [hexL] using h
  | f + 1, c, acc, h => by
    unfold hexL
    split
    · exact hexL_bytes hP f _ _ (fun b hb => by
        rcases List.mem_cons.1 hb with rfl | hb
        · exact hP _ (Nat.mod_lt _ (by decide))
        · exact h b hb)
    · exact h
theorem hexB_no (c : Int) (x : UInt8) (hx : ∀ d : Nat, d < 16 → hexDig d ≠ x) : x ∉ (hexB c).data.toList := by
  by_cases h : 0 ≤ c ∧ c ≤ 1114111
  · rw [hexB_ok h]
    exact fun hm => hexL_bytes (P := fun b => b ≠ x) hx 7 _ [] (by simp) x hm rfl
  · rw [hexB_bad h]; simp
theorem dig_ne (x : UInt8) (h : x = 32 ∨ x = 46) (d : Nat) (hd : d < 16) : hexDig d ≠ x := by
  have : ∀ y : Fin 16, hexDig y.1 ≠ 32 ∧ hexDig y.1 ≠ 46 := by decide +kernel
  rcases h with rfl | rfl
  · exact (this ⟨d, hd⟩).1
  · exact (this ⟨d, hd⟩).2
end Go.Proofs.YtpnkkhichkmmmaaGreatDoor.Q
