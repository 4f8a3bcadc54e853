/-
  DERIVED. Hex and Parse of a code point (the reference's), in plain Lean: they are the program's.
-/
import Derived.Test.YtpnkkhichkmmmaaDoorUHexP
import Derived.Test.YtpnkkhichkmmmaaDoorUQ8
import Derived.Test.YtpnkkhichkmmmaaDoorUQ9
namespace Go.Proofs.YtpnkkhichkmmmaaDoor.Q
set_option linter.unusedVariables false
set_option linter.unusedSimpArgs false
open Go.RowKit Go.Proofs.YtpnkkhichkmmmaaDoorW.PrintWords Go.Proofs.YtpnkkhichkmmmaaDoorW.PrintLast Go.Proofs.YtpnkkhichkmmmaaDoorW.PrintMore

theorem digs (d : Nat) (h : d < 16) : (⟨#[48, 49, 50, 51, 52, 53, 54, 55, 56, 57, 65, 66, 67, 68, 69, 70]⟩ : ByteArray).extract d (d + 1) = ⟨#[hexDig d]⟩ := by
  have : ∀ d : Fin 16, (⟨#[48, 49, 50, 51, 52, 53, 54, 55, 56, 57, 65, 66, 67, 68, 69, 70]⟩ : ByteArray).extract d.1 (d.1 + 1) = ⟨#[hexDig d.1]⟩ := by decide +kernel
  exact this ⟨d, h⟩
theorem one_app (b : UInt8) (s : ByteArray) : ((⟨#[b]⟩ : ByteArray) ++ s).data.toList = b :: s.data.toList := by simp [ByteArray.data_append]
theorem rhex_l0 : ∀ (f c : Nat) (acc : ByteArray) (k : Nat), c < 16 ^ f → 4 ≤ acc.size + f → acc.size + f ≤ 1000 → c ≤ 1114111 → f + 1 ≤ k →
    unicodetextref01_Hex.l0 k (c : Int) acc = some ⟨(hexL f c acc.data.toList).toArray⟩
  | 0, c, acc, k, hc, ha, hb, _, hk => by
    obtain ⟨k, rfl, _⟩ := pred1 hk
    have h1 : ¬ ((acc.size : Int) < 4) := by omega
    have h2 : ¬ ((c : Int) > 0) := by omega
    simp only [unicodetextref01_Hex.l0, if_neg h1, if_neg h2, hexL]
  | f + 1, c, acc, k, hc, ha, hb, hm, hk => by
    obtain ⟨k, rfl, _⟩ := pred1 hk
    have hcf : c / 16 < 16 ^ f := by
      have : 16 ^ (f + 1) = 16 ^ f * 16 := Nat.pow_succ ..
      omega
    have ht : Int.tmod (c : Int) 16 = ((c % 16 : Nat) : Int) := rfl
    have hd : Int.tdiv (c : Int) 16 = ((c / 16 : Nat) : Int) := rfl
    have h0 : (0 : Int) ≤ ((c % 16 : Nat) : Int) := by omega
    have hw : wrap64 (((c % 16 : Nat) : Int) + 1) = ((c % 16 + 1 : Nat) : Int) := by unfold wrap64; omega
    have h3 : ((c % 16 : Nat) : Int) ≤ ((c % 16 + 1 : Nat) : Int) := by omega
    have h4 : ((c % 16 + 1 : Nat) : Int) ≤ 16 := by omega
    have hw2 : wrap64 ((c / 16 : Nat) : Int) = ((c / 16 : Nat) : Int) := by unfold wrap64; omega
    have he : (⟨#[48, 49, 50, 51, 52, 53, 54, 55, 56, 57, 65, 66, 67, 68, 69, 70]⟩ : ByteArray).extract (((c % 16 : Nat) : Int)).toNat (((c % 16 + 1 : Nat) : Int)).toNat = ⟨#[hexDig (c % 16)]⟩ := by
      rw [Int.toNat_natCast, Int.toNat_natCast]; exact digs _ (Nat.mod_lt _ (by decide))
    have hs : ((⟨#[hexDig (c % 16)]⟩ : ByteArray)).size + acc.size ≤ 9223372036854775807 := by
      have : ((⟨#[hexDig (c % 16)]⟩ : ByteArray)).size = 1 := rfl
      omega
    have hs2 : ((⟨#[hexDig (c % 16)]⟩ : ByteArray) ++ acc).size = acc.size + 1 := by
      have : ((⟨#[hexDig (c % 16)]⟩ : ByteArray)).size = 1 := rfl
      rw [ByteArray.size_append]; omega
    have ih := rhex_l0 f (c / 16) ((⟨#[hexDig (c % 16)]⟩ : ByteArray) ++ acc) k hcf (by omega) (by omega) (by omega) (by omega)
    rw [one_app] at ih
    simp only [unicodetextref01_Hex.l0, ht, hd, hw, he, hw2, if_pos h0, if_pos h3, if_pos h4, if_pos hs, ih]
    rw [hexL_succ, data_length]
    by_cases h1 : (acc.size : Int) < 4
    · rw [if_pos h1, if_pos (by omega)]
    · by_cases h2 : (c : Int) > 0
      · rw [if_neg h1, if_pos h2, if_pos (by omega)]
      · rw [if_neg h1, if_neg h2, if_neg (by omega)]
theorem RHex_total (c : Int) (k : Nat) (hk : 8 ≤ k) : unicodetextref01_Hex.f k c = some (hexB c) := by
  unfold unicodetextref01_Hex.f
  rw [Valid_f, Option.bind_some]
  unfold validI hexB
  by_cases h : 0 ≤ c ∧ c ≤ 1114111
  · rw [if_pos (by simpa using h), if_pos h]
    have := rhex_l0 7 c.toNat ⟨#[]⟩ k (by omega) (by decide) (by decide) (by omega) hk
    rw [Int.toNat_of_nonneg h.1] at this
    exact this
  · rw [if_neg (by simpa using h), if_neg h]
def digT : List Int := [48, 49, 50, 51, 52, 53, 54, 55, 56, 57, 65, 66, 67, 68, 69, 70]
def digFrom (b : Int) : Nat → Nat → Int
  | 0, _ => -1
  | n + 1, i => if digT.getD i 0 = b then (i : Int) else digFrom b n (i + 1)
theorem digFrom_V (b : Int) (h0 : 0 ≤ b) (h1 : b < 256) : digFrom b 16 0 = digV b := by
  have : ∀ x : Fin 256, digFrom (x.1 : Int) 16 0 = digV (x.1 : Int) := by decide +kernel
  have h := this ⟨b.toNat, by omega⟩
  simp only [Int.toNat_of_nonneg h0] at h
  exact h
theorem bt_dig (i : Nat) (h : i < 16) : bt (⟨#[48, 49, 50, 51, 52, 53, 54, 55, 56, 57, 65, 66, 67, 68, 69, 70]⟩ : ByteArray) (i : Int) = digT.getD i 0 := by
  have : ∀ x : Fin 16, bt (⟨#[48, 49, 50, 51, 52, 53, 54, 55, 56, 57, 65, 66, 67, 68, 69, 70]⟩ : ByteArray) (x.1 : Int) = digT.getD x.1 0 := by decide +kernel
  exact this ⟨i, h⟩
theorem digit_l0 (b : Int) : ∀ (n i k : Nat), i + n = 16 → n + 1 ≤ k → unicodetextref01_digit.l0 k b (i : Int) = some (digFrom b n i)
  | 0, i, k, hi, hk => by
    obtain ⟨k, rfl, _⟩ := pred1 hk
    have h : ¬ ((i : Int) < 16) := by omega
    simp only [unicodetextref01_digit.l0, if_neg h, digFrom]
  | n + 1, i, k, hi, hk => by
    obtain ⟨k, rfl, _⟩ := pred1 hk
    have h : (i : Int) < 16 := by omega
    have h0 : (0 : Int) ≤ (i : Int) := by omega
    have ih := digit_l0 b n (i + 1) k (by omega) (by omega)
    simp only [unicodetextref01_digit.l0, if_pos h, if_pos h0, bt_dig i (by omega), wrap_nat (show i < 4611686018427387904 by omega), ih, digFrom]
    split <;> rfl
theorem digit_total (b : Int) (h0 : 0 ≤ b) (h1 : b < 256) (k : Nat) (hk : 17 ≤ k) : unicodetextref01_digit.f k b = some (digV b) := by
  have := digit_l0 b 16 0 k (by omega) hk
  rw [digFrom_V b h0 h1] at this
  exact this

theorem rparse_l0 (s : ByteArray) (hs : s.size ≤ 6) (h4 : 4 ≤ s.size) : ∀ (n i : Nat) (c : Int) (k : Nat), i + n = s.size → 0 ≤ c → c < 16 ^ i → n + 20 ≤ k →
    unicodetextref01_Parse.l0 k s c (i : Int) = some (parseEnd s (parseGo (s.data.toList.drop i) c))
  | 0, i, c, k, hi, h0, h1, hk => by
    obtain ⟨k, rfl, _⟩ := pred1 (show 19 + 1 ≤ k by omega)
    have h : ¬ ((i : Int) < (s.size : Int)) := by omega
    have hl : s.data.toList.length ≤ i := by rw [data_length]; omega
    rw [List.drop_eq_nil_of_le hl]
    have e1 : s ≠ ⟨#[]⟩ := fun e => by
      have : s.size = 0 := by rw [e]; rfl
      omega
    simp only [unicodetextref01_Parse.l0, if_neg h, RHex_total c k (by omega), Option.bind_some, parseGo, parseEnd, tl_iff]
    by_cases e2 : hexB c = s
    · rw [if_pos e2, if_pos ⟨e1, e2⟩]
    · rw [if_neg e2, if_neg (fun h => e2 h.2)]
  | n + 1, i, c, k, hi, h0, h1, hk => by
    obtain ⟨k, rfl, _⟩ := pred1 (show (n + 20) + 1 ≤ k by omega)
    have h : (i : Int) < (s.size : Int) := by omega
    have hz : (0 : Int) ≤ (i : Int) := by omega
    obtain ⟨b, eb, ebt⟩ := drop_byte (show i < s.size by omega)
    have hb := byte_lt b
    have hb0 : (0 : Int) ≤ (b.toNat : Int) := by omega
    have hpow : (16 : Int) ^ (i + 1) = 16 ^ i * 16 := Int.pow_succ ..
    have hbig : (16 : Int) ^ i ≤ 16 ^ 6 := by
      have : ∀ x : Fin 7, (16 : Int) ^ x.1 ≤ 16 ^ 6 := by decide
      exact this ⟨i, by omega⟩
    have hw := wrap_nat (show i < 4611686018427387904 by omega)
    have hc : c < 16777216 := by omega
    have ih := fun d (h0 : 0 ≤ d) (h1 : d < 16 ^ (i + 1)) => rparse_l0 s hs h4 n (i + 1) d k (by omega) h0 h1 (by omega)
    rw [eb]
    obtain ⟨x, ex⟩ : ∃ x : Int, (b.toNat : Int) = x := ⟨_, rfl⟩
    rw [ex] at hb hb0 ebt
    have hd := digit_total x hb0 hb k (by omega)
    have hdl := digV_le x
    simp only [unicodetextref01_Parse.l0, if_pos h, if_pos hz, ebt, parseGo, ex, hd, Option.bind_some]
    by_cases hn : digV x < 0
    · simp only [if_pos hn]; rfl
    · have w1 : wrap64 (16 * c) = 16 * c := by unfold wrap64; omega
      have w2 : wrap64 (16 * c + digV x) = 16 * c + digV x := by unfold wrap64; omega
      simp only [if_neg hn, w1, w2, hw]
      exact ih _ (by omega) (by omega)
theorem RParse_total (s : ByteArray) (k : Nat) (hk : 30 ≤ k) : unicodetextref01_Parse.f k s = some (parseV s) := by
  obtain ⟨k, rfl, _⟩ := pred1 (show 29 + 1 ≤ k by omega)
  unfold unicodetextref01_Parse.f parseV
  by_cases h4 : s.size < 4
  · rw [if_pos (by omega), if_neg (by omega)]
    simp only [unicodetextref01_Parse.j0, if_true]
    cases parseGo s.data.toList 0 with
    | none => rfl
    | some c =>
      simp only [parseEnd]
      rw [if_neg]
      rintro ⟨h1, h2⟩
      by_cases hv : 0 ≤ c ∧ c ≤ 1114111
      · have := hexB_sz hv
        rw [h2] at this
        omega
      · exact h1 (h2.symm.trans (hexB_bad hv))
  · rw [if_neg (by omega)]
    by_cases h : s.size > 6
    · have : ((s.size : Int) > 6) := by omega
      simp only [decide_eq_true this, unicodetextref01_Parse.j0, if_true, if_pos h]
    · have : ¬ ((s.size : Int) > 6) := by omega
      simp only [decide_eq_false this, unicodetextref01_Parse.j0, Bool.false_eq_true, if_false, if_neg h]
      have := rparse_l0 s (by omega) (by omega) s.size 0 0 k (by omega) (by omega) (by decide) (by omega)
      simpa using this
end Go.Proofs.YtpnkkhichkmmmaaDoor.Q
