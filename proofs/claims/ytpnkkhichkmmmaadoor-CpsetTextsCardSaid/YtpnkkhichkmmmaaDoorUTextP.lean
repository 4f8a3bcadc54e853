/-
  DERIVED. Text of a set, in plain Lean: the program's and the reference's agree.
-/
import Derived.Test.YtpnkkhichkmmmaaDoorUHexR
import Derived.Test.YtpnkkhichkmmmaaDoorURef
import Derived.Test.YtpnkkhichkmmmaaDoorUAlive
import Derived.Test.YtpnkkhichkmmmaaDoorUQ8
namespace Go.Proofs.YtpnkkhichkmmmaaDoor.Q
set_option linter.unusedVariables false
set_option linter.unusedSimpArgs false
open Go.RowKit Go.Proofs.YtpnkkhichkmmmaaDoorW.PrintWords Go.Proofs.YtpnkkhichkmmmaaDoorW.PrintLast Go.Proofs.YtpnkkhichkmmmaaDoorW.PrintMore

def pL (r : Rg) : List UInt8 := (partB r).data.toList
def textL (ys : List Rg) : ByteArray := ⟨(Lib.join (ys.map pL) [32]).toArray⟩
theorem hexB_le (c : Int) : (hexB c).size ≤ 6 := by
  by_cases h : 0 ≤ c ∧ c ≤ 1114111
  · exact (hexB_sz h).2
  · rw [hexB_bad h]; decide
theorem pL_le (r : Rg) : (pL r).length ≤ 14 := by
  unfold pL partB
  have h0 := hexB_le r.f0
  have h1 := hexB_le r.f1
  rw [← data_length] at h0 h1
  split
  · omega
  · simp only [ByteArray.data_append, Array.toList_append, List.length_append]
    have : ([46, 46] : List UInt8).length = 2 := rfl
    omega
theorem tail_len : ∀ (r : List Rg), (Lib.joinTail [32] (r.map pL)).length ≤ 15 * r.length
  | [] => by simp [Lib.joinTail]
  | x :: t => by
    have h := tail_len t
    have hx := pL_le x
    simp only [Lib.joinTail, List.map_cons, List.flatten_cons, List.length_append, List.length_cons, List.length_nil, List.map_map] at h ⊢
    omega
theorem join_len (ys : List Rg) : (Lib.join (ys.map pL) [32]).length ≤ 15 * ys.length := by
  cases ys with
  | nil => simp [Lib.join_nil]
  | cons x t =>
    rw [List.map_cons, Lib.join_cons, List.length_append]
    have h := tail_len t
    have hx := pL_le x
    simp only [List.length_cons]
    omega
theorem text_f {l : List Rg} (h : l.length ≤ 100000) : cpset_Text.f l = some (textL (makeL l)) := by
  have hm := makeL_len l
  have hj := join_len (makeL l)
  unfold cpset_Text.f strings_Join.f textL
  rw [if_pos h]
  have e : (((makeL l).map partB).map (·.data.toList)) = (makeL l).map pL := by rw [List.map_map]; rfl
  rw [e]
  have e2 : (⟨#[32]⟩ : ByteArray).data.toList = [32] := rfl
  rw [e2, if_pos ⟨by simp; omega, by omega⟩]
theorem rtext_step (ys : List Rg) (acc : ByteArray) (i k : Nat) (hi : i < ys.length) (hl : ys.length ≤ 1000000) (ha : acc.size ≤ 1000000000) (hk : 10 ≤ k) :
    unicodetextref02_Text.j1 (k + 1) acc (i : Int) ys = unicodetextref02_Text.l0 k (acc ++ partB (ys.getD i z43)) ((i + 1 : Nat) : Int) ys := by
  have h1 : (i : Int) < (ys.length : Int) := by omega
  have h0 : (0 : Int) ≤ (i : Int) := by omega
  simp only [unicodetextref02_Text.j1, if_pos h1, if_pos h0, rd_R, wrap_nat (show i < 4611686018427387904 by omega), RHex_total _ k (show 8 ≤ k by omega), Option.bind_some]
  generalize ys.getD i z43 = r
  have s0 := hexB_le r.f0
  have s1 := hexB_le r.f1
  have d2 : (⟨#[46, 46]⟩ : ByteArray).size = 2 := rfl
  rw [if_pos (by omega)]
  unfold partB
  by_cases e : r.f1 = r.f0
  · rw [if_pos e, if_pos e]
  · rw [if_neg e, if_neg e, if_pos (by simp only [ByteArray.size_append]; omega), if_pos (by simp only [ByteArray.size_append]; omega), ByteArray.append_assoc, ByteArray.append_assoc]
theorem rtext_tail (ys : List Rg) (hl : ys.length ≤ 1000000) : ∀ (n i : Nat) (acc : ByteArray) (k : Nat), i + n = ys.length → 1 ≤ i → acc.size + 15 * n ≤ 100000000 → 2 * n + 20 ≤ k →
    unicodetextref02_Text.l0 k acc (i : Int) ys = some ⟨(acc.data.toList ++ Lib.joinTail [32] ((ys.drop i).map pL)).toArray⟩
  | 0, i, acc, k, hi, h1, ha, hk => by
    obtain ⟨k, rfl, _⟩ := pred1 (show 19 + 1 ≤ k by omega)
    have h : ¬ ((i : Int) < (ys.length : Int)) := by omega
    rw [List.drop_eq_nil_of_le (show ys.length ≤ i by omega)]
    simp only [unicodetextref02_Text.l0, if_neg h]
    simp [Lib.joinTail]
  | n + 1, i, acc, k, hi, h1, ha, hk => by
    obtain ⟨k, rfl, _⟩ := pred1 (show (2 * n + 21) + 1 ≤ k by omega)
    obtain ⟨k, rfl, _⟩ := pred1 (show (2 * n + 20) + 1 ≤ k by omega)
    have h : (i : Int) < (ys.length : Int) := by omega
    have hp : (i : Int) > 0 := by omega
    have d1 : (⟨#[32]⟩ : ByteArray).size = 1 := rfl
    have hpl := pL_le (ys.getD i z43)
    have e1 : (acc ++ (⟨#[32]⟩ : ByteArray)).size = acc.size + 1 := by rw [ByteArray.size_append, d1]
    have e2 : (acc ++ (⟨#[32]⟩ : ByteArray) ++ partB (ys.getD i z43)).size ≤ acc.size + 15 := by
      rw [ByteArray.size_append, e1]
      have : (partB (ys.getD i z43)).size ≤ 14 := by rw [← data_length]; exact hpl
      omega
    have ih := rtext_tail ys hl n (i + 1) (acc ++ (⟨#[32]⟩ : ByteArray) ++ partB (ys.getD i z43)) k (by omega) (by omega) (by omega) (by omega)
    simp only [unicodetextref02_Text.l0, if_pos h, if_pos hp]
    rw [if_pos (by omega), rtext_step ys _ i k (by omega) hl (by omega) (by omega), ih, getD_drop (show i < ys.length by omega)]
    simp only [Lib.joinTail, List.map_cons, List.flatten_cons, ByteArray.data_append, Array.toList_append, pL]
    simp
theorem RText_total (l : List Rg) (h : l.length ≤ 1000) (k : Nat) (hk : 300000 ≤ k) : unicodetextref02_Text.f k l = some (textL (makeL l)) := by
  have hm := makeL_len l
  unfold unicodetextref02_Text.f textL
  rw [RMake_total l h k hk, Option.bind_some]
  obtain ⟨k, rfl, _⟩ := pred1 (show 299999 + 1 ≤ k by omega)
  obtain ⟨ys, hy⟩ : ∃ ys, makeL l = ys := ⟨_, rfl⟩
  rw [hy] at hm ⊢
  cases ys with
  | nil => simp [unicodetextref02_Text.l0, Lib.join_nil]
  | cons r t =>
    obtain ⟨k, rfl, _⟩ := pred1 (show 299998 + 1 ≤ k by omega)
    have h1 : (0 : Int) < ((r :: t).length : Int) := by rw [List.length_cons]; omega
    have hpl := pL_le r
    have st := rtext_step (r :: t) ⟨#[]⟩ 0 k (by simp) (by omega) (by decide) (by omega)
    have e0 : (⟨#[]⟩ : ByteArray) ++ partB r = partB r := ba_inj (by simp [ByteArray.data_append])
    rw [show ((0 : Nat) : Int) = 0 from rfl, List.getD_cons_zero, e0] at st
    have hs : (partB r).size ≤ 14 := by rw [← data_length]; exact hpl
    have tail := rtext_tail (r :: t) (by omega) t.length 1 (partB r) k (by simp; omega) (Nat.le_refl _) (by simp at hm; omega) (by simp at hm; omega)
    simp only [unicodetextref02_Text.l0, if_pos h1]
    rw [if_neg (by decide), st, tail, List.map_cons, Lib.join_cons]
    rfl
end Go.Proofs.YtpnkkhichkmmmaaDoor.Q
