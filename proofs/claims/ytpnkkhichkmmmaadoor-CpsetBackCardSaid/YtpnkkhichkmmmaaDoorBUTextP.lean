/-
  DERIVED. Text of a set, in plain Lean: the program's and the reference's agree.
-/
import Derived.Test.YtpnkkhichkmmmaaDoorBUHexP
import Derived.Test.YtpnkkhichkmmmaaDoorBUQ8
import Derived.Test.YtpnkkhichkmmmaaDoorBUQ9
import Derived.Test.YtpnkkhichkmmmaaDoorBURef
import Derived.Test.YtpnkkhichkmmmaaDoorBUAlive
namespace Go.Proofs.YtpnkkhichkmmmaaDoor.Q
set_option linter.unusedVariables false
set_option linter.unusedSimpArgs false
open Go.RowKit Go.Proofs.YtpnkkhichkmmmaaDoorW.PrintWords Go.Proofs.YtpnkkhichkmmmaaDoorW.PrintLast Go.Proofs.YtpnkkhichkmmmaaDoorW.PrintMore

def pL (r : Rg) : List UInt8 := (partB r).data.toList
def textL (ys : List Rg) : ByteArray := ⟨(Lib.join (ys.map pL) [32]).toArray⟩
theorem hexB_le (c : Int) : (hexB c).size ≤ 6 := by
  by_cases h : 0 ≤ c ∧ c ≤ 1114111
  · exact (hexB_sz h).2
  · rw [hexB_bad h]; decide
theorem pL_le (r : Rg) : (pL r).length ≤ 14 := by
  unfold pL partB
  have h0 := hexB_le r.f0
  have h1 := hexB_le r.f1
  rw [← data_length] at h0 h1
  split
  · omega
  · simp only [ByteArray.data_append, Array.toList_append, List.length_append]
    have : ([46, 46] : List UInt8).length = 2 := rfl
    omega
theorem tail_len : ∀ (r : List Rg), (Lib.joinTail [32] (r.map pL)).length ≤ 15 * r.length
  | [] => by simp [Lib.joinTail]
  | x :: t => by
    have h := tail_len t
    have hx := pL_le x
    simp only [Lib.joinTail, List.map_cons, List.flatten_cons, List.length_append, List.length_cons, List.length_nil, List.map_map] at h ⊢
    omega
theorem join_len (ys : List Rg) : (Lib.join (ys.map pL) [32]).length ≤ 15 * ys.length := by
  cases ys with
  | nil => simp [Lib.join_nil]
  | cons x t =>
    rw [List.map_cons, Lib.join_cons, List.length_append]
    have h := tail_len t
    have hx := pL_le x
    simp only [List.length_cons]
    omega
theorem text_f {l : List Rg} (h : l.length ≤ 100000) : cpset_Text.f l = some (textL (makeL l)) := by
  have hm := makeL_len l
  have hj := join_len (makeL l)
  unfold cpset_Text.f strings_Join.f textL
  rw [if_pos h]
  have e : (((makeL l).map partB).map (·.data.toList)) = (makeL l).map pL := by rw [List.map_map]; rfl
  rw [e]
  have e2 : (⟨#[32]⟩ : ByteArray).data.toList = [32] := rfl
  rw [e2, if_pos ⟨by simp; omega, by omega⟩]
end Go.Proofs.YtpnkkhichkmmmaaDoor.Q
