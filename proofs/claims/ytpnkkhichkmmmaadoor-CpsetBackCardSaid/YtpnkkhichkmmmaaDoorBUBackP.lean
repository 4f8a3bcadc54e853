/-
  DERIVED. Parse reads what Text writes, in plain Lean; so the program's Parse is the reference's.
-/
import Derived.Test.YtpnkkhichkmmmaaDoorBUParseP
namespace Go.Proofs.YtpnkkhichkmmmaaDoor.Q
set_option linter.unusedVariables false
set_option linter.unusedSimpArgs false
open Go.RowKit Go.Proofs.YtpnkkhichkmmmaaDoorW.PrintWords Go.Proofs.YtpnkkhichkmmmaaDoorW.PrintLast Go.Proofs.YtpnkkhichkmmmaaDoorW.PrintMore

/-! ### where a piece stands -/
theorem idx_hit (x : UInt8) (xs r : List UInt8) : ∀ p : List UInt8, x ∉ p → Lib.index (p ++ ((x :: xs) ++ r)) (x :: xs) = (p.length : Int)
  | [], _ => by
    show Lib.index (x :: (xs ++ r)) (x :: xs) = 0
    have : (x :: xs).isPrefixOf (x :: (xs ++ r)) = true := by simp [List.isPrefixOf_iff_prefix]
    unfold Lib.index
    rw [if_pos this]
  | b :: p, h => by
    have hb : x ≠ b := fun e => h (by simp [e])
    have hp : x ∉ p := fun e => h (by simp [e])
    have ih := idx_hit x xs r p hp
    have hn : ¬ ((x :: xs).isPrefixOf (b :: (p ++ ((x :: xs) ++ r))) = true) := by simp [List.isPrefixOf, hb]
    show Lib.index (b :: (p ++ ((x :: xs) ++ r))) (x :: xs) = _
    unfold Lib.index
    rw [if_neg hn, ih, if_neg (by simp)]
    simp
theorem idx_none (x : UInt8) (xs : List UInt8) : ∀ p : List UInt8, x ∉ p → Lib.index p (x :: xs) = -1
  | [], _ => by unfold Lib.index; simp
  | b :: p, h => by
    have hb : x ≠ b := fun e => h (by simp [e])
    have hp : x ∉ p := fun e => h (by simp [e])
    have ih := idx_none x xs p hp
    have hn : ¬ ((x :: xs).isPrefixOf (b :: p) = true) := by simp [List.isPrefixOf, hb]
    unfold Lib.index
    rw [if_neg hn, ih, if_pos (by simp)]
theorem split_join : ∀ (q : List UInt8) (qs : List (List UInt8)), (32 : UInt8) ∉ q → (∀ p ∈ qs, (32 : UInt8) ∉ p) → Lib.splitK [32] 0 (Lib.count (q ++ Lib.joinTail [32] qs) [32]) (q ++ Lib.joinTail [32] qs) = q :: qs
  | q, [], h, _ => by
    have e : q ++ Lib.joinTail [32] [] = q := by simp [Lib.joinTail]
    rw [e, Lib.count_miss (idx_none 32 [] q h)]
    rfl
  | q, p :: qs, h, hs => by
    have e : q ++ Lib.joinTail [32] (p :: qs) = q ++ (([32] : List UInt8) ++ (p ++ Lib.joinTail [32] qs)) := by simp [Lib.joinTail]
    have hi := idx_hit 32 [] (p ++ Lib.joinTail [32] qs) q h
    have ih := split_join p qs (hs p (by simp)) (fun x hx => hs x (by simp [hx]))
    have hd : (q ++ (([32] : List UInt8) ++ (p ++ Lib.joinTail [32] qs))).drop (q.length + ([32] : List UInt8).length) = p ++ Lib.joinTail [32] qs := by
      rw [← List.append_assoc, List.drop_append_of_le_length (by simp)]
      simp
    have hc := Lib.count_hit (s := q ++ (([32] : List UInt8) ++ (p ++ Lib.joinTail [32] qs))) (sub := [32]) (by simp) hi
    rw [hd] at hc
    rw [e, hc, Nat.add_comm, Lib.splitK, if_neg (by rw [hi]; simp), hi, Int.toNat_natCast, hd, ih, Nat.add_zero]
    simp
/-! ### a part of a text -/
theorem hex32 (c : Int) : (32 : UInt8) ∉ (hexB c).data.toList := hexB_no c 32 (dig_ne 32 (.inl rfl))
theorem hex46 (c : Int) : (46 : UInt8) ∉ (hexB c).data.toList := hexB_no c 46 (dig_ne 46 (.inr rfl))
theorem pL_two {r : Rg} (h : ¬ r.f1 = r.f0) : pL r = (hexB r.f0).data.toList ++ (([46, 46] : List UInt8) ++ (hexB r.f1).data.toList) := by
  unfold pL partB
  rw [if_neg h]
  simp [ByteArray.data_append]
theorem pL_one {r : Rg} (h : r.f1 = r.f0) : pL r = (hexB r.f0).data.toList := by
  unfold pL partB
  rw [if_pos h]
theorem pL_no32 (r : Rg) : (32 : UInt8) ∉ pL r := by
  by_cases h : r.f1 = r.f0
  · rw [pL_one h]; exact hex32 _
  · rw [pL_two h]
    simp only [List.mem_append, not_or]
    exact ⟨hex32 _, by decide, hex32 _⟩
theorem ok_lo {r : Rg} (h : Ok r) : 0 ≤ r.f0 ∧ r.f0 ≤ 1114111 := by unfold Ok at h; omega
theorem ok_hi {r : Rg} (h : Ok r) : 0 ≤ r.f1 ∧ r.f1 ≤ 1114111 := by unfold Ok at h; omega
theorem one_text {r : Rg} (h : Ok r) : onePart (partB r) = some r := by
  have hp : (partB r).data.toList = pL r := rfl
  unfold onePart
  rw [hp]
  by_cases e : r.f1 = r.f0
  · have hc : Lib.cut (pL r) [46, 46] = ((hexB r.f0).data.toList, [], false) := by
      rw [pL_one e]
      unfold Lib.cut
      rw [idx_none 46 [46] _ (hex46 _), if_neg (by omega)]
    rw [hc]
    simp only [mkB_self, parseV_hexB (ok_lo h)]
    rw [if_neg (by simp), if_pos trivial]
    cases r; simp at e ⊢; exact e.symm
  · have hi : Lib.index (pL r) [46, 46] = ((hexB r.f0).data.toList.length : Int) := by rw [pL_two e]; exact idx_hit 46 [46] _ _ (hex46 _)
    have hc : Lib.cut (pL r) [46, 46] = ((hexB r.f0).data.toList, (hexB r.f1).data.toList, true) := by
      have h1 : ((hexB r.f0).data.toList ++ (([46, 46] : List UInt8) ++ (hexB r.f1).data.toList)).take (hexB r.f0).data.toList.length = (hexB r.f0).data.toList := List.take_left
      have h2 : ((hexB r.f0).data.toList ++ (([46, 46] : List UInt8) ++ (hexB r.f1).data.toList)).drop ((hexB r.f0).data.toList.length + ([46, 46] : List UInt8).length) = (hexB r.f1).data.toList := by
        rw [← List.drop_drop, List.drop_left, List.drop_left]
      unfold Lib.cut
      rw [hi, if_pos (by omega), Int.toNat_natCast, pL_two e, h1, h2]
    rw [hc]
    simp only [mkB_self, parseV_hexB (ok_lo h), parseV_hexB (ok_hi h)]
    rw [if_pos (by simp), if_pos trivial]
theorem parts_text : ∀ (ys acc : List Rg), (∀ r ∈ ys, Ok r) → parseParts (ys.map partB) acc = some (acc ++ ys)
  | [], acc, _ => by simp [parseParts]
  | r :: t, acc, h => by
    have ih := parts_text t (acc ++ [r]) (fun x hx => h x (by simp [hx]))
    simp only [List.map_cons, parseParts, one_text (h r (by simp)), ih]
    simp
theorem map_inj_ba : ∀ {a b : List ByteArray}, a.map (·.data.toList) = b.map (·.data.toList) → a = b
  | [], [], _ => rfl
  | [], _ :: _, h => by simp at h
  | _ :: _, [], h => by simp at h
  | x :: a, y :: b, h => by
    simp only [List.map_cons, List.cons.injEq] at h
    rw [ba_inj h.1, map_inj_ba h.2]
theorem textL_data (r : Rg) (t : List Rg) : (textL (r :: t)).data.toList = pL r ++ Lib.joinTail [32] (t.map pL) := by
  unfold textL
  rw [List.map_cons, Lib.join_cons]
theorem no32_tail (t : List Rg) : ∀ p ∈ t.map pL, (32 : UInt8) ∉ p := fun p hp => by
  obtain ⟨r, _, rfl⟩ := List.mem_map.1 hp
  exact pL_no32 r
theorem partsP_text (r : Rg) (t : List Rg) : partsP (textL (r :: t)) = (r :: t).map partB := by
  apply map_inj_ba
  unfold partsP
  rw [Lib.splitB_data]
  show Lib.splitK [32] 0 (Lib.count (textL (r :: t)).data.toList [32]) (textL (r :: t)).data.toList = _
  rw [textL_data, split_join _ _ (pL_no32 r) (no32_tail t), List.map_map]
  rfl
theorem partB_pos {r : Rg} (h : Ok r) : 1 ≤ (pL r).length := by
  have hs := (hexB_sz (ok_lo h)).1
  rw [← data_length] at hs
  by_cases e : r.f1 = r.f0
  · rw [pL_one e]; omega
  · rw [pL_two e, List.length_append]; omega
theorem textL_ne {r : Rg} {t : List Rg} (h : Ok r) : textL (r :: t) ≠ ⟨#[]⟩ := fun e => by
  have h1 := textL_data r t
  have h2 := partB_pos h
  rw [e] at h1
  have h3 := congrArg List.length h1
  rw [List.length_append] at h3
  have h4 : ((⟨#[]⟩ : ByteArray).data.toList).length = 0 := rfl
  omega
/-- What Text writes of a valid set, Parse reads. -/
theorem parseP_text {ys : List Rg} (h : VL ys) : parseP (textL ys) = (ys, 0) := by
  cases ys with
  | nil => unfold parseP; rw [if_pos textL_nil]
  | cons r t =>
    unfold parseP
    rw [if_neg (textL_ne (h.1 r (by simp))), partsP_text, parts_text _ [] h.1, List.nil_append]
    unfold finishP
    simp only
    rw [makeL_VL h, if_pos rfl]
theorem parseP_or (s : ByteArray) : parseP s = ([], 3) ∨ ∃ ys, VL ys ∧ textL ys = s ∧ parseP s = (ys, 0) := by
  by_cases e : s = ⟨#[]⟩
  · refine .inr ⟨[], ⟨fun r hr => (by cases hr), List.Pairwise.nil⟩, by rw [textL_nil, e], ?_⟩
    unfold parseP; rw [if_pos e]
  · unfold parseP
    rw [if_neg e]
    cases parseParts (partsP s) [] with
    | none => exact .inl rfl
    | some l =>
      unfold finishP
      simp only
      by_cases h : textL (makeL l) = s
      · exact .inr ⟨makeL l, makeL_valid l, h, by rw [if_pos h]⟩
      · exact .inl (by rw [if_neg h])
end Go.Proofs.YtpnkkhichkmmmaaDoor.Q
