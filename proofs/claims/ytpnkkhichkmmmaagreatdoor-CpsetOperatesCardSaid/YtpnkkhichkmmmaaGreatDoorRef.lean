/-
  DERIVED. The reference of the chapter on sets (unicodetextref02), in plain Lean: what the printed functions compute, and that it is the valid set of the code points.
-/
import Derived.Test.YtpnkkhichkmmmaaGreatDoorRef1
import Derived.Test.YtpnkkhichkmmmaaGreatDoorQ7
namespace Go.Proofs.YtpnkkhichkmmmaaGreatDoor.Q
set_option linter.unusedVariables false
set_option linter.unusedSimpArgs false
open Go.RowKit Go.Proofs.YtpnkkhichkmmmaaGreatDoorW.PrintWords Go.Proofs.YtpnkkhichkmmmaaGreatDoorW.PrintLast Go.Proofs.YtpnkkhichkmmmaaGreatDoorW.PrintMore

def placeL : List Int → Int → List Int
  | [], n => [n]
  | a :: l, n => if a ≥ n then (if a > n then n :: a :: l else a :: l) else a :: placeL l n
theorem placeL_len : ∀ (l : List Int) (n : Int), (placeL l n).length ≤ l.length + 1
  | [], n => by simp [placeL]
  | a :: l, n => by
    have := placeL_len l n
    unfold placeL
    split
    · split <;> simp
    · simp; omega
theorem placeL_mem : ∀ (l : List Int) (n x : Int), x ∈ placeL l n ↔ x = n ∨ x ∈ l
  | [], n, x => by simp [placeL]
  | a :: l, n, x => by
    have ih := placeL_mem l n x
    unfold placeL
    split
    · split
      · simp
      · have : a = n := by omega
        subst this; simp
    · simp only [List.mem_cons, ih]
      constructor
      · rintro (h | h | h); exact .inr (.inl h); exact .inl h; exact .inr (.inr h)
      · rintro (h | h | h); exact .inr (.inl h); exact .inl h; exact .inr (.inr h)
theorem placeL_sorted : ∀ (l : List Int) (n : Int), l.Pairwise (· < ·) → (placeL l n).Pairwise (· < ·)
  | [], n, _ => by simp [placeL]
  | a :: l, n, h => by
    obtain ⟨h1, h2⟩ := List.pairwise_cons.1 h
    unfold placeL
    split
    · split
      · refine List.pairwise_cons.2 ⟨fun x hx => ?_, h⟩
        rcases List.mem_cons.1 hx with rfl | hx
        · assumption
        · have := h1 x hx; omega
      · exact h
    · refine List.pairwise_cons.2 ⟨fun x hx => ?_, placeL_sorted l n h2⟩
      rcases (placeL_mem l n x).1 hx with rfl | hx
      · omega
      · exact h1 x hx
theorem place_done (xs : List Int) (c : Int) (hx : xs.length ≤ 1000000) : ∀ (n i : Nat) (acc : List Int) (k : Nat), i + n = xs.length → acc.length + n ≤ 2000000 → 2 * n + 1 ≤ k →
    unicodetextref02_place.l0 k xs c acc true (i : Int) = some (acc ++ xs.drop i)
  | 0, i, acc, k, hi, ha, hk => by
    obtain ⟨k, rfl, hk1⟩ := pred1 hk
    have h : ¬ ((i : Int) < (xs.length : Int)) := by omega
    rw [List.drop_eq_nil_of_le (show xs.length ≤ i by omega), List.append_nil]
    simp only [unicodetextref02_place.l0, if_neg h, if_true]
  | n + 1, i, acc, k, hi, ha, hk => by
    obtain ⟨k, rfl, hk1⟩ := pred1 (show (2 * n + 2) + 1 ≤ k by omega)
    obtain ⟨k, rfl, hk2⟩ := pred1 (show (2 * n + 1) + 1 ≤ k by omega)
    have h : (i : Int) < (xs.length : Int) := by omega
    have h0 : (0 : Int) ≤ (i : Int) := by omega
    have hl : acc.length < 17592186044416 := by omega
    have ih := place_done xs c hx n (i + 1) (acc ++ [xs.getD i 0]) k (by omega) (by simp; omega) (by omega)
    rw [getD_dropI (show i < xs.length by omega)]
    simp only [unicodetextref02_place.l0, unicodetextref02_place.j1, if_pos h, if_pos h0, if_pos hl, if_true, Bool.false_eq_true, if_false, rd_I, wrap_nat (show i < 4611686018427387904 by omega), ih]
    simp
theorem place_open (xs : List Int) (c : Int) (hx : xs.length ≤ 1000000) : ∀ (n i : Nat) (acc : List Int) (k : Nat), i + n = xs.length → acc.length + n ≤ 1000000 → 2 * n + 1 ≤ k →
    unicodetextref02_place.l0 k xs c acc false (i : Int) = some (acc ++ placeL (xs.drop i) c)
  | 0, i, acc, k, hi, ha, hk => by
    obtain ⟨k, rfl, hk1⟩ := pred1 hk
    have h : ¬ ((i : Int) < (xs.length : Int)) := by omega
    have hl : acc.length < 17592186044416 := by omega
    rw [List.drop_eq_nil_of_le (show xs.length ≤ i by omega), placeL]
    simp only [unicodetextref02_place.l0, if_neg h, if_pos hl, Bool.false_eq_true, if_false]
  | n + 1, i, acc, k, hi, ha, hk => by
    obtain ⟨k, rfl, hk1⟩ := pred1 (show (2 * n + 2) + 1 ≤ k by omega)
    obtain ⟨k, rfl, hk2⟩ := pred1 (show (2 * n + 1) + 1 ≤ k by omega)
    have h : (i : Int) < (xs.length : Int) := by omega
    have h0 : (0 : Int) ≤ (i : Int) := by omega
    have hl : acc.length < 17592186044416 := by omega
    have hl2 : (acc ++ [c]).length < 17592186044416 := by simp; omega
    have ih := place_open xs c hx n (i + 1) (acc ++ [xs.getD i 0]) k (by omega) (by simp; omega) (by omega)
    have d1 := place_done xs c hx n (i + 1) (acc ++ [xs.getD i 0]) k (by omega) (by simp; omega) (by omega)
    have d2 := place_done xs c hx n (i + 1) (acc ++ [c] ++ [xs.getD i 0]) k (by omega) (by simp; omega) (by omega)
    have hw := wrap_nat (show i < 4611686018427387904 by omega)
    rw [getD_dropI (show i < xs.length by omega)]
    obtain ⟨x, ex⟩ : ∃ x, xs.getD i 0 = x := ⟨_, rfl⟩
    rw [ex] at ih d1 d2 ⊢
    simp only [unicodetextref02_place.l0, if_pos h, if_pos h0, Bool.false_eq_true, if_false, rd_I, ex, placeL]
    by_cases hc : x ≥ c
    · by_cases hc2 : x > c
      · simp only [if_pos hc, if_pos hc2, decide_eq_true hc, unicodetextref02_place.j1, if_true, if_pos h0, if_pos h, if_pos hl, Option.bind_some, if_pos hl2, rd_I, ex, hw, d2]
        simp
      · simp only [if_pos hc, if_neg hc2, decide_eq_true hc, unicodetextref02_place.j1, if_true, if_pos h0, if_pos h, if_pos hl, rd_I, ex, hw, d1]
        simp
    · simp only [if_neg hc, decide_eq_false hc, unicodetextref02_place.j1, Bool.false_eq_true, if_false, if_pos h0, if_pos h, if_pos hl, rd_I, ex, hw, ih]
      simp
theorem place_total (xs : List Int) (c : Int) (hx : xs.length ≤ 1000000) (k : Nat) (hk : 2 * xs.length + 1 ≤ k) : unicodetextref02_place.f k xs c = some (placeL xs c) := by
  have := place_open xs c hx xs.length 0 [] k (by omega) (by simp; omega) (by omega)
  simpa [unicodetextref02_place.f] using this

def cutR (l : List Int) (r : Rg) : List Int :=
  let l1 := if validI r.f0 = true then placeL l r.f0 else l
  if 0 ≤ r.f1 ∧ r.f1 < 1114111 then placeL l1 (r.f1 + 1) else l1
def cutsR (l : List Int) (s : List Rg) : List Int := placeL (s.foldl cutR l) 0
theorem cutR_len (l : List Int) (r : Rg) : (cutR l r).length ≤ l.length + 2 := by
  unfold cutR
  dsimp only
  have h1 := placeL_len l r.f0
  have h2 := placeL_len (placeL l r.f0) (r.f1 + 1)
  have h3 := placeL_len l (r.f1 + 1)
  split <;> split <;> omega
theorem cuts_l0 (s : List Rg) (hs : s.length ≤ 1000) (B : Nat) (hB : 200010 ≤ B) : ∀ (n i : Nat) (l : List Int) (k : Nat), i + n = s.length → l.length + 2 * n ≤ 100000 → n + B ≤ k →
    unicodetextref02_Cuts.l0 k l (i : Int) s = some (placeL ((s.drop i).foldl cutR l) 0)
  | 0, i, l, k, hi, hl, hk => by
    obtain ⟨k, rfl, hk1⟩ := pred1 (show (B - 1) + 1 ≤ k by omega)
    have h : ¬ ((i : Int) < (s.length : Int)) := by omega
    rw [List.drop_eq_nil_of_le (show s.length ≤ i by omega)]
    simp only [unicodetextref02_Cuts.l0, if_neg h, place_total l 0 (by omega) k (by omega), Option.bind_some, List.foldl_nil]
  | n + 1, i, l, k, hi, hl, hk => by
    obtain ⟨k, rfl, hk1⟩ := pred1 (show (n + B) + 1 ≤ k by omega)
    have h : (i : Int) < (s.length : Int) := by omega
    have h0 : (0 : Int) ≤ (i : Int) := by omega
    have hw := wrap_nat (show i < 4611686018427387904 by omega)
    rw [getD_drop (show i < s.length by omega), List.foldl_cons]
    obtain ⟨x, ex⟩ : ∃ x, s.getD i z32 = x := ⟨_, rfl⟩
    have hcl := cutR_len l x
    have ih := cuts_l0 s hs B hB n (i + 1) (cutR l x) k (by omega) (by omega) (by omega)
    rw [ex]
    have h3 := placeL_len l x.f0
    have p1 := place_total l x.f0 (by omega) k (by omega)
    simp only [unicodetextref02_Cuts.l0, if_pos h, if_pos h0, rd_R, ex, Valid_f, Option.bind_some, hw]
    by_cases hv : validI x.f0 = true
    · by_cases h1 : x.f1 ≥ 0
      · by_cases h2 : x.f1 < 1114111
        · have p2 := place_total (placeL l x.f0) (x.f1 + 1) (by omega) k (by omega)
          have hwx : wrap64 (x.f1 + 1) = x.f1 + 1 := by unfold wrap64; omega
          have e : cutR l x = placeL (placeL l x.f0) (x.f1 + 1) := by simp [cutR, hv, h1, h2]
          rw [e] at ih
          simp only [hv, if_true, p1, Option.bind_some, if_pos h1, if_pos h2, hwx, p2, ih, e]
        · have e : cutR l x = placeL l x.f0 := by simp [cutR, hv, h2]
          rw [e] at ih
          simp only [hv, if_true, p1, Option.bind_some, if_pos h1, if_neg h2, ih, e]
      · have e : cutR l x = placeL l x.f0 := by simp [cutR, hv, h1]
        rw [e] at ih
        simp only [hv, if_true, p1, Option.bind_some, if_neg h1, ih, e]
    · by_cases h1 : x.f1 ≥ 0
      · by_cases h2 : x.f1 < 1114111
        · have p2 := place_total l (x.f1 + 1) (by omega) k (by omega)
          have hwx : wrap64 (x.f1 + 1) = x.f1 + 1 := by unfold wrap64; omega
          have e : cutR l x = placeL l (x.f1 + 1) := by simp [cutR, hv, h1, h2]
          rw [e] at ih
          simp only [if_neg hv, if_pos h1, if_pos h2, hwx, p2, Option.bind_some, ih, e]
        · have e : cutR l x = l := by simp [cutR, hv, h2]
          rw [e] at ih
          simp only [if_neg hv, if_pos h1, if_neg h2, ih, e]
      · have e : cutR l x = l := by simp [cutR, hv, h1]
        rw [e] at ih
        simp only [if_neg hv, if_neg h1, ih, e]
theorem Cuts_total (s : List Rg) (l : List Int) (hs : s.length ≤ 1000) (hl : l.length ≤ 10000) (k : Nat) (hk : 201010 ≤ k) : unicodetextref02_Cuts.f k l s = some (cutsR l s) := by
  have := cuts_l0 s hs 200010 (Nat.le_refl _) s.length 0 l k (by omega) (by omega) (by omega)
  simpa [unicodetextref02_Cuts.f, cutsR] using this
theorem cutFold_len : ∀ (s : List Rg) (l : List Int), (s.foldl cutR l).length ≤ l.length + 2 * s.length
  | [], l => by simp
  | r :: s, l => by
    have h1 := cutFold_len s (cutR l r)
    have h2 := cutR_len l r
    simp only [List.foldl_cons, List.length_cons]
    omega
theorem cutsR_len (l : List Int) (s : List Rg) : (cutsR l s).length ≤ l.length + 2 * s.length + 1 := by
  have h1 := cutFold_len s l
  have h2 := placeL_len (s.foldl cutR l) 0
  unfold cutsR
  omega
theorem cutR_mem (l : List Int) (r : Rg) (x : Int) : x ∈ cutR l r ↔ x ∈ l ∨ (x = r.f0 ∧ 0 ≤ x ∧ x ≤ 1114111) ∨ (x = r.f1 + 1 ∧ 0 < x ∧ x ≤ 1114111) := by
  unfold cutR validI
  dsimp only
  by_cases hv : 0 ≤ r.f0 ∧ r.f0 ≤ 1114111
  · by_cases h1 : 0 ≤ r.f1 ∧ r.f1 < 1114111
    · rw [if_pos h1, if_pos (by simpa using hv)]
      simp only [placeL_mem]
      constructor
      · rintro (h | h | h)
        · exact .inr (.inr ⟨h, by omega, by omega⟩)
        · exact .inr (.inl ⟨h, by omega, by omega⟩)
        · exact .inl h
      · rintro (h | h | h)
        · exact .inr (.inr h)
        · exact .inr (.inl h.1)
        · exact .inl h.1
    · rw [if_neg h1, if_pos (by simpa using hv)]
      simp only [placeL_mem]
      constructor
      · rintro (h | h)
        · exact .inr (.inl ⟨h, by omega, by omega⟩)
        · exact .inl h
      · rintro (h | h | h)
        · exact .inr h
        · exact .inl h.1
        · omega
  · by_cases h1 : 0 ≤ r.f1 ∧ r.f1 < 1114111
    · rw [if_pos h1, if_neg (by simpa using hv)]
      simp only [placeL_mem]
      constructor
      · rintro (h | h)
        · exact .inr (.inr ⟨h, by omega, by omega⟩)
        · exact .inl h
      · rintro (h | h | h)
        · exact .inr h
        · omega
        · exact .inl h.1
    · rw [if_neg h1, if_neg (by simpa using hv)]
      constructor
      · exact .inl
      · rintro (h | h | h)
        · exact h
        · omega
        · omega
theorem cutR_sorted (l : List Int) (r : Rg) (h : l.Pairwise (· < ·)) : (cutR l r).Pairwise (· < ·) := by
  unfold cutR
  dsimp only
  split <;> split
  · exact placeL_sorted _ _ (placeL_sorted _ _ h)
  · exact placeL_sorted _ _ h
  · exact placeL_sorted _ _ h
  · exact h
theorem cutFold_mem : ∀ (s : List Rg) (l : List Int) (x : Int), x ∈ s.foldl cutR l ↔ x ∈ l ∨ ∃ r ∈ s, (x = r.f0 ∧ 0 ≤ x ∧ x ≤ 1114111) ∨ (x = r.f1 + 1 ∧ 0 < x ∧ x ≤ 1114111)
  | [], l, x => by simp
  | r :: s, l, x => by
    rw [List.foldl_cons, cutFold_mem s, cutR_mem]
    constructor
    · rintro ((h | h) | ⟨y, hy, h⟩)
      · exact .inl h
      · exact .inr ⟨r, by simp, h⟩
      · exact .inr ⟨y, by simp [hy], h⟩
    · rintro (h | ⟨y, hy, h⟩)
      · exact .inl (.inl h)
      · rcases List.mem_cons.1 hy with rfl | hy
        · exact .inl (.inr h)
        · exact .inr ⟨y, hy, h⟩
theorem cutFold_sorted : ∀ (s : List Rg) (l : List Int), l.Pairwise (· < ·) → (s.foldl cutR l).Pairwise (· < ·)
  | [], l, h => h
  | r :: s, l, h => by rw [List.foldl_cons]; exact cutFold_sorted s _ (cutR_sorted l r h)

/-- a set is the same at all code points between two cuts that stand side by side -/
theorem hasR_const {s : List Rg} {cuts : List Int} (hc : ∀ x, (∃ r ∈ s, (x = r.f0 ∧ 0 ≤ x ∧ x ≤ 1114111) ∨ (x = r.f1 + 1 ∧ 0 < x ∧ x ≤ 1114111)) → x ∈ cuts) {a c : Int} (ha : 0 ≤ a) (h1 : a ≤ c) (h2 : c ≤ 1114111) (hn : ∀ p ∈ cuts, p ≤ a ∨ c < p) : hasR s a = hasR s c := by
  rw [Bool.eq_iff_iff, hasR_iff, hasR_iff]
  constructor
  · rintro ⟨_, _, r, hr, h3, h4⟩
    refine ⟨by omega, h2, r, hr, by omega, ?_⟩
    rcases ilt r.f1 c with h | h
    · have := hn (r.f1 + 1) (hc _ ⟨r, hr, .inr ⟨rfl, by omega, by omega⟩⟩)
      omega
    · exact h
  · rintro ⟨_, _, r, hr, h3, h4⟩
    refine ⟨by omega, by omega, r, hr, ?_, by omega⟩
    rcases ilt a r.f0 with h | h
    · have := hn r.f0 (hc _ ⟨r, hr, .inl ⟨rfl, by omega, by omega⟩⟩)
      omega
    · exact h
def extR : List Rg → Int → List Rg
  | [], _ => []
  | a :: t, hi => ⟨a.f0, hi⟩ :: t
def hiR : List Int → Int
  | [] => 1114111
  | d :: _ => d - 1
def stepR (P : Int → Bool) (c hi : Int) (op : Bool) (acc : List Rg) : List Rg := if P c = true then (if op = true then extR acc hi else ⟨c, hi⟩ :: acc) else acc
def runR (P : Int → Bool) : List Int → Bool → List Rg → List Rg
  | [], _, acc => acc
  | c :: t, op, acc => runR P t (P c) (stepR P c (hiR t) op acc)
structure InvR (P : Int → Bool) (cur : Int) (op : Bool) (acc : List Rg) : Prop where
  ok : ∀ r ∈ acc, Ok r
  pw : acc.Pairwise fun b a => a.f1 + 1 < b.f0
  mem : ∀ x, Mem acc x ↔ 0 ≤ x ∧ x < cur ∧ P x = true
  on : op = true → ∃ a t, acc = a :: t ∧ a.f1 + 1 = cur
  off : op = false → ∀ a ∈ acc, a.f1 + 1 < cur
theorem InvR.step {P : Int → Bool} {c hi : Int} {op : Bool} {acc : List Rg} (h : InvR P c op acc) (h0 : 0 ≤ c) (h1 : c ≤ hi) (h2 : hi ≤ 1114111) (hp : ∀ x, c ≤ x → x ≤ hi → P x = P c) : InvR P (hi + 1) (P c) (stepR P c hi op acc) := by
  unfold stepR
  by_cases hc : P c = true
  · rw [if_pos hc, hc]
    by_cases ho : op = true
    · rw [if_pos ho]
      obtain ⟨a, t, rfl, ha⟩ := h.on ho
      have hak := h.ok a (by simp)
      obtain ⟨p1, p2⟩ := List.pairwise_cons.1 h.pw
      unfold Ok at hak
      refine ⟨fun r hr => ?_, List.pairwise_cons.2 ⟨fun x hx => p1 x hx, p2⟩, fun x => ?_, fun _ => ⟨_, t, rfl, rfl⟩, fun e => by cases e⟩
      · rcases List.mem_cons.1 hr with rfl | hr
        · exact ⟨hak.1, show a.f0 ≤ hi by omega, h2⟩
        · exact h.ok r (List.mem_cons_of_mem _ hr)
      · have hm := h.mem x
        rw [Mem_cons] at hm
        show Mem (⟨a.f0, hi⟩ :: t) x ↔ _
        rw [Mem_cons]
        show (a.f0 ≤ x ∧ x ≤ hi) ∨ Mem t x ↔ _
        constructor
        · rintro (h3 | h3)
          · rcases ilt x c with h4 | h4
            · have := hm.1 (.inl ⟨h3.1, by omega⟩)
              exact ⟨this.1, by omega, this.2.2⟩
            · exact ⟨by omega, by omega, by rw [hp x h4 h3.2]; exact hc⟩
          · have := hm.1 (.inr h3)
            exact ⟨this.1, by omega, this.2.2⟩
        · rintro ⟨h3, h4, h5⟩
          rcases ilt x c with h6 | h6
          · rcases hm.2 ⟨h3, h6, h5⟩ with h7 | h7
            · exact .inl ⟨h7.1, by omega⟩
            · exact .inr h7
          · exact .inl ⟨by omega, by omega⟩
    · rw [if_neg ho]
      have ho' : op = false := by simpa using ho
      have hoff := h.off ho'
      refine ⟨fun r hr => ?_, List.pairwise_cons.2 ⟨fun x hx => hoff x hx, h.pw⟩, fun x => ?_, fun _ => ⟨_, acc, rfl, rfl⟩, fun e => by cases e⟩
      · rcases List.mem_cons.1 hr with rfl | hr
        · exact ⟨h0, h1, h2⟩
        · exact h.ok r hr
      · have hm := h.mem x
        rw [Mem_cons]
        show (c ≤ x ∧ x ≤ hi) ∨ Mem acc x ↔ _
        constructor
        · rintro (h3 | h3)
          · exact ⟨by omega, by omega, by rw [hp x h3.1 h3.2]; exact hc⟩
          · have := hm.1 h3
            exact ⟨this.1, by omega, this.2.2⟩
        · rintro ⟨h3, h4, h5⟩
          rcases ilt x c with h6 | h6
          · exact .inr (hm.2 ⟨h3, h6, h5⟩)
          · exact .inl ⟨h6, by omega⟩
  · have hc' : P c = false := by simpa using hc
    rw [if_neg hc, hc']
    refine ⟨h.ok, h.pw, fun x => ?_, (fun e => by cases e), fun _ a ha => ?_⟩
    · rw [h.mem x]
      constructor
      · rintro ⟨h3, h4, h5⟩; exact ⟨h3, by omega, h5⟩
      · rintro ⟨h3, h4, h5⟩
        refine ⟨h3, ?_, h5⟩
        rcases ilt x c with h6 | h6
        · exact h6
        · rw [hp x h6 (by omega), hc'] at h5; cases h5
    · cases op with
      | false => have := h.off rfl a ha; omega
      | true =>
        obtain ⟨b, t, rfl, hb⟩ := h.on rfl
        rcases List.mem_cons.1 ha with rfl | ha
        · omega
        · have := (List.pairwise_cons.1 h.pw).1 a ha
          have hbk := h.ok b (by simp)
          unfold Ok at hbk
          omega
theorem run_spec (P : Int → Bool) : ∀ (t : List Int) (c : Int) (op : Bool) (acc : List Rg), (c :: t).Pairwise (· < ·) → (∀ p ∈ c :: t, 0 ≤ p ∧ p ≤ 1114111) →
    (∀ a ∈ c :: t, ∀ x, a ≤ x → x ≤ 1114111 → (∀ p ∈ c :: t, p ≤ a ∨ x < p) → P x = P a) → InvR P c op acc → ∃ op', InvR P 1114112 op' (runR P (c :: t) op acc)
  | [], c, op, acc, hs, hb, hc, hi => by
    have := hb c (by simp)
    exact ⟨_, hi.step this.1 this.2 (Int.le_refl _) (fun x h1 h2 => hc c (by simp) x h1 h2 (fun p hp => by simp at hp; subst hp; exact .inl (Int.le_refl _)))⟩
  | d :: t, c, op, acc, hs, hb, hc, hi => by
    obtain ⟨s1, s2⟩ := List.pairwise_cons.1 hs
    obtain ⟨s3, _⟩ := List.pairwise_cons.1 s2
    have hc0 := hb c (by simp)
    have hd0 := hb d (by simp)
    have hcd := s1 d (by simp)
    have st := hi.step hc0.1 (show c ≤ d - 1 by omega) (by omega) (fun x h1 h2 => hc c (by simp) x h1 (by omega) (fun p hp => by
      rcases List.mem_cons.1 hp with rfl | hp
      · exact .inl (Int.le_refl _)
      · rcases List.mem_cons.1 hp with rfl | hp
        · exact .inr (by omega)
        · have := s3 p hp; exact .inr (by omega)))
    rw [Int.sub_add_cancel] at st
    exact run_spec P t d (P c) _ s2 (fun p hp => hb p (List.mem_cons_of_mem _ hp)) (fun a ha x h1 h2 hn => hc a (List.mem_cons_of_mem _ ha) x h1 h2 (fun p hp => by
      rcases List.mem_cons.1 hp with rfl | hp
      · have := s1 a ha; exact .inl (by omega)
      · exact hn p hp)) st
theorem InvR.valid {P : Int → Bool} {op : Bool} {acc : List Rg} (h : InvR P 1114112 op acc) : VL acc.reverse ∧ ∀ x, Mem acc.reverse x ↔ 0 ≤ x ∧ x ≤ 1114111 ∧ P x = true := by
  refine ⟨⟨fun r hr => h.ok r (by simpa using hr), by simpa [List.pairwise_reverse] using h.pw⟩, fun x => ?_⟩
  have := Mem_perm (a := acc.reverse) (b := acc) (by simp) x
  rw [this, h.mem x]
  constructor
  · rintro ⟨h1, h2, h3⟩; exact ⟨h1, by omega, h3⟩
  · rintro ⟨h1, h2, h3⟩; exact ⟨h1, by omega, h3⟩
def keepsB (op : Int) (x y : Bool) : Bool := if op = 1 then x || y else if op = 2 then x && y else x && !y
theorem keeps_f (op : Int) (x y : Bool) : unicodetextref02_keeps.f op x y = some (keepsB op x y) := by
  unfold unicodetextref02_keeps.f keepsB
  by_cases h1 : op = 1
  · simp only [if_pos h1]; cases x <;> rfl
  · by_cases h2 : op = 2
    · simp only [if_neg h1, if_pos h2]; cases x <;> rfl
    · simp only [if_neg h1, if_neg h2]; cases x <;> rfl
theorem runR_ext (P Q : Int → Bool) (h : ∀ c, P c = Q c) (l : List Int) (op : Bool) (acc : List Rg) : runR P l op acc = runR Q l op acc := by rw [show P = Q from funext h]
theorem combine_l0 (a b : List Rg) (op : Int) (cuts : List Int) (ha : a.length ≤ 1000) (hb : b.length ≤ 1000) (hcu : cuts.length ≤ 10000) (hcb : ∀ p ∈ cuts, 0 ≤ p ∧ p ≤ 1114111) : ∀ (n i : Nat) (o : Bool) (acc : List Rg) (k : Nat), i + n = cuts.length → acc.length + n ≤ 10000 → (o = true → acc ≠ []) → 3 * n + 2000 ≤ k →
    unicodetextref02_combine.l0 k op cuts o (i : Int) a b acc.reverse = some (runR (fun c => keepsB op (hasR a c) (hasR b c)) (cuts.drop i) o acc).reverse
  | 0, i, o, acc, k, hi, hl, ho, hk => by
    obtain ⟨k, rfl, hk1⟩ := pred1 (show 1999 + 1 ≤ k by omega)
    have h : ¬ ((i : Int) < (cuts.length : Int)) := by omega
    rw [List.drop_eq_nil_of_le (show cuts.length ≤ i by omega)]
    simp only [unicodetextref02_combine.l0, if_neg h, runR]
  | n + 1, i, o, acc, k, hi, hl, ho, hk => by
    obtain ⟨k, rfl, hk1⟩ := pred1 (show 3 * n + 2002 + 1 ≤ k by omega)
    obtain ⟨k, rfl, hk2⟩ := pred1 (show 3 * n + 2001 + 1 ≤ k by omega)
    obtain ⟨k, rfl, hk3⟩ := pred1 (show 3 * n + 2000 + 1 ≤ k by omega)
    have h : (i : Int) < (cuts.length : Int) := by omega
    have h0 : (0 : Int) ≤ (i : Int) := by omega
    have h00 : (0 : Int) ≤ ((i + 1 : Nat) : Int) := by omega
    have hw := wrap_nat (show i < 4611686018427387904 by omega)
    have ih := fun o acc h1 h2 => combine_l0 a b op cuts ha hb hcu hcb n (i + 1) o acc k (by omega) h1 h2 (by omega)
    obtain ⟨x, ex⟩ : ∃ x, cuts.getD i 0 = x := ⟨_, rfl⟩
    have hdr := getD_dropI (show i < cuts.length by omega)
    rw [ex] at hdr
    have hwc : i + 1 < cuts.length → wrap64 (cuts.getD (i + 1) 0 - 1) = cuts.getD (i + 1) 0 - 1 := fun h => by
      have := hcb (cuts.getD (i + 1) 0) (by simp [h])
      unfold wrap64; omega
    have e1 : unicodetextref02_combine.l0 (k + 1 + 1 + 1) op cuts o (i : Int) a b acc.reverse = unicodetextref02_combine.j1 (k + 1 + 1) op cuts o (i : Int) (hiR (cuts.drop (i + 1))) a b acc.reverse := by
      simp only [unicodetextref02_combine.l0, if_pos h, hw]
      by_cases h2 : ((i + 1 : Nat) : Int) < (cuts.length : Int)
      · have hdr2 := getD_dropI (show i + 1 < cuts.length by omega)
        rw [if_pos h2, if_pos h00, rd_I, hdr2]
        rw [hwc (by omega)]
        rfl
      · rw [if_neg h2, List.drop_eq_nil_of_le (show cuts.length ≤ i + 1 by omega)]
        rfl
    rw [e1, hdr]
    simp only [runR]
    generalize hiR (cuts.drop (i + 1)) = hv
    have hA := RHas_total a x (by omega) (k + 1) (by omega)
    have hB := RHas_total b x (by omega) (k + 1) (by omega)
    have hx : rd cuts (i : Int) = x := by rw [rd_I, ex]
    simp only [unicodetextref02_combine.j1, if_pos h0, if_pos h, hx, hA, hB, Option.bind_some, keeps_f]
    obtain ⟨b1, eb⟩ : ∃ b1, keepsB op (hasR a x) (hasR b x) = b1 := ⟨_, rfl⟩
    simp only [eb]
    have ihs := fun acc h1 h2 => ih b1 acc h1 h2
    cases b1 with
    | false =>
      simp only [Bool.false_eq_true, if_false, unicodetextref02_combine.j2, stepR, eb, hw]
      exact ih false acc (by omega) (fun e => by cases e)
    | true =>
      cases o with
      | false =>
        have hlen : acc.reverse.length < 8796093022208 := by simp; omega
        simp only [if_true, Bool.false_eq_true, if_false, unicodetextref02_combine.j2, stepR, eb, hw, if_pos h0, if_pos h, if_pos hlen, hx]
        have := ih true (⟨x, hv⟩ :: acc) (by simp; omega) (fun _ => by simp)
        rwa [List.reverse_cons] at this
      | true =>
        obtain ⟨y, t, rfl⟩ : ∃ y t, acc = y :: t := by
          cases acc with
          | nil => exact absurd rfl (ho rfl)
          | cons y t => exact ⟨y, t, rfl⟩
        have hw1 : wrap64 ((((y :: t).reverse.length : Nat) : Int) - 1) = (t.length : Int) := by simp at hl ⊢; unfold wrap64; omega
        have hg0 : (0 : Int) ≤ (t.length : Int) := by omega
        have hg1 : (t.length : Int) < (((y :: t).reverse.length : Nat) : Int) := by simp; omega
        have hrd : rd_T32 (y :: t).reverse (t.length : Int) = y := by simp [rd_T32, List.getElem?_append]
        have hset : (y :: t).reverse.set (t.length : Int).toNat ⟨y.f0, hv⟩ = ((⟨y.f0, hv⟩ : Rg) :: t).reverse := by simp [List.set_append]
        simp only [if_true, unicodetextref02_combine.j2, stepR, eb, hw, hw1, if_pos hg0, if_pos hg1, hrd, hset, Option.bind_some, extR]
        exact ih true (⟨y.f0, hv⟩ :: t) (by simp at hl ⊢; omega) (fun _ => by simp)
theorem mem_cutsR {s l : List _} {x : Int} : x ∈ cutsR l s ↔ x = 0 ∨ x ∈ l ∨ ∃ r ∈ s, (x = r.f0 ∧ 0 ≤ x ∧ x ≤ 1114111) ∨ (x = r.f1 + 1 ∧ 0 < x ∧ x ≤ 1114111) := by
  unfold cutsR
  rw [placeL_mem, cutFold_mem]
def cuts2 (a b : List Rg) : List Int := cutsR (cutsR [] a) b
theorem cuts2_sorted (a b : List Rg) : (cuts2 a b).Pairwise (· < ·) := by
  unfold cuts2 cutsR
  exact placeL_sorted _ _ (cutFold_sorted _ _ (placeL_sorted _ _ (cutFold_sorted _ _ List.Pairwise.nil)))
theorem cuts2_bound {a b : List Rg} {x : Int} (h : x ∈ cuts2 a b) : 0 ≤ x ∧ x ≤ 1114111 := by
  unfold cuts2 at h
  rw [mem_cutsR, mem_cutsR] at h
  rcases h with h | (h | h | ⟨r, _, h⟩) | ⟨r, _, h⟩
  · omega
  · omega
  · cases h
  · omega
  · omega
theorem combR_spec (op : Int) (a b : List Rg) : (runR (fun c => keepsB op (hasR a c) (hasR b c)) (cuts2 a b) false []).reverse = combL (keepsB op) a b := by
  have h0 : (0 : Int) ∈ cuts2 a b := by unfold cuts2; rw [mem_cutsR]; exact .inl rfl
  obtain ⟨c, t, e⟩ : ∃ c t, cuts2 a b = c :: t := by
    cases h : cuts2 a b with
    | nil => rw [h] at h0; cases h0
    | cons c t => exact ⟨c, t, rfl⟩
  have hs := cuts2_sorted a b
  have hbd : ∀ p ∈ c :: t, 0 ≤ p ∧ p ≤ 1114111 := fun p hp => cuts2_bound (a := a) (b := b) (by rw [e]; exact hp)
  rw [e] at hs h0
  have hc0 : c = 0 := by
    rcases List.mem_cons.1 h0 with h | h
    · exact h.symm
    · have h1 := (List.pairwise_cons.1 hs).1 0 h
      have h2 := hbd c (by simp)
      omega
  subst hc0
  obtain ⟨op', hI⟩ := run_spec (fun c => keepsB op (hasR a c) (hasR b c)) t 0 false [] hs hbd (fun p hp x h1 h2 hn => by
    have hp0 := hbd p hp
    have ea := hasR_const (s := a) (cuts := 0 :: t) (fun x hx => by rw [← e]; unfold cuts2; rw [mem_cutsR, mem_cutsR]; exact .inr (.inl (.inr (.inr hx)))) hp0.1 h1 h2 hn
    have eb := hasR_const (s := b) (cuts := 0 :: t) (fun x hx => by rw [← e]; unfold cuts2; rw [mem_cutsR]; exact .inr (.inr hx)) hp0.1 h1 h2 hn
    show keepsB op (hasR a x) (hasR b x) = keepsB op (hasR a p) (hasR b p)
    rw [ea, eb]) ⟨(fun r hr => by cases hr), List.Pairwise.nil, fun x => ⟨fun h => absurd h (Mem_nil x), fun h => by omega⟩, (fun e => by cases e), (fun _ a ha => by cases ha)⟩
  have hv := hI.valid
  rw [e]
  refine VL_unique _ _ hv.1 (combL_valid _ _ _) (fun x => ?_)
  rw [hv.2 x, combL_mem, ← hasR_hasL, ← hasR_hasL]
theorem RComb_total (a b : List Rg) (op : Int) (ha : a.length ≤ 1000) (hb : b.length ≤ 1000) (k : Nat) (hk : 300000 ≤ k) : unicodetextref02_combine.f k a b op = some (combL (keepsB op) a b) := by
  have l1 := cutsR_len [] a
  have l2 := cutsR_len (cutsR [] a) b
  have c1 := Cuts_total a [] ha (by simp) k (by omega)
  have c2 := Cuts_total b (cutsR [] a) hb (by simp at l1; omega) k (by omega)
  have h := combine_l0 a b op (cuts2 a b) ha hb (by unfold cuts2; simp at l1; omega) (fun p hp => cuts2_bound hp) (cuts2 a b).length 0 false [] k (by omega) (by unfold cuts2; simp at l1 ⊢; omega) (fun e => by cases e) (by unfold cuts2; simp at l1; omega)
  rw [List.drop_zero, combR_spec] at h
  unfold unicodetextref02_combine.f
  rw [c1, Option.bind_some, c2, Option.bind_some]
  exact h
theorem combL_make (l : List Rg) : combL (keepsB 1) l [] = makeL l := by
  refine VL_unique _ _ (combL_valid _ _ _) (makeL_valid _) (fun x => ?_)
  rw [combL_mem, makeL_mem, hasL_nil]
  have := hasL_iff l x
  simp only [keepsB, if_true, Bool.or_false, this]
  constructor
  · rintro ⟨h1, h2, _, _, h3⟩; exact ⟨h1, h2, h3⟩
  · rintro ⟨h1, h2, h3⟩; exact ⟨h1, h2, h1, h2, h3⟩
end Go.Proofs.YtpnkkhichkmmmaaGreatDoor.Q
