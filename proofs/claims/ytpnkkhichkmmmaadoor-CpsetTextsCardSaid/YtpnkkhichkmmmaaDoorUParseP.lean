/-
  DERIVED. Parse of a set, in plain Lean: the program's and the reference's both read what Text writes, and nothing else.
-/
import Derived.Test.YtpnkkhichkmmmaaDoorUTextP
import Derived.Test.YtpnkkhichkmmmaaDoorUQ4
import Derived.Test.YtpnkkhichkmmmaaDoorUQ9
import Derived.Test.YtpnkkhichkmmmaaDoorUQ8
namespace Go.Proofs.YtpnkkhichkmmmaaDoor.Q
set_option linter.unusedVariables false
set_option linter.unusedSimpArgs false
open Go.RowKit Go.Proofs.YtpnkkhichkmmmaaDoorW.PrintWords Go.Proofs.YtpnkkhichkmmmaaDoorW.PrintLast Go.Proofs.YtpnkkhichkmmmaaDoorW.PrintMore

def mkB (l : List UInt8) : ByteArray := ⟨l.toArray⟩
theorem mkB_data (l : List UInt8) : (mkB l).data.toList = l := by simp [mkB]
theorem mkB_self (s : ByteArray) : mkB s.data.toList = s := ba_inj (mkB_data _)
theorem mkB_size (l : List UInt8) : (mkB l).size = l.length := by rw [← data_length, mkB_data]

/-! ### a part -/
def onePart (p : ByteArray) : Option Rg :=
  let c := Lib.cut p.data.toList [46, 46]
  let a := parseV (mkB c.1)
  if c.2.2 = true ∧ a.2 = 0 then (let b := parseV (mkB c.2.1); if b.2 = 0 then some ⟨a.1, b.1⟩ else none) else if a.2 = 0 then some ⟨a.1, a.1⟩ else none
def parseParts : List ByteArray → List Rg → Option (List Rg)
  | [], acc => some acc
  | p :: ps, acc => match onePart p with
    | none => none
    | some r => parseParts ps (acc ++ [r])
def finishP (s : ByteArray) : Option (List Rg) → List Rg × Int
  | none => ([], 3)
  | some l => if textL (makeL l) = s then (makeL l, 0) else ([], 3)
theorem cut_f {a : ByteArray} (h : a.size < 4294967281) : strings_Cut.f a ⟨#[46, 46]⟩ = some (mkB (Lib.cut a.data.toList [46, 46]).1, mkB (Lib.cut a.data.toList [46, 46]).2.1, (Lib.cut a.data.toList [46, 46]).2.2) := by
  unfold strings_Cut.f
  rw [if_pos h]
  rfl
theorem cloop (s : ByteArray) (ps : List ByteArray) (hps : ∀ p ∈ ps, p.size < 4294967281) (hl : ps.length ≤ 10000) (B : Nat) (hB : 30000 ≤ B) : ∀ (n i : Nat) (acc : List Rg) (k : Nat), i + n = ps.length → acc.length + n ≤ 10000 → 2 * n + B ≤ k →
    cpset_Parse.l0 k s acc ps (ps.length : Int) (i : Int) = some (finishP s (parseParts (ps.drop i) acc))
  | 0, i, acc, k, hi, ha, hk => by
    obtain ⟨k, rfl, _⟩ := pred1 (show (B - 1) + 1 ≤ k by omega)
    have h : ¬ ((i : Int) < (ps.length : Int)) := by omega
    have hm := makeL_len acc
    rw [List.drop_eq_nil_of_le (show ps.length ≤ i by omega)]
    simp only [cpset_Parse.l0, if_neg h, Make_total acc (by omega) k (by omega), Option.bind_some, text_f (show (makeL acc).length ≤ 100000 by omega), makeL_VL (makeL_valid acc), parseParts, finishP, tl_iff]
    by_cases e : textL (makeL acc) = s
    · rw [if_pos e, if_pos e]
    · rw [if_neg e, if_neg e]
  | n + 1, i, acc, k, hi, ha, hk => by
    obtain ⟨k, rfl, _⟩ := pred1 (show (2 * n + B + 1) + 1 ≤ k by omega)
    obtain ⟨k, rfl, _⟩ := pred1 (show (2 * n + B) + 1 ≤ k by omega)
    have h : (i : Int) < (ps.length : Int) := by omega
    have h0 : (0 : Int) ≤ (i : Int) := by omega
    have hw := wrap_nat (show i < 4611686018427387904 by omega)
    have hlt : i < ps.length := by omega
    have hal : acc.length < 8796093022208 := by omega
    have ih := fun r => cloop s ps hps hl B hB n (i + 1) (acc ++ [r]) k (by omega) (by simp; omega) (by omega)
    have er : rdOf ByteArray.empty ps (i : Int) = ps[i] := by simp [rdOf, hlt]
    have hsz := hps _ (List.getElem_mem hlt)
    rw [List.drop_eq_getElem_cons hlt]
    obtain ⟨p, ep⟩ : ∃ p, ps[i] = p := ⟨_, rfl⟩
    rw [ep] at er hsz ⊢
    obtain ⟨c, ec⟩ : ∃ c, Lib.cut p.data.toList [46, 46] = c := ⟨_, rfl⟩
    obtain ⟨a, ea⟩ : ∃ a, parseV (mkB c.1) = a := ⟨_, rfl⟩
    obtain ⟨b, eb⟩ : ∃ b, parseV (mkB c.2.1) = b := ⟨_, rfl⟩
    simp only [cpset_Parse.l0, if_pos h, if_pos h0, er, cut_f hsz, Option.bind_some, CParse_total _ (k + 1) (show 13 ≤ k + 1 by omega), ec, ea, parseParts, onePart, eb]
    by_cases h2 : c.2.2 = true
    · rw [if_pos h2]
      by_cases h3 : a.2 = 0
      · have e3 : (a.2 == 0) = true := by simp [h3]
        rw [if_pos ⟨h2, h3⟩]
        simp only [e3, cpset_Parse.j1, if_true, CParse_total _ k (show 13 ≤ k by omega), eb, Option.bind_some]
        by_cases h4 : b.2 = 0
        · simp only [if_pos h4, if_pos hal, hw]
          exact ih _
        · simp only [if_neg h4]; rfl
      · have e3 : (a.2 == 0) = false := by simp [h3]
        rw [if_neg (fun h => h3 h.2), if_neg h3]
        simp only [e3, cpset_Parse.j1, Bool.false_eq_true, if_false, if_neg h3]
        rfl
    · rw [if_neg h2, if_neg (fun h => h2 h.1)]
      simp only [cpset_Parse.j1, Bool.false_eq_true, if_false]
      by_cases h3 : a.2 = 0
      · simp only [if_pos h3, if_pos hal, hw]
        exact ih _
      · simp only [if_neg h3]; rfl
theorem splitB_le (sep : ByteArray) : ∀ (k : Nat) (s : ByteArray), ∀ p ∈ Lib.splitB sep 0 k s, p.size ≤ s.size
  | 0, s, p, hp => by simp [Lib.splitB] at hp; rw [hp]; exact Nat.le_refl _
  | k + 1, s, p, hp => by
    unfold Lib.splitB at hp
    split at hp
    · simp at hp; rw [hp]; exact Nat.le_refl _
    · rcases List.mem_cons.1 hp with rfl | hp
      · rw [← data_length, ← data_length, Lib.extract_data, List.length_take, List.length_drop]; omega
      · have := splitB_le sep k _ p hp
        refine Nat.le_trans this ?_
        rw [← data_length, ← data_length, Lib.extract_data, List.length_take, List.length_drop]; omega
def partsP (s : ByteArray) : List ByteArray := Lib.splitB ⟨#[32]⟩ 0 (Lib.countB s ⟨#[32]⟩) s
theorem split_f {s : ByteArray} (h : s.size < 4294967281) : strings_Split.f s ⟨#[32]⟩ = some (partsP s) := by
  unfold strings_Split.f
  rw [if_pos ⟨by decide, h⟩]
  rfl
theorem partsP_len (s : ByteArray) : (partsP s).length ≤ s.size + 2 := by
  have h1 := Lib.splitB_length_le ⟨#[32]⟩ 0 (Lib.countB s ⟨#[32]⟩) s
  have h2 : Lib.countB s ⟨#[32]⟩ ≤ s.data.toList.length + 1 := Lib.count_le _ _
  rw [data_length] at h2
  unfold partsP
  omega
def parseP (s : ByteArray) : List Rg × Int := if s = ⟨#[]⟩ then ([], 0) else finishP s (parseParts (partsP s) [])
theorem CSParse_total (s : ByteArray) (h : s.size ≤ 9000) (k : Nat) (hk : 60000 ≤ k) : cpset_Parse.f k s = some (parseP s) := by
  have hl := partsP_len s
  unfold cpset_Parse.f parseP
  simp only [tl_nil]
  by_cases e : s = ⟨#[]⟩
  · rw [if_pos e, if_pos e]
  · rw [if_neg e, if_neg e, split_f (by omega), Option.bind_some]
    have := cloop s (partsP s) (fun p hp => by have := splitB_le _ _ _ p hp; omega) (by omega) 30000 (Nat.le_refl _) (partsP s).length 0 [] k (by omega) (by simp; omega) (by omega)
    simpa using this

/-! ### the reference's -/
def splitL (b : UInt8) : List UInt8 → List (List UInt8)
  | [] => [[]]
  | x :: t => if x = b then [] :: splitL b t else match splitL b t with
    | [] => [[x]]
    | p :: ps => (x :: p) :: ps
def consH (c : List UInt8) : List (List UInt8) → List (List UInt8)
  | [] => [c]
  | p :: ps => (c ++ p) :: ps
theorem splitL_ne (b : UInt8) (l : List UInt8) : splitL b l ≠ [] := by
  cases l with
  | nil => simp [splitL]
  | cons x t =>
    unfold splitL
    split
    · simp
    · split <;> simp
theorem consH_nil {l : List (List UInt8)} (h : l ≠ []) : consH [] l = l := by
  cases l with
  | nil => exact absurd rfl h
  | cons p ps => rfl
theorem splitL_len (b : UInt8) : ∀ l : List UInt8, (splitL b l).length ≤ l.length + 1
  | [] => by simp [splitL]
  | x :: t => by
    have := splitL_len b t
    unfold splitL
    split
    · simp; omega
    · split
      · simp
      · rename_i h
        rw [h] at this
        simpa using Nat.le_succ_of_le this
theorem ext_snoc {s : ByteArray} {f i : Nat} (hf : f ≤ i) (hi : i < s.size) : (s.extract f (i + 1)).data.toList = (s.extract f i).data.toList ++ [s.data.toList[i]'(by rw [data_length]; exact hi)] := by
  have hl : i < s.data.toList.length := by rw [data_length]; exact hi
  rw [Lib.extract_data, Lib.extract_data, show i + 1 - f = (i - f) + 1 by omega, List.take_add_one, List.getElem?_drop, show f + (i - f) = i by omega, List.getElem?_eq_getElem hl]
  rfl
theorem rcut_l0 (s : ByteArray) (b : UInt8) (hs : s.size ≤ 1000000) : ∀ (n i f : Nat) (acc : List ByteArray) (k : Nat), i + n = s.size → f ≤ i → acc.length + n ≤ 2000000 → n + 1 ≤ k →
    unicodetextref02_Cut.l0 k s (b.toNat : Int) acc (f : Int) (i : Int) = some (acc ++ (consH (s.extract f i).data.toList (splitL b (s.data.toList.drop i))).map mkB)
  | 0, i, f, acc, k, hi, hf, ha, hk => by
    obtain ⟨k, rfl, _⟩ := pred1 hk
    have h : ¬ ((i : Int) < (s.size : Int)) := by omega
    have hd : s.data.toList.drop i = [] := List.drop_eq_nil_of_le (by rw [data_length]; omega)
    have h1 : (0 : Int) ≤ (f : Int) := by omega
    have h2 : (f : Int) ≤ (s.size : Int) := by omega
    have h3 : acc.length < 8796093022208 := by omega
    have ei : s.size = i := by omega
    simp only [unicodetextref02_Cut.l0, if_neg h, if_pos h1, if_pos h2, if_pos h3, hd, splitL, consH, List.append_nil, List.map_cons, List.map_nil, mkB_self, Int.toNat_natCast]
    rw [ei]
  | n + 1, i, f, acc, k, hi, hf, ha, hk => by
    obtain ⟨k, rfl, _⟩ := pred1 hk
    have h : (i : Int) < (s.size : Int) := by omega
    have h0 : (0 : Int) ≤ (i : Int) := by omega
    have h1 : (0 : Int) ≤ (f : Int) := by omega
    have h2 : (f : Int) ≤ (i : Int) := by omega
    have h3 : acc.length < 8796093022208 := by omega
    have h4 : (i : Int) ≤ (s.size : Int) := by omega
    have hw := wrap_nat (show i < 4611686018427387904 by omega)
    have hl : i < s.data.toList.length := by rw [data_length]; omega
    have hx := bt_get (show i < s.size by omega)
    have es := ext_snoc hf (show i < s.size by omega)
    rw [List.drop_eq_getElem_cons hl]
    obtain ⟨x, ex⟩ : ∃ x, s.data.toList[i] = x := ⟨_, rfl⟩
    rw [ex] at hx es ⊢
    simp only [unicodetextref02_Cut.l0, if_pos h, if_pos h0, hx, hw]
    by_cases e : x = b
    · have e' : ((x.toNat : Nat) : Int) = (b.toNat : Int) := by rw [e]
      have e0 : (s.extract (i + 1) (i + 1)).data.toList = [] := by rw [Lib.extract_data]; simp
      have ih := rcut_l0 s b hs n (i + 1) (i + 1) (acc ++ [s.extract f i]) k (by omega) (Nat.le_refl _) (by simp; omega) (by omega)
      rw [e0, consH_nil (splitL_ne _ _)] at ih
      rw [if_pos e', if_pos h1, if_pos h2, if_pos h4, if_pos h3, Int.toNat_natCast, Int.toNat_natCast, ih, splitL, if_pos e, consH, List.append_nil, List.map_cons, mkB_self, List.append_assoc]
      rfl
    · have e' : ¬ ((x.toNat : Nat) : Int) = (b.toNat : Int) := fun h => e (UInt8.toNat_inj.1 (by omega))
      have ih := rcut_l0 s b hs n (i + 1) f acc k (by omega) (by omega) (by omega) (by omega)
      rw [if_neg e', ih, es, splitL, if_neg e]
      cases hsp : splitL b (s.data.toList.drop (i + 1)) with
      | nil => exact absurd hsp (splitL_ne _ _)
      | cons p ps => simp [consH]
def partsR (b : UInt8) (s : ByteArray) : List ByteArray := (splitL b s.data.toList).map mkB
theorem RCut_total (s : ByteArray) (b : UInt8) (hs : s.size ≤ 1000000) (k : Nat) (hk : s.size + 1 ≤ k) : unicodetextref02_Cut.f k s (b.toNat : Int) = some (partsR b s) := by
  have h := rcut_l0 s b hs s.size 0 0 [] k (by omega) (Nat.le_refl _) (by simp; omega) hk
  have e : (s.extract 0 0).data.toList = [] := by rw [Lib.extract_data]; simp
  rw [e, consH_nil (splitL_ne _ _)] at h
  simpa [unicodetextref02_Cut.f, partsR] using h
theorem partsR_len (b : UInt8) (s : ByteArray) : 1 ≤ (partsR b s).length ∧ (partsR b s).length ≤ s.size + 1 := by
  unfold partsR
  rw [List.length_map, ← data_length]
  refine ⟨?_, splitL_len _ _⟩
  have := splitL_ne b s.data.toList
  cases h : splitL b s.data.toList with
  | nil => exact absurd h this
  | cons p ps => simp
theorem splitL_sub (b : UInt8) : ∀ l : List UInt8, ∀ p ∈ splitL b l, p.length ≤ l.length
  | [], p, hp => by simp [splitL] at hp; rw [hp]; simp
  | x :: t, p, hp => by
    unfold splitL at hp
    split at hp
    · rcases List.mem_cons.1 hp with rfl | hp
      · simp
      · have := splitL_sub b t p hp; simp; omega
    · split at hp
      · simp at hp; rw [hp]; simp
      · rename_i q qs hq
        rcases List.mem_cons.1 hp with rfl | hp
        · have := splitL_sub b t q (by rw [hq]; simp); simp; omega
        · have := splitL_sub b t p (by rw [hq]; simp [hp]); simp; omega
def firstP (l : List ByteArray) : ByteArray := l.getD 0 ByteArray.empty
def lastP (l : List ByteArray) : ByteArray := l.getD (l.length - 1) ByteArray.empty
def oneR (p : ByteArray) : Option Rg :=
  let a := parseV (firstP (partsR 46 p))
  let b := parseV (lastP (partsR 46 p))
  if a.2 = 0 then (if b.2 = 0 then some ⟨a.1, b.1⟩ else none) else none
def partsRR : List ByteArray → List Rg → Option (List Rg)
  | [], acc => some acc
  | p :: ps, acc => match oneR p with
    | none => none
    | some r => partsRR ps (acc ++ [r])
def finishR (s : ByteArray) : Option (List Rg) → List Rg × Int
  | none => ([], 3)
  | some l => if l = makeL l then (if textL (makeL l) = s then (l, 0) else ([], 3)) else ([], 3)
theorem rend (s : ByteArray) (ps : List ByteArray) (x : Int) (acc : List Rg) (ha : acc.length ≤ 1000) (k : Nat) (hk : 400000 ≤ k) : unicodetextref02_Parse.j1 k s ps x false acc = some (finishR s (some acc)) := by
  obtain ⟨k, rfl, _⟩ := pred1 (show 399999 + 1 ≤ k by omega)
  simp only [unicodetextref02_Parse.j1, Bool.false_eq_true, if_false, RValid_total acc ha k (by omega), Option.bind_some, RText_total acc ha k (by omega), finishR, tl_iff, decide_eq_true_eq]
  by_cases e : acc = makeL acc
  · rw [if_pos e, if_pos e]
    by_cases e2 : textL (makeL acc) = s
    · rw [if_pos e2, if_pos e2]
    · rw [if_neg e2, if_neg e2]
  · rw [if_neg e, if_neg e]
theorem rloop (s : ByteArray) (hs : s ≠ ⟨#[]⟩) (ps : List ByteArray) (hps : ∀ p ∈ ps, p.size ≤ 1000) (hl : ps.length ≤ 1000) (B : Nat) (hB : 500000 ≤ B) : ∀ (n i : Nat) (acc : List Rg) (k : Nat), i + n = ps.length → acc.length + n ≤ 1000 → 2 * n + B ≤ k →
    unicodetextref02_Parse.l0 k s ps (i : Int) acc = some (finishR s (partsRR (ps.drop i) acc))
  | 0, i, acc, k, hi, ha, hk => by
    obtain ⟨k, rfl, _⟩ := pred1 (show (B - 1) + 1 ≤ k by omega)
    have h : ¬ ((i : Int) < (ps.length : Int)) := by omega
    rw [List.drop_eq_nil_of_le (show ps.length ≤ i by omega)]
    simp only [unicodetextref02_Parse.l0, if_neg h, partsRR]
    exact rend s ps _ acc (by omega) k (by omega)
  | n + 1, i, acc, k, hi, ha, hk => by
    obtain ⟨k, rfl, _⟩ := pred1 (show (2 * n + B + 1) + 1 ≤ k by omega)
    obtain ⟨k, rfl, _⟩ := pred1 (show (2 * n + B) + 1 ≤ k by omega)
    have h : (i : Int) < (ps.length : Int) := by omega
    have h0 : (0 : Int) ≤ (i : Int) := by omega
    have hw := wrap_nat (show i < 4611686018427387904 by omega)
    have hlt : i < ps.length := by omega
    have hal : acc.length < 8796093022208 := by omega
    have ih := fun r => rloop s hs ps hps hl B hB n (i + 1) (acc ++ [r]) k (by omega) (by simp; omega) (by omega)
    have er : rdOf ByteArray.empty ps (i : Int) = ps[i] := by simp [rdOf, hlt]
    have hsz := hps _ (List.getElem_mem hlt)
    have hne : (s.toList != ([] : List UInt8)) = true := by
      rw [bne_iff_ne]
      exact fun e => hs (tl_nil.1 e)
    rw [List.drop_eq_getElem_cons hlt]
    obtain ⟨p, ep⟩ : ∃ p, ps[i] = p := ⟨_, rfl⟩
    rw [ep] at er hsz ⊢
    have hc := RCut_total p 46 (by omega) k (by omega)
    have e46 : ((46 : UInt8).toNat : Int) = 46 := rfl
    rw [e46] at hc
    obtain ⟨l1, l2⟩ := partsR_len 46 p
    obtain ⟨q, eq⟩ : ∃ q, partsR 46 p = q := ⟨_, rfl⟩
    rw [eq] at hc l1 l2
    have g0 : (0 : Int) < (q.length : Int) := by omega
    have w1 : wrap64 ((q.length : Int) - 1) = ((q.length - 1 : Nat) : Int) := by unfold wrap64; omega
    have g1 : (0 : Int) ≤ ((q.length - 1 : Nat) : Int) := by omega
    have g2 : ((q.length - 1 : Nat) : Int) < (q.length : Int) := by omega
    have r0 : rdOf ByteArray.empty q 0 = firstP q := rfl
    have r1 : rdOf ByteArray.empty q ((q.length - 1 : Nat) : Int) = lastP q := by simp [rdOf, lastP]
    simp only [unicodetextref02_Parse.l0, if_pos h, hne, unicodetextref02_Parse.j1, if_true, if_pos h0, er, hc, Option.bind_some, if_pos g0, w1, if_pos g1, if_pos g2, r0, r1, RParse_total _ k (show 30 ≤ k by omega), partsRR, oneR, eq]
    by_cases h2 : (parseV (firstP q)).2 = 0
    · by_cases h3 : (parseV (lastP q)).2 = 0
      · simp only [if_pos h2, if_pos h3, if_pos hal, hw]
        exact ih _
      · simp only [if_pos h2, if_neg h3]; rfl
    · simp only [if_neg h2]; rfl
def parseR (s : ByteArray) : List Rg × Int := if s = ⟨#[]⟩ then ([], 0) else finishR s (partsRR (partsR 32 s) [])
theorem textL_nil : textL [] = ⟨#[]⟩ := rfl
theorem makeL_nil : makeL [] = [] := makeL_VL ⟨fun r hr => (by cases hr), List.Pairwise.nil⟩
theorem RSParse_total (s : ByteArray) (h : s.size ≤ 900) (k : Nat) (hk : 600000 ≤ k) : unicodetextref02_Parse.f k s = some (parseR s) := by
  obtain ⟨l1, l2⟩ := partsR_len 32 s
  have e32 : ((32 : UInt8).toNat : Int) = 32 := rfl
  have hc := RCut_total s 32 (by omega) k (by omega)
  rw [e32] at hc
  unfold unicodetextref02_Parse.f parseR
  rw [hc, Option.bind_some]
  by_cases e : s = ⟨#[]⟩
  · rw [if_pos e]
    obtain ⟨k, rfl, _⟩ := pred1 (show 599999 + 1 ≤ k by omega)
    have hn : (s.toList != ([] : List UInt8)) = false := by rw [tl_nil.2 e]; rfl
    have r := rend s (partsR 32 s) 0 [] (by simp) k (by omega)
    have f : finishR s (some []) = ([], 0) := by
      unfold finishR
      simp only
      rw [makeL_nil, if_pos rfl, textL_nil, if_pos e.symm]
    rw [f] at r
    have g0 : (0 : Int) < ((partsR 32 s).length : Int) := by omega
    simp only [unicodetextref02_Parse.l0, if_pos g0, hn]
    exact r
  · rw [if_neg e]
    have := rloop s e (partsR 32 s) (fun p hp => by
      obtain ⟨q, hq, rfl⟩ := List.mem_map.1 hp
      have := splitL_sub 32 _ q hq
      rw [data_length] at this
      rw [mkB_size]; omega) (by omega) 500000 (Nat.le_refl _) (partsR 32 s).length 0 [] k (by omega) (by simp; omega) (by omega)
    simpa using this
end Go.Proofs.YtpnkkhichkmmmaaDoor.Q
