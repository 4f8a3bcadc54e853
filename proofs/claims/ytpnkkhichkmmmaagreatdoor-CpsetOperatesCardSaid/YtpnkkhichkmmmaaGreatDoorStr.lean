/-
  DERIVED. strings.Split, Cut and Join told by hand in the print's own form, out of the shelf's contracts.
-/
import Derived.Test.YtpnkkhichkmmmaaGreatDoorQ0
import Derived.Test.YtpnkkhichkmmmaaGreatDoorLayStr
import Derived.Shelf.Strings.Split
import Derived.Shelf.Strings.Cut
import Derived.Shelf.Strings.OnBuilder
namespace Go.Proofs.YtpnkkhichkmmmaaGreatDoor.Q
set_option linter.unusedVariables false
set_option linter.unusedSimpArgs false
open Go.RowKit Go.Proofs.YtpnkkhichkmmmaaGreatDoorW.PrintWords Go.Proofs.YtpnkkhichkmmmaaGreatDoorW.PrintLast Go.Proofs.YtpnkkhichkmmmaaGreatDoorW.PrintMore
open Go.Shelf
def strings_Cut.f (a0 a1 : ByteArray) : Option (ByteArray × ByteArray × Bool) :=
  if a0.size < 4294967281 then some (⟨(Lib.cut a0.data.toList a1.data.toList).1.toArray⟩, ⟨(Lib.cut a0.data.toList a1.data.toList).2.1.toArray⟩, (Lib.cut a0.data.toList a1.data.toList).2.2) else none
theorem strings_Cut.calls (a0 a1 r1 r2 : ByteArray) (r3 : Bool) (w : World) (hG : GG w) (h : strings_Cut.f a0 a1 = some (r1, r2, r3)) :
    Calls Tryz.prog 32 #[.string a0, .string a1] w fun e w' => e = .returned (.tuple #[.string r1, .string r2, .bool r3]) ∧ Drawn0 w w' := by
  unfold strings_Cut.f at h
  by_cases hs : a0.size < 4294967281
  · rw [if_pos hs] at h
    simp only [Option.some.injEq, Prod.mk.injEq] at h
    obtain ⟨rfl, rfl, rfl⟩ := h
    obtain ⟨m, hm⟩ := hG
    exact (Any.strings_Cut Tryz.strCut a0 a1 m w hs hm).mono fun e w' ⟨he, n, hw⟩ => ⟨he, ⟨n, hw⟩⟩
  · rw [if_neg hs] at h; cases h
def strings_Split.f (a0 a1 : ByteArray) : Option (List ByteArray) :=
  if 1 ≤ a1.size ∧ a0.size < 4294967281 then some (Lib.splitB a1 0 (Lib.countB a0 a1) a0) else none
theorem reps_strs (xs : List ByteArray) : Reps (fun x c => c = [Value.string x]) 1 xs (xs.map Value.string) := by
  refine ⟨by simp, fun j p hj => ?_⟩
  have hjl : j < xs.length := by
    rcases Nat.lt_or_ge j xs.length with h | h
    · exact h
    · simp [List.getElem?_eq_none h] at hj
  rw [List.getElem?_eq_getElem hjl] at hj
  injection hj with hj
  subst hj
  rw [Nat.mul_one, List.drop_eq_getElem_cons (by simpa using hjl)]
  simp
theorem strs_made (W : World) (base : Nat) (xs : List ByteArray) (hb : base ≤ W.heap.size) (hm : xs.length ≤ 9223372036854775807) :
    Kd.R Kd.string 9 (W.alloc (.cells (xs.map Value.string).toArray 9)) base (fun k_ => W.heap.size ≤ k_) (.slice (some ⟨W.heap.size, 0, none⟩) xs.length xs.length) xs := by
  refine ⟨fun k hk => by simp only [Value.ownBlock, Option.some.injEq] at hk; omega, ?_⟩
  exact (OwnRow.lit W base (reps_strs xs) hb hm).imp_ (fun p c hp => by subst hp; exact rfl)
theorem strings_Split.calls (a0 a1 : ByteArray) (r : List ByteArray) (w : World) (hG : GG w) (h : strings_Split.f a0 a1 = some r) :
    Calls Tryz.prog 31 #[.string a0, .string a1] w fun e w' => ∃ v0_ : Value, e = .returned (v0_) ∧ Kd.R Kd.string 9 w' w.heap.size (fun _ => True) v0_ r ∧ Below w.heap.size w w' := by
  unfold strings_Split.f at h
  by_cases hs : 1 ≤ a1.size ∧ a0.size < 4294967281
  · rw [if_pos hs] at h
    obtain rfl := Option.some.inj h
    obtain ⟨m, hm⟩ := hG
    have hle := Lib.countB_le a1 hs.1 a0.size a0 (Nat.le_refl _)
    have hlen := Lib.splitB_all a1 hs.1 0 _ a0 rfl
    have hc := Any.strings_Split Tryz.strSplit info9 a0 a1 m w hs.2 hm hs.1
    rw [← hlen] at hc
    refine hc.mono ?_
    rintro e w' ⟨rfl, rfl⟩
    exact ⟨_, rfl, Kd.R_mono (strs_made w w.heap.size _ (Nat.le_refl _) (by rw [hlen]; omega)) (fun _ _ => trivial), below_alloc (Below.refl _ _) _⟩
  · rw [if_neg hs] at h; cases h
def strings_Join.f (l0 : List ByteArray) (a1 : ByteArray) : Option ByteArray :=
  if l0.length ≤ 140737488355328 ∧ (Lib.join (l0.map (·.data.toList)) a1.data.toList).length ≤ 140737488355328 then some ⟨(Lib.join (l0.map (·.data.toList)) a1.data.toList).toArray⟩ else none
theorem spot_none {w : World} {a : Addr} {v : Value} (h : w.cell? a = some v) : a.spot = none := by
  unfold World.cell? at h
  split at h
  · split at h
    · cases h
    · rename_i hs
      simpa using hs
  · cases h
theorem add_none {a : Addr} (h : a.spot = none) (j : Nat) : a.add j = ⟨a.block, a.off + j, none⟩ := by
  obtain ⟨b, o, s⟩ := a
  obtain rfl : s = none := h
  unfold Addr.add
  split <;> simp_all
theorem strings_Join.calls (A0 : Option Addr) (c0 : Nat) (l0 : List ByteArray) (a1 r : ByteArray) (w : World) (hr0 : Kd.C Kd.string w A0 l0.length l0) (hc0 : l0.length ≤ c0) (h : strings_Join.f l0 a1 = some r) :
    Calls Tryz.prog 36 #[.slice A0 l0.length c0, .string a1] w fun e w' => e = .returned (.string r) ∧ Below w.heap.size w w' := by
  unfold strings_Join.f at h
  by_cases hs : l0.length ≤ 140737488355328 ∧ (Lib.join (l0.map (·.data.toList)) a1.data.toList).length ≤ 140737488355328
  · rw [if_pos hs] at h
    obtain rfl := Option.some.inj h
    rcases Nat.eq_zero_or_pos l0.length with h0 | h0
    · obtain rfl : l0 = [] := List.eq_nil_of_length_eq_zero h0
      refine (Any.strings_Join_none Tryz.strJoin Tryz.strJoin_Extra A0 c0 a1 w).mono ?_
      rintro e w' ⟨rfl, rfl⟩
      exact ⟨by simp [Lib.join], Below.refl _ _⟩
    · obtain ⟨ad, rfl, hc⟩ := hr0.2.2 h0
      have hcell : ∀ (j : Nat) x, l0[j]? = some x → w.cell? (ad.add j) = some (.string x) := fun j x hj => by
        obtain ⟨c, hl, hK, hcc⟩ := hc j x hj
        have e : c = [.string x] := hK
        subst e
        have h1 : w.cell? (ad.add (j * 1 + 0)) = some (.string x) := hcc 0 _ rfl
        rwa [Nat.mul_one, Nat.add_zero] at h1
      have hsp : ad.spot = none := by
        have h1 := hcell 0 _ (List.getElem?_eq_getElem h0)
        have h2 := spot_none h1
        unfold Addr.add at h2
        split at h2 <;> simp_all
      have hbk : ad.block < w.heap.size := by
        have h1 := World.block_lt_of_cell? w _ (hcell 0 _ (List.getElem?_eq_getElem h0))
        rwa [add_block] at h1
      have e : ad = ⟨ad.block, ad.off, none⟩ := by obtain ⟨b, o, s⟩ := ad; obtain rfl : s = none := hsp; rfl
      rw [e]
      exact (Any.strings_Join Tryz.strJoin Tryz.strJoin_Extra ad.block ad.off c0 l0 a1 w (fun j x hj => by rw [← add_none hsp]; exact hcell j x hj) hbk hs.1 hc0 hs.2)
  · rw [if_neg hs] at h; cases h
end Go.Proofs.YtpnkkhichkmmmaaGreatDoor.Q
