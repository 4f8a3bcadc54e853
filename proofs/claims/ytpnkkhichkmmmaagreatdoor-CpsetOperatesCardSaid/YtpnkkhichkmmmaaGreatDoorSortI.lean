/-
  DERIVED. slices.Sort over ints, told by hand over an own row.
-/
import Derived.Test.YtpnkkhichkmmmaaGreatDoorRanges
import Derived.Test.YtpnkkhichkmmmaaGreatDoorLaySortI
import Derived.Shelf.Sort.Plain
namespace Go.Proofs.YtpnkkhichkmmmaaGreatDoor.Q
set_option linter.unusedVariables false
set_option linter.unusedSimpArgs false
open Go.RowKit Go.Proofs.YtpnkkhichkmmmaaGreatDoorW.PrintWords Go.Proofs.YtpnkkhichkmmmaaGreatDoorW.PrintLast Go.Proofs.YtpnkkhichkmmmaaGreatDoorW.PrintMore
open Go.Shelf Go.Lib Go.Sort

abbrev iV (zs : List Int) : List Value := zs.map (Value.int .i64)
theorem sortInts_in (base g cap : Nat) (zs : List Int) (W : World) (hown : W.ownsRow base 3 1 (.slice (some ⟨g, 0, none⟩) zs.length cap) zs.length (iV zs)) (hsz : zs.length < 4611686018427387904) :
    Calls Tryz.prog 37 #[.slice (some ⟨g, 0, none⟩) zs.length cap] W fun e w' => e = .returned (.tuple #[]) ∧ w'.ownsRow base 3 1 (.slice (some ⟨g, 0, none⟩) zs.length cap) zs.length (iV (zs.mergeSort fun x y => decide (x ≤ y))) ∧ W.grownBy w' (some g) := by
  obtain ⟨hl, h⟩ := hown
  rcases h with ⟨h, _⟩ | ⟨g', cap', cur, he, hg, hb, h1, h2, h3, h4⟩
  · cases h
  injection he with he1 he2 he3
  injection he1 with he1
  injection he1 with he1
  subst he1 he3
  have hH : Holds (Value.int .i64) W g 0 zs.toArray := by
    intro j hj
    have hj' : j < zs.length := by simpa using hj
    refine ⟨?_, by simp [World.frozen?, hb]⟩
    have e1 : cur[j]? = some (.int .i64 zs[j]) := by
      have e0 : (iV zs)[j]? = some (.int .i64 zs[j]) := by simp [hj']
      rw [← h4, Nat.mul_one, List.getElem?_take_of_lt hj', Array.getElem?_toList] at e0
      exact e0
    simp only [World.cell?, hb, Nat.zero_add, Option.isSome_none, Bool.false_eq_true, if_false]
    rw [e1]; simp [hj']
  refine (Any.slices_Sort_int Tryz.sortInt g 0 cap zs W hH (Array.getElem?_eq_some_iff.1 hb).1 hsz).mono ?_
  rintro e w' ⟨rfl, n, os, rfl⟩
  have hlen : (zs.mergeSort fun x y => decide (x ≤ y)).length = zs.length := List.length_mergeSort zs
  generalize zs.mergeSort (fun x y => decide (x ≤ y)) = ts at hlen ⊢
  have hgl : g < W.heap.size := (Array.getElem?_eq_some_iff.1 hb).1
  refine ⟨rfl, ⟨by simp [hlen], .inr ⟨g, cap, putCells (Value.int .i64) 0 ts.toArray cur, rfl, hg, ?_, h1, h2, by simp [putCells, h3], ?_⟩⟩, rfl, rfl, rfl, by simp, fun i hi hne => ?_⟩
  · rw [heap_grow_old _ _ (by simpa using hgl)]
    simp [putRow, mapBlock, Sort.ahead, Array.getElem?_modify, hb, onCells]
  · apply List.ext_getElem?
    intro j
    rw [Nat.mul_one]
    by_cases hj : j < zs.length
    · rw [List.getElem?_take_of_lt hj, Array.getElem?_toList]
      have : j < cur.size := by rw [h3]; omega
      simp [putCells, hlen, hj, this]
    · rw [List.getElem?_take_eq_none (by omega), List.getElem?_eq_none (by simp; omega)]
  · rw [heap_grow_old _ _ (by simpa using hi)]
    have : g ≠ i := fun e => hne (by rw [e])
    simp [putRow, mapBlock, Sort.ahead, Array.getElem?_modify, this]
end Go.Proofs.YtpnkkhichkmmmaaGreatDoor.Q
