/-
  DERIVED. cpset.Count, cpset.Nth, told by hand: loops over cpset.ranges.
-/
import Derived.Test.YtpnkkhichkmmmaaGreatDoorRanges
namespace Go.Proofs.YtpnkkhichkmmmaaGreatDoor.Q
set_option linter.unusedVariables false
set_option linter.unusedSimpArgs false
open Go.RowKit Go.Proofs.YtpnkkhichkmmmaaGreatDoorW.PrintWords Go.Proofs.YtpnkkhichkmmmaaGreatDoorW.PrintLast Go.Proofs.YtpnkkhichkmmmaaGreatDoorW.PrintMore
open Go.Shelf
attribute [local go_sem] Oper.semAt_some
attribute [local go_sem] field_set field_lo field_hi

def countL (ys : List S32) : Int := ys.foldl (fun n r => wrap64 (n + wrap64 (wrap64 (r.f1 - r.f0) + 1))) 0
theorem countL_snoc (ys : List S32) (r) : countL (ys ++ [r]) = wrap64 (countL ys + wrap64 (wrap64 (r.f1 - r.f0) + 1)) := by simp [countL]

set_option maxRecDepth 100000 in
set_option maxHeartbeats 4000000 in
theorem Count_in (k : Nat) (A : Option Addr) (c : Nat) (l ys : List S32) (w : World) (hr : Kd.C k32 w A l.length l) (hc : l.length ≤ c) (hmk : cpset_Make.f k l = some ys) :
    Calls Tryz.prog 21 #[.agg #[.slice A l.length c]] w fun e w' => e = .returned (.int .i64 (countL ys)) ∧ Below w.heap.size w w' := by
  refine (callsIn_wide (n := 6)).1 ?_
  have h1 : 1 ≤ 6 := by omega
  refine callsIn_of_wp_marks Tryz.func21 rfl trivial ?_ rfl
  simp only [Tryz.ntmps21, List.size_toArray, List.length_cons, List.length_nil, Nat.reduceAdd, Nat.reduceSub, Array.replicate_succ, Array.replicate_zero, List.push_toArray, List.append_toArray, List.nil_append, List.cons_append]
  have huS := Tryz.underlying24
  have huR := Tryz.underlying32
  gi_wp2_with (refine ⟨trivial, ?_⟩; gi_at_call 34; refine (ranges_in _ _ _).mono ?_; rintro e w' ⟨rfl, rfl⟩)
  have bS := ((Boxed.new w 24 (.slice A l.length c)).alloc (.cells #[.int .i64 0] 3)).alloc (.cells #[.slice A l.length c] 24)
  have bN := (Boxed.new (w.alloc (.cells #[.slice A l.length c] 24)) 3 (.int .i64 0)).alloc (.cells #[.slice A l.length c] 24)
  have bR := Boxed.new ((w.alloc (.cells #[.slice A l.length c] 24)).alloc (.cells #[.int .i64 0] 3)) 24 (.slice A l.length c)
  simp only [World.size_alloc] at bN bR
  have hB0 : Below w.heap.size w (((w.alloc (.cells #[.slice A l.length c] 24)).alloc (.cells #[.int .i64 0] 3)).alloc (.cells #[.slice A l.length c] 24)) := (((Below.refl _ w).alloc (Nat.le_refl _) _).alloc (by simp) _).alloc (by simp; omega) _
  have hsz : (((w.alloc (.cells #[.slice A l.length c] 24)).alloc (.cells #[.int .i64 0] 3)).alloc (.cells #[.slice A l.length c] 24)).heap.size = w.heap.size + 3 := by simp
  obtain ⟨W0, hW0⟩ : ∃ W0, ((w.alloc (.cells #[.slice A l.length c] 24)).alloc (.cells #[.int .i64 0] 3)).alloc (.cells #[.slice A l.length c] 24) = W0 := ⟨_, rfl⟩
  rw [hW0] at bS bN bR hB0 hsz ⊢
  clear hW0
  refine wpIn_rangeFunc_ownH rfl h1 (gf := 47) (lb := #[.pointer (some ⟨w.heap.size + 1 + 1, 0, none⟩)]) rfl trivial (enters_of Tryz.func47 (by kernel_rfl) rfl)
    (ranges_stops 5 (by omega) (w.heap.size + 1 + 1) (w.heap.size + 3) (w.heap.size + 1) k A c l ys hmk W0 (by omega) bR.cell (Kd.C_below hr hB0) hc (by omega) (by omega) (fun i hi => by unfold ownAt at hi; rw [bN.cell] at hi; cases hi)) KeepRow.trans (KeepRow.bound W0 (by omega)) (Below.refl _ _) (fun _ => rfl)
    (fun pre W => Boxed W (w.heap.size + 1) 3 (.int .i64 (countL pre)) ∧ Below w.heap.size w W)
    (fun _ _ _ => False)
    (OwnFrom.and (Own.from (boxed_own _ _ _) _) (ownFrom_below (Nat.le_refl _) (by omega)))
    (fun _ _ _ _ _ hs _ _ => hs)
    ⟨bN, hB0⟩
    (fun x a' W => ∃ Bx, Pair W Bx x ∧ a' = { tmps := #[.agg #[.slice A l.length c], .pointer (some ⟨w.heap.size, 0, none⟩), .int .i64 0, .pointer (some ⟨w.heap.size + 1, 0, none⟩), .pointer (some ⟨Bx, 0, none⟩), .agg #[.slice A l.length c], .func (.func 47) #[] #[.pointer (some ⟨w.heap.size + 1 + 1, 0, none⟩)], encP x, undef, undef, undef, undef, undef, undef, undef, undef, undef], defers := [] })
    (fun x a' _ X Y row hs hg hr => by obtain ⟨Bx, h2, h3⟩ := hs; exact ⟨Bx, pair_own Bx x X Y row h2 hg (fun r e => (hr r e).2), h3⟩)
    ?assign ?body ?done ?stop
  case assign =>
    rintro l pre x W K ⟨bN1, hB1⟩ hK
    gi_wp2
    exact hK _ _ ((KeepsOthers.alloc _ _).from _) (KeepRow.of_below bN1.lt ((Below.refl _ W).alloc (Nat.le_refl _) _)) ⟨bN1.alloc _, hB1.alloc hB1.size _⟩ ⟨W.heap.size, World.alloc_heap_new W _, rfl⟩
  case body =>
    rintro l' pre x a' W hl ⟨r, hr⟩ ⟨bN1, hB1⟩ ⟨Bx, bX, rfl⟩ hlt
    have cN := bN1.cell
    have fN := bN1.frozen
    obtain ⟨cX0, cX1⟩ := bX.cells
    gi_wp2
    exact ⟨(KeepsOthers.setCell _ _ _).from _, KeepRow.setInt cN (by omega) rfl, by rw [countL_snoc]; exact bN1.set _, hB1.setCell (p := ⟨w.heap.size + 1, 0, none⟩) (by simp) _⟩
  case done =>
    rintro D zs W hD rfl ⟨bN1, hB1⟩ hK
    have cN := bN1.cell
    gi_wp2
    refine ⟨by simp, .inl ⟨_, _, rfl, run_takeDeferred hK, ?_⟩⟩
    exact ⟨_, results_tmp rfl _ _ _, rfl, hB1.trans (belowK_b (w := w) (Nat.le_refl _) W D _ _ (by omega) hK rfl rfl)⟩
  case stop =>
    rintro D c pre W _ _ h _
    exact h.elim
def nthL : List S32 → Int → Int × Bool
  | [], _ => (0, false)
  | r :: rs, i => if i ≤ wrap64 (r.f1 - r.f0) then (wrap64 (r.f0 + i), true) else nthL rs (wrap64 (i - wrap64 (wrap64 (r.f1 - r.f0) + 1)))
theorem nth_snoc_go {pre : List S32} {x : S32} {i i' : Int} (h : ∀ rest, nthL (pre ++ rest) i = nthL rest i') (hx : ¬ i' ≤ wrap64 (x.f1 - x.f0)) (rest) : nthL ((pre ++ [x]) ++ rest) i = nthL rest (wrap64 (i' - wrap64 (wrap64 (x.f1 - x.f0) + 1))) := by
  rw [List.append_assoc, h]; simp [nthL, hx]
theorem nth_snoc_ret {pre : List S32} {x : S32} {i i' : Int} (h : ∀ rest, nthL (pre ++ rest) i = nthL rest i') (hx : i' ≤ wrap64 (x.f1 - x.f0)) (rest) : nthL ((pre ++ [x]) ++ rest) i = (wrap64 (x.f0 + i'), true) := by
  rw [List.append_assoc, h]; simp [nthL, hx]

end Go.Proofs.YtpnkkhichkmmmaaGreatDoor.Q
