/-
  DERIVED. slices.Collect over cpset.ranges, cpset.finder.
-/
import Derived.Test.YtpnkkhichkmmmaaGreatDoorRanges
import Derived.Test.YtpnkkhichkmmmaaGreatDoorSort
namespace Go.Proofs.YtpnkkhichkmmmaaGreatDoor.Q
set_option linter.unusedVariables false
set_option linter.unusedSimpArgs false
open Go.RowKit Go.Proofs.YtpnkkhichkmmmaaGreatDoorW.PrintWords Go.Proofs.YtpnkkhichkmmmaaGreatDoorW.PrintLast Go.Proofs.YtpnkkhichkmmmaaGreatDoorW.PrintMore
open Go.Shelf
attribute [local go_sem] Oper.semAt_some
attribute [local go_sem] field_set field_lo field_hi

def rowV (pre : List S32) : List Value := pre.flatMap encR
theorem rowV_snoc (pre : List S32) (x) : rowV (pre ++ [x]) = rowV pre ++ [.int .i64 x.f0, .int .i64 x.f1] := by simp [rowV, encR]
theorem rowV_len (pre : List S32) : (rowV pre).length = pre.length * 2 := by
  induction pre with
  | nil => rfl
  | cons x xs ih => simp [rowV, encR] at ih ⊢; omega
theorem reps_rowV (ps : List S32) : Reps (fun x c => c = encR x) 2 ps (rowV ps) := by
  refine ⟨rowV_len ps, fun j p hj => ?_⟩
  induction ps generalizing j with
  | nil => simp at hj
  | cons x xs ih =>
    cases j with
    | zero => simp at hj; subst hj; simp [rowV, encR]
    | succ j =>
      have := ih j (by simpa using hj)
      have e : rowV (x :: xs) = encR x ++ rowV xs := by simp [rowV]
      rw [e, show (j + 1) * 2 = j * 2 + 1 + 1 by omega]
      exact this
theorem infoR : (Tryz.prog.info? 32).map (fun i => (i.zero, i.size, i.bytes)) = some (some (.agg #[.int .i64 0, .int .i64 0]), 2, 16) := by kernel_rfl
theorem cell_two_new (w : World) (x y : Value) (t : TypeId) : ∀ j u, [x, y][j]? = some u → (w.alloc (.cells #[x, y] t)).cell? ((⟨w.heap.size, 0, none⟩ : Addr).add j) = some u := by
  intro j u hj
  match j, hj with
  | 0, hj =>
    simp at hj; subst hj
    simp [Addr.add]
  | 1, hj =>
    simp at hj; subst hj
    simp [Addr.add]

set_option maxRecDepth 100000 in
set_option maxHeartbeats 4000000 in
theorem AppendSeq_in (k : Nat) (Bs : Nat) (A : Option Addr) (c : Nat) (l ys : List S32) (w : World) (hBs : w.cell? ⟨Bs, 0, none⟩ = some (.slice A l.length c)) (hBl : Bs < w.heap.size) (hr : Kd.C k32 w A l.length l) (hc : l.length ≤ c) (hmk : cpset_Make.f k l = some ys) (hys : ys.length < 8796093022208) :
    Calls Tryz.prog 84 #[.slice none 0 0, .func (.func 47) #[] #[.pointer (some ⟨Bs, 0, none⟩)]] w fun e w' => ∃ v, e = .returned v ∧ Kd.R k32 32 w' w.heap.size (fun _ => True) v ys ∧ Below w.heap.size w w' := by
  refine (callsIn_wide (n := 6)).1 ?_
  have h1 : 1 ≤ 6 := by omega
  obtain ⟨i0, hi, hz0, hz1, hz2⟩ := info_parts infoR
  refine callsIn_of_wp_marks Tryz.func84 rfl trivial ?_ rfl
  simp only [Tryz.ntmps84, List.size_toArray, List.length_cons, List.length_nil, Nat.reduceAdd, Nat.reduceSub, Array.replicate_succ, Array.replicate_zero, List.push_toArray, List.append_toArray, List.nil_append, List.cons_append]
  have huS := Tryz.underlying24
  have huR := Tryz.underlying32
  gi_wp2
  have bN := Boxed.new w 22 (.slice none 0 0)
  have hB0 : Below w.heap.size w (w.alloc (.cells #[.slice none 0 0] 22)) := (Below.refl _ w).alloc (Nat.le_refl _) _
  have hsz : (w.alloc (.cells #[.slice none 0 0] 22)).heap.size = w.heap.size + 1 := by simp
  obtain ⟨W0, hW0⟩ : ∃ W0, w.alloc (.cells #[.slice none 0 0] 22) = W0 := ⟨_, rfl⟩
  rw [hW0] at bN hB0 hsz ⊢
  clear hW0
  refine wpIn_rangeFunc_ownH rfl h1 (gf := 47) (lb := #[.pointer (some ⟨Bs, 0, none⟩)]) rfl trivial (enters_of Tryz.func47 (by kernel_rfl) rfl)
    (ranges_stops 5 (by omega) Bs (w.heap.size + 1) w.heap.size k A c l ys hmk W0 (by omega) ((hB0.cell (p := ⟨Bs, 0, none⟩) hBl).trans hBs) (Kd.C_below hr hB0) hc (by omega) (by omega) (fun i hi => by unfold ownAt at hi; rw [bN.cell] at hi; cases hi)) KeepRow.trans (KeepRow.bound W0 (by omega)) (Below.refl _ _) (fun _ => rfl)
    (fun pre W => (∃ v, Boxed W w.heap.size 22 v ∧ W.ownsRow w.heap.size 32 2 v pre.length (rowV pre) ∧ True) ∧ Below w.heap.size w W)
    (fun _ _ _ => False)
    (OwnFrom.and (Own.from (holdsRow_own w.heap.size w.heap.size 22 32 2 (fun pre => pre.length) rowV (fun _ _ => True)) _) (ownFrom_below (Nat.le_refl _) (by omega)))
    (fun _ _ _ _ _ hs _ _ => hs)
    ⟨⟨_, bN, World.ownsRow_nil _ _ _ _, trivial⟩, hB0⟩
    (fun x a' W => ∃ Bx, Pair W Bx x ∧ a' = { tmps := #[.slice none 0 0, .func (.func 47) #[] #[.pointer (some ⟨Bs, 0, none⟩)], .pointer (some ⟨w.heap.size, 0, none⟩), undef, .slice none 0 0, .pointer (some ⟨Bx, 0, none⟩), .func (.func 47) #[] #[.pointer (some ⟨Bs, 0, none⟩)], encP x, undef, undef, undef, undef, undef], defers := [] })
    (fun x a' _ X Y row hs hg hr => by obtain ⟨Bx, h2, h3⟩ := hs; exact ⟨Bx, pair_own Bx x X Y row h2 hg (fun r e => (hr r e).2), h3⟩)
    ?assign ?body ?done ?stop
  case assign =>
    rintro l pre x W K ⟨⟨v, bN1, hrow, _⟩, hB1⟩ hK
    gi_wp2
    exact hK _ _ ((KeepsOthers.alloc _ _).from _) (KeepRow.of_below bN1.lt ((Below.refl _ W).alloc (Nat.le_refl _) _)) ⟨⟨v, bN1.alloc _, hrow.alloc _, trivial⟩, hB1.alloc hB1.size _⟩ ⟨W.heap.size, World.alloc_heap_new W _, rfl⟩
  case body =>
    rintro l' pre x a' W hl ⟨r, hr⟩ ⟨⟨v, bN1, hrow, _⟩, hB1⟩ ⟨Bx, bX, rfl⟩ hlt
    obtain ⟨cX0, cX1⟩ := bX.cells
    have cN := bN1.cell
    gi_wp2_with (gi_at_builtin; refine wpListIn_append_own_at _ rfl _ _ 22 rfl w.heap.size 32 i0 (.agg #[.int .i64 0, .int .i64 0]) 2 16 Tryz.underlying22 hi hz0 hz1 hz2 rfl (by decide) _ _ _ rfl (hrow.alloc _) ⟨W.heap.size, 0, none⟩ 1 1 [.int .i64 x.f0, .int .i64 x.f1] rfl rfl (cell_two_new _ _ _ _) (by simp [Value.oneCell']) (by unfold maxLen; omega) (by omega) (by have := hB1.size; simp; omega) ?_; intro v' w9 hown' hgrow _ hat; obtain ⟨g', cap', rfl⟩ := ownsRow_succ hown'; have hkr := KeepRow.appended bN1 (by decide) hrow (B := w.heap.size + 1) (by omega) hgrow hat; obtain ⟨hv1, hv2, hr2, hk2, hb2⟩ := Boxed.appended bN1 (by decide) hrow hB1.size (by omega) hown' hgrow; have hc1 := hv1.cell; have hf1 := hv1.frozen)
    exact ⟨hk2.from _, hkr, ⟨⟨_, hv2, by rw [rowV_snoc]; simpa using hr2, trivial⟩, hB1.trans hb2⟩⟩
  case done =>
    rintro D zs W hD rfl ⟨⟨v, bN1, hrow, _⟩, hB1⟩ hK
    have cN := bN1.cell
    have hR : Kd.R k32 32 (W.putObj D (.deferred none)) w.heap.size (fun _ => True) v zs := k32_R.2 ⟨fun _ _ => trivial, _, ownsRow_putObj hrow _ hK rfl, reps_rowV _⟩
    have HR := Aside0.mk hR
    clear hR
    gi_wp2
    refine ⟨by simp, .inl ⟨_, _, rfl, run_takeDeferred hK, ?_⟩⟩
    exact ⟨_, results_tmp rfl _ _ _, v, rfl, HR.out, hB1.trans (belowK_b (w := w) (Nat.le_refl _) W D _ _ (by omega) hK rfl rfl)⟩
  case stop =>
    rintro D c pre W _ _ h _
    exact h.elim

set_option maxRecDepth 100000 in
set_option maxHeartbeats 4000000 in
theorem Collect_in (k : Nat) (Bs : Nat) (A : Option Addr) (c : Nat) (l ys : List S32) (w : World) (hBs : w.cell? ⟨Bs, 0, none⟩ = some (.slice A l.length c)) (hBl : Bs < w.heap.size) (hr : Kd.C k32 w A l.length l) (hc : l.length ≤ c) (hmk : cpset_Make.f k l = some ys) (hys : ys.length < 8796093022208) :
    Calls Tryz.prog 53 #[.func (.func 47) #[] #[.pointer (some ⟨Bs, 0, none⟩)]] w fun e w' => ∃ v, e = .returned v ∧ Kd.R k32 32 w' w.heap.size (fun _ => True) v ys ∧ Below w.heap.size w w' := by
  have HA := AppendSeq_in k Bs A c l ys w hBs hBl hr hc hmk hys
  go_enter Tryz.func53, Tryz.ntmps53
  go_wp2_with (go_at_call 84; refine HA.mono ?_; rintro e w1 ⟨v, rfl, hR, hb⟩; have HR := Aside0.mk hR; clear hR)
  go_ret
  exact ⟨v, rfl, HR.out, hb⟩

/-- What a finder has captured: a box with the ranges. -/
def Finder (W : World) (lb : Nat) (ys : List S32) : Prop :=
  ∃ A c, Boxed W lb 22 (.slice A ys.length c) ∧ ys.length ≤ c ∧ Kd.C k32 W A ys.length ys
theorem Finder.below {W W' : World} {lb : Nat} {ys : List S32} (h : Finder W lb ys) (hb : Below W.heap.size W W') : Finder W' lb ys := by
  obtain ⟨A, c, h1, h2, h3⟩ := h
  exact ⟨A, c, Boxed.below h1 hb, h2, Kd.C_below h3 hb⟩

theorem ranges_calls (v : Value) (w : World) : Calls Tryz.prog 34 #[.agg #[v]] w fun e w' => e = .returned (.func (.func 47) #[] #[.pointer (some ⟨w.heap.size, 0, none⟩)]) ∧ w' = w.alloc (.cells #[v] 24) := callsIn_wide.1 (ranges_in 1 v w)

set_option maxRecDepth 100000 in
set_option maxHeartbeats 4000000 in
theorem finder_in (k : Nat) (A : Option Addr) (c : Nat) (l ys : List S32) (w : World) (hr : Kd.C k32 w A l.length l) (hc : l.length ≤ c) (hmk : cpset_Make.f k l = some ys) (hys : ys.length < 8796093022208) :
    Calls Tryz.prog 38 #[.agg #[.slice A l.length c]] w fun e w' => ∃ lb, e = .returned (.func (.func 54) #[] #[.pointer (some ⟨lb, 0, none⟩)]) ∧ w.heap.size ≤ lb ∧ Finder w' lb ys ∧ Below w.heap.size w w' := by
  have huS := Tryz.underlying24
  have hB2 : Below w.heap.size w ((w.alloc (.cells #[.slice A l.length c] 24)).alloc (.cells #[.slice A l.length c] 24)) := ((Below.refl _ w).alloc (Nat.le_refl _) _).alloc (by simp) _
  have bR := Boxed.new (w.alloc (.cells #[.slice A l.length c] 24)) 24 (.slice A l.length c)
  simp only [World.size_alloc] at bR
  have HC := Aside0.mk (Collect_in k _ A c l ys _ bR.cell bR.lt (Kd.C_below hr hB2) hc hmk hys)
  clear bR
  go_enter Tryz.func38, Tryz.ntmps38
  go_wp2_with (first | (go_at_call 34; refine (ranges_calls _ _).mono ?_; rintro e w1 ⟨rfl, rfl⟩) | (go_at_call 53; refine HC.out.mono ?_; rintro e w2 ⟨v, rfl, hR, hb⟩; obtain ⟨A1, c1, rfl, hc1, hC1⟩ := Kd.R_reads hR; have HC1 := Aside0.mk hC1; clear hR hC1))
  go_ret
  refine ⟨w2.heap.size, rfl, ?_, ⟨A1, c1, Boxed.new w2 _ _, hc1, Kd.C_alloc HC1.out _⟩, ?_⟩
  · have := hb.size; simp at this; omega
  · have := hb.size
    exact (hB2.trans (hb.mono (by simp; omega))).alloc (by simp at this; omega) _
end Go.Proofs.YtpnkkhichkmmmaaGreatDoor.Q
