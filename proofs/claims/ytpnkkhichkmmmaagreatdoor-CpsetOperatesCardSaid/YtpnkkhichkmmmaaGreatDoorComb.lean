/-
  DERIVED. cpset.combine, told by hand. (Written by a small program of mine: the two rounds of its first loop are alike.)
-/
import Derived.Test.YtpnkkhichkmmmaaGreatDoorCombT
namespace Go.Proofs.YtpnkkhichkmmmaaGreatDoor.Q
set_option linter.unusedVariables false
set_option linter.unusedSimpArgs false
open Go.RowKit Go.Proofs.YtpnkkhichkmmmaaGreatDoorW.PrintWords Go.Proofs.YtpnkkhichkmmmaaGreatDoorW.PrintLast Go.Proofs.YtpnkkhichkmmmaaGreatDoorW.PrintMore
open Go.Shelf
attribute [local go_sem] Oper.semAt_some
attribute [local go_sem] field_set field_lo field_hi

set_option maxRecDepth 100000 in
set_option maxHeartbeats 4000000 in
theorem combine_in (g : Nat) (kf : Bool → Bool → Bool) (eg : ∀ args w, (callFunc g args).run Tryz.prog w = .ok (.enter g args) w) (hg : ∀ x y W, Calls Tryz.prog g #[.bool x, .bool y] W fun e w' => e = .returned (.bool (kf x y)) ∧ w' = W)
    (k : Nat) (Aa : Option Addr) (ca : Nat) (la ya : List S32) (Ab : Option Addr) (cb : Nat) (lb yb : List S32) (w : World)
    (hra : Kd.C k32 w Aa la.length la) (hca : la.length ≤ ca) (hrb : Kd.C k32 w Ab lb.length lb) (hcb : lb.length ≤ cb)
    (hma : cpset_Make.f k la = some ya) (hmb : cpset_Make.f k lb = some yb) (r0_ : List S32) (hmr : cpset_Make.f k (pairL kf ya yb (([0, 1114112] ++ cutsV ya ++ cutsV yb).mergeSort fun x y => decide (x ≤ y))) = some r0_) (hya : ya.length < 879609302220) (hyb : yb.length < 879609302220) (hsa : ya.Pairwise fun a b => a.f1 ≤ b.f1) (hsb : yb.Pairwise fun a b => a.f1 ≤ b.f1) :
    Calls Tryz.prog 22 #[.agg #[.slice Aa la.length ca], .agg #[.slice Ab lb.length cb], .func (.func g) #[] #[]] w fun e w' => ∃ v0_, e = .returned (.agg #[v0_]) ∧ Kd.R k32 32 w' w.heap.size (fun _ => True) v0_ r0_ ∧ Below w.heap.size w w' := by
  refine (callsIn_wide (n := 6)).1 ?_
  have h1 : 1 ≤ 6 := by omega
  obtain ⟨i0, hi, hz0, hz1, hz2⟩ := info_parts infoI
  obtain ⟨iR, hR0, hR1, hR2, hR3⟩ := info_parts infoR
  have HSA := Aside0.mk hsa
  have HSB := Aside0.mk hsb
  clear hsa hsb
  have hyaL : ya.length < 4611686018427387904 := by omega
  have hybL : yb.length < 4611686018427387904 := by omega
  refine callsIn_of_wp_marks Tryz.func22 rfl trivial ?_ rfl
  simp only [Tryz.ntmps22, List.size_toArray, List.length_cons, List.length_nil, Nat.reduceAdd, Nat.reduceSub, Array.replicate_succ, Array.replicate_zero, List.push_toArray, List.append_toArray, List.nil_append, List.cons_append]
  have huS := Tryz.underlying24
  have huR := Tryz.underlying32
  gi_wp2
  have hB6 : Below w.heap.size w ((((((w.alloc (.cells #[.slice Aa la.length ca] 24)).alloc (.cells #[.slice Ab lb.length cb] 24)).alloc (.cells #[.slice none 0 0] 24)).alloc (.cells #[.int .i64 0, .int .i64 1114112] 3)).alloc (.cells #[.slice (some ⟨w.heap.size + 1 + 1 + 1, 0, none⟩) 2 2] 55)).alloc (.cells #[.slice Aa la.length ca, .slice Ab lb.length cb] 24)) := ((((((Below.refl _ w).alloc (Nat.le_refl _) _).alloc (by simp) _).alloc (by simp; omega) _).alloc (by simp; omega) _).alloc (by simp; omega) _).alloc (by simp; omega) _
  have hst := comb_start w (.slice Aa la.length ca) (.slice Ab lb.length cb) (.slice (some ⟨w.heap.size + 1 + 1 + 1, 0, none⟩) 2 2) _ _ rfl rfl
  have hc0 : CBase w.heap.size w (.slice Aa la.length ca) (.slice Ab lb.length cb) ((((((w.alloc (.cells #[.slice Aa la.length ca] 24)).alloc (.cells #[.slice Ab lb.length cb] 24)).alloc (.cells #[.slice none 0 0] 24)).alloc (.cells #[.int .i64 0, .int .i64 1114112] 3)).alloc (.cells #[.slice (some ⟨w.heap.size + 1 + 1 + 1, 0, none⟩) 2 2] 55)).alloc (.cells #[.slice Aa la.length ca, .slice Ab lb.length cb] 24)) := by
    exact ⟨hst.1, hst.2.1, hst.2.2.1, hst.2.2.2.2.2, hB6⟩
  have hu0 : CutsAt w.heap.size [0, 1114112] ((((((w.alloc (.cells #[.slice Aa la.length ca] 24)).alloc (.cells #[.slice Ab lb.length cb] 24)).alloc (.cells #[.slice none 0 0] 24)).alloc (.cells #[.int .i64 0, .int .i64 1114112] 3)).alloc (.cells #[.slice (some ⟨w.heap.size + 1 + 1 + 1, 0, none⟩) 2 2] 55)).alloc (.cells #[.slice Aa la.length ca, .slice Ab lb.length cb] 24)) := by
    refine ⟨_, hst.2.2.2.2.1, ⟨rfl, .inr ⟨w.heap.size + 1 + 1 + 1, 2, #[.int .i64 0, .int .i64 1114112], rfl, Nat.le_add_right _ 3, hst.2.2.2.1, Nat.le_refl _, by decide, rfl, rfl⟩⟩, trivial⟩
  obtain ⟨W0, hW0⟩ : ∃ W0, ((((((w.alloc (.cells #[.slice Aa la.length ca] 24)).alloc (.cells #[.slice Ab lb.length cb] 24)).alloc (.cells #[.slice none 0 0] 24)).alloc (.cells #[.int .i64 0, .int .i64 1114112] 3)).alloc (.cells #[.slice (some ⟨w.heap.size + 1 + 1 + 1, 0, none⟩) 2 2] 55)).alloc (.cells #[.slice Aa la.length ca, .slice Ab lb.length cb] 24)) = W0 := ⟨_, rfl⟩
  clear hst
  rw [hW0] at hB6 hc0 hu0 ⊢
  clear hW0
  have hra0 := Kd.C_below hra hB6
  have hrb0 := Kd.C_below hrb hB6
  refine wpIn_loop_rounds 3 ?_
  rw [roundsIn_succ]
  have hcl0 : W0.cell? ⟨w.heap.size + 1 + 1 + 1 + 1 + 1, 0, none⟩ = some (.slice Aa la.length ca) := by simp [World.cell?, hc0.l]
  gi_wp2_with (refine ⟨trivial, ?_⟩; gi_at_call 34; refine (ranges_in _ _ _).mono ?_; rintro e w' ⟨rfl, rfl⟩)
  have hbx0 : Below W0.heap.size W0 ((W0.alloc (.cells #[.slice Aa la.length ca] 24)).alloc (.cells #[.slice Aa la.length ca] 24)) := ((Below.refl _ W0).alloc (Nat.le_refl _) _).alloc (by simp) _
  have bR0 := Boxed.new (W0.alloc (.cells #[.slice Aa la.length ca] 24)) 24 (.slice Aa la.length ca)
  have hsx0 : ((W0.alloc (.cells #[.slice Aa la.length ca] 24)).alloc (.cells #[.slice Aa la.length ca] 24)).heap.size = W0.heap.size + 2 := by simp
  simp only [World.size_alloc] at bR0
  obtain ⟨X0, hX0⟩ : ∃ X0, ((W0.alloc (.cells #[.slice Aa la.length ca] 24)).alloc (.cells #[.slice Aa la.length ca] 24)) = X0 := ⟨_, rfl⟩
  rw [hX0] at hbx0 bR0 hsx0 ⊢
  clear hX0
  have hcx0 := CBase.step hc0 rfl hbx0
  have hux0 := CutsAt.step hu0 hbx0
  have hsz0 := (Array.getElem?_eq_some_iff.1 hcx0.l).1

  refine act_named ?_
  intro T0 hT0
  dsimp only at hT0
  refine wpIn_rangeFunc_ownH rfl h1 (gf := 47) (lb := #[.pointer (some ⟨W0.heap.size + 1, 0, none⟩)]) rfl trivial (enters_of Tryz.func47 (by kernel_rfl) rfl)
    (ranges_stops 5 (by omega) (W0.heap.size + 1) (W0.heap.size + 2) (w.heap.size + 1 + 1 + 1 + 1) k Aa ca la ya hma X0 (by omega) bR0.cell (Kd.C_below hra0 hbx0) hca (by omega) (by omega) (CutsAt.at hux0)) KeepRow.trans (KeepRow.bound X0 (by omega)) (Below.refl _ _) (fun _ => rfl)
    (fun pre W => CutsAt w.heap.size ([0, 1114112] ++ cutsV pre) W ∧ CBase w.heap.size w (.slice Aa la.length ca) (.slice Ab lb.length cb) W)
    (fun _ _ _ => False)
    (OwnFrom.and (Own.from (CutsAt.own _) _) (CBase.own (by omega)))
    (fun _ _ _ _ _ hs _ _ => hs)
    ⟨by simpa [cutsV] using hux0, hcx0⟩
    (fun x a' W => ∃ Bx, w.heap.size + 1 + 1 + 1 + 1 < Bx ∧ Pair W Bx x ∧ a' = { tmps := (T0.setIfInBounds 28 (encP x)).setIfInBounds 10 (.pointer (some ⟨Bx, 0, none⟩)), defers := [] })
    (fun x a' _ X Y row hs hg hr => by obtain ⟨Bx, h1, h2, h3⟩ := hs; exact ⟨Bx, h1, pair_own Bx x X Y row h2 hg (fun r e => (hr r e).2), h3⟩)
    ?assign0 ?body0 ?done0 ?stop0
  case assign0 =>
    rintro l pre x W K ⟨hu, hc⟩ hK
    gi_wp2
    have hal : Below W.heap.size W (W.alloc (.cells #[.int .i64 x.f0, .int .i64 x.f1] 32)) := (Below.refl _ W).alloc (Nat.le_refl _) _
    have hvl := (hc.below.size)
    exact hK _ _ ((KeepsOthers.alloc _ _).from _) (KeepRow.of_below (by have := (Array.getElem?_eq_some_iff.1 hc.l).1; omega) hal) ⟨CutsAt.step hu hal, CBase.step hc rfl hal⟩ ⟨W.heap.size, by have := (Array.getElem?_eq_some_iff.1 hc.l).1; omega, World.alloc_heap_new W _, by subst hT0; rfl⟩
  case body0 =>
    rintro l' pre x a' W hl ⟨r, hr⟩ ⟨hu, hc⟩ ⟨Bx, hBx, bX, rfl⟩ hlt
    obtain ⟨v, bN, hrow, _⟩ := hu
    obtain ⟨cX0, cX1⟩ := Pair.cells bX
    have cN := Boxed.cell bN
    have hln : ([0, 1114112] ++ cutsV pre).length ≤ 7036874417764 := by have := cutsV_len pre; have := cutsV_len ya; simp; omega
    have hzs : [0, 1114112] ++ cutsV (pre ++ [x]) = ([0, 1114112] ++ cutsV pre) ++ [x.f0, wrap64 (x.f1 + 1)] := by rw [cutsV_snoc]; simp only [List.append_assoc]
    obtain ⟨zz, hzz⟩ : ∃ zz, [0, 1114112] ++ cutsV pre = zz := ⟨_, rfl⟩
    rw [hzz] at hrow hln hzs
    clear hzz
    have HZ := Aside0.mk hzs
    clear hzs
    subst hT0
    simp only [List.setIfInBounds_toArray, List.set_cons_succ, List.set_cons_zero]
    gi_wp2_with (gi_at_builtin; refine wpListIn_append_own_at _ rfl _ _ 55 rfl w.heap.size 3 i0 (.int .i64 0) 1 8 Tryz.underlying55 hi hz0 hz1 hz2 rfl (by decide) _ _ _ rfl (hrow.alloc _) ⟨W.heap.size, 0, none⟩ 2 2 [.int .i64 x.f0, .int .i64 (wrap64 (x.f1 + 1))] rfl rfl (cell_two_new _ _ _ _) (by simp [Value.oneCell']) (by unfold maxLen; omega) (by omega) (by have := hc.below.size; simp; omega) ?_; intro v' w9 hown' hgrow _ hat; obtain ⟨g', cap', rfl⟩ := ownsRow_succ hown'; have hkr := KeepRow.appended bN (by decide) hrow (B := W0.heap.size + 2) (by omega) hgrow hat; obtain ⟨hv1, hv2, hr2, hk2, hb2⟩ := Boxed.appended bN (by decide) hrow hc.below.size (by omega) hown' hgrow; have hc1 := hv1.cell; have hf1 := hv1.frozen)
    refine ⟨hk2.from _, hkr, ⟨⟨_, hv2, ?_, trivial⟩, ⟨appended_other hrow hgrow hc.a (fun _ _ e => by cases e) (by omega), appended_other hrow hgrow hc.b (fun _ _ e => by cases e) (by omega), appended_other hrow hgrow hc.o (fun _ _ e => by cases e) (by omega), appended_other hrow hgrow hc.l (fun _ _ e => by cases e) (by omega), hc.below.trans hb2⟩⟩⟩
    rw [HZ.out]
    simpa using hr2
  case done0 =>
    rintro D0 ys W1 hD0 hys ⟨hu1, hc1⟩ hK0
    rw [hys] at hu1
    clear hys ys
    have hdl0 := (Array.getElem?_eq_some_iff.1 hK0).1
    subst hT0
    have hrb1 := Kd.C_below hrb hc1.below
    gi_wp2
    rw [roundsIn_succ]
    have hcl1 : W1.cell? ⟨w.heap.size + 1 + 1 + 1 + 1 + 1, 1, none⟩ = some (.slice Ab lb.length cb) := by simp [World.cell?, hc1.l]
    gi_wp2_with (refine ⟨trivial, ?_⟩; gi_at_call 34; refine (ranges_in _ _ _).mono ?_; rintro e w' ⟨rfl, rfl⟩)
    have hbx1 : Below W1.heap.size W1 ((W1.alloc (.cells #[.slice Ab lb.length cb] 24)).alloc (.cells #[.slice Ab lb.length cb] 24)) := ((Below.refl _ W1).alloc (Nat.le_refl _) _).alloc (by simp) _
    have bR1 := Boxed.new (W1.alloc (.cells #[.slice Ab lb.length cb] 24)) 24 (.slice Ab lb.length cb)
    have hsx1 : ((W1.alloc (.cells #[.slice Ab lb.length cb] 24)).alloc (.cells #[.slice Ab lb.length cb] 24)).heap.size = W1.heap.size + 2 := by simp
    simp only [World.size_alloc] at bR1
    obtain ⟨X1, hX1⟩ : ∃ X1, ((W1.alloc (.cells #[.slice Ab lb.length cb] 24)).alloc (.cells #[.slice Ab lb.length cb] 24)) = X1 := ⟨_, rfl⟩
    rw [hX1] at hbx1 bR1 hsx1 ⊢
    clear hX1
    have hcx1 := CBase.step hc1 rfl hbx1
    have hux1 := CutsAt.step hu1 hbx1
    have hsz1 := (Array.getElem?_eq_some_iff.1 hcx1.l).1
    have hdx1 := Below.heapEq hbx1 hK0
    refine act_named ?_
    intro T1 hT1
    dsimp only at hT1
    refine wpIn_rangeFunc_ownH rfl h1 (gf := 47) (lb := #[.pointer (some ⟨W1.heap.size + 1, 0, none⟩)]) rfl trivial (enters_of Tryz.func47 (by kernel_rfl) rfl)
      (ranges_stops 5 (by omega) (W1.heap.size + 1) (W1.heap.size + 2) (w.heap.size + 1 + 1 + 1 + 1) k Ab cb lb yb hmb X1 (by omega) bR1.cell (Kd.C_below hrb1 hbx1) hcb (by omega) (by omega) (CutsAt.at hux1)) KeepRow.trans (KeepRow.bound X1 (by omega)) (Below.refl _ _) (fun _ => rfl)
      (fun pre W => CutsAt w.heap.size (([0, 1114112] ++ cutsV ya) ++ cutsV pre) W ∧ CBase w.heap.size w (.slice Aa la.length ca) (.slice Ab lb.length cb) W ∧ W.heap[D0]? = some (.deferred (some [])))
      (fun _ _ _ => False)
      (OwnFrom.and (Own.from (CutsAt.own _) _) (OwnFrom.and (CBase.own (by omega)) (mark_own D0 _ _ (by omega))))
      (fun _ _ _ _ _ hs _ _ => hs)
      ⟨by simpa [cutsV] using hux1, hcx1, hdx1⟩
      (fun x a' W => ∃ Bx, w.heap.size + 1 + 1 + 1 + 1 < Bx ∧ Pair W Bx x ∧ a' = { tmps := (T1.setIfInBounds 28 (encP x)).setIfInBounds 10 (.pointer (some ⟨Bx, 0, none⟩)), defers := [] })
      (fun x a' _ X Y row hs hg hr => by obtain ⟨Bx, h1, h2, h3⟩ := hs; exact ⟨Bx, h1, pair_own Bx x X Y row h2 hg (fun r e => (hr r e).2), h3⟩)
      ?assign1 ?body1 ?done1 ?stop1
    case assign1 =>
      rintro l pre x W K ⟨hu, hc, hd0⟩ hK
      gi_wp2
      have hal : Below W.heap.size W (W.alloc (.cells #[.int .i64 x.f0, .int .i64 x.f1] 32)) := (Below.refl _ W).alloc (Nat.le_refl _) _
      have hvl := (hc.below.size)
      exact hK _ _ ((KeepsOthers.alloc _ _).from _) (KeepRow.of_below (by have := (Array.getElem?_eq_some_iff.1 hc.l).1; omega) hal) ⟨CutsAt.step hu hal, CBase.step hc rfl hal, (Below.heapEq hal hd0)⟩ ⟨W.heap.size, by have := (Array.getElem?_eq_some_iff.1 hc.l).1; omega, World.alloc_heap_new W _, by subst hT1; rfl⟩
    case body1 =>
      rintro l' pre x a' W hl ⟨r, hr⟩ ⟨hu, hc, hd0⟩ ⟨Bx, hBx, bX, rfl⟩ hlt
      obtain ⟨v, bN, hrow, _⟩ := hu
      obtain ⟨cX0, cX1⟩ := Pair.cells bX
      have cN := Boxed.cell bN
      have hln : (([0, 1114112] ++ cutsV ya) ++ cutsV pre).length ≤ 7036874417764 := by have := cutsV_len pre; have := cutsV_len ya; simp; omega
      have hzs : ([0, 1114112] ++ cutsV ya) ++ cutsV (pre ++ [x]) = (([0, 1114112] ++ cutsV ya) ++ cutsV pre) ++ [x.f0, wrap64 (x.f1 + 1)] := by rw [cutsV_snoc]; simp only [List.append_assoc]
      obtain ⟨zz, hzz⟩ : ∃ zz, ([0, 1114112] ++ cutsV ya) ++ cutsV pre = zz := ⟨_, rfl⟩
      rw [hzz] at hrow hln hzs
      clear hzz
      have HZ := Aside0.mk hzs
      clear hzs
      subst hT1
      simp only [List.setIfInBounds_toArray, List.set_cons_succ, List.set_cons_zero]
      gi_wp2_with (gi_at_builtin; refine wpListIn_append_own_at _ rfl _ _ 55 rfl w.heap.size 3 i0 (.int .i64 0) 1 8 Tryz.underlying55 hi hz0 hz1 hz2 rfl (by decide) _ _ _ rfl (hrow.alloc _) ⟨W.heap.size, 0, none⟩ 2 2 [.int .i64 x.f0, .int .i64 (wrap64 (x.f1 + 1))] rfl rfl (cell_two_new _ _ _ _) (by simp [Value.oneCell']) (by unfold maxLen; omega) (by omega) (by have := hc.below.size; simp; omega) ?_; intro v' w9 hown' hgrow _ hat; obtain ⟨g', cap', rfl⟩ := ownsRow_succ hown'; have hkr := KeepRow.appended bN (by decide) hrow (B := W1.heap.size + 2) (by omega) hgrow hat; obtain ⟨hv1, hv2, hr2, hk2, hb2⟩ := Boxed.appended bN (by decide) hrow hc.below.size (by omega) hown' hgrow; have hc1 := hv1.cell; have hf1 := hv1.frozen)
      refine ⟨hk2.from _, hkr, ⟨⟨_, hv2, ?_, trivial⟩, ⟨appended_other hrow hgrow hc.a (fun _ _ e => by cases e) (by omega), appended_other hrow hgrow hc.b (fun _ _ e => by cases e) (by omega), appended_other hrow hgrow hc.o (fun _ _ e => by cases e) (by omega), appended_other hrow hgrow hc.l (fun _ _ e => by cases e) (by omega), hc.below.trans hb2⟩, appended_other hrow hgrow hd0 (fun _ _ e => by cases e) (by omega)⟩⟩
      rw [HZ.out]
      simpa using hr2
    case done1 =>
      rintro D1 ys W2 hD1 hys ⟨hu2, hc2, hd0⟩ hK1
      rw [hys] at hu2
      clear hys ys
      have hdl1 := (Array.getElem?_eq_some_iff.1 hK1).1
      subst hT1
      have hDD : D0 < D1 := lt3 hdl0 hsx1 hD1
      have hd0w : w.heap.size ≤ D0 := Nat.le_trans hcx0.below.size hD0
      gi_wp2
      rw [roundsIn_succ]
      obtain ⟨v2, bV2, hrow2, _⟩ := hu2
      have hlz : ([0, 1114112] ++ cutsV ya ++ cutsV yb).length ≤ 7036874417764 := by have := cutsV_len yb; have := cutsV_len ya; simp; omega
      have hlz2 : 2 ≤ ([0, 1114112] ++ cutsV ya ++ cutsV yb).length := by simp
      obtain ⟨zz, hzz⟩ : ∃ zz, [0, 1114112] ++ cutsV ya ++ cutsV yb = zz := ⟨_, rfl⟩
      rw [hzz] at hrow2 hlz hlz2 hmr
      obtain ⟨g2, cap2, rfl⟩ : ∃ g2 cap2, v2 = .slice (some ⟨g2, 0, none⟩) zz.length cap2 := by
        rcases hrow2.2 with ⟨_, h0⟩ | ⟨g2, cap2, _, e, _⟩
        · omega
        · exact ⟨g2, cap2, e⟩
      have cV2 := Boxed.cell bV2
      have cA2 : W2.cell? ⟨w.heap.size, 0, none⟩ = some (.slice Aa la.length ca) := Boxed.cell hc2.a
      have cB2 : W2.cell? ⟨w.heap.size + 1, 0, none⟩ = some (.slice Ab lb.length cb) := Boxed.cell hc2.b
      gi_wp2_with (refine ⟨trivial, ?_⟩; gi_at_call 37; refine (callsIn_wide.2 (sortInts_in w.heap.size g2 cap2 zz W2 hrow2 (by omega))).mono ?_; rintro e W3 ⟨rfl, hrow3, hg3⟩)
      have hgo : ∀ {i : Nat} {o : Obj}, W2.heap[i]? = some o → (∀ cs fr, o ≠ .cells cs 3 fr) → W3.heap[i]? = some o := fun hi ho => grown_other hrow2 hg3 hi ho
      have hb23 : Below w.heap.size W2 W3 := by
        refine (Below.refl w.heap.size W2).grown hg3 hc2.below.size (fun k e => ?_)
        cases e
        rcases hrow2.2 with ⟨h, _⟩ | ⟨_, _, _, e, hb, _⟩
        · cases h
        · injection e with e1; injection e1 with e1; injection e1 with e1; subst e1; exact hb
      have hc3 : CBase w.heap.size w (.slice Aa la.length ca) (.slice Ab lb.length cb) W3 := ⟨hgo hc2.a (fun _ _ e => by cases e), hgo hc2.b (fun _ _ e => by cases e), hgo hc2.o (fun _ _ e => by cases e), hgo hc2.l (fun _ _ e => by cases e), hc2.below.trans hb23⟩
      have hV3 : Boxed W3 (w.heap.size + 1 + 1 + 1 + 1) 55 (.slice (some ⟨g2, 0, none⟩) zz.length cap2) := hgo bV2 (fun _ _ e => by cases e)
      have hM03 : W3.heap[D0]? = some (.deferred (some [])) := hgo hd0 (fun _ _ e => by cases e)
      have hM13 : W3.heap[D1]? = some (.deferred (some [])) := hgo hK1 (fun _ _ e => by cases e)
      have HRA3 := Aside0.mk (Kd.C_below hra hc3.below)
      have HRB3 := Aside0.mk (Kd.C_below hrb hc3.below)
      have cA3 : W3.cell? ⟨w.heap.size, 0, none⟩ = some (.slice Aa la.length ca) := Boxed.cell hc3.a
      have cB3 : W3.cell? ⟨w.heap.size + 1, 0, none⟩ = some (.slice Ab lb.length cb) := Boxed.cell hc3.b
      have hll : (zz.mergeSort fun x y => decide (x ≤ y)).length = zz.length := List.length_mergeSort zz
      obtain ⟨ss, hss⟩ : ∃ ss, (zz.mergeSort fun x y => decide (x ≤ y)) = ss := ⟨_, rfl⟩
      rw [hss] at hrow3 hll hmr
      have hlss : ss.length ≤ 7036874417764 := by rw [hll]; exact hlz
      have hlss1 : 1 ≤ ss.length := by rw [hll]; exact Nat.le_of_succ_le hlz2
      have hl3 : w.heap.size + 1 < W3.heap.size := (Array.getElem?_eq_some_iff.1 hc3.b).1
      have hfl1 : True := trivial
      clear cA2 cB2 cV2 hc2 hc1 hc0 hg3 hgo hrow2 bV2 hra0 hrb0 hrb1 hux0 hux1 hcx0 hcx1 hbx0 hbx1 bR0 bR1 hcl0 hcl1 hdx1 hu0 hu1 hK0 hK1 hd0 hB6
      have hmx : Tryz.prog.follows .mixedOrders = true := by kernel_rfl
      first | (gi_region_with_o (first | (clear hfl1; refine ⟨trivial, ?_⟩; gi_at_call 38; refine (callsIn_wide.2 (finder_in k Aa ca la ya _ (by first | exact HRA3.out | exact Kd.C_drew HRA3.out | exact Kd.C_drewN HRA3.out _) hca hma (by omega))).mono ?_; rintro e W4 ⟨l4, rfl, hl4, hFa, hb4⟩; have hb4' : Below W3.heap.size W3 W4 := (by first | exact hb4 | exact (below_drew (Below.refl _ _)).trans hb4 | exact (pw_below_drewN (Below.refl _ _) _).trans hb4); have cB4 := (hb4'.cell (p := ⟨w.heap.size + 1, 0, none⟩) hl3).trans cB3; have HRB4 := Aside0.mk (Kd.C_below HRB3.out hb4'); have HFA := Aside0.mk hFa; clear hFa) | (refine ⟨trivial, ?_⟩; gi_at_call 38; refine (callsIn_wide.2 (finder_in k Ab cb lb yb _ HRB4.out hcb hmb (by omega))).mono ?_; rintro e W5 ⟨l5, rfl, hl5, hFb, hb5⟩; have HFB := Aside0.mk hFb; clear hFb))) | fail "the region"
      all_goals (
        simp only [Exit.then]
        gi_step
        have hb35 : Below W3.heap.size W3 W5 := hb4'.trans (hb5.mono hb4'.size)
        have hc5 := CBase.step hc3 rfl hb35
        have hV5 := Boxed.below hV3 hb35
        have hrow5 := ownsRow_below hrow3 hb35
        have hM05 := Below.heapEq hb35 hM03
        have hM15 := Below.heapEq hb35 hM13
        have HFA5 := Aside0.mk (Finder.below HFA.out hb5)
        have hl5 : g2 < W5.heap.size := row_lt hrow5
        have hcells : ∀ j (hj : j < ss.length), W5.cell? ⟨g2, j, none⟩ = some (.int .i64 ss[j]) := ints_cells hll hrow5
        clear HFA hb5 hb35 hb4' hb4 cB4 HRB4 HRA3 HRB3 cA3 cB3 hc3 hV3 hrow3 hM03 hM13 hrow5
        exact combine_tail g kf eg hg k ya yb w r0_ HSA.out HSB.out hyaL hybL W5 D0 D1 hd0w hDD l4 l5 g2 cap2 zz ss hlss hlss1 hll hmr (CBase.o hc5) (CBase.below hc5) hV5 hl5 hcells hM05 hM15 HFA5 HFB _ _ _ _ _ _ _ _ _ _ _ _ _ _ _ _ _ _ _ _ _ _ _ _ _ _ _ _ _ _ _ _ _ _ _ _ _ _ _ _ _ _ _ _ _ _ _ _ _ _ _ _ _ _ _ _ _ _ _ _ _ _ _ _ _ _ _ _ _ _ _ _ _ _ _ _)
    case stop1 =>
      rintro D c pre W _ _ h _
      exact h.elim

  case stop0 =>
    rintro D c pre W _ _ h _
    exact h.elim
end Go.Proofs.YtpnkkhichkmmmaaGreatDoor.Q
