-- written by wip/mkprint.py: the kit's print over functions some of which are told by hand. Not trusted: Lean checks it.
import Derived.Test.YtpnkkhichkmmmaaDoorGQ0
import Derived.Test.YtpnkkhichkmmmaaDoorGQ11
import Derived.Test.YtpnkkhichkmmmaaDoorGQ5
import Derived.Test.YtpnkkhichkmmmaaDoorGOps
namespace Go.Proofs.YtpnkkhichkmmmaaDoor.Q
open Go.RowKit Go.Proofs.YtpnkkhichkmmmaaDoorW.PrintWords Go.Proofs.YtpnkkhichkmmmaaDoorW.PrintLast Go.Proofs.YtpnkkhichkmmmaaDoorW.PrintMore
attribute [local go_sem] max2_int min2_int max_two min_two
set_option linter.unusedVariables false
set_option linter.unusedSimpArgs false

/-! ### unicodetextlaw02_CpsetPoints: function 6 -/
def unicodetextlaw02_CpsetPoints.j0 : Nat → Int → Bool → Bool → Bool → List (S43) → List (S43) → Option (Bool)
  | 0, _, _, _, _, _, _ => none
  | k + 1, x2, x7, x8, x9, x434000, x435000 => (cpset_Or.f x434000 x435000).bind fun t439 => ((cpset_Has.f t439 x2).bind fun t442 => (if x7 = true then (if (t442 == true) = true then ((cpset_And.f x434000 x435000).bind fun t443 => ((cpset_Has.f t443 x2).bind fun t446 => (if (t446 == x8) = true then ((cpset_Minus.f x434000 x435000).bind fun t447 => ((cpset_Has.f t447 x2).bind fun t450 => (if (t450 == (!x8)) = true then ((cpset_Not.f x434000).bind fun t451 => ((cpset_Has.f t451 x2).bind fun t454 => (if x9 = true then (if (t454 == (!x7)) = true then ((unicodetextlaw02_alive.f k).bind fun t455 => (some t455)) else (some false)) else (if (t454 == false) = true then (some false) else (some false))))) else (some false)))) else (some false)))) else (some false)) else (if (t442 == x8) = true then ((cpset_And.f x434000 x435000).bind fun t456 => ((cpset_Has.f t456 x2).bind fun t459 => (if (t459 == false) = true then ((cpset_Minus.f x434000 x435000).bind fun t460 => ((cpset_Has.f t460 x2).bind fun t463 => (if (t463 == false) = true then ((cpset_Not.f x434000).bind fun t464 => ((cpset_Has.f t464 x2).bind fun t467 => (if x9 = true then (if (t467 == (!x7)) = true then ((unicodetextlaw02_alive.f k).bind fun t468 => (some t468)) else (some false)) else (if (t467 == false) = true then ((unicodetextlaw02_alive.f k).bind fun t469 => (some t469)) else (some false))))) else (some false)))) else (some false)))) else (some false))))
def unicodetextlaw02_CpsetPoints.f (k : Nat) (l0_0 : List (S43)) (l1_0 : List (S43)) (a2 : Int) : Option (Bool) := (unicodetextlaw02_small.f l0_0 l1_0).bind fun t435 => (if t435 = true then ((cpset_Has.f l0_0 a2).bind fun t437 => ((cpset_Has.f l1_0 a2).bind fun t438 => (if a2 ≥ 0 then (unicodetextlaw02_CpsetPoints.j0 k a2 t437 t438 (decide (a2 ≤ 1114111)) l0_0 l1_0) else (unicodetextlaw02_CpsetPoints.j0 k a2 t437 t438 false l0_0 l1_0)))) else ((unicodetextlaw02_alive.f k).bind fun t436 => (some t436)))
theorem unicodetextlaw02_CpsetPoints.mono_l : ∀ k, (∀ y0 y1 y2 y3 y4 y5, LeO (unicodetextlaw02_CpsetPoints.j0 k y0 y1 y2 y3 y4 y5) (unicodetextlaw02_CpsetPoints.j0 (k + 1) y0 y1 y2 y3 y4 y5))
  | 0 => fun _ _ _ _ _ _ r h => by simp [unicodetextlaw02_CpsetPoints.j0] at h
  | k + 1 => by
    have ih0 := unicodetextlaw02_CpsetPoints.mono_l k
    · intro y0 y1 y2 y3 y4 y5
      unfold unicodetextlaw02_CpsetPoints.j0
      repeat' first
      | (with_reducible exact ih0 _ _ _ _ _ _)
      | (with_reducible exact unicodetextlaw02_alive.mono _)
      | (with_reducible exact LeO.refl _)
      | (with_reducible exact LeO.none _)
      | (with_reducible refine LeO.ite ?_ ?_)
      | (with_reducible refine LeO.bind ?_ (fun _ => ?_))
      | exact ih0 _ _ _ _ _ _
      | exact unicodetextlaw02_alive.mono _
      | exact LeO.none _
      | refine LeO.ite ?_ ?_
      | refine LeO.bind ?_ (fun _ => ?_)
theorem unicodetextlaw02_CpsetPoints.mono : ∀ a0 a1 a2 k, LeO (unicodetextlaw02_CpsetPoints.f k a0 a1 a2) (unicodetextlaw02_CpsetPoints.f (k + 1) a0 a1 a2) := by
  intro a0 a1 a2 k
  have ih0 := unicodetextlaw02_CpsetPoints.mono_l k
  unfold unicodetextlaw02_CpsetPoints.f
  repeat' first
      | (with_reducible exact ih0 _ _ _ _ _ _)
      | (with_reducible exact unicodetextlaw02_alive.mono _)
      | (with_reducible exact LeO.refl _)
      | (with_reducible exact LeO.none _)
      | (with_reducible refine LeO.ite ?_ ?_)
      | (with_reducible refine LeO.bind ?_ (fun _ => ?_))
      | exact ih0 _ _ _ _ _ _
      | exact unicodetextlaw02_alive.mono _
      | exact LeO.none _
      | refine LeO.ite ?_ ?_
      | refine LeO.bind ?_ (fun _ => ?_)
attribute [local go_sem] field_set
/-! ### cpset_Subset: function 27 -/
def cpset_Subset.f (l0_0 : List (S43)) (l1_0 : List (S43)) : Option (Bool) := (cpset_Minus.f l0_0 l1_0).bind fun t472 => (some ((t472.length : Int) == 0))
set_option maxHeartbeats 8000000 in
set_option maxRecDepth 100000 in
theorem cpset_Subset.calls (A0_0 : Option Addr) (c0_0 : Nat) (l0_0 : List (S43)) (A1_0 : Option Addr) (c1_0 : Nat) (l1_0 : List (S43)) (r : Bool) (w : World) (hr0_0 : Kd.C k43 w A0_0 l0_0.length l0_0) (hc0_0 : l0_0.length ≤ c0_0) (hr1_0 : Kd.C k43 w A1_0 l1_0.length l1_0) (hc1_0 : l1_0.length ≤ c1_0) (h : cpset_Subset.f l0_0 l1_0 = some r) :
    Calls Tryd.prog 27 #[.agg #[.slice A0_0 l0_0.length c0_0], .agg #[.slice A1_0 l1_0.length c1_0]] w fun e w' => e = .returned (.bool r) ∧ Below w.heap.size w w' := by
  have hu24 := Tryd.underlying24
  have HR0_0 := Aside0.mk hr0_0
  have HC0_0 := Aside0.mk hc0_0
  clear hr0_0 hc0_0
  have HR1_0 := Aside0.mk hr1_0
  have HC1_0 := Aside0.mk hc1_0
  clear hr1_0 hc1_0
  have HB := Aside0.mk (Below.refl w.heap.size w)
  have H : ((cpset_Minus.f l0_0 l1_0).bind fun t472 => (some ((t472.length : Int) == 0))) = some r := h
  clear h
  replace H := Option.bind_eq_some_iff.mp H
  obtain ⟨t472, A30, H⟩ := H
  replace H : (some ((t472.length : Int) == 0)) = some r := H
  have A3 := Aside0.mk A30
  clear A30
  obtain rfl := Option.some.inj H
  go_enter Tryd.func27, Tryd.ntmps27
  go_wp2_with (first | ((with_reducible refine gate_dst (N := 2) rfl ?_); refine box_event ?hg (N := 2) ?hd (cs := #[.slice A0_0 l0_0.length c0_0]) (t := 24) ?hr ?_; (case hd => rfl); (case hg => rfl); (case hr => first | (go_simp; done) | (go_simp; rfl)); intro gb470 hg w4 hbox hb; have n0_ := Aside0.mk (below_step (by repeat (first | (with_reducible first | exact HB.out | apply below_alloc | apply pw_below_drewN | apply below_drew1) | exact HB.out)) hb); have n1_ := Aside0.mk (hbox); have n2_ := Aside0.mk ((by rw [hg]; exact (below_size (by repeat (first | (with_reducible first | exact HB.out | apply below_alloc | apply pw_below_drewN | apply below_drew1) | exact HB.out))) : w.heap.size ≤ gb470)); have n3_ := Aside0.mk ((by rw [hg]; exact (below_size (by repeat (first | (with_reducible first | exact HB.out | apply below_alloc | apply pw_below_drewN | apply below_drew1) | exact HB.out))) : w.heap.size ≤ gb470)); clear HB; have HB := n0_; have BK470 := n1_; have GW470 := n2_; have GE470 := n3_; clear n0_ n1_ n2_ n3_; clear hb hbox hg) | ((with_reducible refine gate_dst (N := 3) rfl ?_); refine box_event ?hg (N := 3) ?hd (cs := #[.slice A1_0 l1_0.length c1_0]) (t := 24) ?hr ?_; (case hd => rfl); (case hg => rfl); (case hr => first | (go_simp; done) | (go_simp; rfl)); intro gb471 hg w5 hbox hb; have n0_ := Aside0.mk (blk_below (g := gb470) (o := .cells #[.slice A0_0 l0_0.length c0_0] 24 (0, 0)) (by (with_reducible repeat (first | refine blk_drewN ?_ _ | refine blk_drew ?_ | refine blk_alloc ?_ _)); exact BK470.out) hb); have n1_ := Aside0.mk (below_step (by repeat (first | (with_reducible first | exact HB.out | apply below_alloc | apply pw_below_drewN | apply below_drew1 | refine below_set ?_ GE470.out) | exact HB.out)) hb); have n2_ := Aside0.mk (hbox); have n3_ := Aside0.mk ((by rw [hg]; exact (below_size (by repeat (first | (with_reducible first | exact HB.out | apply below_alloc | apply pw_below_drewN | apply below_drew1 | refine below_set ?_ GE470.out) | exact HB.out))) : w.heap.size ≤ gb471)); have n4_ := Aside0.mk ((by rw [hg]; exact (below_size (by repeat (first | (with_reducible first | exact HB.out | apply below_alloc | apply pw_below_drewN | apply below_drew1 | refine below_set ?_ GE470.out) | exact HB.out))) : w.heap.size ≤ gb471)); have n5_ := Aside0.mk ((by rw [hg]; exact Nat.ne_of_lt (blk_lt (g := gb470) (o := .cells #[.slice A0_0 l0_0.length c0_0] 24 (0, 0)) (by (with_reducible repeat (first | refine blk_drewN ?_ _ | refine blk_drew ?_ | refine blk_alloc ?_ _)); exact BK470.out)) : gb470 ≠ gb471)); have n6_ := Aside0.mk ((by rw [hg]; exact Nat.ne_of_gt (blk_lt (g := gb470) (o := .cells #[.slice A0_0 l0_0.length c0_0] 24 (0, 0)) (by (with_reducible repeat (first | refine blk_drewN ?_ _ | refine blk_drew ?_ | refine blk_alloc ?_ _)); exact BK470.out)) : gb471 ≠ gb470)); clear BK470; clear HB; have BK470 := n0_; have HB := n1_; have BK471 := n2_; have GW471 := n3_; have GE471 := n4_; have NB470_471 := n5_; have NB471_470 := n6_; clear n0_ n1_ n2_ n3_ n4_ n5_ n6_; clear hb hbox hg; have hnb6 := NB470_471.out; have hnc6 := NB471_470.out; have hcz7_0 : w5.cell? ⟨gb470, 0, none⟩ = some (.slice A0_0 l0_0.length c0_0) := (blk_cell BK470.out 0).trans rfl; have hfz7_0 := blk_frozen BK470.out 0; have hcz8_0 : w5.cell? ⟨gb471, 0, none⟩ = some (.slice A1_0 l1_0.length c1_0) := (blk_cell BK471.out 0).trans rfl; have hfz8_0 := blk_frozen BK471.out 0) | ((with_reducible refine gate_callee (f := 26) rfl ?_); refine goesL_ (some 7) rfl rfl Tryd.func26 (by kernel_rfl) rfl #[.agg #[.slice A0_0 l0_0.length c0_0], .agg #[.slice A1_0 l1_0.length c1_0]] rfl (by (try simp only [List.map_toArray, List.map_cons, List.map_nil]); first | done | rfl | (simp only [List.length_drop, List.length_take]; rfl)) ?_; (with_reducible refine (cpset_Minus.calls _ _ l0_0 _ _ l1_0 t472 _ ?side1 ?side2 ?side3 ?side4 A3.out).mono ?_); (case side1 => repeat (first | exact (Kd.C_below HR0_0.out HB.out) | (with_reducible refine Kd.C_alloc ?_ _) | (with_reducible refine Kd.C_drewN ?_ _) | (with_reducible refine Kd.C_drew ?_))); (case side2 => exact HC0_0.out); (case side3 => repeat (first | exact (Kd.C_below HR1_0.out HB.out) | (with_reducible refine Kd.C_alloc ?_ _) | (with_reducible refine Kd.C_drewN ?_ _) | (with_reducible refine Kd.C_drew ?_))); (case side4 => exact HC1_0.out); rintro e w9 ⟨v473, rfl, ho0, hb⟩; refine ⟨_, rfl, ?_⟩; have n0_ := Aside0.mk (Kd.R_lower ho0 (below_size (by repeat (first | (with_reducible first | exact HB.out | apply below_alloc | apply pw_below_drewN | apply below_drew1 | refine below_set ?_ GE470.out | refine below_set ?_ GE471.out) | exact HB.out)))); have n1_ := Aside0.mk (blk_below (g := gb470) (o := .cells #[.slice A0_0 l0_0.length c0_0] 24 (0, 0)) (by (with_reducible repeat (first | refine blk_drewN ?_ _ | refine blk_drew ?_ | refine blk_alloc ?_ _)); exact BK470.out) hb); have n2_ := Aside0.mk (blk_below (g := gb471) (o := .cells #[.slice A1_0 l1_0.length c1_0] 24 (0, 0)) (by (with_reducible repeat (first | refine blk_drewN ?_ _ | refine blk_drew ?_ | refine blk_alloc ?_ _)); exact BK471.out) hb); have n3_ := Aside0.mk (below_step (by repeat (first | (with_reducible first | exact HB.out | apply below_alloc | apply pw_below_drewN | apply below_drew1 | refine below_set ?_ GE470.out | refine below_set ?_ GE471.out) | exact HB.out)) hb); clear BK470; clear BK471; clear HB; have HO474 := n0_; have BK470 := n1_; have BK471 := n2_; have HB := n3_; clear n0_ n1_ n2_ n3_; (try clear hb); (try clear hb2); (try clear hk); (try clear hi); (try clear ho0); obtain ⟨Ao10, co10, eo10⟩ := Kd.R_slice HO474.out; subst eo10))
  go_ret
  exact ⟨by first | rfl | (simp [errW_none, errW_some] <;> rfl) | (simp [*, errW_none, errW_some] <;> rfl), by repeat (first | (with_reducible first | exact HB.out | apply below_alloc | apply pw_below_drewN | apply below_drew1 | refine below_set ?_ GE470.out | refine below_set ?_ GE471.out) | exact HB.out)⟩

-- NOT PRINTED: function 7 (unicodetextlaw02_CpsetOrders)

end Go.Proofs.YtpnkkhichkmmmaaDoor.Q
