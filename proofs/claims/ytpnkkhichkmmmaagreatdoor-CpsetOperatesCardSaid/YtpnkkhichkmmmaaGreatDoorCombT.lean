/-
  DERIVED. cpset.combine: its end, from the loop over the cuts.
-/
import Derived.Test.YtpnkkhichkmmmaaGreatDoorCombR0
import Derived.Test.YtpnkkhichkmmmaaGreatDoorCombR1
import Derived.Test.YtpnkkhichkmmmaaGreatDoorCombR2
import Derived.Test.YtpnkkhichkmmmaaGreatDoorCombR3
namespace Go.Proofs.YtpnkkhichkmmmaaGreatDoor.Q
set_option linter.unusedVariables false
set_option linter.unusedSimpArgs false
open Go.RowKit Go.Proofs.YtpnkkhichkmmmaaGreatDoorW.PrintWords Go.Proofs.YtpnkkhichkmmmaaGreatDoorW.PrintLast Go.Proofs.YtpnkkhichkmmmaaGreatDoorW.PrintMore
open Go.Shelf
attribute [local go_sem] Oper.semAt_some
attribute [local go_sem] field_set field_lo field_hi

theorem lt3 {a b c d : Nat} (h : a < b) (e : c = b + 2) (k : c ≤ d) : a < d := by omega
set_option maxRecDepth 100000 in
set_option maxHeartbeats 8000000 in
theorem combine_tail (g : Nat) (kf : Bool → Bool → Bool) (eg : ∀ args w, (callFunc g args).run Tryz.prog w = .ok (.enter g args) w) (hg : ∀ x y W, Calls Tryz.prog g #[.bool x, .bool y] W fun e w' => e = .returned (.bool (kf x y)) ∧ w' = W)
    (k : Nat) (ya yb : List S32) (w : World) (r : List S32) (hsa : ya.Pairwise fun a b => a.f1 ≤ b.f1) (hsb : yb.Pairwise fun a b => a.f1 ≤ b.f1) (hyaL : ya.length < 4611686018427387904) (hybL : yb.length < 4611686018427387904)
    (W5 : World) (D0 D1 : Nat) (hd0w : w.heap.size ≤ D0) (hDD : D0 < D1) (l4 l5 g2 cap2 : Nat) (zz ss : List Int) (hlss : ss.length ≤ 7036874417764) (hlss1 : 1 ≤ ss.length) (hll : ss.length = zz.length) (hmr : cpset_Make.f k (pairL kf ya yb ss) = some r)
    (hO5 : W5.heap[w.heap.size + 1 + 1]? = some (.cells #[.slice none 0 0] 24 (0, 0))) (hB5 : Below w.heap.size w W5) (hV5 : Boxed W5 (w.heap.size + 1 + 1 + 1 + 1) 55 (.slice (some ⟨g2, 0, none⟩) zz.length cap2)) (hl5 : g2 < W5.heap.size)
    (hcells : ∀ j (hj : j < ss.length), W5.cell? ⟨g2, j, none⟩ = some (.int .i64 ss[j])) (hM05 : W5.heap[D0]? = some (.deferred (some []))) (hM15 : W5.heap[D1]? = some (.deferred (some []))) (HFA5 : Aside0 (Finder W5 l4 ya)) (HFB : Aside0 (Finder W5 l5 yb))
    (t0 t1 t3 t4 t5 t8 t9 t10 t13 t14 t15 t16 t17 t18 t19 t20 t21 t22 t23 t24 t25 t26 t27 t28 t29 t30 t31 t32 t33 t34 t35 t36 t37 t38 t39 t40 t41 t42 t43 t44 t45 t46 t47 t48 t49 t50 t51 t52 t53 t54 t55 t56 t57 t58 t59 t60 t61 t62 t63 t64 t65 t66 t67 t68 t69 t70 t71 t72 t73 t74 t75 t76 t77 t78 t79 t80 : Value) :
    Code.wpIn Fence.wide 6 Tryz.prog combTail (bodyPostM Fence.wide 6 Tryz.prog Tryz.f22 fun e w' => ∃ v0_, e = .returned (.agg #[v0_]) ∧ Kd.R k32 32 w' w.heap.size (fun _ => True) v0_ r ∧ Below w.heap.size w w')
      { tmps := (t0 :: t1 :: .func (.func g) #[] #[] :: t3 :: t4 :: t5 :: .pointer (some ⟨w.heap.size + 1 + 1, 0, none⟩) :: .pointer (some ⟨w.heap.size + 1 + 1 + 1 + 1, 0, none⟩) :: t8 :: t9 :: t10 :: .func (.func 54) #[] #[.pointer (some ⟨l4, 0, none⟩)] :: .func (.func 54) #[] #[.pointer (some ⟨l5, 0, none⟩)] :: t13 :: t14 :: t15 :: t16 :: t17 :: t18 :: t19 :: t20 :: t21 :: t22 :: t23 :: t24 :: t25 :: t26 :: t27 :: t28 :: t29 :: t30 :: t31 :: t32 :: t33 :: t34 :: t35 :: t36 :: t37 :: t38 :: t39 :: t40 :: t41 :: t42 :: t43 :: t44 :: t45 :: t46 :: t47 :: t48 :: t49 :: t50 :: t51 :: t52 :: t53 :: t54 :: t55 :: t56 :: t57 :: t58 :: t59 :: t60 :: t61 :: t62 :: t63 :: t64 :: t65 :: t66 :: t67 :: t68 :: t69 :: t70 :: t71 :: t72 :: t73 :: t74 :: t75 :: t76 :: t77 :: t78 :: t79 :: t80 :: []).toArray, defers := [{ target := .collected D1, args := #[] }, { target := .collected D0, args := #[] }] } W5 := by
  obtain ⟨Q0, hQ0⟩ : ∃ Q0, (bodyPostM Fence.wide 6 Tryz.prog Tryz.f22 fun e w' => ∃ v0_, e = .returned (.agg #[v0_]) ∧ Kd.R k32 32 w' w.heap.size (fun _ => True) v0_ r ∧ Below w.heap.size w w') = Q0 := ⟨_, rfl⟩
  rw [hQ0]
  simp only [combTail, tlC, Tryz.f22, Option.getD_some]
  subst hQ0
  obtain ⟨iR, hR0, hR1, hR2, hR3⟩ := info_parts infoR
  have HSA := Aside0.mk hsa
  have HSB := Aside0.mk hsb
  have h1 : 1 ≤ 6 := by omega
  have huS := Tryz.underlying24
  have huR := Tryz.underlying32
  have hmx : Tryz.prog.follows .mixedOrders = true := by kernel_rfl
  clear hsa hsb
  have HCB := Aside0.mk (And.intro hO5 hB5)
  have HHMR := Aside0.mk hmr
  clear hO5 hB5 hmr
  have HMM := Aside0.mk (And.intro hM05 hM15)
  have HV5 := Aside0.mk hV5
  have HCE := Aside0.mk hcells
  clear hM05 hM15 hV5 hcells
  gi_wp2
  gi_loopw [13, 14] (fun o i wr => ∃ (m : Nat) (z : Int), m + 1 ≤ ss.length ∧ i = .int .i64 z ∧ Aside0 (z = (m : Int) + 1) ∧ Aside0 (wr.ownsRow W5.heap.size 32 2 o (pairL kf ya yb (ss.take (m + 1))).length (rowV (pairL kf ya yb (ss.take (m + 1))))) ∧ Aside0 (Below W5.heap.size W5 wr)) (fun _ i _ => ss.length - (intOf i).toNat)
  case atStart => exact ⟨0, 1, hlss1, rfl, ⟨rfl⟩, ⟨by rw [pairL_one hlss1]; exact World.ownsRow_nil _ _ _ _⟩, ⟨Below.refl _ _⟩⟩
  case round =>
    obtain ⟨m, z, hm, rfl, HZ1, HRW, HBW⟩ := hrel
    have cV6 := Boxed.cell (Boxed.below HV5.out HBW.out)
    have hy : z - 1 = (m : Int) := by rw [HZ1.out]; exact Int.add_sub_cancel _ _
    have hzw : wrap64 (z - 1) = z - 1 := wrap_zy hm hlss HZ1.out
    have hz1 : 1 ≤ z := by rw [HZ1.out]; exact Int.le_add_of_nonneg_left (Int.natCast_nonneg m)
    have hy0 : 0 ≤ z - 1 := by rw [hy]; exact Int.natCast_nonneg m
    have hyt : (z - 1).toNat = m := by rw [hy]; exact Int.toNat_natCast m
    have hz0 : 0 ≤ z := by rw [HZ1.out]; exact Int.le_add_one (Int.natCast_nonneg m)
    have hzt : z.toNat = m + 1 := by rw [HZ1.out]; exact Int.toNat_natCast (m + 1)
    by_cases hlt : m + 1 < ss.length
    · have hzl : z < (zz.length : Int) := lt_z hlt hll HZ1.out
      have hzd : decide (z < (zz.length : Int)) = true := decide_eq_true hzl
      have hyl : z - 1 < (zz.length : Int) := lt_y hlt hll hy
      have hyl2 : (z - 1).toNat < zz.length := by rw [hyt, ← hll]; exact Nat.lt_of_succ_lt hlt
      have cX0 := (HBW.out.cell (p := ⟨g2, m, none⟩) hl5).trans (HCE.out m (Nat.lt_of_succ_lt hlt))
      have cX1 := (HBW.out.cell (p := ⟨g2, m + 1, none⟩) hl5).trans (HCE.out (m + 1) hlt)
      have hst : ss.take (m + 2) = ss.take m ++ [ss[m], ss[m + 1]] := take_two hlt
      have hst1 : ss.take (m + 1) = ss.take m ++ [ss[m]] := by rw [List.take_add_one, List.getElem?_eq_getElem (Nat.lt_of_succ_lt hlt)]; rfl
      have HPL := Aside0.mk (pairL_snoc kf ya yb (ss.take m) ss[m] ss[m + 1])
      rw [← hst, ← hst1] at HPL
      clear hst hst1
      generalize ss[m] = a at cX0 HPL
      generalize ss[m + 1] = b at cX1 HPL
      have hyt2 : z.toNat - 1 = m := by rw [hzt]; rfl
      rw [← hyt2] at cX0
      clear hyt2
      rw [← hzt] at cX1
      have HY := Aside0.mk hy
      have HZT := Aside0.mk hzt
      have HYT := Aside0.mk hyt
      have HM := Aside0.mk hm
      have HLT := Aside0.mk hlt
      clear hy hzt hyt hm hlt
      gi_wp2
      gi_region_o
      have HBD := Aside0.mk (below_drew HBW.out)
      have HRD := Aside0.mk (ownsRow_below HRW.out (below_drew (Below.refl _ _)))
      have hzw2 : wrap64 (z + 1) = z + 1 := wrap_z1 HLT.out hlss HZ1.out
      clear cX0 cX1 cV6 hzd hyl hyl2 hzl hy0 hzw hz1
      have hfl2 : True := trivial
      have hfl3 : True := trivial
      generalize wrap64 (b - 1) = hv at HPL ⊢
      by_cases hle : a ≤ hv
      · cases hkf : kf (hasB ya a) (hasB yb a) with
        | false =>
          have HE := Aside0.mk (HPL.out.trans (by rw [if_neg (by rw [hkf]; simp), List.append_nil]))
          clear HPL
          refine ‹∀ (a : Act) (w : World), Code.wpIn Fence.wide 6 Tryz.prog _ _ a w → _› _ _ ?_
          refine comb_rest_no g kf eg hg ya yb HSA HSB hyaL hybL _ W5 _ l4 l5 _ a hv _ (pairL kf ya yb (ss.take (m + 1))) HFA5 HFB HRD HBD hle hkf _ _ _ _ _ _ _ _ _ _ _ _ _ _ _ _ _ _ _ _ _ _ _ _ _ _ _ _ _ _ _ _ _ _ _ _ _ _ _ _ _ _ _ _ _ _ _ _ _ _ _ _ _ _ _ _ _ _ _ _ _ _ _ _ _ _ _ _ _ _ _ _ _ _ _ ?_
          intro o' u60 u61 u62 u63 u64 u65 u66 u67 u68 u69 u70 u71 u72 u73 u74 u75 u76 u77 u78 W' HO' HB'
          clear HFA5 HFB HRD HBD hle hkf hg eg
          refine ‹∀ (a : Act) (w : World), Code.wpIn Fence.wide 6 Tryz.prog _ _ a w → _› _ _ ?_
          refine comb_r14 _ _ _ z _ _ _ _ _ _ _ _ _ _ _ _ _ _ _ _ _ _ _ _ _ _ _ _ _ _ _ _ _ _ _ _ _ _ _ _ _ _ _ _ _ _ _ _ _ _ _ _ _ _ _ _ _ _ _ _ _ _ _ _ _ _ _ _ _ _ _ _ _ _ _ _ _ _ _ _ _ _ _ _ ?_
          intro u48 u49
          as_aux_lemma =>
            gi_wp2
            go_roundw
            case rel => exact ⟨m + 1, wrap64 (z + 1), HLT.out, rfl, ⟨by rw [hzw2, HZ1.out]; rfl⟩, ⟨by rw [HE.out]; exact HO'.out⟩, HB'⟩
            case measure => rw [hzw2]; exact meas_z HZ1.out HLT.out
        | true =>
          have HE := Aside0.mk (HPL.out.trans (by rw [if_pos ⟨hle, hkf⟩]))
          have HLA := Aside0.mk (out_fits kf ya yb (ss.take (m + 1)) (Nat.le_trans (List.length_take_le _ _) HM.out) hlss).1
          have HLB := Aside0.mk (out_fits kf ya yb (ss.take (m + 1)) (Nat.le_trans (List.length_take_le _ _) HM.out) hlss).2
          clear HPL
          refine ‹∀ (a : Act) (w : World), Code.wpIn Fence.wide 6 Tryz.prog _ _ a w → _› _ _ ?_
          refine comb_rest_yes g kf eg hg ya yb HSA HSB hyaL hybL _ W5 _ l4 l5 _ a hv _ (pairL kf ya yb (ss.take (m + 1))) HFA5 HFB HRD HBD hle hkf h1 HLA HLB _ _ _ _ _ _ _ _ _ _ _ _ _ _ _ _ _ _ _ _ _ _ _ _ _ _ _ _ _ _ _ _ _ _ _ _ _ _ _ _ _ _ _ _ _ _ _ _ _ _ _ _ _ _ _ _ _ _ _ _ _ _ _ _ _ _ _ _ _ _ _ _ _ _ _ ?_
          intro o' u60 u61 u62 u63 u64 u65 u66 u67 u68 u69 u70 u71 u72 u73 u74 u75 u76 u77 u78 W' HO' HB'
          clear HFA5 HFB HRD HBD hle hkf hg eg
          refine ‹∀ (a : Act) (w : World), Code.wpIn Fence.wide 6 Tryz.prog _ _ a w → _› _ _ ?_
          refine comb_r14 _ _ _ z _ _ _ _ _ _ _ _ _ _ _ _ _ _ _ _ _ _ _ _ _ _ _ _ _ _ _ _ _ _ _ _ _ _ _ _ _ _ _ _ _ _ _ _ _ _ _ _ _ _ _ _ _ _ _ _ _ _ _ _ _ _ _ _ _ _ _ _ _ _ _ _ _ _ _ _ _ _ _ _ ?_
          intro u48 u49
          as_aux_lemma =>
            gi_wp2
            go_roundw
            case rel => exact ⟨m + 1, wrap64 (z + 1), HLT.out, rfl, ⟨by rw [hzw2, HZ1.out]; rfl⟩, ⟨by rw [HE.out]; exact HO'.out⟩, HB'⟩
            case measure => rw [hzw2]; exact meas_z HZ1.out HLT.out
      · have HE := Aside0.mk (HPL.out.trans (by rw [if_neg (fun h => hle h.1), List.append_nil]))
        clear HPL
        refine ‹∀ (a : Act) (w : World), Code.wpIn Fence.wide 6 Tryz.prog _ _ a w → _› _ _ ?_
        refine comb_rest_skip g kf eg hg ya yb HSA HSB hyaL hybL _ W5 _ l4 l5 _ a hv _ (pairL kf ya yb (ss.take (m + 1))) HFA5 HFB HRD HBD hle _ _ _ _ _ _ _ _ _ _ _ _ _ _ _ _ _ _ _ _ _ _ _ _ _ _ _ _ _ _ _ _ _ _ _ _ _ _ _ _ _ _ _ _ _ _ _ _ _ _ _ _ _ _ _ _ _ _ _ _ _ _ _ _ _ _ _ _ _ _ _ _ _ _ _ ?_
        intro o' u60 u61 u62 u63 u64 u65 u66 u67 u68 u69 u70 u71 u72 u73 u74 u75 u76 u77 u78 W' HO' HB'
        clear HFA5 HFB HRD HBD hle hg eg
        refine ‹∀ (a : Act) (w : World), Code.wpIn Fence.wide 6 Tryz.prog _ _ a w → _› _ _ ?_
        refine comb_r14 _ _ _ z _ _ _ _ _ _ _ _ _ _ _ _ _ _ _ _ _ _ _ _ _ _ _ _ _ _ _ _ _ _ _ _ _ _ _ _ _ _ _ _ _ _ _ _ _ _ _ _ _ _ _ _ _ _ _ _ _ _ _ _ _ _ _ _ _ _ _ _ _ _ _ _ _ _ _ _ _ _ _ _ ?_
        intro u48 u49
        as_aux_lemma =>
          gi_wp2
          go_roundw
          case rel => exact ⟨m + 1, wrap64 (z + 1), HLT.out, rfl, ⟨by rw [hzw2, HZ1.out]; rfl⟩, ⟨by rw [HE.out]; exact HO'.out⟩, HB'⟩
          case measure => rw [hzw2]; exact meas_z HZ1.out HLT.out
    · have hml : m + 1 = ss.length := Nat.le_antisymm hm (Nat.le_of_not_lt hlt)
      have hzd : decide (z < (zz.length : Int)) = false := decide_eq_false (by rw [HZ1.out, ← hll, ← hml]; exact Int.lt_irrefl _)
      have hto : ss.take (m + 1) = ss := by rw [hml, List.take_length]
      rw [hto] at HRW
      obtain ⟨ps, hps⟩ : ∃ ps, pairL kf ya yb ss = ps := ⟨_, rfl⟩
      rw [hps] at HRW HHMR
      have hRR : Kd.R k32 32 wr W5.heap.size (fun _ => True) _ ps := k32_R.2 ⟨fun _ _ => trivial, _, HRW.out, reps_rowV _⟩
      obtain ⟨A1, c1, e1, hc1, hC1⟩ := Kd.R_reads hRR
      subst e1
      have HC1 := Aside0.mk hC1
      have HO1 := Aside0.mk (Below.heapEq HBW.out HCB.out.1)
      have HM0 := Aside0.mk (Below.heapEq HBW.out HMM.out.1)
      have HM1 := Aside0.mk (Below.heapEq HBW.out HMM.out.2)
      clear hC1 hRR hto hml hlt hzw hy0 hy hyt hz0 hzt hz1 hps
      gi_wp2_with (refine ⟨trivial, ?_⟩; gi_at_call 18; refine (callsIn_wide.2 (cpset_Make.calls k _ c1 ps r wr HC1.out hc1 HHMR.out)).mono ?_; rintro e w1 ⟨v, rfl, hrow, hb1⟩; obtain ⟨A2, c2, rfl⟩ := Kd.R_slice hrow; have HROW := Aside0.mk hrow; have HB1 := Aside0.mk hb1; have bO2 := Below.heapEq hb1 HO1.out; have cO2 := Boxed.cell bO2; have fO2 := Boxed.frozen bO2; clear hrow hb1 bO2)
      have hszw := HCB.out.2.size
      have hW5r := HBW.out.size
      have hM0b := Below.heapEq HB1.out HM0.out
      have hM1b := Below.heapEq HB1.out HM1.out
      have hM0c := (KeepsOthers.setCell w1 ⟨w.heap.size + 1 + 1, 0, none⟩ (.slice A2 r.length c2)).same D0 _ hM0b rfl
      have hM1c := (KeepsOthers.setCell w1 ⟨w.heap.size + 1 + 1, 0, none⟩ (.slice A2 r.length c2)).same D1 _ hM1b rfl
      have hM0d : ((w1.setCell ⟨w.heap.size + 1 + 1, 0, none⟩ (.slice A2 r.length c2)).putObj D1 (.deferred none)).heap[D0]? = some (.deferred (some [])) := (World.putObj_heap_other (Nat.ne_of_lt hDD)).trans hM0c
      refine ⟨by simp, .inl ⟨_, _, rfl, run_takeDeferred hM1c, ?_⟩⟩
      refine ⟨by simp, .inl ⟨_, _, rfl, run_takeDeferred hM0d, ?_⟩⟩
      have bO3 := Boxed.set (.slice A2 r.length c2) (Below.heapEq HB1.out HO1.out)
      have hc4 := cell_kept (cell_kept (Boxed.cell bO3) (grownBy_putObj' _ D1 (.deferred none)) (fun r e => by cases e; exact ⟨_, hM1c, rfl⟩)) (grownBy_putObj' _ D0 (.deferred none)) (fun r e => by cases e; exact ⟨_, hM0d, rfl⟩)
      have hKR := comb_row HROW.out HB1.out hW5r hszw (Array.getElem?_eq_some_iff.1 HCB.out.1).1 hM1c hM0d
      have hBB := comb_below HCB.out.2 HBW.out HB1.out hM1c hM0d (.slice A2 r.length c2) hd0w (Nat.le_trans hd0w (Nat.le_of_lt hDD))
      refine ⟨.agg #[.slice A2 r.length c2], ?_, _, rfl, hKR, hBB⟩
      simp [results, Tryz.f22, go_sem, hc4]
end Go.Proofs.YtpnkkhichkmmmaaGreatDoor.Q
