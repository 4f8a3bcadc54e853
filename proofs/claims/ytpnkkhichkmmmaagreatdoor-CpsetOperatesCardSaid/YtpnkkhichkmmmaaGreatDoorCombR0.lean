/-
  DERIVED. cpset.combine: the second half of a round of its last loop: keep(inA(lo), inB(lo)), the range appended.
-/
import Derived.Test.YtpnkkhichkmmmaaGreatDoorCombT0
namespace Go.Proofs.YtpnkkhichkmmmaaGreatDoor.Q
set_option linter.unusedVariables false
set_option linter.unusedSimpArgs false
open Go.RowKit Go.Proofs.YtpnkkhichkmmmaaGreatDoorW.PrintWords Go.Proofs.YtpnkkhichkmmmaaGreatDoorW.PrintLast Go.Proofs.YtpnkkhichkmmmaaGreatDoorW.PrintMore
open Go.Shelf
attribute [local go_sem] Oper.semAt_some
attribute [local go_sem] field_set field_lo field_hi
set_option maxRecDepth 100000 in
set_option maxHeartbeats 8000000 in
theorem comb_rest_no (g : Nat) (kf : Bool → Bool → Bool) (eg : ∀ args w, (callFunc g args).run Tryz.prog w = .ok (.enter g args) w) (hg : ∀ x y W, Calls Tryz.prog g #[.bool x, .bool y] W fun e w' => e = .returned (.bool (kf x y)) ∧ w' = W)
    (ya yb : List S32) (hsa : Aside0 (ya.Pairwise fun a b => a.f1 ≤ b.f1)) (hsb : Aside0 (yb.Pairwise fun a b => a.f1 ≤ b.f1)) (hyaL : ya.length < 4611686018427387904) (hybL : yb.length < 4611686018427387904)
    (Q : Exit → Act → World → Prop) (W5 W : World) (l4 l5 : Nat) (ds : List Deferred) (a hv : Int) (o : Value) (os : List S32) (hFA : Aside0 (Finder W5 l4 ya)) (hFB : Aside0 (Finder W5 l5 yb))
    (HRD : Aside0 (W.ownsRow W5.heap.size 32 2 o os.length (rowV os))) (HBD : Aside0 (Below W5.heap.size W5 W)) (hle : a ≤ hv) (hkf : kf (hasB ya a) (hasB yb a) = false)
    (t0 t1 t3 t4 t5 t6 t7 t8 t9 t10 t14 t17 t18 t19 t20 t21 t22 t23 t24 t25 t26 t27 t28 t29 t30 t31 t32 t33 t34 t35 t36 t37 t38 t39 t40 t41 t42 t43 t44 t45 t46 t47 t48 t49 t50 t51 t52 t53 t54 t55 t56 t57 t58 t59 t79 t80 u60 u61 u62 u63 u64 u65 u66 u67 u68 u69 u70 u71 u72 u73 u74 u75 u76 u77 u78 : Value)
    (HQ : ∀ (o' : Value) (u60 u61 u62 u63 u64 u65 u66 u67 u68 u69 u70 u71 u72 u73 u74 u75 u76 u77 u78 : Value) (W' : World), Aside0 (W'.ownsRow W5.heap.size 32 2 o' (os).length (rowV (os))) → Aside0 (Below W5.heap.size W5 W') → Q .normal { tmps := (t0 :: t1 :: .func (.func g) #[] #[] :: t3 :: t4 :: t5 :: t6 :: t7 :: t8 :: t9 :: t10 :: .func (.func 54) #[] #[.pointer (some ⟨l4, 0, none⟩)] :: .func (.func 54) #[] #[.pointer (some ⟨l5, 0, none⟩)] :: o' :: t14 :: .int .i64 a :: .int .i64 hv :: t17 :: t18 :: t19 :: t20 :: t21 :: t22 :: t23 :: t24 :: t25 :: t26 :: t27 :: t28 :: t29 :: t30 :: t31 :: t32 :: t33 :: t34 :: t35 :: t36 :: t37 :: t38 :: t39 :: t40 :: t41 :: t42 :: t43 :: t44 :: t45 :: t46 :: t47 :: t48 :: t49 :: t50 :: t51 :: t52 :: t53 :: t54 :: t55 :: t56 :: t57 :: t58 :: t59 :: u60 :: u61 :: u62 :: u63 :: u64 :: u65 :: u66 :: u67 :: u68 :: u69 :: u70 :: u71 :: u72 :: u73 :: u74 :: u75 :: u76 :: u77 :: u78 :: t79 :: t80 :: []).toArray, defers := ds } W') :
    Code.wpIn Fence.wide 6 Tryz.prog combC16 Q { tmps := (t0 :: t1 :: .func (.func g) #[] #[] :: t3 :: t4 :: t5 :: t6 :: t7 :: t8 :: t9 :: t10 :: .func (.func 54) #[] #[.pointer (some ⟨l4, 0, none⟩)] :: .func (.func 54) #[] #[.pointer (some ⟨l5, 0, none⟩)] :: o :: t14 :: .int .i64 a :: .int .i64 hv :: t17 :: t18 :: t19 :: t20 :: t21 :: t22 :: t23 :: t24 :: t25 :: t26 :: t27 :: t28 :: t29 :: t30 :: t31 :: t32 :: t33 :: t34 :: t35 :: t36 :: t37 :: t38 :: t39 :: t40 :: t41 :: t42 :: t43 :: t44 :: t45 :: t46 :: t47 :: t48 :: t49 :: t50 :: t51 :: t52 :: t53 :: t54 :: t55 :: t56 :: t57 :: t58 :: t59 :: u60 :: u61 :: u62 :: u63 :: u64 :: u65 :: u66 :: u67 :: u68 :: u69 :: u70 :: u71 :: u72 :: u73 :: u74 :: u75 :: u76 :: u77 :: u78 :: t79 :: t80 :: []).toArray, defers := ds } W := by
  simp only [combC16, hdC, inB, combTail, tlC, Tryz.f22, Option.getD_some]
  have hd : decide (a ≤ hv) = true := decide_eq_true hle
  have HSA := hsa
  have HSB := hsb
  have HFA5 := hFA
  have HFB5 := hFB
  have hfl2 : True := trivial
  have hfl3 : True := trivial
  clear hsa hsb hFA hFB
  refine wpIn_wide.2 ?_
  go_wp2_with (first | (clear hfl2; go_at_call 54; refine (finder1_in l4 ya a _ (Finder.below HFA5.out HBD.out) HSA.out hyaL).mono ?_; rintro e W6 ⟨rfl, hb6⟩; have HB6 := Aside0.mk (below_then HBD.out hb6); have HR6 := Aside0.mk (ownsRow_below HRD.out hb6); clear hb6) | (clear hfl3; go_at_call 54; refine (finder1_in l5 yb a _ (Finder.below HFB5.out HB6.out) HSB.out hybL).mono ?_; rintro e W7 ⟨rfl, hb7⟩; have HB7 := Aside0.mk (below_then HB6.out hb7); have HR7 := Aside0.mk (ownsRow_below HR6.out hb7); clear hb7) | (refine (hg _ _ _).mono ?_; rintro e W8 ⟨rfl, rfl⟩; (try rw [hkf])))
  exact HQ _ _ _ _ _ _ _ _ _ _ _ _ _ _ _ _ _ _ _ _ _ HR7 HB7
end Go.Proofs.YtpnkkhichkmmmaaGreatDoor.Q
