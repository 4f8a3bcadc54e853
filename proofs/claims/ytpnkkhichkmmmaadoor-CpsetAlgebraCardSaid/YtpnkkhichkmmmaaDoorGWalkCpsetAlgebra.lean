/-
  DERIVED. CpsetAlgebra: a call's walk, by the tables of XAbs. Written by wip/genalg.py.
-/
import Derived.Test.YtpnkkhichkmmmaaDoorGAlg
namespace Go.Proofs.YtpnkkhichkmmmaaDoor.Q
set_option linter.unusedVariables false
set_option linter.unusedSimpArgs false
open Go Go.RowKit Go.Proofs.YtpnkkhichkmmmaaDoorW.PrintWords Go.Proofs.YtpnkkhichkmmmaaDoorW.PrintLast Go.Proofs.YtpnkkhichkmmmaaDoorW.PrintMore
def algn1_E0 (a b c : List Rg) : Nat → AV := kindsOf [AV.set a, AV.set b, AV.set c]
def algn1_0_T : List (List Nat × Nat) := [([0], 3), ([1], 4), ([2], 5), ([], 6)]
def algn1_0_V (a b c : List Rg) : List AV := [AV.sbox a, AV.sbox b, AV.sbox c, AV.bool false]
def algn1_E1 (a b c : List Rg) : Nat → AV := upd (algn1_E0 a b c) algn1_0_T (algn1_0_V a b c)
theorem algn1_0_chk : seqOk 142 (opsOf Tryd.f5 0) algn1_0_T = true := by kernel_rfl
set_option maxRecDepth 100000 in
set_option maxHeartbeats 8000000 in
theorem algn1_0_ok {w0 : World} (a b c : List Rg) (hs : (decide (a.length ≤ 12) && decide (b.length ≤ 12)) = false) (hG : GG w0) : AllOk Tryd.prog (opsOf Tryd.f5 0) (algn1_E1 a b c) w0 algn1_0_T 0 :=
  ⟨op_box 0 a (g := none) (by kernel_rfl) trivial (by decide) rfl rfl,
   op_box 1 b (g := none) (by kernel_rfl) trivial (by decide) rfl rfl,
   op_box 2 c (g := none) (by kernel_rfl) trivial (by decide) rfl rfl,
   op_assignc (.bool false) (g := none) (by kernel_rfl) trivial rfl,
   trivial⟩
def algn1_1_T : List (List Nat × Nat) := [([3], 10), ([4], 11), ([10, 11], 12), ([12], 13), ([13], 14), ([14], 15), ([14], 16), ([14], 17), ([14], 18)]
def algn1_1_V (a b c : List Rg) : List AV := [AV.set a, AV.set b, AV.bool false, AV.bool true, AV.bool true, AV.is undef, AV.is undef, AV.is undef, AV.bool true]
def algn1_E2 (a b c : List Rg) : Nat → AV := upd (algn1_E1 a b c) algn1_1_T (algn1_1_V a b c)
theorem algn1_1_chk : seqOk 142 (opsOf Tryd.f5 1) algn1_1_T = true := by kernel_rfl
set_option maxRecDepth 100000 in
set_option maxHeartbeats 8000000 in
theorem algn1_1_ok {w0 : World} (a b c : List Rg) (hs : (decide (a.length ≤ 12) && decide (b.length ≤ 12)) = false) (hG : GG w0) : AllOk Tryd.prog (opsOf Tryd.f5 1) (algn1_E2 a b c) w0 algn1_1_T 0 :=
  ⟨op_load 3 a (g := none) (by kernel_rfl) trivial (by decide) rfl rfl,
   op_load 4 b (g := none) (by kernel_rfl) trivial (by decide) rfl rfl,
   op_call 22 [10, 11] #[24, 24] _ (g := none) (by kernel_rfl) trivial Tryd.func22 (by kernel_rfl) rfl (by decide) rfl (c_small2 hs) rfl,
   op_not 12 false (g := none) (by kernel_rfl) trivial (by decide) rfl rfl,
   op_move 13 (g := none) (by kernel_rfl) trivial (by decide) rfl,
   op_skip (j := 4) (b := false) 14 true (by kernel_rfl) (by kernel_rfl) (by decide) rfl rfl rfl,
   op_skip (j := 4) (b := false) 14 true (by kernel_rfl) (by kernel_rfl) (by decide) rfl rfl rfl,
   op_skip (j := 4) (b := false) 14 true (by kernel_rfl) (by kernel_rfl) (by decide) rfl rfl rfl,
   op_pick_tc 14 (.bool true) (.tmp 17) (g := none) (by kernel_rfl) trivial (by decide) rfl rfl,
   trivial⟩
def algn1_2_T : List (List Nat × Nat) := [([], 19), ([19], 6)]
def algn1_2_V (a b c : List Rg) : List AV := [AV.bool true, AV.bool true]
def algn1_E3 (a b c : List Rg) : Nat → AV := upd (algn1_E2 a b c) algn1_2_T (algn1_2_V a b c)
theorem algn1_2_chk : seqOk 142 (opsOf Tryd.f5 2) algn1_2_T = true := by kernel_rfl
set_option maxRecDepth 100000 in
set_option maxHeartbeats 8000000 in
theorem algn1_2_ok {w0 : World} (a b c : List Rg) (hs : (decide (a.length ≤ 12) && decide (b.length ≤ 12)) = false) (hG : GG w0) : AllOk Tryd.prog (opsOf Tryd.f5 2) (algn1_E3 a b c) w0 algn1_2_T 0 :=
  ⟨op_call 13 [] #[] _ (g := none) (by kernel_rfl) trivial Tryd.func13 (by kernel_rfl) rfl (by decide) rfl (c_alive hG) rfl,
   op_assign 19 (g := none) (by kernel_rfl) trivial (by decide) rfl,
   trivial⟩
set_option maxRecDepth 100000 in
set_option maxHeartbeats 8000000 in
theorem algn1_calls {w : World} (a b c : List Rg) (hs : (decide (a.length ≤ 12) && decide (b.length ≤ 12)) = false) (hG : GG w) {vs : List Value} (hF : Fits2 w [AV.set a, AV.set b, AV.set c] vs) (hL : vs.length = 3) : Calls Tryd.prog 5 vs.toArray w fun e w' => e = .returned (.bool true) ∧ Below w.heap.size w w' := by
  refine calls_abs (N := 142) (c := (.seq (.region 0 (opsOf Tryd.f5 0) false) (.seq (.seq (.region 1 (opsOf Tryd.f5 1) false) (.cond (.tmp 18) (.seq (.region 2 (opsOf Tryd.f5 2) false) .ret) .skip)) (.seq (.region 3 (opsOf Tryd.f5 3) false) (.seq (.region 4 (opsOf Tryd.f5 4) false) (.seq (.seq (.region 5 (opsOf Tryd.f5 5) true) (.cond (.tmp 68) (.seq (.region 6 (opsOf Tryd.f5 6) false) .ret) .skip)) (.seq (.seq (.region 7 (opsOf Tryd.f5 7) true) (.cond (.tmp 108) (.seq (.region 8 (opsOf Tryd.f5 8) false) .ret) .skip)) (.seq (.region 9 (opsOf Tryd.f5 9) true) .ret)))))))) Tryd.func5 (by kernel_rfl) (by rw [hL]; rfl) hF (fun a_ S => ?_)
  replace S : St 142 (algn1_E0 a b c) _ _ _ _ := S
  refine wp_seq ?_
  refine region_seq (N := 142) (E0 := (algn1_E0 a b c)) (tab := algn1_0_T) (vals := algn1_0_V a b c) (by kernel_rfl) algn1_0_chk (algn1_0_ok a b c hs hG) S (fun a_ w_ S => ?_)
  refine then_normal ?_
  refine wp_seq ?_
  refine wp_seq ?_
  refine region_seq (N := 142) (E0 := (algn1_E1 a b c)) (tab := algn1_1_T) (vals := algn1_1_V a b c) (by kernel_rfl) algn1_1_chk (algn1_1_ok a b c hs hG) S (fun a_ w_ S => ?_)
  refine then_normal ?_
  refine wp_cond_true (S.eval 18 (by decide) rfl) ?_
  refine wp_seq ?_
  refine region_seq (N := 142) (E0 := (algn1_E2 a b c)) (tab := algn1_2_T) (vals := algn1_2_V a b c) (by kernel_rfl) algn1_2_chk (algn1_2_ok a b c hs hG) S (fun a_ w_ S => ?_)
  refine then_normal ?_
  refine wp_ret ?_
  repeat (with_reducible refine then_ret ?_)
  exact post_ret (fn := Tryd.f5) 6 (by kernel_rfl) S (by decide) (x := .bool true) rfl ⟨rfl, S.below⟩
def algn2_E0 (a b c : List Rg) : Nat → AV := kindsOf [AV.set a, AV.set b, AV.set c]
def algn2_0_T : List (List Nat × Nat) := [([0], 3), ([1], 4), ([2], 5), ([], 6)]
def algn2_0_V (a b c : List Rg) : List AV := [AV.sbox a, AV.sbox b, AV.sbox c, AV.bool false]
def algn2_E1 (a b c : List Rg) : Nat → AV := upd (algn2_E0 a b c) algn2_0_T (algn2_0_V a b c)
theorem algn2_0_chk : seqOk 142 (opsOf Tryd.f5 0) algn2_0_T = true := by kernel_rfl
set_option maxRecDepth 100000 in
set_option maxHeartbeats 8000000 in
theorem algn2_0_ok {w0 : World} (a b c : List Rg) (hs : (decide (a.length ≤ 12) && decide (b.length ≤ 12)) = true) (hc : decide (c.length ≤ 12) = false) (hG : GG w0) : AllOk Tryd.prog (opsOf Tryd.f5 0) (algn2_E1 a b c) w0 algn2_0_T 0 :=
  ⟨op_box 0 a (g := none) (by kernel_rfl) trivial (by decide) rfl rfl,
   op_box 1 b (g := none) (by kernel_rfl) trivial (by decide) rfl rfl,
   op_box 2 c (g := none) (by kernel_rfl) trivial (by decide) rfl rfl,
   op_assignc (.bool false) (g := none) (by kernel_rfl) trivial rfl,
   trivial⟩
def algn2_1_T : List (List Nat × Nat) := [([3], 10), ([4], 11), ([10, 11], 12), ([12], 13), ([13], 14), ([14, 5], 15), ([14, 15], 16), ([14, 16], 17), ([14, 17], 18)]
def algn2_1_V (a b c : List Rg) : List AV := [AV.set a, AV.set b, AV.bool true, AV.bool false, AV.bool false, AV.set c, AV.bool false, AV.bool true, AV.bool true]
def algn2_E2 (a b c : List Rg) : Nat → AV := upd (algn2_E1 a b c) algn2_1_T (algn2_1_V a b c)
theorem algn2_1_chk : seqOk 142 (opsOf Tryd.f5 1) algn2_1_T = true := by kernel_rfl
set_option maxRecDepth 100000 in
set_option maxHeartbeats 8000000 in
theorem algn2_1_ok {w0 : World} (a b c : List Rg) (hs : (decide (a.length ≤ 12) && decide (b.length ≤ 12)) = true) (hc : decide (c.length ≤ 12) = false) (hG : GG w0) : AllOk Tryd.prog (opsOf Tryd.f5 1) (algn2_E2 a b c) w0 algn2_1_T 0 :=
  ⟨op_load 3 a (g := none) (by kernel_rfl) trivial (by decide) rfl rfl,
   op_load 4 b (g := none) (by kernel_rfl) trivial (by decide) rfl rfl,
   op_call 22 [10, 11] #[24, 24] _ (g := none) (by kernel_rfl) trivial Tryd.func22 (by kernel_rfl) rfl (by decide) rfl (c_small2 hs) rfl,
   op_not 12 true (g := none) (by kernel_rfl) trivial (by decide) rfl rfl,
   op_move 13 (g := none) (by kernel_rfl) trivial (by decide) rfl,
   op_load 5 c (g := some (4, false)) (by kernel_rfl) ⟨14, by kernel_rfl, by decide, rfl⟩ (by decide) rfl rfl,
   op_call 12 [15] #[24] _ (g := some (4, false)) (by kernel_rfl) ⟨14, by kernel_rfl, by decide, rfl⟩ Tryd.func12 (by kernel_rfl) rfl (by decide) rfl (c_small hc) rfl,
   op_not 16 false (g := some (4, false)) (by kernel_rfl) ⟨14, by kernel_rfl, by decide, rfl⟩ (by decide) rfl rfl,
   op_pick_f 14 17 (.const (.bool true)) (g := none) (by kernel_rfl) trivial (by decide) (by decide) rfl rfl,
   trivial⟩
def algn2_2_T : List (List Nat × Nat) := [([], 19), ([19], 6)]
def algn2_2_V (a b c : List Rg) : List AV := [AV.bool true, AV.bool true]
def algn2_E3 (a b c : List Rg) : Nat → AV := upd (algn2_E2 a b c) algn2_2_T (algn2_2_V a b c)
theorem algn2_2_chk : seqOk 142 (opsOf Tryd.f5 2) algn2_2_T = true := by kernel_rfl
set_option maxRecDepth 100000 in
set_option maxHeartbeats 8000000 in
theorem algn2_2_ok {w0 : World} (a b c : List Rg) (hs : (decide (a.length ≤ 12) && decide (b.length ≤ 12)) = true) (hc : decide (c.length ≤ 12) = false) (hG : GG w0) : AllOk Tryd.prog (opsOf Tryd.f5 2) (algn2_E3 a b c) w0 algn2_2_T 0 :=
  ⟨op_call 13 [] #[] _ (g := none) (by kernel_rfl) trivial Tryd.func13 (by kernel_rfl) rfl (by decide) rfl (c_alive hG) rfl,
   op_assign 19 (g := none) (by kernel_rfl) trivial (by decide) rfl,
   trivial⟩
set_option maxRecDepth 100000 in
set_option maxHeartbeats 8000000 in
theorem algn2_calls {w : World} (a b c : List Rg) (hs : (decide (a.length ≤ 12) && decide (b.length ≤ 12)) = true) (hc : decide (c.length ≤ 12) = false) (hG : GG w) {vs : List Value} (hF : Fits2 w [AV.set a, AV.set b, AV.set c] vs) (hL : vs.length = 3) : Calls Tryd.prog 5 vs.toArray w fun e w' => e = .returned (.bool true) ∧ Below w.heap.size w w' := by
  refine calls_abs (N := 142) (c := (.seq (.region 0 (opsOf Tryd.f5 0) false) (.seq (.seq (.region 1 (opsOf Tryd.f5 1) false) (.cond (.tmp 18) (.seq (.region 2 (opsOf Tryd.f5 2) false) .ret) .skip)) (.seq (.region 3 (opsOf Tryd.f5 3) false) (.seq (.region 4 (opsOf Tryd.f5 4) false) (.seq (.seq (.region 5 (opsOf Tryd.f5 5) true) (.cond (.tmp 68) (.seq (.region 6 (opsOf Tryd.f5 6) false) .ret) .skip)) (.seq (.seq (.region 7 (opsOf Tryd.f5 7) true) (.cond (.tmp 108) (.seq (.region 8 (opsOf Tryd.f5 8) false) .ret) .skip)) (.seq (.region 9 (opsOf Tryd.f5 9) true) .ret)))))))) Tryd.func5 (by kernel_rfl) (by rw [hL]; rfl) hF (fun a_ S => ?_)
  replace S : St 142 (algn2_E0 a b c) _ _ _ _ := S
  refine wp_seq ?_
  refine region_seq (N := 142) (E0 := (algn2_E0 a b c)) (tab := algn2_0_T) (vals := algn2_0_V a b c) (by kernel_rfl) algn2_0_chk (algn2_0_ok a b c hs hc hG) S (fun a_ w_ S => ?_)
  refine then_normal ?_
  refine wp_seq ?_
  refine wp_seq ?_
  refine region_seq (N := 142) (E0 := (algn2_E1 a b c)) (tab := algn2_1_T) (vals := algn2_1_V a b c) (by kernel_rfl) algn2_1_chk (algn2_1_ok a b c hs hc hG) S (fun a_ w_ S => ?_)
  refine then_normal ?_
  refine wp_cond_true (S.eval 18 (by decide) rfl) ?_
  refine wp_seq ?_
  refine region_seq (N := 142) (E0 := (algn2_E2 a b c)) (tab := algn2_2_T) (vals := algn2_2_V a b c) (by kernel_rfl) algn2_2_chk (algn2_2_ok a b c hs hc hG) S (fun a_ w_ S => ?_)
  refine then_normal ?_
  refine wp_ret ?_
  repeat (with_reducible refine then_ret ?_)
  exact post_ret (fn := Tryd.f5) 6 (by kernel_rfl) S (by decide) (x := .bool true) rfl ⟨rfl, S.below⟩
def algy_E0 (a b c : List Rg) : Nat → AV := kindsOf [AV.set a, AV.set b, AV.set c]
def algy_0_T : List (List Nat × Nat) := [([0], 3), ([1], 4), ([2], 5), ([], 6)]
def algy_0_V (a b c : List Rg) : List AV := [AV.sbox a, AV.sbox b, AV.sbox c, AV.bool false]
def algy_E1 (a b c : List Rg) : Nat → AV := upd (algy_E0 a b c) algy_0_T (algy_0_V a b c)
theorem algy_0_chk : seqOk 142 (opsOf Tryd.f5 0) algy_0_T = true := by kernel_rfl
set_option maxRecDepth 100000 in
set_option maxHeartbeats 8000000 in
theorem algy_0_ok {w0 : World} (a b c : List Rg)  (la : a.length ≤ 12) (lb : b.length ≤ 12) (lc : c.length ≤ 12) (hG : GG w0) : AllOk Tryd.prog (opsOf Tryd.f5 0) (algy_E1 a b c) w0 algy_0_T 0 :=
  ⟨op_box 0 a (g := none) (by kernel_rfl) trivial (by decide) rfl rfl,
   op_box 1 b (g := none) (by kernel_rfl) trivial (by decide) rfl rfl,
   op_box 2 c (g := none) (by kernel_rfl) trivial (by decide) rfl rfl,
   op_assignc (.bool false) (g := none) (by kernel_rfl) trivial rfl,
   trivial⟩
def algy_1_T : List (List Nat × Nat) := [([3], 10), ([4], 11), ([10, 11], 12), ([12], 13), ([13], 14), ([14, 5], 15), ([14, 15], 16), ([14, 16], 17), ([14, 17], 18)]
def algy_1_V (a b c : List Rg) : List AV := [AV.set a, AV.set b, AV.bool true, AV.bool false, AV.bool false, AV.set c, AV.bool true, AV.bool false, AV.bool false]
def algy_E2 (a b c : List Rg) : Nat → AV := upd (algy_E1 a b c) algy_1_T (algy_1_V a b c)
theorem algy_1_chk : seqOk 142 (opsOf Tryd.f5 1) algy_1_T = true := by kernel_rfl
set_option maxRecDepth 100000 in
set_option maxHeartbeats 8000000 in
theorem algy_1_ok {w0 : World} (a b c : List Rg)  (la : a.length ≤ 12) (lb : b.length ≤ 12) (lc : c.length ≤ 12) (hG : GG w0) : AllOk Tryd.prog (opsOf Tryd.f5 1) (algy_E2 a b c) w0 algy_1_T 0 :=
  ⟨op_load 3 a (g := none) (by kernel_rfl) trivial (by decide) rfl rfl,
   op_load 4 b (g := none) (by kernel_rfl) trivial (by decide) rfl rfl,
   op_call 22 [10, 11] #[24, 24] _ (g := none) (by kernel_rfl) trivial Tryd.func22 (by kernel_rfl) rfl (by decide) rfl (c_small2 (by rw [decide_eq_true la, decide_eq_true lb]; rfl)) rfl,
   op_not 12 true (g := none) (by kernel_rfl) trivial (by decide) rfl rfl,
   op_move 13 (g := none) (by kernel_rfl) trivial (by decide) rfl,
   op_load 5 c (g := some (4, false)) (by kernel_rfl) ⟨14, by kernel_rfl, by decide, rfl⟩ (by decide) rfl rfl,
   op_call 12 [15] #[24] _ (g := some (4, false)) (by kernel_rfl) ⟨14, by kernel_rfl, by decide, rfl⟩ Tryd.func12 (by kernel_rfl) rfl (by decide) rfl (c_small (decide_eq_true lc)) rfl,
   op_not 16 true (g := some (4, false)) (by kernel_rfl) ⟨14, by kernel_rfl, by decide, rfl⟩ (by decide) rfl rfl,
   op_pick_f 14 17 (.const (.bool true)) (g := none) (by kernel_rfl) trivial (by decide) (by decide) rfl rfl,
   trivial⟩
def algy_3_T : List (List Nat × Nat) := [([], 20), ([3], 21), ([21], 22), ([22], 23)]
def algy_3_V (a b c : List Rg) : List AV := [AV.set ([]), AV.sbox a, AV.row a, AV.set (makeL a)]
def algy_E3 (a b c : List Rg) : Nat → AV := upd (algy_E2 a b c) algy_3_T (algy_3_V a b c)
theorem algy_3_chk : seqOk 142 (opsOf Tryd.f5 3) algy_3_T = true := by kernel_rfl
set_option maxRecDepth 100000 in
set_option maxHeartbeats 8000000 in
theorem algy_3_ok {w0 : World} (a b c : List Rg)  (la : a.length ≤ 12) (lb : b.length ≤ 12) (lc : c.length ≤ 12) (hG : GG w0) : AllOk Tryd.prog (opsOf Tryd.f5 3) (algy_E3 a b c) w0 algy_3_T 0 :=
  ⟨op_build0 (g := none) (by kernel_rfl) trivial rfl,
   op_faddr 3 a (g := none) (by kernel_rfl) trivial (by decide) rfl rfl,
   op_loadrow 21 a (g := none) (by kernel_rfl) trivial (by decide) rfl rfl,
   op_call 21 [22] #[22] _ (g := none) (by kernel_rfl) trivial Tryd.func21 (by kernel_rfl) rfl (by decide) rfl (c_make (Nat.le_trans la (by decide))) rfl,
   trivial⟩
def algy_E4 (a b c : List Rg) : Nat → AV := (upd (upd (algy_E3 a b c) [([], 7)] [AV.sbox []]) [([], 8)] [AV.sbox (makeL a)])
def algy_4_T : List (List Nat × Nat) := [([7], 24), ([24], 25)]
def algy_4_V (a b c : List Rg) : List AV := [AV.set ([]), AV.set (notL [])]
def algy_E5 (a b c : List Rg) : Nat → AV := upd (algy_E4 a b c) algy_4_T (algy_4_V a b c)
theorem algy_4_chk : seqOk 142 (opsOf Tryd.f5 4) algy_4_T = true := by kernel_rfl
set_option maxRecDepth 100000 in
set_option maxHeartbeats 8000000 in
theorem algy_4_ok {w0 : World} (a b c : List Rg)  (la : a.length ≤ 12) (lb : b.length ≤ 12) (lc : c.length ≤ 12) (hG : GG w0) : AllOk Tryd.prog (opsOf Tryd.f5 4) (algy_E5 a b c) w0 algy_4_T 0 :=
  ⟨op_load 7 [] (g := none) (by kernel_rfl) trivial (by decide) rfl rfl,
   op_call 23 [24] #[24] _ (g := none) (by kernel_rfl) trivial Tryd.func23 (by kernel_rfl) rfl (by decide) rfl (c_not (Nat.le_trans (Nat.le_refl 0) (by decide))) rfl,
   trivial⟩
def algy_E6 (a b c : List Rg) : Nat → AV := (upd (algy_E5 a b c) [([], 9)] [AV.sbox (notL [])])
def algy_5_T : List (List Nat × Nat) := [([3], 26), ([4], 27), ([26, 27], 28), ([28], 29), ([3], 30), ([30], 31), ([4], 32), ([32], 33), ([31, 33], 34), ([29, 34], 35), ([35], 36), ([36], 37), ([37, 3], 38), ([37, 4], 39), ([37, 5], 40), ([37, 39, 40], 41), ([37, 38, 41], 42), ([37, 3], 43), ([37, 4], 44), ([37, 43, 44], 45), ([37, 3], 46), ([37, 5], 47), ([37, 46, 47], 48), ([37, 45, 48], 49), ([37, 42, 49], 50), ([37, 50], 51), ([37, 51], 52), ([52], 53), ([53, 3], 54), ([53, 4], 55), ([53, 5], 56), ([53, 55, 56], 57), ([53, 54, 57], 58), ([53, 3], 59), ([53, 4], 60), ([53, 59, 60], 61), ([53, 3], 62), ([53, 5], 63), ([53, 62, 63], 64), ([53, 61, 64], 65), ([53, 58, 65], 66), ([53, 66], 67), ([53, 67], 68)]
def algy_5_V (a b c : List Rg) : List AV := [AV.set a, AV.set b, AV.set (orL a b), AV.set (notL (orL a b)), AV.set a, AV.set (notL a), AV.set b, AV.set (notL b), AV.set (andL (notL a) (notL b)), AV.bool true, AV.bool false, AV.bool false, AV.set a, AV.set b, AV.set c, AV.set (orL b c), AV.set (andL a (orL b c)), AV.set a, AV.set b, AV.set (andL a b), AV.set a, AV.set c, AV.set (andL a c), AV.set (orL (andL a b) (andL a c)), AV.bool true, AV.bool false, AV.bool false, AV.bool false, AV.set a, AV.set b, AV.set c, AV.set (andL b c), AV.set (orL a (andL b c)), AV.set a, AV.set b, AV.set (orL a b), AV.set a, AV.set c, AV.set (orL a c), AV.set (andL (orL a b) (orL a c)), AV.bool true, AV.bool false, AV.bool false]
def algy_E7 (a b c : List Rg) : Nat → AV := upd (algy_E6 a b c) algy_5_T (algy_5_V a b c)
theorem algy_5_chk : tabOk 142 (opsOf Tryd.f5 5) algy_5_T = true := by kernel_rfl
set_option maxRecDepth 100000 in
set_option maxHeartbeats 8000000 in
theorem algy_5_ok {w0 : World} (a b c : List Rg)  (la : a.length ≤ 12) (lb : b.length ≤ 12) (lc : c.length ≤ 12) (hG : GG w0) : AllOk Tryd.prog (opsOf Tryd.f5 5) (algy_E7 a b c) w0 algy_5_T 0 :=
  ⟨op_load 3 a (g := none) (by kernel_rfl) trivial (by decide) rfl rfl,
   op_load 4 b (g := none) (by kernel_rfl) trivial (by decide) rfl rfl,
   op_call 24 [26, 27] #[24, 24] _ (g := none) (by kernel_rfl) trivial Tryd.func24 (by kernel_rfl) rfl (by decide) rfl (c_or (Nat.le_trans la (by decide)) (Nat.le_trans lb (by decide))) rfl,
   op_call 23 [28] #[24] _ (g := none) (by kernel_rfl) trivial Tryd.func23 (by kernel_rfl) rfl (by decide) rfl (c_not (Nat.le_trans (two_le la lb) (by decide))) rfl,
   op_load 3 a (g := none) (by kernel_rfl) trivial (by decide) rfl rfl,
   op_call 23 [30] #[24] _ (g := none) (by kernel_rfl) trivial Tryd.func23 (by kernel_rfl) rfl (by decide) rfl (c_not (Nat.le_trans la (by decide))) rfl,
   op_load 4 b (g := none) (by kernel_rfl) trivial (by decide) rfl rfl,
   op_call 23 [32] #[24] _ (g := none) (by kernel_rfl) trivial Tryd.func23 (by kernel_rfl) rfl (by decide) rfl (c_not (Nat.le_trans lb (by decide))) rfl,
   op_call 25 [31, 33] #[24, 24] _ (g := none) (by kernel_rfl) trivial Tryd.func25 (by kernel_rfl) rfl (by decide) rfl (c_and (Nat.le_trans (not_le la) (by decide)) (Nat.le_trans (not_le lb) (by decide))) rfl,
   op_call 18 [29, 34] #[24, 24] _ (g := none) (by kernel_rfl) trivial Tryd.func18 (by kernel_rfl) rfl (by decide) rfl (c_same (Nat.le_trans (not_le (two_le la lb)) (by decide)) (decide_eq_true (al_dm a b))) rfl,
   op_not 35 true (g := none) (by kernel_rfl) trivial (by decide) rfl rfl,
   op_move 36 (g := none) (by kernel_rfl) trivial (by decide) rfl,
   op_load 3 a (g := some (11, false)) (by kernel_rfl) ⟨37, by kernel_rfl, by decide, rfl⟩ (by decide) rfl rfl,
   op_load 4 b (g := some (11, false)) (by kernel_rfl) ⟨37, by kernel_rfl, by decide, rfl⟩ (by decide) rfl rfl,
   op_load 5 c (g := some (11, false)) (by kernel_rfl) ⟨37, by kernel_rfl, by decide, rfl⟩ (by decide) rfl rfl,
   op_call 24 [39, 40] #[24, 24] _ (g := some (11, false)) (by kernel_rfl) ⟨37, by kernel_rfl, by decide, rfl⟩ Tryd.func24 (by kernel_rfl) rfl (by decide) rfl (c_or (Nat.le_trans lb (by decide)) (Nat.le_trans lc (by decide))) rfl,
   op_call 25 [38, 41] #[24, 24] _ (g := some (11, false)) (by kernel_rfl) ⟨37, by kernel_rfl, by decide, rfl⟩ Tryd.func25 (by kernel_rfl) rfl (by decide) rfl (c_and (Nat.le_trans la (by decide)) (Nat.le_trans (two_le lb lc) (by decide))) rfl,
   op_load 3 a (g := some (11, false)) (by kernel_rfl) ⟨37, by kernel_rfl, by decide, rfl⟩ (by decide) rfl rfl,
   op_load 4 b (g := some (11, false)) (by kernel_rfl) ⟨37, by kernel_rfl, by decide, rfl⟩ (by decide) rfl rfl,
   op_call 25 [43, 44] #[24, 24] _ (g := some (11, false)) (by kernel_rfl) ⟨37, by kernel_rfl, by decide, rfl⟩ Tryd.func25 (by kernel_rfl) rfl (by decide) rfl (c_and (Nat.le_trans la (by decide)) (Nat.le_trans lb (by decide))) rfl,
   op_load 3 a (g := some (11, false)) (by kernel_rfl) ⟨37, by kernel_rfl, by decide, rfl⟩ (by decide) rfl rfl,
   op_load 5 c (g := some (11, false)) (by kernel_rfl) ⟨37, by kernel_rfl, by decide, rfl⟩ (by decide) rfl rfl,
   op_call 25 [46, 47] #[24, 24] _ (g := some (11, false)) (by kernel_rfl) ⟨37, by kernel_rfl, by decide, rfl⟩ Tryd.func25 (by kernel_rfl) rfl (by decide) rfl (c_and (Nat.le_trans la (by decide)) (Nat.le_trans lc (by decide))) rfl,
   op_call 24 [45, 48] #[24, 24] _ (g := some (11, false)) (by kernel_rfl) ⟨37, by kernel_rfl, by decide, rfl⟩ Tryd.func24 (by kernel_rfl) rfl (by decide) rfl (c_or (Nat.le_trans (two_le la lb) (by decide)) (Nat.le_trans (two_le la lc) (by decide))) rfl,
   op_call 18 [42, 49] #[24, 24] _ (g := some (11, false)) (by kernel_rfl) ⟨37, by kernel_rfl, by decide, rfl⟩ Tryd.func18 (by kernel_rfl) rfl (by decide) rfl (c_same (Nat.le_trans (two_le la (two_le lb lc)) (by decide)) (decide_eq_true (al_ao a b c))) rfl,
   op_not 50 true (g := some (11, false)) (by kernel_rfl) ⟨37, by kernel_rfl, by decide, rfl⟩ (by decide) rfl rfl,
   op_pick_f 37 51 (.const (.bool true)) (g := none) (by kernel_rfl) trivial (by decide) (by decide) rfl rfl,
   op_move 52 (g := none) (by kernel_rfl) trivial (by decide) rfl,
   op_load 3 a (g := some (27, false)) (by kernel_rfl) ⟨53, by kernel_rfl, by decide, rfl⟩ (by decide) rfl rfl,
   op_load 4 b (g := some (27, false)) (by kernel_rfl) ⟨53, by kernel_rfl, by decide, rfl⟩ (by decide) rfl rfl,
   op_load 5 c (g := some (27, false)) (by kernel_rfl) ⟨53, by kernel_rfl, by decide, rfl⟩ (by decide) rfl rfl,
   op_call 25 [55, 56] #[24, 24] _ (g := some (27, false)) (by kernel_rfl) ⟨53, by kernel_rfl, by decide, rfl⟩ Tryd.func25 (by kernel_rfl) rfl (by decide) rfl (c_and (Nat.le_trans lb (by decide)) (Nat.le_trans lc (by decide))) rfl,
   op_call 24 [54, 57] #[24, 24] _ (g := some (27, false)) (by kernel_rfl) ⟨53, by kernel_rfl, by decide, rfl⟩ Tryd.func24 (by kernel_rfl) rfl (by decide) rfl (c_or (Nat.le_trans la (by decide)) (Nat.le_trans (two_le lb lc) (by decide))) rfl,
   op_load 3 a (g := some (27, false)) (by kernel_rfl) ⟨53, by kernel_rfl, by decide, rfl⟩ (by decide) rfl rfl,
   op_load 4 b (g := some (27, false)) (by kernel_rfl) ⟨53, by kernel_rfl, by decide, rfl⟩ (by decide) rfl rfl,
   op_call 24 [59, 60] #[24, 24] _ (g := some (27, false)) (by kernel_rfl) ⟨53, by kernel_rfl, by decide, rfl⟩ Tryd.func24 (by kernel_rfl) rfl (by decide) rfl (c_or (Nat.le_trans la (by decide)) (Nat.le_trans lb (by decide))) rfl,
   op_load 3 a (g := some (27, false)) (by kernel_rfl) ⟨53, by kernel_rfl, by decide, rfl⟩ (by decide) rfl rfl,
   op_load 5 c (g := some (27, false)) (by kernel_rfl) ⟨53, by kernel_rfl, by decide, rfl⟩ (by decide) rfl rfl,
   op_call 24 [62, 63] #[24, 24] _ (g := some (27, false)) (by kernel_rfl) ⟨53, by kernel_rfl, by decide, rfl⟩ Tryd.func24 (by kernel_rfl) rfl (by decide) rfl (c_or (Nat.le_trans la (by decide)) (Nat.le_trans lc (by decide))) rfl,
   op_call 25 [61, 64] #[24, 24] _ (g := some (27, false)) (by kernel_rfl) ⟨53, by kernel_rfl, by decide, rfl⟩ Tryd.func25 (by kernel_rfl) rfl (by decide) rfl (c_and (Nat.le_trans (two_le la lb) (by decide)) (Nat.le_trans (two_le la lc) (by decide))) rfl,
   op_call 18 [58, 65] #[24, 24] _ (g := some (27, false)) (by kernel_rfl) ⟨53, by kernel_rfl, by decide, rfl⟩ Tryd.func18 (by kernel_rfl) rfl (by decide) rfl (c_same (Nat.le_trans (two_le la (two_le lb lc)) (by decide)) (decide_eq_true (al_oa a b c))) rfl,
   op_not 66 true (g := some (27, false)) (by kernel_rfl) ⟨53, by kernel_rfl, by decide, rfl⟩ (by decide) rfl rfl,
   op_pick_f 53 67 (.const (.bool true)) (g := none) (by kernel_rfl) trivial (by decide) (by decide) rfl rfl,
   trivial⟩
def algy_7_T : List (List Nat × Nat) := [([3], 69), ([69], 70), ([70], 71), ([8], 72), ([71, 72], 73), ([73], 74), ([74], 75), ([75, 3], 76), ([75, 7], 77), ([75, 76, 77], 78), ([75, 8], 79), ([75, 78, 79], 80), ([75, 80], 81), ([75, 81], 82), ([82], 83), ([83, 3], 84), ([83, 9], 85), ([83, 84, 85], 86), ([83, 8], 87), ([83, 86, 87], 88), ([83, 88], 89), ([83, 89], 90), ([90], 91), ([91, 3], 92), ([91, 3], 93), ([91, 93], 94), ([91, 92, 94], 95), ([91, 9], 96), ([91, 95, 96], 97), ([91, 97], 98), ([91, 98], 99), ([99], 100), ([100, 3], 101), ([100, 3], 102), ([100, 102], 103), ([100, 101, 103], 104), ([100, 104], 105), ([100, 105], 106), ([100, 106], 107), ([100, 107], 108)]
def algy_7_V (a b c : List Rg) : List AV := [AV.set a, AV.set (notL a), AV.set (notL (notL a)), AV.set (makeL a), AV.bool true, AV.bool false, AV.bool false, AV.set a, AV.set ([]), AV.set (orL a []), AV.set (makeL a), AV.bool true, AV.bool false, AV.bool false, AV.bool false, AV.set a, AV.set (notL []), AV.set (andL a (notL [])), AV.set (makeL a), AV.bool true, AV.bool false, AV.bool false, AV.bool false, AV.set a, AV.set a, AV.set (notL a), AV.set (orL a (notL a)), AV.set (notL []), AV.bool true, AV.bool false, AV.bool false, AV.bool false, AV.set a, AV.set a, AV.set (notL a), AV.set (andL a (notL a)), AV.row (andL a (notL a)), AV.int ((andL a (notL a)).length), AV.bool false, AV.bool false]
def algy_E8 (a b c : List Rg) : Nat → AV := upd (algy_E7 a b c) algy_7_T (algy_7_V a b c)
theorem algy_7_chk : tabOk 142 (opsOf Tryd.f5 7) algy_7_T = true := by kernel_rfl
set_option maxRecDepth 100000 in
set_option maxHeartbeats 8000000 in
theorem algy_7_ok {w0 : World} (a b c : List Rg)  (la : a.length ≤ 12) (lb : b.length ≤ 12) (lc : c.length ≤ 12) (hG : GG w0) : AllOk Tryd.prog (opsOf Tryd.f5 7) (algy_E8 a b c) w0 algy_7_T 0 :=
  ⟨op_load 3 a (g := none) (by kernel_rfl) trivial (by decide) rfl rfl,
   op_call 23 [69] #[24] _ (g := none) (by kernel_rfl) trivial Tryd.func23 (by kernel_rfl) rfl (by decide) rfl (c_not (Nat.le_trans la (by decide))) rfl,
   op_call 23 [70] #[24] _ (g := none) (by kernel_rfl) trivial Tryd.func23 (by kernel_rfl) rfl (by decide) rfl (c_not (Nat.le_trans (not_le la) (by decide))) rfl,
   op_load 8 (makeL a) (g := none) (by kernel_rfl) trivial (by decide) rfl rfl,
   op_call 18 [71, 72] #[24, 24] _ (g := none) (by kernel_rfl) trivial Tryd.func18 (by kernel_rfl) rfl (by decide) rfl (c_same (Nat.le_trans (not_le (not_le la)) (by decide)) (decide_eq_true (al_nn a))) rfl,
   op_not 73 true (g := none) (by kernel_rfl) trivial (by decide) rfl rfl,
   op_move 74 (g := none) (by kernel_rfl) trivial (by decide) rfl,
   op_load 3 a (g := some (6, false)) (by kernel_rfl) ⟨75, by kernel_rfl, by decide, rfl⟩ (by decide) rfl rfl,
   op_load 7 [] (g := some (6, false)) (by kernel_rfl) ⟨75, by kernel_rfl, by decide, rfl⟩ (by decide) rfl rfl,
   op_call 24 [76, 77] #[24, 24] _ (g := some (6, false)) (by kernel_rfl) ⟨75, by kernel_rfl, by decide, rfl⟩ Tryd.func24 (by kernel_rfl) rfl (by decide) rfl (c_or (Nat.le_trans la (by decide)) (Nat.le_trans (Nat.le_refl 0) (by decide))) rfl,
   op_load 8 (makeL a) (g := some (6, false)) (by kernel_rfl) ⟨75, by kernel_rfl, by decide, rfl⟩ (by decide) rfl rfl,
   op_call 18 [78, 79] #[24, 24] _ (g := some (6, false)) (by kernel_rfl) ⟨75, by kernel_rfl, by decide, rfl⟩ Tryd.func18 (by kernel_rfl) rfl (by decide) rfl (c_same (Nat.le_trans (two_le la (Nat.le_refl 0)) (by decide)) (decide_eq_true (al_o0 a))) rfl,
   op_not 80 true (g := some (6, false)) (by kernel_rfl) ⟨75, by kernel_rfl, by decide, rfl⟩ (by decide) rfl rfl,
   op_pick_f 75 81 (.const (.bool true)) (g := none) (by kernel_rfl) trivial (by decide) (by decide) rfl rfl,
   op_move 82 (g := none) (by kernel_rfl) trivial (by decide) rfl,
   op_load 3 a (g := some (14, false)) (by kernel_rfl) ⟨83, by kernel_rfl, by decide, rfl⟩ (by decide) rfl rfl,
   op_load 9 (notL []) (g := some (14, false)) (by kernel_rfl) ⟨83, by kernel_rfl, by decide, rfl⟩ (by decide) rfl rfl,
   op_call 25 [84, 85] #[24, 24] _ (g := some (14, false)) (by kernel_rfl) ⟨83, by kernel_rfl, by decide, rfl⟩ Tryd.func25 (by kernel_rfl) rfl (by decide) rfl (c_and (Nat.le_trans la (by decide)) (Nat.le_trans (not_le (Nat.le_refl 0)) (by decide))) rfl,
   op_load 8 (makeL a) (g := some (14, false)) (by kernel_rfl) ⟨83, by kernel_rfl, by decide, rfl⟩ (by decide) rfl rfl,
   op_call 18 [86, 87] #[24, 24] _ (g := some (14, false)) (by kernel_rfl) ⟨83, by kernel_rfl, by decide, rfl⟩ Tryd.func18 (by kernel_rfl) rfl (by decide) rfl (c_same (Nat.le_trans (two_le la (not_le (Nat.le_refl 0))) (by decide)) (decide_eq_true (al_a1 a))) rfl,
   op_not 88 true (g := some (14, false)) (by kernel_rfl) ⟨83, by kernel_rfl, by decide, rfl⟩ (by decide) rfl rfl,
   op_pick_f 83 89 (.const (.bool true)) (g := none) (by kernel_rfl) trivial (by decide) (by decide) rfl rfl,
   op_move 90 (g := none) (by kernel_rfl) trivial (by decide) rfl,
   op_load 3 a (g := some (22, false)) (by kernel_rfl) ⟨91, by kernel_rfl, by decide, rfl⟩ (by decide) rfl rfl,
   op_load 3 a (g := some (22, false)) (by kernel_rfl) ⟨91, by kernel_rfl, by decide, rfl⟩ (by decide) rfl rfl,
   op_call 23 [93] #[24] _ (g := some (22, false)) (by kernel_rfl) ⟨91, by kernel_rfl, by decide, rfl⟩ Tryd.func23 (by kernel_rfl) rfl (by decide) rfl (c_not (Nat.le_trans la (by decide))) rfl,
   op_call 24 [92, 94] #[24, 24] _ (g := some (22, false)) (by kernel_rfl) ⟨91, by kernel_rfl, by decide, rfl⟩ Tryd.func24 (by kernel_rfl) rfl (by decide) rfl (c_or (Nat.le_trans la (by decide)) (Nat.le_trans (not_le la) (by decide))) rfl,
   op_load 9 (notL []) (g := some (22, false)) (by kernel_rfl) ⟨91, by kernel_rfl, by decide, rfl⟩ (by decide) rfl rfl,
   op_call 18 [95, 96] #[24, 24] _ (g := some (22, false)) (by kernel_rfl) ⟨91, by kernel_rfl, by decide, rfl⟩ Tryd.func18 (by kernel_rfl) rfl (by decide) rfl (c_same (Nat.le_trans (two_le la (not_le la)) (by decide)) (decide_eq_true (al_on a))) rfl,
   op_not 97 true (g := some (22, false)) (by kernel_rfl) ⟨91, by kernel_rfl, by decide, rfl⟩ (by decide) rfl rfl,
   op_pick_f 91 98 (.const (.bool true)) (g := none) (by kernel_rfl) trivial (by decide) (by decide) rfl rfl,
   op_move 99 (g := none) (by kernel_rfl) trivial (by decide) rfl,
   op_load 3 a (g := some (31, false)) (by kernel_rfl) ⟨100, by kernel_rfl, by decide, rfl⟩ (by decide) rfl rfl,
   op_load 3 a (g := some (31, false)) (by kernel_rfl) ⟨100, by kernel_rfl, by decide, rfl⟩ (by decide) rfl rfl,
   op_call 23 [102] #[24] _ (g := some (31, false)) (by kernel_rfl) ⟨100, by kernel_rfl, by decide, rfl⟩ Tryd.func23 (by kernel_rfl) rfl (by decide) rfl (c_not (Nat.le_trans la (by decide))) rfl,
   op_call 25 [101, 103] #[24, 24] _ (g := some (31, false)) (by kernel_rfl) ⟨100, by kernel_rfl, by decide, rfl⟩ Tryd.func25 (by kernel_rfl) rfl (by decide) rfl (c_and (Nat.le_trans la (by decide)) (Nat.le_trans (not_le la) (by decide))) rfl,
   op_field 104 (andL a (notL a)) (g := some (31, false)) (by kernel_rfl) ⟨100, by kernel_rfl, by decide, rfl⟩ (by decide) rfl rfl,
   op_len 105 (andL a (notL a)) (g := some (31, false)) (by kernel_rfl) ⟨100, by kernel_rfl, by decide, rfl⟩ (by decide) rfl rfl,
   op_gt0 106 _ false (al_z a) (g := some (31, false)) (by kernel_rfl) ⟨100, by kernel_rfl, by decide, rfl⟩ (by decide) rfl rfl,
   op_pick_f 100 107 (.const (.bool true)) (g := none) (by kernel_rfl) trivial (by decide) (by decide) rfl rfl,
   trivial⟩
def algy_9_T : List (List Nat × Nat) := [([3], 109), ([4], 110), ([109, 110], 111), ([4], 112), ([3], 113), ([112, 113], 114), ([111, 114], 115), ([115], 116), ([116, 3], 117), ([116, 4], 118), ([116, 117, 118], 119), ([116, 4], 120), ([116, 3], 121), ([116, 120, 121], 122), ([116, 119, 122], 123), ([116, 123], 124), ([124], 125), ([125, 3], 126), ([125, 3], 127), ([125, 126, 127], 128), ([125, 8], 129), ([125, 128, 129], 130), ([125, 130], 131), ([131], 132), ([132, 3], 133), ([132, 3], 134), ([132, 133, 134], 135), ([132, 8], 136), ([132, 135, 136], 137), ([132, 137], 138), ([138], 139), ([139], 140), ([139, 140], 141), ([141], 6)]
def algy_9_V (a b c : List Rg) : List AV := [AV.set a, AV.set b, AV.set (orL a b), AV.set b, AV.set a, AV.set (orL b a), AV.bool true, AV.bool true, AV.set a, AV.set b, AV.set (andL a b), AV.set b, AV.set a, AV.set (andL b a), AV.bool true, AV.bool true, AV.bool true, AV.set a, AV.set a, AV.set (orL a a), AV.set (makeL a), AV.bool true, AV.bool true, AV.bool true, AV.set a, AV.set a, AV.set (andL a a), AV.set (makeL a), AV.bool true, AV.bool true, AV.bool true, AV.bool true, AV.bool true, AV.bool true]
def algy_E9 (a b c : List Rg) : Nat → AV := upd (algy_E8 a b c) algy_9_T (algy_9_V a b c)
theorem algy_9_chk : tabOk 142 (opsOf Tryd.f5 9) algy_9_T = true := by kernel_rfl
set_option maxRecDepth 100000 in
set_option maxHeartbeats 8000000 in
theorem algy_9_ok {w0 : World} (a b c : List Rg)  (la : a.length ≤ 12) (lb : b.length ≤ 12) (lc : c.length ≤ 12) (hG : GG w0) : AllOk Tryd.prog (opsOf Tryd.f5 9) (algy_E9 a b c) w0 algy_9_T 0 :=
  ⟨op_load 3 a (g := none) (by kernel_rfl) trivial (by decide) rfl rfl,
   op_load 4 b (g := none) (by kernel_rfl) trivial (by decide) rfl rfl,
   op_call 24 [109, 110] #[24, 24] _ (g := none) (by kernel_rfl) trivial Tryd.func24 (by kernel_rfl) rfl (by decide) rfl (c_or (Nat.le_trans la (by decide)) (Nat.le_trans lb (by decide))) rfl,
   op_load 4 b (g := none) (by kernel_rfl) trivial (by decide) rfl rfl,
   op_load 3 a (g := none) (by kernel_rfl) trivial (by decide) rfl rfl,
   op_call 24 [112, 113] #[24, 24] _ (g := none) (by kernel_rfl) trivial Tryd.func24 (by kernel_rfl) rfl (by decide) rfl (c_or (Nat.le_trans lb (by decide)) (Nat.le_trans la (by decide))) rfl,
   op_call 18 [111, 114] #[24, 24] _ (g := none) (by kernel_rfl) trivial Tryd.func18 (by kernel_rfl) rfl (by decide) rfl (c_same (Nat.le_trans (two_le la lb) (by decide)) (decide_eq_true (al_oc a b))) rfl,
   op_move 115 (g := none) (by kernel_rfl) trivial (by decide) rfl,
   op_load 3 a (g := some (7, true)) (by kernel_rfl) ⟨116, by kernel_rfl, by decide, rfl⟩ (by decide) rfl rfl,
   op_load 4 b (g := some (7, true)) (by kernel_rfl) ⟨116, by kernel_rfl, by decide, rfl⟩ (by decide) rfl rfl,
   op_call 25 [117, 118] #[24, 24] _ (g := some (7, true)) (by kernel_rfl) ⟨116, by kernel_rfl, by decide, rfl⟩ Tryd.func25 (by kernel_rfl) rfl (by decide) rfl (c_and (Nat.le_trans la (by decide)) (Nat.le_trans lb (by decide))) rfl,
   op_load 4 b (g := some (7, true)) (by kernel_rfl) ⟨116, by kernel_rfl, by decide, rfl⟩ (by decide) rfl rfl,
   op_load 3 a (g := some (7, true)) (by kernel_rfl) ⟨116, by kernel_rfl, by decide, rfl⟩ (by decide) rfl rfl,
   op_call 25 [120, 121] #[24, 24] _ (g := some (7, true)) (by kernel_rfl) ⟨116, by kernel_rfl, by decide, rfl⟩ Tryd.func25 (by kernel_rfl) rfl (by decide) rfl (c_and (Nat.le_trans lb (by decide)) (Nat.le_trans la (by decide))) rfl,
   op_call 18 [119, 122] #[24, 24] _ (g := some (7, true)) (by kernel_rfl) ⟨116, by kernel_rfl, by decide, rfl⟩ Tryd.func18 (by kernel_rfl) rfl (by decide) rfl (c_same (Nat.le_trans (two_le la lb) (by decide)) (decide_eq_true (al_ac a b))) rfl,
   op_pick_t 116 123 (.const (.bool false)) (g := none) (by kernel_rfl) trivial (by decide) (by decide) rfl rfl,
   op_move 124 (g := none) (by kernel_rfl) trivial (by decide) rfl,
   op_load 3 a (g := some (16, true)) (by kernel_rfl) ⟨125, by kernel_rfl, by decide, rfl⟩ (by decide) rfl rfl,
   op_load 3 a (g := some (16, true)) (by kernel_rfl) ⟨125, by kernel_rfl, by decide, rfl⟩ (by decide) rfl rfl,
   op_call 24 [126, 127] #[24, 24] _ (g := some (16, true)) (by kernel_rfl) ⟨125, by kernel_rfl, by decide, rfl⟩ Tryd.func24 (by kernel_rfl) rfl (by decide) rfl (c_or (Nat.le_trans la (by decide)) (Nat.le_trans la (by decide))) rfl,
   op_load 8 (makeL a) (g := some (16, true)) (by kernel_rfl) ⟨125, by kernel_rfl, by decide, rfl⟩ (by decide) rfl rfl,
   op_call 18 [128, 129] #[24, 24] _ (g := some (16, true)) (by kernel_rfl) ⟨125, by kernel_rfl, by decide, rfl⟩ Tryd.func18 (by kernel_rfl) rfl (by decide) rfl (c_same (Nat.le_trans (two_le la la) (by decide)) (decide_eq_true (al_oo a))) rfl,
   op_pick_t 125 130 (.const (.bool false)) (g := none) (by kernel_rfl) trivial (by decide) (by decide) rfl rfl,
   op_move 131 (g := none) (by kernel_rfl) trivial (by decide) rfl,
   op_load 3 a (g := some (23, true)) (by kernel_rfl) ⟨132, by kernel_rfl, by decide, rfl⟩ (by decide) rfl rfl,
   op_load 3 a (g := some (23, true)) (by kernel_rfl) ⟨132, by kernel_rfl, by decide, rfl⟩ (by decide) rfl rfl,
   op_call 25 [133, 134] #[24, 24] _ (g := some (23, true)) (by kernel_rfl) ⟨132, by kernel_rfl, by decide, rfl⟩ Tryd.func25 (by kernel_rfl) rfl (by decide) rfl (c_and (Nat.le_trans la (by decide)) (Nat.le_trans la (by decide))) rfl,
   op_load 8 (makeL a) (g := some (23, true)) (by kernel_rfl) ⟨132, by kernel_rfl, by decide, rfl⟩ (by decide) rfl rfl,
   op_call 18 [135, 136] #[24, 24] _ (g := some (23, true)) (by kernel_rfl) ⟨132, by kernel_rfl, by decide, rfl⟩ Tryd.func18 (by kernel_rfl) rfl (by decide) rfl (c_same (Nat.le_trans (two_le la la) (by decide)) (decide_eq_true (al_aa a))) rfl,
   op_pick_t 132 137 (.const (.bool false)) (g := none) (by kernel_rfl) trivial (by decide) (by decide) rfl rfl,
   op_move 138 (g := none) (by kernel_rfl) trivial (by decide) rfl,
   op_call 13 [] #[] _ (g := some (30, true)) (by kernel_rfl) ⟨139, by kernel_rfl, by decide, rfl⟩ Tryd.func13 (by kernel_rfl) rfl (by decide) rfl (c_alive hG) rfl,
   op_pick_t 139 140 (.const (.bool false)) (g := none) (by kernel_rfl) trivial (by decide) (by decide) rfl rfl,
   op_assign 141 (g := none) (by kernel_rfl) trivial (by decide) rfl,
   trivial⟩
set_option maxRecDepth 100000 in
set_option maxHeartbeats 8000000 in
theorem algy_calls {w : World} (a b c : List Rg)  (la : a.length ≤ 12) (lb : b.length ≤ 12) (lc : c.length ≤ 12) (hG : GG w) {vs : List Value} (hF : Fits2 w [AV.set a, AV.set b, AV.set c] vs) (hL : vs.length = 3) : Calls Tryd.prog 5 vs.toArray w fun e w' => e = .returned (.bool true) ∧ Below w.heap.size w w' := by
  refine calls_abs (N := 142) (c := (.seq (.region 0 (opsOf Tryd.f5 0) false) (.seq (.seq (.region 1 (opsOf Tryd.f5 1) false) (.cond (.tmp 18) (.seq (.region 2 (opsOf Tryd.f5 2) false) .ret) .skip)) (.seq (.region 3 (opsOf Tryd.f5 3) false) (.seq (.region 4 (opsOf Tryd.f5 4) false) (.seq (.seq (.region 5 (opsOf Tryd.f5 5) true) (.cond (.tmp 68) (.seq (.region 6 (opsOf Tryd.f5 6) false) .ret) .skip)) (.seq (.seq (.region 7 (opsOf Tryd.f5 7) true) (.cond (.tmp 108) (.seq (.region 8 (opsOf Tryd.f5 8) false) .ret) .skip)) (.seq (.region 9 (opsOf Tryd.f5 9) true) .ret)))))))) Tryd.func5 (by kernel_rfl) (by rw [hL]; rfl) hF (fun a_ S => ?_)
  replace S : St 142 (algy_E0 a b c) _ _ _ _ := S
  refine wp_seq ?_
  refine region_seq (N := 142) (E0 := (algy_E0 a b c)) (tab := algy_0_T) (vals := algy_0_V a b c) (by kernel_rfl) algy_0_chk (algy_0_ok a b c la lb lc hG) S (fun a_ w_ S => ?_)
  refine then_normal ?_
  refine wp_seq ?_
  refine wp_seq ?_
  refine region_seq (N := 142) (E0 := (algy_E1 a b c)) (tab := algy_1_T) (vals := algy_1_V a b c) (by kernel_rfl) algy_1_chk (algy_1_ok a b c la lb lc hG) S (fun a_ w_ S => ?_)
  refine then_normal ?_
  refine wp_cond_false (S.eval 18 (by decide) rfl) ?_
  refine wp_skip ?_
  refine then_normal ?_
  refine wp_seq ?_
  refine wp_region ?_
  rw [show List.range (opsOf Tryd.f5 3).size = List.range algy_3_T.length ++ [4, 5, 6, 7] by kernel_rfl]
  refine ops_abs (N := 142) (E0 := (algy_E2 a b c)) (vals := algy_3_V a b c) algy_3_chk (algy_3_ok a b c la lb lc hG) (fun a_ w_ S => ?_) S
  refine ops_box2 (i := 4) (i2 := 5) (j := 6) (j2 := 7) (d := 7) (d2 := 8) (x := 20) (x2 := 23) (l := []) (l2 := makeL a) (by kernel_rfl) (by kernel_rfl) (by kernel_rfl) (by kernel_rfl) (by decide) (by decide) (by decide) (by decide) (by decide) (by decide) (by decide) (by decide) (by decide) rfl rfl S (fun a_ w_ S => ?_)
  replace S : St 142 (algy_E4 a b c) _ _ _ _ := S
  refine then_normal ?_
  refine wp_seq ?_
  refine wp_region ?_
  rw [show List.range (opsOf Tryd.f5 4).size = List.range algy_4_T.length ++ [2, 3] by kernel_rfl]
  refine ops_abs (N := 142) (E0 := (algy_E4 a b c)) (vals := algy_4_V a b c) algy_4_chk (algy_4_ok a b c la lb lc hG) (fun a_ w_ S => ?_) S
  refine ops_box1 (i := 2) (j := 3) (d := 9) (x := 25) (l := notL []) (by kernel_rfl) (by kernel_rfl) (by decide) (by decide) (by decide) rfl S (fun a_ w_ S => ?_)
  replace S : St 142 (algy_E6 a b c) _ _ _ _ := S
  refine then_normal ?_
  refine wp_seq ?_
  refine wp_seq ?_
  refine region_abs (N := 142) (E0 := (algy_E6 a b c)) (tab := algy_5_T) (vals := algy_5_V a b c) (by kernel_rfl) algy_5_chk (algy_5_ok a b c la lb lc hG) S (fun a_ w_ S => ?_)
  refine then_normal ?_
  refine wp_cond_false (S.eval 68 (by decide) rfl) ?_
  refine wp_skip ?_
  refine then_normal ?_
  refine wp_seq ?_
  refine wp_seq ?_
  refine region_abs (N := 142) (E0 := (algy_E7 a b c)) (tab := algy_7_T) (vals := algy_7_V a b c) (by kernel_rfl) algy_7_chk (algy_7_ok a b c la lb lc hG) S (fun a_ w_ S => ?_)
  refine then_normal ?_
  refine wp_cond_false (S.eval 108 (by decide) rfl) ?_
  refine wp_skip ?_
  refine then_normal ?_
  refine wp_seq ?_
  refine region_abs (N := 142) (E0 := (algy_E8 a b c)) (tab := algy_9_T) (vals := algy_9_V a b c) (by kernel_rfl) algy_9_chk (algy_9_ok a b c la lb lc hG) S (fun a_ w_ S => ?_)
  refine then_normal ?_
  refine wp_ret ?_
  repeat (with_reducible refine then_ret ?_)
  exact post_ret (fn := Tryd.f5) 6 (by kernel_rfl) S (by decide) (x := .bool true) rfl ⟨rfl, S.below⟩
theorem cpsetAlgebra_walk {w : World} (a b c : List Rg) (hG : GG w) {vs : List Value} (hF : Fits2 w [AV.set a, AV.set b, AV.set c] vs) (hL : vs.length = 3) : Calls Tryd.prog 5 vs.toArray w fun e w' => e = .returned (.bool true) ∧ Below w.heap.size w w' := by
  by_cases la : a.length ≤ 12
  · by_cases lb : b.length ≤ 12
    · by_cases lc : c.length ≤ 12
      · exact algy_calls a b c la lb lc hG hF hL
      · exact algn2_calls a b c (by rw [decide_eq_true la, decide_eq_true lb]; rfl) (decide_eq_false lc) hG hF hL
    · exact algn1_calls a b c (by rw [decide_eq_false lb, Bool.and_false]) hG hF hL
  · exact algn1_calls a b c (by rw [decide_eq_false la, Bool.false_and]) hG hF hL
end Go.Proofs.YtpnkkhichkmmmaaDoor.Q
