/-
  DERIVED. CpsetOrders: a call's walk, by the tables of XAbs. Written by wip/genalg.py.
-/
import Derived.Test.YtpnkkhichkmmmaaDoorGAlgO
namespace Go.Proofs.YtpnkkhichkmmmaaDoor.Q
set_option linter.unusedVariables false
set_option linter.unusedSimpArgs false
open Go Go.RowKit Go.Proofs.YtpnkkhichkmmmaaDoorW.PrintWords Go.Proofs.YtpnkkhichkmmmaaDoorW.PrintLast Go.Proofs.YtpnkkhichkmmmaaDoorW.PrintMore
def ordn1_E0 (a b c : List Rg) : Nat → AV := kindsOf [AV.set a, AV.set b, AV.set c]
def ordn1_0_T : List (List Nat × Nat) := [([0], 3), ([1], 4), ([2], 5), ([], 6)]
def ordn1_0_V (a b c : List Rg) : List AV := [AV.sbox a, AV.sbox b, AV.sbox c, AV.bool false]
def ordn1_E1 (a b c : List Rg) : Nat → AV := upd (ordn1_E0 a b c) ordn1_0_T (ordn1_0_V a b c)
theorem ordn1_0_chk : seqOk 121 (opsOf Tryd.f7 0) ordn1_0_T = true := by kernel_rfl
set_option maxRecDepth 100000 in
set_option maxHeartbeats 8000000 in
theorem ordn1_0_ok {w0 : World} (a b c : List Rg) (hs : (decide (a.length ≤ 12) && decide (b.length ≤ 12)) = false) (hG : GG w0) : AllOk Tryd.prog (opsOf Tryd.f7 0) (ordn1_E1 a b c) w0 ordn1_0_T 0 :=
  ⟨op_box 0 a (g := none) (by kernel_rfl) trivial (by decide) rfl rfl,
   op_box 1 b (g := none) (by kernel_rfl) trivial (by decide) rfl rfl,
   op_box 2 c (g := none) (by kernel_rfl) trivial (by decide) rfl rfl,
   op_assignc (.bool false) (g := none) (by kernel_rfl) trivial rfl,
   trivial⟩
def ordn1_1_T : List (List Nat × Nat) := [([3], 8), ([4], 9), ([8, 9], 10), ([10], 11), ([11], 12), ([12], 13), ([12], 14), ([12], 15), ([12], 16)]
def ordn1_1_V (a b c : List Rg) : List AV := [AV.set a, AV.set b, AV.bool false, AV.bool true, AV.bool true, AV.is undef, AV.is undef, AV.is undef, AV.bool true]
def ordn1_E2 (a b c : List Rg) : Nat → AV := upd (ordn1_E1 a b c) ordn1_1_T (ordn1_1_V a b c)
theorem ordn1_1_chk : seqOk 121 (opsOf Tryd.f7 1) ordn1_1_T = true := by kernel_rfl
set_option maxRecDepth 100000 in
set_option maxHeartbeats 8000000 in
theorem ordn1_1_ok {w0 : World} (a b c : List Rg) (hs : (decide (a.length ≤ 12) && decide (b.length ≤ 12)) = false) (hG : GG w0) : AllOk Tryd.prog (opsOf Tryd.f7 1) (ordn1_E2 a b c) w0 ordn1_1_T 0 :=
  ⟨op_load 3 a (g := none) (by kernel_rfl) trivial (by decide) rfl rfl,
   op_load 4 b (g := none) (by kernel_rfl) trivial (by decide) rfl rfl,
   op_call 22 [8, 9] #[24, 24] _ (g := none) (by kernel_rfl) trivial Tryd.func22 (by kernel_rfl) rfl (by decide) rfl (c_small2 hs) rfl,
   op_not 10 false (g := none) (by kernel_rfl) trivial (by decide) rfl rfl,
   op_move 11 (g := none) (by kernel_rfl) trivial (by decide) rfl,
   op_skip (j := 4) (b := false) 12 true (by kernel_rfl) (by kernel_rfl) (by decide) rfl rfl rfl,
   op_skip (j := 4) (b := false) 12 true (by kernel_rfl) (by kernel_rfl) (by decide) rfl rfl rfl,
   op_skip (j := 4) (b := false) 12 true (by kernel_rfl) (by kernel_rfl) (by decide) rfl rfl rfl,
   op_pick_tc 12 (.bool true) (.tmp 15) (g := none) (by kernel_rfl) trivial (by decide) rfl rfl,
   trivial⟩
def ordn1_2_T : List (List Nat × Nat) := [([], 17), ([17], 6)]
def ordn1_2_V (a b c : List Rg) : List AV := [AV.bool true, AV.bool true]
def ordn1_E3 (a b c : List Rg) : Nat → AV := upd (ordn1_E2 a b c) ordn1_2_T (ordn1_2_V a b c)
theorem ordn1_2_chk : seqOk 121 (opsOf Tryd.f7 2) ordn1_2_T = true := by kernel_rfl
set_option maxRecDepth 100000 in
set_option maxHeartbeats 8000000 in
theorem ordn1_2_ok {w0 : World} (a b c : List Rg) (hs : (decide (a.length ≤ 12) && decide (b.length ≤ 12)) = false) (hG : GG w0) : AllOk Tryd.prog (opsOf Tryd.f7 2) (ordn1_E3 a b c) w0 ordn1_2_T 0 :=
  ⟨op_call 13 [] #[] _ (g := none) (by kernel_rfl) trivial Tryd.func13 (by kernel_rfl) rfl (by decide) rfl (c_alive hG) rfl,
   op_assign 17 (g := none) (by kernel_rfl) trivial (by decide) rfl,
   trivial⟩
set_option maxRecDepth 100000 in
set_option maxHeartbeats 8000000 in
theorem ordn1_calls {w : World} (a b c : List Rg) (hs : (decide (a.length ≤ 12) && decide (b.length ≤ 12)) = false) (hG : GG w) {vs : List Value} (hF : Fits2 w [AV.set a, AV.set b, AV.set c] vs) (hL : vs.length = 3) : Calls Tryd.prog 7 vs.toArray w fun e w' => e = .returned (.bool true) ∧ Below w.heap.size w w' := by
  refine calls_abs (N := 121) (c := (.seq (.region 0 (opsOf Tryd.f7 0) false) (.seq (.seq (.region 1 (opsOf Tryd.f7 1) false) (.cond (.tmp 16) (.seq (.region 2 (opsOf Tryd.f7 2) false) .ret) .skip)) (.seq (.region 3 (opsOf Tryd.f7 3) false) (.seq (.seq (.region 4 (opsOf Tryd.f7 4) true) (.cond (.tmp 50) (.seq (.region 5 (opsOf Tryd.f7 5) false) .ret) .skip)) (.seq (.seq (.region 6 (opsOf Tryd.f7 6) true) (.cond (.tmp 88) (.seq (.region 7 (opsOf Tryd.f7 7) false) .ret) .skip)) (.seq (.region 8 (opsOf Tryd.f7 8) true) .ret))))))) Tryd.func7 (by kernel_rfl) (by rw [hL]; rfl) hF (fun a_ S => ?_)
  replace S : St 121 (ordn1_E0 a b c) _ _ _ _ := S
  refine wp_seq ?_
  refine region_seq (N := 121) (E0 := (ordn1_E0 a b c)) (tab := ordn1_0_T) (vals := ordn1_0_V a b c) (by kernel_rfl) ordn1_0_chk (ordn1_0_ok a b c hs hG) S (fun a_ w_ S => ?_)
  refine then_normal ?_
  refine wp_seq ?_
  refine wp_seq ?_
  refine region_seq (N := 121) (E0 := (ordn1_E1 a b c)) (tab := ordn1_1_T) (vals := ordn1_1_V a b c) (by kernel_rfl) ordn1_1_chk (ordn1_1_ok a b c hs hG) S (fun a_ w_ S => ?_)
  refine then_normal ?_
  refine wp_cond_true (S.eval 16 (by decide) rfl) ?_
  refine wp_seq ?_
  refine region_seq (N := 121) (E0 := (ordn1_E2 a b c)) (tab := ordn1_2_T) (vals := ordn1_2_V a b c) (by kernel_rfl) ordn1_2_chk (ordn1_2_ok a b c hs hG) S (fun a_ w_ S => ?_)
  refine then_normal ?_
  refine wp_ret ?_
  repeat (with_reducible refine then_ret ?_)
  exact post_ret (fn := Tryd.f7) 6 (by kernel_rfl) S (by decide) (x := .bool true) rfl ⟨rfl, S.below⟩
def ordn2_E0 (a b c : List Rg) : Nat → AV := kindsOf [AV.set a, AV.set b, AV.set c]
def ordn2_0_T : List (List Nat × Nat) := [([0], 3), ([1], 4), ([2], 5), ([], 6)]
def ordn2_0_V (a b c : List Rg) : List AV := [AV.sbox a, AV.sbox b, AV.sbox c, AV.bool false]
def ordn2_E1 (a b c : List Rg) : Nat → AV := upd (ordn2_E0 a b c) ordn2_0_T (ordn2_0_V a b c)
theorem ordn2_0_chk : seqOk 121 (opsOf Tryd.f7 0) ordn2_0_T = true := by kernel_rfl
set_option maxRecDepth 100000 in
set_option maxHeartbeats 8000000 in
theorem ordn2_0_ok {w0 : World} (a b c : List Rg) (hs : (decide (a.length ≤ 12) && decide (b.length ≤ 12)) = true) (hc : decide (c.length ≤ 12) = false) (hG : GG w0) : AllOk Tryd.prog (opsOf Tryd.f7 0) (ordn2_E1 a b c) w0 ordn2_0_T 0 :=
  ⟨op_box 0 a (g := none) (by kernel_rfl) trivial (by decide) rfl rfl,
   op_box 1 b (g := none) (by kernel_rfl) trivial (by decide) rfl rfl,
   op_box 2 c (g := none) (by kernel_rfl) trivial (by decide) rfl rfl,
   op_assignc (.bool false) (g := none) (by kernel_rfl) trivial rfl,
   trivial⟩
def ordn2_1_T : List (List Nat × Nat) := [([3], 8), ([4], 9), ([8, 9], 10), ([10], 11), ([11], 12), ([12, 5], 13), ([12, 13], 14), ([12, 14], 15), ([12, 15], 16)]
def ordn2_1_V (a b c : List Rg) : List AV := [AV.set a, AV.set b, AV.bool true, AV.bool false, AV.bool false, AV.set c, AV.bool false, AV.bool true, AV.bool true]
def ordn2_E2 (a b c : List Rg) : Nat → AV := upd (ordn2_E1 a b c) ordn2_1_T (ordn2_1_V a b c)
theorem ordn2_1_chk : seqOk 121 (opsOf Tryd.f7 1) ordn2_1_T = true := by kernel_rfl
set_option maxRecDepth 100000 in
set_option maxHeartbeats 8000000 in
theorem ordn2_1_ok {w0 : World} (a b c : List Rg) (hs : (decide (a.length ≤ 12) && decide (b.length ≤ 12)) = true) (hc : decide (c.length ≤ 12) = false) (hG : GG w0) : AllOk Tryd.prog (opsOf Tryd.f7 1) (ordn2_E2 a b c) w0 ordn2_1_T 0 :=
  ⟨op_load 3 a (g := none) (by kernel_rfl) trivial (by decide) rfl rfl,
   op_load 4 b (g := none) (by kernel_rfl) trivial (by decide) rfl rfl,
   op_call 22 [8, 9] #[24, 24] _ (g := none) (by kernel_rfl) trivial Tryd.func22 (by kernel_rfl) rfl (by decide) rfl (c_small2 hs) rfl,
   op_not 10 true (g := none) (by kernel_rfl) trivial (by decide) rfl rfl,
   op_move 11 (g := none) (by kernel_rfl) trivial (by decide) rfl,
   op_load 5 c (g := some (4, false)) (by kernel_rfl) ⟨12, by kernel_rfl, by decide, rfl⟩ (by decide) rfl rfl,
   op_call 12 [13] #[24] _ (g := some (4, false)) (by kernel_rfl) ⟨12, by kernel_rfl, by decide, rfl⟩ Tryd.func12 (by kernel_rfl) rfl (by decide) rfl (c_small hc) rfl,
   op_not 14 false (g := some (4, false)) (by kernel_rfl) ⟨12, by kernel_rfl, by decide, rfl⟩ (by decide) rfl rfl,
   op_pick_f 12 15 (.const (.bool true)) (g := none) (by kernel_rfl) trivial (by decide) (by decide) rfl rfl,
   trivial⟩
def ordn2_2_T : List (List Nat × Nat) := [([], 17), ([17], 6)]
def ordn2_2_V (a b c : List Rg) : List AV := [AV.bool true, AV.bool true]
def ordn2_E3 (a b c : List Rg) : Nat → AV := upd (ordn2_E2 a b c) ordn2_2_T (ordn2_2_V a b c)
theorem ordn2_2_chk : seqOk 121 (opsOf Tryd.f7 2) ordn2_2_T = true := by kernel_rfl
set_option maxRecDepth 100000 in
set_option maxHeartbeats 8000000 in
theorem ordn2_2_ok {w0 : World} (a b c : List Rg) (hs : (decide (a.length ≤ 12) && decide (b.length ≤ 12)) = true) (hc : decide (c.length ≤ 12) = false) (hG : GG w0) : AllOk Tryd.prog (opsOf Tryd.f7 2) (ordn2_E3 a b c) w0 ordn2_2_T 0 :=
  ⟨op_call 13 [] #[] _ (g := none) (by kernel_rfl) trivial Tryd.func13 (by kernel_rfl) rfl (by decide) rfl (c_alive hG) rfl,
   op_assign 17 (g := none) (by kernel_rfl) trivial (by decide) rfl,
   trivial⟩
set_option maxRecDepth 100000 in
set_option maxHeartbeats 8000000 in
theorem ordn2_calls {w : World} (a b c : List Rg) (hs : (decide (a.length ≤ 12) && decide (b.length ≤ 12)) = true) (hc : decide (c.length ≤ 12) = false) (hG : GG w) {vs : List Value} (hF : Fits2 w [AV.set a, AV.set b, AV.set c] vs) (hL : vs.length = 3) : Calls Tryd.prog 7 vs.toArray w fun e w' => e = .returned (.bool true) ∧ Below w.heap.size w w' := by
  refine calls_abs (N := 121) (c := (.seq (.region 0 (opsOf Tryd.f7 0) false) (.seq (.seq (.region 1 (opsOf Tryd.f7 1) false) (.cond (.tmp 16) (.seq (.region 2 (opsOf Tryd.f7 2) false) .ret) .skip)) (.seq (.region 3 (opsOf Tryd.f7 3) false) (.seq (.seq (.region 4 (opsOf Tryd.f7 4) true) (.cond (.tmp 50) (.seq (.region 5 (opsOf Tryd.f7 5) false) .ret) .skip)) (.seq (.seq (.region 6 (opsOf Tryd.f7 6) true) (.cond (.tmp 88) (.seq (.region 7 (opsOf Tryd.f7 7) false) .ret) .skip)) (.seq (.region 8 (opsOf Tryd.f7 8) true) .ret))))))) Tryd.func7 (by kernel_rfl) (by rw [hL]; rfl) hF (fun a_ S => ?_)
  replace S : St 121 (ordn2_E0 a b c) _ _ _ _ := S
  refine wp_seq ?_
  refine region_seq (N := 121) (E0 := (ordn2_E0 a b c)) (tab := ordn2_0_T) (vals := ordn2_0_V a b c) (by kernel_rfl) ordn2_0_chk (ordn2_0_ok a b c hs hc hG) S (fun a_ w_ S => ?_)
  refine then_normal ?_
  refine wp_seq ?_
  refine wp_seq ?_
  refine region_seq (N := 121) (E0 := (ordn2_E1 a b c)) (tab := ordn2_1_T) (vals := ordn2_1_V a b c) (by kernel_rfl) ordn2_1_chk (ordn2_1_ok a b c hs hc hG) S (fun a_ w_ S => ?_)
  refine then_normal ?_
  refine wp_cond_true (S.eval 16 (by decide) rfl) ?_
  refine wp_seq ?_
  refine region_seq (N := 121) (E0 := (ordn2_E2 a b c)) (tab := ordn2_2_T) (vals := ordn2_2_V a b c) (by kernel_rfl) ordn2_2_chk (ordn2_2_ok a b c hs hc hG) S (fun a_ w_ S => ?_)
  refine then_normal ?_
  refine wp_ret ?_
  repeat (with_reducible refine then_ret ?_)
  exact post_ret (fn := Tryd.f7) 6 (by kernel_rfl) S (by decide) (x := .bool true) rfl ⟨rfl, S.below⟩
def ordf_E0 (a b c : List Rg) : Nat → AV := kindsOf [AV.set a, AV.set b, AV.set c]
def ordf_0_T : List (List Nat × Nat) := [([0], 3), ([1], 4), ([2], 5), ([], 6)]
def ordf_0_V (a b c : List Rg) : List AV := [AV.sbox a, AV.sbox b, AV.sbox c, AV.bool false]
def ordf_E1 (a b c : List Rg) : Nat → AV := upd (ordf_E0 a b c) ordf_0_T (ordf_0_V a b c)
theorem ordf_0_chk : seqOk 121 (opsOf Tryd.f7 0) ordf_0_T = true := by kernel_rfl
set_option maxRecDepth 100000 in
set_option maxHeartbeats 8000000 in
theorem ordf_0_ok {w0 : World} (a b c : List Rg)  (la : a.length ≤ 12) (lb : b.length ≤ 12) (lc : c.length ≤ 12) (hG : GG w0) (hin : (((minusL a b).length : Int) == 0) = false) : AllOk Tryd.prog (opsOf Tryd.f7 0) (ordf_E1 a b c) w0 ordf_0_T 0 :=
  ⟨op_box 0 a (g := none) (by kernel_rfl) trivial (by decide) rfl rfl,
   op_box 1 b (g := none) (by kernel_rfl) trivial (by decide) rfl rfl,
   op_box 2 c (g := none) (by kernel_rfl) trivial (by decide) rfl rfl,
   op_assignc (.bool false) (g := none) (by kernel_rfl) trivial rfl,
   trivial⟩
def ordf_1_T : List (List Nat × Nat) := [([3], 8), ([4], 9), ([8, 9], 10), ([10], 11), ([11], 12), ([12, 5], 13), ([12, 13], 14), ([12, 14], 15), ([12, 15], 16)]
def ordf_1_V (a b c : List Rg) : List AV := [AV.set a, AV.set b, AV.bool true, AV.bool false, AV.bool false, AV.set c, AV.bool true, AV.bool false, AV.bool false]
def ordf_E2 (a b c : List Rg) : Nat → AV := upd (ordf_E1 a b c) ordf_1_T (ordf_1_V a b c)
theorem ordf_1_chk : seqOk 121 (opsOf Tryd.f7 1) ordf_1_T = true := by kernel_rfl
set_option maxRecDepth 100000 in
set_option maxHeartbeats 8000000 in
theorem ordf_1_ok {w0 : World} (a b c : List Rg)  (la : a.length ≤ 12) (lb : b.length ≤ 12) (lc : c.length ≤ 12) (hG : GG w0) (hin : (((minusL a b).length : Int) == 0) = false) : AllOk Tryd.prog (opsOf Tryd.f7 1) (ordf_E2 a b c) w0 ordf_1_T 0 :=
  ⟨op_load 3 a (g := none) (by kernel_rfl) trivial (by decide) rfl rfl,
   op_load 4 b (g := none) (by kernel_rfl) trivial (by decide) rfl rfl,
   op_call 22 [8, 9] #[24, 24] _ (g := none) (by kernel_rfl) trivial Tryd.func22 (by kernel_rfl) rfl (by decide) rfl (c_small2 (by rw [decide_eq_true la, decide_eq_true lb]; rfl)) rfl,
   op_not 10 true (g := none) (by kernel_rfl) trivial (by decide) rfl rfl,
   op_move 11 (g := none) (by kernel_rfl) trivial (by decide) rfl,
   op_load 5 c (g := some (4, false)) (by kernel_rfl) ⟨12, by kernel_rfl, by decide, rfl⟩ (by decide) rfl rfl,
   op_call 12 [13] #[24] _ (g := some (4, false)) (by kernel_rfl) ⟨12, by kernel_rfl, by decide, rfl⟩ Tryd.func12 (by kernel_rfl) rfl (by decide) rfl (c_small (decide_eq_true lc)) rfl,
   op_not 14 true (g := some (4, false)) (by kernel_rfl) ⟨12, by kernel_rfl, by decide, rfl⟩ (by decide) rfl rfl,
   op_pick_f 12 15 (.const (.bool true)) (g := none) (by kernel_rfl) trivial (by decide) (by decide) rfl rfl,
   trivial⟩
def ordf_3_T : List (List Nat × Nat) := [([3], 18), ([4], 19), ([18, 19], 20), ([20], 7)]
def ordf_3_V (a b c : List Rg) : List AV := [AV.set a, AV.set b, AV.bool false, AV.bool false]
def ordf_E3 (a b c : List Rg) : Nat → AV := upd (ordf_E2 a b c) ordf_3_T (ordf_3_V a b c)
theorem ordf_3_chk : seqOk 121 (opsOf Tryd.f7 3) ordf_3_T = true := by kernel_rfl
set_option maxRecDepth 100000 in
set_option maxHeartbeats 8000000 in
theorem ordf_3_ok {w0 : World} (a b c : List Rg)  (la : a.length ≤ 12) (lb : b.length ≤ 12) (lc : c.length ≤ 12) (hG : GG w0) (hin : (((minusL a b).length : Int) == 0) = false) : AllOk Tryd.prog (opsOf Tryd.f7 3) (ordf_E3 a b c) w0 ordf_3_T 0 :=
  ⟨op_load 3 a (g := none) (by kernel_rfl) trivial (by decide) rfl rfl,
   op_load 4 b (g := none) (by kernel_rfl) trivial (by decide) rfl rfl,
   op_call 27 [18, 19] #[24, 24] _ (g := none) (by kernel_rfl) trivial Tryd.func27 (by kernel_rfl) rfl (by decide) rfl (c_subset (Nat.le_trans la (by decide)) (Nat.le_trans lb (by decide)) hin) rfl,
   op_assign 20 (g := none) (by kernel_rfl) trivial (by decide) rfl,
   trivial⟩
def ordf_4_T : List (List Nat × Nat) := [([7], 21), ([3], 22), ([4], 23), ([22, 23], 24), ([24], 25), ([25], 26), ([26], 27), ([21, 27], 28), ([28], 29), ([29, 7], 30), ([29, 3], 31), ([29, 4], 32), ([29, 31, 32], 33), ([29, 4], 34), ([29, 34], 35), ([29, 35], 36), ([29, 33, 36], 37), ([29, 30, 37], 38), ([29, 38], 39), ([39], 40), ([40, 3], 41), ([40, 4], 42), ([40, 41, 42], 43), ([40, 3], 44), ([40, 4], 45), ([40, 45], 46), ([40, 44, 46], 47), ([40, 43, 47], 48), ([40, 48], 49), ([40, 49], 50)]
def ordf_4_V (a b c : List Rg) : List AV := [AV.bool false, AV.set a, AV.set b, AV.set (minusL a b), AV.row (minusL a b), AV.int ((minusL a b).length), AV.bool false, AV.bool false, AV.bool false, AV.bool false, AV.set a, AV.set b, AV.set (orL a b), AV.sbox b, AV.row b, AV.set (makeL b), AV.bool false, AV.bool false, AV.bool false, AV.bool false, AV.set a, AV.set b, AV.set (minusL a b), AV.set a, AV.set b, AV.set (notL b), AV.set (andL a (notL b)), AV.bool true, AV.bool false, AV.bool false]
def ordf_E4 (a b c : List Rg) : Nat → AV := upd (ordf_E3 a b c) ordf_4_T (ordf_4_V a b c)
theorem ordf_4_chk : tabOk 121 (opsOf Tryd.f7 4) ordf_4_T = true := by kernel_rfl
set_option maxRecDepth 100000 in
set_option maxHeartbeats 8000000 in
theorem ordf_4_ok {w0 : World} (a b c : List Rg)  (la : a.length ≤ 12) (lb : b.length ≤ 12) (lc : c.length ≤ 12) (hG : GG w0) (hin : (((minusL a b).length : Int) == 0) = false) : AllOk Tryd.prog (opsOf Tryd.f7 4) (ordf_E4 a b c) w0 ordf_4_T 0 :=
  ⟨op_move 7 (g := none) (by kernel_rfl) trivial (by decide) rfl,
   op_load 3 a (g := none) (by kernel_rfl) trivial (by decide) rfl rfl,
   op_load 4 b (g := none) (by kernel_rfl) trivial (by decide) rfl rfl,
   op_call 26 [22, 23] #[24, 24] _ (g := none) (by kernel_rfl) trivial Tryd.func26 (by kernel_rfl) rfl (by decide) rfl (c_minus (Nat.le_trans la (by decide)) (Nat.le_trans lb (by decide))) rfl,
   op_field 24 (minusL a b) (g := none) (by kernel_rfl) trivial (by decide) rfl rfl,
   op_len 25 (minusL a b) (g := none) (by kernel_rfl) trivial (by decide) rfl rfl,
   op_eq0 26 _ false hin (g := none) (by kernel_rfl) trivial (by decide) rfl rfl,
   op_neqb 21 27 _ _ false rfl (g := none) (by kernel_rfl) trivial (by decide) (by decide) rfl rfl rfl,
   op_move 28 (g := none) (by kernel_rfl) trivial (by decide) rfl,
   op_move 7 (g := some (8, false)) (by kernel_rfl) ⟨29, by kernel_rfl, by decide, rfl⟩ (by decide) rfl,
   op_load 3 a (g := some (8, false)) (by kernel_rfl) ⟨29, by kernel_rfl, by decide, rfl⟩ (by decide) rfl rfl,
   op_load 4 b (g := some (8, false)) (by kernel_rfl) ⟨29, by kernel_rfl, by decide, rfl⟩ (by decide) rfl rfl,
   op_call 24 [31, 32] #[24, 24] _ (g := some (8, false)) (by kernel_rfl) ⟨29, by kernel_rfl, by decide, rfl⟩ Tryd.func24 (by kernel_rfl) rfl (by decide) rfl (c_or (Nat.le_trans la (by decide)) (Nat.le_trans lb (by decide))) rfl,
   op_faddr 4 b (g := some (8, false)) (by kernel_rfl) ⟨29, by kernel_rfl, by decide, rfl⟩ (by decide) rfl rfl,
   op_loadrow 34 b (g := some (8, false)) (by kernel_rfl) ⟨29, by kernel_rfl, by decide, rfl⟩ (by decide) rfl rfl,
   op_call 21 [35] #[22] _ (g := some (8, false)) (by kernel_rfl) ⟨29, by kernel_rfl, by decide, rfl⟩ Tryd.func21 (by kernel_rfl) rfl (by decide) rfl (c_make (Nat.le_trans lb (by decide))) rfl,
   op_call 18 [33, 36] #[24, 24] _ (g := some (8, false)) (by kernel_rfl) ⟨29, by kernel_rfl, by decide, rfl⟩ Tryd.func18 (by kernel_rfl) rfl (by decide) rfl (c_same (Nat.le_trans (two_le la lb) (by decide)) (or_in a b hin)) rfl,
   op_neqb 30 37 _ _ false rfl (g := some (8, false)) (by kernel_rfl) ⟨29, by kernel_rfl, by decide, rfl⟩ (by decide) (by decide) rfl rfl rfl,
   op_pick_f 29 38 (.const (.bool true)) (g := none) (by kernel_rfl) trivial (by decide) (by decide) rfl rfl,
   op_move 39 (g := none) (by kernel_rfl) trivial (by decide) rfl,
   op_load 3 a (g := some (19, false)) (by kernel_rfl) ⟨40, by kernel_rfl, by decide, rfl⟩ (by decide) rfl rfl,
   op_load 4 b (g := some (19, false)) (by kernel_rfl) ⟨40, by kernel_rfl, by decide, rfl⟩ (by decide) rfl rfl,
   op_call 26 [41, 42] #[24, 24] _ (g := some (19, false)) (by kernel_rfl) ⟨40, by kernel_rfl, by decide, rfl⟩ Tryd.func26 (by kernel_rfl) rfl (by decide) rfl (c_minus (Nat.le_trans la (by decide)) (Nat.le_trans lb (by decide))) rfl,
   op_load 3 a (g := some (19, false)) (by kernel_rfl) ⟨40, by kernel_rfl, by decide, rfl⟩ (by decide) rfl rfl,
   op_load 4 b (g := some (19, false)) (by kernel_rfl) ⟨40, by kernel_rfl, by decide, rfl⟩ (by decide) rfl rfl,
   op_call 23 [45] #[24] _ (g := some (19, false)) (by kernel_rfl) ⟨40, by kernel_rfl, by decide, rfl⟩ Tryd.func23 (by kernel_rfl) rfl (by decide) rfl (c_not (Nat.le_trans lb (by decide))) rfl,
   op_call 25 [44, 46] #[24, 24] _ (g := some (19, false)) (by kernel_rfl) ⟨40, by kernel_rfl, by decide, rfl⟩ Tryd.func25 (by kernel_rfl) rfl (by decide) rfl (c_and (Nat.le_trans la (by decide)) (Nat.le_trans (not_le lb) (by decide))) rfl,
   op_call 18 [43, 47] #[24, 24] _ (g := some (19, false)) (by kernel_rfl) ⟨40, by kernel_rfl, by decide, rfl⟩ Tryd.func18 (by kernel_rfl) rfl (by decide) rfl (c_same (Nat.le_trans (two_le la lb) (by decide)) (decide_eq_true (or_ma a b))) rfl,
   op_not 48 true (g := some (19, false)) (by kernel_rfl) ⟨40, by kernel_rfl, by decide, rfl⟩ (by decide) rfl rfl,
   op_pick_f 40 49 (.const (.bool true)) (g := none) (by kernel_rfl) trivial (by decide) (by decide) rfl rfl,
   trivial⟩
def ordf_6_T : List (List Nat × Nat) := [([7], 51), ([51], 52), ([52], 53), ([52], 54), ([52], 55), ([52], 56), ([52], 57), ([52], 58), ([52], 59), ([52], 60), ([52], 61), ([52], 62), ([52], 63), ([52], 64), ([64], 65), ([65, 7], 66), ([65, 66], 67), ([67], 68), ([67], 69), ([67], 70), ([65, 67], 71), ([65, 71], 72), ([72], 73), ([72], 74), ([72], 75), ([72], 76), ([65, 72], 77), ([65, 77], 78), ([78], 79), ([79, 7], 80), ([79, 80], 81), ([81], 82), ([81], 83), ([81], 84), ([81], 85), ([81], 86), ([79, 81], 87), ([79, 87], 88)]
def ordf_6_V (a b c : List Rg) : List AV := [AV.bool false, AV.bool false, AV.is undef, AV.is undef, AV.is undef, AV.is undef, AV.is undef, AV.is undef, AV.is undef, AV.is undef, AV.is undef, AV.is undef, AV.is undef, AV.bool false, AV.bool false, AV.bool false, AV.bool false, AV.is undef, AV.is undef, AV.is undef, AV.bool false, AV.bool false, AV.is undef, AV.is undef, AV.is undef, AV.is undef, AV.bool false, AV.bool false, AV.bool false, AV.bool false, AV.bool false, AV.is undef, AV.is undef, AV.is undef, AV.is undef, AV.is undef, AV.bool false, AV.bool false]
def ordf_E5 (a b c : List Rg) : Nat → AV := upd (ordf_E4 a b c) ordf_6_T (ordf_6_V a b c)
theorem ordf_6_chk : tabOk 121 (opsOf Tryd.f7 6) ordf_6_T = true := by kernel_rfl
set_option maxRecDepth 100000 in
set_option maxHeartbeats 8000000 in
theorem ordf_6_ok {w0 : World} (a b c : List Rg)  (la : a.length ≤ 12) (lb : b.length ≤ 12) (lc : c.length ≤ 12) (hG : GG w0) (hin : (((minusL a b).length : Int) == 0) = false) : AllOk Tryd.prog (opsOf Tryd.f7 6) (ordf_E5 a b c) w0 ordf_6_T 0 :=
  ⟨op_move 7 (g := none) (by kernel_rfl) trivial (by decide) rfl,
   op_move 51 (g := none) (by kernel_rfl) trivial (by decide) rfl,
   op_skip (j := 1) (b := true) 52 false (by kernel_rfl) (by kernel_rfl) (by decide) rfl rfl rfl,
   op_skip (j := 1) (b := true) 52 false (by kernel_rfl) (by kernel_rfl) (by decide) rfl rfl rfl,
   op_skip (j := 1) (b := true) 52 false (by kernel_rfl) (by kernel_rfl) (by decide) rfl rfl rfl,
   op_skip (j := 1) (b := true) 52 false (by kernel_rfl) (by kernel_rfl) (by decide) rfl rfl rfl,
   op_skip (j := 1) (b := true) 52 false (by kernel_rfl) (by kernel_rfl) (by decide) rfl rfl rfl,
   op_skip (j := 1) (b := true) 52 false (by kernel_rfl) (by kernel_rfl) (by decide) rfl rfl rfl,
   op_skip (j := 1) (b := true) 52 false (by kernel_rfl) (by kernel_rfl) (by decide) rfl rfl rfl,
   op_skip (j := 1) (b := true) 52 false (by kernel_rfl) (by kernel_rfl) (by decide) rfl rfl rfl,
   op_skip (j := 1) (b := true) 52 false (by kernel_rfl) (by kernel_rfl) (by decide) rfl rfl rfl,
   op_skip (j := 1) (b := true) 52 false (by kernel_rfl) (by kernel_rfl) (by decide) rfl rfl rfl,
   op_skip (j := 1) (b := true) 52 false (by kernel_rfl) (by kernel_rfl) (by decide) rfl rfl rfl,
   op_pick_fc 52 (.bool false) (.tmp 63) (g := none) (by kernel_rfl) trivial (by decide) rfl rfl,
   op_move 64 (g := none) (by kernel_rfl) trivial (by decide) rfl,
   op_move 7 (g := some (14, false)) (by kernel_rfl) ⟨65, by kernel_rfl, by decide, rfl⟩ (by decide) rfl,
   op_move 66 (g := some (14, false)) (by kernel_rfl) ⟨65, by kernel_rfl, by decide, rfl⟩ (by decide) rfl,
   op_skip (j := 16) (b := true) 67 false (by kernel_rfl) (by kernel_rfl) (by decide) rfl rfl rfl,
   op_skip (j := 16) (b := true) 67 false (by kernel_rfl) (by kernel_rfl) (by decide) rfl rfl rfl,
   op_skip (j := 16) (b := true) 67 false (by kernel_rfl) (by kernel_rfl) (by decide) rfl rfl rfl,
   op_pick_fc 67 (.bool false) (.tmp 70) (g := some (14, false)) (by kernel_rfl) ⟨65, by kernel_rfl, by decide, rfl⟩ (by decide) rfl rfl,
   op_move 71 (g := some (14, false)) (by kernel_rfl) ⟨65, by kernel_rfl, by decide, rfl⟩ (by decide) rfl,
   op_skip (j := 21) (b := true) 72 false (by kernel_rfl) (by kernel_rfl) (by decide) rfl rfl rfl,
   op_skip (j := 21) (b := true) 72 false (by kernel_rfl) (by kernel_rfl) (by decide) rfl rfl rfl,
   op_skip (j := 21) (b := true) 72 false (by kernel_rfl) (by kernel_rfl) (by decide) rfl rfl rfl,
   op_skip (j := 21) (b := true) 72 false (by kernel_rfl) (by kernel_rfl) (by decide) rfl rfl rfl,
   op_pick_fc 72 (.bool false) (.tmp 76) (g := some (14, false)) (by kernel_rfl) ⟨65, by kernel_rfl, by decide, rfl⟩ (by decide) rfl rfl,
   op_pick_f 65 77 (.const (.bool true)) (g := none) (by kernel_rfl) trivial (by decide) (by decide) rfl rfl,
   op_move 78 (g := none) (by kernel_rfl) trivial (by decide) rfl,
   op_move 7 (g := some (28, false)) (by kernel_rfl) ⟨79, by kernel_rfl, by decide, rfl⟩ (by decide) rfl,
   op_move 80 (g := some (28, false)) (by kernel_rfl) ⟨79, by kernel_rfl, by decide, rfl⟩ (by decide) rfl,
   op_skip (j := 30) (b := true) 81 false (by kernel_rfl) (by kernel_rfl) (by decide) rfl rfl rfl,
   op_skip (j := 30) (b := true) 81 false (by kernel_rfl) (by kernel_rfl) (by decide) rfl rfl rfl,
   op_skip (j := 30) (b := true) 81 false (by kernel_rfl) (by kernel_rfl) (by decide) rfl rfl rfl,
   op_skip (j := 30) (b := true) 81 false (by kernel_rfl) (by kernel_rfl) (by decide) rfl rfl rfl,
   op_skip (j := 30) (b := true) 81 false (by kernel_rfl) (by kernel_rfl) (by decide) rfl rfl rfl,
   op_pick_fc 81 (.bool false) (.tmp 86) (g := some (28, false)) (by kernel_rfl) ⟨79, by kernel_rfl, by decide, rfl⟩ (by decide) rfl rfl,
   op_pick_f 79 87 (.const (.bool true)) (g := none) (by kernel_rfl) trivial (by decide) (by decide) rfl rfl,
   trivial⟩
def ordf_8_T : List (List Nat × Nat) := [([3], 89), ([4], 90), ([89, 90], 91), ([3], 92), ([91, 92], 93), ([93], 94), ([94, 3], 95), ([94, 3], 96), ([94, 4], 97), ([94, 96, 97], 98), ([94, 95, 98], 99), ([94, 99], 100), ([100], 101), ([101, 3], 102), ([101, 102], 103), ([101, 4], 104), ([101, 104], 105), ([101, 103, 105], 106), ([101, 3], 107), ([101, 4], 108), ([101, 107, 108], 109), ([101, 109], 110), ([101, 3], 111), ([101, 4], 112), ([101, 111, 112], 113), ([101, 113], 114), ([101, 110, 114], 115), ([101, 106, 115], 116), ([101, 116], 117), ([117], 118), ([118], 119), ([118, 119], 120), ([120], 6)]
def ordf_8_V (a b c : List Rg) : List AV := [AV.set a, AV.set b, AV.set (andL a b), AV.set a, AV.bool true, AV.bool true, AV.set a, AV.set a, AV.set b, AV.set (orL a b), AV.bool true, AV.bool true, AV.bool true, AV.set a, AV.int (cntL a), AV.set b, AV.int (cntL b), AV.int (wrap64 (cntL a + cntL b)), AV.set a, AV.set b, AV.set (orL a b), AV.int (cntL (orL a b)), AV.set a, AV.set b, AV.set (andL a b), AV.int (cntL (andL a b)), AV.int (wrap64 (cntL (orL a b) + cntL (andL a b))), AV.bool true, AV.bool true, AV.bool true, AV.bool true, AV.bool true, AV.bool true]
def ordf_E6 (a b c : List Rg) : Nat → AV := upd (ordf_E5 a b c) ordf_8_T (ordf_8_V a b c)
theorem ordf_8_chk : tabOk 121 (opsOf Tryd.f7 8) ordf_8_T = true := by kernel_rfl
set_option maxRecDepth 100000 in
set_option maxHeartbeats 8000000 in
theorem ordf_8_ok {w0 : World} (a b c : List Rg)  (la : a.length ≤ 12) (lb : b.length ≤ 12) (lc : c.length ≤ 12) (hG : GG w0) (hin : (((minusL a b).length : Int) == 0) = false) : AllOk Tryd.prog (opsOf Tryd.f7 8) (ordf_E6 a b c) w0 ordf_8_T 0 :=
  ⟨op_load 3 a (g := none) (by kernel_rfl) trivial (by decide) rfl rfl,
   op_load 4 b (g := none) (by kernel_rfl) trivial (by decide) rfl rfl,
   op_call 25 [89, 90] #[24, 24] _ (g := none) (by kernel_rfl) trivial Tryd.func25 (by kernel_rfl) rfl (by decide) rfl (c_and (Nat.le_trans la (by decide)) (Nat.le_trans lb (by decide))) rfl,
   op_load 3 a (g := none) (by kernel_rfl) trivial (by decide) rfl rfl,
   op_call 27 [91, 92] #[24, 24] _ (g := none) (by kernel_rfl) trivial Tryd.func27 (by kernel_rfl) rfl (by decide) rfl (c_subset (Nat.le_trans (two_le la lb) (by decide)) (Nat.le_trans la (by decide)) (sub_and a b)) rfl,
   op_move 93 (g := none) (by kernel_rfl) trivial (by decide) rfl,
   op_load 3 a (g := some (5, true)) (by kernel_rfl) ⟨94, by kernel_rfl, by decide, rfl⟩ (by decide) rfl rfl,
   op_load 3 a (g := some (5, true)) (by kernel_rfl) ⟨94, by kernel_rfl, by decide, rfl⟩ (by decide) rfl rfl,
   op_load 4 b (g := some (5, true)) (by kernel_rfl) ⟨94, by kernel_rfl, by decide, rfl⟩ (by decide) rfl rfl,
   op_call 24 [96, 97] #[24, 24] _ (g := some (5, true)) (by kernel_rfl) ⟨94, by kernel_rfl, by decide, rfl⟩ Tryd.func24 (by kernel_rfl) rfl (by decide) rfl (c_or (Nat.le_trans la (by decide)) (Nat.le_trans lb (by decide))) rfl,
   op_call 27 [95, 98] #[24, 24] _ (g := some (5, true)) (by kernel_rfl) ⟨94, by kernel_rfl, by decide, rfl⟩ Tryd.func27 (by kernel_rfl) rfl (by decide) rfl (c_subset (Nat.le_trans la (by decide)) (Nat.le_trans (two_le la lb) (by decide)) (sub_or a b)) rfl,
   op_pick_t 94 99 (.const (.bool false)) (g := none) (by kernel_rfl) trivial (by decide) (by decide) rfl rfl,
   op_move 100 (g := none) (by kernel_rfl) trivial (by decide) rfl,
   op_load 3 a (g := some (12, true)) (by kernel_rfl) ⟨101, by kernel_rfl, by decide, rfl⟩ (by decide) rfl rfl,
   op_call 28 [102] #[24] _ (g := some (12, true)) (by kernel_rfl) ⟨101, by kernel_rfl, by decide, rfl⟩ Tryd.func28 (by kernel_rfl) rfl (by decide) rfl (c_count (Nat.le_trans la (by decide))) rfl,
   op_load 4 b (g := some (12, true)) (by kernel_rfl) ⟨101, by kernel_rfl, by decide, rfl⟩ (by decide) rfl rfl,
   op_call 28 [104] #[24] _ (g := some (12, true)) (by kernel_rfl) ⟨101, by kernel_rfl, by decide, rfl⟩ Tryd.func28 (by kernel_rfl) rfl (by decide) rfl (c_count (Nat.le_trans lb (by decide))) rfl,
   op_add 103 105 _ _ (g := some (12, true)) (by kernel_rfl) ⟨101, by kernel_rfl, by decide, rfl⟩ (by decide) (by decide) rfl rfl rfl,
   op_load 3 a (g := some (12, true)) (by kernel_rfl) ⟨101, by kernel_rfl, by decide, rfl⟩ (by decide) rfl rfl,
   op_load 4 b (g := some (12, true)) (by kernel_rfl) ⟨101, by kernel_rfl, by decide, rfl⟩ (by decide) rfl rfl,
   op_call 24 [107, 108] #[24, 24] _ (g := some (12, true)) (by kernel_rfl) ⟨101, by kernel_rfl, by decide, rfl⟩ Tryd.func24 (by kernel_rfl) rfl (by decide) rfl (c_or (Nat.le_trans la (by decide)) (Nat.le_trans lb (by decide))) rfl,
   op_call 28 [109] #[24] _ (g := some (12, true)) (by kernel_rfl) ⟨101, by kernel_rfl, by decide, rfl⟩ Tryd.func28 (by kernel_rfl) rfl (by decide) rfl (c_count (Nat.le_trans (two_le la lb) (by decide))) rfl,
   op_load 3 a (g := some (12, true)) (by kernel_rfl) ⟨101, by kernel_rfl, by decide, rfl⟩ (by decide) rfl rfl,
   op_load 4 b (g := some (12, true)) (by kernel_rfl) ⟨101, by kernel_rfl, by decide, rfl⟩ (by decide) rfl rfl,
   op_call 25 [111, 112] #[24, 24] _ (g := some (12, true)) (by kernel_rfl) ⟨101, by kernel_rfl, by decide, rfl⟩ Tryd.func25 (by kernel_rfl) rfl (by decide) rfl (c_and (Nat.le_trans la (by decide)) (Nat.le_trans lb (by decide))) rfl,
   op_call 28 [113] #[24] _ (g := some (12, true)) (by kernel_rfl) ⟨101, by kernel_rfl, by decide, rfl⟩ Tryd.func28 (by kernel_rfl) rfl (by decide) rfl (c_count (Nat.le_trans (two_le la lb) (by decide))) rfl,
   op_add 110 114 _ _ (g := some (12, true)) (by kernel_rfl) ⟨101, by kernel_rfl, by decide, rfl⟩ (by decide) (by decide) rfl rfl rfl,
   op_eqi 106 115 _ _ true (or_add a b) (g := some (12, true)) (by kernel_rfl) ⟨101, by kernel_rfl, by decide, rfl⟩ (by decide) (by decide) rfl rfl rfl,
   op_pick_t 101 116 (.const (.bool false)) (g := none) (by kernel_rfl) trivial (by decide) (by decide) rfl rfl,
   op_move 117 (g := none) (by kernel_rfl) trivial (by decide) rfl,
   op_call 13 [] #[] _ (g := some (29, true)) (by kernel_rfl) ⟨118, by kernel_rfl, by decide, rfl⟩ Tryd.func13 (by kernel_rfl) rfl (by decide) rfl (c_alive hG) rfl,
   op_pick_t 118 119 (.const (.bool false)) (g := none) (by kernel_rfl) trivial (by decide) (by decide) rfl rfl,
   op_assign 120 (g := none) (by kernel_rfl) trivial (by decide) rfl,
   trivial⟩
set_option maxRecDepth 100000 in
set_option maxHeartbeats 8000000 in
theorem ordf_calls {w : World} (a b c : List Rg)  (la : a.length ≤ 12) (lb : b.length ≤ 12) (lc : c.length ≤ 12) (hG : GG w) (hin : (((minusL a b).length : Int) == 0) = false) {vs : List Value} (hF : Fits2 w [AV.set a, AV.set b, AV.set c] vs) (hL : vs.length = 3) : Calls Tryd.prog 7 vs.toArray w fun e w' => e = .returned (.bool true) ∧ Below w.heap.size w w' := by
  refine calls_abs (N := 121) (c := (.seq (.region 0 (opsOf Tryd.f7 0) false) (.seq (.seq (.region 1 (opsOf Tryd.f7 1) false) (.cond (.tmp 16) (.seq (.region 2 (opsOf Tryd.f7 2) false) .ret) .skip)) (.seq (.region 3 (opsOf Tryd.f7 3) false) (.seq (.seq (.region 4 (opsOf Tryd.f7 4) true) (.cond (.tmp 50) (.seq (.region 5 (opsOf Tryd.f7 5) false) .ret) .skip)) (.seq (.seq (.region 6 (opsOf Tryd.f7 6) true) (.cond (.tmp 88) (.seq (.region 7 (opsOf Tryd.f7 7) false) .ret) .skip)) (.seq (.region 8 (opsOf Tryd.f7 8) true) .ret))))))) Tryd.func7 (by kernel_rfl) (by rw [hL]; rfl) hF (fun a_ S => ?_)
  replace S : St 121 (ordf_E0 a b c) _ _ _ _ := S
  refine wp_seq ?_
  refine region_seq (N := 121) (E0 := (ordf_E0 a b c)) (tab := ordf_0_T) (vals := ordf_0_V a b c) (by kernel_rfl) ordf_0_chk (ordf_0_ok a b c la lb lc hG hin) S (fun a_ w_ S => ?_)
  refine then_normal ?_
  refine wp_seq ?_
  refine wp_seq ?_
  refine region_seq (N := 121) (E0 := (ordf_E1 a b c)) (tab := ordf_1_T) (vals := ordf_1_V a b c) (by kernel_rfl) ordf_1_chk (ordf_1_ok a b c la lb lc hG hin) S (fun a_ w_ S => ?_)
  refine then_normal ?_
  refine wp_cond_false (S.eval 16 (by decide) rfl) ?_
  refine wp_skip ?_
  refine then_normal ?_
  refine wp_seq ?_
  refine region_seq (N := 121) (E0 := (ordf_E2 a b c)) (tab := ordf_3_T) (vals := ordf_3_V a b c) (by kernel_rfl) ordf_3_chk (ordf_3_ok a b c la lb lc hG hin) S (fun a_ w_ S => ?_)
  refine then_normal ?_
  refine wp_seq ?_
  refine wp_seq ?_
  refine region_abs (N := 121) (E0 := (ordf_E3 a b c)) (tab := ordf_4_T) (vals := ordf_4_V a b c) (by kernel_rfl) ordf_4_chk (ordf_4_ok a b c la lb lc hG hin) S (fun a_ w_ S => ?_)
  refine then_normal ?_
  refine wp_cond_false (S.eval 50 (by decide) rfl) ?_
  refine wp_skip ?_
  refine then_normal ?_
  refine wp_seq ?_
  refine wp_seq ?_
  refine region_abs (N := 121) (E0 := (ordf_E4 a b c)) (tab := ordf_6_T) (vals := ordf_6_V a b c) (by kernel_rfl) ordf_6_chk (ordf_6_ok a b c la lb lc hG hin) S (fun a_ w_ S => ?_)
  refine then_normal ?_
  refine wp_cond_false (S.eval 88 (by decide) rfl) ?_
  refine wp_skip ?_
  refine then_normal ?_
  refine wp_seq ?_
  refine region_abs (N := 121) (E0 := (ordf_E5 a b c)) (tab := ordf_8_T) (vals := ordf_8_V a b c) (by kernel_rfl) ordf_8_chk (ordf_8_ok a b c la lb lc hG hin) S (fun a_ w_ S => ?_)
  refine then_normal ?_
  refine wp_ret ?_
  repeat (with_reducible refine then_ret ?_)
  exact post_ret (fn := Tryd.f7) 6 (by kernel_rfl) S (by decide) (x := .bool true) rfl ⟨rfl, S.below⟩
def ordts_E0 (a b c : List Rg) (x : Bool) : Nat → AV := kindsOf [AV.set a, AV.set b, AV.set c]
def ordts_0_T : List (List Nat × Nat) := [([0], 3), ([1], 4), ([2], 5), ([], 6)]
def ordts_0_V (a b c : List Rg) (x : Bool) : List AV := [AV.sbox a, AV.sbox b, AV.sbox c, AV.bool false]
def ordts_E1 (a b c : List Rg) (x : Bool) : Nat → AV := upd (ordts_E0 a b c x) ordts_0_T (ordts_0_V a b c x)
theorem ordts_0_chk : seqOk 121 (opsOf Tryd.f7 0) ordts_0_T = true := by kernel_rfl
set_option maxRecDepth 100000 in
set_option maxHeartbeats 8000000 in
theorem ordts_0_ok {w0 : World} (a b c : List Rg) (x : Bool)  (la : a.length ≤ 12) (lb : b.length ≤ 12) (lc : c.length ≤ 12) (hG : GG w0) (hin : (((minusL a b).length : Int) == 0) = true) (hx : (((minusL b a).length : Int) == 0) = x) (hs : (((minusL b c).length : Int) == 0) = true) : AllOk Tryd.prog (opsOf Tryd.f7 0) (ordts_E1 a b c x) w0 ordts_0_T 0 :=
  ⟨op_box 0 a (g := none) (by kernel_rfl) trivial (by decide) rfl rfl,
   op_box 1 b (g := none) (by kernel_rfl) trivial (by decide) rfl rfl,
   op_box 2 c (g := none) (by kernel_rfl) trivial (by decide) rfl rfl,
   op_assignc (.bool false) (g := none) (by kernel_rfl) trivial rfl,
   trivial⟩
def ordts_1_T : List (List Nat × Nat) := [([3], 8), ([4], 9), ([8, 9], 10), ([10], 11), ([11], 12), ([12, 5], 13), ([12, 13], 14), ([12, 14], 15), ([12, 15], 16)]
def ordts_1_V (a b c : List Rg) (x : Bool) : List AV := [AV.set a, AV.set b, AV.bool true, AV.bool false, AV.bool false, AV.set c, AV.bool true, AV.bool false, AV.bool false]
def ordts_E2 (a b c : List Rg) (x : Bool) : Nat → AV := upd (ordts_E1 a b c x) ordts_1_T (ordts_1_V a b c x)
theorem ordts_1_chk : seqOk 121 (opsOf Tryd.f7 1) ordts_1_T = true := by kernel_rfl
set_option maxRecDepth 100000 in
set_option maxHeartbeats 8000000 in
theorem ordts_1_ok {w0 : World} (a b c : List Rg) (x : Bool)  (la : a.length ≤ 12) (lb : b.length ≤ 12) (lc : c.length ≤ 12) (hG : GG w0) (hin : (((minusL a b).length : Int) == 0) = true) (hx : (((minusL b a).length : Int) == 0) = x) (hs : (((minusL b c).length : Int) == 0) = true) : AllOk Tryd.prog (opsOf Tryd.f7 1) (ordts_E2 a b c x) w0 ordts_1_T 0 :=
  ⟨op_load 3 a (g := none) (by kernel_rfl) trivial (by decide) rfl rfl,
   op_load 4 b (g := none) (by kernel_rfl) trivial (by decide) rfl rfl,
   op_call 22 [8, 9] #[24, 24] _ (g := none) (by kernel_rfl) trivial Tryd.func22 (by kernel_rfl) rfl (by decide) rfl (c_small2 (by rw [decide_eq_true la, decide_eq_true lb]; rfl)) rfl,
   op_not 10 true (g := none) (by kernel_rfl) trivial (by decide) rfl rfl,
   op_move 11 (g := none) (by kernel_rfl) trivial (by decide) rfl,
   op_load 5 c (g := some (4, false)) (by kernel_rfl) ⟨12, by kernel_rfl, by decide, rfl⟩ (by decide) rfl rfl,
   op_call 12 [13] #[24] _ (g := some (4, false)) (by kernel_rfl) ⟨12, by kernel_rfl, by decide, rfl⟩ Tryd.func12 (by kernel_rfl) rfl (by decide) rfl (c_small (decide_eq_true lc)) rfl,
   op_not 14 true (g := some (4, false)) (by kernel_rfl) ⟨12, by kernel_rfl, by decide, rfl⟩ (by decide) rfl rfl,
   op_pick_f 12 15 (.const (.bool true)) (g := none) (by kernel_rfl) trivial (by decide) (by decide) rfl rfl,
   trivial⟩
def ordts_3_T : List (List Nat × Nat) := [([3], 18), ([4], 19), ([18, 19], 20), ([20], 7)]
def ordts_3_V (a b c : List Rg) (x : Bool) : List AV := [AV.set a, AV.set b, AV.bool true, AV.bool true]
def ordts_E3 (a b c : List Rg) (x : Bool) : Nat → AV := upd (ordts_E2 a b c x) ordts_3_T (ordts_3_V a b c x)
theorem ordts_3_chk : seqOk 121 (opsOf Tryd.f7 3) ordts_3_T = true := by kernel_rfl
set_option maxRecDepth 100000 in
set_option maxHeartbeats 8000000 in
theorem ordts_3_ok {w0 : World} (a b c : List Rg) (x : Bool)  (la : a.length ≤ 12) (lb : b.length ≤ 12) (lc : c.length ≤ 12) (hG : GG w0) (hin : (((minusL a b).length : Int) == 0) = true) (hx : (((minusL b a).length : Int) == 0) = x) (hs : (((minusL b c).length : Int) == 0) = true) : AllOk Tryd.prog (opsOf Tryd.f7 3) (ordts_E3 a b c x) w0 ordts_3_T 0 :=
  ⟨op_load 3 a (g := none) (by kernel_rfl) trivial (by decide) rfl rfl,
   op_load 4 b (g := none) (by kernel_rfl) trivial (by decide) rfl rfl,
   op_call 27 [18, 19] #[24, 24] _ (g := none) (by kernel_rfl) trivial Tryd.func27 (by kernel_rfl) rfl (by decide) rfl (c_subset (Nat.le_trans la (by decide)) (Nat.le_trans lb (by decide)) hin) rfl,
   op_assign 20 (g := none) (by kernel_rfl) trivial (by decide) rfl,
   trivial⟩
def ordts_4_T : List (List Nat × Nat) := [([7], 21), ([3], 22), ([4], 23), ([22, 23], 24), ([24], 25), ([25], 26), ([26], 27), ([21, 27], 28), ([28], 29), ([29, 7], 30), ([29, 3], 31), ([29, 4], 32), ([29, 31, 32], 33), ([29, 4], 34), ([29, 34], 35), ([29, 35], 36), ([29, 33, 36], 37), ([29, 30, 37], 38), ([29, 38], 39), ([39], 40), ([40, 3], 41), ([40, 4], 42), ([40, 41, 42], 43), ([40, 3], 44), ([40, 4], 45), ([40, 45], 46), ([40, 44, 46], 47), ([40, 43, 47], 48), ([40, 48], 49), ([40, 49], 50)]
def ordts_4_V (a b c : List Rg) (x : Bool) : List AV := [AV.bool true, AV.set a, AV.set b, AV.set (minusL a b), AV.row (minusL a b), AV.int ((minusL a b).length), AV.bool true, AV.bool false, AV.bool false, AV.bool true, AV.set a, AV.set b, AV.set (orL a b), AV.sbox b, AV.row b, AV.set (makeL b), AV.bool true, AV.bool false, AV.bool false, AV.bool false, AV.set a, AV.set b, AV.set (minusL a b), AV.set a, AV.set b, AV.set (notL b), AV.set (andL a (notL b)), AV.bool true, AV.bool false, AV.bool false]
def ordts_E4 (a b c : List Rg) (x : Bool) : Nat → AV := upd (ordts_E3 a b c x) ordts_4_T (ordts_4_V a b c x)
theorem ordts_4_chk : tabOk 121 (opsOf Tryd.f7 4) ordts_4_T = true := by kernel_rfl
set_option maxRecDepth 100000 in
set_option maxHeartbeats 8000000 in
theorem ordts_4_ok {w0 : World} (a b c : List Rg) (x : Bool)  (la : a.length ≤ 12) (lb : b.length ≤ 12) (lc : c.length ≤ 12) (hG : GG w0) (hin : (((minusL a b).length : Int) == 0) = true) (hx : (((minusL b a).length : Int) == 0) = x) (hs : (((minusL b c).length : Int) == 0) = true) : AllOk Tryd.prog (opsOf Tryd.f7 4) (ordts_E4 a b c x) w0 ordts_4_T 0 :=
  ⟨op_move 7 (g := none) (by kernel_rfl) trivial (by decide) rfl,
   op_load 3 a (g := none) (by kernel_rfl) trivial (by decide) rfl rfl,
   op_load 4 b (g := none) (by kernel_rfl) trivial (by decide) rfl rfl,
   op_call 26 [22, 23] #[24, 24] _ (g := none) (by kernel_rfl) trivial Tryd.func26 (by kernel_rfl) rfl (by decide) rfl (c_minus (Nat.le_trans la (by decide)) (Nat.le_trans lb (by decide))) rfl,
   op_field 24 (minusL a b) (g := none) (by kernel_rfl) trivial (by decide) rfl rfl,
   op_len 25 (minusL a b) (g := none) (by kernel_rfl) trivial (by decide) rfl rfl,
   op_eq0 26 _ true hin (g := none) (by kernel_rfl) trivial (by decide) rfl rfl,
   op_neqb 21 27 _ _ false rfl (g := none) (by kernel_rfl) trivial (by decide) (by decide) rfl rfl rfl,
   op_move 28 (g := none) (by kernel_rfl) trivial (by decide) rfl,
   op_move 7 (g := some (8, false)) (by kernel_rfl) ⟨29, by kernel_rfl, by decide, rfl⟩ (by decide) rfl,
   op_load 3 a (g := some (8, false)) (by kernel_rfl) ⟨29, by kernel_rfl, by decide, rfl⟩ (by decide) rfl rfl,
   op_load 4 b (g := some (8, false)) (by kernel_rfl) ⟨29, by kernel_rfl, by decide, rfl⟩ (by decide) rfl rfl,
   op_call 24 [31, 32] #[24, 24] _ (g := some (8, false)) (by kernel_rfl) ⟨29, by kernel_rfl, by decide, rfl⟩ Tryd.func24 (by kernel_rfl) rfl (by decide) rfl (c_or (Nat.le_trans la (by decide)) (Nat.le_trans lb (by decide))) rfl,
   op_faddr 4 b (g := some (8, false)) (by kernel_rfl) ⟨29, by kernel_rfl, by decide, rfl⟩ (by decide) rfl rfl,
   op_loadrow 34 b (g := some (8, false)) (by kernel_rfl) ⟨29, by kernel_rfl, by decide, rfl⟩ (by decide) rfl rfl,
   op_call 21 [35] #[22] _ (g := some (8, false)) (by kernel_rfl) ⟨29, by kernel_rfl, by decide, rfl⟩ Tryd.func21 (by kernel_rfl) rfl (by decide) rfl (c_make (Nat.le_trans lb (by decide))) rfl,
   op_call 18 [33, 36] #[24, 24] _ (g := some (8, false)) (by kernel_rfl) ⟨29, by kernel_rfl, by decide, rfl⟩ Tryd.func18 (by kernel_rfl) rfl (by decide) rfl (c_same (Nat.le_trans (two_le la lb) (by decide)) (or_in a b hin)) rfl,
   op_neqb 30 37 _ _ false rfl (g := some (8, false)) (by kernel_rfl) ⟨29, by kernel_rfl, by decide, rfl⟩ (by decide) (by decide) rfl rfl rfl,
   op_pick_f 29 38 (.const (.bool true)) (g := none) (by kernel_rfl) trivial (by decide) (by decide) rfl rfl,
   op_move 39 (g := none) (by kernel_rfl) trivial (by decide) rfl,
   op_load 3 a (g := some (19, false)) (by kernel_rfl) ⟨40, by kernel_rfl, by decide, rfl⟩ (by decide) rfl rfl,
   op_load 4 b (g := some (19, false)) (by kernel_rfl) ⟨40, by kernel_rfl, by decide, rfl⟩ (by decide) rfl rfl,
   op_call 26 [41, 42] #[24, 24] _ (g := some (19, false)) (by kernel_rfl) ⟨40, by kernel_rfl, by decide, rfl⟩ Tryd.func26 (by kernel_rfl) rfl (by decide) rfl (c_minus (Nat.le_trans la (by decide)) (Nat.le_trans lb (by decide))) rfl,
   op_load 3 a (g := some (19, false)) (by kernel_rfl) ⟨40, by kernel_rfl, by decide, rfl⟩ (by decide) rfl rfl,
   op_load 4 b (g := some (19, false)) (by kernel_rfl) ⟨40, by kernel_rfl, by decide, rfl⟩ (by decide) rfl rfl,
   op_call 23 [45] #[24] _ (g := some (19, false)) (by kernel_rfl) ⟨40, by kernel_rfl, by decide, rfl⟩ Tryd.func23 (by kernel_rfl) rfl (by decide) rfl (c_not (Nat.le_trans lb (by decide))) rfl,
   op_call 25 [44, 46] #[24, 24] _ (g := some (19, false)) (by kernel_rfl) ⟨40, by kernel_rfl, by decide, rfl⟩ Tryd.func25 (by kernel_rfl) rfl (by decide) rfl (c_and (Nat.le_trans la (by decide)) (Nat.le_trans (not_le lb) (by decide))) rfl,
   op_call 18 [43, 47] #[24, 24] _ (g := some (19, false)) (by kernel_rfl) ⟨40, by kernel_rfl, by decide, rfl⟩ Tryd.func18 (by kernel_rfl) rfl (by decide) rfl (c_same (Nat.le_trans (two_le la lb) (by decide)) (decide_eq_true (or_ma a b))) rfl,
   op_not 48 true (g := some (19, false)) (by kernel_rfl) ⟨40, by kernel_rfl, by decide, rfl⟩ (by decide) rfl rfl,
   op_pick_f 40 49 (.const (.bool true)) (g := none) (by kernel_rfl) trivial (by decide) (by decide) rfl rfl,
   trivial⟩
def ordts_6_T : List (List Nat × Nat) := [([7], 51), ([51], 52), ([52, 4], 53), ([52, 3], 54), ([52, 53, 54], 55), ([52, 3], 56), ([52, 56], 57), ([52, 57], 58), ([52, 4], 59), ([52, 59], 60), ([52, 60], 61), ([52, 58, 61], 62), ([52, 55, 62], 63), ([52, 63], 64), ([64], 65), ([65, 7], 66), ([65, 66], 67), ([67, 4], 68), ([67, 5], 69), ([67, 68, 69], 70), ([65, 67, 70], 71), ([65, 71], 72), ([72, 3], 73), ([72, 5], 74), ([72, 73, 74], 75), ([72, 75], 76), ([65, 72, 76], 77), ([65, 77], 78), ([78], 79), ([79, 7], 80), ([79, 80], 81), ([81, 3], 82), ([81, 82], 83), ([81, 4], 84), ([81, 84], 85), ([81, 83, 85], 86), ([79, 81, 86], 87), ([79, 87], 88)]
def ordts_6_V (a b c : List Rg) (x : Bool) : List AV := [AV.bool true, AV.bool true, AV.set b, AV.set a, AV.bool x, AV.sbox a, AV.row a, AV.set (makeL a), AV.sbox b, AV.row b, AV.set (makeL b), AV.bool x, AV.bool false, AV.bool false, AV.bool false, AV.bool true, AV.bool true, AV.set b, AV.set c, AV.bool true, AV.bool true, AV.bool true, AV.set a, AV.set c, AV.bool true, AV.bool false, AV.bool false, AV.bool false, AV.bool false, AV.bool true, AV.bool true, AV.set a, AV.int (cntL a), AV.set b, AV.int (cntL b), AV.bool false, AV.bool false, AV.bool false]
def ordts_E5 (a b c : List Rg) (x : Bool) : Nat → AV := upd (ordts_E4 a b c x) ordts_6_T (ordts_6_V a b c x)
theorem ordts_6_chk : tabOk 121 (opsOf Tryd.f7 6) ordts_6_T = true := by kernel_rfl
set_option maxRecDepth 100000 in
set_option maxHeartbeats 8000000 in
theorem ordts_6_ok {w0 : World} (a b c : List Rg) (x : Bool)  (la : a.length ≤ 12) (lb : b.length ≤ 12) (lc : c.length ≤ 12) (hG : GG w0) (hin : (((minusL a b).length : Int) == 0) = true) (hx : (((minusL b a).length : Int) == 0) = x) (hs : (((minusL b c).length : Int) == 0) = true) : AllOk Tryd.prog (opsOf Tryd.f7 6) (ordts_E5 a b c x) w0 ordts_6_T 0 :=
  ⟨op_move 7 (g := none) (by kernel_rfl) trivial (by decide) rfl,
   op_move 51 (g := none) (by kernel_rfl) trivial (by decide) rfl,
   op_load 4 b (g := some (1, true)) (by kernel_rfl) ⟨52, by kernel_rfl, by decide, rfl⟩ (by decide) rfl rfl,
   op_load 3 a (g := some (1, true)) (by kernel_rfl) ⟨52, by kernel_rfl, by decide, rfl⟩ (by decide) rfl rfl,
   op_call 27 [53, 54] #[24, 24] _ (g := some (1, true)) (by kernel_rfl) ⟨52, by kernel_rfl, by decide, rfl⟩ Tryd.func27 (by kernel_rfl) rfl (by decide) rfl (c_subset (Nat.le_trans lb (by decide)) (Nat.le_trans la (by decide)) hx) rfl,
   op_faddr 3 a (g := some (1, true)) (by kernel_rfl) ⟨52, by kernel_rfl, by decide, rfl⟩ (by decide) rfl rfl,
   op_loadrow 56 a (g := some (1, true)) (by kernel_rfl) ⟨52, by kernel_rfl, by decide, rfl⟩ (by decide) rfl rfl,
   op_call 21 [57] #[22] _ (g := some (1, true)) (by kernel_rfl) ⟨52, by kernel_rfl, by decide, rfl⟩ Tryd.func21 (by kernel_rfl) rfl (by decide) rfl (c_make (Nat.le_trans la (by decide))) rfl,
   op_faddr 4 b (g := some (1, true)) (by kernel_rfl) ⟨52, by kernel_rfl, by decide, rfl⟩ (by decide) rfl rfl,
   op_loadrow 59 b (g := some (1, true)) (by kernel_rfl) ⟨52, by kernel_rfl, by decide, rfl⟩ (by decide) rfl rfl,
   op_call 21 [60] #[22] _ (g := some (1, true)) (by kernel_rfl) ⟨52, by kernel_rfl, by decide, rfl⟩ Tryd.func21 (by kernel_rfl) rfl (by decide) rfl (c_make (Nat.le_trans lb (by decide))) rfl,
   op_call 18 [58, 61] #[24, 24] _ (g := some (1, true)) (by kernel_rfl) ⟨52, by kernel_rfl, by decide, rfl⟩ Tryd.func18 (by kernel_rfl) rfl (by decide) rfl (c_same (Nat.le_trans (Nat.le_trans (makeL_len _) la) (by decide)) (or_anti a b hin hx)) rfl,
   op_neqb 55 62 _ _ false (by cases x <;> rfl) (g := some (1, true)) (by kernel_rfl) ⟨52, by kernel_rfl, by decide, rfl⟩ (by decide) (by decide) rfl rfl rfl,
   op_pick_t 52 63 (.const (.bool false)) (g := none) (by kernel_rfl) trivial (by decide) (by decide) rfl rfl,
   op_move 64 (g := none) (by kernel_rfl) trivial (by decide) rfl,
   op_move 7 (g := some (14, false)) (by kernel_rfl) ⟨65, by kernel_rfl, by decide, rfl⟩ (by decide) rfl,
   op_move 66 (g := some (14, false)) (by kernel_rfl) ⟨65, by kernel_rfl, by decide, rfl⟩ (by decide) rfl,
   op_load 4 b (g := some (16, true)) (by kernel_rfl) ⟨67, by kernel_rfl, by decide, rfl⟩ (by decide) rfl rfl,
   op_load 5 c (g := some (16, true)) (by kernel_rfl) ⟨67, by kernel_rfl, by decide, rfl⟩ (by decide) rfl rfl,
   op_call 27 [68, 69] #[24, 24] _ (g := some (16, true)) (by kernel_rfl) ⟨67, by kernel_rfl, by decide, rfl⟩ Tryd.func27 (by kernel_rfl) rfl (by decide) rfl (c_subset (Nat.le_trans lb (by decide)) (Nat.le_trans lc (by decide)) hs) rfl,
   op_pick_t 67 70 (.const (.bool false)) (g := some (14, false)) (by kernel_rfl) ⟨65, by kernel_rfl, by decide, rfl⟩ (by decide) (by decide) rfl rfl,
   op_move 71 (g := some (14, false)) (by kernel_rfl) ⟨65, by kernel_rfl, by decide, rfl⟩ (by decide) rfl,
   op_load 3 a (g := some (21, true)) (by kernel_rfl) ⟨72, by kernel_rfl, by decide, rfl⟩ (by decide) rfl rfl,
   op_load 5 c (g := some (21, true)) (by kernel_rfl) ⟨72, by kernel_rfl, by decide, rfl⟩ (by decide) rfl rfl,
   op_call 27 [73, 74] #[24, 24] _ (g := some (21, true)) (by kernel_rfl) ⟨72, by kernel_rfl, by decide, rfl⟩ Tryd.func27 (by kernel_rfl) rfl (by decide) rfl (c_subset (Nat.le_trans la (by decide)) (Nat.le_trans lc (by decide)) (or_trans a b c hin hs)) rfl,
   op_not 75 true (g := some (21, true)) (by kernel_rfl) ⟨72, by kernel_rfl, by decide, rfl⟩ (by decide) rfl rfl,
   op_pick_t 72 76 (.const (.bool false)) (g := some (14, false)) (by kernel_rfl) ⟨65, by kernel_rfl, by decide, rfl⟩ (by decide) (by decide) rfl rfl,
   op_pick_f 65 77 (.const (.bool true)) (g := none) (by kernel_rfl) trivial (by decide) (by decide) rfl rfl,
   op_move 78 (g := none) (by kernel_rfl) trivial (by decide) rfl,
   op_move 7 (g := some (28, false)) (by kernel_rfl) ⟨79, by kernel_rfl, by decide, rfl⟩ (by decide) rfl,
   op_move 80 (g := some (28, false)) (by kernel_rfl) ⟨79, by kernel_rfl, by decide, rfl⟩ (by decide) rfl,
   op_load 3 a (g := some (30, true)) (by kernel_rfl) ⟨81, by kernel_rfl, by decide, rfl⟩ (by decide) rfl rfl,
   op_call 28 [82] #[24] _ (g := some (30, true)) (by kernel_rfl) ⟨81, by kernel_rfl, by decide, rfl⟩ Tryd.func28 (by kernel_rfl) rfl (by decide) rfl (c_count (Nat.le_trans la (by decide))) rfl,
   op_load 4 b (g := some (30, true)) (by kernel_rfl) ⟨81, by kernel_rfl, by decide, rfl⟩ (by decide) rfl rfl,
   op_call 28 [84] #[24] _ (g := some (30, true)) (by kernel_rfl) ⟨81, by kernel_rfl, by decide, rfl⟩ Tryd.func28 (by kernel_rfl) rfl (by decide) rfl (c_count (Nat.le_trans lb (by decide))) rfl,
   op_gt 83 85 _ _ false (or_cnt a b hin) (g := some (30, true)) (by kernel_rfl) ⟨81, by kernel_rfl, by decide, rfl⟩ (by decide) (by decide) rfl rfl rfl,
   op_pick_t 81 86 (.const (.bool false)) (g := some (28, false)) (by kernel_rfl) ⟨79, by kernel_rfl, by decide, rfl⟩ (by decide) (by decide) rfl rfl,
   op_pick_f 79 87 (.const (.bool true)) (g := none) (by kernel_rfl) trivial (by decide) (by decide) rfl rfl,
   trivial⟩
def ordts_8_T : List (List Nat × Nat) := [([3], 89), ([4], 90), ([89, 90], 91), ([3], 92), ([91, 92], 93), ([93], 94), ([94, 3], 95), ([94, 3], 96), ([94, 4], 97), ([94, 96, 97], 98), ([94, 95, 98], 99), ([94, 99], 100), ([100], 101), ([101, 3], 102), ([101, 102], 103), ([101, 4], 104), ([101, 104], 105), ([101, 103, 105], 106), ([101, 3], 107), ([101, 4], 108), ([101, 107, 108], 109), ([101, 109], 110), ([101, 3], 111), ([101, 4], 112), ([101, 111, 112], 113), ([101, 113], 114), ([101, 110, 114], 115), ([101, 106, 115], 116), ([101, 116], 117), ([117], 118), ([118], 119), ([118, 119], 120), ([120], 6)]
def ordts_8_V (a b c : List Rg) (x : Bool) : List AV := [AV.set a, AV.set b, AV.set (andL a b), AV.set a, AV.bool true, AV.bool true, AV.set a, AV.set a, AV.set b, AV.set (orL a b), AV.bool true, AV.bool true, AV.bool true, AV.set a, AV.int (cntL a), AV.set b, AV.int (cntL b), AV.int (wrap64 (cntL a + cntL b)), AV.set a, AV.set b, AV.set (orL a b), AV.int (cntL (orL a b)), AV.set a, AV.set b, AV.set (andL a b), AV.int (cntL (andL a b)), AV.int (wrap64 (cntL (orL a b) + cntL (andL a b))), AV.bool true, AV.bool true, AV.bool true, AV.bool true, AV.bool true, AV.bool true]
def ordts_E6 (a b c : List Rg) (x : Bool) : Nat → AV := upd (ordts_E5 a b c x) ordts_8_T (ordts_8_V a b c x)
theorem ordts_8_chk : tabOk 121 (opsOf Tryd.f7 8) ordts_8_T = true := by kernel_rfl
set_option maxRecDepth 100000 in
set_option maxHeartbeats 8000000 in
theorem ordts_8_ok {w0 : World} (a b c : List Rg) (x : Bool)  (la : a.length ≤ 12) (lb : b.length ≤ 12) (lc : c.length ≤ 12) (hG : GG w0) (hin : (((minusL a b).length : Int) == 0) = true) (hx : (((minusL b a).length : Int) == 0) = x) (hs : (((minusL b c).length : Int) == 0) = true) : AllOk Tryd.prog (opsOf Tryd.f7 8) (ordts_E6 a b c x) w0 ordts_8_T 0 :=
  ⟨op_load 3 a (g := none) (by kernel_rfl) trivial (by decide) rfl rfl,
   op_load 4 b (g := none) (by kernel_rfl) trivial (by decide) rfl rfl,
   op_call 25 [89, 90] #[24, 24] _ (g := none) (by kernel_rfl) trivial Tryd.func25 (by kernel_rfl) rfl (by decide) rfl (c_and (Nat.le_trans la (by decide)) (Nat.le_trans lb (by decide))) rfl,
   op_load 3 a (g := none) (by kernel_rfl) trivial (by decide) rfl rfl,
   op_call 27 [91, 92] #[24, 24] _ (g := none) (by kernel_rfl) trivial Tryd.func27 (by kernel_rfl) rfl (by decide) rfl (c_subset (Nat.le_trans (two_le la lb) (by decide)) (Nat.le_trans la (by decide)) (sub_and a b)) rfl,
   op_move 93 (g := none) (by kernel_rfl) trivial (by decide) rfl,
   op_load 3 a (g := some (5, true)) (by kernel_rfl) ⟨94, by kernel_rfl, by decide, rfl⟩ (by decide) rfl rfl,
   op_load 3 a (g := some (5, true)) (by kernel_rfl) ⟨94, by kernel_rfl, by decide, rfl⟩ (by decide) rfl rfl,
   op_load 4 b (g := some (5, true)) (by kernel_rfl) ⟨94, by kernel_rfl, by decide, rfl⟩ (by decide) rfl rfl,
   op_call 24 [96, 97] #[24, 24] _ (g := some (5, true)) (by kernel_rfl) ⟨94, by kernel_rfl, by decide, rfl⟩ Tryd.func24 (by kernel_rfl) rfl (by decide) rfl (c_or (Nat.le_trans la (by decide)) (Nat.le_trans lb (by decide))) rfl,
   op_call 27 [95, 98] #[24, 24] _ (g := some (5, true)) (by kernel_rfl) ⟨94, by kernel_rfl, by decide, rfl⟩ Tryd.func27 (by kernel_rfl) rfl (by decide) rfl (c_subset (Nat.le_trans la (by decide)) (Nat.le_trans (two_le la lb) (by decide)) (sub_or a b)) rfl,
   op_pick_t 94 99 (.const (.bool false)) (g := none) (by kernel_rfl) trivial (by decide) (by decide) rfl rfl,
   op_move 100 (g := none) (by kernel_rfl) trivial (by decide) rfl,
   op_load 3 a (g := some (12, true)) (by kernel_rfl) ⟨101, by kernel_rfl, by decide, rfl⟩ (by decide) rfl rfl,
   op_call 28 [102] #[24] _ (g := some (12, true)) (by kernel_rfl) ⟨101, by kernel_rfl, by decide, rfl⟩ Tryd.func28 (by kernel_rfl) rfl (by decide) rfl (c_count (Nat.le_trans la (by decide))) rfl,
   op_load 4 b (g := some (12, true)) (by kernel_rfl) ⟨101, by kernel_rfl, by decide, rfl⟩ (by decide) rfl rfl,
   op_call 28 [104] #[24] _ (g := some (12, true)) (by kernel_rfl) ⟨101, by kernel_rfl, by decide, rfl⟩ Tryd.func28 (by kernel_rfl) rfl (by decide) rfl (c_count (Nat.le_trans lb (by decide))) rfl,
   op_add 103 105 _ _ (g := some (12, true)) (by kernel_rfl) ⟨101, by kernel_rfl, by decide, rfl⟩ (by decide) (by decide) rfl rfl rfl,
   op_load 3 a (g := some (12, true)) (by kernel_rfl) ⟨101, by kernel_rfl, by decide, rfl⟩ (by decide) rfl rfl,
   op_load 4 b (g := some (12, true)) (by kernel_rfl) ⟨101, by kernel_rfl, by decide, rfl⟩ (by decide) rfl rfl,
   op_call 24 [107, 108] #[24, 24] _ (g := some (12, true)) (by kernel_rfl) ⟨101, by kernel_rfl, by decide, rfl⟩ Tryd.func24 (by kernel_rfl) rfl (by decide) rfl (c_or (Nat.le_trans la (by decide)) (Nat.le_trans lb (by decide))) rfl,
   op_call 28 [109] #[24] _ (g := some (12, true)) (by kernel_rfl) ⟨101, by kernel_rfl, by decide, rfl⟩ Tryd.func28 (by kernel_rfl) rfl (by decide) rfl (c_count (Nat.le_trans (two_le la lb) (by decide))) rfl,
   op_load 3 a (g := some (12, true)) (by kernel_rfl) ⟨101, by kernel_rfl, by decide, rfl⟩ (by decide) rfl rfl,
   op_load 4 b (g := some (12, true)) (by kernel_rfl) ⟨101, by kernel_rfl, by decide, rfl⟩ (by decide) rfl rfl,
   op_call 25 [111, 112] #[24, 24] _ (g := some (12, true)) (by kernel_rfl) ⟨101, by kernel_rfl, by decide, rfl⟩ Tryd.func25 (by kernel_rfl) rfl (by decide) rfl (c_and (Nat.le_trans la (by decide)) (Nat.le_trans lb (by decide))) rfl,
   op_call 28 [113] #[24] _ (g := some (12, true)) (by kernel_rfl) ⟨101, by kernel_rfl, by decide, rfl⟩ Tryd.func28 (by kernel_rfl) rfl (by decide) rfl (c_count (Nat.le_trans (two_le la lb) (by decide))) rfl,
   op_add 110 114 _ _ (g := some (12, true)) (by kernel_rfl) ⟨101, by kernel_rfl, by decide, rfl⟩ (by decide) (by decide) rfl rfl rfl,
   op_eqi 106 115 _ _ true (or_add a b) (g := some (12, true)) (by kernel_rfl) ⟨101, by kernel_rfl, by decide, rfl⟩ (by decide) (by decide) rfl rfl rfl,
   op_pick_t 101 116 (.const (.bool false)) (g := none) (by kernel_rfl) trivial (by decide) (by decide) rfl rfl,
   op_move 117 (g := none) (by kernel_rfl) trivial (by decide) rfl,
   op_call 13 [] #[] _ (g := some (29, true)) (by kernel_rfl) ⟨118, by kernel_rfl, by decide, rfl⟩ Tryd.func13 (by kernel_rfl) rfl (by decide) rfl (c_alive hG) rfl,
   op_pick_t 118 119 (.const (.bool false)) (g := none) (by kernel_rfl) trivial (by decide) (by decide) rfl rfl,
   op_assign 120 (g := none) (by kernel_rfl) trivial (by decide) rfl,
   trivial⟩
set_option maxRecDepth 100000 in
set_option maxHeartbeats 8000000 in
theorem ordts_calls {w : World} (a b c : List Rg) (x : Bool)  (la : a.length ≤ 12) (lb : b.length ≤ 12) (lc : c.length ≤ 12) (hG : GG w) (hin : (((minusL a b).length : Int) == 0) = true) (hx : (((minusL b a).length : Int) == 0) = x) (hs : (((minusL b c).length : Int) == 0) = true) {vs : List Value} (hF : Fits2 w [AV.set a, AV.set b, AV.set c] vs) (hL : vs.length = 3) : Calls Tryd.prog 7 vs.toArray w fun e w' => e = .returned (.bool true) ∧ Below w.heap.size w w' := by
  refine calls_abs (N := 121) (c := (.seq (.region 0 (opsOf Tryd.f7 0) false) (.seq (.seq (.region 1 (opsOf Tryd.f7 1) false) (.cond (.tmp 16) (.seq (.region 2 (opsOf Tryd.f7 2) false) .ret) .skip)) (.seq (.region 3 (opsOf Tryd.f7 3) false) (.seq (.seq (.region 4 (opsOf Tryd.f7 4) true) (.cond (.tmp 50) (.seq (.region 5 (opsOf Tryd.f7 5) false) .ret) .skip)) (.seq (.seq (.region 6 (opsOf Tryd.f7 6) true) (.cond (.tmp 88) (.seq (.region 7 (opsOf Tryd.f7 7) false) .ret) .skip)) (.seq (.region 8 (opsOf Tryd.f7 8) true) .ret))))))) Tryd.func7 (by kernel_rfl) (by rw [hL]; rfl) hF (fun a_ S => ?_)
  replace S : St 121 (ordts_E0 a b c x) _ _ _ _ := S
  refine wp_seq ?_
  refine region_seq (N := 121) (E0 := (ordts_E0 a b c x)) (tab := ordts_0_T) (vals := ordts_0_V a b c x) (by kernel_rfl) ordts_0_chk (ordts_0_ok a b c x la lb lc hG hin hx hs) S (fun a_ w_ S => ?_)
  refine then_normal ?_
  refine wp_seq ?_
  refine wp_seq ?_
  refine region_seq (N := 121) (E0 := (ordts_E1 a b c x)) (tab := ordts_1_T) (vals := ordts_1_V a b c x) (by kernel_rfl) ordts_1_chk (ordts_1_ok a b c x la lb lc hG hin hx hs) S (fun a_ w_ S => ?_)
  refine then_normal ?_
  refine wp_cond_false (S.eval 16 (by decide) rfl) ?_
  refine wp_skip ?_
  refine then_normal ?_
  refine wp_seq ?_
  refine region_seq (N := 121) (E0 := (ordts_E2 a b c x)) (tab := ordts_3_T) (vals := ordts_3_V a b c x) (by kernel_rfl) ordts_3_chk (ordts_3_ok a b c x la lb lc hG hin hx hs) S (fun a_ w_ S => ?_)
  refine then_normal ?_
  refine wp_seq ?_
  refine wp_seq ?_
  refine region_abs (N := 121) (E0 := (ordts_E3 a b c x)) (tab := ordts_4_T) (vals := ordts_4_V a b c x) (by kernel_rfl) ordts_4_chk (ordts_4_ok a b c x la lb lc hG hin hx hs) S (fun a_ w_ S => ?_)
  refine then_normal ?_
  refine wp_cond_false (S.eval 50 (by decide) rfl) ?_
  refine wp_skip ?_
  refine then_normal ?_
  refine wp_seq ?_
  refine wp_seq ?_
  refine region_abs (N := 121) (E0 := (ordts_E4 a b c x)) (tab := ordts_6_T) (vals := ordts_6_V a b c x) (by kernel_rfl) ordts_6_chk (ordts_6_ok a b c x la lb lc hG hin hx hs) S (fun a_ w_ S => ?_)
  refine then_normal ?_
  refine wp_cond_false (S.eval 88 (by decide) rfl) ?_
  refine wp_skip ?_
  refine then_normal ?_
  refine wp_seq ?_
  refine region_abs (N := 121) (E0 := (ordts_E5 a b c x)) (tab := ordts_8_T) (vals := ordts_8_V a b c x) (by kernel_rfl) ordts_8_chk (ordts_8_ok a b c x la lb lc hG hin hx hs) S (fun a_ w_ S => ?_)
  refine then_normal ?_
  refine wp_ret ?_
  repeat (with_reducible refine then_ret ?_)
  exact post_ret (fn := Tryd.f7) 6 (by kernel_rfl) S (by decide) (x := .bool true) rfl ⟨rfl, S.below⟩
def ordtf_E0 (a b c : List Rg) (x : Bool) : Nat → AV := kindsOf [AV.set a, AV.set b, AV.set c]
def ordtf_0_T : List (List Nat × Nat) := [([0], 3), ([1], 4), ([2], 5), ([], 6)]
def ordtf_0_V (a b c : List Rg) (x : Bool) : List AV := [AV.sbox a, AV.sbox b, AV.sbox c, AV.bool false]
def ordtf_E1 (a b c : List Rg) (x : Bool) : Nat → AV := upd (ordtf_E0 a b c x) ordtf_0_T (ordtf_0_V a b c x)
theorem ordtf_0_chk : seqOk 121 (opsOf Tryd.f7 0) ordtf_0_T = true := by kernel_rfl
set_option maxRecDepth 100000 in
set_option maxHeartbeats 8000000 in
theorem ordtf_0_ok {w0 : World} (a b c : List Rg) (x : Bool)  (la : a.length ≤ 12) (lb : b.length ≤ 12) (lc : c.length ≤ 12) (hG : GG w0) (hin : (((minusL a b).length : Int) == 0) = true) (hx : (((minusL b a).length : Int) == 0) = x) (hs : (((minusL b c).length : Int) == 0) = false) : AllOk Tryd.prog (opsOf Tryd.f7 0) (ordtf_E1 a b c x) w0 ordtf_0_T 0 :=
  ⟨op_box 0 a (g := none) (by kernel_rfl) trivial (by decide) rfl rfl,
   op_box 1 b (g := none) (by kernel_rfl) trivial (by decide) rfl rfl,
   op_box 2 c (g := none) (by kernel_rfl) trivial (by decide) rfl rfl,
   op_assignc (.bool false) (g := none) (by kernel_rfl) trivial rfl,
   trivial⟩
def ordtf_1_T : List (List Nat × Nat) := [([3], 8), ([4], 9), ([8, 9], 10), ([10], 11), ([11], 12), ([12, 5], 13), ([12, 13], 14), ([12, 14], 15), ([12, 15], 16)]
def ordtf_1_V (a b c : List Rg) (x : Bool) : List AV := [AV.set a, AV.set b, AV.bool true, AV.bool false, AV.bool false, AV.set c, AV.bool true, AV.bool false, AV.bool false]
def ordtf_E2 (a b c : List Rg) (x : Bool) : Nat → AV := upd (ordtf_E1 a b c x) ordtf_1_T (ordtf_1_V a b c x)
theorem ordtf_1_chk : seqOk 121 (opsOf Tryd.f7 1) ordtf_1_T = true := by kernel_rfl
set_option maxRecDepth 100000 in
set_option maxHeartbeats 8000000 in
theorem ordtf_1_ok {w0 : World} (a b c : List Rg) (x : Bool)  (la : a.length ≤ 12) (lb : b.length ≤ 12) (lc : c.length ≤ 12) (hG : GG w0) (hin : (((minusL a b).length : Int) == 0) = true) (hx : (((minusL b a).length : Int) == 0) = x) (hs : (((minusL b c).length : Int) == 0) = false) : AllOk Tryd.prog (opsOf Tryd.f7 1) (ordtf_E2 a b c x) w0 ordtf_1_T 0 :=
  ⟨op_load 3 a (g := none) (by kernel_rfl) trivial (by decide) rfl rfl,
   op_load 4 b (g := none) (by kernel_rfl) trivial (by decide) rfl rfl,
   op_call 22 [8, 9] #[24, 24] _ (g := none) (by kernel_rfl) trivial Tryd.func22 (by kernel_rfl) rfl (by decide) rfl (c_small2 (by rw [decide_eq_true la, decide_eq_true lb]; rfl)) rfl,
   op_not 10 true (g := none) (by kernel_rfl) trivial (by decide) rfl rfl,
   op_move 11 (g := none) (by kernel_rfl) trivial (by decide) rfl,
   op_load 5 c (g := some (4, false)) (by kernel_rfl) ⟨12, by kernel_rfl, by decide, rfl⟩ (by decide) rfl rfl,
   op_call 12 [13] #[24] _ (g := some (4, false)) (by kernel_rfl) ⟨12, by kernel_rfl, by decide, rfl⟩ Tryd.func12 (by kernel_rfl) rfl (by decide) rfl (c_small (decide_eq_true lc)) rfl,
   op_not 14 true (g := some (4, false)) (by kernel_rfl) ⟨12, by kernel_rfl, by decide, rfl⟩ (by decide) rfl rfl,
   op_pick_f 12 15 (.const (.bool true)) (g := none) (by kernel_rfl) trivial (by decide) (by decide) rfl rfl,
   trivial⟩
def ordtf_3_T : List (List Nat × Nat) := [([3], 18), ([4], 19), ([18, 19], 20), ([20], 7)]
def ordtf_3_V (a b c : List Rg) (x : Bool) : List AV := [AV.set a, AV.set b, AV.bool true, AV.bool true]
def ordtf_E3 (a b c : List Rg) (x : Bool) : Nat → AV := upd (ordtf_E2 a b c x) ordtf_3_T (ordtf_3_V a b c x)
theorem ordtf_3_chk : seqOk 121 (opsOf Tryd.f7 3) ordtf_3_T = true := by kernel_rfl
set_option maxRecDepth 100000 in
set_option maxHeartbeats 8000000 in
theorem ordtf_3_ok {w0 : World} (a b c : List Rg) (x : Bool)  (la : a.length ≤ 12) (lb : b.length ≤ 12) (lc : c.length ≤ 12) (hG : GG w0) (hin : (((minusL a b).length : Int) == 0) = true) (hx : (((minusL b a).length : Int) == 0) = x) (hs : (((minusL b c).length : Int) == 0) = false) : AllOk Tryd.prog (opsOf Tryd.f7 3) (ordtf_E3 a b c x) w0 ordtf_3_T 0 :=
  ⟨op_load 3 a (g := none) (by kernel_rfl) trivial (by decide) rfl rfl,
   op_load 4 b (g := none) (by kernel_rfl) trivial (by decide) rfl rfl,
   op_call 27 [18, 19] #[24, 24] _ (g := none) (by kernel_rfl) trivial Tryd.func27 (by kernel_rfl) rfl (by decide) rfl (c_subset (Nat.le_trans la (by decide)) (Nat.le_trans lb (by decide)) hin) rfl,
   op_assign 20 (g := none) (by kernel_rfl) trivial (by decide) rfl,
   trivial⟩
def ordtf_4_T : List (List Nat × Nat) := [([7], 21), ([3], 22), ([4], 23), ([22, 23], 24), ([24], 25), ([25], 26), ([26], 27), ([21, 27], 28), ([28], 29), ([29, 7], 30), ([29, 3], 31), ([29, 4], 32), ([29, 31, 32], 33), ([29, 4], 34), ([29, 34], 35), ([29, 35], 36), ([29, 33, 36], 37), ([29, 30, 37], 38), ([29, 38], 39), ([39], 40), ([40, 3], 41), ([40, 4], 42), ([40, 41, 42], 43), ([40, 3], 44), ([40, 4], 45), ([40, 45], 46), ([40, 44, 46], 47), ([40, 43, 47], 48), ([40, 48], 49), ([40, 49], 50)]
def ordtf_4_V (a b c : List Rg) (x : Bool) : List AV := [AV.bool true, AV.set a, AV.set b, AV.set (minusL a b), AV.row (minusL a b), AV.int ((minusL a b).length), AV.bool true, AV.bool false, AV.bool false, AV.bool true, AV.set a, AV.set b, AV.set (orL a b), AV.sbox b, AV.row b, AV.set (makeL b), AV.bool true, AV.bool false, AV.bool false, AV.bool false, AV.set a, AV.set b, AV.set (minusL a b), AV.set a, AV.set b, AV.set (notL b), AV.set (andL a (notL b)), AV.bool true, AV.bool false, AV.bool false]
def ordtf_E4 (a b c : List Rg) (x : Bool) : Nat → AV := upd (ordtf_E3 a b c x) ordtf_4_T (ordtf_4_V a b c x)
theorem ordtf_4_chk : tabOk 121 (opsOf Tryd.f7 4) ordtf_4_T = true := by kernel_rfl
set_option maxRecDepth 100000 in
set_option maxHeartbeats 8000000 in
theorem ordtf_4_ok {w0 : World} (a b c : List Rg) (x : Bool)  (la : a.length ≤ 12) (lb : b.length ≤ 12) (lc : c.length ≤ 12) (hG : GG w0) (hin : (((minusL a b).length : Int) == 0) = true) (hx : (((minusL b a).length : Int) == 0) = x) (hs : (((minusL b c).length : Int) == 0) = false) : AllOk Tryd.prog (opsOf Tryd.f7 4) (ordtf_E4 a b c x) w0 ordtf_4_T 0 :=
  ⟨op_move 7 (g := none) (by kernel_rfl) trivial (by decide) rfl,
   op_load 3 a (g := none) (by kernel_rfl) trivial (by decide) rfl rfl,
   op_load 4 b (g := none) (by kernel_rfl) trivial (by decide) rfl rfl,
   op_call 26 [22, 23] #[24, 24] _ (g := none) (by kernel_rfl) trivial Tryd.func26 (by kernel_rfl) rfl (by decide) rfl (c_minus (Nat.le_trans la (by decide)) (Nat.le_trans lb (by decide))) rfl,
   op_field 24 (minusL a b) (g := none) (by kernel_rfl) trivial (by decide) rfl rfl,
   op_len 25 (minusL a b) (g := none) (by kernel_rfl) trivial (by decide) rfl rfl,
   op_eq0 26 _ true hin (g := none) (by kernel_rfl) trivial (by decide) rfl rfl,
   op_neqb 21 27 _ _ false rfl (g := none) (by kernel_rfl) trivial (by decide) (by decide) rfl rfl rfl,
   op_move 28 (g := none) (by kernel_rfl) trivial (by decide) rfl,
   op_move 7 (g := some (8, false)) (by kernel_rfl) ⟨29, by kernel_rfl, by decide, rfl⟩ (by decide) rfl,
   op_load 3 a (g := some (8, false)) (by kernel_rfl) ⟨29, by kernel_rfl, by decide, rfl⟩ (by decide) rfl rfl,
   op_load 4 b (g := some (8, false)) (by kernel_rfl) ⟨29, by kernel_rfl, by decide, rfl⟩ (by decide) rfl rfl,
   op_call 24 [31, 32] #[24, 24] _ (g := some (8, false)) (by kernel_rfl) ⟨29, by kernel_rfl, by decide, rfl⟩ Tryd.func24 (by kernel_rfl) rfl (by decide) rfl (c_or (Nat.le_trans la (by decide)) (Nat.le_trans lb (by decide))) rfl,
   op_faddr 4 b (g := some (8, false)) (by kernel_rfl) ⟨29, by kernel_rfl, by decide, rfl⟩ (by decide) rfl rfl,
   op_loadrow 34 b (g := some (8, false)) (by kernel_rfl) ⟨29, by kernel_rfl, by decide, rfl⟩ (by decide) rfl rfl,
   op_call 21 [35] #[22] _ (g := some (8, false)) (by kernel_rfl) ⟨29, by kernel_rfl, by decide, rfl⟩ Tryd.func21 (by kernel_rfl) rfl (by decide) rfl (c_make (Nat.le_trans lb (by decide))) rfl,
   op_call 18 [33, 36] #[24, 24] _ (g := some (8, false)) (by kernel_rfl) ⟨29, by kernel_rfl, by decide, rfl⟩ Tryd.func18 (by kernel_rfl) rfl (by decide) rfl (c_same (Nat.le_trans (two_le la lb) (by decide)) (or_in a b hin)) rfl,
   op_neqb 30 37 _ _ false rfl (g := some (8, false)) (by kernel_rfl) ⟨29, by kernel_rfl, by decide, rfl⟩ (by decide) (by decide) rfl rfl rfl,
   op_pick_f 29 38 (.const (.bool true)) (g := none) (by kernel_rfl) trivial (by decide) (by decide) rfl rfl,
   op_move 39 (g := none) (by kernel_rfl) trivial (by decide) rfl,
   op_load 3 a (g := some (19, false)) (by kernel_rfl) ⟨40, by kernel_rfl, by decide, rfl⟩ (by decide) rfl rfl,
   op_load 4 b (g := some (19, false)) (by kernel_rfl) ⟨40, by kernel_rfl, by decide, rfl⟩ (by decide) rfl rfl,
   op_call 26 [41, 42] #[24, 24] _ (g := some (19, false)) (by kernel_rfl) ⟨40, by kernel_rfl, by decide, rfl⟩ Tryd.func26 (by kernel_rfl) rfl (by decide) rfl (c_minus (Nat.le_trans la (by decide)) (Nat.le_trans lb (by decide))) rfl,
   op_load 3 a (g := some (19, false)) (by kernel_rfl) ⟨40, by kernel_rfl, by decide, rfl⟩ (by decide) rfl rfl,
   op_load 4 b (g := some (19, false)) (by kernel_rfl) ⟨40, by kernel_rfl, by decide, rfl⟩ (by decide) rfl rfl,
   op_call 23 [45] #[24] _ (g := some (19, false)) (by kernel_rfl) ⟨40, by kernel_rfl, by decide, rfl⟩ Tryd.func23 (by kernel_rfl) rfl (by decide) rfl (c_not (Nat.le_trans lb (by decide))) rfl,
   op_call 25 [44, 46] #[24, 24] _ (g := some (19, false)) (by kernel_rfl) ⟨40, by kernel_rfl, by decide, rfl⟩ Tryd.func25 (by kernel_rfl) rfl (by decide) rfl (c_and (Nat.le_trans la (by decide)) (Nat.le_trans (not_le lb) (by decide))) rfl,
   op_call 18 [43, 47] #[24, 24] _ (g := some (19, false)) (by kernel_rfl) ⟨40, by kernel_rfl, by decide, rfl⟩ Tryd.func18 (by kernel_rfl) rfl (by decide) rfl (c_same (Nat.le_trans (two_le la lb) (by decide)) (decide_eq_true (or_ma a b))) rfl,
   op_not 48 true (g := some (19, false)) (by kernel_rfl) ⟨40, by kernel_rfl, by decide, rfl⟩ (by decide) rfl rfl,
   op_pick_f 40 49 (.const (.bool true)) (g := none) (by kernel_rfl) trivial (by decide) (by decide) rfl rfl,
   trivial⟩
def ordtf_6_T : List (List Nat × Nat) := [([7], 51), ([51], 52), ([52, 4], 53), ([52, 3], 54), ([52, 53, 54], 55), ([52, 3], 56), ([52, 56], 57), ([52, 57], 58), ([52, 4], 59), ([52, 59], 60), ([52, 60], 61), ([52, 58, 61], 62), ([52, 55, 62], 63), ([52, 63], 64), ([64], 65), ([65, 7], 66), ([65, 66], 67), ([67, 4], 68), ([67, 5], 69), ([67, 68, 69], 70), ([65, 67, 70], 71), ([65, 71], 72), ([72], 73), ([72], 74), ([72], 75), ([72], 76), ([65, 72], 77), ([65, 77], 78), ([78], 79), ([79, 7], 80), ([79, 80], 81), ([81, 3], 82), ([81, 82], 83), ([81, 4], 84), ([81, 84], 85), ([81, 83, 85], 86), ([79, 81, 86], 87), ([79, 87], 88)]
def ordtf_6_V (a b c : List Rg) (x : Bool) : List AV := [AV.bool true, AV.bool true, AV.set b, AV.set a, AV.bool x, AV.sbox a, AV.row a, AV.set (makeL a), AV.sbox b, AV.row b, AV.set (makeL b), AV.bool x, AV.bool false, AV.bool false, AV.bool false, AV.bool true, AV.bool true, AV.set b, AV.set c, AV.bool false, AV.bool false, AV.bool false, AV.is undef, AV.is undef, AV.is undef, AV.is undef, AV.bool false, AV.bool false, AV.bool false, AV.bool true, AV.bool true, AV.set a, AV.int (cntL a), AV.set b, AV.int (cntL b), AV.bool false, AV.bool false, AV.bool false]
def ordtf_E5 (a b c : List Rg) (x : Bool) : Nat → AV := upd (ordtf_E4 a b c x) ordtf_6_T (ordtf_6_V a b c x)
theorem ordtf_6_chk : tabOk 121 (opsOf Tryd.f7 6) ordtf_6_T = true := by kernel_rfl
set_option maxRecDepth 100000 in
set_option maxHeartbeats 8000000 in
theorem ordtf_6_ok {w0 : World} (a b c : List Rg) (x : Bool)  (la : a.length ≤ 12) (lb : b.length ≤ 12) (lc : c.length ≤ 12) (hG : GG w0) (hin : (((minusL a b).length : Int) == 0) = true) (hx : (((minusL b a).length : Int) == 0) = x) (hs : (((minusL b c).length : Int) == 0) = false) : AllOk Tryd.prog (opsOf Tryd.f7 6) (ordtf_E5 a b c x) w0 ordtf_6_T 0 :=
  ⟨op_move 7 (g := none) (by kernel_rfl) trivial (by decide) rfl,
   op_move 51 (g := none) (by kernel_rfl) trivial (by decide) rfl,
   op_load 4 b (g := some (1, true)) (by kernel_rfl) ⟨52, by kernel_rfl, by decide, rfl⟩ (by decide) rfl rfl,
   op_load 3 a (g := some (1, true)) (by kernel_rfl) ⟨52, by kernel_rfl, by decide, rfl⟩ (by decide) rfl rfl,
   op_call 27 [53, 54] #[24, 24] _ (g := some (1, true)) (by kernel_rfl) ⟨52, by kernel_rfl, by decide, rfl⟩ Tryd.func27 (by kernel_rfl) rfl (by decide) rfl (c_subset (Nat.le_trans lb (by decide)) (Nat.le_trans la (by decide)) hx) rfl,
   op_faddr 3 a (g := some (1, true)) (by kernel_rfl) ⟨52, by kernel_rfl, by decide, rfl⟩ (by decide) rfl rfl,
   op_loadrow 56 a (g := some (1, true)) (by kernel_rfl) ⟨52, by kernel_rfl, by decide, rfl⟩ (by decide) rfl rfl,
   op_call 21 [57] #[22] _ (g := some (1, true)) (by kernel_rfl) ⟨52, by kernel_rfl, by decide, rfl⟩ Tryd.func21 (by kernel_rfl) rfl (by decide) rfl (c_make (Nat.le_trans la (by decide))) rfl,
   op_faddr 4 b (g := some (1, true)) (by kernel_rfl) ⟨52, by kernel_rfl, by decide, rfl⟩ (by decide) rfl rfl,
   op_loadrow 59 b (g := some (1, true)) (by kernel_rfl) ⟨52, by kernel_rfl, by decide, rfl⟩ (by decide) rfl rfl,
   op_call 21 [60] #[22] _ (g := some (1, true)) (by kernel_rfl) ⟨52, by kernel_rfl, by decide, rfl⟩ Tryd.func21 (by kernel_rfl) rfl (by decide) rfl (c_make (Nat.le_trans lb (by decide))) rfl,
   op_call 18 [58, 61] #[24, 24] _ (g := some (1, true)) (by kernel_rfl) ⟨52, by kernel_rfl, by decide, rfl⟩ Tryd.func18 (by kernel_rfl) rfl (by decide) rfl (c_same (Nat.le_trans (Nat.le_trans (makeL_len _) la) (by decide)) (or_anti a b hin hx)) rfl,
   op_neqb 55 62 _ _ false (by cases x <;> rfl) (g := some (1, true)) (by kernel_rfl) ⟨52, by kernel_rfl, by decide, rfl⟩ (by decide) (by decide) rfl rfl rfl,
   op_pick_t 52 63 (.const (.bool false)) (g := none) (by kernel_rfl) trivial (by decide) (by decide) rfl rfl,
   op_move 64 (g := none) (by kernel_rfl) trivial (by decide) rfl,
   op_move 7 (g := some (14, false)) (by kernel_rfl) ⟨65, by kernel_rfl, by decide, rfl⟩ (by decide) rfl,
   op_move 66 (g := some (14, false)) (by kernel_rfl) ⟨65, by kernel_rfl, by decide, rfl⟩ (by decide) rfl,
   op_load 4 b (g := some (16, true)) (by kernel_rfl) ⟨67, by kernel_rfl, by decide, rfl⟩ (by decide) rfl rfl,
   op_load 5 c (g := some (16, true)) (by kernel_rfl) ⟨67, by kernel_rfl, by decide, rfl⟩ (by decide) rfl rfl,
   op_call 27 [68, 69] #[24, 24] _ (g := some (16, true)) (by kernel_rfl) ⟨67, by kernel_rfl, by decide, rfl⟩ Tryd.func27 (by kernel_rfl) rfl (by decide) rfl (c_subset (Nat.le_trans lb (by decide)) (Nat.le_trans lc (by decide)) hs) rfl,
   op_pick_t 67 70 (.const (.bool false)) (g := some (14, false)) (by kernel_rfl) ⟨65, by kernel_rfl, by decide, rfl⟩ (by decide) (by decide) rfl rfl,
   op_move 71 (g := some (14, false)) (by kernel_rfl) ⟨65, by kernel_rfl, by decide, rfl⟩ (by decide) rfl,
   op_skip (j := 21) (b := true) 72 false (by kernel_rfl) (by kernel_rfl) (by decide) rfl rfl rfl,
   op_skip (j := 21) (b := true) 72 false (by kernel_rfl) (by kernel_rfl) (by decide) rfl rfl rfl,
   op_skip (j := 21) (b := true) 72 false (by kernel_rfl) (by kernel_rfl) (by decide) rfl rfl rfl,
   op_skip (j := 21) (b := true) 72 false (by kernel_rfl) (by kernel_rfl) (by decide) rfl rfl rfl,
   op_pick_fc 72 (.bool false) (.tmp 76) (g := some (14, false)) (by kernel_rfl) ⟨65, by kernel_rfl, by decide, rfl⟩ (by decide) rfl rfl,
   op_pick_f 65 77 (.const (.bool true)) (g := none) (by kernel_rfl) trivial (by decide) (by decide) rfl rfl,
   op_move 78 (g := none) (by kernel_rfl) trivial (by decide) rfl,
   op_move 7 (g := some (28, false)) (by kernel_rfl) ⟨79, by kernel_rfl, by decide, rfl⟩ (by decide) rfl,
   op_move 80 (g := some (28, false)) (by kernel_rfl) ⟨79, by kernel_rfl, by decide, rfl⟩ (by decide) rfl,
   op_load 3 a (g := some (30, true)) (by kernel_rfl) ⟨81, by kernel_rfl, by decide, rfl⟩ (by decide) rfl rfl,
   op_call 28 [82] #[24] _ (g := some (30, true)) (by kernel_rfl) ⟨81, by kernel_rfl, by decide, rfl⟩ Tryd.func28 (by kernel_rfl) rfl (by decide) rfl (c_count (Nat.le_trans la (by decide))) rfl,
   op_load 4 b (g := some (30, true)) (by kernel_rfl) ⟨81, by kernel_rfl, by decide, rfl⟩ (by decide) rfl rfl,
   op_call 28 [84] #[24] _ (g := some (30, true)) (by kernel_rfl) ⟨81, by kernel_rfl, by decide, rfl⟩ Tryd.func28 (by kernel_rfl) rfl (by decide) rfl (c_count (Nat.le_trans lb (by decide))) rfl,
   op_gt 83 85 _ _ false (or_cnt a b hin) (g := some (30, true)) (by kernel_rfl) ⟨81, by kernel_rfl, by decide, rfl⟩ (by decide) (by decide) rfl rfl rfl,
   op_pick_t 81 86 (.const (.bool false)) (g := some (28, false)) (by kernel_rfl) ⟨79, by kernel_rfl, by decide, rfl⟩ (by decide) (by decide) rfl rfl,
   op_pick_f 79 87 (.const (.bool true)) (g := none) (by kernel_rfl) trivial (by decide) (by decide) rfl rfl,
   trivial⟩
def ordtf_8_T : List (List Nat × Nat) := [([3], 89), ([4], 90), ([89, 90], 91), ([3], 92), ([91, 92], 93), ([93], 94), ([94, 3], 95), ([94, 3], 96), ([94, 4], 97), ([94, 96, 97], 98), ([94, 95, 98], 99), ([94, 99], 100), ([100], 101), ([101, 3], 102), ([101, 102], 103), ([101, 4], 104), ([101, 104], 105), ([101, 103, 105], 106), ([101, 3], 107), ([101, 4], 108), ([101, 107, 108], 109), ([101, 109], 110), ([101, 3], 111), ([101, 4], 112), ([101, 111, 112], 113), ([101, 113], 114), ([101, 110, 114], 115), ([101, 106, 115], 116), ([101, 116], 117), ([117], 118), ([118], 119), ([118, 119], 120), ([120], 6)]
def ordtf_8_V (a b c : List Rg) (x : Bool) : List AV := [AV.set a, AV.set b, AV.set (andL a b), AV.set a, AV.bool true, AV.bool true, AV.set a, AV.set a, AV.set b, AV.set (orL a b), AV.bool true, AV.bool true, AV.bool true, AV.set a, AV.int (cntL a), AV.set b, AV.int (cntL b), AV.int (wrap64 (cntL a + cntL b)), AV.set a, AV.set b, AV.set (orL a b), AV.int (cntL (orL a b)), AV.set a, AV.set b, AV.set (andL a b), AV.int (cntL (andL a b)), AV.int (wrap64 (cntL (orL a b) + cntL (andL a b))), AV.bool true, AV.bool true, AV.bool true, AV.bool true, AV.bool true, AV.bool true]
def ordtf_E6 (a b c : List Rg) (x : Bool) : Nat → AV := upd (ordtf_E5 a b c x) ordtf_8_T (ordtf_8_V a b c x)
theorem ordtf_8_chk : tabOk 121 (opsOf Tryd.f7 8) ordtf_8_T = true := by kernel_rfl
set_option maxRecDepth 100000 in
set_option maxHeartbeats 8000000 in
theorem ordtf_8_ok {w0 : World} (a b c : List Rg) (x : Bool)  (la : a.length ≤ 12) (lb : b.length ≤ 12) (lc : c.length ≤ 12) (hG : GG w0) (hin : (((minusL a b).length : Int) == 0) = true) (hx : (((minusL b a).length : Int) == 0) = x) (hs : (((minusL b c).length : Int) == 0) = false) : AllOk Tryd.prog (opsOf Tryd.f7 8) (ordtf_E6 a b c x) w0 ordtf_8_T 0 :=
  ⟨op_load 3 a (g := none) (by kernel_rfl) trivial (by decide) rfl rfl,
   op_load 4 b (g := none) (by kernel_rfl) trivial (by decide) rfl rfl,
   op_call 25 [89, 90] #[24, 24] _ (g := none) (by kernel_rfl) trivial Tryd.func25 (by kernel_rfl) rfl (by decide) rfl (c_and (Nat.le_trans la (by decide)) (Nat.le_trans lb (by decide))) rfl,
   op_load 3 a (g := none) (by kernel_rfl) trivial (by decide) rfl rfl,
   op_call 27 [91, 92] #[24, 24] _ (g := none) (by kernel_rfl) trivial Tryd.func27 (by kernel_rfl) rfl (by decide) rfl (c_subset (Nat.le_trans (two_le la lb) (by decide)) (Nat.le_trans la (by decide)) (sub_and a b)) rfl,
   op_move 93 (g := none) (by kernel_rfl) trivial (by decide) rfl,
   op_load 3 a (g := some (5, true)) (by kernel_rfl) ⟨94, by kernel_rfl, by decide, rfl⟩ (by decide) rfl rfl,
   op_load 3 a (g := some (5, true)) (by kernel_rfl) ⟨94, by kernel_rfl, by decide, rfl⟩ (by decide) rfl rfl,
   op_load 4 b (g := some (5, true)) (by kernel_rfl) ⟨94, by kernel_rfl, by decide, rfl⟩ (by decide) rfl rfl,
   op_call 24 [96, 97] #[24, 24] _ (g := some (5, true)) (by kernel_rfl) ⟨94, by kernel_rfl, by decide, rfl⟩ Tryd.func24 (by kernel_rfl) rfl (by decide) rfl (c_or (Nat.le_trans la (by decide)) (Nat.le_trans lb (by decide))) rfl,
   op_call 27 [95, 98] #[24, 24] _ (g := some (5, true)) (by kernel_rfl) ⟨94, by kernel_rfl, by decide, rfl⟩ Tryd.func27 (by kernel_rfl) rfl (by decide) rfl (c_subset (Nat.le_trans la (by decide)) (Nat.le_trans (two_le la lb) (by decide)) (sub_or a b)) rfl,
   op_pick_t 94 99 (.const (.bool false)) (g := none) (by kernel_rfl) trivial (by decide) (by decide) rfl rfl,
   op_move 100 (g := none) (by kernel_rfl) trivial (by decide) rfl,
   op_load 3 a (g := some (12, true)) (by kernel_rfl) ⟨101, by kernel_rfl, by decide, rfl⟩ (by decide) rfl rfl,
   op_call 28 [102] #[24] _ (g := some (12, true)) (by kernel_rfl) ⟨101, by kernel_rfl, by decide, rfl⟩ Tryd.func28 (by kernel_rfl) rfl (by decide) rfl (c_count (Nat.le_trans la (by decide))) rfl,
   op_load 4 b (g := some (12, true)) (by kernel_rfl) ⟨101, by kernel_rfl, by decide, rfl⟩ (by decide) rfl rfl,
   op_call 28 [104] #[24] _ (g := some (12, true)) (by kernel_rfl) ⟨101, by kernel_rfl, by decide, rfl⟩ Tryd.func28 (by kernel_rfl) rfl (by decide) rfl (c_count (Nat.le_trans lb (by decide))) rfl,
   op_add 103 105 _ _ (g := some (12, true)) (by kernel_rfl) ⟨101, by kernel_rfl, by decide, rfl⟩ (by decide) (by decide) rfl rfl rfl,
   op_load 3 a (g := some (12, true)) (by kernel_rfl) ⟨101, by kernel_rfl, by decide, rfl⟩ (by decide) rfl rfl,
   op_load 4 b (g := some (12, true)) (by kernel_rfl) ⟨101, by kernel_rfl, by decide, rfl⟩ (by decide) rfl rfl,
   op_call 24 [107, 108] #[24, 24] _ (g := some (12, true)) (by kernel_rfl) ⟨101, by kernel_rfl, by decide, rfl⟩ Tryd.func24 (by kernel_rfl) rfl (by decide) rfl (c_or (Nat.le_trans la (by decide)) (Nat.le_trans lb (by decide))) rfl,
   op_call 28 [109] #[24] _ (g := some (12, true)) (by kernel_rfl) ⟨101, by kernel_rfl, by decide, rfl⟩ Tryd.func28 (by kernel_rfl) rfl (by decide) rfl (c_count (Nat.le_trans (two_le la lb) (by decide))) rfl,
   op_load 3 a (g := some (12, true)) (by kernel_rfl) ⟨101, by kernel_rfl, by decide, rfl⟩ (by decide) rfl rfl,
   op_load 4 b (g := some (12, true)) (by kernel_rfl) ⟨101, by kernel_rfl, by decide, rfl⟩ (by decide) rfl rfl,
   op_call 25 [111, 112] #[24, 24] _ (g := some (12, true)) (by kernel_rfl) ⟨101, by kernel_rfl, by decide, rfl⟩ Tryd.func25 (by kernel_rfl) rfl (by decide) rfl (c_and (Nat.le_trans la (by decide)) (Nat.le_trans lb (by decide))) rfl,
   op_call 28 [113] #[24] _ (g := some (12, true)) (by kernel_rfl) ⟨101, by kernel_rfl, by decide, rfl⟩ Tryd.func28 (by kernel_rfl) rfl (by decide) rfl (c_count (Nat.le_trans (two_le la lb) (by decide))) rfl,
   op_add 110 114 _ _ (g := some (12, true)) (by kernel_rfl) ⟨101, by kernel_rfl, by decide, rfl⟩ (by decide) (by decide) rfl rfl rfl,
   op_eqi 106 115 _ _ true (or_add a b) (g := some (12, true)) (by kernel_rfl) ⟨101, by kernel_rfl, by decide, rfl⟩ (by decide) (by decide) rfl rfl rfl,
   op_pick_t 101 116 (.const (.bool false)) (g := none) (by kernel_rfl) trivial (by decide) (by decide) rfl rfl,
   op_move 117 (g := none) (by kernel_rfl) trivial (by decide) rfl,
   op_call 13 [] #[] _ (g := some (29, true)) (by kernel_rfl) ⟨118, by kernel_rfl, by decide, rfl⟩ Tryd.func13 (by kernel_rfl) rfl (by decide) rfl (c_alive hG) rfl,
   op_pick_t 118 119 (.const (.bool false)) (g := none) (by kernel_rfl) trivial (by decide) (by decide) rfl rfl,
   op_assign 120 (g := none) (by kernel_rfl) trivial (by decide) rfl,
   trivial⟩
set_option maxRecDepth 100000 in
set_option maxHeartbeats 8000000 in
theorem ordtf_calls {w : World} (a b c : List Rg) (x : Bool)  (la : a.length ≤ 12) (lb : b.length ≤ 12) (lc : c.length ≤ 12) (hG : GG w) (hin : (((minusL a b).length : Int) == 0) = true) (hx : (((minusL b a).length : Int) == 0) = x) (hs : (((minusL b c).length : Int) == 0) = false) {vs : List Value} (hF : Fits2 w [AV.set a, AV.set b, AV.set c] vs) (hL : vs.length = 3) : Calls Tryd.prog 7 vs.toArray w fun e w' => e = .returned (.bool true) ∧ Below w.heap.size w w' := by
  refine calls_abs (N := 121) (c := (.seq (.region 0 (opsOf Tryd.f7 0) false) (.seq (.seq (.region 1 (opsOf Tryd.f7 1) false) (.cond (.tmp 16) (.seq (.region 2 (opsOf Tryd.f7 2) false) .ret) .skip)) (.seq (.region 3 (opsOf Tryd.f7 3) false) (.seq (.seq (.region 4 (opsOf Tryd.f7 4) true) (.cond (.tmp 50) (.seq (.region 5 (opsOf Tryd.f7 5) false) .ret) .skip)) (.seq (.seq (.region 6 (opsOf Tryd.f7 6) true) (.cond (.tmp 88) (.seq (.region 7 (opsOf Tryd.f7 7) false) .ret) .skip)) (.seq (.region 8 (opsOf Tryd.f7 8) true) .ret))))))) Tryd.func7 (by kernel_rfl) (by rw [hL]; rfl) hF (fun a_ S => ?_)
  replace S : St 121 (ordtf_E0 a b c x) _ _ _ _ := S
  refine wp_seq ?_
  refine region_seq (N := 121) (E0 := (ordtf_E0 a b c x)) (tab := ordtf_0_T) (vals := ordtf_0_V a b c x) (by kernel_rfl) ordtf_0_chk (ordtf_0_ok a b c x la lb lc hG hin hx hs) S (fun a_ w_ S => ?_)
  refine then_normal ?_
  refine wp_seq ?_
  refine wp_seq ?_
  refine region_seq (N := 121) (E0 := (ordtf_E1 a b c x)) (tab := ordtf_1_T) (vals := ordtf_1_V a b c x) (by kernel_rfl) ordtf_1_chk (ordtf_1_ok a b c x la lb lc hG hin hx hs) S (fun a_ w_ S => ?_)
  refine then_normal ?_
  refine wp_cond_false (S.eval 16 (by decide) rfl) ?_
  refine wp_skip ?_
  refine then_normal ?_
  refine wp_seq ?_
  refine region_seq (N := 121) (E0 := (ordtf_E2 a b c x)) (tab := ordtf_3_T) (vals := ordtf_3_V a b c x) (by kernel_rfl) ordtf_3_chk (ordtf_3_ok a b c x la lb lc hG hin hx hs) S (fun a_ w_ S => ?_)
  refine then_normal ?_
  refine wp_seq ?_
  refine wp_seq ?_
  refine region_abs (N := 121) (E0 := (ordtf_E3 a b c x)) (tab := ordtf_4_T) (vals := ordtf_4_V a b c x) (by kernel_rfl) ordtf_4_chk (ordtf_4_ok a b c x la lb lc hG hin hx hs) S (fun a_ w_ S => ?_)
  refine then_normal ?_
  refine wp_cond_false (S.eval 50 (by decide) rfl) ?_
  refine wp_skip ?_
  refine then_normal ?_
  refine wp_seq ?_
  refine wp_seq ?_
  refine region_abs (N := 121) (E0 := (ordtf_E4 a b c x)) (tab := ordtf_6_T) (vals := ordtf_6_V a b c x) (by kernel_rfl) ordtf_6_chk (ordtf_6_ok a b c x la lb lc hG hin hx hs) S (fun a_ w_ S => ?_)
  refine then_normal ?_
  refine wp_cond_false (S.eval 88 (by decide) rfl) ?_
  refine wp_skip ?_
  refine then_normal ?_
  refine wp_seq ?_
  refine region_abs (N := 121) (E0 := (ordtf_E5 a b c x)) (tab := ordtf_8_T) (vals := ordtf_8_V a b c x) (by kernel_rfl) ordtf_8_chk (ordtf_8_ok a b c x la lb lc hG hin hx hs) S (fun a_ w_ S => ?_)
  refine then_normal ?_
  refine wp_ret ?_
  repeat (with_reducible refine then_ret ?_)
  exact post_ret (fn := Tryd.f7) 6 (by kernel_rfl) S (by decide) (x := .bool true) rfl ⟨rfl, S.below⟩
theorem cpsetOrders_walk {w : World} (a b c : List Rg) (hG : GG w) {vs : List Value} (hF : Fits2 w [AV.set a, AV.set b, AV.set c] vs) (hL : vs.length = 3) : Calls Tryd.prog 7 vs.toArray w fun e w' => e = .returned (.bool true) ∧ Below w.heap.size w w' := by
  by_cases la : a.length ≤ 12
  · by_cases lb : b.length ≤ 12
    · by_cases lc : c.length ≤ 12
      · cases hin : (((minusL a b).length : Int) == 0) with
        | false => exact ordf_calls a b c la lb lc hG hin hF hL
        | true =>
          cases hs : (((minusL b c).length : Int) == 0) with
          | false => exact ordtf_calls a b c _ la lb lc hG hin rfl hs hF hL
          | true => exact ordts_calls a b c _ la lb lc hG hin rfl hs hF hL
      · exact ordn2_calls a b c (by rw [decide_eq_true la, decide_eq_true lb]; rfl) (decide_eq_false lc) hG hF hL
    · exact ordn1_calls a b c (by rw [decide_eq_false lb, Bool.and_false]) hG hF hL
  · exact ordn1_calls a b c (by rw [decide_eq_false la, Bool.false_and]) hG hF hL
end Go.Proofs.YtpnkkhichkmmmaaDoor.Q
