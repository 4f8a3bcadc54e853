/-
  DERIVED. The contracts of cpset's functions in the print's own form: Has, Count, Nth, Text, Or, And, Minus, Not.
-/
import Derived.Test.YtpnkkhichkmmmaaGreatDoorOpsF
import Derived.Test.YtpnkkhichkmmmaaGreatDoorComb
import Derived.Test.YtpnkkhichkmmmaaGreatDoorHas
namespace Go.Proofs.YtpnkkhichkmmmaaGreatDoor.Q
set_option linter.unusedVariables false
set_option linter.unusedSimpArgs false
open Go.RowKit Go.Proofs.YtpnkkhichkmmmaaGreatDoorW.PrintWords Go.Proofs.YtpnkkhichkmmmaaGreatDoorW.PrintLast Go.Proofs.YtpnkkhichkmmmaaGreatDoorW.PrintMore
open Go.Shelf
attribute [local go_sem] Oper.semAt_some

theorem mk_some {l : List Rg} (h : l.length ≤ 100000) : cpset_Make.f 2000100 l = some (makeL l) := Make_total l (by omega) _ (by omega)
theorem mk_len {l : List Rg} (h : l.length ≤ 100000) {n : Nat} (hn : 100000 < n) : (makeL l).length < n := Nat.lt_of_le_of_lt (Nat.le_trans (makeL_len l) h) hn
theorem if_some {c : Prop} [Decidable c] {α : Type} {x : Option α} {r : α} (h : (if c then x else none) = some r) : c ∧ x = some r := by
  by_cases hc : c
  · rw [if_pos hc] at h; exact ⟨hc, h⟩
  · rw [if_neg hc] at h; cases h
theorem pairL_mk (kf : Bool → Bool → Bool) {a b : List Rg} (ha : a.length ≤ 100000) (hb : b.length ≤ 100000) : cpset_Make.f 2000100 (pairL kf (makeL a) (makeL b) (([0, 1114112] ++ cutsV (makeL a) ++ cutsV (makeL b)).mergeSort fun x y => decide (x ≤ y))) = some (combL kf a b) := by
  have h1 := pairL_len kf (makeL a) (makeL b) (cutS (makeL a) (makeL b))
  rw [cutS_len] at h1
  have h2 := makeL_len a
  have h3 := makeL_len b
  exact Make_total _ (by unfold cutS at h1; omega) _ (by unfold cutS at h1; omega)

theorem cpset_Count.calls (A0 : Option Addr) (c0 : Nat) (l0 : List Rg) (r : Int) (w : World) (hr : Kd.C k32 w A0 l0.length l0) (hc : l0.length ≤ c0) (h : cpset_Count.f l0 = some r) :
    Calls Tryz.prog 21 #[.agg #[.slice A0 l0.length c0]] w fun e w' => e = .returned (.int .i64 r) ∧ Below w.heap.size w w' := by
  obtain ⟨hl, h⟩ := if_some h
  cases Option.some.inj h
  exact Count_in 2000100 A0 c0 l0 (makeL l0) w hr hc (mk_some hl)
theorem cpset_Text.calls (A0 : Option Addr) (c0 : Nat) (l0 : List Rg) (r : ByteArray) (w : World) (hr : Kd.C k32 w A0 l0.length l0) (hc : l0.length ≤ c0) (h : cpset_Text.f l0 = some r) :
    Calls Tryz.prog 20 #[.agg #[.slice A0 l0.length c0]] w fun e w' => e = .returned (.string r) ∧ Below w.heap.size w w' := by
  obtain ⟨hl, h⟩ := if_some h
  exact Text_in 2000100 A0 c0 l0 (makeL l0) w hr hc (mk_some hl) (mk_len hl (by decide)) r h

set_option maxRecDepth 100000 in
theorem Not1_in (x y : Bool) (W : World) : Calls Tryz.prog 27 #[.bool x, .bool y] W fun e w' => e = .returned (.bool (!x)) ∧ w' = W := by
  cases x <;> cases y
  all_goals go_enter Tryz.func27, Tryz.ntmps27
  all_goals go_wp2
  all_goals go_ret
  all_goals exact ⟨rfl, rfl⟩
set_option maxRecDepth 100000 in
theorem Or1_in (x y : Bool) (W : World) : Calls Tryz.prog 23 #[.bool x, .bool y] W fun e w' => e = .returned (.bool (x || y)) ∧ w' = W := by
  cases x <;> cases y
  all_goals go_enter Tryz.func23, Tryz.ntmps23
  all_goals go_wp2
  all_goals go_ret
  all_goals exact ⟨rfl, rfl⟩
set_option maxRecDepth 100000 in
theorem And1_in (x y : Bool) (W : World) : Calls Tryz.prog 25 #[.bool x, .bool y] W fun e w' => e = .returned (.bool (x && y)) ∧ w' = W := by
  cases x <;> cases y
  all_goals go_enter Tryz.func25, Tryz.ntmps25
  all_goals go_wp2
  all_goals go_ret
  all_goals exact ⟨rfl, rfl⟩
set_option maxRecDepth 100000 in
theorem Minus1_in (x y : Bool) (W : World) : Calls Tryz.prog 26 #[.bool x, .bool y] W fun e w' => e = .returned (.bool (x && !y)) ∧ w' = W := by
  cases x <;> cases y
  all_goals go_enter Tryz.func26, Tryz.ntmps26
  all_goals go_wp2
  all_goals go_ret
  all_goals exact ⟨rfl, rfl⟩

theorem ops_keep {w wa w1 : World} {b : Nat} {v : Value} {r : List Rg} (hb : w.heap.size ≤ b) (hlt : b < wa.heap.size) (h0 : Below w.heap.size w wa) (h : Kd.R k32 32 w1 wa.heap.size (fun _ => True) v r) (h1 : Below wa.heap.size wa w1) :
    Kd.R k32 32 (w1.setCell ⟨b, 0, none⟩ v) w.heap.size (fun _ => True) v r ∧ Below w.heap.size w (w1.setCell ⟨b, 0, none⟩ v) := by
  obtain ⟨_, inner, hown, hreps⟩ := k32_R.1 h
  have hw := h0.size
  refine ⟨k32_R.2 ⟨fun _ _ => trivial, inner, ?_, hreps⟩, (below_then h0 h1).setCell (p := ⟨b, 0, none⟩) hb v⟩
  have hown2 : w1.ownsRow w.heap.size 32 2 v r.length inner := by
    refine ⟨hown.1, ?_⟩
    rcases hown.2 with h | ⟨g, cap, cur, e, hg, k⟩
    · exact .inl h
    · exact .inr ⟨g, cap, cur, e, by omega, k⟩
  exact hown2.kept (grownBy_setCell' w1 b v) (by
    rcases hown.2 with ⟨h, _⟩ | ⟨g, cap, cur, e, hg, _⟩
    · exact .inl (by rw [h]; rfl)
    · right
      rw [e]
      intro hh
      simp [Value.ownBlock] at hh
      omega)

set_option maxRecDepth 100000 in
set_option maxHeartbeats 4000000 in
theorem cpset_Or.calls (A0 : Option Addr) (c0 : Nat) (l0 : List Rg) (A1 : Option Addr) (c1 : Nat) (l1 : List Rg) (r : List Rg) (w : World) (hr0 : Kd.C k32 w A0 l0.length l0) (hc0 : l0.length ≤ c0) (hr1 : Kd.C k32 w A1 l1.length l1) (hc1 : l1.length ≤ c1) (h : cpset_Or.f l0 l1 = some r) :
    Calls Tryz.prog 7 #[.agg #[.slice A0 l0.length c0], .agg #[.slice A1 l1.length c1]] w fun e w' => ∃ v0_ : Value, e = .returned (.agg #[v0_]) ∧ Kd.R k32 32 w' w.heap.size (fun _ => True) v0_ r ∧ Below w.heap.size w w' := by
  obtain ⟨ha, h⟩ := if_some h
  have hr := Option.some.inj h
  clear h
  have huS := Tryz.underlying24
  have HB0 := Aside0.mk (show Below w.heap.size w (((w.alloc (.cells #[.slice A0 l0.length c0] 24)).alloc (.cells #[.slice A1 l1.length c1] 24)).alloc (.cells #[.slice none 0 0] 24)) from ((((Below.refl _ w).alloc (Nat.le_refl _) _).alloc (by simp) _).alloc (by simp; omega) _))
  have HC := Aside0.mk (combine_in 23 (fun x y => x || y) (enters_of Tryz.func23 (by kernel_rfl) rfl) Or1_in 2000100 A0 c0 l0 (makeL l0) A1 c1 l1 (makeL l1) _ (Kd.C_below hr0 HB0.out) hc0 (Kd.C_below hr1 HB0.out) hc1 (mk_some ha.1) (mk_some ha.2) _ (pairL_mk _ ha.1 ha.2) (mk_len ha.1 (by decide)) (mk_len ha.2 (by decide)) (VL_hi (makeL_valid _)) (VL_hi (makeL_valid _)))
  rw [hr] at HC
  have bO := Boxed.new ((w.alloc (.cells #[.slice A0 l0.length c0] 24)).alloc (.cells #[.slice A1 l1.length c1] 24)) 24 (.slice none 0 0)
  have HO := Aside0.mk bO
  have HK := Aside0.mk (fun (w1 : World) (v : Value) h h1 => ops_keep (w := w) (w1 := w1) (v := v) (b := w.heap.size + 1 + 1) (wa := (((w.alloc (.cells #[.slice A0 l0.length c0] 24)).alloc (.cells #[.slice A1 l1.length c1] 24)).alloc (.cells #[.slice none 0 0] 24))) (r := r) (by omega) (by simp) HB0.out h h1)
  clear bO hr
  go_enter Tryz.func7, Tryz.ntmps7
  go_wp2_with (go_at_call 22; refine HC.out.mono ?_; rintro e w1 ⟨v, rfl, hrow, hb1⟩; obtain ⟨A2, c2, rfl⟩ := Kd.R_slice hrow; have HR1 := Aside0.mk (HK.out w1 _ hrow hb1); have bO1 := Boxed.below HO.out hb1; simp only [World.size_alloc] at bO1; have cO1 := Boxed.cell bO1; have fO1 := Boxed.frozen bO1; clear hrow hb1 HC HK)
  have bO2 := bO1.set (.slice A2 r.length c2)
  have cO2 := bO2.cell
  refine ⟨rfl, .agg #[.slice A2 r.length c2], ?_, _, rfl, HR1.out.1, HR1.out.2⟩
  simp [results, Tryz.f7, go_sem, cO2]

set_option maxRecDepth 100000 in
set_option maxHeartbeats 4000000 in
theorem cpset_And.calls (A0 : Option Addr) (c0 : Nat) (l0 : List Rg) (A1 : Option Addr) (c1 : Nat) (l1 : List Rg) (r : List Rg) (w : World) (hr0 : Kd.C k32 w A0 l0.length l0) (hc0 : l0.length ≤ c0) (hr1 : Kd.C k32 w A1 l1.length l1) (hc1 : l1.length ≤ c1) (h : cpset_And.f l0 l1 = some r) :
    Calls Tryz.prog 9 #[.agg #[.slice A0 l0.length c0], .agg #[.slice A1 l1.length c1]] w fun e w' => ∃ v0_ : Value, e = .returned (.agg #[v0_]) ∧ Kd.R k32 32 w' w.heap.size (fun _ => True) v0_ r ∧ Below w.heap.size w w' := by
  obtain ⟨ha, h⟩ := if_some h
  have hr := Option.some.inj h
  clear h
  have huS := Tryz.underlying24
  have HB0 := Aside0.mk (show Below w.heap.size w (((w.alloc (.cells #[.slice A0 l0.length c0] 24)).alloc (.cells #[.slice A1 l1.length c1] 24)).alloc (.cells #[.slice none 0 0] 24)) from ((((Below.refl _ w).alloc (Nat.le_refl _) _).alloc (by simp) _).alloc (by simp; omega) _))
  have HC := Aside0.mk (combine_in 25 (fun x y => x && y) (enters_of Tryz.func25 (by kernel_rfl) rfl) And1_in 2000100 A0 c0 l0 (makeL l0) A1 c1 l1 (makeL l1) _ (Kd.C_below hr0 HB0.out) hc0 (Kd.C_below hr1 HB0.out) hc1 (mk_some ha.1) (mk_some ha.2) _ (pairL_mk _ ha.1 ha.2) (mk_len ha.1 (by decide)) (mk_len ha.2 (by decide)) (VL_hi (makeL_valid _)) (VL_hi (makeL_valid _)))
  rw [hr] at HC
  have bO := Boxed.new ((w.alloc (.cells #[.slice A0 l0.length c0] 24)).alloc (.cells #[.slice A1 l1.length c1] 24)) 24 (.slice none 0 0)
  have HO := Aside0.mk bO
  have HK := Aside0.mk (fun (w1 : World) (v : Value) h h1 => ops_keep (w := w) (w1 := w1) (v := v) (b := w.heap.size + 1 + 1) (wa := (((w.alloc (.cells #[.slice A0 l0.length c0] 24)).alloc (.cells #[.slice A1 l1.length c1] 24)).alloc (.cells #[.slice none 0 0] 24))) (r := r) (by omega) (by simp) HB0.out h h1)
  clear bO hr
  go_enter Tryz.func9, Tryz.ntmps9
  go_wp2_with (go_at_call 22; refine HC.out.mono ?_; rintro e w1 ⟨v, rfl, hrow, hb1⟩; obtain ⟨A2, c2, rfl⟩ := Kd.R_slice hrow; have HR1 := Aside0.mk (HK.out w1 _ hrow hb1); have bO1 := Boxed.below HO.out hb1; simp only [World.size_alloc] at bO1; have cO1 := Boxed.cell bO1; have fO1 := Boxed.frozen bO1; clear hrow hb1 HC HK)
  have bO2 := bO1.set (.slice A2 r.length c2)
  have cO2 := bO2.cell
  refine ⟨rfl, .agg #[.slice A2 r.length c2], ?_, _, rfl, HR1.out.1, HR1.out.2⟩
  simp [results, Tryz.f9, go_sem, cO2]

set_option maxRecDepth 100000 in
set_option maxHeartbeats 4000000 in
theorem cpset_Minus.calls (A0 : Option Addr) (c0 : Nat) (l0 : List Rg) (A1 : Option Addr) (c1 : Nat) (l1 : List Rg) (r : List Rg) (w : World) (hr0 : Kd.C k32 w A0 l0.length l0) (hc0 : l0.length ≤ c0) (hr1 : Kd.C k32 w A1 l1.length l1) (hc1 : l1.length ≤ c1) (h : cpset_Minus.f l0 l1 = some r) :
    Calls Tryz.prog 11 #[.agg #[.slice A0 l0.length c0], .agg #[.slice A1 l1.length c1]] w fun e w' => ∃ v0_ : Value, e = .returned (.agg #[v0_]) ∧ Kd.R k32 32 w' w.heap.size (fun _ => True) v0_ r ∧ Below w.heap.size w w' := by
  obtain ⟨ha, h⟩ := if_some h
  have hr := Option.some.inj h
  clear h
  have huS := Tryz.underlying24
  have HB0 := Aside0.mk (show Below w.heap.size w (((w.alloc (.cells #[.slice A0 l0.length c0] 24)).alloc (.cells #[.slice A1 l1.length c1] 24)).alloc (.cells #[.slice none 0 0] 24)) from ((((Below.refl _ w).alloc (Nat.le_refl _) _).alloc (by simp) _).alloc (by simp; omega) _))
  have HC := Aside0.mk (combine_in 26 (fun x y => x && !y) (enters_of Tryz.func26 (by kernel_rfl) rfl) Minus1_in 2000100 A0 c0 l0 (makeL l0) A1 c1 l1 (makeL l1) _ (Kd.C_below hr0 HB0.out) hc0 (Kd.C_below hr1 HB0.out) hc1 (mk_some ha.1) (mk_some ha.2) _ (pairL_mk _ ha.1 ha.2) (mk_len ha.1 (by decide)) (mk_len ha.2 (by decide)) (VL_hi (makeL_valid _)) (VL_hi (makeL_valid _)))
  rw [hr] at HC
  have bO := Boxed.new ((w.alloc (.cells #[.slice A0 l0.length c0] 24)).alloc (.cells #[.slice A1 l1.length c1] 24)) 24 (.slice none 0 0)
  have HO := Aside0.mk bO
  have HK := Aside0.mk (fun (w1 : World) (v : Value) h h1 => ops_keep (w := w) (w1 := w1) (v := v) (b := w.heap.size + 1 + 1) (wa := (((w.alloc (.cells #[.slice A0 l0.length c0] 24)).alloc (.cells #[.slice A1 l1.length c1] 24)).alloc (.cells #[.slice none 0 0] 24))) (r := r) (by omega) (by simp) HB0.out h h1)
  clear bO hr
  go_enter Tryz.func11, Tryz.ntmps11
  go_wp2_with (go_at_call 22; refine HC.out.mono ?_; rintro e w1 ⟨v, rfl, hrow, hb1⟩; obtain ⟨A2, c2, rfl⟩ := Kd.R_slice hrow; have HR1 := Aside0.mk (HK.out w1 _ hrow hb1); have bO1 := Boxed.below HO.out hb1; simp only [World.size_alloc] at bO1; have cO1 := Boxed.cell bO1; have fO1 := Boxed.frozen bO1; clear hrow hb1 HC HK)
  have bO2 := bO1.set (.slice A2 r.length c2)
  have cO2 := bO2.cell
  refine ⟨rfl, .agg #[.slice A2 r.length c2], ?_, _, rfl, HR1.out.1, HR1.out.2⟩
  simp [results, Tryz.f11, go_sem, cO2]

set_option maxRecDepth 100000 in
set_option maxHeartbeats 4000000 in
theorem cpset_Not.calls (A0 : Option Addr) (c0 : Nat) (l0 : List Rg) (r : List Rg) (w : World) (hr0 : Kd.C k32 w A0 l0.length l0) (hc0 : l0.length ≤ c0) (h : cpset_Not.f l0 = some r) :
    Calls Tryz.prog 13 #[.agg #[.slice A0 l0.length c0]] w fun e w' => ∃ v0_ : Value, e = .returned (.agg #[v0_]) ∧ Kd.R k32 32 w' w.heap.size (fun _ => True) v0_ r ∧ Below w.heap.size w w' := by
  obtain ⟨ha, h⟩ := if_some h
  have hr := Option.some.inj h
  clear h
  have huS := Tryz.underlying24
  have HB0 := Aside0.mk (show Below w.heap.size w ((w.alloc (.cells #[.slice A0 l0.length c0] 24)).alloc (.cells #[.slice none 0 0] 24)) from (((Below.refl _ w).alloc (Nat.le_refl _) _).alloc (by simp) _))
  have HC := Aside0.mk (combine_in 27 (fun x _ => !x) (enters_of Tryz.func27 (by kernel_rfl) rfl) Not1_in 2000100 A0 c0 l0 (makeL l0) none 0 [] (makeL []) _ (Kd.C_below hr0 HB0.out) hc0 (Kd.C_nil _ _) (Nat.le_refl _) (mk_some ha) (mk_some (by simp)) _ (pairL_mk _ ha (by simp)) (mk_len ha (by decide)) (mk_len (by simp) (by decide)) (VL_hi (makeL_valid _)) (VL_hi (makeL_valid _)))
  rw [hr] at HC
  have bO := Boxed.new (w.alloc (.cells #[.slice A0 l0.length c0] 24)) 24 (.slice none 0 0)
  have HO := Aside0.mk bO
  have HK := Aside0.mk (fun (w1 : World) (v : Value) h h1 => ops_keep (w := w) (w1 := w1) (v := v) (b := w.heap.size + 1) (wa := ((w.alloc (.cells #[.slice A0 l0.length c0] 24)).alloc (.cells #[.slice none 0 0] 24))) (r := r) (by omega) (by simp) HB0.out h h1)
  clear bO hr
  go_enter Tryz.func13, Tryz.ntmps13
  go_wp2_with (go_at_call 22; refine HC.out.mono ?_; rintro e w1 ⟨v, rfl, hrow, hb1⟩; obtain ⟨A2, c2, rfl⟩ := Kd.R_slice hrow; have HR1 := Aside0.mk (HK.out w1 _ hrow hb1); have bO1 := Boxed.below HO.out hb1; simp only [World.size_alloc] at bO1; have cO1 := Boxed.cell bO1; have fO1 := Boxed.frozen bO1; clear hrow hb1 HC HK)
  have bO2 := bO1.set (.slice A2 r.length c2)
  have cO2 := bO2.cell
  refine ⟨rfl, .agg #[.slice A2 r.length c2], ?_, _, rfl, HR1.out.1, HR1.out.2⟩
  simp [results, Tryz.f13, go_sem, cO2]
end Go.Proofs.YtpnkkhichkmmmaaGreatDoor.Q
