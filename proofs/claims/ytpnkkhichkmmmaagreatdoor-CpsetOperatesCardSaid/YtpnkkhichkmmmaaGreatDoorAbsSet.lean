/-
  DERIVED. The kinds of the chapter on sets, and what its operations and functions do with them (for the walks of XAbs).
-/
import Derived.Test.YtpnkkhichkmmmaaGreatDoorAbs
import Derived.Test.YtpnkkhichkmmmaaGreatDoorOps
import Derived.Test.YtpnkkhichkmmmaaGreatDoorAlive
import Derived.RangeFuncBox
import Derived.RangeFuncNested
import Derived.Test.YtpnkkhichkmmmaaGreatDoorQ10
import Derived.Test.YtpnkkhichkmmmaaGreatDoorQ2
import Derived.Test.YtpnkkhichkmmmaaGreatDoorQ2
namespace Go.Proofs.YtpnkkhichkmmmaaGreatDoor.Q
set_option linter.unusedVariables false
set_option linter.unusedSimpArgs false
open Go.RowKit Go.Proofs.YtpnkkhichkmmmaaGreatDoorW.PrintWords Go.Proofs.YtpnkkhichkmmmaaGreatDoorW.PrintLast Go.Proofs.YtpnkkhichkmmmaaGreatDoorW.PrintMore
attribute [local go_sem] Oper.semAt_some
attribute [local go_sem] field_set field_lo field_hi

def AV.set (l : List Rg) : AV := ⟨fun w v => ∃ A c, v = .agg #[.slice A l.length c] ∧ Kd.C k32 w A l.length l ∧ l.length ≤ c, fun hb ⟨A, c, e, h, k⟩ => ⟨A, c, e, Kd.C_below h hb, k⟩⟩
def AV.row (l : List Rg) : AV := ⟨fun w v => ∃ A c, v = .slice A l.length c ∧ Kd.C k32 w A l.length l ∧ l.length ≤ c, fun hb ⟨A, c, e, h, k⟩ => ⟨A, c, e, Kd.C_below h hb, k⟩⟩
def AV.sbox (l : List Rg) : AV := ⟨fun w v => ∃ g A c, v = .pointer (some ⟨g, 0, none⟩) ∧ w.cell? ⟨g, 0, none⟩ = some (.slice A l.length c) ∧ Kd.C k32 w A l.length l ∧ l.length ≤ c, fun hb ⟨g, A, c, e, hc, h, k⟩ => ⟨g, A, c, e, pw_cell_below hb hc, Kd.C_below h hb, k⟩⟩

theorem set_of_R {w : World} {base : Nat} {ok : Nat → Prop} {v : Value} {l : List Rg} (h : Kd.R k32 32 w base ok v l) : (AV.set l).fits w (.agg #[v]) := by
  obtain ⟨A, c, rfl⟩ := Kd.R_slice h
  exact ⟨A, c, rfl, (Kd.R_reads' h).2.2, (Kd.R_reads' h).2.1⟩

section
variable {ops : Array Oper} {E : Nat → AV} {w0 : World} {R : List Nat} {i d : Nat} {g : Option (Nat × Bool)}
theorem op_load (x : Nat) (l : List Rg) (hi : shape ops i = some (.load 24 (.tmp x), some d, g)) (hg : Guarded ops E R g) (hx : x ∈ R) (hE : E x = AV.sbox l) (hd : E d = AV.set l) : OpOk Tryz.prog ops E w0 R i d :=
  op_of hi hg fun o Q K a w hop hdo _ hk hK => by
    obtain ⟨gb, A, c, e, hc, hC, hle⟩ := hk.fit hx hE
    have hK := hK _ w (Below.refl _ w) (by rw [hd]; exact ⟨A, c, rfl, hC, hle⟩)
    have hu := Tryz.underlying24
    unfold Oper.wp execOp
    rw [hop]
    simp only [e]
    go_simp
    rw [hdo] at hK
    exact hK
theorem op_loadrow (x : Nat) (l : List Rg) (hi : shape ops i = some (.load 22 (.tmp x), some d, g)) (hg : Guarded ops E R g) (hx : x ∈ R) (hE : E x = AV.sbox l) (hd : E d = AV.row l) : OpOk Tryz.prog ops E w0 R i d :=
  op_of hi hg fun o Q K a w hop hdo _ hk hK => by
    obtain ⟨gb, A, c, e, hc, hC, hle⟩ := hk.fit hx hE
    have hK := hK _ w (Below.refl _ w) (by rw [hd]; exact ⟨A, c, rfl, hC, hle⟩)
    have hu := Tryz.underlying22
    unfold Oper.wp execOp
    rw [hop]
    simp only [e]
    go_simp
    rw [hdo] at hK
    exact hK
theorem op_faddr (x : Nat) (l : List Rg) (hi : shape ops i = some (.fieldAddr 24 (.tmp x) 0, some d, g)) (hg : Guarded ops E R g) (hx : x ∈ R) (hE : E x = AV.sbox l) (hd : E d = AV.sbox l) : OpOk Tryz.prog ops E w0 R i d :=
  op_of hi hg fun o Q K a w hop hdo _ hk hK => by
    obtain ⟨gb, A, c, e, hc, hC, hle⟩ := hk.fit hx hE
    have hK := hK _ w (Below.refl _ w) (by rw [hd]; exact ⟨gb, A, c, rfl, hc, hC, hle⟩)
    have hu := Tryz.underlying24
    unfold Oper.wp execOp
    rw [hop]
    simp only [e]
    go_simp
    rw [hdo] at hK
    exact hK
theorem op_field (x : Nat) (l : List Rg) (hi : shape ops i = some (.field 24 (.tmp x) 0, some d, g)) (hg : Guarded ops E R g) (hx : x ∈ R) (hE : E x = AV.set l) (hd : E d = AV.row l) : OpOk Tryz.prog ops E w0 R i d :=
  op_of hi hg fun o Q K a w hop hdo _ hk hK => by
    obtain ⟨A, c, e, hC, hle⟩ := hk.fit hx hE
    have hK := hK _ w (Below.refl _ w) (by rw [hd]; exact ⟨A, c, rfl, hC, hle⟩)
    have hu := Tryz.underlying24
    unfold Oper.wp execOp
    rw [hop]
    simp only [e]
    go_simp
    rw [hdo] at hK
    exact hK
theorem op_len (x : Nat) (l : List Rg) (hi : shape ops i = some (.call { callee := .builtin .len, args := #[.tmp x], argTypes := #[22] }, some d, g)) (hg : Guarded ops E R g) (hx : x ∈ R) (hE : E x = AV.row l) (hd : E d = AV.int l.length) : OpOk Tryz.prog ops E w0 R i d :=
  op_of hi hg fun o Q K a w hop hdo _ hk hK => by
    obtain ⟨A, c, e, hC, hle⟩ := hk.fit hx hE
    have hK := hK _ w (Below.refl _ w) (by rw [hd]; exact rfl)
    have hu := Tryz.underlying22
    unfold Oper.wp execOp
    rw [hop]
    simp only [resolve, List.map_toArray, List.map_cons, List.map_nil, e]
    go_simp
    rw [hdo] at hK
    exact hK
theorem op_not (x : Nat) (b : Bool) (hi : shape ops i = some (.unOp .not 4 (.tmp x), some d, g)) (hg : Guarded ops E R g) (hx : x ∈ R) (hE : E x = AV.bool b) (hd : E d = AV.bool (!b)) : OpOk Tryz.prog ops E w0 R i d :=
  op_of hi hg fun o Q K a w hop hdo _ hk hK => by
    have e := hk.is hx hE
    have hK := hK _ w (Below.refl _ w) (by rw [hd]; exact rfl)
    unfold Oper.wp execOp
    rw [hop]
    simp only [e]
    go_simp
    rw [hdo] at hK
    exact hK
theorem op_neqb (x y : Nat) (b c r : Bool) (hr : (b != c) = r) (hi : shape ops i = some (.binOp .neq 4 (.tmp x) (.tmp y) 4, some d, g)) (hg : Guarded ops E R g) (hx : x ∈ R) (hy : y ∈ R) (hE : E x = AV.bool b) (hE2 : E y = AV.bool c) (hd : E d = AV.bool r) : OpOk Tryz.prog ops E w0 R i d :=
  op_of hi hg fun o Q K a w hop hdo _ hk hK => by
    have e := hk.is hx hE
    have e2 := hk.is hy hE2
    subst hr
    have hK := hK _ w (Below.refl _ w) (by rw [hd]; exact rfl)
    have hu := Tryz.underlying4
    unfold Oper.wp execOp
    rw [hop]
    simp only [e, e2]
    go_simp
    rw [hdo] at hK
    exact hK
theorem op_eq0 (x : Nat) (z : Int) (r : Bool) (hr : (z == 0) = r) (hi : shape ops i = some (.binOp .eql 3 (.tmp x) (.const (.int .i64 0)) 3, some d, g)) (hg : Guarded ops E R g) (hx : x ∈ R) (hE : E x = AV.int z) (hd : E d = AV.bool r) : OpOk Tryz.prog ops E w0 R i d :=
  op_of hi hg fun o Q K a w hop hdo _ hk hK => by
    have e := hk.is hx hE
    subst hr
    have hK := hK _ w (Below.refl _ w) (by rw [hd]; exact rfl)
    have hu := Tryz.underlying3
    unfold Oper.wp execOp
    rw [hop]
    simp only [e]
    go_simp
    rw [hdo] at hK
    exact hK
theorem op_gt0 (x : Nat) (z : Int) (r : Bool) (hr : decide (0 < z) = r) (hi : shape ops i = some (.binOp .gtr 3 (.tmp x) (.const (.int .i64 0)) 3, some d, g)) (hg : Guarded ops E R g) (hx : x ∈ R) (hE : E x = AV.int z) (hd : E d = AV.bool r) : OpOk Tryz.prog ops E w0 R i d :=
  op_of hi hg fun o Q K a w hop hdo _ hk hK => by
    have e := hk.is hx hE
    subst hr
    have hK := hK _ w (Below.refl _ w) (by rw [hd]; exact rfl)
    have hu := Tryz.underlying3
    unfold Oper.wp execOp
    rw [hop]
    simp only [e]
    go_simp
    rw [hdo] at hK
    exact hK
theorem op_gt (x y : Nat) (z u : Int) (r : Bool) (hr : decide (u < z) = r) (hi : shape ops i = some (.binOp .gtr 3 (.tmp x) (.tmp y) 3, some d, g)) (hg : Guarded ops E R g) (hx : x ∈ R) (hy : y ∈ R) (hE : E x = AV.int z) (hE2 : E y = AV.int u) (hd : E d = AV.bool r) : OpOk Tryz.prog ops E w0 R i d :=
  op_of hi hg fun o Q K a w hop hdo _ hk hK => by
    have e := hk.is hx hE
    have e2 := hk.is hy hE2
    subst hr
    have hK := hK _ w (Below.refl _ w) (by rw [hd]; exact rfl)
    have hu := Tryz.underlying3
    unfold Oper.wp execOp
    rw [hop]
    simp only [e, e2]
    go_simp
    rw [hdo] at hK
    exact hK
theorem op_eqi (x y : Nat) (z u : Int) (r : Bool) (hr : (z == u) = r) (hi : shape ops i = some (.binOp .eql 3 (.tmp x) (.tmp y) 3, some d, g)) (hg : Guarded ops E R g) (hx : x ∈ R) (hy : y ∈ R) (hE : E x = AV.int z) (hE2 : E y = AV.int u) (hd : E d = AV.bool r) : OpOk Tryz.prog ops E w0 R i d :=
  op_of hi hg fun o Q K a w hop hdo _ hk hK => by
    have e := hk.is hx hE
    have e2 := hk.is hy hE2
    subst hr
    have hK := hK _ w (Below.refl _ w) (by rw [hd]; exact rfl)
    have hu := Tryz.underlying3
    unfold Oper.wp execOp
    rw [hop]
    simp only [e, e2]
    go_simp
    rw [hdo] at hK
    exact hK
theorem op_add (x y : Nat) (z u : Int) (hi : shape ops i = some (.binOp .add 3 (.tmp x) (.tmp y) 3, some d, g)) (hg : Guarded ops E R g) (hx : x ∈ R) (hy : y ∈ R) (hE : E x = AV.int z) (hE2 : E y = AV.int u) (hd : E d = AV.int (wrap64 (z + u))) : OpOk Tryz.prog ops E w0 R i d :=
  op_of hi hg fun o Q K a w hop hdo _ hk hK => by
    have e := hk.is hx hE
    have e2 := hk.is hy hE2
    have hK := hK _ w (Below.refl _ w) (by rw [hd]; exact rfl)
    have hu := Tryz.underlying3
    unfold Oper.wp execOp
    rw [hop]
    simp only [e, e2]
    go_simp
    rw [hdo] at hK
    rw [i64_w]
    exact hK
theorem op_assignc (v : Value) (hi : shape ops i = some (.assign (.const v), some d, g)) (hg : Guarded ops E R g) (hd : E d = AV.is v) : OpOk Tryz.prog ops E w0 R i d :=
  op_of hi hg fun o Q K a w hop hdo _ hk hK => by
    unfold Oper.wp execOp
    rw [hop]
    exact hK _ w (Below.refl _ w) (by rw [hd]; exact rfl)
theorem op_build0 (hi : shape ops i = some (.build 24 #[], some d, g)) (hg : Guarded ops E R g) (hd : E d = AV.set []) : OpOk Tryz.prog ops E w0 R i d :=
  op_of hi hg fun o Q K a w hop hdo _ hk hK => by
    have hK := hK _ w (Below.refl _ w) (by rw [hd]; exact set_of_R (Kd.R_nil k32 32 w 0 (fun _ => True)))
    have hu := Tryz.underlying24
    unfold Oper.wp execOp
    rw [hop]
    simp only [List.map_toArray, List.map_nil]
    go_simp
    rw [hdo] at hK
    exact hK
theorem op_box (x : Nat) (l : List Rg) (hi : shape ops i = some (.box 24 (.tmp x), some d, g)) (hg : Guarded ops E R g) (hx : x ∈ R) (hE : E x = AV.set l) (hd : E d = AV.sbox l) : OpOk Tryz.prog ops E w0 R i d :=
  op_of hi hg fun o Q K a w hop hdo _ hk hK => by
    obtain ⟨A, c, e, hC, hle⟩ := hk.fit hx hE
    have hb : Below w.heap.size w (w.alloc (.cells #[.slice A l.length c] 24)) := (Below.refl _ w).alloc (Nat.le_refl _) _
    have hK := hK (.pointer (some ⟨w.heap.size, 0, none⟩)) _ hb (by rw [hd]; exact ⟨_, A, c, rfl, (Boxed.new w _ _).cell, Kd.C_below hC hb, hle⟩)
    have hu := Tryz.underlying24
    unfold Oper.wp execOp
    rw [hop]
    simp only [e]
    go_simp
    rw [hdo] at hK
    exact hK
/-- Variables that escape: made, then filled. -/
theorem st_put {P : Program} {N : Nat} {E : Nat → AV} {ds : List Deferred} {a : Act} {w w' : World} {d : Nat} {v : Value} {x : AV} (hS : St N E ds w0 a w) (hd : d < N) (hb : Below w.heap.size w w') (hx : x.fits w' v) : St N (upd E [([], d)] [x]) ds w0 (a.put (some d) v) w' := by
  refine ⟨by simpa [Act.put] using hS.size, hS.defers, below_then hS.below hb, fun t ht => ?_⟩
  show ∃ u, (a.tmps.setIfInBounds d v)[t]? = some u ∧ (upd E [([], d)] [x] t).fits w' u
  by_cases htd : d = t
  · subst htd
    refine ⟨v, by rw [Array.getElem?_setIfInBounds_self_of_lt (by rw [hS.size]; exact hd)], ?_⟩
    show (bif Nat.beq d d then x else E d).fits w' v
    rw [Nat.beq_refl]
    exact hx
  · rw [Array.getElem?_setIfInBounds_ne htd]
    obtain ⟨u, h1, h2⟩ := hS.val t ht
    refine ⟨u, h1, ?_⟩
    show (bif Nat.beq t d then x else E t).fits w' u
    have : Nat.beq t d = false := by
      cases hb : Nat.beq t d with
      | false => rfl
      | true => exact absurd (Nat.eq_of_beq_eq_true hb).symm htd
    rw [this]
    exact (E t).keep hb h2
theorem ops_box1 {Q : Exit → Act → World → Prop} {N : Nat} {ds : List Deferred} {rest : List Nat} {a : Act} {w : World} {j x : Nat} {l : List Rg} (h1 : shape ops i = some (.alloc 24, some d, none)) (h2 : shape ops j = some (.store 24 (.tmp d) (.tmp x), none, none))
    (hx : x < N) (hd : d < N) (hne : d ≠ x) (hE : E x = AV.set l) (hS : St N E ds w0 a w) (hQ : ∀ a w, St N (upd E [([], d)] [AV.sbox l]) ds w0 a w → wpOps Tryz.prog ops Q rest a w) : wpOps Tryz.prog ops Q (i :: j :: rest) a w := by
  have hu := Tryz.underlying24
  have hk : Knows E [x] a w := fun s hs => by
    simp only [List.mem_singleton] at hs
    subst hs
    exact hS.val _ hx
  obtain ⟨A, c, e, hC, hle⟩ := hk.fit (List.mem_singleton.2 rfl) hE
  generalize hw1 : w.alloc (.cells #[.slice none 0 0] 24) = w1
  have bO : Boxed w1 w.heap.size 24 (.slice none 0 0) := by rw [← hw1]; exact Boxed.new w _ _
  have bF := bO.frozen
  have bC := bO.cell
  have hb1 : Below w.heap.size w w1 := by rw [← hw1]; exact (Below.refl _ w).alloc (Nat.le_refl _) _
  generalize hw2 : w1.setCell ⟨w.heap.size, 0, none⟩ (.slice A l.length c) = w2
  have bS : Boxed w2 w.heap.size 24 (.slice A l.length c) := by rw [← hw2]; exact bO.set _
  have hb : Below w.heap.size w w2 := by rw [← hw2]; exact hb1.setCell (p := ⟨w.heap.size, 0, none⟩) (Nat.le_refl _) _
  have key := hQ _ _ (st_put (P := Tryz.prog) (v := .pointer (some ⟨w.heap.size, 0, none⟩)) (x := AV.sbox l) hS hd hb ⟨_, A, c, rfl, bS.cell, Kd.C_below hC hb, hle⟩)
  have ed : (a.put (some d) (.pointer (some ⟨w.heap.size, 0, none⟩))).eval (.tmp d) = .pointer (some ⟨w.heap.size, 0, none⟩) := by
    simp [Act.put, Act.eval, Array.getD_eq_getD_getElem?, Array.getElem?_setIfInBounds_self_of_lt (show d < a.tmps.size by rw [hS.size]; exact hd)]
  have ex : (a.put (some d) (.pointer (some ⟨w.heap.size, 0, none⟩))).eval (.tmp x) = .agg #[.slice A l.length c] := by
    rw [← e]
    simp [Act.put, Act.eval, Array.getD_eq_getD_getElem?, Array.getElem?_setIfInBounds_ne hne]
  rw [wpOps_cons]
  refine wpOp_run h1 fun o hop hdo => ?_
  unfold Oper.wp execOp
  rw [hop]
  go_simp
  try rw [hw1]
  change wpOps Tryz.prog ops Q (j :: rest) (a.put (some d) (.pointer (some ⟨w.heap.size, 0, none⟩))) w1
  rw [wpOps_cons]
  refine wpOp_run h2 fun o hop hdo => ?_
  unfold Oper.wp execOp
  rw [hop]
  simp only [ed, ex]
  go_simp
  try rw [hw2]
  exact key
theorem ops_box2 {Q : Exit → Act → World → Prop} {N : Nat} {ds : List Deferred} {rest : List Nat} {a : Act} {w : World} {i2 j j2 d2 x x2 : Nat} {l l2 : List Rg} (h1 : shape ops i = some (.alloc 24, some d, none)) (h3 : shape ops i2 = some (.alloc 24, some d2, none))
    (h2 : shape ops j = some (.store 24 (.tmp d) (.tmp x), none, none)) (h4 : shape ops j2 = some (.store 24 (.tmp d2) (.tmp x2), none, none))
    (hx : x < N) (hx2 : x2 < N) (hd : d < N) (hd2 : d2 < N) (hne : d ≠ x) (hne2 : d ≠ x2) (hne3 : d2 ≠ x) (hne4 : d2 ≠ x2) (hdd : d2 ≠ d) (hE : E x = AV.set l) (hE2 : E x2 = AV.set l2) (hS : St N E ds w0 a w)
    (hQ : ∀ a w, St N (upd (upd E [([], d)] [AV.sbox l]) [([], d2)] [AV.sbox l2]) ds w0 a w → wpOps Tryz.prog ops Q rest a w) : wpOps Tryz.prog ops Q (i :: i2 :: j :: j2 :: rest) a w := by
  have hu := Tryz.underlying24
  have hk : Knows E [x] a w := fun s hs => by
    simp only [List.mem_singleton] at hs
    subst hs
    exact hS.val _ hx
  have hk2 : Knows E [x2] a w := fun s hs => by
    simp only [List.mem_singleton] at hs
    subst hs
    exact hS.val _ hx2
  obtain ⟨A, c, e, hC, hle⟩ := hk.fit (List.mem_singleton.2 rfl) hE
  obtain ⟨A2, c2, e2, hC2, hle2⟩ := hk2.fit (List.mem_singleton.2 rfl) hE2
  generalize hw1 : w.alloc (.cells #[.slice none 0 0] 24) = w1
  have hs1 : w1.heap.size = w.heap.size + 1 := by rw [← hw1]; simp
  have bO : Boxed w1 w.heap.size 24 (.slice none 0 0) := by rw [← hw1]; exact Boxed.new w _ _
  have hb1 : Below w.heap.size w w1 := by rw [← hw1]; exact (Below.refl _ w).alloc (Nat.le_refl _) _
  generalize hw2 : w1.alloc (.cells #[.slice none 0 0] 24) = w2
  have hs2 : w2.heap.size = w.heap.size + 2 := by rw [← hw2]; simp [hs1]
  have bP : Boxed w2 w1.heap.size 24 (.slice none 0 0) := by rw [← hw2]; exact Boxed.new w1 _ _
  have bO2 : Boxed w2 w.heap.size 24 (.slice none 0 0) := by rw [← hw2]; exact bO.alloc _
  have hb2 : Below w.heap.size w w2 := by rw [← hw2]; exact hb1.alloc (by omega) _
  have hbF := bO2.frozen
  have hbC := bO2.cell
  generalize hw3 : w2.setCell ⟨w.heap.size, 0, none⟩ (.slice A l.length c) = w3
  have bO3 : Boxed w3 w.heap.size 24 (.slice A l.length c) := by rw [← hw3]; exact bO2.set _
  have bP3 : Boxed w3 w1.heap.size 24 (.slice none 0 0) := by rw [← hw3]; exact bP.other (by omega) _
  have hb3 : Below w.heap.size w w3 := by rw [← hw3]; exact hb2.setCell (p := ⟨w.heap.size, 0, none⟩) (Nat.le_refl _) _
  have hbF3 := bP3.frozen
  have hbC3 := bP3.cell
  generalize hw4 : w3.setCell ⟨w1.heap.size, 0, none⟩ (.slice A2 l2.length c2) = w4
  have bO4 : Boxed w4 w.heap.size 24 (.slice A l.length c) := by rw [← hw4]; exact bO3.other (by omega) _
  have bP4 : Boxed w4 w1.heap.size 24 (.slice A2 l2.length c2) := by rw [← hw4]; exact bP3.set _
  have hb4 : Below w.heap.size w w4 := by rw [← hw4]; exact hb3.setCell (p := ⟨w1.heap.size, 0, none⟩) (by simp; omega) _
  clear hs1 hs2
  have s1 := st_put (P := Tryz.prog) (v := .pointer (some ⟨w.heap.size, 0, none⟩)) (x := AV.sbox l) hS hd hb4 ⟨_, A, c, rfl, bO4.cell, Kd.C_below hC hb4, hle⟩
  have key := hQ _ _ (st_put (P := Tryz.prog) (v := .pointer (some ⟨w1.heap.size, 0, none⟩)) (x := AV.sbox l2) s1 hd2 (Below.refl _ w4) ⟨_, A2, c2, rfl, bP4.cell, Kd.C_below hC2 hb4, hle2⟩)
  have sz : d < a.tmps.size := by rw [hS.size]; exact hd
  have sz2 : d2 < a.tmps.size := by rw [hS.size]; exact hd2
  have ed : ((a.put (some d) (.pointer (some ⟨w.heap.size, 0, none⟩))).put (some d2) (.pointer (some ⟨w1.heap.size, 0, none⟩))).eval (.tmp d) = .pointer (some ⟨w.heap.size, 0, none⟩) := by
    simp [Act.put, Act.eval, Array.getD_eq_getD_getElem?, Array.getElem?_setIfInBounds_ne hdd, Array.getElem?_setIfInBounds_self_of_lt sz]
  have ed2 : ((a.put (some d) (.pointer (some ⟨w.heap.size, 0, none⟩))).put (some d2) (.pointer (some ⟨w1.heap.size, 0, none⟩))).eval (.tmp d2) = .pointer (some ⟨w1.heap.size, 0, none⟩) := by
    simp [Act.put, Act.eval, Array.getD_eq_getD_getElem?, Array.getElem?_setIfInBounds_self_of_lt, sz2]
  have ex : ((a.put (some d) (.pointer (some ⟨w.heap.size, 0, none⟩))).put (some d2) (.pointer (some ⟨w1.heap.size, 0, none⟩))).eval (.tmp x) = .agg #[.slice A l.length c] := by
    rw [← e]
    simp [Act.put, Act.eval, Array.getD_eq_getD_getElem?, Array.getElem?_setIfInBounds_ne hne, Array.getElem?_setIfInBounds_ne hne3]
  have ex2 : ((a.put (some d) (.pointer (some ⟨w.heap.size, 0, none⟩))).put (some d2) (.pointer (some ⟨w1.heap.size, 0, none⟩))).eval (.tmp x2) = .agg #[.slice A2 l2.length c2] := by
    rw [← e2]
    simp [Act.put, Act.eval, Array.getD_eq_getD_getElem?, Array.getElem?_setIfInBounds_ne hne2, Array.getElem?_setIfInBounds_ne hne4]
  rw [wpOps_cons]
  refine wpOp_run h1 fun o hop hdo => ?_
  unfold Oper.wp execOp
  rw [hop]
  go_simp
  try rw [hw1]
  change wpOps Tryz.prog ops Q (i2 :: j :: j2 :: rest) (a.put (some d) (.pointer (some ⟨w.heap.size, 0, none⟩))) w1
  rw [wpOps_cons]
  refine wpOp_run h3 fun o hop hdo => ?_
  unfold Oper.wp execOp
  rw [hop]
  go_simp
  try rw [hw2]
  change wpOps Tryz.prog ops Q (j :: j2 :: rest) ((a.put (some d) (.pointer (some ⟨w.heap.size, 0, none⟩))).put (some d2) (.pointer (some ⟨w1.heap.size, 0, none⟩))) w2
  rw [wpOps_cons]
  refine wpOp_run h2 fun o hop hdo => ?_
  unfold Oper.wp execOp
  rw [hop]
  simp only [ed, ex]
  go_simp
  try rw [hw3]
  change wpOps Tryz.prog ops Q (j2 :: rest) ((a.put (some d) (.pointer (some ⟨w.heap.size, 0, none⟩))).put (some d2) (.pointer (some ⟨w1.heap.size, 0, none⟩))) w3
  rw [wpOps_cons]
  refine wpOp_run h4 fun o hop hdo => ?_
  unfold Oper.wp execOp
  rw [hop]
  simp only [ed2, ex2]
  go_simp
  try rw [hw4]
  exact key
end

/-! ### The functions -/
theorem fits2_one {w : World} {x : AV} {vs : List Value} (h : Fits2 w [x] vs) : ∃ v, vs = [v] ∧ x.fits w v := by
  cases vs with
  | nil => exact h.elim
  | cons v vs =>
    cases vs with
    | nil => exact ⟨v, rfl, h.1⟩
    | cons u us => exact h.2.elim
theorem fits2_two {w : World} {x y : AV} {vs : List Value} (h : Fits2 w [x, y] vs) : ∃ v u, vs = [v, u] ∧ x.fits w v ∧ y.fits w u := by
  cases vs with
  | nil => exact h.elim
  | cons v vs =>
    obtain ⟨u, rfl, hu⟩ := fits2_one h.2
    exact ⟨v, u, rfl, h.1, hu⟩
theorem fits2_none {w : World} {vs : List Value} (h : Fits2 w [] vs) : vs = [] := by
  cases vs with
  | nil => rfl
  | cons v vs => exact h.elim

def orL (a b : List Rg) : List Rg := combL (fun x y => x || y) a b
def andL (a b : List Rg) : List Rg := combL (fun x y => x && y) a b
def minusL (a b : List Rg) : List Rg := combL (fun x y => x && !y) a b
def cntL (a : List Rg) : Int := countL (makeL a)
def notL (a : List Rg) : List Rg := combL (fun x _ => !x) a []
theorem then_ret {next : Act → World → Prop} {Q : Exit → Act → World → Prop} {a : Act} {w : World} (h : Q .ret a w) : Exit.then next Q .ret a w := h
theorem then_normal {next : Act → World → Prop} {Q : Exit → Act → World → Prop} {a : Act} {w : World} (h : next a w) : Exit.then next Q .normal a w := h
theorem comb_len (kf : Bool → Bool → Bool) (a b : List Rg) : (combL kf a b).length ≤ 2 * a.length + 2 * b.length + 2 := by
  have h1 := pairL_len kf (makeL a) (makeL b) (cutS (makeL a) (makeL b))
  rw [cutS_len] at h1
  have h2 := makeL_len a
  have h3 := makeL_len b
  have h4 := makeL_len (pairL kf (makeL a) (makeL b) (cutS (makeL a) (makeL b)))
  unfold combL
  omega
theorem two_le {kf : Bool → Bool → Bool} {a b : List Rg} {n m : Nat} (ha : a.length ≤ n) (hb : b.length ≤ m) : (combL kf a b).length ≤ 2 * n + 2 * m + 2 := by have := comb_len kf a b; omega
theorem not_le {a : List Rg} {n : Nat} (ha : a.length ≤ n) : (notL a).length ≤ 2 * n + 2 := by have := comb_len (fun x _ => !x) a []; simp only [List.length_nil] at this; unfold notL; omega
section
variable {w0 : World} {a b : List Rg}
theorem c_or (ha : a.length ≤ 100000) (hb : b.length ≤ 100000) : Contract Tryz.prog w0 7 [.set a, .set b] (.set (orL a b)) := fun w vs _ hv => by
  obtain ⟨_, _, rfl, ⟨A0, c0, rfl, h0, l0⟩, ⟨A1, c1, rfl, h1, l1⟩⟩ := fits2_two hv
  exact (cpset_Or.calls A0 c0 a A1 c1 b (orL a b) w h0 l0 h1 l1 (by unfold cpset_Or.f; rw [if_pos ⟨ha, hb⟩]; rfl)).mono (fun e w' ⟨v, he, hR, hB⟩ => ⟨_, he, set_of_R hR, hB⟩)
theorem c_and (ha : a.length ≤ 100000) (hb : b.length ≤ 100000) : Contract Tryz.prog w0 9 [.set a, .set b] (.set (andL a b)) := fun w vs _ hv => by
  obtain ⟨_, _, rfl, ⟨A0, c0, rfl, h0, l0⟩, ⟨A1, c1, rfl, h1, l1⟩⟩ := fits2_two hv
  exact (cpset_And.calls A0 c0 a A1 c1 b (andL a b) w h0 l0 h1 l1 (by unfold cpset_And.f; rw [if_pos ⟨ha, hb⟩]; rfl)).mono (fun e w' ⟨v, he, hR, hB⟩ => ⟨_, he, set_of_R hR, hB⟩)
theorem c_minus (ha : a.length ≤ 100000) (hb : b.length ≤ 100000) : Contract Tryz.prog w0 11 [.set a, .set b] (.set (minusL a b)) := fun w vs _ hv => by
  obtain ⟨_, _, rfl, ⟨A0, c0, rfl, h0, l0⟩, ⟨A1, c1, rfl, h1, l1⟩⟩ := fits2_two hv
  exact (cpset_Minus.calls A0 c0 a A1 c1 b (minusL a b) w h0 l0 h1 l1 (by unfold cpset_Minus.f; rw [if_pos ⟨ha, hb⟩]; rfl)).mono (fun e w' ⟨v, he, hR, hB⟩ => ⟨_, he, set_of_R hR, hB⟩)
theorem c_not (ha : a.length ≤ 100000) : Contract Tryz.prog w0 13 [.set a] (.set (notL a)) := fun w vs _ hv => by
  obtain ⟨_, rfl, ⟨A0, c0, rfl, h0, l0⟩⟩ := fits2_one hv
  exact (cpset_Not.calls A0 c0 a (notL a) w h0 l0 (by unfold cpset_Not.f; rw [if_pos ha]; rfl)).mono (fun e w' ⟨v, he, hR, hB⟩ => ⟨_, he, set_of_R hR, hB⟩)
theorem c_make (ha : a.length ≤ 100000) : Contract Tryz.prog w0 18 [.row a] (.set (makeL a)) := fun w vs _ hv => by
  obtain ⟨_, rfl, ⟨A0, c0, rfl, h0, l0⟩⟩ := fits2_one hv
  exact (cpset_Make.calls 2000100 A0 c0 a (makeL a) w h0 l0 (mk_some ha)).mono (fun e w' ⟨v, he, hR, hB⟩ => ⟨_, he, set_of_R hR, hB⟩)
theorem c_subset {r : Bool} (ha : a.length ≤ 100000) (hb : b.length ≤ 100000) (hr : (((minusL a b).length : Int) == 0) = r) : Contract Tryz.prog w0 15 [.set a, .set b] (.bool r) := fun w vs _ hv => by
  subst hr
  obtain ⟨_, _, rfl, ⟨A0, c0, rfl, h0, l0⟩, ⟨A1, c1, rfl, h1, l1⟩⟩ := fits2_two hv
  exact (cpset_Subset.calls A0 c0 a A1 c1 b _ w h0 l0 h1 l1 (by unfold cpset_Subset.f cpset_Minus.f; rw [if_pos ⟨ha, hb⟩]; rfl)).mono (fun e w' ⟨he, hB⟩ => ⟨_, he, rfl, hB⟩)
theorem c_same {r : Bool} (ha : a.length ≤ 100000) (hr : decide (a = b) = r) : Contract Tryz.prog w0 6 [.set a, .set b] (.bool r) := fun w vs _ hv => by
  subst hr
  obtain ⟨_, _, rfl, ⟨A0, c0, rfl, h0, l0⟩, ⟨A1, c1, rfl, h1, l1⟩⟩ := fits2_two hv
  exact (unicodetextref02_Same.calls (a.length + 1) A0 c0 a A1 c1 b _ w h0 l0 h1 l1 (Same_total a b (by omega) _ (Nat.le_refl _))).mono (fun e w' ⟨he, hB⟩ => ⟨_, he, rfl, hB⟩)
theorem c_count (ha : a.length ≤ 100000) : Contract Tryz.prog w0 21 [.set a] (.int (cntL a)) := fun w vs _ hv => by
  obtain ⟨_, rfl, ⟨A0, c0, rfl, h0, l0⟩⟩ := fits2_one hv
  exact (cpset_Count.calls A0 c0 a (cntL a) w h0 l0 (by unfold cpset_Count.f; rw [if_pos ha]; rfl)).mono (fun e w' ⟨he, hB⟩ => ⟨_, he, rfl, hB⟩)
theorem c_small {r : Bool} (hr : decide (a.length ≤ 12) = r) : Contract Tryz.prog w0 17 [.set a] (.bool r) := fun w vs _ hv => by
  subst hr
  obtain ⟨_, rfl, ⟨A0, c0, rfl, h0, l0⟩⟩ := fits2_one hv
  exact (unicodetextref02_Small.calls A0 c0 a _ w h0 l0 (by unfold unicodetextref02_Small.f; congr 2; exact propext (by omega))).mono (fun e w' ⟨he, hB⟩ => ⟨_, he, rfl, hB⟩)
theorem c_small2 {r : Bool} (hr : (decide (a.length ≤ 12) && decide (b.length ≤ 12)) = r) : Contract Tryz.prog w0 4 [.set a, .set b] (.bool r) := fun w vs _ hv => by
  subst hr
  obtain ⟨_, _, rfl, ⟨A0, c0, rfl, h0, l0⟩, ⟨A1, c1, rfl, h1, l1⟩⟩ := fits2_two hv
  have hs : ∀ l : List Rg, unicodetextref02_Small.f l = some (decide (l.length ≤ 12)) := fun l => by unfold unicodetextref02_Small.f; congr 2; exact propext (by omega)
  exact (unicodetextlaw02_small.calls A0 c0 a A1 c1 b _ w h0 l0 h1 l1 (by unfold unicodetextlaw02_small.f; rw [hs, hs]; simp only [Option.bind_some]; cases decide (a.length ≤ 12) <;> rfl)).mono (fun e w' ⟨he, hB⟩ => ⟨_, he, rfl, hB⟩)
theorem c_alive (hG : GG w0) : Contract Tryz.prog w0 5 [] (.bool true) := fun w vs hB0 hv => by
  obtain rfl := fits2_none hv
  exact (unicodetextlaw02_alive.calls 400 true w (GG_below hG hB0) (alive_total 400 (by decide))).mono (fun e w' ⟨he, hB⟩ => ⟨_, he, rfl, hB⟩)
end
end Go.Proofs.YtpnkkhichkmmmaaGreatDoor.Q
