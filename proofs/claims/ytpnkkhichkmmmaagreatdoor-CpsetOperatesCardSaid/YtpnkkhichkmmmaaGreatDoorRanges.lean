/-
  DERIVED. cpset.ranges: the iterator over a set's ranges, as Make has them: its contract for a range over a function: for every loop body that
  writes variables older than the loop, blocks of its own, and one growing row of its own (held by the variable in block V).
-/
import Derived.Test.YtpnkkhichkmmmaaGreatDoorQ3
import Derived.RangeFuncNested
import Derived.Maps.AppendAt
import Derived.Maps.OwnIn
import Derived.RangeFuncBound
import Derived.RangeFuncCalls
import Derived.RangeFuncLeaves
import Derived.Shelf.Abstract
import Derived.Shelf.RegionOpen
import Derived.WalkKit
import Derived.OwnWalkIn
import Derived.TacticsInMore
import Derived.LoopNIn
import Derived.LoopIn
import Derived.Test.YtpnkkhichkmmmaaGreatDoorSort
namespace Go.Proofs.YtpnkkhichkmmmaaGreatDoor.Q
set_option linter.unusedVariables false
set_option linter.unusedSimpArgs false
open Go.RowKit Go.Proofs.YtpnkkhichkmmmaaGreatDoorW.PrintWords Go.Proofs.YtpnkkhichkmmmaaGreatDoorW.PrintLast Go.Proofs.YtpnkkhichkmmmaaGreatDoorW.PrintMore
open Go.Shelf
attribute [local go_sem] Oper.semAt_some

/-- The block that the row in variable V lies in. -/
def ownAt (V : Nat) (W : World) : Option Nat := (W.cell? ⟨V, 0, none⟩).bind Value.ownBlock
/-- What a round keeps: cells at or beyond B, but for the body's own growing row. -/
structure KeepRow (B V : Nat) (W W' : World) : Prop where
  size : W.heap.size ≤ W'.heap.size
  old : ∀ i, B ≤ i → i < W.heap.size → ownAt V W' = some i → ownAt V W = some i
  same : ∀ i cs t fr, B ≤ i → W.heap[i]? = some (.cells cs t fr) → ownAt V W ≠ some i → W'.heap[i]? = some (.cells cs t fr)
theorem KeepRow.trans {B V : Nat} {X Y Z : World} (h : KeepRow B V X Y) (k : KeepRow B V Y Z) : KeepRow B V X Z where
  size := Nat.le_trans h.size k.size
  old i hB hi ho := h.old i hB hi (k.old i hB (Nat.lt_of_lt_of_le hi h.size) ho)
  same i cs t fr hB hi hn := k.same i cs t fr hB (h.same i cs t fr hB hi hn) (fun e => hn (h.old i hB (Array.getElem?_eq_some_iff.1 hi).1 e))
theorem KeepRow.of_below {B V : Nat} {W W' : World} (hV : V < W.heap.size) (h : Below W.heap.size W W') : KeepRow B V W W' := by
  have e : ownAt V W' = ownAt V W := by unfold ownAt; rw [h.cell (p := ⟨V, 0, none⟩) hV]
  exact ⟨h.size, fun i _ _ ho => e ▸ ho, fun i cs t fr _ hi _ => (h.block i (Array.getElem?_eq_some_iff.1 hi).1).trans hi⟩
theorem KeepRow.setCell {B V : Nat} {W : World} {b j : Nat} {v : Value} (hb : b < B) (hV : V ≠ b) : KeepRow B V W (W.setCell ⟨b, j, none⟩ v) := by
  have e : ownAt V (W.setCell ⟨b, j, none⟩ v) = ownAt V W := by
    unfold ownAt
    rw [cell_far (p := ⟨b, j, none⟩) (a := ⟨V, 0, none⟩) hV]
  exact ⟨by simp [World.setCell], fun i _ _ ho => e ▸ ho, fun i cs t fr hB hi _ => (Below.heap_setCell W ⟨b, j, none⟩ v i (by intro h; simp at h; omega)).trans hi⟩
theorem KeepRow.bound {B V : Nat} (w : World) (hV : V < w.heap.size) (W : World) (l : Nat) (o o' : Obj) (hl : w.heap.size ≤ l) (h : W.heap[l]? = some o) (ho : o.isCells = false) (_ : o.isWalk = false) : KeepRow B V W (W.putObj l o') := by
  have hne : ∀ i, i ≠ l → (W.putObj l o').heap[i]? = W.heap[i]? := fun i hi => World.putObj_heap_other hi
  have e : ownAt V (W.putObj l o') = ownAt V W := by
    unfold ownAt World.cell?
    simp only [hne V (by omega)]
  refine ⟨by simp, fun i _ _ h => e ▸ h, fun i cs t fr _ hi _ => ?_⟩
  rw [hne i (fun e => ?_)]
  · exact hi
  · subst e
    rw [h] at hi
    injection hi with hi
    subst hi
    cases ho
/-- A row's block. -/
theorem row_block {w : World} {base : Nat} {ok : Nat → Prop} {v : Value} {ys : List S32} (h : Kd.R k32 32 w base ok v ys) (h0 : 0 < ys.length) :
    ys.length ≤ maxLen ∧ ∃ g cap cur, v = .slice (some ⟨g, 0, none⟩) ys.length cap ∧ base ≤ g ∧ w.heap[g]? = some (.cells cur 32 (0, 0)) ∧
      ∀ (W : World), W.heap[g]? = some (.cells cur 32 (0, 0)) → ∀ j (hj : j < ys.length), W.cell? ⟨g, j * 2, none⟩ = some (.int .i64 ys[j].f0) ∧ W.cell? ⟨g, j * 2 + 1, none⟩ = some (.int .i64 ys[j].f1) := by
  obtain ⟨_, inner, ⟨hs, hv⟩, hr⟩ := k32_R.1 h
  rcases hv with ⟨_, h1⟩ | ⟨g, cap, cur, rfl, hg, hb, hnc, hcm, hcs, htk⟩
  · omega
  · refine ⟨Nat.le_trans hnc hcm, g, cap, cur, rfl, hg, hb, fun W hW j hj => ?_⟩
    have hh := holdsK_of encR_len hW htk hr
    have c0 := (hh.cell (i := j) (c := 0) (by simpa using hj) (by decide)).1
    have c1 := (hh.cell (i := j) (c := 1) (by simpa using hj) (by decide)).1
    have e : ys.toArray[j]! = ys[j] := by simp [hj]
    rw [e] at c0 c1
    simp only [Nat.zero_add, Nat.add_zero] at c0 c1
    exact ⟨c0, c1⟩
theorem row_nil {w : World} {base : Nat} {ok : Nat → Prop} {v : Value} (h : Kd.R k32 32 w base ok v []) : ∃ A c, v = .slice A 0 c := by
  obtain ⟨_, inner, ho, _⟩ := k32_R.1 h
  obtain ⟨A, c, e⟩ := own_slice ho
  exact ⟨A, c, e⟩

theorem KeepRow.row {B V : Nat} {w W : World} {g : Nat} {cs : Array Value} {t : TypeId} {fr : Nat × Nat} (h : KeepRow B V w W) (hB : B ≤ g) (hg : w.heap[g]? = some (.cells cs t fr)) (hn : ownAt V w ≠ some g) : W.heap[g]? = some (.cells cs t fr) := h.same g cs t fr hB hg hn

theorem wrap_succ {m L : Nat} (h : m < L) (hL : L ≤ maxLen) : wrap64 ((m : Int) + 1) = ((m + 1 : Nat) : Int) := by
  unfold maxLen at hL; unfold wrap64; omega
theorem wrap_meas {m L : Nat} (h : m < L) : L - (intOf (.int .i64 ((m + 1 : Nat) : Int))).toNat < L - (intOf (.int .i64 (m : Int))).toNat := by
  simp [intOf]; omega
attribute [local go_sem] field_set field_lo field_hi

set_option maxRecDepth 100000 in
set_option maxHeartbeats 4000000 in
theorem ranges1_in (n : Nat) (hn : 2 ≤ n) (l Bs B V k : Nat) (A : Option Addr) (c : Nat) (xs ys : List S32) (hmk : cpset_Make.f k xs = some ys) (J Jx : List S32 → World → Prop)
    (hY : ∀ pre x W, J pre W → pre.length < ys.length → YieldAt Fence.wide (n - 1) Tryz.prog l #[.agg #[.int .i64 x.f0, .int .i64 x.f1]] W fun e W' =>
      (e = .returned (.bool true) ∧ J (pre ++ [x]) W' ∧ KeepRow B V W W') ∨ (e = .returned (.bool false) ∧ Jx (pre ++ [x]) W'))
    (W : World) (hJ : AbidesFrom W.heap.size J) (hBs : W.cell? ⟨Bs, 0, none⟩ = some (.slice A xs.length c)) (hr : Kd.C k32 W A xs.length xs) (hc : xs.length ≤ c) (hB : B ≤ W.heap.size) (hV : V < W.heap.size) (hVo : ∀ i, ownAt V W = some i → i < W.heap.size) (h0 : J [] W) :
    CallsIn Fence.wide n Tryz.prog 47 #[.func (.yield l) #[] #[], .pointer (some ⟨Bs, 0, none⟩)] W fun e W' => (∃ v, e = .returned v) ∧
      ((∃ zs, zs = ys ∧ J zs W') ∨ (∃ pre, pre <+: ys ∧ Jx pre W')) := by
  refine callsIn_of_wp Tryz.func47 rfl trivial ?_ rfl
  simp only [Tryz.ntmps47, List.size_toArray, List.length_cons, List.length_nil, Nat.reduceAdd, Nat.reduceSub, Array.replicate_succ, Array.replicate_zero, List.push_toArray, List.append_toArray, List.nil_append, List.cons_append]
  have hmc := cpset_Make.calls k A c xs ys W hr hc hmk
  have H0 := Aside0.mk h0
  have h1 : 1 ≤ n := by omega
  have huS := Tryz.underlying24
  have huR := Tryz.underlying32
  clear h0 hr
  rcases Nat.eq_zero_or_pos ys.length with hz | hz
  · obtain rfl : ys = [] := List.eq_nil_of_length_eq_zero hz
    gi_wp2_with (refine ⟨trivial, ?_⟩; gi_at_call 18; refine (callsIn_wide.2 hmc).mono ?_; rintro e w1 ⟨v, rfl, hrow, hb1⟩; obtain ⟨A1, c1, rfl⟩ := row_nil hrow)
    have H1 := Aside0.mk (hJ [] _ _ none H0.out (grown_of_below hb1 none) (fun r e => by cases e))
    clear hmc
    gi_loopw [10] (fun i wr => i = .int .i64 0 ∧ Aside0 (J [] wr)) (fun _ _ => 0)
    case atStart => exact ⟨rfl, H1⟩
    case round =>
      obtain ⟨rfl, HJ⟩ := hrel
      gi_wp2
      go_end0
      exact ⟨⟨_, rfl⟩, .inl ⟨_, rfl, HJ.out⟩⟩
  · gi_wp2_with (refine ⟨trivial, ?_⟩; gi_at_call 18; refine (callsIn_wide.2 hmc).mono ?_; rintro e w1 ⟨v, rfl, hrow, hb1⟩; obtain ⟨hml, g, cap, cur, rfl, hg, hblk, hcells⟩ := row_block hrow hz; have hmx := Aside0.mk hml; clear hml)
    have H1 := Aside0.mk (hJ [] _ _ none H0.out (grown_of_below hb1 none) (fun r e => by cases e))
    have HV : ownAt V w1 ≠ some g := by
      unfold ownAt; rw [hb1.cell (p := ⟨V, 0, none⟩) hV]
      intro e; have := hVo g e; omega
    have hcs : Aside0 (∀ W' : World, KeepRow B V w1 W' → ∀ j (hj : j < ys.length), W'.cell? ⟨g, j * 2, none⟩ = some (.int .i64 ys[j].f0) ∧ W'.cell? ⟨g, j * 2 + 1, none⟩ = some (.int .i64 ys[j].f1)) :=
      Aside0.mk fun W' hk => hcells W' (hk.row (Nat.le_trans hB hg) hblk HV)
    have HKR : Aside0 (KeepRow B V w1 w1) := Aside0.mk (KeepRow.of_below (Nat.lt_of_lt_of_le hV hb1.size) (Below.refl _ _))
    have HL := hb1.size
    clear hmc hcells hrow
    gi_loopw [10] (fun i wr => ∃ m : Nat, m ≤ ys.length ∧ i = .int .i64 m ∧ Aside0 (J (ys.take m) wr) ∧ Aside0 (KeepRow B V w1 wr)) (fun i _ => ys.length - (intOf i).toNat)
    case atStart => exact ⟨0, Nat.zero_le _, rfl, H1, HKR⟩
    case round =>
      obtain ⟨m, hm, rfl, HJ, HK⟩ := hrel
      by_cases hlt : m < ys.length
      · obtain ⟨hc0, hc1⟩ := hcs.out wr HK.out m hlt
        have HJ1 := hJ _ _ _ none HJ.out (World.grownBy_alloc wr (.cells #[.int .i64 ys[m].f0, .int .i64 ys[m].f1] 32) none) (fun r e => by cases e)
        have HK1 : Aside0 (KeepRow B V w1 (wr.alloc (.cells #[.int .i64 ys[m].f0, .int .i64 ys[m].f1] 32))) :=
          Aside0.mk (HK.out.trans (KeepRow.of_below (Nat.lt_of_lt_of_le hV (Nat.le_trans HL HK.out.size)) ((Below.refl _ _).alloc (Nat.le_refl _) _)))
        have HT : ys.take m ++ [ys[m]] = ys.take (m + 1) := by rw [List.take_add_one, List.getElem?_eq_getElem hlt]; rfl
        obtain ⟨fn, tmps, assign, body, hy, hR⟩ := hY _ ys[m] _ HJ1 (by simp; omega)
        rw [HT] at hR
        clear HJ1 HT
        gi_wp2
        refine hR.mono ?_
        rintro e W3 (⟨rfl, hJ3, hk3⟩ | ⟨rfl, hJx3⟩)
        · have hwm : wrap64 ((m : Int) + 1) = ((m + 1 : Nat) : Int) := wrap_succ hlt hmx.out
          have HJ3 := Aside0.mk hJ3
          have HK3 := Aside0.mk (HK1.out.trans hk3)
          clear hJ3 hk3
          gi_wp2
          go_roundw
          case rel => exact ⟨m + 1, Nat.succ_le_of_lt hlt, congrArg (Value.int .i64) hwm, HJ3, HK3⟩
          case measure => rw [hwm]; exact wrap_meas hlt
        · gi_wp2
          refine bodyPost_ret (results_none rfl _ _ _) rfl ?_
          exact ⟨⟨_, rfl⟩, .inr ⟨_, List.take_prefix _ _, hJx3⟩⟩
      · obtain rfl : m = ys.length := by omega
        gi_wp2
        go_end0
        exact ⟨⟨_, rfl⟩, .inl ⟨_, rfl, by have := HJ.out; rwa [List.take_length] at this⟩⟩
theorem KeepRow.setInt {B V : Nat} {W : World} {v u : Value} (hc : W.cell? ⟨V, 0, none⟩ = some u) (hb : V < B) (hv : v.ownBlock = none) : KeepRow B V W (W.setCell ⟨V, 0, none⟩ v) := by
  have e : ownAt V (W.setCell ⟨V, 0, none⟩ v) = none := by
    unfold ownAt
    rw [World.cell?_setCell_same' _ _ _ (by rw [hc]; rfl)]; exact hv
  exact ⟨by simp [World.setCell], fun i _ _ ho => (by rw [e] at ho; cases ho), fun i cs t fr hB hi _ => (Below.heap_setCell W ⟨V, 0, none⟩ v i (by intro h; simp at h; omega)).trans hi⟩

theorem KeepRow.appended {W w1 : World} {n₀ B V : Nat} {t e : TypeId} {size : Nat} {v v' : Value} {k : Nat} {xs : List Value} {tmp : Obj}
    (hv : Boxed W V t v) (hte : t ≠ e) (hrow : W.ownsRow n₀ e size v k xs) (hB : V < B) (hgrow : (W.alloc tmp).grownBy w1 v.ownBlock) (hat : v'.ownBlock = v.ownBlock ∨ v'.ownBlock = some (W.alloc tmp).heap.size) :
    KeepRow B V W (w1.setCell ⟨V, 0, none⟩ v') := by
  have hv1 : Boxed w1 V t v := (hv.alloc tmp).kept hgrow (hv.not_row hte hrow)
  have e0 : ownAt V W = v.ownBlock := by unfold ownAt; rw [hv.cell]; rfl
  have e1 : ownAt V (w1.setCell ⟨V, 0, none⟩ v') = v'.ownBlock := by unfold ownAt; rw [(hv1.set v').cell]; rfl
  have hsz := hgrow.size
  simp only [World.size_alloc] at hsz hat
  refine ⟨by simp [World.setCell]; omega, fun i hi hlt ho => ?_, fun i cs t' fr hBi hi hn => ?_⟩
  · rw [e1] at ho; rw [e0]
    rcases hat with h | h
    · rw [← h]; exact ho
    · rw [h] at ho; injection ho with ho; omega
  · rw [e0] at hn
    have hlt := (Array.getElem?_eq_some_iff.1 hi).1
    rw [Below.heap_setCell w1 ⟨V, 0, none⟩ v' i (by intro h; simp at h; omega), hgrow.block i (by simp; omega) (fun h => hn h.symm)]
    exact (Below.heap_alloc W tmp i hlt).trans hi
theorem Boxed.below {W w1 : World} {B : Nat} {t : TypeId} {v : Value} (h : Boxed W B t v) (hb : Below W.heap.size W w1) : Boxed w1 B t v := (hb.block B h.lt).trans h
theorem ownsRow_below {W w1 : World} {base : Nat} {e : TypeId} {size : Nat} {v : Value} {k : Nat} {xs : List Value} (h : W.ownsRow base e size v k xs) (hb : Below W.heap.size W w1) : w1.ownsRow base e size v k xs := by
  refine ⟨h.1, ?_⟩
  rcases h.2 with h2 | ⟨g, cap, cur, rfl, hg, hgb, h3⟩
  · exact .inl h2
  · exact .inr ⟨g, cap, cur, rfl, hg, (hb.block g (Array.getElem?_eq_some_iff.1 hgb).1).trans hgb, h3⟩

theorem ranges_in (m : Nat) (v : Value) (w : World) :
    CallsIn Fence.wide m Tryz.prog 34 #[.agg #[v]] w fun e w' => e = .returned (.func (.func 47) #[] #[.pointer (some ⟨w.heap.size, 0, none⟩)]) ∧ w' = w.alloc (.cells #[v] 24) := by
  refine callsIn_of_wp Tryz.func34 rfl trivial ?_ rfl
  simp only [Tryz.ntmps34, List.size_toArray, List.length_cons, List.length_nil, Nat.reduceAdd, Nat.reduceSub, Array.replicate_succ, Array.replicate_zero, List.push_toArray, List.append_toArray, List.nil_append, List.cons_append]
  have huS := Tryz.underlying24
  gi_wp2
  go_ret
  exact ⟨rfl, rfl⟩

theorem ranges_stops (n : Nat) (hn : 2 ≤ n) (Bs B V k : Nat) (A : Option Addr) (c : Nat) (xs ys : List S32) (hmk : cpset_Make.f k xs = some ys) (w : World)
    (hBs : Bs < w.heap.size) (hcs : w.cell? ⟨Bs, 0, none⟩ = some (.slice A xs.length c)) (hr : Kd.C k32 w A xs.length xs) (hc : xs.length ≤ c) (hB : B ≤ w.heap.size) (hV : V < w.heap.size) (hVo : ∀ i, ownAt V w = some i → i < w.heap.size) :
    SeqStopsK Fence.wide n Tryz.prog 47 #[.pointer (some ⟨Bs, 0, none⟩)] (fun x : S32 => #[.agg #[.int .i64 x.f0, .int .i64 x.f1]]) (KeepRow B V) (fun zs => zs = ys) (fun pre => pre <+: ys) ys.length w := fun l J Jx W hW hJ _ hY h0 =>
  ranges1_in n hn l Bs B V k A c xs ys hmk J Jx hY W hJ ((hW.cell (p := ⟨Bs, 0, none⟩) hBs).trans hcs) (Kd.C_below hr hW) hc (Nat.le_trans hB hW.size) (Nat.lt_of_lt_of_le hV hW.size)
    (fun i h => Nat.lt_of_lt_of_le (hVo i (by unfold ownAt at h ⊢; rwa [hW.cell (p := ⟨V, 0, none⟩) hV] at h)) hW.size) h0
abbrev encP (x : S32) : Value := .agg #[.int .i64 x.f0, .int .i64 x.f1]
/-- A round's variable: a block of two cells. -/
def Pair (W : World) (B : Nat) (x : S32) : Prop := W.heap[B]? = some (.cells #[.int .i64 x.f0, .int .i64 x.f1] 32 (0, 0))
theorem Pair.cells {W : World} {B : Nat} {x : S32} (h : Pair W B x) : W.cell? ⟨B, 0, none⟩ = some (.int .i64 x.f0) ∧ W.cell? ⟨B, 1, none⟩ = some (.int .i64 x.f1) := by
  constructor <;> simp [World.cell?, show W.heap[B]? = _ from h]
theorem pair_own (B : Nat) : Own (fun (x : S32) W => Pair W B x) := fun x X Y row hs hg hrow =>
  (hg.block B (Array.getElem?_eq_some_iff.1 hs).1 (fun e => by obtain ⟨o, ho, hc⟩ := hrow B e.symm; rw [show X.heap[B]? = _ from hs] at ho; cases ho; cases hc)).trans hs
theorem Pair.below {W w1 : World} {B : Nat} {x : S32} (h : Pair W B x) (hb : Below W.heap.size W w1) : Pair w1 B x := (hb.block B (Array.getElem?_eq_some_iff.1 h).1).trans h
end Go.Proofs.YtpnkkhichkmmmaaGreatDoor.Q
