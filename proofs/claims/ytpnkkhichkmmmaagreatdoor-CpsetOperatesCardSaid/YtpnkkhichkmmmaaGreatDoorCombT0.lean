/-
  DERIVED. cpset.combine, told by hand. (Written by a small program of mine: the two rounds of its first loop are alike.)
-/
import Derived.Test.YtpnkkhichkmmmaaGreatDoorPairs
import Derived.Test.YtpnkkhichkmmmaaGreatDoorSortI
import Derived.Shelf.AbstractIn
namespace Go.Proofs.YtpnkkhichkmmmaaGreatDoor.Q
set_option linter.unusedVariables false
set_option linter.unusedSimpArgs false
open Go.RowKit Go.Proofs.YtpnkkhichkmmmaaGreatDoorW.PrintWords Go.Proofs.YtpnkkhichkmmmaaGreatDoorW.PrintLast Go.Proofs.YtpnkkhichkmmmaaGreatDoorW.PrintMore
open Go.Shelf
attribute [local go_sem] Oper.semAt_some
attribute [local go_sem] field_set field_lo field_hi

theorem infoI : (Tryz.prog.info? 3).map (fun i => (i.zero, i.size, i.bytes)) = some (some (.int .i64 0), 1, 8) := by kernel_rfl

theorem cells_own {β : Type} (B : Nat) (o : Obj) (ho : o.isCells = true) : Own (fun (_ : β) W => W.heap[B]? = some o) := fun x X Y row hs hg hrow =>
  (hg.block B (Array.getElem?_eq_some_iff.1 hs).1 (fun e => by obtain ⟨o', ho', hc⟩ := hrow B e.symm; rw [hs] at ho'; cases ho'; rw [ho] at hc; cases hc)).trans hs
theorem mark_own {β : Type} (D B : Nat) (o : Obj) (h : D < B) : OwnFrom B (fun (_ : β) W => W.heap[D]? = some o) := fun x X Y row hs hg hrow =>
  (hg.block D (Array.getElem?_eq_some_iff.1 hs).1 (fun e => by have := (hrow D e.symm).1; omega)).trans hs
/-- An append to a variable's own row leaves the blocks of other types. -/
theorem appended_other {W w1 : World} {n₀ V : Nat} {e : TypeId} {size : Nat} {v v' : Value} {k : Nat} {xs : List Value} {tmp : Obj}
    (hrow : W.ownsRow n₀ e size v k xs) (hgrow : (W.alloc tmp).grownBy w1 v.ownBlock) {i : Nat} {o : Obj} (hi : W.heap[i]? = some o) (ho : ∀ cs fr, o ≠ .cells cs e fr) (hne : i ≠ V) :
    (w1.setCell ⟨V, 0, none⟩ v').heap[i]? = some o := by
  have hlt := (Array.getElem?_eq_some_iff.1 hi).1
  have hne2 : some i ≠ v.ownBlock := by
    rcases hrow.2 with ⟨rfl, _⟩ | ⟨g, cap, cur, rfl, _, hgb, _⟩
    · simp [Value.ownBlock]
    · intro e'
      obtain rfl : i = g := by simpa [Value.ownBlock] using e'
      rw [hgb] at hi; injection hi with hi
      exact ho _ _ hi.symm
  rw [Below.heap_setCell w1 ⟨V, 0, none⟩ v' i (by intro h; simp at h; omega), hgrow.block i (by simp; omega) hne2]
  exact (Below.heap_alloc W tmp i hlt).trans hi
theorem wrap_zy {m L : Nat} {z : Int} (h : m + 1 ≤ L) (hL : L ≤ 7036874417764) (hz : z = (m : Int) + 1) : wrap64 (z - 1) = z - 1 := by unfold wrap64; omega
theorem lt_z {m L n : Nat} {z : Int} (h : m + 1 < L) (hL : L = n) (hz : z = (m : Int) + 1) : z < (n : Int) := by omega
theorem lt_y {m L n : Nat} {y : Int} (h : m + 1 < L) (hL : L = n) (hy : y = (m : Int)) : y < (n : Int) := by omega
theorem wrap_z1 {m L : Nat} {z : Int} (h : m + 1 < L) (hL : L ≤ 7036874417764) (hz : z = (m : Int) + 1) : wrap64 (z + 1) = z + 1 := by unfold wrap64; omega
theorem meas_z {m L : Nat} {z : Int} (hz : z = (m : Int) + 1) (h : m + 1 < L) : L - (intOf (.int .i64 (z + 1))).toNat < L - (intOf (.int .i64 z)).toNat := by
  simp only [intOf]; omega
theorem out_fits (kf : Bool → Bool → Bool) (ya yb : List S32) (l : List Int) {L : Nat} (h : l.length ≤ L) (hL : L ≤ 7036874417764) : (pairL kf ya yb l).length + 1 ≤ maxLen ∧ ((pairL kf ya yb l).length + 1) * 16 ≤ 140737488355328 := by
  have := pairL_len kf ya yb l
  unfold maxLen
  omega
theorem below_then {W X Y : World} (h : Below W.heap.size W X) (k : Below X.heap.size X Y) : Below W.heap.size W Y := h.trans (k.mono h.size)
theorem alloc_le {W X : World} {o : Obj} (h : Below W.heap.size W X) : W.heap.size ≤ (X.alloc o).heap.size := by have := h.size; simp; omega
theorem below_app {W X Y : World} {e : TypeId} {size k : Nat} {v : Value} {xs : List Value} {tmp : Obj} (h : Below W.heap.size W X) (hr : X.ownsRow W.heap.size e size v k xs) (hg : (X.alloc tmp).grownBy Y v.ownBlock) : Below W.heap.size W Y := by
  refine (h.alloc h.size tmp).grown hg (by have := h.size; simp; omega) (fun j ej => ?_)
  rcases hr.2 with ⟨rfl, _⟩ | ⟨g, cap, cur, rfl, hb, _, _⟩
  · simp [Value.ownBlock] at ej
  · obtain rfl : g = j := by simpa [Value.ownBlock] using ej
    exact hb
theorem row_lt {W : World} {n₀ g n cap : Nat} {e : TypeId} {size k : Nat} {xs : List Value} (h : W.ownsRow n₀ e size (.slice (some ⟨g, 0, none⟩) n cap) k xs) : g < W.heap.size := by
  rcases h.2 with ⟨h, _⟩ | ⟨g', _, _, e, _, hgb, _⟩
  · cases h
  · injection e with e1; injection e1 with e1; injection e1 with e1; subst e1; exact (Array.getElem?_eq_some_iff.1 hgb).1
theorem ints_cells {W : World} {n₀ g n cap : Nat} {ss : List Int} (hll : ss.length = n) (h : W.ownsRow n₀ 3 1 (.slice (some ⟨g, 0, none⟩) n cap) n (iV ss)) : ∀ j (hj : j < ss.length), W.cell? ⟨g, j, none⟩ = some (.int .i64 ss[j]) := by
  intro j hj
  rcases h.2 with ⟨h, _⟩ | ⟨g', cap', cur, e, _, hb, _, _, _, h4⟩
  · cases h
  injection e with e1; injection e1 with e1; injection e1 with e1; subst e1
  have e0 : (iV ss)[j]? = some (.int .i64 ss[j]) := by simp [hj]
  rw [← h4, Nat.mul_one, List.getElem?_take_of_lt (by omega), Array.getElem?_toList] at e0
  simp only [World.cell?, hb, Option.isSome_none, Bool.false_eq_true, if_false]
  exact e0
theorem grown_other {W X : World} {n₀ g n cap : Nat} {e : TypeId} {size : Nat} {k : Nat} {xs : List Value} (hrow : W.ownsRow n₀ e size (.slice (some ⟨g, 0, none⟩) n cap) k xs) (hg : W.grownBy X (some g)) {i : Nat} {o : Obj} (hi : W.heap[i]? = some o) (ho : ∀ cs fr, o ≠ .cells cs e fr) : X.heap[i]? = some o := by
  refine (hg.block i (Array.getElem?_eq_some_iff.1 hi).1 (fun e' => ?_)).trans hi
  injection e' with e'
  subst e'
  rcases hrow.2 with ⟨h, _⟩ | ⟨g', _, cur, he, _, hgb, _⟩
  · cases h
  · injection he with e1; injection e1 with e1; injection e1 with e1; subst e1
    rw [hgb] at hi; injection hi with hi
    exact ho _ _ hi.symm
theorem Below.heapEq {W X : World} {i : Nat} {o : Obj} (h : Below W.heap.size W X) (hi : W.heap[i]? = some o) : X.heap[i]? = some o := (h.block i (Array.getElem?_eq_some_iff.1 hi).1).trans hi

theorem act_named {c : Code} {F : Fence} {n : Nat} {P : Program} {Q : Exit → Act → World → Prop} {a : Act} {w : World} (h : ∀ T : Array Value, T = a.tmps → c.wpIn F n P Q a w) : c.wpIn F n P Q a w := h _ rfl
/-- What combine holds beside the cuts. -/
structure CBase (h : Nat) (w : World) (sa sb : Value) (W : World) : Prop where
  a : W.heap[h]? = some (.cells #[sa] 24 (0, 0))
  b : W.heap[h + 1]? = some (.cells #[sb] 24 (0, 0))
  o : W.heap[h + 1 + 1]? = some (.cells #[.slice none 0 0] 24 (0, 0))
  l : W.heap[h + 1 + 1 + 1 + 1 + 1]? = some (.cells #[sa, sb] 24 (0, 0))
  below : Below w.heap.size w W
theorem CBase.step {h : Nat} {w : World} {sa sb : Value} {W X : World} (c : CBase h w sa sb W) (hh : h = w.heap.size) (hb : Below W.heap.size W X) : CBase h w sa sb X :=
  ⟨Below.heapEq hb c.a, Below.heapEq hb c.b, Below.heapEq hb c.o, Below.heapEq hb c.l, c.below.trans (hb.mono c.below.size)⟩
theorem CBase.own {β : Type} {h : Nat} {w : World} {sa sb : Value} {B : Nat} (hB : w.heap.size ≤ B) : OwnFrom B (fun (_ : β) W => CBase h w sa sb W) := fun x X Y row hs hg hr =>
  have hr' : ∀ r, row = some r → ∃ o : Obj, X.heap[r]? = some o ∧ o.isCells = false := fun r e => (hr r e).2
  ⟨cells_own (β := Unit) _ _ rfl () X Y row hs.a hg hr', cells_own (β := Unit) _ _ rfl () X Y row hs.b hg hr', cells_own (β := Unit) _ _ rfl () X Y row hs.o hg hr', cells_own (β := Unit) _ _ rfl () X Y row hs.l hg hr',
   ownFrom_below (β := Unit) (Nat.le_refl _) hB () X Y row hs.below hg hr⟩
def CutsAt (h : Nat) (zs : List Int) (W : World) : Prop := ∃ v, Boxed W (h + 1 + 1 + 1 + 1) 55 v ∧ W.ownsRow h 3 1 v zs.length (iV zs) ∧ True
theorem CutsAt.step {h : Nat} {zs : List Int} {W X : World} (c : CutsAt h zs W) (hb : Below W.heap.size W X) : CutsAt h zs X := by
  obtain ⟨v, h1, h2, _⟩ := c
  exact ⟨v, Boxed.below h1 hb, ownsRow_below h2 hb, trivial⟩
theorem CutsAt.own {h : Nat} (zs : List S32 → List Int) : Own (fun pre W => CutsAt h (zs pre) W) :=
  holdsRow_own h (h + 1 + 1 + 1 + 1) 55 3 1 (fun pre => (zs pre).length) (fun pre => iV (zs pre)) (fun _ _ => True)
theorem CutsAt.at {h : Nat} {zs : List Int} {W : World} (c : CutsAt h zs W) : ∀ i, ownAt (h + 1 + 1 + 1 + 1) W = some i → i < W.heap.size := by
  obtain ⟨v, h1, h2, _⟩ := c
  intro i hi
  unfold ownAt at hi
  rw [h1.cell] at hi
  rcases h2.2 with ⟨rfl, _⟩ | ⟨g, cap, cur, rfl, _, hgb, _⟩
  · cases hi
  · obtain rfl : g = i := by simpa [Value.ownBlock] using hi
    exact (Array.getElem?_eq_some_iff.1 hgb).1

theorem p_old {h : Array Obj} {o x : Obj} {i : Nat} (e : h[i]? = some x) : (h.push o)[i]? = some x := by
  rw [Array.getElem?_push, if_neg (by have := (Array.getElem?_eq_some_iff.1 e).1; omega)]; exact e
theorem p_new {h : Array Obj} {o : Obj} {i : Nat} (e : i = h.size) : (h.push o)[i]? = some o := by subst e; simp
theorem comb_start (w : World) (a b p : Value) (o0 o1 : Obj) (ho : o0 = .cells #[a, b] 24 (0, 0)) (ho1 : o1 = .cells #[.int .i64 0, .int .i64 1114112] 3 (0, 0)) :
    (((((((w.alloc (.cells #[a] 24)).alloc (.cells #[b] 24)).alloc (.cells #[.slice none 0 0] 24)).alloc o1).alloc (.cells #[p] 55)).alloc o0).heap[w.heap.size]? = some (.cells #[a] 24 (0, 0))) ∧
    (((((((w.alloc (.cells #[a] 24)).alloc (.cells #[b] 24)).alloc (.cells #[.slice none 0 0] 24)).alloc o1).alloc (.cells #[p] 55)).alloc o0).heap[w.heap.size + 1]? = some (.cells #[b] 24 (0, 0))) ∧
    (((((((w.alloc (.cells #[a] 24)).alloc (.cells #[b] 24)).alloc (.cells #[.slice none 0 0] 24)).alloc o1).alloc (.cells #[p] 55)).alloc o0).heap[w.heap.size + 1 + 1]? = some (.cells #[.slice none 0 0] 24 (0, 0))) ∧
    (((((((w.alloc (.cells #[a] 24)).alloc (.cells #[b] 24)).alloc (.cells #[.slice none 0 0] 24)).alloc o1).alloc (.cells #[p] 55)).alloc o0).heap[w.heap.size + 1 + 1 + 1]? = some o1) ∧
    (((((((w.alloc (.cells #[a] 24)).alloc (.cells #[b] 24)).alloc (.cells #[.slice none 0 0] 24)).alloc o1).alloc (.cells #[p] 55)).alloc o0).heap[w.heap.size + 1 + 1 + 1 + 1]? = some (.cells #[p] 55 (0, 0))) ∧
    (((((((w.alloc (.cells #[a] 24)).alloc (.cells #[b] 24)).alloc (.cells #[.slice none 0 0] 24)).alloc o1).alloc (.cells #[p] 55)).alloc o0).heap[w.heap.size + 1 + 1 + 1 + 1 + 1]? = some o0) :=
  ⟨p_old (p_old (p_old (p_old (p_old (p_new rfl))))), p_old (p_old (p_old (p_old (p_new (by simp))))), p_old (p_old (p_old (p_new (by simp)))), p_old (p_old (p_new (by simp))), p_old (p_new (by simp)), p_new (by simp)⟩
def tlC : Code → Code
  | .seq _ b => b
  | c => c
def hdC : Code → Code
  | .seq a _ => a
  | c => c
def inB : Code → Code
  | .block _ c => c
  | .loop c => c
  | c => c
noncomputable def combTail : Code := tlC (tlC (tlC (tlC (tlC (Tryz.f22.body.getD Code.skip)))))
theorem no_fn {F : Fence} : ∀ f : FuncId, none = some f → F.fn f := fun _ h => by cases h
theorem comb_row {w W5 wr w1 : World} {r : List S32} {A2 : Option Addr} {c2 D0 D1 : Nat} (h : Kd.R k32 32 w1 wr.heap.size (fun _ => True) (.slice A2 r.length c2) r) (hb : Below wr.heap.size wr w1) (h5 : W5.heap.size ≤ wr.heap.size) (hw : w.heap.size ≤ W5.heap.size) (hlt : w.heap.size + 1 + 1 < W5.heap.size)
    (hM1 : (w1.setCell ⟨w.heap.size + 1 + 1, 0, none⟩ (.slice A2 r.length c2)).heap[D1]? = some (.deferred (some []))) (hM0 : ((w1.setCell ⟨w.heap.size + 1 + 1, 0, none⟩ (.slice A2 r.length c2)).putObj D1 (.deferred none)).heap[D0]? = some (.deferred (some []))) :
    Kd.R k32 32 (((w1.setCell ⟨w.heap.size + 1 + 1, 0, none⟩ (.slice A2 r.length c2)).putObj D1 (.deferred none)).putObj D0 (.deferred none)) w.heap.size (fun _ => True) (.slice A2 r.length c2) r := by
  obtain ⟨_, inner, hown, hreps⟩ := k32_R.1 h
  refine k32_R.2 ⟨fun _ _ => trivial, inner, ?_, hreps⟩
  have hown2 : w1.ownsRow w.heap.size 32 2 (.slice A2 r.length c2) r.length inner := by
    refine ⟨hown.1, ?_⟩
    rcases hown.2 with h | ⟨g, cap, cur, e, hg, k⟩
    · exact .inl h
    · exact .inr ⟨g, cap, cur, e, by omega, k⟩
  have hown3 := hown2.kept (grownBy_setCell' w1 (w.heap.size + 1 + 1) (.slice A2 r.length c2)) (by
    rcases hown.2 with ⟨h, _⟩ | ⟨g, cap, cur, e, hg, _⟩
    · exact .inl (by rw [h]; rfl)
    · right
      rw [e]
      intro hh
      simp [Value.ownBlock] at hh
      omega)
  exact ownsRow_putObj (ownsRow_putObj hown3 _ hM1 rfl) _ hM0 rfl
theorem comb_below {w W5 wr w1 : World} {D0 D1 : Nat} (h5 : Below w.heap.size w W5) (hr : Below W5.heap.size W5 wr) (h1 : Below wr.heap.size wr w1) {v : Value}
    (hM1 : (w1.setCell ⟨w.heap.size + 1 + 1, 0, none⟩ v).heap[D1]? = some (.deferred (some []))) (hM0 : ((w1.setCell ⟨w.heap.size + 1 + 1, 0, none⟩ v).putObj D1 (.deferred none)).heap[D0]? = some (.deferred (some []))) (_ : Value) (hd0 : w.heap.size ≤ D0) (hd1 : w.heap.size ≤ D1) :
    Below w.heap.size w (((w1.setCell ⟨w.heap.size + 1 + 1, 0, none⟩ v).putObj D1 (.deferred none)).putObj D0 (.deferred none)) := by
  have e1 := (below_then (below_then h5 hr) h1).setCell (p := ⟨w.heap.size + 1 + 1, 0, none⟩) (by simp; omega) v
  have e2 := e1.trans (belowK_b (w := w) (Nat.le_refl _) _ D1 _ (.deferred none) hd1 hM1 rfl rfl)
  exact e2.trans (belowK_b (w := w) (Nat.le_refl _) _ D0 _ (.deferred none) hd0 hM0 rfl rfl)
noncomputable def combC16 : Code := tlC (inB (hdC (tlC (inB (inB (tlC (hdC (tlC combTail))))))))
end Go.Proofs.YtpnkkhichkmmmaaGreatDoor.Q
