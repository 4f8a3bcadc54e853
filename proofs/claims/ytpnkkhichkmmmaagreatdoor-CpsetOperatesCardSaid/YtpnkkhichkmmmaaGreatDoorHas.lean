/-
  DERIVED. cpset.finder's closure (over sort.Search), cpset.Has.
-/
import Derived.Test.YtpnkkhichkmmmaaGreatDoorColl
import Derived.Test.YtpnkkhichkmmmaaGreatDoorLaySearch
namespace Go.Proofs.YtpnkkhichkmmmaaGreatDoor.Q
set_option linter.unusedVariables false
set_option linter.unusedSimpArgs false
open Go.RowKit Go.Proofs.YtpnkkhichkmmmaaGreatDoorW.PrintWords Go.Proofs.YtpnkkhichkmmmaaGreatDoorW.PrintLast Go.Proofs.YtpnkkhichkmmmaaGreatDoorW.PrintMore
open Go.Shelf Go.Lib Go.Sort
attribute [local go_sem] field_set field_lo field_hi

def cntB (ys : List S32) (c : Int) : Nat := ys.countP fun y => !decide (c ≤ y.f1)
def hasB (ys : List S32) (c : Int) : Bool := if cntB ys c < ys.length then decide ((ys.getD (cntB ys c) z32).f0 ≤ c) else false

theorem finder_cells {W : World} {A : Option Addr} {ys : List S32} (h : Kd.C k32 W A ys.length ys) (i : Nat) (hi : i < ys.length) :
    ∃ ad : Addr, A = some ad ∧ W.cell? (ad.add (i * 2)) = some (.int .i64 (ys.getD i z32).f0) ∧ W.cell? ⟨(ad.add (i * 2)).block, (ad.add (i * 2)).off + 1, none⟩ = some (.int .i64 (ys.getD i z32).f1) := by
  obtain ⟨ad, c, hA, hc, hK, hcell⟩ := Kd.C_get h z32 (i : Int) (by omega) (by omega)
  have e := k32_open hK
  rw [Int.toNat_natCast] at e hcell
  have h0 := hcell 0 _ (by rw [e]; rfl)
  have h1 := hcell 1 _ (by rw [e]; rfl)
  have e2 : (ad.add (i * 2)).block = ad.block ∧ (ad.add (i * 2)).off = ad.off + i * 2 := by
    unfold Addr.add; split <;> simp_all
  refine ⟨ad, hA, h0, ?_⟩
  rw [e2.1, e2.2]
  have e3 : ad.add (i * 2 + 1) = ⟨ad.block, ad.off + i * 2 + 1, none⟩ := by rw [Addr.add_succ', Nat.add_assoc]
  rw [← e3]; exact h1

set_option maxRecDepth 100000 in
set_option maxHeartbeats 4000000 in
theorem finder11_in (lb cb : Nat) (A : Option Addr) (cap : Nat) (ys : List S32) (c : Int) (i : Nat) (W : World) (hi : i < ys.length) (hl : W.cell? ⟨lb, 0, none⟩ = some (.slice A ys.length cap)) (hc : W.cell? ⟨cb, 0, none⟩ = some (.int .i64 c)) (hC : Kd.C k32 W A ys.length ys) :
    Calls Tryz.prog 56 (#[.int .i64 i] ++ #[.pointer (some ⟨lb, 0, none⟩), .pointer (some ⟨cb, 0, none⟩)]) W fun e w' => e = .returned (.bool (decide (c ≤ (ys.getD i z32).f1))) ∧ ∃ q, w' = W.drewN q := by
  obtain ⟨ad, rfl, h0, h1⟩ := finder_cells hC i hi
  generalize (ys.getD i z32).f1 = y at h1 ⊢
  clear h0 hC
  have hiz : (i : Int) < (ys.length : Int) := by omega
  have huR := Tryz.underlying32
  go_enter Tryz.func56, Tryz.ntmps56
  go_wp2
  go_region
  all_goals go_wp2
  all_goals go_ret
  all_goals exact ⟨by first | rfl | simp, 1, rfl⟩

theorem countP_range' (ys : List S32) (c : Int) : (List.range ys.length).countP (fun i => !decide (c ≤ (ys.getD i z32).f1)) = cntB ys c := by
  have h : ys = (List.range ys.length).map (fun i => ys.getD i z32) := by
    apply List.ext_getElem
    · simp
    · intro i h1 h2
      simp [h1]
  unfold cntB
  conv => rhs; rw [h]
  rw [List.countP_map]
  rfl

set_option maxRecDepth 100000 in
set_option maxHeartbeats 4000000 in
theorem finder1_in (lb : Nat) (ys : List S32) (c : Int) (w : World) (hF : Finder w lb ys) (hs : ys.Pairwise fun a b => a.f1 ≤ b.f1) (hsz : ys.length < 4611686018427387904) :
    Calls Tryz.prog 54 #[.int .i64 c, .pointer (some ⟨lb, 0, none⟩)] w fun e w' => e = .returned (.bool (hasB ys c)) ∧ Below w.heap.size w w' := by
  obtain ⟨A, cap, hb, hcap, hC⟩ := hF
  obtain ⟨W0, hW0⟩ : ∃ W0, W0 = w.alloc (.cells #[.int .i64 c] 3) := ⟨_, rfl⟩
  have hB0 : Below w.heap.size w W0 := by rw [hW0]; exact (Below.refl _ w).alloc (Nat.le_refl _) _
  have hsize : W0.heap.size = w.heap.size + 1 := by rw [hW0]; simp
  have hlb := hb.lt
  have ca : W0.cell? ⟨lb, 0, none⟩ = some (.slice A ys.length cap) := (Boxed.below hb hB0).cell
  have cx : W0.cell? ⟨w.heap.size, 0, none⟩ = some (.int .i64 c) := by rw [hW0]; exact (Boxed.new w 3 _).cell
  have hC0 := Kd.C_below hC hB0
  have eg : ∀ args w, (callFunc 56 args).run Tryz.prog w = .ok (.enter 56 args) w := enters_of Tryz.func56 (by kernel_rfl) rfl
  have hS := Any.sort_Search Tryz.search 56 #[.pointer (some ⟨lb, 0, none⟩), .pointer (some ⟨w.heap.size, 0, none⟩)] ys.length (fun i => decide (c ≤ (ys.getD i z32).f1)) W0 eg hsz
    (fun m os i hi => (finder11_in lb w.heap.size A cap ys c i _ hi (cell_grown (by simp [hsize]; omega) ca m os) (cell_grown (by simp [hsize]) cx m os) (Kd.C_below hC0 (below_grown_sl _ W0 m os (Nat.le_refl _)))).mono
      fun _ _ ⟨he, q, hq⟩ => ⟨he, q, #[], by rw [hq, grow_empty]⟩)
    (fun a b hab hb h => by
      have hm : (ys.getD a z32).f1 ≤ (ys.getD b z32).f1 := by
        rcases Nat.lt_or_eq_of_le hab with h1 | rfl
        · have := List.pairwise_iff_getElem.1 hs a b (by omega) hb h1
          simpa [show a < ys.length by omega, hb] using this
        · exact Int.le_refl _
      simp only [decide_eq_true_eq] at h ⊢
      omega)
  rw [countP_range'] at hS
  change Calls Tryz.prog 55 _ _ _ at hS
  have hCN : cntB ys c ≤ ys.length := List.countP_le_length
  have hlbW : lb < W0.heap.size := by omega
  have HC1 := Aside0.mk (fun W (hW : RowKit.Below W0.heap.size W0 W) (hlt : cntB ys c < ys.length) => finder_cells (Kd.C_below hC0 hW) _ hlt)
  clear hC hC0
  unfold hasB
  by_cases hlt : cntB ys c < ys.length
  · rw [if_pos hlt]
    generalize (ys.getD (cntB ys c) z32).f0 = y0 at HC1 ⊢
    generalize cntB ys c = r at *
    have hr1 : (r : Int) < (ys.length : Int) := by omega
    have ca' := ca
    have cx' := cx
    rw [hW0] at ca' cx'
    go_enter Tryz.func54, Tryz.ntmps54
    go_wp2_with (go_at_call 55; rw [← hW0]; refine hS.mono ?_; rintro e w' ⟨rfl, q, os, rfl⟩; have hb2 := below_grown_sl W0.heap.size W0 q os (Nat.le_refl _); generalize grow (W0.drewN q) os = w2 at hb2 ⊢; have ca2 := (hb2.cell (p := ⟨lb, 0, none⟩) hlbW).trans ca; have cx2 := (hb2.cell (p := ⟨w.heap.size, 0, none⟩) (by show w.heap.size < W0.heap.size; omega)).trans cx; obtain ⟨ad, rfl, hd0, hd1⟩ := HC1.out w2 hb2 hlt)
    clear HC1 ca ca' cx cx' hb hd1
    go_region
    all_goals go_wp2
    all_goals go_ret
    all_goals exact ⟨by first | rfl | simp, below_drew (hB0.trans (hb2.mono (by omega)))⟩
  · rw [if_neg hlt]
    have hr0 : cntB ys c = ys.length := by omega
    rw [hr0] at hS
    have hr1 : ¬ ((ys.length : Int) < (ys.length : Int)) := by omega
    have ca' := ca
    have cx' := cx
    rw [hW0] at ca' cx'
    go_enter Tryz.func54, Tryz.ntmps54
    go_wp2_with (go_at_call 55; rw [← hW0]; refine hS.mono ?_; rintro e w' ⟨rfl, q, os, rfl⟩; have hb2 := below_grown_sl W0.heap.size W0 q os (Nat.le_refl _); generalize grow (W0.drewN q) os = w2 at hb2 ⊢; have ca2 := (hb2.cell (p := ⟨lb, 0, none⟩) hlbW).trans ca; have cx2 := (hb2.cell (p := ⟨w.heap.size, 0, none⟩) (by show w.heap.size < W0.heap.size; omega)).trans cx)
    clear HC1 ca ca' cx cx' hb
    go_region
    all_goals go_wp2
    all_goals go_ret
    all_goals exact ⟨by first | rfl | simp, below_drew (hB0.trans (hb2.mono (by omega)))⟩

end Go.Proofs.YtpnkkhichkmmmaaGreatDoor.Q
