/-
  DERIVED. cpset.Text, told by hand: a loop over cpset.ranges that collects strings.
-/
import Derived.Test.YtpnkkhichkmmmaaGreatDoorRanges
import Derived.Test.YtpnkkhichkmmmaaGreatDoorHex
import Derived.Test.YtpnkkhichkmmmaaGreatDoorStr
namespace Go.Proofs.YtpnkkhichkmmmaaGreatDoor.Q
set_option linter.unusedVariables false
set_option linter.unusedSimpArgs false
open Go.RowKit Go.Proofs.YtpnkkhichkmmmaaGreatDoorW.PrintWords Go.Proofs.YtpnkkhichkmmmaaGreatDoorW.PrintLast Go.Proofs.YtpnkkhichkmmmaaGreatDoorW.PrintMore
open Go.Shelf
attribute [local go_sem] Oper.semAt_some
attribute [local go_sem] field_set field_lo field_hi

def hexB (c : Int) : ByteArray := if 0 ≤ c ∧ c ≤ 1114111 then ⟨(hexL 7 c.toNat []).toArray⟩ else ⟨#[]⟩
theorem hexL_len : ∀ (f c : Nat) (acc : List UInt8), (hexL f c acc).length ≤ f + acc.length
  | 0, _, _ => by simp [hexL]
  | f + 1, c, acc => by
    unfold hexL
    split
    · have := hexL_len f (c / 16) (hexDig (c % 16) :: acc)
      simp at this; omega
    · omega
theorem hexB_size (c : Int) : (hexB c).size ≤ 7 := by
  unfold hexB
  split
  · exact hexL_len 7 c.toNat []
  · show 0 ≤ 7
    omega
theorem hexB_calls (c : Int) (w : World) : Calls Tryz.prog 35 #[.int .i64 c] w fun e w' => e = .returned (.string (hexB c)) ∧ Below w.heap.size w w' := codepoint_Hex.calls c (hexB c) w rfl
def partB (r : S32) : ByteArray := if r.f1 = r.f0 then hexB r.f0 else hexB r.f0 ++ (⟨#[46, 46]⟩ ++ hexB r.f1)
def partV (pre : List S32) : List Value := (pre.map partB).map Value.string
theorem partV_snoc (pre : List S32) (x) : partV (pre ++ [x]) = partV pre ++ [.string (partB x)] := by simp [partV]
theorem infoStr : (Tryz.prog.info? 9).map (fun i => (i.zero, i.size, i.bytes)) = some (some (.string ⟨#[]⟩), 1, 16) := by kernel_rfl

set_option maxRecDepth 100000 in
set_option maxHeartbeats 4000000 in
theorem Text_in (k : Nat) (A : Option Addr) (c : Nat) (l ys : List S32) (w : World) (hr : Kd.C k32 w A l.length l) (hc : l.length ≤ c) (hmk : cpset_Make.f k l = some ys) (hys : ys.length < 8796093022208) (r : ByteArray) (hj : strings_Join.f (ys.map partB) ⟨#[32]⟩ = some r) :
    Calls Tryz.prog 20 #[.agg #[.slice A l.length c]] w fun e w' => e = .returned (.string r) ∧ Below w.heap.size w w' := by
  refine (callsIn_wide (n := 6)).1 ?_
  have h1 : 1 ≤ 6 := by omega
  obtain ⟨i0, hi, hz0, hz1, hz2⟩ := info_parts infoStr
  refine callsIn_of_wp_marks Tryz.func20 rfl trivial ?_ rfl
  simp only [Tryz.ntmps20, List.size_toArray, List.length_cons, List.length_nil, Nat.reduceAdd, Nat.reduceSub, Array.replicate_succ, Array.replicate_zero, List.push_toArray, List.append_toArray, List.nil_append, List.cons_append]
  have huS := Tryz.underlying24
  have huR := Tryz.underlying32
  gi_wp2_with (refine ⟨trivial, ?_⟩; gi_at_call 34; refine (ranges_in _ _ _).mono ?_; rintro e w' ⟨rfl, rfl⟩)
  have bN := (Boxed.new (w.alloc (.cells #[.slice A l.length c] 24)) 44 (.slice none 0 0)).alloc (.cells #[.slice A l.length c] 24)
  have bR := Boxed.new ((w.alloc (.cells #[.slice A l.length c] 24)).alloc (.cells #[.slice none 0 0] 44)) 24 (.slice A l.length c)
  simp only [World.size_alloc] at bN bR
  have hB0 : Below w.heap.size w (((w.alloc (.cells #[.slice A l.length c] 24)).alloc (.cells #[.slice none 0 0] 44)).alloc (.cells #[.slice A l.length c] 24)) := (((Below.refl _ w).alloc (Nat.le_refl _) _).alloc (by simp) _).alloc (by simp; omega) _
  have hsz : (((w.alloc (.cells #[.slice A l.length c] 24)).alloc (.cells #[.slice none 0 0] 44)).alloc (.cells #[.slice A l.length c] 24)).heap.size = w.heap.size + 3 := by simp
  obtain ⟨W0, hW0⟩ : ∃ W0, ((w.alloc (.cells #[.slice A l.length c] 24)).alloc (.cells #[.slice none 0 0] 44)).alloc (.cells #[.slice A l.length c] 24) = W0 := ⟨_, rfl⟩
  rw [hW0] at bN bR hB0 hsz ⊢
  clear hW0
  refine wpIn_rangeFunc_ownH rfl h1 (gf := 47) (lb := #[.pointer (some ⟨w.heap.size + 1 + 1, 0, none⟩)]) rfl trivial (enters_of Tryz.func47 (by kernel_rfl) rfl)
    (ranges_stops 5 (by omega) (w.heap.size + 1 + 1) (w.heap.size + 3) (w.heap.size + 1) k A c l ys hmk W0 (by omega) bR.cell (Kd.C_below hr hB0) hc (by omega) (by omega) (fun i hi => by unfold ownAt at hi; rw [bN.cell] at hi; cases hi)) KeepRow.trans (KeepRow.bound W0 (by omega)) (Below.refl _ _) (fun _ => rfl)
    (fun pre W => (∃ v, Boxed W (w.heap.size + 1) 44 v ∧ W.ownsRow w.heap.size 9 1 v pre.length (partV pre) ∧ True) ∧ Below w.heap.size w W)
    (fun _ _ _ => False)
    (OwnFrom.and (Own.from (holdsRow_own w.heap.size (w.heap.size + 1) 44 9 1 (fun pre => pre.length) partV (fun _ _ => True)) _) (ownFrom_below (Nat.le_refl _) (by omega)))
    (fun _ _ _ _ _ hs _ _ => hs)
    ⟨⟨_, bN, World.ownsRow_nil _ _ _ _, trivial⟩, hB0⟩
    (fun x a' W => ∃ Bx, Pair W Bx x ∧ a' = { tmps := #[.agg #[.slice A l.length c], .pointer (some ⟨w.heap.size, 0, none⟩), .string ⟨#[]⟩, .pointer (some ⟨w.heap.size + 1, 0, none⟩), .pointer (some ⟨Bx, 0, none⟩), undef, .agg #[.slice A l.length c], .func (.func 47) #[] #[.pointer (some ⟨w.heap.size + 1 + 1, 0, none⟩)], encP x, undef, undef, undef, undef, undef, undef, undef, undef, undef, undef, undef, undef, undef, undef, undef, undef, undef, undef, undef, undef], defers := [] })
    (fun x a' _ X Y row hs hg hr => by obtain ⟨Bx, h2, h3⟩ := hs; exact ⟨Bx, pair_own Bx x X Y row h2 hg (fun r e => (hr r e).2), h3⟩)
    ?assign ?body ?done ?stop
  case assign =>
    rintro l pre x W K ⟨⟨v, bN1, hrow, _⟩, hB1⟩ hK
    gi_wp2
    exact hK _ _ ((KeepsOthers.alloc _ _).from _) (KeepRow.of_below bN1.lt ((Below.refl _ W).alloc (Nat.le_refl _) _)) ⟨⟨v, bN1.alloc _, hrow.alloc _, trivial⟩, hB1.alloc hB1.size _⟩ ⟨W.heap.size, World.alloc_heap_new W _, rfl⟩
  case body =>
    rintro l' pre x a' W hl ⟨r, hr⟩ ⟨⟨v, bN1, hrow, _⟩, hB1⟩ ⟨Bx, bX, rfl⟩ hlt
    obtain ⟨cX0, cX1⟩ := bX.cells
    have h1' : 1 ≤ 6 - 1 - 1 := by omega
    have bX0 := bX
    have bN0 := bN1
    have hrow0 := hrow
    have hbW := bN1.lt
    have hfl1 : True := trivial
    clear bX hrow bN1
    by_cases hx : x.f1 = x.f0
    · have hp : partB x = hexB x.f0 := if_pos hx
      have hd : (x.f1 != x.f0) = false := by simp [hx]
      clear hx
      gi_wp2_with (first | (clear hfl1; refine ⟨trivial, ?_⟩; gi_at_call 35; refine (CallsIn.inRound l' (callsIn_wide.2 (hexB_calls _ _))).mono ?_; rintro e w1 ⟨rfl, hb1⟩; have bX1 := Pair.below bX0 hb1; obtain ⟨cX0_1, cX1_1⟩ := Pair.cells bX1; have bN1 := Boxed.below bN0 hb1; have cN_1 := Boxed.cell bN1; have hrow1 := ownsRow_below hrow0 hb1); have hBB1 := hB1.trans (hb1.mono hB1.size) | (gi_at_builtin; refine wpListIn_append_own_at _ rfl _ _ 44 rfl w.heap.size 9 i0 (.string ⟨#[]⟩) 1 16 Tryz.underlying44 hi hz0 hz1 hz2 rfl (by decide) _ _ _ rfl (hrow1.alloc _) ⟨w1.heap.size, 0, none⟩ 1 1 [.string (hexB x.f0)] rfl rfl (cell_one_new _ _ _) (by simp [Value.oneCell']) (by unfold maxLen; omega) (by omega) (by have := hBB1.size; simp; omega) ?_; intro v' w9 hown' hgrow _ hat; obtain ⟨g', cap', rfl⟩ := ownsRow_succ hown'; have hkr := KeepRow.appended bN1 (by decide) hrow1 (B := w.heap.size + 3) (by omega) hgrow hat; obtain ⟨hv1, hv2, hr2, hk2, hb2⟩ := Boxed.appended bN1 (by decide) hrow1 hBB1.size (by omega) hown' hgrow; have hc1 := hv1.cell; have hf1 := hv1.frozen))
      refine ⟨(KeepsFrom.of_grownBy (grown_of_below hb1 none) (fun j e => by cases e)).trans (hk2.from _), (KeepRow.of_below hbW hb1).trans hkr, ⟨⟨_, hv2, by rw [partV_snoc, hp]; simpa using hr2, trivial⟩, hBB1.trans hb2⟩⟩
    · have hp : partB x = hexB x.f0 ++ (⟨#[46, 46]⟩ ++ hexB x.f1) := if_neg hx
      have hd : (x.f1 != x.f0) = true := by simp [hx]
      have hs0 := hexB_size x.f0
      have hs1 := hexB_size x.f1
      have hs2 : ¬ 9223372036854775807 < (hexB x.f0).size + (2 + (hexB x.f1).size) := by omega
      have hs3 : ¬ 9223372036854775807 < 2 + (hexB x.f1).size := by omega
      clear hx hs0 hs1
      gi_wp2_with (first | (clear hfl1; refine ⟨trivial, ?_⟩; gi_at_call 35; refine (CallsIn.inRound l' (callsIn_wide.2 (hexB_calls _ _))).mono ?_; rintro e w1 ⟨rfl, hb1⟩; have bX1 := Pair.below bX0 hb1; obtain ⟨cX0_1, cX1_1⟩ := Pair.cells bX1; have bN1 := Boxed.below bN0 hb1; have cN_1 := Boxed.cell bN1; have hrow1 := ownsRow_below hrow0 hb1); have hBB1 := hB1.trans (hb1.mono hB1.size) | (refine ⟨trivial, ?_⟩; gi_at_call 35; refine (CallsIn.inRound l' (callsIn_wide.2 (hexB_calls _ _))).mono ?_; rintro e w2 ⟨rfl, hb2_⟩; have bX2 := Pair.below bX1 hb2_; obtain ⟨cX0_2, cX1_2⟩ := Pair.cells bX2; have bN2 := Boxed.below bN1 hb2_; have cN_2 := Boxed.cell bN2; have hrow2 := ownsRow_below hrow1 hb2_); have hBB2 := hBB1.trans (hb2_.mono hBB1.size) | (gi_at_builtin; refine wpListIn_append_own_at _ rfl _ _ 44 rfl w.heap.size 9 i0 (.string ⟨#[]⟩) 1 16 Tryz.underlying44 hi hz0 hz1 hz2 rfl (by decide) _ _ _ rfl (hrow2.alloc _) ⟨w2.heap.size, 0, none⟩ 1 1 [.string (hexB x.f0 ++ (⟨#[46, 46]⟩ ++ hexB x.f1))] rfl rfl (cell_one_new _ _ _) (by simp [Value.oneCell']) (by unfold maxLen; omega) (by omega) (by have := hBB2.size; simp; omega) ?_; intro v' w9 hown' hgrow _ hat; obtain ⟨g', cap', rfl⟩ := ownsRow_succ hown'; have hkr := KeepRow.appended bN2 (by decide) hrow2 (B := w.heap.size + 3) (by omega) hgrow hat; obtain ⟨hv1, hv2, hr2, hk2, hb2⟩ := Boxed.appended bN2 (by decide) hrow2 hBB2.size (by omega) hown' hgrow; have hc1 := hv1.cell; have hf1 := hv1.frozen))
      refine ⟨((KeepsFrom.of_grownBy (grown_of_below hb1 none) (fun j e => by cases e)).trans (KeepsFrom.of_grownBy (grown_of_below hb2_ none) (fun j e => by cases e))).trans (hk2.from _), ((KeepRow.of_below hbW hb1).trans (KeepRow.of_below (Nat.lt_of_lt_of_le hbW hb1.size) hb2_)).trans hkr, ⟨⟨_, hv2, by rw [partV_snoc, hp]; simpa using hr2, trivial⟩, hBB2.trans hb2⟩⟩
  case done =>
    rintro D zs W hD rfl ⟨⟨v, bN1, hrow, _⟩, hB1⟩ hK
    have hR : Kd.R Kd.string 9 W w.heap.size (fun _ => True) v (zs.map partB) := ⟨fun _ _ => trivial, _, by rw [List.length_map]; exact hrow, (reps_strs _).imp_ (fun p c hp => by subst hp; exact rfl)⟩
    obtain ⟨ps, hps⟩ : ∃ ps, zs.map partB = ps := ⟨_, rfl⟩
    rw [hps] at hR hj
    obtain ⟨A1, c1, rfl, hc1, hC1⟩ := Kd.R_reads hR
    have cN := bN1.cell
    gi_wp2_with (refine ⟨trivial, ?_⟩; gi_at_call 36; refine (callsIn_wide.2 (strings_Join.calls _ c1 _ _ _ W hC1 hc1 hj)).mono ?_; rintro e w1 ⟨rfl, hb1⟩)
    have hK1 : w1.heap[D]? = some (.deferred (some [])) := (hb1.block D (Array.getElem?_eq_some_iff.1 hK).1).trans hK
    refine ⟨by simp, .inl ⟨_, _, rfl, run_takeDeferred hK1, ?_⟩⟩
    exact ⟨_, results_tmp rfl _ _ _, rfl, (hB1.trans (hb1.mono hB1.size)).trans (belowK_b (w := w) (Nat.le_refl _) w1 D _ _ (by omega) hK1 rfl rfl)⟩
  case stop =>
    rintro D c pre W _ _ h _
    exact h.elim
end Go.Proofs.YtpnkkhichkmmmaaGreatDoor.Q
