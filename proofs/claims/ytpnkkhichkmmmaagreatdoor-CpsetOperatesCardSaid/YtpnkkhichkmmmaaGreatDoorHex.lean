/-
  DERIVED. codepoint.Hex, told by hand: its contract in the print's own form (it lays two arrays in memory and writes into one).
-/
import Derived.Test.YtpnkkhichkmmmaaGreatDoorQ0
import Derived.WalkLawsBesides
import Derived.Laws.BitsLemmas
import Derived.Laws.Shifts
namespace Go.Proofs.YtpnkkhichkmmmaaGreatDoor.Q
set_option linter.unusedVariables false
set_option linter.unusedSimpArgs false
open Go.RowKit Go.Proofs.YtpnkkhichkmmmaaGreatDoorW.PrintWords Go.Proofs.YtpnkkhichkmmmaaGreatDoorW.PrintLast Go.Proofs.YtpnkkhichkmmmaaGreatDoorW.PrintMore
def hexDig (d : Nat) : UInt8 := UInt8.ofNat (if d < 10 then 48 + d else 55 + d)
def hexL : Nat → Nat → List UInt8 → List UInt8
  | 0, _, acc => acc
  | f + 1, c, acc => if 0 < c ∨ acc.length < 4 then hexL f (c / 16) (hexDig (c % 16) :: acc) else acc
/-- The six cells: p zeros, then what has been laid. -/
def hexCells (p : Nat) (acc : List UInt8) : List Value := List.replicate p (.int .u8 0) ++ acc.map fun b => .int .u8 (b.toNat : Int)
theorem and15 (x : Nat) (h : x < 2 ^ 32) : bits BinOp.and IntKind.i64 (x : Int) 15 = ((x % 16 : Nat) : Int) := by
  have := bits_mask .i64 32 (by decide) (fun n h0 h1 => by rw [IntKind.wrap_i64]; omega) 4 (by decide) (x : Int) (by omega) (by omega)
  simpa using this
def digCells : Array Value := #[Value.int IntKind.u8 48, Value.int IntKind.u8 49, Value.int IntKind.u8 50, Value.int IntKind.u8 51,
          Value.int IntKind.u8 52, Value.int IntKind.u8 53, Value.int IntKind.u8 54, Value.int IntKind.u8 55,
          Value.int IntKind.u8 56, Value.int IntKind.u8 57, Value.int IntKind.u8 65, Value.int IntKind.u8 66,
          Value.int IntKind.u8 67, Value.int IntKind.u8 68, Value.int IntKind.u8 69, Value.int IntKind.u8 70]
theorem digCell (d : Nat) (h : d < 16) : digCells[d]? = some (.int .u8 ((hexDig d).toNat : Int)) := by
  have hd : d = 0 ∨ d = 1 ∨ d = 2 ∨ d = 3 ∨ d = 4 ∨ d = 5 ∨ d = 6 ∨ d = 7 ∨ d = 8 ∨ d = 9 ∨ d = 10 ∨ d = 11 ∨ d = 12 ∨ d = 13 ∨ d = 14 ∨ d = 15 := by omega
  rcases hd with rfl | rfl | rfl | rfl | rfl | rfl | rfl | rfl | rfl | rfl | rfl | rfl | rfl | rfl | rfl | rfl <;> rfl
theorem hexCells_set (q : Nat) (acc : List UInt8) (d : UInt8) : (hexCells (q + 1) acc).set q (.int .u8 (d.toNat : Int)) = hexCells q (d :: acc) := by
  unfold hexCells
  rw [List.replicate_succ', List.append_assoc, List.set_append_right _ _ (by simp)]
  simp
def HexRel (w : World) (x p : Nat) (acc : List UInt8) (wr : World) : Prop :=
  p + acc.length = 6 ∧ x < 16 ^ p ∧ Below w.heap.size w wr ∧ wr.heap[w.heap.size]? = some (.cells digCells 68 (0, 0)) ∧ wr.heap[w.heap.size + 1]? = some (.cells (hexCells p acc).toArray 69 (0, 0))
theorem HexRel.step {w wr : World} {x q : Nat} {acc : List UInt8} (h : HexRel w x (q + 1) acc wr) :
    HexRel w (x / 16) q (hexDig (x % 16) :: acc) (wr.setCell ⟨w.heap.size + 1, q, none⟩ (.int .u8 ((hexDig (x % 16)).toNat : Int))) := by
  obtain ⟨hp, hx, hb, hd, hc⟩ := h
  refine ⟨by simp; omega, by rw [Nat.pow_succ] at hx; omega, below_set hb (by omega), ?_, ?_⟩
  · exact blk_far hd (by simp) _
  · refine (blk_put hc q _ ?_)
    rw [List.setIfInBounds_toArray, hexCells_set]
theorem valid_yes (c : Int) (w : World) (h0 : 0 ≤ c) (h1 : c ≤ 1114111) : Calls Tryz.prog 48 #[.int .i64 c] w fun e w' => e = .returned (.bool true) ∧ w = w' := by
  go_enter Tryz.func48, Tryz.ntmps48
  go_wp2
  go_ret
  exact ⟨rfl, rfl⟩
theorem valid_no (c : Int) (w : World) (h : c < 0 ∨ 1114111 < c) : Calls Tryz.prog 48 #[.int .i64 c] w fun e w' => e = .returned (.bool false) ∧ w = w' := by
  rcases h with h | h
  · go_enter Tryz.func48, Tryz.ntmps48
    go_wp2
    go_ret
    exact ⟨rfl, rfl⟩
  · have h0 : 0 ≤ c := by omega
    have h2 : decide (c ≤ 1114111) = false := by simp; omega
    go_enter Tryz.func48, Tryz.ntmps48
    go_wp2
    go_ret
    exact ⟨rfl, rfl⟩
theorem arrayLen69 : Tryz.prog.arrayLen 69 = 6 := by kernel_rfl
theorem elem69 : Tryz.prog.elem 69 = 5 := by kernel_rfl
theorem hex_slice (b p : Nat) (hp : p < 6) (W : World) : (Instr.sliceAt 69 (.pointer (some ⟨b, 0, none⟩)) (some (.int .i64 (p : Int))) none none).run Tryz.prog W = .ok (.slice (some ⟨b, p, none⟩) (6 - p) (6 - p)) W := by
  have hu : Tryz.prog.underlying 69 = some (.array (Tryz.prog.arrayLen 69) (Tryz.prog.elem 69)) := by rw [arrayLen69, elem69]; kernel_rfl
  rw [run_sliceAt_array_l W 69 ⟨b, 0, none⟩ hu .i64 (p : Int) (by omega) (by rw [arrayLen69]; omega), arrayLen69, elem69]
  have hs : (sizeOf 5).run Tryz.prog W = .ok 1 W := by kernel_rfl
  rw [hs]
  simp only [Result.andThen_ok, slicedAt, Int.toNat_natCast]
  rw [if_neg (by omega), Nat.mul_one, add_plain]
theorem hex_conv {w wr : World} {p : Nat} {acc : List UInt8} (h : HexRel w 0 p acc wr) (W : World) (hW : W = wr) : (convert 70 9 (.slice (some ⟨w.heap.size + 1, p, none⟩) (6 - p) (6 - p))).run Tryz.prog W = .ok (.string ⟨acc.toArray⟩) W := by
  subst hW
  obtain ⟨hp, _, _, _, hc⟩ := h
  have hs := run_convert_bytes_arg (P := Tryz.prog) W 70 5 Tryz.underlying70 Tryz.underlying5 (w.heap.size + 1) p (6 - p) (6 - p) (acc.map fun b => (b.toNat : Int)) (by simp; omega) (fun i hi => by
    simp only [World.cell?, hc, hexCells, List.getElem?_toArray]
    rw [List.getElem?_append_right (by simp)]
    simp only [List.length_replicate, Nat.add_sub_cancel_left, List.getElem?_map, List.getD_eq_getElem?_getD]
    rw [List.getElem?_eq_getElem (by omega)]; rfl) 9 Tryz.underlying9
  rw [hs]
  have e : (acc.map fun b => (b.toNat : Int)).map (fun n => UInt8.ofNat n.toNat) = acc := by
    rw [List.map_map]
    exact (List.map_congr_left (fun b _ => by simp)).trans (List.map_id acc)
  have this : strOfNums (acc.map fun b => (b.toNat : Int)) = ⟨acc.toArray⟩ := by
    show (⟨((acc.map fun b => (b.toNat : Int)).map fun n => UInt8.ofNat n.toNat).toArray⟩ : ByteArray) = _
    rw [e]
  rw [this]
set_option maxHeartbeats 1000000 in
set_option maxRecDepth 100000 in
theorem hex_yes (c : Nat) (w : World) (h1 : (c : Int) ≤ 1114111) : Calls Tryz.prog 35 #[.int .i64 c] w fun e w' => e = .returned (.string ⟨(hexL 7 c []).toArray⟩) ∧ Below w.heap.size w w' := by
  have hst : HexRel w c 6 [] ((w.alloc (.cells digCells 68)).alloc (.cells #[Value.int IntKind.u8 0, Value.int IntKind.u8 0, Value.int IntKind.u8 0, Value.int IntKind.u8 0, Value.int IntKind.u8 0, Value.int IntKind.u8 0] 69)) := by
    refine ⟨rfl, by simp; omega, below_alloc (below_alloc (Below.refl _ _) _) _, ?_, ?_⟩
    · exact blk_alloc (heap_alloc_new w _) _
    · have := heap_alloc_new (w.alloc (.cells digCells 68)) (.cells #[Value.int IntKind.u8 0, Value.int IntKind.u8 0, Value.int IntKind.u8 0, Value.int IntKind.u8 0, Value.int IntKind.u8 0, Value.int IntKind.u8 0] 69)
      rw [World.size_alloc] at this
      exact this
  go_enter Tryz.func35, Tryz.ntmps35
  go_wp2_with (go_at_call 48; refine (valid_yes _ _ (by omega) h1).mono ?_; rintro e w' ⟨rfl, rfl⟩)
  go_loopw [0, 5] (fun vc va wr => ∃ (x p : Nat) (acc : List UInt8) (f : Nat), vc = .int .i64 x ∧ va = .int .i64 p ∧ Aside0 (HexRel w x p acc wr) ∧ Aside0 (hexL 7 c [] = hexL f x acc ∧ p < f)) (fun _ va _ => (intOf va).toNat)
  case atStart => exact ⟨c, 6, [], 7, rfl, rfl, ⟨hst⟩, ⟨rfl, by omega⟩⟩
  case round =>
    clear hst
    obtain ⟨x, p, acc, f, rfl, rfl, HR, HF⟩ := hrel
    obtain ⟨hp, hx, hb, hd, hc⟩ := HR.out
    by_cases h1 : 0 < x
    · have hx0 : 1 ≤ x := h1
      have hp1 : 1 ≤ p := by
        rcases Nat.eq_zero_or_pos p with h | h
        · subst h; simp at hx; omega
        · exact h
      obtain ⟨q, rfl⟩ : ∃ q, p = q + 1 := ⟨p - 1, by omega⟩
      have hd1 : decide (0 < (x : Int)) = true := by simp; omega
      have hand := and15 x (Nat.lt_of_lt_of_le hx (by calc 16 ^ (q + 1) ≤ 16 ^ 6 := Nat.pow_le_pow_right (by decide) (by omega)
                                                          _ ≤ 2 ^ 32 := by decide))
      have hm : x % 16 < 16 := Nat.mod_lt _ (by decide)
      have hdc : wr.cell? ⟨w.heap.size, x % 16, none⟩ = some (.int .u8 ((hexDig (x % 16)).toNat : Int)) := by simp only [World.cell?, hd]; exact digCell _ hm
      have hcc : wr.cell? ⟨w.heap.size + 1, q, none⟩ = some (.int .u8 0) := by
        simp only [World.cell?, hc, hexCells, List.getElem?_toArray]
        rw [List.getElem?_append_left (by simp), List.getElem?_replicate_of_lt (by omega)]; rfl
      have hcf : wr.frozen? ⟨w.heap.size + 1, q, none⟩ = false := by simp [World.frozen?, hc]
      have hq : q ≤ 5 := by omega
      clear hp hx hb hd hc h1
      go_wp2
      go_roundw
      case rel => exact ⟨x / 16, q, hexDig (x % 16) :: acc, f - 1, by go_num, by go_num, ⟨HR.out.step⟩, ⟨by rw [HF.out.1]; obtain ⟨f', rfl⟩ : ∃ f', f = f' + 1 := ⟨f - 1, by have := HF.out.2; omega⟩; simp only [hexL]; rw [if_pos (.inl hx0)]; rfl, by have := HF.out.2; omega⟩⟩
      case measure => simp [intOf]
    · obtain rfl : x = 0 := by omega
      by_cases h2 : 2 < p
      · obtain ⟨q, rfl⟩ : ∃ q, p = q + 1 := ⟨p - 1, by omega⟩
        have hd1 : decide (2 < ((q + 1 : Nat) : Int)) = true := by simp; omega
        have hq2 : 2 ≤ q := by omega
        have hand : bits BinOp.and IntKind.i64 0 15 = 0 := by simpa using and15 0 (by decide)
        have hdc : wr.cell? ⟨w.heap.size, 0, none⟩ = some (.int .u8 ((hexDig (0 % 16)).toNat : Int)) := by simp only [World.cell?, hd]; exact digCell _ (by decide)
        have hcc : wr.cell? ⟨w.heap.size + 1, q, none⟩ = some (.int .u8 0) := by
          simp only [World.cell?, hc, hexCells, List.getElem?_toArray]
          rw [List.getElem?_append_left (by simp), List.getElem?_replicate_of_lt (by omega)]; rfl
        have hcf : wr.frozen? ⟨w.heap.size + 1, q, none⟩ = false := by simp [World.frozen?, hc]
        have hq : q ≤ 5 := by omega
        have hal : acc.length < 4 := by omega
        clear hp hx hb hd hc h1 h2
        go_wp2
        go_roundw
        case rel => exact ⟨0 / 16, q, hexDig (0 % 16) :: acc, f - 1, by go_num, by go_num, ⟨HR.out.step⟩, ⟨by rw [HF.out.1]; obtain ⟨f', rfl⟩ : ∃ f', f = f' + 1 := ⟨f - 1, by have := HF.out.2; omega⟩; simp only [hexL]; rw [if_pos (.inr hal)]; rfl, by have := HF.out.2; omega⟩⟩
        case measure => simp [intOf]
      · have hd1 : decide (2 < (p : Int)) = false := by simp; omega
        have hp6 : p ≤ 6 := by omega
        have he : hexL 7 c [] = acc := by
          rw [HF.out.1]
          obtain ⟨f', rfl⟩ : ∃ f', f = f' + 1 := ⟨f - 1, by have := HF.out.2; omega⟩
          simp only [hexL]; rw [if_neg (by omega)]
        have hsl := hex_slice (w.heap.size + 1) p (by omega)
        have hcv := hex_conv HR.out wr rfl
        have HE := Aside0.mk he
        have HB := Aside0.mk hb
        clear hp hx hb hd hc h1 h2 he
        go_wp2
        go_ret
        exact ⟨show Ending.returned (.string ⟨acc.toArray⟩) = _ by rw [HE.out], HB.out⟩
set_option maxHeartbeats 400000 in
theorem hex_no (c : Int) (w : World) (h : c < 0 ∨ 1114111 < c) : Calls Tryz.prog 35 #[.int .i64 c] w fun e w' => e = .returned (.string ⟨#[]⟩) ∧ Below w.heap.size w w' := by
  go_enter Tryz.func35, Tryz.ntmps35
  go_wp2_with (go_at_call 48; refine (valid_no _ _ h).mono ?_; rintro e w' ⟨rfl, rfl⟩)
  go_ret
  exact ⟨rfl, Below.refl _ _⟩
def codepoint_Hex.f (a0 : Int) : Option ByteArray := some (if 0 ≤ a0 ∧ a0 ≤ 1114111 then ⟨(hexL 7 a0.toNat []).toArray⟩ else ⟨#[]⟩)
theorem codepoint_Hex.calls (a0 : Int) (r : ByteArray) (w : World) (h : codepoint_Hex.f a0 = some r) :
    Calls Tryz.prog 35 #[.int .i64 a0] w fun e w' => e = .returned (.string r) ∧ Below w.heap.size w w' := by
  unfold codepoint_Hex.f at h
  by_cases hv : 0 ≤ a0 ∧ a0 ≤ 1114111
  · rw [if_pos hv] at h
    obtain rfl := Option.some.inj h
    obtain ⟨n, rfl⟩ := Int.eq_ofNat_of_zero_le hv.1
    exact hex_yes n w hv.2
  · rw [if_neg hv] at h
    obtain rfl := Option.some.inj h
    exact hex_no a0 w (by omega)
end Go.Proofs.YtpnkkhichkmmmaaGreatDoor.Q
