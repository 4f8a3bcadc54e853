/-
  DERIVED. slices.SortFunc as cpset.Make calls it (ranges, ordered by Lo), told by hand in the print's own form: out of the shelf's contract at structs.
-/
import Derived.Test.YtpnkkhichkmmmaaGreatDoorQ0
import Derived.Test.YtpnkkhichkmmmaaGreatDoorLay
import Derived.Shelf.SlSortCmp.WholeK
import Derived.Shelf.SlSortCmp.NoneTotal
import Derived.Shelf.SlicesG.Cmp
namespace Go.Proofs.YtpnkkhichkmmmaaGreatDoor.Q
set_option linter.unusedVariables false
set_option linter.unusedSimpArgs false
open Go.RowKit Go.Proofs.YtpnkkhichkmmmaaGreatDoorW.PrintWords Go.Proofs.YtpnkkhichkmmmaaGreatDoorW.PrintLast Go.Proofs.YtpnkkhichkmmmaaGreatDoorW.PrintMore
open Go.Shelf Go.Lib Go.Sort

/-! ### A row of elements of k cells, behind a sort -/
section
variable {α : Type} [Inhabited α]
theorem reps_get {enc : α → List Value} {k : Nat} {ps : List α} {cs : List Value} (hk : ∀ x, (enc x).length = k) (h : Reps (fun x c => c = enc x) k ps cs) (t : Nat) (ht : t < ps.length * k) : cs[t]? = some (enc ps.toArray[t / k]!)[t % k]! := by
  have k0 : 0 < k := by rcases Nat.eq_zero_or_pos k with h0 | h0; · subst h0; simp at ht
                        · exact h0
  have hj : t / k < ps.length := Nat.div_lt_of_lt_mul (by rw [Nat.mul_comm]; exact ht)
  have hr := h.2 (t / k) _ (List.getElem?_eq_getElem hj)
  have hm : t % k < k := Nat.mod_lt _ k0
  have e1 : ((cs.drop (t / k * k)).take k)[t % k]? = cs[t]? := by
    rw [List.getElem?_take_of_lt hm, List.getElem?_drop, Nat.div_add_mod']
  rw [← e1, hr]
  have hx : ps.toArray[t / k]! = ps[t / k] := by simp [hj]
  rw [hx, List.getElem?_eq_getElem (by rw [hk]; exact hm)]
  simp [hk, hm]
theorem reps_flat {enc : α → List Value} {k : Nat} (hk : ∀ x, (enc x).length = k) (ps : List α) : Reps (fun x c => c = enc x) k ps (flatK enc k ps.toArray).toList := by
  refine ⟨by simp, fun j p hj => ?_⟩
  have hjl : j < ps.length := by
    rcases Nat.lt_or_ge j ps.length with h | h
    · exact h
    · simp [List.getElem?_eq_none h] at hj
  have hb : j * k + k ≤ ps.length * k := by have := Nat.mul_le_mul_right k (show j + 1 ≤ ps.length from hjl); rwa [Nat.add_mul, Nat.one_mul] at this
  apply List.ext_getElem?
  intro i
  by_cases hi : i < k
  · rw [List.getElem?_take_of_lt hi, List.getElem?_drop, Array.getElem?_toList]
    have hlt : j * k + i < (flatK enc k ps.toArray).size := by simp; omega
    have e := get_flatK enc k ps.toArray (j * k + i) (by simp; omega)
    rw [Array.getElem?_eq_getElem hlt, ← getElem!_pos (flatK enc k ps.toArray) (j * k + i) hlt, e]
    have e1 : (j * k + i) / k = j := by rw [Nat.add_comm, Nat.add_mul_div_right _ _ (by omega), Nat.div_eq_of_lt hi, Nat.zero_add]
    have e2 : (j * k + i) % k = i := by rw [Nat.add_comm, Nat.add_mul_mod_self_right, Nat.mod_eq_of_lt hi]
    rw [e1, e2]
    have hp : ps.toArray[j]! = p := by
      rw [List.getElem?_eq_getElem hjl] at hj
      simpa [hjl] using hj
    rw [hp, List.getElem?_eq_getElem (by rw [hk]; exact hi)]
    simp [hk, hi]
  · rw [List.getElem?_eq_none (by simp; omega), List.getElem?_eq_none (by rw [hk]; omega)]
theorem holdsK_of {enc : α → List Value} {k : Nat} (hk : ∀ x, (enc x).length = k) {w : World} {g : Nat} {cur : Array Value} {e : TypeId} {ps : List α} {inner : List Value} (hb : w.heap[g]? = some (.cells cur e (0, 0)))
    (ht : cur.toList.take (ps.length * k) = inner) (hr : Reps (fun x c => c = enc x) k ps inner) : HoldsK enc k w g 0 ps.toArray := by
  intro t htl
  have htl' : t < ps.length * k := by simpa using htl
  refine ⟨?_, by simp [World.frozen?, hb]⟩
  have h1 := reps_get hk hr t htl'
  rw [← ht, List.getElem?_take_of_lt htl'] at h1
  simp only [World.cell?, hb, Nat.zero_add, Option.isSome_none, Bool.false_eq_true, if_false]
  rw [← Array.getElem?_toList, h1, get_flatK _ _ _ _ (by simpa using htl')]
  rfl
theorem heap_sortedK {enc : α → List Value} {k : Nat} {w : World} {g n : Nat} {os : Array Obj} {cur : Array Value} {e : TypeId} {fr : Nat × Nat} (d : Array α) (hb : w.heap[g]? = some (.cells cur e fr)) :
    (sortWorldK enc k w g 0 n d os).heap[g]? = some (.cells (putCells id 0 (flatK enc k d) cur) e fr) := by
  have hg : g < w.heap.size := (Array.getElem?_eq_some_iff.1 hb).1
  unfold sortWorldK putRowK
  rw [heap_grow_old _ _ (by simpa using hg)]
  simp [putRow, mapBlock, Sort.ahead, Array.getElem?_modify, hb, onCells]
theorem grownBy_sortedK {enc : α → List Value} {k : Nat} {w : World} {g n : Nat} {os : Array Obj} (d : Array α) : w.grownBy (sortWorldK enc k w g 0 n d os) (some g) := by
  unfold sortWorldK putRowK
  refine ⟨rfl, rfl, rfl, by simp, fun i hi hne => ?_⟩
  rw [heap_grow_old _ _ (by simpa using hi)]
  have : g ≠ i := fun e => hne (by rw [e])
  simp [putRow, mapBlock, Sort.ahead, Array.getElem?_modify, this]
theorem take_putCellsK (cur : Array Value) (ts : Array Value) (h : ts.size ≤ cur.size) : (putCells id 0 ts cur).toList.take ts.size = ts.toList := by
  apply List.ext_getElem?
  intro j
  by_cases hj : j < ts.size
  · rw [List.getElem?_take_of_lt hj, Array.getElem?_toList, Array.getElem?_toList]
    simp [putCells, hj, show j < cur.size by omega]
  · rw [List.getElem?_take_eq_none (by omega), List.getElem?_eq_none (by simp; omega)]
/-- Behind the sort the same slice owns the sorted list. -/
theorem own_sortedK {enc : α → List Value} {k : Nat} (hk : ∀ x, (enc x).length = k) {w : World} {base g cap n : Nat} {e : TypeId} {os : Array Obj} {cur : Array Value} {ss ts : List α} (hl : ts.length = ss.length) (hbase : base ≤ g)
    (hb : w.heap[g]? = some (.cells cur e (0, 0))) (h1 : ss.length ≤ cap) (h2 : cap ≤ maxLen) (h3 : cur.size = cap * k) :
    OwnRow (fun x c => c = enc x) e k (sortWorldK enc k w g 0 n ts.toArray os) base (.slice (some ⟨g, 0, none⟩) ss.length cap) ts := by
  refine ⟨(flatK enc k ts.toArray).toList, ⟨by simp, .inr ⟨g, cap, _, by rw [hl], hbase, heap_sortedK _ hb, by omega, h2, by simp [putCells, h3], ?_⟩⟩, reps_flat hk ts⟩
  have hs : (flatK enc k ts.toArray).size = ts.length * k := by simp
  rw [← hs]
  refine take_putCellsK cur _ ?_
  rw [hs, h3]
  exact Nat.mul_le_mul_right _ (by omega)
end

/-! ### Ranges by Lo -/
instance : Inhabited S32 := ⟨z32⟩
def encR (x : S32) : List Value := [.int .i64 x.f0, .int .i64 x.f1]
theorem encR_len (x : S32) : (encR x).length = 2 := rfl
def cmpR (x y : S32) : Int := Lib.compareInt x.f0 y.f0
theorem ltR (x y : S32) : ltOf cmpR x y = decide (x.f0 < y.f0) := by
  unfold ltOf cmpR Lib.compareInt
  by_cases h1 : x.f0 < y.f0
  · simp [h1]
  · by_cases h2 : y.f0 < x.f0 <;> simp [h1, h2]
theorem swoR : SWO (ltOf cmpR) where
  irrefl x := by rw [ltR]; simp
  trans x y z h1 h2 := by rw [ltR] at *; simp at *; omega
  ntrans x y z h1 h2 := by rw [ltR] at *; simp at *; omega
set_option maxHeartbeats 1000000 in
theorem closureR (x y : S32) (W : World) : Calls Tryz.prog 29 #[.agg #[.int .i64 x.f0, .int .i64 x.f1], .agg #[.int .i64 y.f0, .int .i64 y.f1]] W fun e w' => e = .returned (.int .i64 (cmpR x y)) ∧ ∃ q os', w' = grow (W.drewN q) os' := by
  have hcon := fun W' => AnyG.cmp_Compare_int Tryz.cmpInt x.f0 y.f0 W'
  change ∀ W', Calls Tryz.prog 30 _ _ _ at hcon
  unfold cmpR
  generalize Lib.compareInt x.f0 y.f0 = r at hcon ⊢
  go_enter Tryz.func29, Tryz.ntmps29
  go_wp2_with (go_at_call 30; refine (hcon _).mono ?_; rintro e w' ⟨rfl, rfl⟩)
  go_ret
  exact ⟨rfl, 0, _, by rw [alloc_eq_grow, alloc_eq_grow, grow_grow]; rfl⟩
theorem cmpLaysR (blk off size : Nat) (w : World) : CmpLays Tryz.prog 29 #[] encR 2 cmpR blk off size w := fun _ _ _ _ x y => closureR x y _
/-- What the sort leaves: the library's own order. -/
def sortedR (l : List S32) : List S32 := (pdq (ltOf cmpR) l.toArray 0 l.length (Lib.bitLen l.length) true true).toList
theorem sortedR_perm (l : List S32) : (sortedR l).Perm l ∧ (sortedR l).Pairwise fun x y => x.f0 ≤ y.f0 := by
  obtain ⟨⟨h1, _, h2⟩, h3⟩ := pdq_sorts (ltOf cmpR) swoR l.toArray 0 l.length (Lib.bitLen l.length) true true (Nat.zero_le _) (by simp) (Or.inl rfl)
  have hs : (pdq (ltOf cmpR) l.toArray 0 l.length (Lib.bitLen l.length) true true).size = l.length := by simpa using h1
  refine ⟨?_, ?_⟩
  · have e : ∀ a : Array S32, a.size = l.length → (a.extract 0 l.length).toList = a.toList := fun a ha => by rw [← ha]; simp
    rw [e _ hs, e _ (by simp)] at h2
    simpa [sortedR] using h2
  · unfold sortedR
    generalize pdq (ltOf cmpR) l.toArray 0 l.length (Lib.bitLen l.length) true true = d at h3 hs
    rw [List.pairwise_iff_getElem]
    intro i j hi hj hij
    have h := h3 i j (Nat.zero_le _) hij (by simpa [hs] using hj)
    simp only [Array.length_toList] at hi hj
    rw [ltR, getElem!_pos d i hi, getElem!_pos d j hj] at h
    simpa using h
def sort_Range.f (l : List S32) : Option (List S32) := if l.length < 4611686018427387904 then some (sortedR l) else none
theorem k32_R {w : World} {base : Nat} {ok : Nat → Prop} {v : Value} {xs : List S32} : Kd.R k32 32 w base ok v xs ↔ (∀ k, v.ownBlock = some k → ok k) ∧ OwnRow (fun x c => c = encR x) 32 2 w base v xs := by
  constructor
  · rintro ⟨h1, h2⟩
    exact ⟨h1, h2.imp_ (fun p c hp => k32_openM hp)⟩
  · rintro ⟨h1, h2⟩
    exact ⟨h1, h2.imp_ (fun p c hp => by subst hp; exact k32_mkM _ _ _ p)⟩
set_option maxHeartbeats 1000000 in
theorem sort_Range.calls (P0_ : Nat → Prop) (u9000_ : Value) (l0 r : List S32) (w0 w : World) (hB : Below w0.heap.size w0 w) (ho0 : Kd.R k32 32 w w0.heap.size P0_ u9000_ l0) (h : sort_Range.f l0 = some r) :
    Calls Tryz.prog 28 #[u9000_, .func (.func 29) #[] #[]] w fun e w' => e = .returned (.tuple #[]) ∧ Kd.R k32 32 w' w0.heap.size (fun k_ => (P0_ k_ ∨ w.heap.size ≤ k_)) u9000_ r ∧ Below w0.heap.size w0 w' ∧ Kept w w' (fun k_ => P0_ k_) := by
  unfold sort_Range.f at h
  by_cases hl : l0.length < 4611686018427387904
  case neg => rw [if_neg hl] at h; cases h
  rw [if_pos hl] at h
  obtain rfl := Option.some.inj h
  have hlen : (sortedR l0).length = l0.length := (sortedR_perm l0).1.length_eq
  have hR := k32_R.1 ho0
  obtain ⟨h1, inner, ⟨hs, hv⟩, hr⟩ := hR
  have none_ : ∀ (p : Option Addr) (cap : Nat), u9000_ = .slice p 0 cap → l0 = [] → Calls Tryz.prog 28 #[u9000_, .func (.func 29) #[] #[]] w fun e w' => e = .returned (.tuple #[]) ∧ Kd.R k32 32 w' w0.heap.size (fun k_ => (P0_ k_ ∨ w.heap.size ≤ k_)) u9000_ (sortedR l0) ∧ Below w0.heap.size w0 w' ∧ Kept w w' (fun k_ => P0_ k_) := by
    intro p cap e0 e1
    have e2 : sortedR l0 = l0 := by rw [List.eq_nil_of_length_eq_zero (by rw [hlen, e1]; rfl : (sortedR l0).length = 0), e1]
    rw [e2]
    have hc := AnyF.slices_SortFunc_none Tryz.sortRange p cap (.func (.func 29) #[] #[]) w
    rw [e0]
    refine hc.mono ?_
    rintro e w' ⟨rfl, rfl⟩
    rw [← e0]
    exact ⟨rfl, Kd.R_mono ho0 (fun _ hk => .inl hk), hB, Kept.refl _ _⟩
  rcases hv with ⟨rfl, hn⟩ | ⟨g, cap, cur, rfl, hg, hb, hnc, hcm, hcs, htk⟩
  · exact none_ none 0 rfl (List.eq_nil_of_length_eq_zero hn)
  · have hgl : g < w.heap.size := (Array.getElem?_eq_some_iff.1 hb).1
    have eg : ∀ args w, (callFunc 29 args).run Tryz.prog w = .ok (.enter 29 args) w := enters_of Tryz.func29 (by kernel_rfl) rfl
    have hH := holdsK_of encR_len hb htk hr
    have hcon := AnyQ.slices_SortFunc_eq Tryz.sortRange 2 Tryz.isAgg32 Tryz.sizeOf32 encR encR_len (fun x v hv => by simp [encR] at hv; rcases hv with rfl | rfl <;> rfl) cmpR swoR 29 #[] g 0 cap l0.toArray w eg (cmpLaysR g 0 _ w) hH hgl (by simpa using hl)
    change Calls Tryz.prog 28 _ _ _ at hcon
    rw [show l0.toArray.size = l0.length by simp] at hcon
    refine hcon.mono ?_
    rintro e w' ⟨rfl, n, os, rfl⟩
    have hto : pdq (ltOf cmpR) l0.toArray 0 l0.length (Lib.bitLen l0.length) true true = (sortedR l0).toArray := by simp [sortedR]
    rw [hto]
    have hgr := grownBy_sortedK (enc := encR) (k := 2) (w := w) (g := g) (n := n) (os := os) (sortedR l0).toArray
    have hP : P0_ g := h1 g rfl
    refine ⟨rfl, k32_R.2 ⟨fun k hk => .inl (h1 k hk), own_sortedK encR_len hlen hg hb hnc hcm hcs⟩, hB.grown hgr hB.size (fun k hk => by injection hk with hk; omega), ⟨hgr.size, fun i hi hn => hgr.block i hi (fun e => by injection e with e; exact hn (e ▸ hP))⟩⟩
end Go.Proofs.YtpnkkhichkmmmaaGreatDoor.Q
