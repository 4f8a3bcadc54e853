/-
  DERIVED. Regions whose order of evaluation is drawn, walked once per operation: a table says what each operation reads and what kind of value it yields; what every operation does alone is all that is asked, and the order no longer matters. No function of the program stands here.
-/
import Derived.Test.YtpnkkhichkmmmaaGreatDoorQ0
namespace Go.Proofs.YtpnkkhichkmmmaaGreatDoor.Q
set_option linter.unusedVariables false
set_option linter.unusedSimpArgs false
open Go Go.RowKit Go.Proofs.YtpnkkhichkmmmaaGreatDoorW.PrintWords Go.Proofs.YtpnkkhichkmmmaaGreatDoorW.PrintLast Go.Proofs.YtpnkkhichkmmmaaGreatDoorW.PrintMore

/-- A kind of value: what a value shows in a world; it outlives whatever is added to the world. -/
structure AV where
  fits : World → Value → Prop
  keep : ∀ {w w' : World} {v : Value}, Below w.heap.size w w' → fits w v → fits w' v
def AV.any : AV := ⟨fun _ _ => True, fun _ _ => trivial⟩
def AV.is (x : Value) : AV := ⟨fun _ v => v = x, fun _ h => h⟩
def AV.bool (b : Bool) : AV := AV.is (.bool b)
def AV.int (z : Int) : AV := AV.is (.int .i64 z)

def Knows (E : Nat → AV) (R : List Nat) (a : Act) (w : World) : Prop := ∀ t ∈ R, ∃ v, a.tmps[t]? = some v ∧ (E t).fits w v
theorem Knows.is {E : Nat → AV} {R : List Nat} {a : Act} {w : World} {t : Nat} {x : Value} (h : Knows E R a w) (ht : t ∈ R) (hE : E t = AV.is x) : a.eval (.tmp t) = x := by
  obtain ⟨v, hv, hf⟩ := h t ht
  rw [hE] at hf
  have hf : v = x := hf
  subst hf
  simp [Act.eval, Array.getD_eq_getD_getElem?, hv]
theorem Knows.fit {E : Nat → AV} {R : List Nat} {a : Act} {w : World} {t : Nat} {x : AV} (h : Knows E R a w) (ht : t ∈ R) (hE : E t = x) : x.fits w (a.eval (.tmp t)) := by
  obtain ⟨v, hv, hf⟩ := h t ht
  rw [hE] at hf
  simpa [Act.eval, Array.getD_eq_getD_getElem?, hv] using hf

def Fits2 (w : World) : List AV → List Value → Prop
  | [], [] => True
  | x :: xs, v :: vs => x.fits w v ∧ Fits2 w xs vs
  | _, _ => False
def shape (ops : Array Oper) (i : Nat) : Option (Op × Option Tmp × Option (Nat × Bool)) := (ops[i]?).map fun o => (o.op, o.dst, o.guard)
def shapeG (ops : Array Oper) (i : Nat) : Option (Option Tmp × Option (Nat × Bool)) := (ops[i]?).map fun o => (o.dst, o.guard)
def dstOf (ops : Array Oper) (j : Nat) : Option Tmp := (ops[j]?).bind (·.dst)

/-- What one operation does alone, wherever in the order it comes up. -/
def OpOk (P : Program) (ops : Array Oper) (E : Nat → AV) (w0 : World) (R : List Nat) (i d : Nat) : Prop :=
  ∀ (Q : Exit → Act → World → Prop) (K : Act → World → Prop) (a : Act) (w : World), Below w0.heap.size w0 w → Knows E R a w →
    (∀ v w', Below w.heap.size w w' → (E d).fits w' v → K (a.put (some d) v) w') → wpOp P ops Q i K a w

/-- The table fits the region: the destinations are as told, every operation waits for those that yield what it reads, and none waits for a later one. -/
def tabOk (N : Nat) (ops : Array Oper) (tab : List (List Nat × Nat)) : Bool :=
  ops.size == tab.length && (List.range ops.size).all fun i => match ops[i]?, tab[i]? with
    | some o, some r => decide (r.2 < N) && (o.after.all fun e => decide (e.on < i)) && r.1.all fun t => decide (t < N) && (List.range ops.size).all fun j => match tab[j]? with
      | some q => q.2 != t || o.after.any fun e => Region.binds .any e && e.on == j
      | none => true
    | _, _ => false

structure TabI (N : Nat) (ops : Array Oper) (tab : List (List Nat × Nat)) (i : Nat) (o : Oper) (r : List Nat × Nat) : Prop where
  dst : r.2 < N
  aft : ∀ e ∈ o.after, e.on < i
  read : ∀ t ∈ r.1, t < N ∧ ∀ (j : Nat) (q : List Nat × Nat), tab[j]? = some q → q.2 = t → ∃ e ∈ o.after, Region.binds .any e = true ∧ e.on = j
theorem tabOk_at {N : Nat} {ops : Array Oper} {tab : List (List Nat × Nat)} (h : tabOk N ops tab = true) : ops.size = tab.length ∧ ∀ i, i < ops.size → ∃ o r, ops[i]? = some o ∧ tab[i]? = some r ∧ TabI N ops tab i o r := by
  unfold tabOk at h
  simp only [Bool.and_eq_true, beq_iff_eq] at h
  obtain ⟨hs, h⟩ := h
  refine ⟨hs, fun i hi => ?_⟩
  have h := List.all_eq_true.1 h i (List.mem_range.2 hi)
  obtain ⟨o, ho⟩ : ∃ o, ops[i]? = some o := ⟨ops[i], Array.getElem?_eq_getElem hi⟩
  obtain ⟨r, hr⟩ : ∃ r, tab[i]? = some r := ⟨tab[i]'(hs ▸ hi), List.getElem?_eq_getElem (hs ▸ hi)⟩
  rw [ho, hr] at h
  simp only [Bool.and_eq_true, decide_eq_true_eq] at h
  obtain ⟨⟨h1, h2⟩, h3⟩ := h
  refine ⟨o, r, ho, hr, h1, fun e he => ?_, fun t ht => ?_⟩
  · have := Array.all_eq_true_iff_forall_mem.1 h2 e he
    simpa using this
  · have h4 := List.all_eq_true.1 h3 t ht
    simp only [Bool.and_eq_true, decide_eq_true_eq] at h4
    refine ⟨h4.1, fun j q hq hqt => ?_⟩
    obtain ⟨hj, _⟩ := List.getElem?_eq_some_iff.1 hq
    have h5 := List.all_eq_true.1 h4.2 j (List.mem_range.2 (hs ▸ hj))
    rw [hq] at h5
    simp only [hqt, bne_self_eq_false, Bool.false_or] at h5
    obtain ⟨e, he, hb⟩ := Array.any_eq_true'.1 h5
    simp only [Bool.and_eq_true, beq_iff_eq] at hb
    exact ⟨e, he, hb.1, hb.2⟩

/-- How many are not yet listed. -/
def unl : List Bool → Nat
  | [] => 0
  | true :: l => unl l
  | false :: l => unl l + 1
theorem unl_set : ∀ (l : List Bool) (i : Nat), l[i]? = some false → unl (l.set i true) + 1 = unl l
  | [], i, h => by simp at h
  | b :: l, 0, h => by simp at h; subst h; simp [unl]
  | true :: l, i + 1, h => by simpa [unl] using unl_set l i (by simpa using h)
  | false :: l, i + 1, h => by simpa [unl] using unl_set l i (by simpa using h)
theorem unl_zero : ∀ (l : List Bool) (i : Nat) (b : Bool), unl l = 0 → l[i]? = some b → b = true
  | [], i, b, _, h => by simp at h
  | true :: l, 0, b, _, h => by simpa using h.symm
  | true :: l, i + 1, b, hu, h => unl_zero l i b (by simpa [unl] using hu) (by simpa using h)
  | false :: l, _, b, hu, h => by simp [unl] at hu
theorem unl_replicate : ∀ n, unl (List.replicate n false) = n
  | 0 => rfl
  | n + 1 => by rw [List.replicate_succ, unl, unl_replicate n]

structure Mid (N : Nat) (tab : List (List Nat × Nat)) (E : Nat → AV) (ds : List Deferred) (w0 : World) (listed : Array Bool) (a : Act) (w : World) : Prop where
  size : a.tmps.size = N
  defers : a.defers = ds
  below : Below w0.heap.size w0 w
  val : ∀ t, t < N → (∀ (j : Nat) (q : List Nat × Nat), tab[j]? = some q → q.2 = t → listed[j]? = some true) → ∃ v, a.tmps[t]? = some v ∧ (E t).fits w v
/-- A frame between two regions. -/
structure St (N : Nat) (E : Nat → AV) (ds : List Deferred) (w0 : World) (a : Act) (w : World) : Prop where
  size : a.tmps.size = N
  defers : a.defers = ds
  below : Below w0.heap.size w0 w
  val : ∀ t, t < N → ∃ v, a.tmps[t]? = some v ∧ (E t).fits w v

theorem ready_iff {ops : Array Oper} {listed : Array Bool} (hl : listed.size = ops.size) {i : Nat} {o : Oper} (ho : ops[i]? = some o) :
    i ∈ Region.ready .any ops listed ↔ listed[i]? = some false ∧ ∀ e ∈ o.after, Region.binds .any e = true → listed[e.on]? = some true := by
  obtain ⟨hi, _⟩ := Array.getElem?_eq_some_iff.1 ho
  have hi' : i < listed.size := by omega
  unfold Region.ready
  rw [List.mem_filter, List.mem_range]
  simp only [ho, Option.map_some, Option.getD_some, Bool.and_eq_true, Bool.not_eq_true', Array.all_eq_true_iff_forall_mem, Bool.or_eq_true, Bool.not_eq_true']
  constructor
  · rintro ⟨_, h1, h2⟩
    refine ⟨?_, fun e he hb => ?_⟩
    · rw [Array.getD_eq_getD_getElem?] at h1
      rw [Array.getElem?_eq_getElem hi'] at h1 ⊢
      simpa using h1
    · rcases h2 e he with h | h
      · rw [hb] at h; cases h
      · rw [Array.getD_eq_getD_getElem?] at h
        cases hq : listed[e.on]? with
        | none => rw [hq] at h; simp at h
        | some b => rw [hq] at h; simp at h; rw [h]
  · rintro ⟨h1, h2⟩
    refine ⟨hi, by rw [Array.getD_eq_getD_getElem?, h1]; rfl, fun e he => ?_⟩
    cases hb : Region.binds .any e with
    | false => exact .inl rfl
    | true => right; rw [Array.getD_eq_getD_getElem?, h2 e he hb]; rfl

section
variable {P : Program} {ops : Array Oper} {Q : Exit → Act → World → Prop} {N : Nat} {tab : List (List Nat × Nat)} {E : Nat → AV} {ds : List Deferred} {w0 : World}

theorem all_listed (ht : tabOk N ops tab = true) {listed : Array Bool} (hl : listed.size = ops.size) (hr : Region.ready .any ops listed = []) : ∀ (n i : Nat), i < n → i < ops.size → listed[i]? = some true
  | 0, i, h, _ => absurd h (Nat.not_lt_zero _)
  | n + 1, i, h, hi => by
    obtain ⟨o, r, ho, _, hT⟩ := (tabOk_at ht).2 i hi
    have hi' : i < listed.size := by omega
    cases hb : listed[i] with
    | true => rw [Array.getElem?_eq_getElem hi', hb]
    | false =>
      have hm : i ∈ Region.ready .any ops listed := (ready_iff hl ho).2 ⟨by rw [Array.getElem?_eq_getElem hi', hb], fun e he _ => by
        have := hT.aft e he
        exact all_listed ht hl hr n e.on (by omega) (by omega)⟩
      rw [hr] at hm
      cases hm

theorem wpAny_abs (ht : tabOk N ops tab = true) (hops : ∀ (i : Nat) (r : List Nat × Nat), tab[i]? = some r → OpOk P ops E w0 r.1 i r.2)
    (hQ : ∀ a w, St N E ds w0 a w → Q .normal a w) : ∀ (fuel : Nat) (listed : Array Bool) (a : Act) (w : World), listed.size = ops.size → unl listed.toList ≤ fuel → Mid N tab E ds w0 listed a w → wpAny P .any ops Q fuel listed a w := by
  obtain ⟨hsz, hT⟩ := tabOk_at ht
  have fin : ∀ (listed : Array Bool) (a : Act) (w : World), listed.size = ops.size → Mid N tab E ds w0 listed a w → Region.ready .any ops listed = [] → Q .normal a w := fun listed a w hl hM hr =>
    hQ a w ⟨hM.size, hM.defers, hM.below, fun t htN => hM.val t htN (fun j q hq _ => all_listed ht hl hr (j + 1) j (by omega) (by
      obtain ⟨hj, _⟩ := List.getElem?_eq_some_iff.1 hq
      omega))⟩
  intro fuel
  induction fuel with
  | zero =>
    intro listed a w hl hu hM
    have hr : Region.ready .any ops listed = [] := by
      rw [List.eq_nil_iff_forall_not_mem]
      intro i hi
      have hi2 : i < ops.size := by
        unfold Region.ready at hi
        rw [List.mem_filter, List.mem_range] at hi
        exact hi.1
      obtain ⟨o, _, ho, _, _⟩ := hT i hi2
      have h1 := ((ready_iff hl ho).1 hi).1
      have := unl_zero listed.toList i false (by omega) (by simpa using h1)
      cases this
    exact ⟨hr, fin listed a w hl hM hr⟩
  | succ fuel ih =>
    intro listed a w hl hu hM
    refine ⟨fun hr => fin listed a w hl hM hr, fun i hi => ?_⟩
    have hi2 : i < ops.size := by
      unfold Region.ready at hi
      rw [List.mem_filter, List.mem_range] at hi
      exact hi.1
    obtain ⟨o, r, ho, hr, hI⟩ := hT i hi2
    obtain ⟨hf, hp⟩ := (ready_iff hl ho).1 hi
    refine hops i r hr Q _ a w hM.below (fun t ht2 => ?_) (fun v w' hb hv => ?_)
    · obtain ⟨htN, hj⟩ := hI.read t ht2
      refine hM.val t htN (fun j q hq hqt => ?_)
      obtain ⟨e, he, hb, hon⟩ := hj j q hq hqt
      rw [← hon]
      exact hp e he hb
    · have hu2 := unl_set listed.toList i (by simpa using hf)
      refine ih _ _ _ (by simpa using hl) (by rw [Array.toList_setIfInBounds]; omega) ⟨by simpa [Act.put] using hM.size, hM.defers, below_then hM.below hM.below.size hb, fun t htN hjs => ?_⟩
      show ∃ u, (a.tmps.setIfInBounds r.2 v)[t]? = some u ∧ (E t).fits w' u
      by_cases htd : r.2 = t
      · subst htd
        exact ⟨v, by rw [Array.getElem?_setIfInBounds_self_of_lt (by rw [hM.size]; exact htN)], hv⟩
      · rw [Array.getElem?_setIfInBounds_ne htd]
        obtain ⟨u, h1, h2⟩ := hM.val t htN (fun j q hq hqt => by
          have := hjs j q hq hqt
          have hne : i ≠ j := by
            rintro rfl
            rw [hr] at hq
            cases hq
            exact htd hqt
          rwa [Array.getElem?_setIfInBounds_ne hne] at this)
        exact ⟨u, h1, (E t).keep hb h2⟩

/-- The kinds behind a region: the table's kinds, else as before. -/
def upd (E0 : Nat → AV) : List (List Nat × Nat) → List AV → Nat → AV
  | r :: rs, x :: xs => fun t => bif Nat.beq t r.2 then x else upd E0 rs xs t
  | _, _ => E0
theorem upd_out (E0 : Nat → AV) : ∀ (tab : List (List Nat × Nat)) (xs : List AV) (t : Nat), (∀ (j : Nat) (q : List Nat × Nat), tab[j]? = some q → q.2 ≠ t) → upd E0 tab xs t = E0 t
  | [], _, t, _ => by cases ‹List AV› <;> rfl
  | _ :: _, [], t, _ => rfl
  | r :: rs, x :: xs, t, h => by
    have h0 := h 0 r rfl
    have hne : Nat.beq t r.2 = false := by
      cases hb : Nat.beq t r.2 with
      | false => rfl
      | true => exact absurd (Nat.eq_of_beq_eq_true hb).symm h0
    show (bif Nat.beq t r.2 then x else upd E0 rs xs t) = E0 t
    rw [hne]
    exact upd_out E0 rs xs t (fun j q hq => h (j + 1) q (by simpa using hq))

def AllOk (P : Program) (ops : Array Oper) (E : Nat → AV) (w0 : World) : List (List Nat × Nat) → Nat → Prop
  | [], _ => True
  | r :: rs, i => OpOk P ops E w0 r.1 i r.2 ∧ AllOk P ops E w0 rs (i + 1)
theorem AllOk.at : ∀ {tab : List (List Nat × Nat)} {n : Nat}, AllOk P ops E w0 tab n → ∀ (i : Nat) (r : List Nat × Nat), tab[i]? = some r → OpOk P ops E w0 r.1 (n + i) r.2
  | [], _, _, i, r, hr => by simp at hr
  | r0 :: rs, n, h, 0, r, hr => by
    simp only [List.getElem?_cons_zero, Option.some.injEq] at hr
    subst hr
    exact h.1
  | r0 :: rs, n, h, i + 1, r, hr => by
    have := AllOk.at h.2 i r (by simpa using hr)
    rwa [show n + (i + 1) = n + 1 + i by omega]

theorem region_abs {id : Nat} {E0 : Nat → AV} {vals : List AV} {a : Act} {w : World} (hm : P.follows .mixedOrders = true) (ht : tabOk N ops tab = true) (hops : AllOk P ops (upd E0 tab vals) w0 tab 0)
    (hS : St N E0 ds w0 a w) (hQ : ∀ a w, St N (upd E0 tab vals) ds w0 a w → Q .normal a w) : (Code.region id ops true).wp P Q a w := by
  refine wp_region_any hm (wpAny_abs ht (fun i r hr => by have := hops.at i r hr; rwa [Nat.zero_add] at this) hQ ops.size _ a _ (by simp) (by simp [unl_replicate]) ?_)
  refine ⟨hS.size, hS.defers, below_drew1 hS.below, fun t htN hjs => ?_⟩
  obtain ⟨v, h1, h2⟩ := hS.val t htN
  refine ⟨v, h1, ?_⟩
  rw [upd_out E0 tab vals t (fun j q hq hqt => by
    have := hjs j q hq hqt
    obtain ⟨hj, _⟩ := List.getElem?_eq_some_iff.1 hq
    have hs := (tabOk_at ht).1
    simp [Array.getElem?_replicate] at this)]
  exact (E0 t).keep (below_drew1 (Below.refl _ w)) h2
end

/-! ### Regions in the order of their text -/
def seqOk (N : Nat) (ops : Array Oper) (tab : List (List Nat × Nat)) : Bool :=
  (List.range tab.length).all fun i => match tab[i]? with
    | some r => decide (r.2 < N) && (decide (i < ops.size)) && r.1.all fun t => decide (t < N) && (List.range tab.length).all fun j => match tab[j]? with
      | some q => q.2 != t || decide (j < i)
      | none => true
    | none => false
theorem seqOk_at {N : Nat} {ops : Array Oper} {tab : List (List Nat × Nat)} (h : seqOk N ops tab = true) {i : Nat} {r : List Nat × Nat} (hr : tab[i]? = some r) :
    r.2 < N ∧ ∀ t ∈ r.1, t < N ∧ ∀ (j : Nat) (q : List Nat × Nat), tab[j]? = some q → q.2 = t → j < i := by
  obtain ⟨hi, _⟩ := List.getElem?_eq_some_iff.1 hr
  have h := List.all_eq_true.1 h i (List.mem_range.2 hi)
  rw [hr] at h
  simp only [Bool.and_eq_true, decide_eq_true_eq] at h
  obtain ⟨⟨h1, _⟩, h3⟩ := h
  refine ⟨h1, fun t ht => ?_⟩
  have h4 := List.all_eq_true.1 h3 t ht
  simp only [Bool.and_eq_true, decide_eq_true_eq] at h4
  refine ⟨h4.1, fun j q hq hqt => ?_⟩
  obtain ⟨hj, _⟩ := List.getElem?_eq_some_iff.1 hq
  have h5 := List.all_eq_true.1 h4.2 j (List.mem_range.2 hj)
  rw [hq] at h5
  simpa [hqt] using h5
section
variable {P : Program} {ops : Array Oper} {Q : Exit → Act → World → Prop} {N : Nat} {tab : List (List Nat × Nat)} {ds : List Deferred} {w0 : World}
/-- The first rows of a region's text, walked by the table; then the rest. -/
theorem ops_abs {E0 : Nat → AV} {vals : List AV} {rest : List Nat} (ht : seqOk N ops tab = true) (hops : AllOk P ops (upd E0 tab vals) w0 tab 0)
    (hQ : ∀ a w, St N (upd E0 tab vals) ds w0 a w → wpOps P ops Q rest a w) {a : Act} {w : World} (hS : St N E0 ds w0 a w) : wpOps P ops Q (List.range tab.length ++ rest) a w := by
  have hops' : ∀ (i : Nat) (r : List Nat × Nat), tab[i]? = some r → OpOk P ops (upd E0 tab vals) w0 r.1 i r.2 := fun i r hr => by have := hops.at i r hr; rwa [Nat.zero_add] at this
  have key : ∀ (n i : Nat) (a : Act) (w : World), i + n = tab.length → a.tmps.size = N → a.defers = ds → Below w0.heap.size w0 w →
      (∀ t, t < N → (∀ (j : Nat) (q : List Nat × Nat), tab[j]? = some q → q.2 = t → j < i) → ∃ v, a.tmps[t]? = some v ∧ ((upd E0 tab vals) t).fits w v) → wpOps P ops Q (List.range' i n ++ rest) a w := by
    intro n
    induction n with
    | zero =>
      intro i a w hi h1 h2 h3 h4
      exact hQ a w ⟨h1, h2, h3, fun t htN => h4 t htN (fun j q hq _ => by
        obtain ⟨hj, _⟩ := List.getElem?_eq_some_iff.1 hq
        omega)⟩
    | succ n ih =>
      intro i a w hi h1 h2 h3 h4
      obtain ⟨r, hr⟩ : ∃ r, tab[i]? = some r := ⟨tab[i]'(by omega), List.getElem?_eq_getElem (by omega)⟩
      obtain ⟨hd, hrd⟩ := seqOk_at ht hr
      rw [List.range'_succ, List.cons_append, wpOps_cons]
      refine hops' i r hr Q _ a w h3 (fun t htR => h4 t (hrd t htR).1 (hrd t htR).2) (fun v w' hb hv => ?_)
      refine ih (i + 1) _ _ (by omega) (by simpa [Act.put] using h1) h2 (below_then h3 h3.size hb) (fun t htN hjs => ?_)
      show ∃ u, (a.tmps.setIfInBounds r.2 v)[t]? = some u ∧ ((upd E0 tab vals) t).fits w' u
      by_cases htd : r.2 = t
      · subst htd
        exact ⟨v, by rw [Array.getElem?_setIfInBounds_self_of_lt (by rw [h1]; exact htN)], hv⟩
      · rw [Array.getElem?_setIfInBounds_ne htd]
        obtain ⟨u, k1, k2⟩ := h4 t htN (fun j q hq hqt => by
          have := hjs j q hq hqt
          have hne : j ≠ i := by
            rintro rfl
            rw [hr] at hq
            cases hq
            exact htd hqt
          omega)
        exact ⟨u, k1, (upd E0 tab vals t).keep hb k2⟩
  rw [List.range_eq_range']
  refine key tab.length 0 a w (by omega) hS.size hS.defers hS.below (fun t htN hjs => ?_)
  obtain ⟨v, h1, h2⟩ := hS.val t htN
  refine ⟨v, h1, ?_⟩
  rw [upd_out E0 tab vals t (fun j q hq hqt => absurd (hjs j q hq hqt) (Nat.not_lt_zero _))]
  exact h2
theorem region_seq {id : Nat} {E0 : Nat → AV} {vals : List AV} {a : Act} {w : World} (hn : (List.range ops.size = List.range tab.length ++ [])) (ht : seqOk N ops tab = true) (hops : AllOk P ops (upd E0 tab vals) w0 tab 0)
    (hS : St N E0 ds w0 a w) (hQ : ∀ a w, St N (upd E0 tab vals) ds w0 a w → Q .normal a w) : (Code.region id ops false).wp P Q a w :=
  wp_region (by rw [hn]; exact ops_abs ht hops hQ hS)
/-- A call begins: the arguments, and nothing yet. -/
def kindsOf (xs : List AV) : Nat → AV := fun t => xs.getD t AV.any
theorem st_enter : ∀ {xs : List AV} {vs : List Value} {n : Nat} {w : World}, Fits2 w xs vs → vs.length + n = N → St N (kindsOf xs) [] w { tmps := vs.toArray ++ Array.replicate n undef, defers := [] } w := by
  intro xs vs n w h hN
  refine ⟨by simpa using hN, rfl, Below.refl _ w, fun t htN => ?_⟩
  have key : ∀ (xs : List AV) (vs : List Value) (t : Nat), Fits2 w xs vs → t < vs.length + n → ∃ v, (vs ++ List.replicate n undef)[t]? = some v ∧ ((xs.getD t AV.any).fits w v) := by
    intro xs
    induction xs with
    | nil =>
      intro vs t hF ht
      cases vs with
      | nil => exact ⟨undef, by simp at ht ⊢; exact List.getElem?_replicate_of_lt ht |>.trans rfl, trivial⟩
      | cons v vs => exact hF.elim
    | cons x xs ih =>
      intro vs t hF ht
      cases vs with
      | nil => exact hF.elim
      | cons v vs =>
        cases t with
        | zero => exact ⟨v, rfl, hF.1⟩
        | succ t => simpa using ih vs t hF.2 (by simp at ht; omega)
  obtain ⟨v, h1, h2⟩ := key xs vs t h (by omega)
  have e : vs.toArray ++ Array.replicate n undef = (vs ++ List.replicate n undef).toArray := by apply Array.ext'; simp
  exact ⟨v, by show (vs.toArray ++ Array.replicate n undef)[t]? = _; rw [e]; simpa using h1, h2⟩
theorem calls_abs {f : FuncId} {fn : Func} {c : Code} {vs : List Value} {xs : List AV} {w : World} {R : Ending → World → Prop} (hf : P.funcs[f]? = some fn) (hb : fn.body = some c) (hN : vs.length + (fn.ntmps - vs.length) = N) (h : Fits2 w xs vs)
    (hw : ∀ a, St N (kindsOf xs) [] w a w → c.wp P (bodyPost P fn R) a w) : Calls P f vs.toArray w R :=
  calls_of_wp hf hb (hw _ (st_enter h (by simpa using hN)))
/-- It returns what a temporary holds. -/
theorem post_ret {fn : Func} {R : Ending → World → Prop} {E : Nat → AV} {a : Act} {w : World} (t : Nat) {x : Value} (hr : fn.results = #[.tmp t]) (hS : St N E [] w0 a w) (ht : t < N) (hE : E t = AV.is x) (h : R (.returned x) w) : bodyPost P fn R .ret a w := by
  refine ⟨hS.defers, x, ?_, h⟩
  have hk : Knows E [t] a w := fun s hs => by
    simp only [List.mem_singleton] at hs
    subst hs
    exact hS.val _ ht
  have e := hk.is (List.mem_singleton.2 rfl) hE
  unfold results
  rw [hr]
  simp only [Act.eval, Array.getD_eq_getD_getElem?] at e
  simp [e]
theorem St.eval {E : Nat → AV} {a : Act} {w : World} (hS : St N E ds w0 a w) (t : Nat) {x : Value} (ht : t < N) (hE : E t = AV.is x) : a.eval (.tmp t) = x := by
  have hk : Knows E [t] a w := fun s hs => by
    simp only [List.mem_singleton] at hs
    subst hs
    exact hS.val _ ht
  exact hk.is (List.mem_singleton.2 rfl) hE
end

/-! ### Single operations -/
def Guarded (ops : Array Oper) (E : Nat → AV) (R : List Nat) : Option (Nat × Bool) → Prop
  | none => True
  | some (j, b) => ∃ t, dstOf ops j = some t ∧ t ∈ R ∧ E t = AV.bool b
section
variable {P : Program} {ops : Array Oper} {E : Nat → AV} {w0 : World} {R : List Nat} {i d : Nat} {g : Option (Nat × Bool)}
theorem wpOp_run {Q : Exit → Act → World → Prop} {K : Act → World → Prop} {a : Act} {w : World} {op : Op} {N : Option Tmp} (hi : shape ops i = some (op, N, none)) (h : ∀ o : Oper, o.op = op → o.dst = N → o.wp P a w K Q) : wpOp P ops Q i K a w := by
  unfold shape at hi
  cases ho : ops[i]? with
  | none => rw [ho] at hi; cases hi
  | some o =>
    rw [ho] at hi
    simp only [Option.map_some, Option.some.injEq, Prod.mk.injEq] at hi
    obtain ⟨h1, h2, h3⟩ := hi
    have hw : Region.wanted o (yielded ops a.tmps) = true := by unfold Region.wanted; rw [h3]
    unfold wpOp
    rw [ho]
    simp only [hw, if_true]
    exact .inl (h o h1 h2)
theorem op_of {op : Op} (hi : shape ops i = some (op, some d, g)) (hg : Guarded ops E R g)
    (h : ∀ (o : Oper) (Q : Exit → Act → World → Prop) (K : Act → World → Prop) (a : Act) (w : World), o.op = op → o.dst = some d → Below w0.heap.size w0 w → Knows E R a w →
      (∀ v w', Below w.heap.size w w' → (E d).fits w' v → K (a.put o.dst v) w') → o.wp P a w K Q) : OpOk P ops E w0 R i d := by
  intro Q K a w hb hk hK
  unfold shape at hi
  cases ho : ops[i]? with
  | none => rw [ho] at hi; cases hi
  | some o =>
    rw [ho] at hi
    simp only [Option.map_some, Option.some.injEq, Prod.mk.injEq] at hi
    obtain ⟨h1, h2, h3⟩ := hi
    have hw : Region.wanted o (yielded ops a.tmps) = true := by
      unfold Region.wanted
      rw [h3]
      cases g with
      | none => rfl
      | some jb =>
        obtain ⟨j, b⟩ := jb
        obtain ⟨t, ht, htR, hE⟩ := hg
        obtain ⟨v, hv, hf⟩ := hk t htR
        rw [hE] at hf
        have hf : v = .bool b := hf
        subst hf
        unfold dstOf at ht
        simp [yielded, ht, hv]
    unfold wpOp
    rw [ho]
    simp only [hw, if_true]
    exact .inl (h o Q K a w h1 h2 hb hk (fun v w' hb' hv => by rw [h2]; exact hK v w' hb' hv))
theorem op_skip {j : Nat} {b : Bool} (t : Nat) (c : Bool) (hi : shapeG ops i = some (some d, some (j, b))) (hj : dstOf ops j = some t) (ht : t ∈ R) (hE : E t = AV.bool c) (hne : (c == b) = false) (hd : E d = AV.is undef) : OpOk P ops E w0 R i d := by
  intro Q K a w hb hk hK
  unfold shapeG at hi
  cases ho : ops[i]? with
  | none => rw [ho] at hi; cases hi
  | some o =>
    rw [ho] at hi
    simp only [Option.map_some, Option.some.injEq, Prod.mk.injEq] at hi
    obtain ⟨h2, h3⟩ := hi
    have hw : Region.wanted o (yielded ops a.tmps) = false := by
      unfold Region.wanted
      rw [h3]
      obtain ⟨v, hv, hf⟩ := hk t ht
      rw [hE] at hf
      have hf : v = .bool c := hf
      subst hf
      unfold dstOf at hj
      simp only [yielded, hj, Option.bind_some, hv]
      cases c <;> cases b <;> first | rfl | cases hne
    unfold wpOp
    rw [ho]
    simp only [hw]
    rw [h2]
    exact hK undef w (Below.refl _ w) (by rw [hd]; exact rfl)

theorem op_skip_u {j : Nat} {b : Bool} (t : Nat) (hi : shapeG ops i = some (some d, some (j, b))) (hj : dstOf ops j = some t) (ht : t ∈ R) (hE : E t = AV.is undef) (hd : E d = AV.is undef) : OpOk P ops E w0 R i d := by
  intro Q K a w hb hk hK
  unfold shapeG at hi
  cases ho : ops[i]? with
  | none => rw [ho] at hi; cases hi
  | some o =>
    rw [ho] at hi
    simp only [Option.map_some, Option.some.injEq, Prod.mk.injEq] at hi
    obtain ⟨h2, h3⟩ := hi
    have hw : Region.wanted o (yielded ops a.tmps) = false := by
      unfold Region.wanted
      rw [h3]
      obtain ⟨v, hv, hf⟩ := hk t ht
      rw [hE] at hf
      have hf : v = undef := hf
      subst hf
      unfold dstOf at hj
      simp only [yielded, hj, Option.bind_some, hv]
      rfl
    unfold wpOp
    rw [ho]
    simp only [hw]
    rw [h2]
    exact hK undef w (Below.refl _ w) (by rw [hd]; exact rfl)

theorem op_move (x : Nat) (hi : shape ops i = some (.move (.tmp x), some d, g)) (hg : Guarded ops E R g) (hx : x ∈ R) (hd : E d = E x) : OpOk P ops E w0 R i d :=
  op_of hi hg fun o Q K a w hop _ _ hk hK => by
    unfold Oper.wp execOp
    rw [hop]
    exact hK _ w (Below.refl _ w) (by rw [hd]; exact hk.fit hx rfl)
theorem op_assign (x : Nat) (hi : shape ops i = some (.assign (.tmp x), some d, g)) (hg : Guarded ops E R g) (hx : x ∈ R) (hd : E d = E x) : OpOk P ops E w0 R i d :=
  op_of hi hg fun o Q K a w hop _ _ hk hK => by
    unfold Oper.wp execOp
    rw [hop]
    exact hK _ w (Below.refl _ w) (by rw [hd]; exact hk.fit hx rfl)
/-- 'pick' where the first is taken: a constant. -/
theorem op_pick_tc (c : Nat) (v : Value) (y : Operand) (hi : shape ops i = some (.pick (.tmp c) (.const v) y, some d, g)) (hg : Guarded ops E R g) (hc : c ∈ R) (hE : E c = AV.bool true) (hd : E d = AV.is v) : OpOk P ops E w0 R i d :=
  op_of hi hg fun o Q K a w hop _ _ hk hK => by
    unfold Oper.wp execOp
    rw [hop]
    have e := hk.is hc hE
    simp only [e]
    exact hK _ w (Below.refl _ w) (by rw [hd]; exact rfl)
theorem op_pick_t (c x : Nat) (y : Operand) (hi : shape ops i = some (.pick (.tmp c) (.tmp x) y, some d, g)) (hg : Guarded ops E R g) (hc : c ∈ R) (hx : x ∈ R) (hE : E c = AV.bool true) (hd : E d = E x) : OpOk P ops E w0 R i d :=
  op_of hi hg fun o Q K a w hop _ _ hk hK => by
    unfold Oper.wp execOp
    rw [hop]
    have e := hk.is hc hE
    simp only [e]
    exact hK _ w (Below.refl _ w) (by rw [hd]; exact hk.fit hx rfl)
theorem op_pick_f (c y : Nat) (x : Operand) (hi : shape ops i = some (.pick (.tmp c) x (.tmp y), some d, g)) (hg : Guarded ops E R g) (hc : c ∈ R) (hy : y ∈ R) (hE : E c = AV.bool false) (hd : E d = E y) : OpOk P ops E w0 R i d :=
  op_of hi hg fun o Q K a w hop _ _ hk hK => by
    unfold Oper.wp execOp
    rw [hop]
    have e := hk.is hc hE
    simp only [e]
    exact hK _ w (Below.refl _ w) (by rw [hd]; exact hk.fit hy rfl)
theorem op_pick_fc (c : Nat) (v : Value) (x : Operand) (hi : shape ops i = some (.pick (.tmp c) x (.const v), some d, g)) (hg : Guarded ops E R g) (hc : c ∈ R) (hE : E c = AV.bool false) (hd : E d = AV.is v) : OpOk P ops E w0 R i d :=
  op_of hi hg fun o Q K a w hop _ _ hk hK => by
    unfold Oper.wp execOp
    rw [hop]
    have e := hk.is hc hE
    simp only [e]
    exact hK _ w (Below.refl _ w) (by rw [hd]; exact rfl)

theorem fits2_tmps {E : Nat → AV} {R : List Nat} {a : Act} {w : World} (hk : Knows E R a w) : ∀ ts : List Nat, (∀ t ∈ ts, t ∈ R) → Fits2 w (ts.map E) (ts.map fun t => a.eval (.tmp t))
  | [], _ => trivial
  | t :: ts, h => ⟨hk.fit (h t (by simp)) rfl, fits2_tmps hk ts (fun t ht => h t (by simp [ht]))⟩
/-- What a function yields, told of kinds. -/
def Contract (P : Program) (w0 : World) (f : FuncId) (xs : List AV) (y : AV) : Prop :=
  ∀ (w : World) (vs : List Value), Below w0.heap.size w0 w → Fits2 w xs vs → Calls P f vs.toArray w fun e w' => ∃ v, e = .returned v ∧ y.fits w' v ∧ Below w.heap.size w w'
theorem op_call (f : FuncId) (ts : List Nat) (tys : Array TypeId) (xs : List AV) {y : AV} {fn : Func} (hi : shape ops i = some (.call { callee := .value (.func f), args := (ts.map Operand.tmp).toArray, argTypes := tys }, some d, g)) (hg : Guarded ops E R g)
    (hf : P.funcs[f]? = some fn) (hname : (fn.name == "runtime.NumGoroutine") = false) (hb : fn.body.isSome = true)
    (hts : ∀ t ∈ ts, t ∈ R) (hxs : ts.map E = xs) (hc : Contract P w0 f xs y) (hd : E d = y) : OpOk P ops E w0 R i d :=
  op_of hi hg fun o Q K a w hop hdo hB hk hK => by
    have hF := fits2_tmps hk ts hts
    rw [hxs] at hF
    have hrun : (execOp a.eval o).run P w = .ok (.enter f (ts.map fun t => a.eval (.tmp t)).toArray) w := by
      have he := enters_ hf hname hb (ts.map fun t => a.eval (.tmp t)).toArray w
      unfold execOp
      simp [hop, resolve, Deferred.ofValue, invoke, Act.eval]
      simpa [Act.eval, Function.comp_def] using he
    unfold Oper.wp
    rw [hrun, Oper.upon_enter]
    refine (hc w _ hB hF).mono fun e w' hh => ?_
    obtain ⟨v, rfl, hv, hbl⟩ := hh
    exact hK v w' hbl (by rw [hd]; exact hv)
end
end Go.Proofs.YtpnkkhichkmmmaaGreatDoor.Q
