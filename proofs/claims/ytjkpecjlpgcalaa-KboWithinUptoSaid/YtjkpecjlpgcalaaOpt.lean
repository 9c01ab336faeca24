/- As in Rel, and a guard may be so or not: the value of an operation that is passed over is not defined. -/
import Derived.Test.YtjkpecjlpgcalaaRelT
namespace Go.Proofs.Ytjkpecjlpgcalaa
open Go.RowKit Go

section
variable {P : Program} {ops : Array Oper}

/-- Whether the operation is wanted, by what is known of its guard. -/
inductive GuardIs (R : Nat → Value → World → Prop) (o : Oper) : Bool → Prop where
  | none (h : o.guard = none) : GuardIs R o true
  | yes {g : Nat} {c d : Bool} (h : o.guard = some (g, true)) (hv : ∀ v w, R g v w → (d = true → v = .bool c) ∧ (d = false → v = undef)) : GuardIs R o (d && c)
  | no {g : Nat} {c d : Bool} (h : o.guard = some (g, false)) (hv : ∀ v w, R g v w → (d = true → v = .bool c) ∧ (d = false → v = undef)) : GuardIs R o (d && !c)

/-- One operation holds its relation. -/
def Sound2 (P : Program) (ops : Array Oper) (Q : Exit → Act → World → Prop) (R : Nat → Value → World → Prop) (w0 : World) (a0 : Act) (i : Nat) (o : Oper) : Prop :=
  ∃ β, GuardIs R o β ∧ (β = false → ∀ w, R i undef w) ∧
  (β = true → ∀ (f : Nat → Value) (w : World), Below w0.heap.size w0 w → (∀ d, (dstsOf ops).contains d = false → f d = a0.tmps.getD d undef) →
    (∀ j d, depB ops o j d = true → R j (f d) w) →
    o.wp P ⟨((List.range a0.tmps.size).map f).toArray, a0.defers⟩ w (fun a' w' => ∃ v, a' = Act.put ⟨((List.range a0.tmps.size).map f).toArray, a0.defers⟩ o.dst v ∧ Below w.heap.size w w' ∧ R i v w') Q)

def SoundFrom2 (P : Program) (ops : Array Oper) (Q : Exit → Act → World → Prop) (R : Nat → Value → World → Prop) (w0 : World) (a0 : Act) : Nat → List Oper → Prop
  | _, [] => True
  | k, o :: r => Sound2 P ops Q R w0 a0 k o ∧ SoundFrom2 P ops Q R w0 a0 (k + 1) r

theorem SoundFrom2.at_ {Q : Exit → Act → World → Prop} {R : Nat → Value → World → Prop} {w0 : World} {a0 : Act} : ∀ {l : List Oper} {k : Nat}, SoundFrom2 P ops Q R w0 a0 k l → ∀ i o, l[i]? = some o → Sound2 P ops Q R w0 a0 (k + i) o
  | [], _, _, i, o, h => by simp at h
  | x :: r, k, h, 0, o, ho => by simp at ho; subst ho; exact h.1
  | x :: r, k, h, i + 1, o, ho => by
    have := h.2.at_ i o (by simpa using ho)
    rwa [show k + 1 + i = k + (i + 1) by omega] at this

theorem any_list {n : Nat} (hB : opsB ops n = true) {Q : Exit → Act → World → Prop} : ∀ (l : List Oper) (k fuel : Nat) (listed : Array Bool) (a : Act) (w : World), (∀ j, l[j]? = ops[k + j]?) → listed.size = ops.size → (∀ j, j < ops.size → (listed.getD j true = true ↔ j < k)) → l.length ≤ fuel →
    wpAny P .any ops Q fuel listed a w → wpList P ops Q l a w
  | [], k, fuel, listed, a, w, hl, hs, hk, _, h => by
    have hge : ops.size ≤ k := by
      have := hl 0
      simp only [List.getElem?_nil, Nat.add_zero] at this
      rcases Nat.lt_or_ge k ops.size with h | h
      · simp [h] at this
      · exact h
    have hr : Region.ready .any ops listed = [] := by
      cases hr : Region.ready .any ops listed with
      | nil => rfl
      | cons i r =>
        obtain ⟨h1, o, ho, _⟩ := (mem_ready (md := .any) (ops := ops) (j := i) (listed := listed)).1 (by rw [hr]; simp)
        have hi : i < ops.size := by
          rcases Nat.lt_or_ge i ops.size with h | h
          · exact h
          · simp [Array.getElem?_eq_none h] at ho
        rw [(hk i hi).2 (by omega)] at h1
        cases h1
    cases fuel with
    | zero => exact h.2
    | succ fuel => exact h.1 hr
  | o :: r, k, fuel, listed, a, w, hl, hs, hk, hf, h => by
    have ho : ops[k]? = some o := by simpa using (hl 0).symm
    have hkl : k < ops.size := by
      rcases Nat.lt_or_ge k ops.size with h | h
      · exact h
      · simp [Array.getElem?_eq_none h] at ho
    cases fuel with
    | zero => simp at hf
    | succ fuel =>
      have hready : k ∈ Region.ready .any ops listed := mem_ready.2 ⟨by
        cases hc : listed.getD k true with
        | false => rfl
        | true => exact absurd ((hk k hkl).1 hc) (by omega), o, ho, fun e he hbe => by
          have := (opsB_spec hB ho).after e he hbe
          have h2 := (hk e.on (by omega)).2 this
          simpa [Array.getD, show e.on < listed.size by omega] using h2⟩
      have h2 := h.2 k hready
      unfold wpOp at h2
      simp only [ho] at h2
      have ih := fun a w => any_list hB (Q := Q) r (k + 1) fuel (listed.setIfInBounds k true) a w (fun j => by have := hl (j + 1); simpa [Nat.add_assoc, Nat.add_comm 1 j] using this) (by simpa using hs) (fun j hj => by
        by_cases hjk : j = k
        · subst hjk; simp [Array.getD, hs, hj]
        · rw [getD_set_ne true (Ne.symm hjk), hk j hj]; omega) (by simpa using hf)
      rw [wpList]
      split
      · rename_i hw
        rw [if_pos hw] at h2
        exact h2.imp (Oper.wp_mono (fun a w h => ih a w h)) id
      · rename_i hw
        rw [if_neg hw] at h2
        exact ih _ _ h2
theorem any_start {n : Nat} (hB : opsB ops n = true) {Q : Exit → Act → World → Prop} {id : Nat} {a : Act} {w : World} (h : wpAny P .any ops Q ops.size (Array.replicate ops.size false) a w) : (Code.region id ops false).wp P Q a w :=
  wp_region_list (any_list hB ops.toList 0 ops.size _ a w (by simp) (by simp) (fun j hj => by simp [Array.getD, hj]) (by simp) h)

theorem wp_any_opt {Q : Exit → Act → World → Prop} {a0 : Act} {w0 : World} (R : Nat → Value → World → Prop) (hB : opsB ops a0.tmps.size = true)
    (hR : ∀ i v w w', R i v w → Below w.heap.size w w' → R i v w')
    (h : SoundFrom2 P ops Q R w0 a0 0 ops.toList)
    (hQ : ∀ (u : Nat → Value) (w : World), Below w0.heap.size w0 w → (∀ i d, (ops[i]?).bind (·.dst) = some d → R i (u d) w) → Q .normal ⟨(fin (dstsOf ops) u 0 a0.tmps.toList).toArray, a0.defers⟩ w) :
    ∀ w1, Below w0.heap.size w0 w1 → wpAny P .any ops Q ops.size (Array.replicate ops.size false) a0 w1 := by
  intro w1 hw1
  have main : ∀ (fuel : Nat) (listed : Array Bool) (f : Nat → Value) (w : World), listed.size = ops.size → listed.toList.count false ≤ fuel → Below w0.heap.size w0 w →
      (∀ d, (dstsOf ops).contains d = false → f d = a0.tmps.getD d undef) →
      (∀ i d, listed.getD i false = true → (ops[i]?).bind (·.dst) = some d → R i (f d) w) →
      wpAny P .any ops Q fuel listed ⟨((List.range a0.tmps.size).map f).toArray, a0.defers⟩ w := by
    intro fuel
    have done : ∀ (listed : Array Bool) (f : Nat → Value) (w : World), listed.size = ops.size → Region.ready .any ops listed = [] → Below w0.heap.size w0 w →
      (∀ d, (dstsOf ops).contains d = false → f d = a0.tmps.getD d undef) →
      (∀ i d, listed.getD i false = true → (ops[i]?).bind (·.dst) = some d → R i (f d) w) →
      Q .normal ⟨((List.range a0.tmps.size).map f).toArray, a0.defers⟩ w := by
      intro listed f w hs hr hw hn hl
      have := hQ f w hw (fun i d hd => by
        have hi : i < ops.size := by
          rcases Nat.lt_or_ge i ops.size with h | h
          · exact h
          · simp [Array.getElem?_eq_none h] at hd
        have := ready_nil hB hs hr i hi
        exact hl i d (by simpa [Array.getD, show i < listed.size by omega] using this) hd)
      have e : fin (dstsOf ops) f 0 a0.tmps.toList = (List.range a0.tmps.size).map f := by
        apply List.ext_getElem?
        intro k
        by_cases hk : k < a0.tmps.size
        · rw [fin_at _ _ _ _ _ (by simpa using hk)]
          simp only [Nat.zero_add, List.getElem?_map, List.getElem?_range hk, Option.map_some]
          congr 1
          cases hc : (dstsOf ops).contains k with
          | true => simp
          | false => simp [hn k hc, hk]
        · rw [List.getElem?_eq_none (by rw [fin_len]; simpa using hk), List.getElem?_eq_none (by simpa using hk)]
      rwa [e] at this
    induction fuel with
    | zero =>
      intro listed f w hs hc hw hn hl
      have hr : Region.ready .any ops listed = [] := by
        cases hr : Region.ready .any ops listed with
        | nil => rfl
        | cons i r =>
          have := (mem_ready (md := .any) (ops := ops) (j := i) (listed := listed)).1 (by rw [hr]; simp)
          rw [count_zero hc i] at this
          simp at this
      exact ⟨hr, done listed f w hs hr hw hn hl⟩
    | succ fuel ih =>
      intro listed f w hs hc hw hn hl
      refine ⟨fun hr => done listed f w hs hr hw hn hl, fun i hi => ?_⟩
      obtain ⟨hun, o, ho, haf⟩ := mem_ready.1 hi
      have hilt : i < ops.size := by
        rcases Nat.lt_or_ge i ops.size with h | h
        · exact h
        · simp [Array.getElem?_eq_none h] at ho
      have ok := opsB_spec hB ho
      obtain ⟨β, hg, hs1, hs2⟩ := h.at_ i o (by simpa using ho)
      rw [Nat.zero_add] at hs1 hs2
      have hdep : ∀ j d, depB ops o j d = true → R j (f d) w := by
        intro j d hj
        simp only [depB, Bool.and_eq_true, Array.any_eq_true, beq_iff_eq] at hj
        obtain ⟨⟨k, hk, h1, h2⟩, h3⟩ := hj
        exact hl j d (h1 ▸ haf _ (Array.getElem_mem hk) h2) h3
      unfold wpOp
      simp only [ho]
      have hwant : Region.wanted o (yielded ops ((List.range a0.tmps.size).map f).toArray) = β := by
        have known : ∀ g c d b, o.guard = some (g, b) → (∀ v w, R g v w → (d = true → v = .bool c) ∧ (d = false → v = undef)) → yielded ops ((List.range a0.tmps.size).map f).toArray g = if d then some c else none := by
          intro g c dd b hgb hv
          obtain ⟨⟨e, he, h1, h2⟩, d, hd⟩ := ok.guard g b hgb
          have hv := hv (f d) w (hl g d (h1 ▸ haf e he h2) hd)
          have hdlt : d < a0.tmps.size := by
            obtain ⟨og, hog, hgd⟩ := Option.bind_eq_some_iff.1 hd
            exact (opsB_spec hB hog).lt d hgd
          unfold yielded
          rw [hd]
          cases dd with
          | true => simp [hdlt, hv.1 rfl]
          | false => simp [hdlt, hv.2 rfl, undef]
        cases hg with
        | none h => unfold Region.wanted; rw [h]
        | @yes g c d h hv => have := known _ _ _ _ h hv; unfold Region.wanted; rw [h]; cases d <;> simp [this]
        | @no g c d h hv => have := known _ _ _ _ h hv; unfold Region.wanted; rw [h]; cases d <;> cases c <;> simp [this]
      have step : ∀ (v : Value) (w' : World), Below w.heap.size w w' → R i v w' → wpAny P .any ops Q fuel (listed.setIfInBounds i true) (Act.put ⟨((List.range a0.tmps.size).map f).toArray, a0.defers⟩ o.dst v) w' := by
        intro v w' hb hRi
        have hw' : Below w0.heap.size w0 w' := bstep hw hb
        have hs' : (listed.setIfInBounds i true).size = ops.size := by simpa using hs
        have hc' := count_set (l := listed) (by omega) hun hc
        cases hd : o.dst with
        | none =>
          refine ih _ f w' hs' hc' hw' hn (fun j d hj hjd => ?_)
          have hji : j ≠ i := by rintro rfl; rw [ho] at hjd; simp [hd] at hjd
          have : listed.getD j false = true := by rwa [getD_set_ne false (Ne.symm hji)] at hj
          exact hR _ _ _ _ (hl j d this hjd) hb
        | some d =>
          have hdlt := ok.lt d hd
          have e : Act.put ⟨((List.range a0.tmps.size).map f).toArray, a0.defers⟩ (some d) v = ⟨((List.range a0.tmps.size).map (fun k => if k = d then v else f k)).toArray, a0.defers⟩ := by
            simp only [Act.put, Act.mk.injEq, and_true]
            apply Array.ext_getElem?
            intro k
            rw [Array.getElem?_setIfInBounds]
            by_cases hk : k < a0.tmps.size
            · by_cases hkd : d = k
              · subst hkd; simp [hk]
              · simp [hk, hkd, Ne.symm hkd]
            · have : ¬ d = k := fun e => hk (e ▸ hdlt)
              simp [this, hk]
          rw [e]
          refine ih _ _ w' hs' hc' hw' (fun k hk => ?_) (fun j k hj hjk => ?_)
          · have : k ≠ d := by rintro rfl; rw [mem_dsts ho hd] at hk; simp at hk
            simp [this, hn k hk]
          · by_cases hji : j = i
            · subst hji
              rw [ho] at hjk
              simp [hd] at hjk
              subst hjk
              simpa using hRi
            · have hj' : listed.getD j false = true := by rwa [getD_set_ne false (Ne.symm hji)] at hj
              have hkd : k ≠ d := by
                rintro rfl
                have hjlt : j < ops.size := by
                  rcases Nat.lt_or_ge j ops.size with h | h
                  · exact h
                  · simp [Array.getElem?_eq_none h] at hjk
                exact hji (ok.own k j hd hjlt hjk).symm
              simp only [hkd, if_false]
              exact hR _ _ _ _ (hl j k hj' hjk) hb
      cases hβ : β with
      | false =>
        rw [hβ] at hwant
        simp only [hwant, Bool.false_eq_true, if_false]
        exact step undef w (Below.refl _ _) (hs1 hβ w)
      | true =>
        rw [hβ] at hwant
        simp only [hwant, if_true]
        refine Or.inl (Oper.wp_mono ?_ (hs2 hβ f w hw hn hdep))
        rintro a' w' ⟨v, rfl, hb, hRi⟩
        exact step v w' hb hRi
  have e0 : a0 = ⟨((List.range a0.tmps.size).map (fun d => a0.tmps.getD d undef)).toArray, a0.defers⟩ := by
    obtain ⟨t, df⟩ := a0
    simp only [Act.mk.injEq, and_true]
    apply Array.ext_getElem?
    intro k
    by_cases hk : k < t.size <;> simp [hk]
  rw [e0]
  refine main _ _ _ _ (by simp) (by simp) hw1 (fun _ _ => rfl) (fun i d hi => ?_)
  rcases Nat.lt_or_ge i ops.size with h | h
  · simp [Array.getD, h] at hi
  · simp [Array.getD, Nat.not_lt.2 h] at hi

theorem wp_region_opt {id : Nat} {dr : Bool} {Q : Exit → Act → World → Prop} {a0 : Act} {w0 : World} (R : Nat → Value → World → Prop) (hm : P.follows .mixedOrders = true) (hB : opsB ops a0.tmps.size = true)
    (hR : ∀ i v w w', R i v w → Below w.heap.size w w' → R i v w')
    (h : SoundFrom2 P ops Q R w0 a0 0 ops.toList)
    (hQ : ∀ (u : Nat → Value) (w : World), Below w0.heap.size w0 w → (∀ i d, (ops[i]?).bind (·.dst) = some d → R i (u d) w) → Q .normal ⟨(fin (dstsOf ops) u 0 a0.tmps.toList).toArray, a0.defers⟩ w) :
    (Code.region id ops dr).wp P Q a0 w0 := by
  cases dr with
  | true => exact wp_region_any hm (wp_any_opt R hB hR h hQ _ ⟨rfl, rfl, rfl, Nat.le_refl _, fun _ _ => rfl⟩)
  | false => exact any_start hB (wp_any_opt R hB hR h hQ _ (Below.refl _ _))

/-- The same; behind it the frame is a row of which each slot is known. -/
theorem wp_region_opt_at {id : Nat} {dr : Bool} {Q : Exit → Act → World → Prop} {a0 : Act} {w0 : World} (R : Nat → Value → World → Prop) (hm : P.follows .mixedOrders = true) (hB : opsB ops a0.tmps.size = true)
    (hR : ∀ i v w w', R i v w → Below w.heap.size w w' → R i v w')
    (h : SoundFrom2 P ops Q R w0 a0 0 ops.toList)
    (hQ : ∀ (L : Array Value) (w : World), Below w0.heap.size w0 w → (∀ i d, (ops[i]?).bind (·.dst) = some d → ∃ v, L[d]? = some v ∧ R i v w) → (∀ d, (dstsOf ops).contains d = false → L[d]? = a0.tmps[d]?) → Q .normal ⟨L, a0.defers⟩ w) :
    (Code.region id ops dr).wp P Q a0 w0 := by
  refine wp_region_opt R hm hB hR h (fun u w hw hu => hQ _ w hw (fun i d hd => ⟨u d, ?_, hu i d hd⟩) (fun d hd => ?_))
  · obtain ⟨o, ho, hod⟩ := Option.bind_eq_some_iff.1 hd
    have hlt := (opsB_spec hB ho).lt d hod
    rw [List.getElem?_toArray, fin_at _ _ _ _ _ (by simpa using hlt), Nat.zero_add, if_pos (mem_dsts ho hod)]
  · rw [List.getElem?_toArray]
    by_cases hk : d < a0.tmps.size
    · rw [fin_at _ _ _ _ _ (by simpa using hk), Nat.zero_add, hd]
      simp [hk]
    · rw [List.getElem?_eq_none (by rw [fin_len]; simpa using hk), Array.getElem?_eq_none (by simpa using hk)]

/-- The frame behind the region, slot by slot: a mask tells which slots are the region's own. -/
def finM (u : Nat → Value) : List Bool → Nat → List Value → List Value
  | _, _, [] => []
  | [], _, x :: r => x :: r
  | true :: m, k, _ :: r => u k :: finM u m (k + 1) r
  | false :: m, k, x :: r => x :: finM u m (k + 1) r
def maskOf (ops : Array Oper) (n : Nat) : List Bool := (List.range n).map fun d => (dstsOf ops).contains d

theorem finM_fin (ds : List Nat) (u : Nat → Value) : ∀ (l : List Value) (k : Nat), finM u ((List.range' k l.length).map fun d => ds.contains d) k l = fin ds u k l
  | [], k => by simp [finM, fin]
  | x :: r, k => by
    rw [List.length_cons, List.range'_succ, List.map_cons, fin]
    cases h : ds.contains k with
    | true => rw [finM, finM_fin ds u r (k + 1)]; simp
    | false => rw [finM, finM_fin ds u r (k + 1)]; simp

theorem wp_region_lit {id : Nat} {dr : Bool} {Q : Exit → Act → World → Prop} {tmps : List Value} {defers : List Deferred} {w0 : World} (R : Nat → Value → World → Prop) (m : List Bool) (hm : P.follows .mixedOrders = true) (hB : opsB ops tmps.length = true) (hmask : maskOf ops tmps.length = m)
    (hR : ∀ i v w w', R i v w → Below w.heap.size w w' → R i v w')
    (h : SoundFrom2 P ops Q R w0 ⟨tmps.toArray, defers⟩ 0 ops.toList)
    (hQ : ∀ (u : Nat → Value) (w : World), Below w0.heap.size w0 w → (∀ i d, (ops[i]?).bind (·.dst) = some d → R i (u d) w) → Q .normal ⟨(finM u m 0 tmps).toArray, defers⟩ w) :
    (Code.region id ops dr).wp P Q ⟨tmps.toArray, defers⟩ w0 := by
  refine wp_region_opt R hm (by simpa using hB) hR h (fun u w hw hu => ?_)
  have := hQ u w hw hu
  rw [← hmask, maskOf, List.range_eq_range', finM_fin] at this
  exact this

/-- Where a walk stops: 'go_wp2_with (refine stop_region ?_)'. -/
structure Stop (p : Prop) : Prop where
  out : p
theorem stop_at {id : Nat} {ops : Array Oper} {dr : Bool} {Q : Exit → Act → World → Prop} {a : Act} {w : World} (h : Stop ((Code.region id ops dr).wp P Q a w)) : (Code.region id ops dr).wp P Q a w := h.out
theorem stop_region {id : Nat} {ops : Array Oper} {Q : Exit → Act → World → Prop} {a : Act} {w : World} (h : Stop ((Code.region id ops true).wp P Q a w)) : (Code.region id ops true).wp P Q a w := h.out

/-! ### Operations that are wanted or not, by a Bool that is written down -/

inductive Sp where
  | val (x : Value)
  | mem (p : Value → World → Prop) (h : ∀ v w w', Below w.heap.size w w' → p v w → p v w')

def Sp.holds : Sp → Value → World → Prop
  | .val x, v, _ => v = x
  | .mem p _, v, w => p v w

def optR (l : List (Bool × Sp)) (i : Nat) (v : Value) (w : World) : Prop := ((l.getD i (true, .val undef)).1 = true → (l.getD i (true, .val undef)).2.holds v w) ∧ ((l.getD i (true, .val undef)).1 = false → v = undef)

theorem optKeep (l : List (Bool × Sp)) (i : Nat) (v : Value) (w w' : World) (h : optR l i v w) (hb : Below w.heap.size w w') : optR l i v w' := by
  refine ⟨fun e => ?_, h.2⟩
  have := h.1 e
  generalize (l.getD i (true, .val undef)).2 = s at *
  cases s with
  | val x => exact this
  | mem p hp => exact hp _ _ _ hb this

theorem optVal {l : List (Bool × Sp)} {i : Nat} {v x : Value} {w : World} {β : Bool} (h : optR l i v w) (e : l.getD i (true, .val undef) = (β, .val x)) (hβ : β = true) : v = x := by
  have := h.1 (by rw [e]; exact hβ)
  rw [e] at this
  exact this
theorem optMem {l : List (Bool × Sp)} {i : Nat} {v : Value} {w : World} {β : Bool} {p : Value → World → Prop} {hp : ∀ v w w', Below w.heap.size w w' → p v w → p v w'} (h : optR l i v w) (e : l.getD i (true, .val undef) = (β, .mem p hp)) (hβ : β = true) : p v w := by
  have := h.1 (by rw [e]; exact hβ)
  rw [e] at this
  exact this
theorem hv1 {g : Operand → Value} {x : Operand} {u : Value} (h1 : g x = u) : #[x].map g = #[u] := by simp [h1]
theorem optUndef {A : Prop} {β : Bool} (h : β = false) : (β = true → A) ∧ (β = false → undef = undef) := ⟨fun e => (by rw [h] at e; cases e), fun _ => rfl⟩
theorem optDef {A B : Prop} {β : Bool} (hβ : β = true) (h : A) : (β = true → A) ∧ (β = false → B) := ⟨fun _ => h, fun e => (by rw [hβ] at e; cases e)⟩
theorem bAnd {a b : Bool} (h : (a && b) = true) : a = true := by cases a <;> simp_all
theorem bMk {a b : Bool} (h : a = true) (h' : b = true) : (a && b) = true := by simp [h, h']
theorem bMkN {a b : Bool} (h : a = true) (h' : b = false) : (a && !b) = true := by simp [h, h']

section
variable {w : World} {a : Act} {K : Act → World → Prop} {Q : Exit → Act → World → Prop} {o : Oper}
theorem wp_eqi2 {x y : Operand} {m n : Int} {ty : TypeId} (ho : o.op = .binOp .eql ty x y ty) (hx : a.eval x = .int .i64 m) (hy : a.eval y = .int .i64 n) (hK : K (a.put o.dst (.bool (m == n))) w) : o.wp Try.prog a w K Q := wp_eqi ho hx hy rfl hK
theorem spec_of2 {P : Program} {F : FuncId} {vs : Array Value} {v : Value} (h : Calls P F vs w fun e w' => e = .returned v ∧ Below w.heap.size w w') :
    Calls P F vs w fun e w' => ∃ v', e = .returned v' ∧ (Below w.heap.size w w' ∧ v' = v) :=
  h.mono (by rintro e w' ⟨rfl, hb⟩; exact ⟨_, rfl, hb, rfl⟩)
theorem wp_nei {x y : Operand} {m n : Int} {ty : TypeId} (ho : o.op = .binOp .neq ty x y ty) (hx : a.eval x = .int .i64 m) (hy : a.eval y = .int .i64 n) (hK : K (a.put o.dst (.bool (m != n))) w) : o.wp Try.prog a w K Q := by
  unfold Oper.wp execOp
  simp only [ho, hx, hy]
  go_simp
  exact hK
theorem wp_lti {x y : Operand} {m n : Int} {ty : TypeId} (ho : o.op = .binOp .lss ty x y ty) (hx : a.eval x = .int .i64 m) (hy : a.eval y = .int .i64 n) (hK : K (a.put o.dst (.bool (decide (m < n)))) w) : o.wp Try.prog a w K Q := by
  unfold Oper.wp execOp
  simp only [ho, hx, hy]
  go_simp
  exact hK
theorem wp_gti {x y : Operand} {m n : Int} {ty : TypeId} (ho : o.op = .binOp .gtr ty x y ty) (hx : a.eval x = .int .i64 m) (hy : a.eval y = .int .i64 n) (hK : K (a.put o.dst (.bool (decide (n < m)))) w) : o.wp Try.prog a w K Q := by
  unfold Oper.wp execOp
  simp only [ho, hx, hy]
  go_simp
  exact hK
theorem wp_lei {x y : Operand} {m n : Int} {ty : TypeId} (ho : o.op = .binOp .leq ty x y ty) (hx : a.eval x = .int .i64 m) (hy : a.eval y = .int .i64 n) (hK : K (a.put o.dst (.bool (decide (m ≤ n)))) w) : o.wp Try.prog a w K Q := by
  unfold Oper.wp execOp
  simp only [ho, hx, hy]
  go_simp
  exact hK
theorem wp_gei {x y : Operand} {m n : Int} {ty : TypeId} (ho : o.op = .binOp .geq ty x y ty) (hx : a.eval x = .int .i64 m) (hy : a.eval y = .int .i64 n) (hK : K (a.put o.dst (.bool (decide (n ≤ m)))) w) : o.wp Try.prog a w K Q := by
  unfold Oper.wp execOp
  simp only [ho, hx, hy]
  go_simp
  exact hK
theorem wp_not {x : Operand} {b : Bool} {ty : TypeId} (ho : o.op = .unOp .not ty x) (hx : a.eval x = .bool b) (hK : K (a.put o.dst (.bool (!b))) w) : o.wp Try.prog a w K Q := by
  unfold Oper.wp execOp
  simp only [ho, hx]
  go_simp
  exact hK
theorem wp_or {x z : Operand} {p q : Bool} (ho : o.op = .pick x (.const (.bool true)) z) (hx : a.eval x = .bool p) (hz : p = false → a.eval z = .bool q) (hK : K (a.put o.dst (.bool (p || q))) w) : o.wp Try.prog a w K Q := by
  have hc : a.eval (.const (.bool true)) = .bool true := rfl
  unfold Oper.wp execOp
  cases p with
  | true => simp only [ho, hx, hc]; exact hK
  | false => simp only [ho, hx, hz rfl]; exact hK
theorem wp_and {x z : Operand} {p q : Bool} (ho : o.op = .pick x z (.const (.bool false))) (hx : a.eval x = .bool p) (hz : p = true → a.eval z = .bool q) (hK : K (a.put o.dst (.bool (p && q))) w) : o.wp Try.prog a w K Q := by
  have hc : a.eval (.const (.bool false)) = .bool false := rfl
  unfold Oper.wp execOp
  cases p with
  | true => simp only [ho, hx, hz rfl]; exact hK
  | false => simp only [ho, hx, hc]; exact hK
end

end
end Go.Proofs.Ytjkpecjlpgcalaa
