/- A region that draws its order and whose operations make memory, walked once: each operation has a relation between its value and the memory that outlives whatever is added to the memory. -/
import Derived.Test.YtjkpecjlpgcalaaTerm
import Derived.Deep.Quiet
namespace Go.Proofs.Ytjkpecjlpgcalaa
open Go.RowKit Go

section
variable {P : Program} {ops : Array Oper}

def depB (ops : Array Oper) (o : Oper) (j d : Nat) : Bool := o.after.any (fun e => e.on == j && Region.binds .any e) && ((ops[j]?).bind (·.dst) == some d)
def dstsOf (ops : Array Oper) : List Nat := ops.toList.filterMap (·.dst)
def opsB (ops : Array Oper) (n : Nat) : Bool :=
  (List.range ops.size).all (fun i => match ops[i]? with
    | none => false
    | some o => o.after.all (fun e => Nat.blt e.on i || !Region.binds .any e) &&
      (match o.guard with | none => true | some (g, _) => o.after.any (fun e => e.on == g && Region.binds .any e) && ((ops[g]?).bind (·.dst)).isSome) &&
      (match o.dst with | none => true | some d => Nat.blt d n && (List.range ops.size).all fun j => i == j || !((ops[j]?).bind (·.dst) == some d)))

/-- The frame's temporaries behind the region: 'u' at the slots of the list, as they were elsewhere. -/
def fin (ds : List Nat) (u : Nat → Value) : Nat → List Value → List Value
  | _, [] => []
  | k, x :: r => (if ds.contains k then u k else x) :: fin ds u (k + 1) r

theorem fin_len (ds : List Nat) (u : Nat → Value) : ∀ (l : List Value) (k : Nat), (fin ds u k l).length = l.length
  | [], _ => rfl
  | _ :: r, k => by simp [fin, fin_len ds u r (k + 1)]
theorem fin_at (ds : List Nat) (u : Nat → Value) : ∀ (l : List Value) (k i : Nat), i < l.length → (fin ds u k l)[i]? = some (if ds.contains (k + i) then u (k + i) else l.getD i undef)
  | [], _, i, h => by simp at h
  | x :: r, k, 0, _ => by simp [fin]
  | x :: r, k, i + 1, h => by
    have := fin_at ds u r (k + 1) i (by simpa using h)
    simp only [fin, List.getElem?_cons_succ, this, List.getD_cons_succ]
    rw [show k + 1 + i = k + (i + 1) by omega]

/-- One operation holds its relation. -/
def Sound (P : Program) (ops : Array Oper) (Q : Exit → Act → World → Prop) (R : Nat → Value → World → Prop) (w0 : World) (a0 : Act) (i : Nat) (o : Oper) : Prop :=
  (∀ g b, o.guard = some (g, b) → ∀ v w, R g v w → v = .bool b) ∧
  ∀ (f : Nat → Value) (w : World), Below w0.heap.size w0 w → (∀ d, (dstsOf ops).contains d = false → f d = a0.tmps.getD d undef) →
    (∀ j d, depB ops o j d = true → R j (f d) w) →
    o.wp P ⟨((List.range a0.tmps.size).map f).toArray, a0.defers⟩ w (fun a' w' => ∃ v, a' = Act.put ⟨((List.range a0.tmps.size).map f).toArray, a0.defers⟩ o.dst v ∧ Below w.heap.size w w' ∧ R i v w') Q

def SoundFrom (P : Program) (ops : Array Oper) (Q : Exit → Act → World → Prop) (R : Nat → Value → World → Prop) (w0 : World) (a0 : Act) : Nat → List Oper → Prop
  | _, [] => True
  | k, o :: r => Sound P ops Q R w0 a0 k o ∧ SoundFrom P ops Q R w0 a0 (k + 1) r

theorem SoundFrom.at_ {Q : Exit → Act → World → Prop} {R : Nat → Value → World → Prop} {w0 : World} {a0 : Act} : ∀ {l : List Oper} {k : Nat}, SoundFrom P ops Q R w0 a0 k l → ∀ i o, l[i]? = some o → Sound P ops Q R w0 a0 (k + i) o
  | [], _, _, i, o, h => by simp at h
  | x :: r, k, h, 0, o, ho => by simp at ho; subst ho; exact h.1
  | x :: r, k, h, i + 1, o, ho => by
    have := h.2.at_ i o (by simpa using ho)
    rwa [show k + 1 + i = k + (i + 1) by omega] at this

structure OpOk (ops : Array Oper) (n i : Nat) (o : Oper) : Prop where
  after : ∀ e ∈ o.after, Region.binds .any e = true → e.on < i
  guard : ∀ g b, o.guard = some (g, b) → (∃ e ∈ o.after, e.on = g ∧ Region.binds .any e = true) ∧ ∃ d, (ops[g]?).bind (·.dst) = some d
  lt : ∀ d, o.dst = some d → d < n
  own : ∀ d j, o.dst = some d → j < ops.size → (ops[j]?).bind (·.dst) = some d → i = j

theorem opsB_spec {n : Nat} (h : opsB ops n = true) {i : Nat} {o : Oper} (ho : ops[i]? = some o) : OpOk ops n i o := by
  have hi : i < ops.size := by
    rcases Nat.lt_or_ge i ops.size with h | h
    · exact h
    · simp [Array.getElem?_eq_none h] at ho
  have := List.all_eq_true.1 h i (by simpa using hi)
  simp only [ho, Bool.and_eq_true] at this
  obtain ⟨⟨h1, h2⟩, h3⟩ := this
  refine ⟨fun e he hbe => ?_, fun g b hg => ?_, fun d hd => ?_, fun d j hd hj hjd => ?_⟩
  · have := Array.all_eq_true_iff_forall_mem.1 h1 e he
    simpa [Nat.blt_eq, hbe] using this
  · rw [hg] at h2
    simp only [Bool.and_eq_true, Array.any_eq_true, Option.isSome_iff_exists, beq_iff_eq] at h2
    obtain ⟨⟨k, hk, h5, h6⟩, h7⟩ := h2
    exact ⟨⟨_, Array.getElem_mem hk, h5, h6⟩, h7⟩
  · rw [hd] at h3
    simp only [Bool.and_eq_true, Nat.blt_eq] at h3
    exact h3.1
  · rw [hd] at h3
    simp only [Bool.and_eq_true] at h3
    have := List.all_eq_true.1 h3.2 j (by simpa using hj)
    rw [hjd] at this
    simpa using this

theorem count_set {l : Array Bool} {i : Nat} (hi : i < l.size) (h : l.getD i true = false) {n : Nat} (hc : l.toList.count false ≤ n + 1) : (l.setIfInBounds i true).toList.count false ≤ n := by
  rw [Array.toList_setIfInBounds, List.count_set (by simpa using hi)]
  have : l.toList[i]'(by simpa using hi) = false := by simpa [Array.getD, hi] using h
  rw [this, if_pos (by rfl : (false == false) = true), if_neg (by decide : ¬ (true == false) = true)]
  omega

theorem count_zero {l : Array Bool} (hc : l.toList.count false ≤ 0) (i : Nat) : l.getD i true = true := by
  rcases Nat.lt_or_ge i l.size with h | h
  · have h0 : l.toList.count false = 0 := by omega
    have := (List.count_eq_zero (a := false)).1 h0
    have hm : l[i] ∈ l.toList := by simp
    simp only [Array.getD, h, dif_pos]
    cases hb : l[i] with
    | true => simpa using hb
    | false => rw [hb] at hm; exact absurd hm this
  · simp [Array.getD, Nat.not_lt.2 h]

theorem ready_nil {n : Nat} (hB : opsB ops n = true) {listed : Array Bool} (hs : listed.size = ops.size) (h : Region.ready .any ops listed = []) (i : Nat) (hi : i < ops.size) : listed.getD i true = true := by
  induction i using Nat.strongRecOn with
  | _ i ih =>
    cases hc : listed.getD i true with
    | true => rfl
    | false =>
      obtain ⟨o, ho⟩ : ∃ o, ops[i]? = some o := ⟨ops[i], by simp [hi]⟩
      have := mem_ready (md := .any) (ops := ops) (j := i) (listed := listed) |>.2 ⟨hc, o, ho, fun e he hbe => by
        have hl := (opsB_spec hB ho).after e he hbe
        have := ih e.on hl (by omega)
        simpa [Array.getD, show e.on < listed.size by omega] using this⟩
      rw [h] at this
      simp at this

theorem mem_dsts {i : Nat} {o : Oper} {d : Nat} (ho : ops[i]? = some o) (hd : o.dst = some d) : (dstsOf ops).contains d = true := by
  simp only [dstsOf, List.contains_iff_mem, List.mem_filterMap]
  exact ⟨o, by have := Array.mem_of_getElem? ho; simpa using this, hd⟩

theorem wp_region_rel {id : Nat} {Q : Exit → Act → World → Prop} {a0 : Act} {w0 : World} (R : Nat → Value → World → Prop) (hm : P.follows .mixedOrders = true) (hB : opsB ops a0.tmps.size = true)
    (hR : ∀ i v w w', R i v w → Below w.heap.size w w' → R i v w')
    (h : SoundFrom P ops Q R w0 a0 0 ops.toList)
    (hQ : ∀ (u : Nat → Value) (w : World), Below w0.heap.size w0 w → (∀ i d, (ops[i]?).bind (·.dst) = some d → R i (u d) w) → Q .normal ⟨(fin (dstsOf ops) u 0 a0.tmps.toList).toArray, a0.defers⟩ w) :
    (Code.region id ops true).wp P Q a0 w0 := by
  refine wp_region_any hm ?_
  have main : ∀ (fuel : Nat) (listed : Array Bool) (f : Nat → Value) (w : World), listed.size = ops.size → listed.toList.count false ≤ fuel → Below w0.heap.size w0 w →
      (∀ d, (dstsOf ops).contains d = false → f d = a0.tmps.getD d undef) →
      (∀ i d, listed.getD i false = true → (ops[i]?).bind (·.dst) = some d → R i (f d) w) →
      wpAny P .any ops Q fuel listed ⟨((List.range a0.tmps.size).map f).toArray, a0.defers⟩ w := by
    intro fuel
    have done : ∀ (listed : Array Bool) (f : Nat → Value) (w : World), listed.size = ops.size → Region.ready .any ops listed = [] → Below w0.heap.size w0 w →
      (∀ d, (dstsOf ops).contains d = false → f d = a0.tmps.getD d undef) →
      (∀ i d, listed.getD i false = true → (ops[i]?).bind (·.dst) = some d → R i (f d) w) →
      Q .normal ⟨((List.range a0.tmps.size).map f).toArray, a0.defers⟩ w := by
      intro listed f w hs hr hw hn hl
      have := hQ f w hw (fun i d hd => by
        have hi : i < ops.size := by
          rcases Nat.lt_or_ge i ops.size with h | h
          · exact h
          · simp [Array.getElem?_eq_none h] at hd
        have := ready_nil hB hs hr i hi
        exact hl i d (by simpa [Array.getD, show i < listed.size by omega] using this) hd)
      have e : fin (dstsOf ops) f 0 a0.tmps.toList = (List.range a0.tmps.size).map f := by
        apply List.ext_getElem?
        intro k
        by_cases hk : k < a0.tmps.size
        · rw [fin_at _ _ _ _ _ (by simpa using hk)]
          simp only [Nat.zero_add, List.getElem?_map, List.getElem?_range hk, Option.map_some]
          congr 1
          cases hc : (dstsOf ops).contains k with
          | true => simp
          | false => simp [hn k hc, hk]
        · rw [List.getElem?_eq_none (by rw [fin_len]; simpa using hk), List.getElem?_eq_none (by simpa using hk)]
      rwa [e] at this
    induction fuel with
    | zero =>
      intro listed f w hs hc hw hn hl
      have hr : Region.ready .any ops listed = [] := by
        cases hr : Region.ready .any ops listed with
        | nil => rfl
        | cons i r =>
          have := (mem_ready (md := .any) (ops := ops) (j := i) (listed := listed)).1 (by rw [hr]; simp)
          rw [count_zero hc i] at this
          simp at this
      exact ⟨hr, done listed f w hs hr hw hn hl⟩
    | succ fuel ih =>
      intro listed f w hs hc hw hn hl
      refine ⟨fun hr => done listed f w hs hr hw hn hl, fun i hi => ?_⟩
      obtain ⟨hun, o, ho, haf⟩ := mem_ready.1 hi
      have hilt : i < ops.size := by
        rcases Nat.lt_or_ge i ops.size with h | h
        · exact h
        · simp [Array.getElem?_eq_none h] at ho
      have ok := opsB_spec hB ho
      obtain ⟨hg, hs2⟩ := h.at_ i o (by simpa using ho)
      rw [Nat.zero_add] at hs2
      have hdep : ∀ j d, depB ops o j d = true → R j (f d) w := by
        intro j d hj
        simp only [depB, Bool.and_eq_true, Array.any_eq_true, beq_iff_eq] at hj
        obtain ⟨⟨k, hk, h1, h2⟩, h3⟩ := hj
        exact hl j d (h1 ▸ haf _ (Array.getElem_mem hk) h2) h3
      unfold wpOp
      simp only [ho]
      have hwant : Region.wanted o (yielded ops ((List.range a0.tmps.size).map f).toArray) = true := by
        unfold Region.wanted
        split
        · rfl
        · rename_i g b hgb
          obtain ⟨⟨e, he, h1, h2⟩, d, hd⟩ := ok.guard g b hgb
          have hv := hg g b hgb (f d) w (hl g d (h1 ▸ haf e he h2) hd)
          have hdlt : d < a0.tmps.size := by
            obtain ⟨og, hog, hgd⟩ := Option.bind_eq_some_iff.1 hd
            exact (opsB_spec hB hog).lt d hgd
          have : yielded ops ((List.range a0.tmps.size).map f).toArray g = some b := by
            unfold yielded
            rw [hd]
            simp [hdlt, hv]
          simp [this]
      simp only [hwant, if_true]
      refine Or.inl (Oper.wp_mono ?_ (hs2 f w hw hn hdep))
      rintro a' w' ⟨v, rfl, hb, hRi⟩
      have hw' : Below w0.heap.size w0 w' := bstep hw hb
      have hs' : (listed.setIfInBounds i true).size = ops.size := by simpa using hs
      have hc' := count_set (l := listed) (by omega) hun hc
      cases hd : o.dst with
      | none =>
        refine ih _ f w' hs' hc' hw' hn (fun j d hj hjd => ?_)
        have hji : j ≠ i := by rintro rfl; rw [ho] at hjd; simp [hd] at hjd
        have : listed.getD j false = true := by rwa [getD_set_ne false (Ne.symm hji)] at hj
        exact hR _ _ _ _ (hl j d this hjd) hb
      | some d =>
        have hdlt := ok.lt d hd
        have e : Act.put ⟨((List.range a0.tmps.size).map f).toArray, a0.defers⟩ (some d) v = ⟨((List.range a0.tmps.size).map (fun k => if k = d then v else f k)).toArray, a0.defers⟩ := by
          simp only [Act.put, Act.mk.injEq, and_true]
          apply Array.ext_getElem?
          intro k
          rw [Array.getElem?_setIfInBounds]
          by_cases hk : k < a0.tmps.size
          · by_cases hkd : d = k
            · subst hkd; simp [hk]
            · simp [hk, hkd, Ne.symm hkd]
          · have : ¬ d = k := fun e => hk (e ▸ hdlt)
            simp [this, hk]
        rw [e]
        refine ih _ _ w' hs' hc' hw' (fun k hk => ?_) (fun j k hj hjk => ?_)
        · have : k ≠ d := by rintro rfl; rw [mem_dsts ho hd] at hk; simp at hk
          simp [this, hn k hk]
        · by_cases hji : j = i
          · subst hji
            rw [ho] at hjk
            simp [hd] at hjk
            subst hjk
            simpa using hRi
          · have hj' : listed.getD j false = true := by rwa [getD_set_ne false (Ne.symm hji)] at hj
            have hkd : k ≠ d := by
              rintro rfl
              have hjlt : j < ops.size := by
                rcases Nat.lt_or_ge j ops.size with h | h
                · exact h
                · simp [Array.getElem?_eq_none h] at hjk
              exact hji (ok.own k j hd hjlt hjk).symm
            simp only [hkd, if_false]
            exact hR _ _ _ _ (hl j k hj' hjk) hb
  have e0 : a0 = ⟨((List.range a0.tmps.size).map (fun d => a0.tmps.getD d undef)).toArray, a0.defers⟩ := by
    obtain ⟨t, df⟩ := a0
    simp only [Act.mk.injEq, and_true]
    apply Array.ext_getElem?
    intro k
    by_cases hk : k < t.size <;> simp [hk]
  rw [e0]
  refine main _ _ _ _ (by simp) (by simp) ⟨rfl, rfl, rfl, Nat.le_refl _, fun _ _ => rfl⟩ (fun _ _ => rfl) (fun i d hi => ?_)
  rcases Nat.lt_or_ge i ops.size with h | h
  · simp [Array.getD, h] at hi
  · simp [Array.getD, Nat.not_lt.2 h] at hi

/-- The same; behind it the frame is a row of which each slot is known. -/
theorem wp_region_rel_at {id : Nat} {Q : Exit → Act → World → Prop} {a0 : Act} {w0 : World} (R : Nat → Value → World → Prop) (hm : P.follows .mixedOrders = true) (hB : opsB ops a0.tmps.size = true)
    (hR : ∀ i v w w', R i v w → Below w.heap.size w w' → R i v w')
    (h : SoundFrom P ops Q R w0 a0 0 ops.toList)
    (hQ : ∀ (L : Array Value) (w : World), Below w0.heap.size w0 w → (∀ i d, (ops[i]?).bind (·.dst) = some d → ∃ v, L[d]? = some v ∧ R i v w) → (∀ d, (dstsOf ops).contains d = false → L[d]? = a0.tmps[d]?) → Q .normal ⟨L, a0.defers⟩ w) :
    (Code.region id ops true).wp P Q a0 w0 := by
  refine wp_region_rel R hm hB hR h (fun u w hw hu => hQ _ w hw (fun i d hd => ⟨u d, ?_, hu i d hd⟩) (fun d hd => ?_))
  · obtain ⟨o, ho, hod⟩ := Option.bind_eq_some_iff.1 hd
    have hlt := (opsB_spec hB ho).lt d hod
    rw [List.getElem?_toArray, fin_at _ _ _ _ _ (by simpa using hlt), Nat.zero_add, if_pos (mem_dsts ho hod)]
  · rw [List.getElem?_toArray]
    by_cases hk : d < a0.tmps.size
    · rw [fin_at _ _ _ _ _ (by simpa using hk), Nat.zero_add, hd]
      simp [hk]
    · rw [List.getElem?_eq_none (by rw [fin_len]; simpa using hk), Array.getElem?_eq_none (by simpa using hk)]

end
end Go.Proofs.Ytjkpecjlpgcalaa
