/- A region that draws its order, of which some operations change the memory, in whatever order, and the others only read: walked once. -/
import Derived.Test.YtjkpecjlpgcalaaChain
namespace Go.Proofs.Ytjkpecjlpgcalaa
open Go.RowKit Go

section
variable {P : Program} {ops : Array Oper}

structure CtxM (ops : Array Oper) (chain : List Nat) (R : Nat → Value → Prop) (G : List (Option Value) → World → Prop) (tmps : Array Value) (i : Nat) (o : Oper) (f : Nat → Value) (w : World) (vs : List (Option Value)) : Prop where
  now : G vs w
  keep : ∀ d, (dstsOf ops).contains d = false → f d = tmps.getD d undef
  dep : ∀ j d, depB ops o j d = true → chain.contains j = false → R j (f d)
  len : vs.length = chain.length
  link : ∀ (p c d : Nat), chain[p]? = some c → depB ops o c d = true → vs[p]? = some (some (f d))
  done : ∀ (p c : Nat), chain[p]? = some c → o.after.any (fun e => e.on == c && Region.binds .any e) = true → ∃ v, vs[p]? = some (some v)
  most : ∀ (p c : Nat), chain[p]? = some c → afterB ops c i = true → vs[p]? = some none

def SoundM (P : Program) (ops : Array Oper) (Q : Exit → Act → World → Prop) (chain : List Nat) (R : Nat → Value → Prop) (G : List (Option Value) → World → Prop) (tmps : Array Value) (defers : List Deferred) (i : Nat) (o : Oper) : Prop :=
  (chain.contains i = false ∧ ∃ β, GuardC R chain o β ∧ (β = false → R i undef) ∧
    (β = true → ∀ (f : Nat → Value) (w : World) (vs : List (Option Value)), CtxM ops chain R G tmps i o f w vs →
      o.wp P ⟨((List.range tmps.size).map f).toArray, defers⟩ w (fun a' w' => ∃ v, a' = Act.put ⟨((List.range tmps.size).map f).toArray, defers⟩ o.dst v ∧ w' = w ∧ R i v) Q)) ∨
  (∃ p, chain[p]? = some i ∧ o.guard = none ∧ ∀ (f : Nat → Value) (w : World) (vs : List (Option Value)), CtxM ops chain R G tmps i o f w vs → vs[p]? = some none →
      o.wp P ⟨((List.range tmps.size).map f).toArray, defers⟩ w (fun a' w' => ∃ v, a' = Act.put ⟨((List.range tmps.size).map f).toArray, defers⟩ o.dst v ∧ G (vs.set p (some v)) w') Q)

def SoundFromM (P : Program) (ops : Array Oper) (Q : Exit → Act → World → Prop) (chain : List Nat) (R : Nat → Value → Prop) (G : List (Option Value) → World → Prop) (tmps : Array Value) (defers : List Deferred) : Nat → List Oper → Prop
  | _, [] => True
  | k, o :: r => SoundM P ops Q chain R G tmps defers k o ∧ SoundFromM P ops Q chain R G tmps defers (k + 1) r

theorem SoundFromM.at_ {Q : Exit → Act → World → Prop} {chain : List Nat} {R : Nat → Value → Prop} {G : List (Option Value) → World → Prop} {tmps : Array Value} {defers : List Deferred} : ∀ {l : List Oper} {k : Nat}, SoundFromM P ops Q chain R G tmps defers k l → ∀ i o, l[i]? = some o → SoundM P ops Q chain R G tmps defers (k + i) o
  | [], _, _, i, o, h => by simp at h
  | x :: r, k, h, 0, o, ho => by simp at ho; subst ho; exact h.1
  | x :: r, k, h, i + 1, o, ho => by
    have := h.2.at_ i o (by simpa using ho)
    rwa [show k + 1 + i = k + (i + 1) by omega] at this

structure AtM (ops : Array Oper) (chain : List Nat) (R : Nat → Value → Prop) (G : List (Option Value) → World → Prop) (tmps : Array Value) (listed : Array Bool) (f : Nat → Value) (vs : List (Option Value)) (w : World) : Prop where
  size : listed.size = ops.size
  keep : ∀ d, (dstsOf ops).contains d = false → f d = tmps.getD d undef
  plain : ∀ i d, chain.contains i = false → listed.getD i false = true → (ops[i]?).bind (·.dst) = some d → R i (f d)
  link : ∀ p c : Nat, chain[p]? = some c → (listed.getD c false = true ↔ ∃ v, vs[p]? = some (some v))
  vals : ∀ (p c d : Nat), chain[p]? = some c → listed.getD c false = true → (ops[c]?).bind (·.dst) = some d → vs[p]? = some (some (f d))
  len : vs.length = chain.length
  closed : ∀ i o, ops[i]? = some o → listed.getD i false = true → ∀ e ∈ o.after, Region.binds .any e = true → listed.getD e.on false = true
  now : G vs w

theorem wp_any_mem {Q : Exit → Act → World → Prop} {tmps : List Value} {defers : List Deferred} {w0 : World} (chain : List Nat) (R : Nat → Value → Prop) (G : List (Option Value) → World → Prop) (m : List Bool)
    (hB : opsB ops tmps.length = true) (hnd : chain.Nodup) (hin : (chain.all fun c => Nat.blt c ops.size) = true) (hmask : maskOf ops tmps.length = m) (h0 : G (List.replicate chain.length none) w0)
    (h : SoundFromM P ops Q chain R G tmps.toArray defers 0 ops.toList)
    (hQ : ∀ (u : Nat → Value) (w : World) (vs : List (Option Value)), vs.length = chain.length → (∀ p, p < chain.length → ∃ v, vs[p]? = some (some v)) → G vs w → (∀ i d, (ops[i]?).bind (·.dst) = some d → chain.contains i = false → R i (u d)) → (∀ (p c d : Nat), chain[p]? = some c → (ops[c]?).bind (·.dst) = some d → vs[p]? = some (some (u d))) → Q .normal ⟨(finM u m 0 tmps).toArray, defers⟩ w) :
    wpAny P .any ops Q ops.size (Array.replicate ops.size false) ⟨tmps.toArray, defers⟩ w0 := by
  have hB' : opsB ops tmps.toArray.size = true := by simpa using hB
  have main : ∀ (fuel : Nat) (listed : Array Bool) (f : Nat → Value) (vs : List (Option Value)) (w : World), listed.toList.count false ≤ fuel → AtM ops chain R G tmps.toArray listed f vs w →
      wpAny P .any ops Q fuel listed ⟨((List.range tmps.toArray.size).map f).toArray, defers⟩ w := by
    intro fuel
    have done : ∀ (listed : Array Bool) (f : Nat → Value) (vs : List (Option Value)) (w : World), Region.ready .any ops listed = [] → AtM ops chain R G tmps.toArray listed f vs w →
      Q .normal ⟨((List.range tmps.toArray.size).map f).toArray, defers⟩ w := by
      intro listed f vs w hr H
      have all : ∀ i, i < ops.size → listed.getD i false = true := fun i hi => by
        have := ready_nil hB' H.size hr i hi
        have hs := H.size
        simpa [Array.getD, show i < listed.size by omega] using this
      have hin' : ∀ p c, chain[p]? = some c → c < ops.size := fun p c hc => by
        have := List.all_eq_true.1 hin _ (List.mem_of_getElem? hc)
        simpa [Nat.blt_eq] using this
      have lt_of : ∀ i d, (ops[i]?).bind (·.dst) = some d → i < ops.size := fun i d hd => by
        rcases Nat.lt_or_ge i ops.size with h | h
        · exact h
        · simp [Array.getElem?_eq_none h] at hd
      have := hQ f w vs H.len (fun p hp => (H.link p chain[p] (by simp [hp])).1 (all _ (hin' p _ (by simp [hp])))) H.now (fun i d hd hc => H.plain i d hc (all i (lt_of i d hd)) hd) (fun p c d hc hd => H.vals p c d hc (all c (hin' p c hc)) hd)
      rw [← hmask, maskOf, List.range_eq_range', finM_fin] at this
      have e : fin (dstsOf ops) f 0 tmps = (List.range tmps.toArray.size).map f := by
        apply List.ext_getElem?
        intro k
        by_cases hk : k < tmps.length
        · rw [fin_at _ _ _ _ _ hk]
          simp only [List.size_toArray, Nat.zero_add, List.getElem?_map, List.getElem?_range hk, Option.map_some]
          congr 1
          cases hc : (dstsOf ops).contains k with
          | true => simp
          | false => simp [H.keep k hc, hk]
        · rw [List.getElem?_eq_none (by rw [fin_len]; simpa using hk), List.getElem?_eq_none (by simpa using hk)]
      rwa [e] at this
    induction fuel with
    | zero =>
      intro listed f vs w hc H
      have hr : Region.ready .any ops listed = [] := by
        cases hr : Region.ready .any ops listed with
        | nil => rfl
        | cons i r =>
          have := (mem_ready (md := .any) (ops := ops) (j := i) (listed := listed)).1 (by rw [hr]; simp)
          rw [count_zero hc i] at this
          simp at this
      exact ⟨hr, done listed f vs w hr H⟩
    | succ fuel ih =>
      intro listed f vs w hc H
      refine ⟨fun hr => done listed f vs w hr H, fun i hi => ?_⟩
      obtain ⟨hun, o, ho, haf⟩ := mem_ready.1 hi
      have hilt : i < ops.size := by
        rcases Nat.lt_or_ge i ops.size with h | h
        · exact h
        · simp [Array.getElem?_eq_none h] at ho
      have hils : i < listed.size := by have := H.size; omega
      have hun' := getD_false_of hun
      have ok := opsB_spec hB' ho
      have hs2 := h.at_ i o (by simpa using ho)
      rw [Nat.zero_add] at hs2
      have after_of : ∀ j d, depB ops o j d = true → listed.getD j false = true ∧ (ops[j]?).bind (·.dst) = some d := by
        intro j d hj
        simp only [depB, Bool.and_eq_true, Array.any_eq_true, beq_iff_eq] at hj
        obtain ⟨⟨k, hk, h1, h2⟩, h3⟩ := hj
        exact ⟨h1 ▸ haf _ (Array.getElem_mem hk) h2, h3⟩
      have ctx : CtxM ops chain R G tmps.toArray i o f w vs := by
        have opt : ∀ p c, chain[p]? = some c → listed.getD c false = false → vs[p]? = some none := fun p c hc hl => by
          have hp : p < vs.length := by rw [H.len]; exact (List.getElem?_eq_some_iff.1 hc).1
          rw [List.getElem?_eq_getElem hp]
          cases hx : vs[p] with
          | none => rfl
          | some v =>
            have := (H.link p c hc).2 ⟨v, by rw [List.getElem?_eq_getElem hp, hx]⟩
            rw [hl] at this; cases this
        refine ⟨H.now, H.keep, fun j d hj hc => H.plain j d hc (after_of j d hj).1 (after_of j d hj).2, H.len, fun p c d hc hj => H.vals p c d hc (after_of c d hj).1 (after_of c d hj).2, fun p c hc ha => ?_, fun p c hc ha => opt p c hc ?_⟩
        · simp only [Array.any_eq_true, Bool.and_eq_true, beq_iff_eq] at ha
          obtain ⟨k, hk, h1, h2⟩ := ha
          exact (H.link p c hc).1 (h1 ▸ haf _ (Array.getElem_mem hk) h2)
        · cases hl : listed.getD c false with
          | false => rfl
          | true =>
            exfalso
            unfold afterB at ha
            split at ha
            · rename_i oc hoc
              simp only [Array.any_eq_true, Bool.and_eq_true, beq_iff_eq] at ha
              obtain ⟨k, hk, h1, h2⟩ := ha
              have := H.closed c oc hoc hl _ (Array.getElem_mem hk) h2
              rw [h1, hun'] at this
              cases this
            · cases ha
      unfold wpOp
      simp only [ho]
      -- what is behind a step
      have step : ∀ (v : Value) (vs' : List (Option Value)) (w' : World), G vs' w' → (∀ d, o.dst = some d → chain.contains i = false → R i v) →
          ((chain.contains i = false ∧ vs' = vs) ∨ (∃ p, chain[p]? = some i ∧ vs' = vs.set p (some v))) →
          wpAny P .any ops Q fuel (listed.setIfInBounds i true) (Act.put ⟨((List.range tmps.toArray.size).map f).toArray, defers⟩ o.dst v) w' := by
        intro v vs' w' hG hRi hvs
        have hc' := count_set (l := listed) hils hun hc
        have hset : ∀ j, (listed.setIfInBounds i true).getD j false = true ↔ j = i ∨ listed.getD j false = true := by
          intro j
          by_cases hj : j = i
          · subst hj; simp [getD_set_eq hils]
          · rw [getD_set_ne false (Ne.symm hj)]; simp [hj]
        obtain ⟨f', hf', hput⟩ : ∃ f', (∀ k, f' k = match o.dst with | some d => if k = d then v else f k | none => f k) ∧ Act.put ⟨((List.range tmps.toArray.size).map f).toArray, defers⟩ o.dst v = ⟨((List.range tmps.toArray.size).map f').toArray, defers⟩ := by
          cases hd : o.dst with
          | none => exact ⟨f, fun k => rfl, rfl⟩
          | some d =>
            have hdlt := ok.lt d hd
            refine ⟨fun k => if k = d then v else f k, fun k => rfl, ?_⟩
            simp only [Act.put, Act.mk.injEq, and_true]
            apply Array.ext_getElem?
            intro k
            rw [Array.getElem?_setIfInBounds]
            by_cases hk : k < tmps.toArray.size
            · by_cases hkd : d = k
              · subst hkd; simp at hk; simp [hk]
              · simp at hk; simp [hk, hkd, Ne.symm hkd]
            · have : ¬ d = k := fun e => hk (e ▸ hdlt)
              simp only [this, if_false]
              rw [Array.getElem?_eq_none (by simpa using hk), Array.getElem?_eq_none (by simpa using hk)]
        rw [hput]
        have hother : ∀ j k, j ≠ i → (ops[j]?).bind (·.dst) = some k → f' k = f k := by
          intro j k hji hjk
          rw [hf']
          cases hd : o.dst with
          | none => rfl
          | some d =>
            have hkd : k ≠ d := by
              rintro rfl
              have hjlt : j < ops.size := by
                rcases Nat.lt_or_ge j ops.size with h | h
                · exact h
                · simp [Array.getElem?_eq_none h] at hjk
              exact hji (ok.own k j hd hjlt hjk).symm
            simp [hkd]
        have hself : ∀ d, (ops[i]?).bind (·.dst) = some d → f' d = v := by
          intro d hd
          rw [ho] at hd
          simp only [Option.bind_some] at hd
          rw [hf', hd]; simp
        refine ih _ f' vs' w' hc' ⟨by simpa using H.size, fun d hd => ?_, fun j d hjc hj hjd => ?_, fun p c hpc => ?_, fun p c d hpc hp hcd => ?_, ?_, fun j oj hoj hj e he hb => ?_, hG⟩
        · rw [hf']
          cases hd2 : o.dst with
          | none => exact H.keep d hd
          | some d' =>
            have : d ≠ d' := by rintro rfl; rw [mem_dsts ho hd2] at hd; cases hd
            simp only [this, if_false]
            exact H.keep d hd
        · by_cases hji : j = i
          · subst hji
            rw [hself d hjd]
            rw [ho] at hjd
            exact hRi d hjd hjc
          · rw [hother j d hji hjd]
            exact H.plain j d hjc (((hset j).1 hj).resolve_left hji) hjd
        · rw [hset]
          rcases hvs with ⟨hci, rfl⟩ | ⟨q, hq, rfl⟩
          · have : c ≠ i := by
              rintro rfl
              have := List.mem_of_getElem? hpc
              simp [this] at hci
            exact ⟨fun h => (H.link p c hpc).1 (h.resolve_left this), fun h => .inr ((H.link p c hpc).2 h)⟩
          · have hpl : q < vs.length := by rw [H.len]; exact (List.getElem?_eq_some_iff.1 hq).1
            by_cases hpq : p = q
            · subst hpq
              rw [hq] at hpc
              simp only [Option.some.injEq] at hpc
              subst hpc
              exact ⟨fun _ => ⟨v, by rw [List.getElem?_set_self hpl]⟩, fun _ => .inl rfl⟩
            · have hci : c ≠ i := by
                rintro rfl
                exact hpq ((List.getElem?_inj (List.getElem?_eq_some_iff.1 hpc).1 hnd).1 (hpc.trans hq.symm))
              rw [List.getElem?_set_ne (Ne.symm hpq)]
              exact ⟨fun h => (H.link p c hpc).1 (h.resolve_left hci), fun h => .inr ((H.link p c hpc).2 h)⟩
        · rcases hvs with ⟨hci, rfl⟩ | ⟨q, hq, rfl⟩
          · have hne : c ≠ i := by
              rintro rfl
              have := List.mem_of_getElem? hpc
              simp [this] at hci
            rw [hother c d hne hcd]
            exact H.vals p c d hpc (((hset c).1 hp).resolve_left hne) hcd
          · have hpl : q < vs.length := by rw [H.len]; exact (List.getElem?_eq_some_iff.1 hq).1
            by_cases hpq : p = q
            · subst hpq
              rw [hq] at hpc
              simp only [Option.some.injEq] at hpc
              subst hpc
              rw [hself d hcd, List.getElem?_set_self hpl]
            · have hne : c ≠ i := by
                rintro rfl
                exact hpq ((List.getElem?_inj (List.getElem?_eq_some_iff.1 hpc).1 hnd).1 (hpc.trans hq.symm))
              rw [hother c d hne hcd, List.getElem?_set_ne (Ne.symm hpq)]
              exact H.vals p c d hpc (((hset c).1 hp).resolve_left hne) hcd
        · rcases hvs with ⟨hci, rfl⟩ | ⟨q, hq, rfl⟩
          · exact H.len
          · rw [List.length_set]; exact H.len
        · rw [hset]
          by_cases hji : j = i
          · subst hji
            rw [ho] at hoj
            simp only [Option.some.injEq] at hoj
            subst hoj
            exact .inr (haf e he hb)
          · exact .inr (H.closed j oj hoj (((hset j).1 hj).resolve_left hji) e he hb)
      rcases hs2 with ⟨hci, β, hg, hs1, hs2⟩ | ⟨p, hp, hgn, hs2⟩
      · have hwant : Region.wanted o (yielded ops ((List.range tmps.toArray.size).map f).toArray) = β := by
          have known : ∀ g c d b, o.guard = some (g, b) → chain.contains g = false → (∀ v, R g v → (d = true → v = .bool c) ∧ (d = false → v = undef)) → yielded ops ((List.range tmps.toArray.size).map f).toArray g = if d then some c else none := by
            intro g c dd b hgb hgc hv
            obtain ⟨⟨e, he, h1, h2⟩, d, hd⟩ := ok.guard g b hgb
            have hv := hv (f d) (H.plain g d hgc (h1 ▸ haf e he h2) hd)
            have hdlt : d < tmps.toArray.size := by
              obtain ⟨og, hog, hgd⟩ := Option.bind_eq_some_iff.1 hd
              exact (opsB_spec hB' hog).lt d hgd
            simp only [List.size_toArray] at hdlt
            unfold yielded
            rw [hd]
            cases dd with
            | true => simp [hdlt, hv.1 rfl]
            | false => simp [hdlt, hv.2 rfl, undef]
          cases hg with
          | none h => unfold Region.wanted; rw [h]
          | @yes g c d h hc hv => have := known _ _ _ _ h hc hv; unfold Region.wanted; rw [h]; simp only [this]; cases d <;> simp
          | @no g c d h hc hv => have := known _ _ _ _ h hc hv; unfold Region.wanted; rw [h]; simp only [this]; cases d <;> cases c <;> simp
        cases hβ : β with
        | false =>
          rw [hβ] at hwant
          simp only [hwant, Bool.false_eq_true, if_false]
          exact step undef vs w H.now (fun _ _ _ => hs1 hβ) (.inl ⟨hci, rfl⟩)
        | true =>
          rw [hβ] at hwant
          simp only [hwant, if_true]
          refine Or.inl (Oper.wp_mono ?_ (hs2 hβ f w vs ctx))
          rintro a' w' ⟨v, rfl, rfl, hRi⟩
          exact step v vs w' H.now (fun _ _ _ => hRi) (.inl ⟨hci, rfl⟩)
      · have hwant : Region.wanted o (yielded ops ((List.range tmps.toArray.size).map f).toArray) = true := by unfold Region.wanted; rw [hgn]
        have hnone : vs[p]? = some none := by
          have hp' : p < vs.length := by rw [H.len]; exact (List.getElem?_eq_some_iff.1 hp).1
          rw [List.getElem?_eq_getElem hp']
          cases hx : vs[p] with
          | none => rfl
          | some v =>
            have := (H.link p i hp).2 ⟨v, by rw [List.getElem?_eq_getElem hp', hx]⟩
            rw [hun'] at this; cases this
        simp only [hwant, if_true]
        refine Or.inl (Oper.wp_mono ?_ (hs2 f w vs ctx hnone))
        rintro a' w' ⟨v, rfl, hG⟩
        have hcc : chain.contains i = true := by
          have := List.mem_of_getElem? hp
          simpa using this
        exact step v (vs.set p (some v)) w' hG (fun _ _ h => by rw [hcc] at h; cases h) (.inr ⟨p, hp, rfl⟩)
  have e0 : (⟨tmps.toArray, defers⟩ : Act) = ⟨((List.range tmps.toArray.size).map (fun d => tmps.toArray.getD d undef)).toArray, defers⟩ := by
    simp only [Act.mk.injEq, and_true]
    apply Array.ext_getElem?
    intro k
    by_cases hk : k < tmps.length <;> simp [hk]
  rw [e0]
  have nothing : ∀ i, ((List.replicate ops.size false).toArray).getD i false = false := fun i => by
    by_cases h : i < ops.size <;> simp [Array.getD, h]
  have nothing' : ∀ i, (Array.replicate ops.size false).getD i false = false := fun i => by
    by_cases h : i < ops.size <;> simp [Array.getD, h]
  refine main _ _ _ (List.replicate chain.length none) _ (by simp) ⟨by simp, fun _ _ => rfl, fun i d _ hi => ?_, fun p c hpc => ?_, fun p c d _ hp => ?_, by simp, fun i o _ hi => ?_, h0⟩
  · rw [nothing'] at hi; cases hi
  · rw [nothing']
    refine ⟨fun h => (by cases h), fun ⟨v, hv⟩ => ?_⟩
    have hp := (List.getElem?_eq_some_iff.1 hpc).1
    simp [hp] at hv
  · rw [nothing'] at hp; cases hp
  · rw [nothing'] at hi; cases hi

theorem wp_region_mem {id : Nat} {dr : Bool} {Q : Exit → Act → World → Prop} {tmps : List Value} {defers : List Deferred} {w0 : World} (chain : List Nat) (R : Nat → Value → Prop) (G : List (Option Value) → World → Prop) (m : List Bool)
    (hm : P.follows .mixedOrders = true) (hB : opsB ops tmps.length = true) (hnd : chain.Nodup) (hin : (chain.all fun c => Nat.blt c ops.size) = true) (hmask : maskOf ops tmps.length = m) (h0 : G (List.replicate chain.length none) (bif dr then w0.drew else w0))
    (h : SoundFromM P ops Q chain R G tmps.toArray defers 0 ops.toList)
    (hQ : ∀ (u : Nat → Value) (w : World) (vs : List (Option Value)), vs.length = chain.length → (∀ p, p < chain.length → ∃ v, vs[p]? = some (some v)) → G vs w → (∀ i d, (ops[i]?).bind (·.dst) = some d → chain.contains i = false → R i (u d)) → (∀ (p c d : Nat), chain[p]? = some c → (ops[c]?).bind (·.dst) = some d → vs[p]? = some (some (u d))) → Q .normal ⟨(finM u m 0 tmps).toArray, defers⟩ w) :
    (Code.region id ops dr).wp P Q ⟨tmps.toArray, defers⟩ w0 := by
  cases dr with
  | true => exact wp_region_any hm (wp_any_mem chain R G m hB hnd hin hmask h0 h hQ)
  | false => exact any_start hB (wp_any_mem chain R G m hB hnd hin hmask h0 h hQ)

end
end Go.Proofs.Ytjkpecjlpgcalaa
