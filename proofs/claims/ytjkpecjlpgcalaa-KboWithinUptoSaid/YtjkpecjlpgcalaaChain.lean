/- A region that draws its order, of which some operations change the memory, one behind the other, and the others only read: walked once. -/
import Derived.Test.YtjkpecjlpgcalaaOpt
namespace Go.Proofs.Ytjkpecjlpgcalaa
open Go.RowKit Go

section
variable {P : Program} {ops : Array Oper}

def afterB (ops : Array Oper) (c i : Nat) : Bool := match ops[c]? with | some o => o.after.any (fun e => e.on == i && Region.binds .any e) | none => false
def chainB (ops : Array Oper) (chain : List Nat) : Bool := (List.range chain.length).all fun p => p == 0 || afterB ops (chain.getD p 0) (chain.getD (p - 1) 0)

inductive GuardC (R : Nat → Value → Prop) (chain : List Nat) (o : Oper) : Bool → Prop where
  | none (h : o.guard = none) : GuardC R chain o true
  | yes {g : Nat} {c d : Bool} (h : o.guard = some (g, true)) (hc : chain.contains g = false) (hv : ∀ v, R g v → (d = true → v = .bool c) ∧ (d = false → v = undef)) : GuardC R chain o (d && c)
  | no {g : Nat} {c d : Bool} (h : o.guard = some (g, false)) (hc : chain.contains g = false) (hv : ∀ v, R g v → (d = true → v = .bool c) ∧ (d = false → v = undef)) : GuardC R chain o (d && !c)

structure Ctx (ops : Array Oper) (chain : List Nat) (R : Nat → Value → Prop) (G : List Value → World → Prop) (tmps : Array Value) (i : Nat) (o : Oper) (f : Nat → Value) (w : World) (vs : List Value) : Prop where
  now : G vs w
  keep : ∀ d, (dstsOf ops).contains d = false → f d = tmps.getD d undef
  dep : ∀ j d, depB ops o j d = true → chain.contains j = false → R j (f d)
  link : ∀ (p c d : Nat), chain[p]? = some c → depB ops o c d = true → vs[p]? = some (f d)
  most : ∀ (p c : Nat), chain[p]? = some c → afterB ops c i = true → vs.length ≤ p

def SoundC (P : Program) (ops : Array Oper) (Q : Exit → Act → World → Prop) (chain : List Nat) (R : Nat → Value → Prop) (G : List Value → World → Prop) (tmps : Array Value) (defers : List Deferred) (i : Nat) (o : Oper) : Prop :=
  (chain.contains i = false ∧ ∃ β, GuardC R chain o β ∧ (β = false → R i undef) ∧
    (β = true → ∀ (f : Nat → Value) (w : World) (vs : List Value), Ctx ops chain R G tmps i o f w vs →
      o.wp P ⟨((List.range tmps.size).map f).toArray, defers⟩ w (fun a' w' => ∃ v, a' = Act.put ⟨((List.range tmps.size).map f).toArray, defers⟩ o.dst v ∧ w' = w ∧ R i v) Q)) ∨
  (∃ p, chain[p]? = some i ∧ o.guard = none ∧ ∀ (f : Nat → Value) (w : World) (vs : List Value), Ctx ops chain R G tmps i o f w vs → vs.length = p →
      o.wp P ⟨((List.range tmps.size).map f).toArray, defers⟩ w (fun a' w' => ∃ v, a' = Act.put ⟨((List.range tmps.size).map f).toArray, defers⟩ o.dst v ∧ G (vs ++ [v]) w') Q)

def SoundFromC (P : Program) (ops : Array Oper) (Q : Exit → Act → World → Prop) (chain : List Nat) (R : Nat → Value → Prop) (G : List Value → World → Prop) (tmps : Array Value) (defers : List Deferred) : Nat → List Oper → Prop
  | _, [] => True
  | k, o :: r => SoundC P ops Q chain R G tmps defers k o ∧ SoundFromC P ops Q chain R G tmps defers (k + 1) r

theorem SoundFromC.at_ {Q : Exit → Act → World → Prop} {chain : List Nat} {R : Nat → Value → Prop} {G : List Value → World → Prop} {tmps : Array Value} {defers : List Deferred} : ∀ {l : List Oper} {k : Nat}, SoundFromC P ops Q chain R G tmps defers k l → ∀ i o, l[i]? = some o → SoundC P ops Q chain R G tmps defers (k + i) o
  | [], _, _, i, o, h => by simp at h
  | x :: r, k, h, 0, o, ho => by simp at ho; subst ho; exact h.1
  | x :: r, k, h, i + 1, o, ho => by
    have := h.2.at_ i o (by simpa using ho)
    rwa [show k + 1 + i = k + (i + 1) by omega] at this

structure At (ops : Array Oper) (chain : List Nat) (R : Nat → Value → Prop) (G : List Value → World → Prop) (tmps : Array Value) (listed : Array Bool) (f : Nat → Value) (vs : List Value) (w : World) : Prop where
  size : listed.size = ops.size
  keep : ∀ d, (dstsOf ops).contains d = false → f d = tmps.getD d undef
  plain : ∀ i d, chain.contains i = false → listed.getD i false = true → (ops[i]?).bind (·.dst) = some d → R i (f d)
  link : ∀ p c : Nat, chain[p]? = some c → (listed.getD c false = true ↔ p < vs.length)
  vals : ∀ (p c d : Nat), chain[p]? = some c → p < vs.length → (ops[c]?).bind (·.dst) = some d → vs[p]? = some (f d)
  len : vs.length ≤ chain.length
  closed : ∀ i o, ops[i]? = some o → listed.getD i false = true → ∀ e ∈ o.after, Region.binds .any e = true → listed.getD e.on false = true
  now : G vs w

theorem getD_false_of {l : Array Bool} {i : Nat} (h : l.getD i true = false) : l.getD i false = false := by
  by_cases hi : i < l.size
  · simpa [Array.getD, hi] using h
  · simp [Array.getD, hi]

theorem getD_set_eq {l : Array Bool} {i : Nat} (h : i < l.size) : (l.setIfInBounds i true).getD i false = true := by simp [Array.getD, h]

theorem wp_any_chain {Q : Exit → Act → World → Prop} {tmps : List Value} {defers : List Deferred} {w0 : World} (chain : List Nat) (R : Nat → Value → Prop) (G : List Value → World → Prop) (m : List Bool)
    (hB : opsB ops tmps.length = true) (hC : chainB ops chain = true) (hnd : chain.Nodup) (hin : (chain.all fun c => Nat.blt c ops.size) = true) (hmask : maskOf ops tmps.length = m) (h0 : G [] w0)
    (h : SoundFromC P ops Q chain R G tmps.toArray defers 0 ops.toList)
    (hQ : ∀ (u : Nat → Value) (w : World) (vs : List Value), vs.length = chain.length → G vs w → (∀ i d, (ops[i]?).bind (·.dst) = some d → chain.contains i = false → R i (u d)) → (∀ (p c d : Nat), chain[p]? = some c → (ops[c]?).bind (·.dst) = some d → vs[p]? = some (u d)) → Q .normal ⟨(finM u m 0 tmps).toArray, defers⟩ w) :
    wpAny P .any ops Q ops.size (Array.replicate ops.size false) ⟨tmps.toArray, defers⟩ w0 := by
  have hB' : opsB ops tmps.toArray.size = true := by simpa using hB
  have main : ∀ (fuel : Nat) (listed : Array Bool) (f : Nat → Value) (vs : List Value) (w : World), listed.toList.count false ≤ fuel → At ops chain R G tmps.toArray listed f vs w →
      wpAny P .any ops Q fuel listed ⟨((List.range tmps.toArray.size).map f).toArray, defers⟩ w := by
    intro fuel
    have done : ∀ (listed : Array Bool) (f : Nat → Value) (vs : List Value) (w : World), Region.ready .any ops listed = [] → At ops chain R G tmps.toArray listed f vs w →
      Q .normal ⟨((List.range tmps.toArray.size).map f).toArray, defers⟩ w := by
      intro listed f vs w hr H
      have all : ∀ i, i < ops.size → listed.getD i false = true := fun i hi => by
        have := ready_nil hB' H.size hr i hi
        have hs := H.size
        simpa [Array.getD, show i < listed.size by omega] using this
      have hlen : vs.length = chain.length := by
        have h1 := H.len
        rcases Nat.lt_or_ge vs.length chain.length with h2 | h2
        · have hc : chain[vs.length]? = some chain[vs.length] := by simp [h2]
          have hlt : chain[vs.length] < ops.size := by
            have := List.all_eq_true.1 hin _ (List.getElem_mem h2)
            simpa [Nat.blt_eq] using this
          have := (H.link _ _ hc).1 (all _ hlt)
          omega
        · omega
      have lt_of : ∀ i d, (ops[i]?).bind (·.dst) = some d → i < ops.size := fun i d hd => by
        rcases Nat.lt_or_ge i ops.size with h | h
        · exact h
        · simp [Array.getElem?_eq_none h] at hd
      have := hQ f w vs hlen H.now (fun i d hd hc => H.plain i d hc (all i (lt_of i d hd)) hd) (fun p c d hc hd => H.vals p c d hc (by
        have : p < chain.length := by
          rcases Nat.lt_or_ge p chain.length with h | h
          · exact h
          · simp [List.getElem?_eq_none h] at hc
        omega) hd)
      rw [← hmask, maskOf, List.range_eq_range', finM_fin] at this
      have e : fin (dstsOf ops) f 0 tmps = (List.range tmps.toArray.size).map f := by
        apply List.ext_getElem?
        intro k
        by_cases hk : k < tmps.length
        · rw [fin_at _ _ _ _ _ hk]
          simp only [List.size_toArray, Nat.zero_add, List.getElem?_map, List.getElem?_range hk, Option.map_some]
          congr 1
          cases hc : (dstsOf ops).contains k with
          | true => simp
          | false => simp [H.keep k hc, hk]
        · rw [List.getElem?_eq_none (by rw [fin_len]; simpa using hk), List.getElem?_eq_none (by simpa using hk)]
      rwa [e] at this
    induction fuel with
    | zero =>
      intro listed f vs w hc H
      have hr : Region.ready .any ops listed = [] := by
        cases hr : Region.ready .any ops listed with
        | nil => rfl
        | cons i r =>
          have := (mem_ready (md := .any) (ops := ops) (j := i) (listed := listed)).1 (by rw [hr]; simp)
          rw [count_zero hc i] at this
          simp at this
      exact ⟨hr, done listed f vs w hr H⟩
    | succ fuel ih =>
      intro listed f vs w hc H
      refine ⟨fun hr => done listed f vs w hr H, fun i hi => ?_⟩
      obtain ⟨hun, o, ho, haf⟩ := mem_ready.1 hi
      have hilt : i < ops.size := by
        rcases Nat.lt_or_ge i ops.size with h | h
        · exact h
        · simp [Array.getElem?_eq_none h] at ho
      have hils : i < listed.size := by have := H.size; omega
      have hun' := getD_false_of hun
      have ok := opsB_spec hB' ho
      have hs2 := h.at_ i o (by simpa using ho)
      rw [Nat.zero_add] at hs2
      have after_of : ∀ j d, depB ops o j d = true → listed.getD j false = true ∧ (ops[j]?).bind (·.dst) = some d := by
        intro j d hj
        simp only [depB, Bool.and_eq_true, Array.any_eq_true, beq_iff_eq] at hj
        obtain ⟨⟨k, hk, h1, h2⟩, h3⟩ := hj
        exact ⟨h1 ▸ haf _ (Array.getElem_mem hk) h2, h3⟩
      have ctx : Ctx ops chain R G tmps.toArray i o f w vs := by
        refine ⟨H.now, H.keep, fun j d hj hc => H.plain j d hc (after_of j d hj).1 (after_of j d hj).2, fun p c d hc hj => ?_, fun p c hc ha => ?_⟩
        · exact H.vals p c d hc ((H.link p c hc).1 (after_of c d hj).1) (after_of c d hj).2
        · rcases Nat.lt_or_ge p vs.length with hp | hp
          · exfalso
            have hl := (H.link p c hc).2 hp
            unfold afterB at ha
            split at ha
            · rename_i oc hoc
              simp only [Array.any_eq_true, Bool.and_eq_true, beq_iff_eq] at ha
              obtain ⟨k, hk, h1, h2⟩ := ha
              have := H.closed c oc hoc hl _ (Array.getElem_mem hk) h2
              rw [h1, hun'] at this
              cases this
            · cases ha
          · exact hp
      unfold wpOp
      simp only [ho]
      -- what is behind a step
      have step : ∀ (v : Value) (vs' : List Value) (w' : World), G vs' w' → (∀ d, o.dst = some d → chain.contains i = false → R i v) →
          ((chain.contains i = false ∧ vs' = vs) ∨ (∃ p, chain[p]? = some i ∧ vs.length = p ∧ vs' = vs ++ [v])) →
          wpAny P .any ops Q fuel (listed.setIfInBounds i true) (Act.put ⟨((List.range tmps.toArray.size).map f).toArray, defers⟩ o.dst v) w' := by
        intro v vs' w' hG hRi hvs
        have hc' := count_set (l := listed) hils hun hc
        have hset : ∀ j, (listed.setIfInBounds i true).getD j false = true ↔ j = i ∨ listed.getD j false = true := by
          intro j
          by_cases hj : j = i
          · subst hj; simp [getD_set_eq hils]
          · rw [getD_set_ne false (Ne.symm hj)]; simp [hj]
        obtain ⟨f', hf', hput⟩ : ∃ f', (∀ k, f' k = match o.dst with | some d => if k = d then v else f k | none => f k) ∧ Act.put ⟨((List.range tmps.toArray.size).map f).toArray, defers⟩ o.dst v = ⟨((List.range tmps.toArray.size).map f').toArray, defers⟩ := by
          cases hd : o.dst with
          | none => exact ⟨f, fun k => rfl, rfl⟩
          | some d =>
            have hdlt := ok.lt d hd
            refine ⟨fun k => if k = d then v else f k, fun k => rfl, ?_⟩
            simp only [Act.put, Act.mk.injEq, and_true]
            apply Array.ext_getElem?
            intro k
            rw [Array.getElem?_setIfInBounds]
            by_cases hk : k < tmps.toArray.size
            · by_cases hkd : d = k
              · subst hkd; simp at hk; simp [hk]
              · simp at hk; simp [hk, hkd, Ne.symm hkd]
            · have : ¬ d = k := fun e => hk (e ▸ hdlt)
              simp only [this, if_false]
              rw [Array.getElem?_eq_none (by simpa using hk), Array.getElem?_eq_none (by simpa using hk)]
        rw [hput]
        have hother : ∀ j k, j ≠ i → (ops[j]?).bind (·.dst) = some k → f' k = f k := by
          intro j k hji hjk
          rw [hf']
          cases hd : o.dst with
          | none => rfl
          | some d =>
            have hkd : k ≠ d := by
              rintro rfl
              have hjlt : j < ops.size := by
                rcases Nat.lt_or_ge j ops.size with h | h
                · exact h
                · simp [Array.getElem?_eq_none h] at hjk
              exact hji (ok.own k j hd hjlt hjk).symm
            simp [hkd]
        have hself : ∀ d, (ops[i]?).bind (·.dst) = some d → f' d = v := by
          intro d hd
          rw [ho] at hd
          simp only [Option.bind_some] at hd
          rw [hf', hd]; simp
        refine ih _ f' vs' w' hc' ⟨by simpa using H.size, fun d hd => ?_, fun j d hjc hj hjd => ?_, fun p c hpc => ?_, fun p c d hpc hp hcd => ?_, ?_, fun j oj hoj hj e he hb => ?_, hG⟩
        · rw [hf']
          cases hd2 : o.dst with
          | none => exact H.keep d hd
          | some d' =>
            have : d ≠ d' := by rintro rfl; rw [mem_dsts ho hd2] at hd; cases hd
            simp only [this, if_false]
            exact H.keep d hd
        · by_cases hji : j = i
          · subst hji
            rw [hself d hjd]
            rw [ho] at hjd
            exact hRi d hjd hjc
          · rw [hother j d hji hjd]
            exact H.plain j d hjc (((hset j).1 hj).resolve_left hji) hjd
        · rw [hset]
          rcases hvs with ⟨hci, rfl⟩ | ⟨q, hq, hlen, rfl⟩
          · have : c ≠ i := by
              rintro rfl
              have := List.mem_of_getElem? hpc
              simp [this] at hci
            exact ⟨fun h => (H.link p c hpc).1 (h.resolve_left this), fun h => .inr ((H.link p c hpc).2 h)⟩
          · by_cases hpq : p = q
            · subst hpq
              rw [hq] at hpc
              simp only [Option.some.injEq] at hpc
              subst hpc
              exact ⟨fun _ => by simp; omega, fun _ => .inl rfl⟩
            · have hci : c ≠ i := by
                rintro rfl
                exact hpq ((List.getElem?_inj (List.getElem?_eq_some_iff.1 hpc).1 hnd).1 (hpc.trans hq.symm))
              have hlk := H.link p c hpc
              refine ⟨fun h => ?_, fun h => .inr (hlk.2 ?_)⟩
              · have := hlk.1 (h.resolve_left hci)
                simp; omega
              · simp at h; omega
        · rcases hvs with ⟨hci, rfl⟩ | ⟨q, hq, hlen, rfl⟩
          · have hne : c ≠ i := by
              rintro rfl
              have := List.mem_of_getElem? hpc
              simp [this] at hci
            rw [hother c d hne hcd]
            exact H.vals p c d hpc hp hcd
          · by_cases hpq : p = q
            · subst hpq
              rw [hq] at hpc
              simp only [Option.some.injEq] at hpc
              subst hpc
              rw [hself d hcd, ← hlen]
              simp
            · have hne : c ≠ i := by
                rintro rfl
                exact hpq ((List.getElem?_inj (List.getElem?_eq_some_iff.1 hpc).1 hnd).1 (hpc.trans hq.symm))
              have hp' : p < vs.length := by simp at hp; omega
              rw [hother c d hne hcd, List.getElem?_append_left hp']
              exact H.vals p c d hpc hp' hcd
        · rcases hvs with ⟨hci, rfl⟩ | ⟨q, hq, hlen, rfl⟩
          · exact H.len
          · have := (List.getElem?_eq_some_iff.1 hq).1
            simp; omega
        · rw [hset]
          by_cases hji : j = i
          · subst hji
            rw [ho] at hoj
            simp only [Option.some.injEq] at hoj
            subst hoj
            exact .inr (haf e he hb)
          · exact .inr (H.closed j oj hoj (((hset j).1 hj).resolve_left hji) e he hb)
      rcases hs2 with ⟨hci, β, hg, hs1, hs2⟩ | ⟨p, hp, hgn, hs2⟩
      · have hwant : Region.wanted o (yielded ops ((List.range tmps.toArray.size).map f).toArray) = β := by
          have known : ∀ g c d b, o.guard = some (g, b) → chain.contains g = false → (∀ v, R g v → (d = true → v = .bool c) ∧ (d = false → v = undef)) → yielded ops ((List.range tmps.toArray.size).map f).toArray g = if d then some c else none := by
            intro g c dd b hgb hgc hv
            obtain ⟨⟨e, he, h1, h2⟩, d, hd⟩ := ok.guard g b hgb
            have hv := hv (f d) (H.plain g d hgc (h1 ▸ haf e he h2) hd)
            have hdlt : d < tmps.toArray.size := by
              obtain ⟨og, hog, hgd⟩ := Option.bind_eq_some_iff.1 hd
              exact (opsB_spec hB' hog).lt d hgd
            simp only [List.size_toArray] at hdlt
            unfold yielded
            rw [hd]
            cases dd with
            | true => simp [hdlt, hv.1 rfl]
            | false => simp [hdlt, hv.2 rfl, undef]
          cases hg with
          | none h => unfold Region.wanted; rw [h]
          | @yes g c d h hc hv => have := known _ _ _ _ h hc hv; unfold Region.wanted; rw [h]; simp only [this]; cases d <;> simp
          | @no g c d h hc hv => have := known _ _ _ _ h hc hv; unfold Region.wanted; rw [h]; simp only [this]; cases d <;> cases c <;> simp
        cases hβ : β with
        | false =>
          rw [hβ] at hwant
          simp only [hwant, Bool.false_eq_true, if_false]
          exact step undef vs w H.now (fun _ _ _ => hs1 hβ) (.inl ⟨hci, rfl⟩)
        | true =>
          rw [hβ] at hwant
          simp only [hwant, if_true]
          refine Or.inl (Oper.wp_mono ?_ (hs2 hβ f w vs ctx))
          rintro a' w' ⟨v, rfl, rfl, hRi⟩
          exact step v vs w' H.now (fun _ _ _ => hRi) (.inl ⟨hci, rfl⟩)
      · have hwant : Region.wanted o (yielded ops ((List.range tmps.toArray.size).map f).toArray) = true := by unfold Region.wanted; rw [hgn]
        have hnl : ¬ p < vs.length := fun hlt => by
          have := (H.link p i hp).2 hlt
          rw [hun'] at this; cases this
        have hpl : p < chain.length := (List.getElem?_eq_some_iff.1 hp).1
        have hlen : vs.length = p := by
          rcases Nat.eq_zero_or_pos p with h0 | hpos
          · omega
          · have := List.all_eq_true.1 hC p (by simpa using hpl)
            simp only [Bool.or_eq_true, beq_iff_eq] at this
            have ha := this.resolve_left (by omega)
            have e1 : chain.getD p 0 = i := by rw [List.getD_eq_getElem?_getD, hp]; rfl
            rw [e1] at ha
            unfold afterB at ha
            rw [ho] at ha
            simp only [Array.any_eq_true, Bool.and_eq_true, beq_iff_eq] at ha
            obtain ⟨k, hk, h1, h2⟩ := ha
            have hl := haf _ (Array.getElem_mem hk) h2
            rw [h1] at hl
            have hc1 : chain[p - 1]? = some (chain.getD (p - 1) 0) := by
              rw [List.getD_eq_getElem?_getD, List.getElem?_eq_getElem (by omega)]; rfl
            have := (H.link _ _ hc1).1 hl
            omega
        simp only [hwant, if_true]
        refine Or.inl (Oper.wp_mono ?_ (hs2 f w vs ctx hlen))
        rintro a' w' ⟨v, rfl, hG⟩
        have hcc : chain.contains i = true := by
          have := List.mem_of_getElem? hp
          simpa using this
        exact step v (vs ++ [v]) w' hG (fun _ _ h => by rw [hcc] at h; cases h) (.inr ⟨p, hp, hlen, rfl⟩)
  have e0 : (⟨tmps.toArray, defers⟩ : Act) = ⟨((List.range tmps.toArray.size).map (fun d => tmps.toArray.getD d undef)).toArray, defers⟩ := by
    simp only [Act.mk.injEq, and_true]
    apply Array.ext_getElem?
    intro k
    by_cases hk : k < tmps.length <;> simp [hk]
  rw [e0]
  have nothing : ∀ i, ((List.replicate ops.size false).toArray).getD i false = false := fun i => by
    by_cases h : i < ops.size <;> simp [Array.getD, h]
  have nothing' : ∀ i, (Array.replicate ops.size false).getD i false = false := fun i => by
    by_cases h : i < ops.size <;> simp [Array.getD, h]
  refine main _ _ _ [] _ (by simp) ⟨by simp, fun _ _ => rfl, fun i d _ hi => ?_, fun p c _ => ?_, fun p c d _ hp => by simp at hp, by simp, fun i o _ hi => ?_, h0⟩
  · rw [nothing'] at hi; cases hi
  · rw [nothing']; simp
  · rw [nothing'] at hi; cases hi

theorem wp_region_chain {id : Nat} {dr : Bool} {Q : Exit → Act → World → Prop} {tmps : List Value} {defers : List Deferred} {w0 : World} (chain : List Nat) (R : Nat → Value → Prop) (G : List Value → World → Prop) (m : List Bool)
    (hm : P.follows .mixedOrders = true) (hB : opsB ops tmps.length = true) (hC : chainB ops chain = true) (hnd : chain.Nodup) (hin : (chain.all fun c => Nat.blt c ops.size) = true) (hmask : maskOf ops tmps.length = m) (h0 : G [] (bif dr then w0.drew else w0))
    (h : SoundFromC P ops Q chain R G tmps.toArray defers 0 ops.toList)
    (hQ : ∀ (u : Nat → Value) (w : World) (vs : List Value), vs.length = chain.length → G vs w → (∀ i d, (ops[i]?).bind (·.dst) = some d → chain.contains i = false → R i (u d)) → (∀ (p c d : Nat), chain[p]? = some c → (ops[c]?).bind (·.dst) = some d → vs[p]? = some (u d)) → Q .normal ⟨(finM u m 0 tmps).toArray, defers⟩ w) :
    (Code.region id ops dr).wp P Q ⟨tmps.toArray, defers⟩ w0 := by
  cases dr with
  | true => exact wp_region_any hm (wp_any_chain chain R G m hB hC hnd hin hmask h0 h hQ)
  | false => exact any_start hB (wp_any_chain chain R G m hB hC hnd hin hmask h0 h hQ)

/-! ### Operations of such a region that only read -/

def optP (l : List (Bool × Value)) (i : Nat) (v : Value) : Prop := ((l.getD i (true, undef)).1 = true → v = (l.getD i (true, undef)).2) ∧ ((l.getD i (true, undef)).1 = false → v = undef)
theorem optPVal {l : List (Bool × Value)} {i : Nat} {v x : Value} {β : Bool} (h : optP l i v) (e : l.getD i (true, undef) = (β, x)) (hβ : β = true) : v = x := by
  have := h.1 (by rw [e]; exact hβ)
  rw [e] at this
  exact this

end
end Go.Proofs.Ytjkpecjlpgcalaa
