/- Regions in whatever order, in which operations that change the memory may be guarded: one behind the other, each with what it yields. -/
import Derived.Test.YtnblndmjjokepaaTail3
namespace Go.Proofs.Ytnblndmjjokepaa
open Go.RowKit Go
set_option linter.unusedVariables false
set_option linter.unusedSimpArgs false
section
variable {P : Program} {ops : Array Oper}
structure CtxQ (ops : Array Oper) (chain : List Nat) (R : Nat → Value → World → Prop) (G : List (Option Value) → World → Prop) (n : Fr) (K Ke : Known) (i : Nat) (o : Oper) (a : Act) (w : World) (vs : List (Option Value)) : Prop extends CtxH ops chain R G n K Ke i o a w vs where
  anc : ∀ (p c : Nat), chain[p]? = some c → o.after.any (fun e => Region.binds .any e && (ancL ops e.on).contains c) = true → ∃ v, vs[p]? = some (some v)
def SoundQ (P : Program) (ops : Array Oper) (Q : Exit → Act → World → Prop) (chain : List Nat) (R : Nat → Value → World → Prop) (Le : World → World → Prop) (G : List (Option Value) → World → Prop) (n : Fr) (K Ke : Known) (i : Nat) (o : Oper) : Prop :=
  (chain.contains i = false ∧ ∃ β, GuardIs R o β ∧ (∀ g b, o.guard = some (g, b) → chain.contains g = false) ∧ (β = false → ∀ w, R i undef w) ∧
    (β = true → ∀ (a : Act) (w : World) (vs : List (Option Value)), CtxQ ops chain R G n K Ke i o a w vs →
      o.wpIn (fen n.r) 0 P a w (fun a' w' => ∃ v, a' = Act.put a o.dst v ∧ Le w w' ∧ G vs w' ∧ R i v w') Q)) ∨
  (∃ p, chain[p]? = some i ∧ ∃ β, GuardIs R o β ∧ (∀ g b, o.guard = some (g, b) → chain.contains g = false) ∧
    (β = false → ∀ (a : Act) (w : World) (vs : List (Option Value)), CtxQ ops chain R G n K Ke i o a w vs → vs[p]? = some none → G (vs.set p (some undef)) w) ∧
    (β = true → ∀ (a : Act) (w : World) (vs : List (Option Value)), CtxQ ops chain R G n K Ke i o a w vs → vs[p]? = some none →
      o.wpIn (fen n.r) 0 P a w (fun a' w' => ∃ v, a' = Act.put a o.dst v ∧ Le w w' ∧ G (vs.set p (some v)) w') Q))
def SoundFromQ (P : Program) (ops : Array Oper) (Q : Exit → Act → World → Prop) (chain : List Nat) (R : Nat → Value → World → Prop) (Le : World → World → Prop) (G : List (Option Value) → World → Prop) (n : Fr) (K Ke : Known) : Nat → List Oper → Prop
  | _, [] => True
  | k, o :: r => SoundQ P ops Q chain R Le G n K Ke k o ∧ SoundFromQ P ops Q chain R Le G n K Ke (k + 1) r
theorem SoundFromQ.at_ {Q : Exit → Act → World → Prop} {chain : List Nat} {R : Nat → Value → World → Prop} {Le : World → World → Prop} {G : List (Option Value) → World → Prop} {n : Fr} {K Ke : Known} : ∀ {l : List Oper} {k : Nat}, SoundFromQ P ops Q chain R Le G n K Ke k l → ∀ i o, l[i]? = some o → SoundQ P ops Q chain R Le G n K Ke (k + i) o
  | [], _, _, i, o, h => by simp at h
  | x :: r, k, h, 0, o, ho => by simp at ho; subst ho; exact h.1
  | x :: r, k, h, i + 1, o, ho => by
    have := h.2.at_ i o (by simpa using ho)
    rwa [show k + 1 + i = k + (i + 1) by omega] at this

theorem wp_any_genQ {Q : Exit → Act → World → Prop} {n : Fr} {K Ke : Known} (chain : List Nat) (R : Nat → Value → World → Prop) (Le : World → World → Prop) (G : List (Option Value) → World → Prop)
    (hB : opsB ops n.n = true) (hnd : chain.Nodup) (hin : (chain.all fun c => Nat.blt c ops.size) = true) (hclear : clearB ops K = true)
    (hR : ∀ i v w w', R i v w → Le w w' → R i v w')
    (h : SoundFromQ P ops Q chain R Le G n K Ke 0 ops.toList)
    (hQ : ∀ (a : Act) (w : World) (vs : List (Option Value)), Kn n K a → vs.length = chain.length → (∀ p, p < chain.length → ∃ v, vs[p]? = some (some v)) → G vs w → (∀ i d, (ops[i]?).bind (·.dst) = some d → chain.contains i = false → R i (a.tmps.getD d undef) w) → (∀ (p c d : Nat), chain[p]? = some c → (ops[c]?).bind (·.dst) = some d → vs[p]? = some (some (a.tmps.getD d undef))) → Q .normal a w) :
    ∀ (a0 : Act) (w0 : World), Kn n K a0 → Kn n Ke a0 → G (List.replicate chain.length none) w0 → wpAnyIn (fen n.r) 0 P .any ops Q ops.size (Array.replicate ops.size false) a0 w0 := by
  have main : ∀ (fuel : Nat) (listed : Array Bool) (a : Act) (vs : List (Option Value)) (w : World), listed.toList.count false ≤ fuel → AtH ops chain R G n K Ke listed a vs w →
      wpAnyIn (fen n.r) 0 P .any ops Q fuel listed a w := by
    intro fuel
    have done : ∀ (listed : Array Bool) (a : Act) (vs : List (Option Value)) (w : World), Region.ready .any ops listed = [] → AtH ops chain R G n K Ke listed a vs w → Q .normal a w := by
      intro listed a vs w hr H
      have all : ∀ i, i < ops.size → listed.getD i false = true := fun i hi => by
        have := ready_nil hB H.size hr i hi
        have hs := H.size
        simpa [Array.getD, show i < listed.size by omega] using this
      have hin' : ∀ p c, chain[p]? = some c → c < ops.size := fun p c hc => by
        have := List.all_eq_true.1 hin _ (List.mem_of_getElem? hc)
        simpa [Nat.blt_eq] using this
      have lt_of : ∀ i d, (ops[i]?).bind (·.dst) = some d → i < ops.size := fun i d hd => by
        rcases Nat.lt_or_ge i ops.size with h | h
        · exact h
        · simp [Array.getElem?_eq_none h] at hd
      exact hQ a w vs H.kn H.len (fun p hp => (H.link p chain[p] (by simp [hp])).1 (all _ (hin' p _ (by simp [hp])))) H.now (fun i d hd hc => H.plain i d hc (all i (lt_of i d hd)) hd) (fun p c d hc hd => H.vals p c d hc (all c (hin' p c hc)) hd)
    induction fuel with
    | zero =>
      intro listed a vs w hc H
      have hr : Region.ready .any ops listed = [] := by
        cases hr : Region.ready .any ops listed with
        | nil => rfl
        | cons i r =>
          have := (mem_ready (md := .any) (ops := ops) (j := i) (listed := listed)).1 (by rw [hr]; simp)
          rw [count_zero hc i] at this
          simp at this
      exact ⟨hr, done listed a vs w hr H⟩
    | succ fuel ih =>
      intro listed a vs w hc H
      refine ⟨fun hr => done listed a vs w hr H, fun i hi => ?_⟩
      obtain ⟨hun, o, ho, haf⟩ := mem_ready.1 hi
      have hilt : i < ops.size := by
        rcases Nat.lt_or_ge i ops.size with h | h
        · exact h
        · simp [Array.getElem?_eq_none h] at ho
      have hils : i < listed.size := by have := H.size; omega
      have hun' := getD_false_of hun
      have ok := opsB_spec hB ho
      have hs2 := h.at_ i o (by simpa using ho)
      rw [Nat.zero_add] at hs2
      have after_of : ∀ j d, depB ops o j d = true → listed.getD j false = true ∧ (ops[j]?).bind (·.dst) = some d := by
        intro j d hj
        simp only [depB, Bool.and_eq_true, Array.any_eq_true, beq_iff_eq] at hj
        obtain ⟨⟨k, hk, h1, h2⟩, h3⟩ := hj
        exact ⟨h1 ▸ haf _ (Array.getElem_mem hk) h2, h3⟩
      have ctx : CtxH ops chain R G n K Ke i o a w vs := by
        have opt : ∀ p c, chain[p]? = some c → listed.getD c false = false → vs[p]? = some none := fun p c hc hl => by
          have hp : p < vs.length := by rw [H.len]; exact (List.getElem?_eq_some_iff.1 hc).1
          rw [List.getElem?_eq_getElem hp]
          cases hx : vs[p] with
          | none => rfl
          | some v =>
            have := (H.link p c hc).2 ⟨v, by rw [List.getElem?_eq_getElem hp, hx]⟩
            rw [hl] at this; cases this
        refine ⟨H.now, H.kn, fun j d hj hc => H.plain j d hc (after_of j d hj).1 (after_of j d hj).2, H.len, fun p c d hc hj => H.vals p c d hc (after_of c d hj).1 (after_of c d hj).2, fun p c hc ha => ?_, fun p c hc ha => opt p c hc ?_, fun p c hc ha => opt p c hc ?_, fun d v hd hc => H.old d v hd fun c hcd => ?_⟩
        · simp only [Array.any_eq_true, Bool.and_eq_true, beq_iff_eq] at ha
          obtain ⟨k, hk, h1, h2⟩ := ha
          exact (H.link p c hc).1 (h1 ▸ haf _ (Array.getElem_mem hk) h2)
        · cases hl : listed.getD c false with
          | false => rfl
          | true =>
            exfalso
            unfold afterB at ha
            split at ha
            · rename_i oc hoc
              simp only [Array.any_eq_true, Bool.and_eq_true, beq_iff_eq] at ha
              obtain ⟨k, hk, h1, h2⟩ := ha
              have := H.closed c oc hoc hl _ (Array.getElem_mem hk) h2
              rw [h1, hun'] at this
              cases this
            · cases ha
        · cases hl : listed.getD c false with
          | false => rfl
          | true =>
            exfalso
            have := anc_listed H.closed hl i (by simpa using ha)
            rw [hun'] at this
            cases this
        · cases hl : listed.getD c false with
          | false => rfl
          | true =>
            exfalso
            have := anc_listed H.closed hl i (by simpa using hc c hcd)
            rw [hun'] at this
            cases this
      have ctxQ : CtxQ ops chain R G n K Ke i o a w vs := ⟨ctx, fun p c hc ha => by
        simp only [Array.any_eq_true, Bool.and_eq_true] at ha
        obtain ⟨k, hk, h1, h2⟩ := ha
        exact (H.link p c hc).1 (anc_listed H.closed (haf _ (Array.getElem_mem hk) h1) c (by simpa using h2))⟩
      unfold wpOpIn
      simp only [ho]
      -- what is behind a step
      have step : ∀ (v : Value) (vs' : List (Option Value)) (w' : World), (∀ j u, R j u w → R j u w') → G vs' w' → (∀ d, o.dst = some d → chain.contains i = false → R i v w') →
          ((chain.contains i = false ∧ vs' = vs) ∨ (∃ p, chain[p]? = some i ∧ vs' = vs.set p (some v))) →
          wpAnyIn (fen n.r) 0 P .any ops Q fuel (listed.setIfInBounds i true) (Act.put a o.dst v) w' := by
        intro v vs' w' hle hG hRi hvs
        have hc' := count_set (l := listed) hils hun hc
        have hset : ∀ j, (listed.setIfInBounds i true).getD j false = true ↔ j = i ∨ listed.getD j false = true := by
          intro j
          by_cases hj : j = i
          · subst hj; simp [getD_set_eq hils]
          · rw [getD_set_ne false (Ne.symm hj)]; simp [hj]
        have hother : ∀ j k, j ≠ i → (ops[j]?).bind (·.dst) = some k → (Act.put a o.dst v).tmps.getD k undef = a.tmps.getD k undef := by
          intro j k hji hjk
          refine act_put_other (fun hd => ?_)
          have hjlt : j < ops.size := by
            rcases Nat.lt_or_ge j ops.size with h | h
            · exact h
            · simp [Array.getElem?_eq_none h] at hjk
          exact hji (ok.own k j hd hjlt hjk).symm
        have hself : ∀ d, (ops[i]?).bind (·.dst) = some d → (Act.put a o.dst v).tmps.getD d undef = v := by
          intro d hd
          rw [ho] at hd
          simp only [Option.bind_some] at hd
          rw [hd]
          exact act_put_self (by rw [H.kn.size]; exact ok.lt d hd)
        refine ih _ _ vs' w' hc' ⟨by simpa using H.size, H.kn.put_clear (fun k hk => clearB_look hclear (mem_dsts ho hk)) v, fun j d hjc hj hjd => ?_, fun p c hpc => ?_, fun p c d hpc hp hcd => ?_, ?_, fun j oj hoj hj e he hb => ?_, hG, fun d u hd hc => ?_⟩
        · by_cases hji : j = i
          · subst hji
            rw [hself d hjd]
            rw [ho] at hjd
            exact hRi d hjd hjc
          · rw [hother j d hji hjd]
            exact hle _ _ (H.plain j d hjc (((hset j).1 hj).resolve_left hji) hjd)
        · rw [hset]
          rcases hvs with ⟨hci, rfl⟩ | ⟨q, hq, rfl⟩
          · have : c ≠ i := by
              rintro rfl
              have := List.mem_of_getElem? hpc
              simp [this] at hci
            exact ⟨fun h => (H.link p c hpc).1 (h.resolve_left this), fun h => .inr ((H.link p c hpc).2 h)⟩
          · have hpl : q < vs.length := by rw [H.len]; exact (List.getElem?_eq_some_iff.1 hq).1
            by_cases hpq : p = q
            · subst hpq
              rw [hq] at hpc
              simp only [Option.some.injEq] at hpc
              subst hpc
              exact ⟨fun _ => ⟨v, by rw [List.getElem?_set_self hpl]⟩, fun _ => .inl rfl⟩
            · have hci : c ≠ i := by
                rintro rfl
                exact hpq ((List.getElem?_inj (List.getElem?_eq_some_iff.1 hpc).1 hnd).1 (hpc.trans hq.symm))
              rw [List.getElem?_set_ne (Ne.symm hpq)]
              exact ⟨fun h => (H.link p c hpc).1 (h.resolve_left hci), fun h => .inr ((H.link p c hpc).2 h)⟩
        · rcases hvs with ⟨hci, rfl⟩ | ⟨q, hq, rfl⟩
          · have hne : c ≠ i := by
              rintro rfl
              have := List.mem_of_getElem? hpc
              simp [this] at hci
            rw [hother c d hne hcd]
            exact H.vals p c d hpc (((hset c).1 hp).resolve_left hne) hcd
          · have hpl : q < vs.length := by rw [H.len]; exact (List.getElem?_eq_some_iff.1 hq).1
            by_cases hpq : p = q
            · subst hpq
              rw [hq] at hpc
              simp only [Option.some.injEq] at hpc
              subst hpc
              rw [hself d hcd, List.getElem?_set_self hpl]
            · have hne : c ≠ i := by
                rintro rfl
                exact hpq ((List.getElem?_inj (List.getElem?_eq_some_iff.1 hpc).1 hnd).1 (hpc.trans hq.symm))
              rw [hother c d hne hcd, List.getElem?_set_ne (Ne.symm hpq)]
              exact H.vals p c d hpc (((hset c).1 hp).resolve_left hne) hcd
        · rcases hvs with ⟨hci, rfl⟩ | ⟨q, hq, rfl⟩
          · exact H.len
          · rw [List.length_set]; exact H.len
        · rw [hset]
          by_cases hji : j = i
          · subst hji
            rw [ho] at hoj
            simp only [Option.some.injEq] at hoj
            subst hoj
            exact .inr (haf e he hb)
          · exact .inr (H.closed j oj hoj (((hset j).1 hj).resolve_left hji) e he hb)
        · have hne : o.dst ≠ some d := fun e => by
            have := hc i (by rw [ho]; exact e)
            rw [(hset i).2 (.inl rfl)] at this
            cases this
          rw [act_put_other hne]
          refine H.old d u hd fun c hcd => ?_
          cases hl : listed.getD c false with
          | false => rfl
          | true => have := hc c hcd; rw [(hset c).2 (.inr hl)] at this; cases this
      have known : ∀ {β : Bool}, GuardIs R o β → (∀ g b, o.guard = some (g, b) → chain.contains g = false) → Region.wanted o (yielded ops a.tmps) = β := by
        intro β hg hgc
        have known : ∀ g c d b, o.guard = some (g, b) → (∀ v w, R g v w → (d = true → v = .bool c) ∧ (d = false → v = undef)) → yielded ops a.tmps g = if d then some c else none := by
          intro g c dd b hgb hv
          obtain ⟨⟨e, he, h1, h2⟩, d, hd⟩ := ok.guard g b hgb
          have hv := hv (a.tmps.getD d undef) w (H.plain g d (hgc g b hgb) (h1 ▸ haf e he h2) hd)
          have hdlt : d < a.tmps.size := by
            obtain ⟨og, hog, hgd⟩ := Option.bind_eq_some_iff.1 hd
            rw [H.kn.size]
            exact (opsB_spec hB hog).lt d hgd
          unfold yielded
          rw [hd]
          simp only [Array.getD_eq_getD_getElem?, Array.getElem?_eq_getElem hdlt, Option.getD_some] at hv
          cases dd with
          | true => simp [hdlt, hv.1 rfl]
          | false => simp [hdlt, hv.2 rfl, undef]
        cases hg with
        | none h => unfold Region.wanted; rw [h]
        | @yes g c d h hv => have := known _ _ _ _ h hv; unfold Region.wanted; rw [h]; simp only [this]; cases d <;> simp
        | @no g c d h hv => have := known _ _ _ _ h hv; unfold Region.wanted; rw [h]; simp only [this]; cases d <;> cases c <;> simp
      rcases hs2 with ⟨hci, β, hg, hgc, hs1, hs2⟩ | ⟨p, hp, β, hg, hgc, hs1, hs2⟩
      · have hwant := known hg hgc
        cases hβ : β with
        | false =>
          rw [hβ] at hwant
          simp only [hwant, Bool.false_eq_true, if_false]
          refine ⟨fun f _ => fen_fn _ f, ?_⟩
          exact step undef vs w (fun _ _ h => h) H.now (fun _ _ _ => hs1 hβ w) (.inl ⟨hci, rfl⟩)
        | true =>
          rw [hβ] at hwant
          simp only [hwant, if_true]
          refine Oper.wpIn_mono ?_ (hs2 hβ a w vs ctxQ)
          rintro a' w' ⟨v, rfl, hle, hG, hRi⟩
          exact step v vs w' (fun j u hj => hR j u _ _ hj hle) hG (fun _ _ _ => hRi) (.inl ⟨hci, rfl⟩)
      · have hwant := known hg hgc
        have hnone : vs[p]? = some none := by
          have hp' : p < vs.length := by rw [H.len]; exact (List.getElem?_eq_some_iff.1 hp).1
          rw [List.getElem?_eq_getElem hp']
          cases hx : vs[p] with
          | none => rfl
          | some v =>
            have := (H.link p i hp).2 ⟨v, by rw [List.getElem?_eq_getElem hp', hx]⟩
            rw [hun'] at this; cases this
        have hcc : chain.contains i = true := by
          have := List.mem_of_getElem? hp
          simpa using this
        cases hβ : β with
        | false =>
          rw [hβ] at hwant
          simp only [hwant, Bool.false_eq_true, if_false]
          refine ⟨fun f _ => fen_fn _ f, ?_⟩
          exact step undef (vs.set p (some undef)) w (fun _ _ h => h) (hs1 hβ a w vs ctxQ hnone) (fun _ _ h => by rw [hcc] at h; cases h) (.inr ⟨p, hp, rfl⟩)
        | true =>
          rw [hβ] at hwant
          simp only [hwant, if_true]
          refine Oper.wpIn_mono ?_ (hs2 hβ a w vs ctxQ hnone)
          rintro a' w' ⟨v, rfl, hle, hG⟩
          exact step v (vs.set p (some v)) w' (fun j u hj => hR j u _ _ hj hle) hG (fun _ _ h => by rw [hcc] at h; cases h) (.inr ⟨p, hp, rfl⟩)
  intro a0 w0 hk0 hke h0
  have nothing' : ∀ i, (Array.replicate ops.size false).getD i false = false := fun i => by
    by_cases h : i < ops.size <;> simp [Array.getD, h]
  refine main _ _ _ (List.replicate chain.length none) _ (by simp) ⟨by simp, hk0, fun i d _ hi => ?_, fun p c hpc => ?_, fun p c d _ hp => ?_, by simp, fun i o _ hi => ?_, h0, fun d v hd _ => hke.knows d v hd⟩
  · rw [nothing'] at hi; cases hi
  · rw [nothing']
    refine ⟨fun h => (by cases h), fun ⟨v, hv⟩ => ?_⟩
    have hp := (List.getElem?_eq_some_iff.1 hpc).1
    simp [hp] at hv
  · rw [nothing'] at hp; cases hp
  · rw [nothing'] at hi; cases hi

theorem WC.genQ {id : Nat} {dr : Bool} {Q : Exit → Act → World → Prop} {n : Fr} {K : Known} {w : World} (chain : List Nat) (R : Nat → Value → World → Prop) (Le : World → World → Prop) (G : List (Option Value) → World → Prop) (K0 : Known)
    (hs : subK K0 K) (hclear : clearB ops K0 = true) (hm : P.follows .mixedOrders = true) (hB : opsB ops n.n = true) (hnd : chain.Nodup) (hin : (chain.all fun c => Nat.blt c ops.size) = true)
    (hR : ∀ i v w w', R i v w → Le w w' → R i v w') (h0 : G (List.replicate chain.length none) (bif dr then w.drew else w))
    (h : SoundFromQ P ops Q chain R Le G n K0 K 0 ops.toList)
    (hQ : ∀ (a : Act) (w : World) (vs : List (Option Value)), Kn n K0 a → vs.length = chain.length → (∀ p, p < chain.length → ∃ v, vs[p]? = some (some v)) → G vs w → (∀ i d, (ops[i]?).bind (·.dst) = some d → chain.contains i = false → R i (a.tmps.getD d undef) w) → (∀ (p c d : Nat), chain[p]? = some c → (ops[c]?).bind (·.dst) = some d → vs[p]? = some (some (a.tmps.getD d undef))) → Q .normal a w) :
    WC P n K w (.region id ops dr) Q := by
  intro a ha
  have main := wp_any_genQ (Ke := K) chain R Le G hB hnd hin hclear hR h hQ a
  cases dr with
  | true => exact wpIn_region_any hm (main _ (ha.sub hs) ha h0)
  | false => exact any_start hB (main _ (ha.sub hs) ha h0)

/-! ### Values that are told -/
/-- Which of the operations of the chain are done, and what they have yielded. -/
def Vals (vals : List Value) (m : Nat) : List (Option Value) := vals.map some ++ List.replicate (m - vals.length) none
variable {S : Nat → Prop}
def GH (S : Nat → Prop) (w0 : World) (m : Nat) (cv : List (Option (Bool × Value))) (GV : List Value → World → Prop) (vs : List (Option Value)) (w : World) : Prop :=
  ∃ vals, vals.length ≤ m ∧ vs = Vals vals m ∧ GV vals w ∧ Chg S w0 w ∧ ∀ (q : Nat) b x, cv[q]? = some (some (b, x)) → b = true → ∀ v, vals[q]? = some v → v = x
theorem vals_some {vals : List Value} {m q : Nat} {v : Value} (h : (Vals vals m)[q]? = some (some v)) : vals[q]? = some v := by
  unfold Vals at h
  rcases Nat.lt_or_ge q vals.length with hq | hq
  · rw [List.getElem?_append_left (by simpa using hq), List.getElem?_map, List.getElem?_eq_getElem hq] at h
    rw [List.getElem?_eq_getElem hq]; simpa using h
  · rw [List.getElem?_append_right (by simpa using hq), List.getElem?_replicate] at h
    split at h
    · cases h
    · cases h
theorem vals_none {vals : List Value} {m q : Nat} (h : (Vals vals m)[q]? = some none) : vals.length ≤ q := by
  unfold Vals at h
  rcases Nat.lt_or_ge q vals.length with hq | hq
  · rw [List.getElem?_append_left (by simpa using hq), List.getElem?_map, List.getElem?_eq_getElem hq] at h
    cases h
  · exact hq
theorem vals_set {vals : List Value} {m : Nat} {v : Value} (h : vals.length < m) : (Vals vals m).set vals.length (some v) = Vals (vals ++ [v]) m := by
  unfold Vals
  rw [List.set_append_right _ _ (by simp), List.map_append, List.length_append, List.append_assoc]
  congr 1
  obtain ⟨k, hk⟩ : ∃ k, m - vals.length = k + 1 := ⟨m - vals.length - 1, by omega⟩
  rw [hk, List.replicate_succ, List.length_map, Nat.sub_self, List.set_cons_zero, show m - (vals.length + [v].length) = k by simp; omega]
  rfl
/-- What an operation finds: 'l' says what the others yield, 'cv' what those of the chain do; 'early': where it must come ahead of an operation of the chain. -/
structure CtxV (ops : Array Oper) (S : Nat → Prop) (l : List (Bool × SpS S)) (chain : List Nat) (cv : List (Option (Bool × Value))) (GV : List Value → World → Prop) (n : Fr) (K Ke : Known) (w0 : World) (i : Nat) (o : Oper) (a : Act) (w : World) : Prop where
  chg : Chg S w0 w
  kn : Kn n K a
  dep : ∀ j d, depB ops o j d = true → chain.contains j = false → optS l j (a.tmps.getD d undef) w
  link : ∀ (q c d : Nat) (b : Bool) (x : Value), chain[q]? = some c → depB ops o c d = true → cv[q]? = some (some (b, x)) → b = true → a.tmps.getD d undef = x
  old : ∀ d v, look Ke d = some v → earlyB ops i d = true → a.tmps.getD d undef = v
  early : ∀ (q c : Nat), chain[q]? = some c → (ancL ops c).contains i = true → ∃ vals, vals.length ≤ q ∧ GV vals w ∧ ∀ (q' c' d : Nat), chain[q']? = some c' → depB ops o c' d = true → vals[q']? = some (a.tmps.getD d undef)
/-- .. and an operation of the chain: what was yielded before it. -/
structure CtxW (ops : Array Oper) (S : Nat → Prop) (l : List (Bool × SpS S)) (chain : List Nat) (cv : List (Option (Bool × Value))) (GV : List Value → World → Prop) (n : Fr) (K Ke : Known) (w0 : World) (i p : Nat) (o : Oper) (a : Act) (w : World) (vals : List Value) : Prop extends CtxV ops S l chain cv GV n K Ke w0 i o a w where
  len : vals.length = p
  now : GV vals w
  val : ∀ (q c d : Nat), chain[q]? = some c → depB ops o c d = true → vals[q]? = some (a.tmps.getD d undef)
/-- That the operation 'o' comes behind the one ahead of it in the chain. -/
def behind (ops : Array Oper) (chain : List Nat) (p : Nat) (o : Oper) : Bool := match p with | 0 => true | p + 1 => match chain[p]? with | some c => o.after.any (fun e => Region.binds .any e && (ancL ops e.on).contains c) | none => false
def SeqV (P : Program) (ops : Array Oper) (Q : Exit → Act → World → Prop) (l : List (Bool × SpS S)) (chain : List Nat) (cv : List (Option (Bool × Value))) (GV : List Value → World → Prop) (n : Fr) (K Ke : Known) (w0 : World) : Nat → List Oper → Prop
  | _, [] => True
  | i, o :: r => ((chain.contains i = false ∧ ∃ β, GuardIs (optS l) o β ∧ (∀ g b, o.guard = some (g, b) → chain.contains g = false) ∧ (β = false → ∀ w, optS l i undef w) ∧
      (β = true → ∀ a w, CtxV ops S l chain cv GV n K Ke w0 i o a w → o.wp P a w (fun a' w' => ∃ v, a' = Act.put a o.dst v ∧ Below w.heap.size w w' ∧ optS l i v w') Q)) ∨
    (∃ p, chain[p]? = some i ∧ behind ops chain p o = true ∧ ∃ β, GuardIs (optS l) o β ∧ (∀ g b, o.guard = some (g, b) → chain.contains g = false) ∧
      (β = false → ∀ w vals, vals.length = p → GV vals w → GV (vals ++ [undef]) w ∧ ∀ b x, cv[p]? = some (some (b, x)) → b = true → undef = x) ∧
      (β = true → ∀ a w vals, CtxW ops S l chain cv GV n K Ke w0 i p o a w vals → o.wp P a w (fun a' w' => ∃ v, a' = Act.put a o.dst v ∧ Chg S w w' ∧ GV (vals ++ [v]) w' ∧ ∀ b x, cv[p]? = some (some (b, x)) → b = true → v = x) Q))) ∧ SeqV P ops Q l chain cv GV n K Ke w0 (i + 1) r
theorem cv_snoc {cv : List (Option (Bool × Value))} {vals : List Value} {v : Value} (h : ∀ (q : Nat) b x, cv[q]? = some (some (b, x)) → b = true → ∀ v, vals[q]? = some v → v = x) (hv : ∀ b x, cv[vals.length]? = some (some (b, x)) → b = true → v = x) : ∀ (q : Nat) b x, cv[q]? = some (some (b, x)) → b = true → ∀ u, (vals ++ [v])[q]? = some u → u = x := by
  intro q b x hq hb u hu
  rcases Nat.lt_trichotomy q vals.length with c | c | c
  · rw [List.getElem?_append_left c] at hu; exact h q b x hq hb u hu
  · subst c
    rw [List.getElem?_append_right (Nat.le_refl _), Nat.sub_self] at hu
    have : v = u := by simpa using hu
    rw [← this]; exact hv b x hq hb
  · rw [List.getElem?_append_right (by omega)] at hu
    obtain ⟨k, hk⟩ : ∃ k, q - vals.length = k + 1 := ⟨q - vals.length - 1, by omega⟩
    rw [hk] at hu; cases hu
theorem SeqV.gen {Q : Exit → Act → World → Prop} {l : List (Bool × SpS S)} {chain : List Nat} {cv : List (Option (Bool × Value))} {GV : List Value → World → Prop} {n : Fr} {K Ke : Known} {w0 : World} (hGV : ∀ vals w w', Below w.heap.size w w' → GV vals w → GV vals w') : ∀ {lo : List Oper} {i : Nat}, SeqV P ops Q l chain cv GV n K Ke w0 i lo →
    SoundFromQ P ops Q chain (optS l) (Chg S) (GH S w0 chain.length cv GV) n K Ke i lo
  | [], _, _ => trivial
  | o :: r, i, ⟨h, hr⟩ => by
    refine ⟨?_, hr.gen hGV⟩
    have ctx : ∀ {a w vs vals}, CtxQ ops chain (optS l) (GH S w0 chain.length cv GV) n K Ke i o a w vs → vs = Vals vals chain.length → Chg S w0 w → (∀ (q : Nat) b x, cv[q]? = some (some (b, x)) → b = true → ∀ v, vals[q]? = some v → v = x) → GV vals w → CtxV ops S l chain cv GV n K Ke w0 i o a w := fun {a w vs vals} C e hc hv hg =>
      ⟨hc, C.kn, C.dep, fun q c d b x h1 h2 h3 h4 => hv q b x h3 h4 _ (vals_some (e ▸ C.link q c d h1 h2)), fun d v hd hb => C.old d v hd (earlyB_of hb), fun q c h1 h2 => ⟨vals, vals_none (e ▸ C.mostT q c h1 h2), hg, fun q' c' d h3 h4 => vals_some (e ▸ C.link q' c' d h3 h4)⟩⟩
    rcases h with ⟨hi, β, h1, h2, h3, h4⟩ | ⟨p, hp, hbh, β, h1, h2, h3, h4⟩
    · refine .inl ⟨hi, β, h1, h2, h3, fun hβ a w vs C => ?_⟩
      obtain ⟨vals, k1, k2, k3, k4, k5⟩ := C.now
      refine Oper.wpIn_mono ?_ (wpIn_of (h4 hβ a w (ctx C k2 k4 k5 k3)) (by rintro a' w' ⟨v, rfl, _⟩; exact put_defers _ _ _))
      rintro a' w' ⟨v, rfl, hb, hR⟩
      exact ⟨v, rfl, .ofBelow hb, ⟨vals, k1, k2, hGV _ _ _ hb k3, k4.trans (.ofBelow hb), k5⟩, hR⟩
    · have hpl : p < chain.length := (List.getElem?_eq_some_iff.1 hp).1
      have len : ∀ {a w vs vals}, CtxQ ops chain (optS l) (GH S w0 chain.length cv GV) n K Ke i o a w vs → vs = Vals vals chain.length → vs[p]? = some none → vals.length = p := fun {a w vs vals} C e hn => by
        have h5 := vals_none (e ▸ hn)
        cases p with
        | zero => omega
        | succ p =>
          unfold behind at hbh
          obtain ⟨c, hc⟩ : ∃ c, chain[p]? = some c := ⟨chain[p], List.getElem?_eq_getElem (by omega)⟩
          simp only [hc] at hbh
          obtain ⟨v, hv⟩ := C.anc p c hc hbh
          have h6 := vals_some (e ▸ hv)
          have := (List.getElem?_eq_some_iff.1 h6).1
          omega
      refine .inr ⟨p, hp, β, h1, h2, fun hβ a w vs C hn => ?_, fun hβ a w vs C hn => ?_⟩
      · obtain ⟨vals, k1, k2, k3, k4, k5⟩ := C.now
        have hl := len C k2 hn
        obtain ⟨z1, z2⟩ := h3 hβ w vals hl k3
        refine ⟨vals ++ [undef], by simp; omega, ?_, z1, k4, cv_snoc k5 (hl ▸ z2)⟩
        rw [k2, ← hl, vals_set (by omega)]
      · obtain ⟨vals, k1, k2, k3, k4, k5⟩ := C.now
        have hl := len C k2 hn
        refine Oper.wpIn_mono ?_ (wpIn_of (h4 hβ a w vals ⟨ctx C k2 k4 k5 k3, hl, k3, fun q c d z1 z2 => vals_some (k2 ▸ C.link q c d z1 z2)⟩) (by rintro a' w' ⟨v, rfl, _⟩; exact put_defers _ _ _))
        rintro a' w' ⟨v, rfl, hc, z1, z2⟩
        refine ⟨v, rfl, hc, vals ++ [v], by simp; omega, ?_, z1, k4.trans hc, cv_snoc k5 (hl ▸ z2)⟩
        rw [k2, ← hl, vals_set (by omega)]
theorem cvIs {v X : Value} {β : Bool} (h : v = X) : ∀ b x, (some (some (β, X)) : Option (Option (Bool × Value))) = some (some (b, x)) → b = true → v = x := fun b x e _ => by cases e; exact h
theorem cvOff {v X : Value} {β : Bool} (h : β = false) : ∀ b x, (some (some (β, X)) : Option (Option (Bool × Value))) = some (some (b, x)) → b = true → v = x := fun b x e hb => by cases e; rw [h] at hb; cases hb
theorem cvNo {v : Value} : ∀ b x, (some none : Option (Option (Bool × Value))) = some (some (b, x)) → b = true → v = x := fun b x e => by cases e
theorem vlen0 {l : List Value} (h : l.length = 0) : l = [] := List.length_eq_zero_iff.1 h
theorem vlen1 {l : List Value} (h : l.length = 1) : ∃ a, l = [a] := by
  match l, h with
  | [a], _ => exact ⟨a, rfl⟩
theorem vlen2 {l : List Value} (h : l.length = 2) : ∃ a b, l = [a, b] := by
  match l, h with
  | [a, b], _ => exact ⟨a, b, rfl⟩
theorem vlen3 {l : List Value} (h : l.length = 3) : ∃ a b c, l = [a, b, c] := by
  match l, h with
  | [a, b, c], _ => exact ⟨a, b, c, rfl⟩
theorem vlen4 {l : List Value} (h : l.length = 4) : ∃ a b c d, l = [a, b, c, d] := by
  match l, h with
  | [a, b, c, d], _ => exact ⟨a, b, c, d, rfl⟩
theorem vlen5 {l : List Value} (h : l.length = 5) : ∃ a b c d e, l = [a, b, c, d, e] := by
  match l, h with
  | [a, b, c, d, e], _ => exact ⟨a, b, c, d, e, rfl⟩
theorem WC.seqV {id : Nat} {dr : Bool} {Q : Exit → Act → World → Prop} {n : Fr} {K : Known} {w : World} (l : List (Bool × SpS S)) (K0 : Known) (chain : List Nat) (cv : List (Option (Bool × Value))) (GV : List Value → World → Prop) (hGV : ∀ vals w w', Below w.heap.size w w' → GV vals w → GV vals w') (hnd : chain.Nodup)
    (hs : subK K0 K) (hclear : clearB ops K0 = true) (hm : P.follows .mixedOrders = true) (hB : opsB ops n.n = true) (hin : (chain.all fun c => Nat.blt c ops.size) = true) (h0 : GV [] w)
    (h : SeqV P ops Q l chain cv GV n K0 K w 0 ops.toList)
    (hQ : ∀ (a : Act) (w' : World) (vals : List Value), Kn n K0 a → vals.length = chain.length → GV vals w' → Chg S w w' → (∀ i d, (ops[i]?).bind (·.dst) = some d → chain.contains i = false → optS l i (a.tmps.getD d undef) w') → (∀ (p c d : Nat), chain[p]? = some c → (ops[c]?).bind (·.dst) = some d → vals[p]? = some (a.tmps.getD d undef)) → (∀ (p c d : Nat) b x, chain[p]? = some c → (ops[c]?).bind (·.dst) = some d → cv[p]? = some (some (b, x)) → b = true → a.tmps.getD d undef = x) → Q .normal a w') :
    WC P n K w (.region id ops dr) Q := by
  refine WC.genQ chain (optS l) (Chg S) (GH S w chain.length cv GV) K0 hs hclear hm hB hnd hin (optSKeep l) ?_ (h.gen hGV) (fun a w' vs hk hlen hall hG hu hl => ?_)
  · refine ⟨[], Nat.zero_le _, by simp [Vals], ?_, ?_, fun q b x _ _ v hv => (nomatch hv)⟩
    · cases dr with
      | true => exact hGV _ _ _ (Below.refl _ _).drew h0
      | false => exact h0
    · cases dr with
      | true => exact .ofBelow (Below.refl _ _).drew
      | false => exact .ofBelow (Below.refl _ _)
  · obtain ⟨vals, k1, k2, k3, k4, k5⟩ := hG
    have hlv : vals.length = chain.length := by
      rcases Nat.lt_or_ge vals.length chain.length with c | c
      · obtain ⟨v, hv⟩ := hall vals.length c
        have h6 := (List.getElem?_eq_some_iff.1 (vals_some (k2 ▸ hv))).1
        omega
      · omega
    have hv : ∀ (p c d : Nat), chain[p]? = some c → (ops[c]?).bind (·.dst) = some d → vals[p]? = some (a.tmps.getD d undef) := fun p c d z1 z2 => vals_some (k2 ▸ hl p c d z1 z2)
    exact hQ a w' vals hk hlv k3 k4 hu hv (fun p c d b x z1 z2 z3 z4 => k5 p b x z3 z4 _ (hv p c d z1 z2))
end
end Go.Proofs.Ytnblndmjjokepaa
