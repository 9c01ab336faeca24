/- Regions in whatever order in which a row grows by append and is then given to a variable ('l = append(l, f(..))'). -/
import Derived.Test.YtnblndmjjokepaaTail
namespace Go.Proofs.Ytnblndmjjokepaa
open Go.RowKit Go
set_option linter.unusedVariables false
set_option linter.unusedSimpArgs false

section
variable {P : Program} {ops : Array Oper}
structure CtxH (ops : Array Oper) (chain : List Nat) (R : Nat → Value → World → Prop) (G : List (Option Value) → World → Prop) (n : Fr) (K Ke : Known) (i : Nat) (o : Oper) (a : Act) (w : World) (vs : List (Option Value)) : Prop where
  now : G vs w
  kn : Kn n K a
  dep : ∀ j d, depB ops o j d = true → chain.contains j = false → R j (a.tmps.getD d undef) w
  len : vs.length = chain.length
  link : ∀ (p c d : Nat), chain[p]? = some c → depB ops o c d = true → vs[p]? = some (some (a.tmps.getD d undef))
  done : ∀ (p c : Nat), chain[p]? = some c → o.after.any (fun e => e.on == c && Region.binds .any e) = true → ∃ v, vs[p]? = some (some v)
  most : ∀ (p c : Nat), chain[p]? = some c → afterB ops c i = true → vs[p]? = some none
  mostT : ∀ (p c : Nat), chain[p]? = some c → (ancL ops c).contains i = true → vs[p]? = some none
  old : ∀ d v, look Ke d = some v → (∀ c, (ops[c]?).bind (·.dst) = some d → (ancL ops c).contains i = true) → a.tmps.getD d undef = v

def SoundH (P : Program) (ops : Array Oper) (Q : Exit → Act → World → Prop) (chain : List Nat) (R : Nat → Value → World → Prop) (Le : World → World → Prop) (G : List (Option Value) → World → Prop) (n : Fr) (K Ke : Known) (i : Nat) (o : Oper) : Prop :=
  (chain.contains i = false ∧ ∃ β, GuardIs R o β ∧ (∀ g b, o.guard = some (g, b) → chain.contains g = false) ∧ (β = false → ∀ w, R i undef w) ∧
    (β = true → ∀ (a : Act) (w : World) (vs : List (Option Value)), CtxH ops chain R G n K Ke i o a w vs →
      o.wpIn (fen n.r) 0 P a w (fun a' w' => ∃ v, a' = Act.put a o.dst v ∧ Le w w' ∧ G vs w' ∧ R i v w') Q)) ∨
  (∃ p, chain[p]? = some i ∧ o.guard = none ∧ ∀ (a : Act) (w : World) (vs : List (Option Value)), CtxH ops chain R G n K Ke i o a w vs → vs[p]? = some none →
      o.wpIn (fen n.r) 0 P a w (fun a' w' => ∃ v, a' = Act.put a o.dst v ∧ Le w w' ∧ G (vs.set p (some v)) w') Q)

def SoundFromH (P : Program) (ops : Array Oper) (Q : Exit → Act → World → Prop) (chain : List Nat) (R : Nat → Value → World → Prop) (Le : World → World → Prop) (G : List (Option Value) → World → Prop) (n : Fr) (K Ke : Known) : Nat → List Oper → Prop
  | _, [] => True
  | k, o :: r => SoundH P ops Q chain R Le G n K Ke k o ∧ SoundFromH P ops Q chain R Le G n K Ke (k + 1) r

theorem SoundFromH.at_ {Q : Exit → Act → World → Prop} {chain : List Nat} {R : Nat → Value → World → Prop} {Le : World → World → Prop} {G : List (Option Value) → World → Prop} {n : Fr} {K Ke : Known} : ∀ {l : List Oper} {k : Nat}, SoundFromH P ops Q chain R Le G n K Ke k l → ∀ i o, l[i]? = some o → SoundH P ops Q chain R Le G n K Ke (k + i) o
  | [], _, _, i, o, h => by simp at h
  | x :: r, k, h, 0, o, ho => by simp at ho; subst ho; exact h.1
  | x :: r, k, h, i + 1, o, ho => by
    have := h.2.at_ i o (by simpa using ho)
    rwa [show k + 1 + i = k + (i + 1) by omega] at this

structure AtH (ops : Array Oper) (chain : List Nat) (R : Nat → Value → World → Prop) (G : List (Option Value) → World → Prop) (n : Fr) (K Ke : Known) (listed : Array Bool) (a : Act) (vs : List (Option Value)) (w : World) : Prop where
  size : listed.size = ops.size
  kn : Kn n K a
  plain : ∀ i d, chain.contains i = false → listed.getD i false = true → (ops[i]?).bind (·.dst) = some d → R i (a.tmps.getD d undef) w
  link : ∀ p c : Nat, chain[p]? = some c → (listed.getD c false = true ↔ ∃ v, vs[p]? = some (some v))
  vals : ∀ (p c d : Nat), chain[p]? = some c → listed.getD c false = true → (ops[c]?).bind (·.dst) = some d → vs[p]? = some (some (a.tmps.getD d undef))
  len : vs.length = chain.length
  closed : ∀ i o, ops[i]? = some o → listed.getD i false = true → ∀ e ∈ o.after, Region.binds .any e = true → listed.getD e.on false = true
  now : G vs w
  old : ∀ d v, look Ke d = some v → (∀ c, (ops[c]?).bind (·.dst) = some d → listed.getD c false = false) → a.tmps.getD d undef = v

theorem wp_any_genH {Q : Exit → Act → World → Prop} {n : Fr} {K Ke : Known} (chain : List Nat) (R : Nat → Value → World → Prop) (Le : World → World → Prop) (G : List (Option Value) → World → Prop)
    (hB : opsB ops n.n = true) (hnd : chain.Nodup) (hin : (chain.all fun c => Nat.blt c ops.size) = true) (hclear : clearB ops K = true)
    (hR : ∀ i v w w', R i v w → Le w w' → R i v w')
    (h : SoundFromH P ops Q chain R Le G n K Ke 0 ops.toList)
    (hQ : ∀ (a : Act) (w : World) (vs : List (Option Value)), Kn n K a → vs.length = chain.length → (∀ p, p < chain.length → ∃ v, vs[p]? = some (some v)) → G vs w → (∀ i d, (ops[i]?).bind (·.dst) = some d → chain.contains i = false → R i (a.tmps.getD d undef) w) → (∀ (p c d : Nat), chain[p]? = some c → (ops[c]?).bind (·.dst) = some d → vs[p]? = some (some (a.tmps.getD d undef))) → Q .normal a w) :
    ∀ (a0 : Act) (w0 : World), Kn n K a0 → Kn n Ke a0 → G (List.replicate chain.length none) w0 → wpAnyIn (fen n.r) 0 P .any ops Q ops.size (Array.replicate ops.size false) a0 w0 := by
  have main : ∀ (fuel : Nat) (listed : Array Bool) (a : Act) (vs : List (Option Value)) (w : World), listed.toList.count false ≤ fuel → AtH ops chain R G n K Ke listed a vs w →
      wpAnyIn (fen n.r) 0 P .any ops Q fuel listed a w := by
    intro fuel
    have done : ∀ (listed : Array Bool) (a : Act) (vs : List (Option Value)) (w : World), Region.ready .any ops listed = [] → AtH ops chain R G n K Ke listed a vs w → Q .normal a w := by
      intro listed a vs w hr H
      have all : ∀ i, i < ops.size → listed.getD i false = true := fun i hi => by
        have := ready_nil hB H.size hr i hi
        have hs := H.size
        simpa [Array.getD, show i < listed.size by omega] using this
      have hin' : ∀ p c, chain[p]? = some c → c < ops.size := fun p c hc => by
        have := List.all_eq_true.1 hin _ (List.mem_of_getElem? hc)
        simpa [Nat.blt_eq] using this
      have lt_of : ∀ i d, (ops[i]?).bind (·.dst) = some d → i < ops.size := fun i d hd => by
        rcases Nat.lt_or_ge i ops.size with h | h
        · exact h
        · simp [Array.getElem?_eq_none h] at hd
      exact hQ a w vs H.kn H.len (fun p hp => (H.link p chain[p] (by simp [hp])).1 (all _ (hin' p _ (by simp [hp])))) H.now (fun i d hd hc => H.plain i d hc (all i (lt_of i d hd)) hd) (fun p c d hc hd => H.vals p c d hc (all c (hin' p c hc)) hd)
    induction fuel with
    | zero =>
      intro listed a vs w hc H
      have hr : Region.ready .any ops listed = [] := by
        cases hr : Region.ready .any ops listed with
        | nil => rfl
        | cons i r =>
          have := (mem_ready (md := .any) (ops := ops) (j := i) (listed := listed)).1 (by rw [hr]; simp)
          rw [count_zero hc i] at this
          simp at this
      exact ⟨hr, done listed a vs w hr H⟩
    | succ fuel ih =>
      intro listed a vs w hc H
      refine ⟨fun hr => done listed a vs w hr H, fun i hi => ?_⟩
      obtain ⟨hun, o, ho, haf⟩ := mem_ready.1 hi
      have hilt : i < ops.size := by
        rcases Nat.lt_or_ge i ops.size with h | h
        · exact h
        · simp [Array.getElem?_eq_none h] at ho
      have hils : i < listed.size := by have := H.size; omega
      have hun' := getD_false_of hun
      have ok := opsB_spec hB ho
      have hs2 := h.at_ i o (by simpa using ho)
      rw [Nat.zero_add] at hs2
      have after_of : ∀ j d, depB ops o j d = true → listed.getD j false = true ∧ (ops[j]?).bind (·.dst) = some d := by
        intro j d hj
        simp only [depB, Bool.and_eq_true, Array.any_eq_true, beq_iff_eq] at hj
        obtain ⟨⟨k, hk, h1, h2⟩, h3⟩ := hj
        exact ⟨h1 ▸ haf _ (Array.getElem_mem hk) h2, h3⟩
      have ctx : CtxH ops chain R G n K Ke i o a w vs := by
        have opt : ∀ p c, chain[p]? = some c → listed.getD c false = false → vs[p]? = some none := fun p c hc hl => by
          have hp : p < vs.length := by rw [H.len]; exact (List.getElem?_eq_some_iff.1 hc).1
          rw [List.getElem?_eq_getElem hp]
          cases hx : vs[p] with
          | none => rfl
          | some v =>
            have := (H.link p c hc).2 ⟨v, by rw [List.getElem?_eq_getElem hp, hx]⟩
            rw [hl] at this; cases this
        refine ⟨H.now, H.kn, fun j d hj hc => H.plain j d hc (after_of j d hj).1 (after_of j d hj).2, H.len, fun p c d hc hj => H.vals p c d hc (after_of c d hj).1 (after_of c d hj).2, fun p c hc ha => ?_, fun p c hc ha => opt p c hc ?_, fun p c hc ha => opt p c hc ?_, fun d v hd hc => H.old d v hd fun c hcd => ?_⟩
        · simp only [Array.any_eq_true, Bool.and_eq_true, beq_iff_eq] at ha
          obtain ⟨k, hk, h1, h2⟩ := ha
          exact (H.link p c hc).1 (h1 ▸ haf _ (Array.getElem_mem hk) h2)
        · cases hl : listed.getD c false with
          | false => rfl
          | true =>
            exfalso
            unfold afterB at ha
            split at ha
            · rename_i oc hoc
              simp only [Array.any_eq_true, Bool.and_eq_true, beq_iff_eq] at ha
              obtain ⟨k, hk, h1, h2⟩ := ha
              have := H.closed c oc hoc hl _ (Array.getElem_mem hk) h2
              rw [h1, hun'] at this
              cases this
            · cases ha
        · cases hl : listed.getD c false with
          | false => rfl
          | true =>
            exfalso
            have := anc_listed H.closed hl i (by simpa using ha)
            rw [hun'] at this
            cases this
        · cases hl : listed.getD c false with
          | false => rfl
          | true =>
            exfalso
            have := anc_listed H.closed hl i (by simpa using hc c hcd)
            rw [hun'] at this
            cases this
      unfold wpOpIn
      simp only [ho]
      -- what is behind a step
      have step : ∀ (v : Value) (vs' : List (Option Value)) (w' : World), (∀ j u, R j u w → R j u w') → G vs' w' → (∀ d, o.dst = some d → chain.contains i = false → R i v w') →
          ((chain.contains i = false ∧ vs' = vs) ∨ (∃ p, chain[p]? = some i ∧ vs' = vs.set p (some v))) →
          wpAnyIn (fen n.r) 0 P .any ops Q fuel (listed.setIfInBounds i true) (Act.put a o.dst v) w' := by
        intro v vs' w' hle hG hRi hvs
        have hc' := count_set (l := listed) hils hun hc
        have hset : ∀ j, (listed.setIfInBounds i true).getD j false = true ↔ j = i ∨ listed.getD j false = true := by
          intro j
          by_cases hj : j = i
          · subst hj; simp [getD_set_eq hils]
          · rw [getD_set_ne false (Ne.symm hj)]; simp [hj]
        have hother : ∀ j k, j ≠ i → (ops[j]?).bind (·.dst) = some k → (Act.put a o.dst v).tmps.getD k undef = a.tmps.getD k undef := by
          intro j k hji hjk
          refine act_put_other (fun hd => ?_)
          have hjlt : j < ops.size := by
            rcases Nat.lt_or_ge j ops.size with h | h
            · exact h
            · simp [Array.getElem?_eq_none h] at hjk
          exact hji (ok.own k j hd hjlt hjk).symm
        have hself : ∀ d, (ops[i]?).bind (·.dst) = some d → (Act.put a o.dst v).tmps.getD d undef = v := by
          intro d hd
          rw [ho] at hd
          simp only [Option.bind_some] at hd
          rw [hd]
          exact act_put_self (by rw [H.kn.size]; exact ok.lt d hd)
        refine ih _ _ vs' w' hc' ⟨by simpa using H.size, H.kn.put_clear (fun k hk => clearB_look hclear (mem_dsts ho hk)) v, fun j d hjc hj hjd => ?_, fun p c hpc => ?_, fun p c d hpc hp hcd => ?_, ?_, fun j oj hoj hj e he hb => ?_, hG, fun d u hd hc => ?_⟩
        · by_cases hji : j = i
          · subst hji
            rw [hself d hjd]
            rw [ho] at hjd
            exact hRi d hjd hjc
          · rw [hother j d hji hjd]
            exact hle _ _ (H.plain j d hjc (((hset j).1 hj).resolve_left hji) hjd)
        · rw [hset]
          rcases hvs with ⟨hci, rfl⟩ | ⟨q, hq, rfl⟩
          · have : c ≠ i := by
              rintro rfl
              have := List.mem_of_getElem? hpc
              simp [this] at hci
            exact ⟨fun h => (H.link p c hpc).1 (h.resolve_left this), fun h => .inr ((H.link p c hpc).2 h)⟩
          · have hpl : q < vs.length := by rw [H.len]; exact (List.getElem?_eq_some_iff.1 hq).1
            by_cases hpq : p = q
            · subst hpq
              rw [hq] at hpc
              simp only [Option.some.injEq] at hpc
              subst hpc
              exact ⟨fun _ => ⟨v, by rw [List.getElem?_set_self hpl]⟩, fun _ => .inl rfl⟩
            · have hci : c ≠ i := by
                rintro rfl
                exact hpq ((List.getElem?_inj (List.getElem?_eq_some_iff.1 hpc).1 hnd).1 (hpc.trans hq.symm))
              rw [List.getElem?_set_ne (Ne.symm hpq)]
              exact ⟨fun h => (H.link p c hpc).1 (h.resolve_left hci), fun h => .inr ((H.link p c hpc).2 h)⟩
        · rcases hvs with ⟨hci, rfl⟩ | ⟨q, hq, rfl⟩
          · have hne : c ≠ i := by
              rintro rfl
              have := List.mem_of_getElem? hpc
              simp [this] at hci
            rw [hother c d hne hcd]
            exact H.vals p c d hpc (((hset c).1 hp).resolve_left hne) hcd
          · have hpl : q < vs.length := by rw [H.len]; exact (List.getElem?_eq_some_iff.1 hq).1
            by_cases hpq : p = q
            · subst hpq
              rw [hq] at hpc
              simp only [Option.some.injEq] at hpc
              subst hpc
              rw [hself d hcd, List.getElem?_set_self hpl]
            · have hne : c ≠ i := by
                rintro rfl
                exact hpq ((List.getElem?_inj (List.getElem?_eq_some_iff.1 hpc).1 hnd).1 (hpc.trans hq.symm))
              rw [hother c d hne hcd, List.getElem?_set_ne (Ne.symm hpq)]
              exact H.vals p c d hpc (((hset c).1 hp).resolve_left hne) hcd
        · rcases hvs with ⟨hci, rfl⟩ | ⟨q, hq, rfl⟩
          · exact H.len
          · rw [List.length_set]; exact H.len
        · rw [hset]
          by_cases hji : j = i
          · subst hji
            rw [ho] at hoj
            simp only [Option.some.injEq] at hoj
            subst hoj
            exact .inr (haf e he hb)
          · exact .inr (H.closed j oj hoj (((hset j).1 hj).resolve_left hji) e he hb)
        · have hne : o.dst ≠ some d := fun e => by
            have := hc i (by rw [ho]; exact e)
            rw [(hset i).2 (.inl rfl)] at this
            cases this
          rw [act_put_other hne]
          refine H.old d u hd fun c hcd => ?_
          cases hl : listed.getD c false with
          | false => rfl
          | true => have := hc c hcd; rw [(hset c).2 (.inr hl)] at this; cases this
      rcases hs2 with ⟨hci, β, hg, hgc, hs1, hs2⟩ | ⟨p, hp, hgn, hs2⟩
      · have hwant : Region.wanted o (yielded ops a.tmps) = β := by
          have known : ∀ g c d b, o.guard = some (g, b) → (∀ v w, R g v w → (d = true → v = .bool c) ∧ (d = false → v = undef)) → yielded ops a.tmps g = if d then some c else none := by
            intro g c dd b hgb hv
            obtain ⟨⟨e, he, h1, h2⟩, d, hd⟩ := ok.guard g b hgb
            have hv := hv (a.tmps.getD d undef) w (H.plain g d (hgc g b hgb) (h1 ▸ haf e he h2) hd)
            have hdlt : d < a.tmps.size := by
              obtain ⟨og, hog, hgd⟩ := Option.bind_eq_some_iff.1 hd
              rw [H.kn.size]
              exact (opsB_spec hB hog).lt d hgd
            unfold yielded
            rw [hd]
            simp only [Array.getD_eq_getD_getElem?, Array.getElem?_eq_getElem hdlt, Option.getD_some] at hv
            cases dd with
            | true => simp [hdlt, hv.1 rfl]
            | false => simp [hdlt, hv.2 rfl, undef]
          cases hg with
          | none h => unfold Region.wanted; rw [h]
          | @yes g c d h hv => have := known _ _ _ _ h hv; unfold Region.wanted; rw [h]; simp only [this]; cases d <;> simp
          | @no g c d h hv => have := known _ _ _ _ h hv; unfold Region.wanted; rw [h]; simp only [this]; cases d <;> cases c <;> simp
        cases hβ : β with
        | false =>
          rw [hβ] at hwant
          simp only [hwant, Bool.false_eq_true, if_false]
          refine ⟨fun f _ => fen_fn _ f, ?_⟩
          exact step undef vs w (fun _ _ h => h) H.now (fun _ _ _ => hs1 hβ w) (.inl ⟨hci, rfl⟩)
        | true =>
          rw [hβ] at hwant
          simp only [hwant, if_true]
          refine Oper.wpIn_mono ?_ (hs2 hβ a w vs ctx)
          rintro a' w' ⟨v, rfl, hle, hG, hRi⟩
          exact step v vs w' (fun j u hj => hR j u _ _ hj hle) hG (fun _ _ _ => hRi) (.inl ⟨hci, rfl⟩)
      · have hwant : Region.wanted o (yielded ops a.tmps) = true := by unfold Region.wanted; rw [hgn]
        have hnone : vs[p]? = some none := by
          have hp' : p < vs.length := by rw [H.len]; exact (List.getElem?_eq_some_iff.1 hp).1
          rw [List.getElem?_eq_getElem hp']
          cases hx : vs[p] with
          | none => rfl
          | some v =>
            have := (H.link p i hp).2 ⟨v, by rw [List.getElem?_eq_getElem hp', hx]⟩
            rw [hun'] at this; cases this
        simp only [hwant, if_true]
        refine Oper.wpIn_mono ?_ (hs2 a w vs ctx hnone)
        rintro a' w' ⟨v, rfl, hle, hG⟩
        have hcc : chain.contains i = true := by
          have := List.mem_of_getElem? hp
          simpa using this
        exact step v (vs.set p (some v)) w' (fun j u hj => hR j u _ _ hj hle) hG (fun _ _ h => by rw [hcc] at h; cases h) (.inr ⟨p, hp, rfl⟩)
  intro a0 w0 hk0 hke h0
  have nothing' : ∀ i, (Array.replicate ops.size false).getD i false = false := fun i => by
    by_cases h : i < ops.size <;> simp [Array.getD, h]
  refine main _ _ _ (List.replicate chain.length none) _ (by simp) ⟨by simp, hk0, fun i d _ hi => ?_, fun p c hpc => ?_, fun p c d _ hp => ?_, by simp, fun i o _ hi => ?_, h0, fun d v hd _ => hke.knows d v hd⟩
  · rw [nothing'] at hi; cases hi
  · rw [nothing']
    refine ⟨fun h => (by cases h), fun ⟨v, hv⟩ => ?_⟩
    have hp := (List.getElem?_eq_some_iff.1 hpc).1
    simp [hp] at hv
  · rw [nothing'] at hp; cases hp
  · rw [nothing'] at hi; cases hi

/-- The law: of what is known of the frame 'K0' is what the region does not write. -/
theorem WC.genH {id : Nat} {dr : Bool} {Q : Exit → Act → World → Prop} {n : Fr} {K : Known} {w : World} (chain : List Nat) (R : Nat → Value → World → Prop) (Le : World → World → Prop) (G : List (Option Value) → World → Prop) (K0 : Known)
    (hs : subK K0 K) (hclear : clearB ops K0 = true) (hm : P.follows .mixedOrders = true) (hB : opsB ops n.n = true) (hnd : chain.Nodup) (hin : (chain.all fun c => Nat.blt c ops.size) = true)
    (hR : ∀ i v w w', R i v w → Le w w' → R i v w') (h0 : G (List.replicate chain.length none) (bif dr then w.drew else w))
    (h : SoundFromH P ops Q chain R Le G n K0 K 0 ops.toList)
    (hQ : ∀ (a : Act) (w : World) (vs : List (Option Value)), Kn n K0 a → vs.length = chain.length → (∀ p, p < chain.length → ∃ v, vs[p]? = some (some v)) → G vs w → (∀ i d, (ops[i]?).bind (·.dst) = some d → chain.contains i = false → R i (a.tmps.getD d undef) w) → (∀ (p c d : Nat), chain[p]? = some c → (ops[c]?).bind (·.dst) = some d → vs[p]? = some (some (a.tmps.getD d undef))) → Q .normal a w) :
    WC P n K w (.region id ops dr) Q := by
  intro a ha
  have main := wp_any_genH (Ke := K) chain R Le G hB hnd hin hclear hR h hQ a
  cases dr with
  | true => exact wpIn_region_any hm (main _ (ha.sub hs) ha h0)
  | false => exact any_start hB (main _ (ha.sub hs) ha h0)
end

section
variable {P : Program} {ops : Array Oper} {S : Nat → Prop}
/-- That slot 'd' is not written yet. -/
def earlyB (ops : Array Oper) (i d : Nat) : Bool := (List.range ops.size).all fun c => !((ops[c]?).bind (·.dst) == some d) || (ancL ops c).contains i
theorem earlyB_of {ops : Array Oper} {i d : Nat} (h : earlyB ops i d = true) : ∀ c, (ops[c]?).bind (·.dst) = some d → (ancL ops c).contains i = true := fun c hc => by
  have hlt : c < ops.size := by
    rcases Nat.lt_or_ge c ops.size with h | h
    · exact h
    · simp [Array.getElem?_eq_none h] at hc
  have := List.all_eq_true.1 h c (List.mem_range.2 hlt)
  simpa [hc] using this
structure CtxA3 (ops : Array Oper) (l : List (Bool × SpS S)) (chain : List Nat) (first : Nat) (n : Fr) (K Ke : Known) (w0 : World) (i : Nat) (o : Oper) (a : Act) (w : World) : Prop extends CtxA ops l chain first n K w0 i o a w where
  old : ∀ d v, look Ke d = some v → earlyB ops i d = true → a.tmps.getD d undef = v
def Tail3 (P : Program) (ops : Array Oper) (Q : Exit → Act → World → Prop) (l : List (Bool × SpS S)) (n : Fr) (K Ke : Known) (w0 : World) (p q N : Nat) (GA : Option Addr → Nat → World → Prop) : Nat → List Oper → Prop
  | _, [] => True
  | i, o :: r => (([p, q].contains i = false ∧ ∃ β, GuardIs (optS l) o β ∧ (∀ g b, o.guard = some (g, b) → [p, q].contains g = false) ∧ (β = false → ∀ w, optS l i undef w) ∧
      (β = true → ∀ a w, CtxA3 ops l [p, q] p n K Ke w0 i o a w → o.wp P a w (fun a' w' => ∃ v, a' = Act.put a o.dst v ∧ Below w.heap.size w w' ∧ optS l i v w') Q)) ∨
    (i = p ∧ o.guard = none ∧ ∀ a w, CtxB ops l [p, q] n K w0 o a w → o.wp P a w (fun a' w' => ∃ ra rc, a' = Act.put a o.dst (.slice ra N rc) ∧ GA ra rc w' ∧ Chg S w w') Q) ∨
    (i = q ∧ o.guard = none ∧ ∃ d, depB ops o p d = true ∧ o.op = .assign (.tmp d))) ∧ Tail3 P ops Q l n K Ke w0 p q N GA (i + 1) r
def G3 (S : Nat → Prop) (w0 : World) (N : Nat) (GA : Option Addr → Nat → World → Prop) : List (Option Value) → World → Prop
  | [none, none], w => Below w0.heap.size w0 w
  | [some v, none], w => ∃ ra rc, v = .slice ra N rc ∧ GA ra rc w ∧ Chg S w0 w
  | [some v, some u], w => ∃ ra rc, v = .slice ra N rc ∧ u = .slice ra N rc ∧ GA ra rc w ∧ Chg S w0 w
  | _, _ => False
theorem G3.chg {w0 w : World} {N : Nat} {GA : Option Addr → Nat → World → Prop} : ∀ {vs : List (Option Value)}, G3 S w0 N GA vs w → Chg S w0 w
  | [none, none], h => .ofBelow h
  | [some _, none], h => by obtain ⟨_, _, _, _, h⟩ := h; exact h
  | [some _, some _], h => by obtain ⟨_, _, _, _, _, h⟩ := h; exact h
  | [none, some _], h => h.elim
  | [], h => h.elim
  | [x], h => by cases x <;> exact h.elim
  | _ :: _ :: _ :: _, h => by simp [G3] at h
theorem Tail3.gen {Q : Exit → Act → World → Prop} {l : List (Bool × SpS S)} {n : Fr} {K Ke : Known} {w0 : World} {p q N : Nat} {GA : Option Addr → Nat → World → Prop} (hpq : p ≠ q) (hGA : ∀ ra rc w w', Below w.heap.size w w' → GA ra rc w → GA ra rc w') : ∀ {lo : List Oper} {i : Nat}, Tail3 P ops Q l n K Ke w0 p q N GA i lo →
    SoundFromH P ops Q [p, q] (optS l) (Chg S) (G3 S w0 N GA) n K Ke i lo
  | [], _, _ => trivial
  | o :: r, i, ⟨h, hr⟩ => by
    refine ⟨?_, hr.gen hpq hGA⟩
    rcases h with ⟨hi, β, h1, h2, h3, h4⟩ | ⟨rfl, hg, h4⟩ | ⟨rfl, hg, d, hd, ho⟩
    · refine .inl ⟨hi, β, h1, h2, h3, fun hβ a w vs C => ?_⟩
      refine Oper.wpIn_mono ?_ (wpIn_of (h4 hβ a w ⟨⟨C.now.chg, C.kn, C.dep, fun he => ?_⟩, fun d v hd hb => C.old d v hd (earlyB_of hb)⟩) (by rintro a' w' ⟨v, rfl, _⟩; exact put_defers _ _ _))
      · rintro a' w' ⟨v, rfl, hb, hR⟩
        refine ⟨v, rfl, .ofBelow hb, ?_, hR⟩
        match vs, C.len, C.now with
        | [none, none], _, h => exact bstep h hb
        | [some _, none], _, ⟨ra, rc, e, h, hc⟩ => exact ⟨ra, rc, e, hGA _ _ _ _ hb h, hc.trans (.ofBelow hb)⟩
        | [some _, some _], _, ⟨ra, rc, e, e2, h, hc⟩ => exact ⟨ra, rc, e, e2, hGA _ _ _ _ hb h, hc.trans (.ofBelow hb)⟩
        | [none, some _], _, h => exact h.elim
      · have := C.mostT 0 p rfl he
        match vs, C.len, C.now, this with
        | [none, none], _, h, _ => exact h
        | [none, some _], _, h, _ => exact h.elim
    · refine .inr ⟨0, rfl, hg, fun a w vs C hn => ?_⟩
      match vs, C.len, C.now, hn, C with
      | [none, none], _, h, _, C =>
        refine Oper.wpIn_mono ?_ (wpIn_of (h4 a w ⟨h, C.kn, C.dep⟩) (by rintro a' w' ⟨_, _, rfl, _⟩; exact put_defers _ _ _))
        rintro a' w' ⟨ra, rc, rfl, hG, hc⟩
        exact ⟨_, rfl, hc, ra, rc, rfl, hG, (Chg.ofBelow h).trans hc⟩
      | [none, some _], _, h, _, _ => exact h.elim
    · refine .inr ⟨1, rfl, hg, fun a w vs C hn => ?_⟩
      have hl := C.link 0 p d rfl hd
      match vs, C.len, C.now, hn, hl, C with
      | [some v, none], _, ⟨ra, rc, e, h, hc⟩, _, hl, C =>
        have hv : v = a.tmps.getD d undef := by simpa using hl
        refine Oper.wpIn_mono ?_ (wpIn_of (K := fun a' w' => a' = Act.put a o.dst (.slice ra N rc) ∧ w' = w) (wp_assign ho (show a.tmps.getD d undef = .slice ra N rc from (hv ▸ e)) ⟨rfl, rfl⟩) (by rintro a' w' ⟨rfl, _⟩; exact put_defers _ _ _))
        rintro a' w' ⟨rfl, rfl⟩
        exact ⟨_, rfl, .refl _ _, ra, rc, e, rfl, h, hc⟩
theorem WC.tail3 {id : Nat} {dr : Bool} {Q : Exit → Act → World → Prop} {n : Fr} {K : Known} {w : World} (l : List (Bool × SpS S)) (K0 : Known) (p q N dp dq : Nat) (GA : Option Addr → Nat → World → Prop) (hpq : p ≠ q) (hGA : ∀ ra rc w w', Below w.heap.size w w' → GA ra rc w → GA ra rc w')
    (hs : subK K0 K) (hclear : clearB ops K0 = true) (hm : P.follows .mixedOrders = true) (hB : opsB ops n.n = true) (hin : ([p, q].all fun c => Nat.blt c ops.size) = true) (hdp : (ops[p]?).bind (·.dst) = some dp) (hdq : (ops[q]?).bind (·.dst) = some dq)
    (h : Tail3 P ops Q l n K0 K w p q N GA 0 ops.toList)
    (hQ : ∀ (a : Act) (w' : World) (ra : Option Addr) (rc : Nat), Kn n K0 a → a.tmps.getD dp undef = .slice ra N rc → a.tmps.getD dq undef = .slice ra N rc → GA ra rc w' → Chg S w w' → (∀ i d, (ops[i]?).bind (·.dst) = some d → [p, q].contains i = false → optS l i (a.tmps.getD d undef) w') → Q .normal a w') :
    WC P n K w (.region id ops dr) Q := by
  refine WC.genH [p, q] (optS l) (Chg S) (G3 S w N GA) K0 hs hclear hm hB (by simpa using hpq) hin (optSKeep l) ?_ (h.gen hpq hGA) (fun a w' vs hk hlen hall hG hu hl => ?_)
  · cases dr with
    | true => exact (Below.refl _ _).drew
    | false => exact Below.refl _ _
  · obtain ⟨v, hv⟩ := hall 0 (by simp)
    obtain ⟨u, hu1⟩ := hall 1 (by simp)
    have hx := hl 0 p dp rfl hdp
    have hx2 := hl 1 q dq rfl hdq
    match vs, hlen, hv, hu1, hx, hx2, hG with
    | [some y, some z], _, _, _, hx, hx2, ⟨ra, rc, e, e2, hG, hc⟩ =>
      have hy : y = a.tmps.getD dp undef := by simpa using hx
      have hz : z = a.tmps.getD dq undef := by simpa using hx2
      exact hQ a w' ra rc hk (hy ▸ e) (hz ▸ e2) hG hc hu
end

end Go.Proofs.Ytnblndmjjokepaa
