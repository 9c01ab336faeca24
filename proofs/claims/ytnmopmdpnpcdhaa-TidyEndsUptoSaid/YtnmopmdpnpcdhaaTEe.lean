/- Literals and clauses copied; one left out; the same literals. The program. -/
import Derived.Test.YtnmopmdpnpcdhaaTEc
import Derived.Test.YtnmopmdpnpcdhaaTEd
import Derived.Test.YtnmopmdpnpcdhaaTEb
import Derived.Test.YtnmopmdpnpcdhaaTEa

/- Regions in whatever order, in which operations that change the memory may be guarded: one behind the other, each with what it yields. -/
namespace Go.Proofs.Ytnmopmdpnpcdhaa
open Go.RowKit Go
set_option linter.unusedVariables false
set_option linter.unusedSimpArgs false
section
variable {P : Program} {ops : Array Oper}
structure CtxQ (ops : Array Oper) (chain : List Nat) (R : Nat → Value → World → Prop) (G : List (Option Value) → World → Prop) (n : Fr) (K Ke : Known) (i : Nat) (o : Oper) (a : Act) (w : World) (vs : List (Option Value)) : Prop extends CtxH ops chain R G n K Ke i o a w vs where
 anc : ∀ (p c : Nat), chain[p]? = some c → o.after.any (fun e => Region.binds .any e && (ancL ops e.on).contains c) = true → ∃ v, vs[p]? = some (some v)
def SoundQ (P : Program) (ops : Array Oper) (Q : Exit → Act → World → Prop) (chain : List Nat) (R : Nat → Value → World → Prop) (Le : World → World → Prop) (G : List (Option Value) → World → Prop) (n : Fr) (K Ke : Known) (i : Nat) (o : Oper) : Prop :=
 (chain.contains i = false ∧ ∃ β, GuardIs R o β ∧ (∀ g b, o.guard = some (g, b) → chain.contains g = false) ∧ (β = false → ∀ w, R i undef w) ∧
  (β = true → ∀ (a : Act) (w : World) (vs : List (Option Value)), CtxQ ops chain R G n K Ke i o a w vs →
   o.wpIn (fen n.r) 0 P a w (fun a' w' => ∃ v, a' = Act.put a o.dst v ∧ Le w w' ∧ G vs w' ∧ R i v w') Q)) ∨
 (∃ p, chain[p]? = some i ∧ ∃ β, GuardIs R o β ∧ (∀ g b, o.guard = some (g, b) → chain.contains g = false) ∧
  (β = false → ∀ (a : Act) (w : World) (vs : List (Option Value)), CtxQ ops chain R G n K Ke i o a w vs → vs[p]? = some none → G (vs.set p (some undef)) w) ∧
  (β = true → ∀ (a : Act) (w : World) (vs : List (Option Value)), CtxQ ops chain R G n K Ke i o a w vs → vs[p]? = some none →
   o.wpIn (fen n.r) 0 P a w (fun a' w' => ∃ v, a' = Act.put a o.dst v ∧ Le w w' ∧ G (vs.set p (some v)) w') Q))
def SoundFromQ (P : Program) (ops : Array Oper) (Q : Exit → Act → World → Prop) (chain : List Nat) (R : Nat → Value → World → Prop) (Le : World → World → Prop) (G : List (Option Value) → World → Prop) (n : Fr) (K Ke : Known) : Nat → List Oper → Prop
 | _, [] => True
 | k, o :: r => SoundQ P ops Q chain R Le G n K Ke k o ∧ SoundFromQ P ops Q chain R Le G n K Ke (k + 1) r
theorem SoundFromQ.at_ {Q : Exit → Act → World → Prop} {chain : List Nat} {R : Nat → Value → World → Prop} {Le : World → World → Prop} {G : List (Option Value) → World → Prop} {n : Fr} {K Ke : Known} : ∀ {l : List Oper} {k : Nat}, SoundFromQ P ops Q chain R Le G n K Ke k l → ∀ i o, l[i]? = some o → SoundQ P ops Q chain R Le G n K Ke (k + i) o
 | [], _, _, i, o, h => by simp at h
 | x :: r, k, h, 0, o, ho => by simp at ho; subst ho; exact h.1
 | x :: r, k, h, i + 1, o, ho => by
  have := h.2.at_ i o (by simpa using ho)
  rwa [show k + 1 + i = k + (i + 1) by omega] at this
theorem wp_any_genQ {Q : Exit → Act → World → Prop} {n : Fr} {K Ke : Known} (chain : List Nat) (R : Nat → Value → World → Prop) (Le : World → World → Prop) (G : List (Option Value) → World → Prop)
  (hB : opsB ops n.n = true) (hnd : chain.Nodup) (hin : (chain.all fun c => Nat.blt c ops.size) = true) (hclear : clearB ops K = true)
  (hR : ∀ i v w w', R i v w → Le w w' → R i v w')
  (h : SoundFromQ P ops Q chain R Le G n K Ke 0 ops.toList)
  (hQ : ∀ (a : Act) (w : World) (vs : List (Option Value)), Kn n K a → vs.length = chain.length → (∀ p, p < chain.length → ∃ v, vs[p]? = some (some v)) → G vs w → (∀ i d, (ops[i]?).bind (·.dst) = some d → chain.contains i = false → R i (a.tmps.getD d undef) w) → (∀ (p c d : Nat), chain[p]? = some c → (ops[c]?).bind (·.dst) = some d → vs[p]? = some (some (a.tmps.getD d undef))) → Q .normal a w) :
  ∀ (a0 : Act) (w0 : World), Kn n K a0 → Kn n Ke a0 → G (List.replicate chain.length none) w0 → wpAnyIn (fen n.r) 0 P .any ops Q ops.size (Array.replicate ops.size false) a0 w0 := by
 have main : ∀ (fuel : Nat) (listed : Array Bool) (a : Act) (vs : List (Option Value)) (w : World), listed.toList.count false ≤ fuel → AtH ops chain R G n K Ke listed a vs w →
   wpAnyIn (fen n.r) 0 P .any ops Q fuel listed a w := by
  intro fuel
  have done : ∀ (listed : Array Bool) (a : Act) (vs : List (Option Value)) (w : World), Region.ready .any ops listed = [] → AtH ops chain R G n K Ke listed a vs w → Q .normal a w := by
   intro listed a vs w hr H
   have all : ∀ i, i < ops.size → listed.getD i false = true := fun i hi => by
    have := ready_nil hB H.size hr i hi
    have hs := H.size
    simpa [Array.getD, show i < listed.size by omega] using this
   have hin' : ∀ p c, chain[p]? = some c → c < ops.size := fun p c hc => by
    have := List.all_eq_true.1 hin _ (List.mem_of_getElem? hc)
    simpa [Nat.blt_eq] using this
   have lt_of : ∀ i d, (ops[i]?).bind (·.dst) = some d → i < ops.size := fun i d hd => by
    rcases Nat.lt_or_ge i ops.size with h | h
    ·exact h
    ·simp [Array.getElem?_eq_none h] at hd
   exact hQ a w vs H.kn H.len (fun p hp => (H.link p chain[p] (by simp [hp])).1 (all _ (hin' p _ (by simp [hp])))) H.now (fun i d hd hc => H.plain i d hc (all i (lt_of i d hd)) hd) (fun p c d hc hd => H.vals p c d hc (all c (hin' p c hc)) hd)
  induction fuel with
  | zero =>
   intro listed a vs w hc H
   have hr : Region.ready .any ops listed = [] := by
    cases hr : Region.ready .any ops listed with
    | nil => rfl
    | cons i r =>
     have := (mem_ready (md := .any) (ops := ops) (j := i) (listed := listed)).1 (by rw [hr]; simp)
     rw [count_zero hc i] at this
     simp at this
   exact ⟨hr, done listed a vs w hr H⟩
  | succ fuel ih =>
   intro listed a vs w hc H
   refine ⟨fun hr => done listed a vs w hr H, fun i hi => ?_⟩
   obtain ⟨hun, o, ho, haf⟩ := mem_ready.1 hi
   have hilt : i < ops.size := by
    rcases Nat.lt_or_ge i ops.size with h | h
    ·exact h
    ·simp [Array.getElem?_eq_none h] at ho
   have hils : i < listed.size := by have := H.size; omega
   have hun' := getD_false_of hun
   have ok := opsB_spec hB ho
   have hs2 := h.at_ i o (by simpa using ho)
   rw [Nat.zero_add] at hs2
   have after_of : ∀ j d, depB ops o j d = true → listed.getD j false = true ∧ (ops[j]?).bind (·.dst) = some d := by
    intro j d hj
    simp only [depB, Bool.and_eq_true, Array.any_eq_true, beq_iff_eq] at hj
    obtain ⟨⟨k, hk, h1, h2⟩, h3⟩ := hj
    exact ⟨h1 ▸ haf _ (Array.getElem_mem hk) h2, h3⟩
   have ctx : CtxH ops chain R G n K Ke i o a w vs := by
    have opt : ∀ p c, chain[p]? = some c → listed.getD c false = false → vs[p]? = some none := fun p c hc hl => by
     have hp : p < vs.length := by rw [H.len]; exact (List.getElem?_eq_some_iff.1 hc).1
     rw [List.getElem?_eq_getElem hp]
     cases hx : vs[p] with
     | none => rfl
     | some v =>
      have := (H.link p c hc).2 ⟨v, by rw [List.getElem?_eq_getElem hp, hx]⟩
      rw [hl] at this; cases this
    refine ⟨H.now, H.kn, fun j d hj hc => H.plain j d hc (after_of j d hj).1 (after_of j d hj).2, H.len, fun p c d hc hj => H.vals p c d hc (after_of c d hj).1 (after_of c d hj).2, fun p c hc ha => ?_, fun p c hc ha => opt p c hc ?_, fun p c hc ha => opt p c hc ?_, fun d v hd hc => H.old d v hd fun c hcd => ?_⟩
    ·simp only [Array.any_eq_true, Bool.and_eq_true, beq_iff_eq] at ha
     obtain ⟨k, hk, h1, h2⟩ := ha
     exact (H.link p c hc).1 (h1 ▸ haf _ (Array.getElem_mem hk) h2)
    ·cases hl : listed.getD c false with
     | false => rfl
     | true =>
      exfalso
      unfold afterB at ha
      split at ha
      ·rename_i oc hoc
       simp only [Array.any_eq_true, Bool.and_eq_true, beq_iff_eq] at ha
       obtain ⟨k, hk, h1, h2⟩ := ha
       have := H.closed c oc hoc hl _ (Array.getElem_mem hk) h2
       rw [h1, hun'] at this
       cases this
      ·cases ha
    ·cases hl : listed.getD c false with
     | false => rfl
     | true =>
      exfalso
      have := anc_listed H.closed hl i (by simpa using ha)
      rw [hun'] at this
      cases this
    ·cases hl : listed.getD c false with
     | false => rfl
     | true =>
      exfalso
      have := anc_listed H.closed hl i (by simpa using hc c hcd)
      rw [hun'] at this
      cases this
   have ctxQ : CtxQ ops chain R G n K Ke i o a w vs := ⟨ctx, fun p c hc ha => by
    simp only [Array.any_eq_true, Bool.and_eq_true] at ha
    obtain ⟨k, hk, h1, h2⟩ := ha
    exact (H.link p c hc).1 (anc_listed H.closed (haf _ (Array.getElem_mem hk) h1) c (by simpa using h2))⟩
   unfold wpOpIn
   simp only [ho]
   -- what is behind a step
   have step : ∀ (v : Value) (vs' : List (Option Value)) (w' : World), (∀ j u, R j u w → R j u w') → G vs' w' → (∀ d, o.dst = some d → chain.contains i = false → R i v w') →
     ((chain.contains i = false ∧ vs' = vs) ∨ (∃ p, chain[p]? = some i ∧ vs' = vs.set p (some v))) →
     wpAnyIn (fen n.r) 0 P .any ops Q fuel (listed.setIfInBounds i true) (Act.put a o.dst v) w' := by
    intro v vs' w' hle hG hRi hvs
    have hc' := count_set (l := listed) hils hun hc
    have hset : ∀ j, (listed.setIfInBounds i true).getD j false = true ↔ j = i ∨ listed.getD j false = true := by
     intro j
     by_cases hj : j = i
     ·subst hj; simp [getD_set_eq hils]
     ·rw [getD_set_ne false (Ne.symm hj)]; simp [hj]
    have hother : ∀ j k, j ≠ i → (ops[j]?).bind (·.dst) = some k → (Act.put a o.dst v).tmps.getD k undef = a.tmps.getD k undef := by
     intro j k hji hjk
     refine act_put_other (fun hd => ?_)
     have hjlt : j < ops.size := by
      rcases Nat.lt_or_ge j ops.size with h | h
      ·exact h
      ·simp [Array.getElem?_eq_none h] at hjk
     exact hji (ok.own k j hd hjlt hjk).symm
    have hself : ∀ d, (ops[i]?).bind (·.dst) = some d → (Act.put a o.dst v).tmps.getD d undef = v := by
     intro d hd
     rw [ho] at hd
     simp only [Option.bind_some] at hd
     rw [hd]
     exact act_put_self (by rw [H.kn.size]; exact ok.lt d hd)
    refine ih _ _ vs' w' hc' ⟨by simpa using H.size, H.kn.put_clear (fun k hk => clearB_look hclear (mem_dsts ho hk)) v, fun j d hjc hj hjd => ?_, fun p c hpc => ?_, fun p c d hpc hp hcd => ?_, ?_, fun j oj hoj hj e he hb => ?_, hG, fun d u hd hc => ?_⟩
    ·by_cases hji : j = i
     ·subst hji
      rw [hself d hjd]
      rw [ho] at hjd
      exact hRi d hjd hjc
     ·rw [hother j d hji hjd]
      exact hle _ _ (H.plain j d hjc (((hset j).1 hj).resolve_left hji) hjd)
    ·rw [hset]
     rcases hvs with ⟨hci, rfl⟩ | ⟨q, hq, rfl⟩
     ·have : c ≠ i := by
       rintro rfl
       have := List.mem_of_getElem? hpc
       simp [this] at hci
      exact ⟨fun h => (H.link p c hpc).1 (h.resolve_left this), fun h => .inr ((H.link p c hpc).2 h)⟩
     ·have hpl : q < vs.length := by rw [H.len]; exact (List.getElem?_eq_some_iff.1 hq).1
      by_cases hpq : p = q
      ·subst hpq
       rw [hq] at hpc
       simp only [Option.some.injEq] at hpc
       subst hpc
       exact ⟨fun _ => ⟨v, by rw [List.getElem?_set_self hpl]⟩, fun _ => .inl rfl⟩
      ·have hci : c ≠ i := by
        rintro rfl
        exact hpq ((List.getElem?_inj (List.getElem?_eq_some_iff.1 hpc).1 hnd).1 (hpc.trans hq.symm))
       rw [List.getElem?_set_ne (Ne.symm hpq)]
       exact ⟨fun h => (H.link p c hpc).1 (h.resolve_left hci), fun h => .inr ((H.link p c hpc).2 h)⟩
    ·rcases hvs with ⟨hci, rfl⟩ | ⟨q, hq, rfl⟩
     ·have hne : c ≠ i := by
       rintro rfl
       have := List.mem_of_getElem? hpc
       simp [this] at hci
      rw [hother c d hne hcd]
      exact H.vals p c d hpc (((hset c).1 hp).resolve_left hne) hcd
     ·have hpl : q < vs.length := by rw [H.len]; exact (List.getElem?_eq_some_iff.1 hq).1
      by_cases hpq : p = q
      ·subst hpq
       rw [hq] at hpc
       simp only [Option.some.injEq] at hpc
       subst hpc
       rw [hself d hcd, List.getElem?_set_self hpl]
      ·have hne : c ≠ i := by
        rintro rfl
        exact hpq ((List.getElem?_inj (List.getElem?_eq_some_iff.1 hpc).1 hnd).1 (hpc.trans hq.symm))
       rw [hother c d hne hcd, List.getElem?_set_ne (Ne.symm hpq)]
       exact H.vals p c d hpc (((hset c).1 hp).resolve_left hne) hcd
    ·rcases hvs with ⟨hci, rfl⟩ | ⟨q, hq, rfl⟩
     ·exact H.len
     ·rw [List.length_set]; exact H.len
    ·rw [hset]
     by_cases hji : j = i
     ·subst hji
      rw [ho] at hoj
      simp only [Option.some.injEq] at hoj
      subst hoj
      exact .inr (haf e he hb)
     ·exact .inr (H.closed j oj hoj (((hset j).1 hj).resolve_left hji) e he hb)
    ·have hne : o.dst ≠ some d := fun e => by
      have := hc i (by rw [ho]; exact e)
      rw [(hset i).2 (.inl rfl)] at this
      cases this
     rw [act_put_other hne]
     refine H.old d u hd fun c hcd => ?_
     cases hl : listed.getD c false with
     | false => rfl
     | true => have := hc c hcd; rw [(hset c).2 (.inr hl)] at this; cases this
   have known : ∀ {β : Bool}, GuardIs R o β → (∀ g b, o.guard = some (g, b) → chain.contains g = false) → Region.wanted o (yielded ops a.tmps) = β := by
    intro β hg hgc
    have known : ∀ g c d b, o.guard = some (g, b) → (∀ v w, R g v w → (d = true → v = .bool c) ∧ (d = false → v = undef)) → yielded ops a.tmps g = if d then some c else none := by
     intro g c dd b hgb hv
     obtain ⟨⟨e, he, h1, h2⟩, d, hd⟩ := ok.guard g b hgb
     have hv := hv (a.tmps.getD d undef) w (H.plain g d (hgc g b hgb) (h1 ▸ haf e he h2) hd)
     have hdlt : d < a.tmps.size := by
      obtain ⟨og, hog, hgd⟩ := Option.bind_eq_some_iff.1 hd
      rw [H.kn.size]
      exact (opsB_spec hB hog).lt d hgd
     unfold yielded
     rw [hd]
     simp only [Array.getD_eq_getD_getElem?, Array.getElem?_eq_getElem hdlt, Option.getD_some] at hv
     cases dd with
     | true => simp [hdlt, hv.1 rfl]
     | false => simp [hdlt, hv.2 rfl, undef]
    cases hg with
    | none h => unfold Region.wanted; rw [h]
    | @yes g c d h hv => have := known _ _ _ _ h hv; unfold Region.wanted; rw [h]; simp only [this]; cases d <;> simp
    | @no g c d h hv => have := known _ _ _ _ h hv; unfold Region.wanted; rw [h]; simp only [this]; cases d <;> cases c <;> simp
   rcases hs2 with ⟨hci, β, hg, hgc, hs1, hs2⟩ | ⟨p, hp, β, hg, hgc, hs1, hs2⟩
   ·have hwant := known hg hgc
    cases hβ : β with
    | false =>
     rw [hβ] at hwant
     simp only [hwant, Bool.false_eq_true, if_false]
     refine ⟨fun f _ => fen_fn _ f, ?_⟩
     exact step undef vs w (fun _ _ h => h) H.now (fun _ _ _ => hs1 hβ w) (.inl ⟨hci, rfl⟩)
    | true =>
     rw [hβ] at hwant
     simp only [hwant, if_true]
     refine Oper.wpIn_mono ?_ (hs2 hβ a w vs ctxQ)
     rintro a' w' ⟨v, rfl, hle, hG, hRi⟩
     exact step v vs w' (fun j u hj => hR j u _ _ hj hle) hG (fun _ _ _ => hRi) (.inl ⟨hci, rfl⟩)
   ·have hwant := known hg hgc
    have hnone : vs[p]? = some none := by
     have hp' : p < vs.length := by rw [H.len]; exact (List.getElem?_eq_some_iff.1 hp).1
     rw [List.getElem?_eq_getElem hp']
     cases hx : vs[p] with
     | none => rfl
     | some v =>
      have := (H.link p i hp).2 ⟨v, by rw [List.getElem?_eq_getElem hp', hx]⟩
      rw [hun'] at this; cases this
    have hcc : chain.contains i = true := by
     have := List.mem_of_getElem? hp
     simpa using this
    cases hβ : β with
    | false =>
     rw [hβ] at hwant
     simp only [hwant, Bool.false_eq_true, if_false]
     refine ⟨fun f _ => fen_fn _ f, ?_⟩
     exact step undef (vs.set p (some undef)) w (fun _ _ h => h) (hs1 hβ a w vs ctxQ hnone) (fun _ _ h => by rw [hcc] at h; cases h) (.inr ⟨p, hp, rfl⟩)
    | true =>
     rw [hβ] at hwant
     simp only [hwant, if_true]
     refine Oper.wpIn_mono ?_ (hs2 hβ a w vs ctxQ hnone)
     rintro a' w' ⟨v, rfl, hle, hG⟩
     exact step v (vs.set p (some v)) w' (fun j u hj => hR j u _ _ hj hle) hG (fun _ _ h => by rw [hcc] at h; cases h) (.inr ⟨p, hp, rfl⟩)
 intro a0 w0 hk0 hke h0
 have nothing' : ∀ i, (Array.replicate ops.size false).getD i false = false := fun i => by
  by_cases h : i < ops.size <;> simp [Array.getD, h]
 refine main _ _ _ (List.replicate chain.length none) _ (by simp) ⟨by simp, hk0, fun i d _ hi => ?_, fun p c hpc => ?_, fun p c d _ hp => ?_, by simp, fun i o _ hi => ?_, h0, fun d v hd _ => hke.knows d v hd⟩
 ·rw [nothing'] at hi; cases hi
 ·rw [nothing']
  refine ⟨fun h => (by cases h), fun ⟨v, hv⟩ => ?_⟩
  have hp := (List.getElem?_eq_some_iff.1 hpc).1
  simp [hp] at hv
 ·rw [nothing'] at hp; cases hp
 ·rw [nothing'] at hi; cases hi
theorem WC.genQ {id : Nat} {dr : Bool} {Q : Exit → Act → World → Prop} {n : Fr} {K : Known} {w : World} (chain : List Nat) (R : Nat → Value → World → Prop) (Le : World → World → Prop) (G : List (Option Value) → World → Prop) (K0 : Known)
  (hs : subK K0 K) (hclear : clearB ops K0 = true) (hm : P.follows .mixedOrders = true) (hB : opsB ops n.n = true) (hnd : chain.Nodup) (hin : (chain.all fun c => Nat.blt c ops.size) = true)
  (hR : ∀ i v w w', R i v w → Le w w' → R i v w') (h0 : G (List.replicate chain.length none) (bif dr then w.drew else w))
  (h : SoundFromQ P ops Q chain R Le G n K0 K 0 ops.toList)
  (hQ : ∀ (a : Act) (w : World) (vs : List (Option Value)), Kn n K0 a → vs.length = chain.length → (∀ p, p < chain.length → ∃ v, vs[p]? = some (some v)) → G vs w → (∀ i d, (ops[i]?).bind (·.dst) = some d → chain.contains i = false → R i (a.tmps.getD d undef) w) → (∀ (p c d : Nat), chain[p]? = some c → (ops[c]?).bind (·.dst) = some d → vs[p]? = some (some (a.tmps.getD d undef))) → Q .normal a w) :
  WC P n K w (.region id ops dr) Q := by
 intro a ha
 have main := wp_any_genQ (Ke := K) chain R Le G hB hnd hin hclear hR h hQ a
 cases dr with
 | true => exact wpIn_region_any hm (main _ (ha.sub hs) ha h0)
 | false => exact any_start hB (main _ (ha.sub hs) ha h0)
/-! ### Values that are told -/
/-- Which of the operations of the chain are done, and what they have yielded. -/
def Vals (vals : List Value) (m : Nat) : List (Option Value) := vals.map some ++ List.replicate (m - vals.length) none
variable {S : Nat → Prop}
def GH (S : Nat → Prop) (w0 : World) (m : Nat) (cv : List (Option (Bool × Value))) (GV : List Value → World → Prop) (vs : List (Option Value)) (w : World) : Prop :=
 ∃ vals, vals.length ≤ m ∧ vs = Vals vals m ∧ GV vals w ∧ Chg S w0 w ∧ ∀ (q : Nat) b x, cv[q]? = some (some (b, x)) → b = true → ∀ v, vals[q]? = some v → v = x
theorem vals_some {vals : List Value} {m q : Nat} {v : Value} (h : (Vals vals m)[q]? = some (some v)) : vals[q]? = some v := by
 unfold Vals at h
 rcases Nat.lt_or_ge q vals.length with hq | hq
 ·rw [List.getElem?_append_left (by simpa using hq), List.getElem?_map, List.getElem?_eq_getElem hq] at h
  rw [List.getElem?_eq_getElem hq]; simpa using h
 ·rw [List.getElem?_append_right (by simpa using hq), List.getElem?_replicate] at h
  split at h
  ·cases h
  ·cases h
theorem vals_none {vals : List Value} {m q : Nat} (h : (Vals vals m)[q]? = some none) : vals.length ≤ q := by
 unfold Vals at h
 rcases Nat.lt_or_ge q vals.length with hq | hq
 ·rw [List.getElem?_append_left (by simpa using hq), List.getElem?_map, List.getElem?_eq_getElem hq] at h
  cases h
 ·exact hq
theorem vals_set {vals : List Value} {m : Nat} {v : Value} (h : vals.length < m) : (Vals vals m).set vals.length (some v) = Vals (vals ++ [v]) m := by
 unfold Vals
 rw [List.set_append_right _ _ (by simp), List.map_append, List.length_append, List.append_assoc]
 congr 1
 obtain ⟨k, hk⟩ : ∃ k, m - vals.length = k + 1 := ⟨m - vals.length - 1, by omega⟩
 rw [hk, List.replicate_succ, List.length_map, Nat.sub_self, List.set_cons_zero, show m - (vals.length + [v].length) = k by simp; omega]
 rfl
/-- What an operation finds: 'l' says what the others yield, 'cv' what those of the chain do; 'early': where it must come ahead of an operation of the chain. -/
structure CtxV (ops : Array Oper) (S : Nat → Prop) (l : List (Bool × SpS S)) (chain : List Nat) (cv : List (Option (Bool × Value))) (GV : List Value → World → Prop) (n : Fr) (K Ke : Known) (w0 : World) (i : Nat) (o : Oper) (a : Act) (w : World) : Prop where
 chg : Chg S w0 w
 kn : Kn n K a
 dep : ∀ j d, depB ops o j d = true → chain.contains j = false → optS l j (a.tmps.getD d undef) w
 link : ∀ (q c d : Nat) (b : Bool) (x : Value), chain[q]? = some c → depB ops o c d = true → cv[q]? = some (some (b, x)) → b = true → a.tmps.getD d undef = x
 old : ∀ d v, look Ke d = some v → earlyB ops i d = true → a.tmps.getD d undef = v
 early : ∀ (q c : Nat), chain[q]? = some c → (ancL ops c).contains i = true → ∃ vals, vals.length ≤ q ∧ GV vals w ∧ ∀ (q' c' d : Nat), chain[q']? = some c' → depB ops o c' d = true → vals[q']? = some (a.tmps.getD d undef)
/-- .. and an operation of the chain: what was yielded before it. -/
structure CtxW (ops : Array Oper) (S : Nat → Prop) (l : List (Bool × SpS S)) (chain : List Nat) (cv : List (Option (Bool × Value))) (GV : List Value → World → Prop) (n : Fr) (K Ke : Known) (w0 : World) (i p : Nat) (o : Oper) (a : Act) (w : World) (vals : List Value) : Prop extends CtxV ops S l chain cv GV n K Ke w0 i o a w where
 len : vals.length = p
 now : GV vals w
 val : ∀ (q c d : Nat), chain[q]? = some c → depB ops o c d = true → vals[q]? = some (a.tmps.getD d undef)
/-- That the operation 'o' comes behind the one ahead of it in the chain. -/
def behind (ops : Array Oper) (chain : List Nat) (p : Nat) (o : Oper) : Bool := match p with | 0 => true | p + 1 => match chain[p]? with | some c => o.after.any (fun e => Region.binds .any e && (ancL ops e.on).contains c) | none => false
def SeqV (P : Program) (ops : Array Oper) (Q : Exit → Act → World → Prop) (l : List (Bool × SpS S)) (chain : List Nat) (cv : List (Option (Bool × Value))) (GV : List Value → World → Prop) (n : Fr) (K Ke : Known) (w0 : World) : Nat → List Oper → Prop
 | _, [] => True
 | i, o :: r => ((chain.contains i = false ∧ ∃ β, GuardIs (optS l) o β ∧ (∀ g b, o.guard = some (g, b) → chain.contains g = false) ∧ (β = false → ∀ w, optS l i undef w) ∧
   (β = true → ∀ a w, CtxV ops S l chain cv GV n K Ke w0 i o a w → o.wp P a w (fun a' w' => ∃ v, a' = Act.put a o.dst v ∧ Below w.heap.size w w' ∧ optS l i v w') Q)) ∨
  (∃ p, chain[p]? = some i ∧ behind ops chain p o = true ∧ ∃ β, GuardIs (optS l) o β ∧ (∀ g b, o.guard = some (g, b) → chain.contains g = false) ∧
   (β = false → ∀ w vals, vals.length = p → GV vals w → GV (vals ++ [undef]) w ∧ ∀ b x, cv[p]? = some (some (b, x)) → b = true → undef = x) ∧
   (β = true → ∀ a w vals, CtxW ops S l chain cv GV n K Ke w0 i p o a w vals → o.wp P a w (fun a' w' => ∃ v, a' = Act.put a o.dst v ∧ Chg S w w' ∧ GV (vals ++ [v]) w' ∧ ∀ b x, cv[p]? = some (some (b, x)) → b = true → v = x) Q))) ∧ SeqV P ops Q l chain cv GV n K Ke w0 (i + 1) r
theorem cv_snoc {cv : List (Option (Bool × Value))} {vals : List Value} {v : Value} (h : ∀ (q : Nat) b x, cv[q]? = some (some (b, x)) → b = true → ∀ v, vals[q]? = some v → v = x) (hv : ∀ b x, cv[vals.length]? = some (some (b, x)) → b = true → v = x) : ∀ (q : Nat) b x, cv[q]? = some (some (b, x)) → b = true → ∀ u, (vals ++ [v])[q]? = some u → u = x := by
 intro q b x hq hb u hu
 rcases Nat.lt_trichotomy q vals.length with c | c | c
 ·rw [List.getElem?_append_left c] at hu; exact h q b x hq hb u hu
 ·subst c
  rw [List.getElem?_append_right (Nat.le_refl _), Nat.sub_self] at hu
  have : v = u := by simpa using hu
  rw [← this]; exact hv b x hq hb
 ·rw [List.getElem?_append_right (by omega)] at hu
  obtain ⟨k, hk⟩ : ∃ k, q - vals.length = k + 1 := ⟨q - vals.length - 1, by omega⟩
  rw [hk] at hu; cases hu
theorem SeqV.gen {Q : Exit → Act → World → Prop} {l : List (Bool × SpS S)} {chain : List Nat} {cv : List (Option (Bool × Value))} {GV : List Value → World → Prop} {n : Fr} {K Ke : Known} {w0 : World} (hGV : ∀ vals w w', Below w.heap.size w w' → GV vals w → GV vals w') : ∀ {lo : List Oper} {i : Nat}, SeqV P ops Q l chain cv GV n K Ke w0 i lo →
  SoundFromQ P ops Q chain (optS l) (Chg S) (GH S w0 chain.length cv GV) n K Ke i lo
 | [], _, _ => trivial
 | o :: r, i, ⟨h, hr⟩ => by
  refine ⟨?_, hr.gen hGV⟩
  have ctx : ∀ {a w vs vals}, CtxQ ops chain (optS l) (GH S w0 chain.length cv GV) n K Ke i o a w vs → vs = Vals vals chain.length → Chg S w0 w → (∀ (q : Nat) b x, cv[q]? = some (some (b, x)) → b = true → ∀ v, vals[q]? = some v → v = x) → GV vals w → CtxV ops S l chain cv GV n K Ke w0 i o a w := fun {a w vs vals} C e hc hv hg =>
   ⟨hc, C.kn, C.dep, fun q c d b x h1 h2 h3 h4 => hv q b x h3 h4 _ (vals_some (e ▸ C.link q c d h1 h2)), fun d v hd hb => C.old d v hd (earlyB_of hb), fun q c h1 h2 => ⟨vals, vals_none (e ▸ C.mostT q c h1 h2), hg, fun q' c' d h3 h4 => vals_some (e ▸ C.link q' c' d h3 h4)⟩⟩
  rcases h with ⟨hi, β, h1, h2, h3, h4⟩ | ⟨p, hp, hbh, β, h1, h2, h3, h4⟩
  ·refine .inl ⟨hi, β, h1, h2, h3, fun hβ a w vs C => ?_⟩
   obtain ⟨vals, k1, k2, k3, k4, k5⟩ := C.now
   refine Oper.wpIn_mono ?_ (wpIn_of (h4 hβ a w (ctx C k2 k4 k5 k3)) (by rintro a' w' ⟨v, rfl, _⟩; exact put_defers _ _ _))
   rintro a' w' ⟨v, rfl, hb, hR⟩
   exact ⟨v, rfl, .ofBelow hb, ⟨vals, k1, k2, hGV _ _ _ hb k3, k4.trans (.ofBelow hb), k5⟩, hR⟩
  ·have hpl : p < chain.length := (List.getElem?_eq_some_iff.1 hp).1
   have len : ∀ {a w vs vals}, CtxQ ops chain (optS l) (GH S w0 chain.length cv GV) n K Ke i o a w vs → vs = Vals vals chain.length → vs[p]? = some none → vals.length = p := fun {a w vs vals} C e hn => by
    have h5 := vals_none (e ▸ hn)
    cases p with
    | zero => omega
    | succ p =>
     unfold behind at hbh
     obtain ⟨c, hc⟩ : ∃ c, chain[p]? = some c := ⟨chain[p], List.getElem?_eq_getElem (by omega)⟩
     simp only [hc] at hbh
     obtain ⟨v, hv⟩ := C.anc p c hc hbh
     have h6 := vals_some (e ▸ hv)
     have := (List.getElem?_eq_some_iff.1 h6).1
     omega
   refine .inr ⟨p, hp, β, h1, h2, fun hβ a w vs C hn => ?_, fun hβ a w vs C hn => ?_⟩
   ·obtain ⟨vals, k1, k2, k3, k4, k5⟩ := C.now
    have hl := len C k2 hn
    obtain ⟨z1, z2⟩ := h3 hβ w vals hl k3
    refine ⟨vals ++ [undef], by simp; omega, ?_, z1, k4, cv_snoc k5 (hl ▸ z2)⟩
    rw [k2, ← hl, vals_set (by omega)]
   ·obtain ⟨vals, k1, k2, k3, k4, k5⟩ := C.now
    have hl := len C k2 hn
    refine Oper.wpIn_mono ?_ (wpIn_of (h4 hβ a w vals ⟨ctx C k2 k4 k5 k3, hl, k3, fun q c d z1 z2 => vals_some (k2 ▸ C.link q c d z1 z2)⟩) (by rintro a' w' ⟨v, rfl, _⟩; exact put_defers _ _ _))
    rintro a' w' ⟨v, rfl, hc, z1, z2⟩
    refine ⟨v, rfl, hc, vals ++ [v], by simp; omega, ?_, z1, k4.trans hc, cv_snoc k5 (hl ▸ z2)⟩
    rw [k2, ← hl, vals_set (by omega)]
theorem cvIs {v X : Value} {β : Bool} (h : v = X) : ∀ b x, (some (some (β, X)) : Option (Option (Bool × Value))) = some (some (b, x)) → b = true → v = x := fun b x e _ => by cases e; exact h
theorem cvOff {v X : Value} {β : Bool} (h : β = false) : ∀ b x, (some (some (β, X)) : Option (Option (Bool × Value))) = some (some (b, x)) → b = true → v = x := fun b x e hb => by cases e; rw [h] at hb; cases hb
theorem cvNo {v : Value} : ∀ b x, (some none : Option (Option (Bool × Value))) = some (some (b, x)) → b = true → v = x := fun b x e => by cases e
theorem vlen0 {l : List Value} (h : l.length = 0) : l = [] := List.length_eq_zero_iff.1 h
theorem vlen1 {l : List Value} (h : l.length = 1) : ∃ a, l = [a] := by
 match l, h with
 | [a], _ => exact ⟨a, rfl⟩
theorem vlen2 {l : List Value} (h : l.length = 2) : ∃ a b, l = [a, b] := by
 match l, h with
 | [a, b], _ => exact ⟨a, b, rfl⟩
theorem vlen3 {l : List Value} (h : l.length = 3) : ∃ a b c, l = [a, b, c] := by
 match l, h with
 | [a, b, c], _ => exact ⟨a, b, c, rfl⟩
theorem vlen4 {l : List Value} (h : l.length = 4) : ∃ a b c d, l = [a, b, c, d] := by
 match l, h with
 | [a, b, c, d], _ => exact ⟨a, b, c, d, rfl⟩
theorem vlen5 {l : List Value} (h : l.length = 5) : ∃ a b c d e, l = [a, b, c, d, e] := by
 match l, h with
 | [a, b, c, d, e], _ => exact ⟨a, b, c, d, e, rfl⟩
theorem WC.seqV {id : Nat} {dr : Bool} {Q : Exit → Act → World → Prop} {n : Fr} {K : Known} {w : World} (l : List (Bool × SpS S)) (K0 : Known) (chain : List Nat) (cv : List (Option (Bool × Value))) (GV : List Value → World → Prop) (hGV : ∀ vals w w', Below w.heap.size w w' → GV vals w → GV vals w') (hnd : chain.Nodup)
  (hs : subK K0 K) (hclear : clearB ops K0 = true) (hm : P.follows .mixedOrders = true) (hB : opsB ops n.n = true) (hin : (chain.all fun c => Nat.blt c ops.size) = true) (h0 : GV [] w)
  (h : SeqV P ops Q l chain cv GV n K0 K w 0 ops.toList)
  (hQ : ∀ (a : Act) (w' : World) (vals : List Value), Kn n K0 a → vals.length = chain.length → GV vals w' → Chg S w w' → (∀ i d, (ops[i]?).bind (·.dst) = some d → chain.contains i = false → optS l i (a.tmps.getD d undef) w') → (∀ (p c d : Nat), chain[p]? = some c → (ops[c]?).bind (·.dst) = some d → vals[p]? = some (a.tmps.getD d undef)) → (∀ (p c d : Nat) b x, chain[p]? = some c → (ops[c]?).bind (·.dst) = some d → cv[p]? = some (some (b, x)) → b = true → a.tmps.getD d undef = x) → Q .normal a w') :
  WC P n K w (.region id ops dr) Q := by
 refine WC.genQ chain (optS l) (Chg S) (GH S w chain.length cv GV) K0 hs hclear hm hB hnd hin (optSKeep l) ?_ (h.gen hGV) (fun a w' vs hk hlen hall hG hu hl => ?_)
 ·refine ⟨[], Nat.zero_le _, by simp [Vals], ?_, ?_, fun q b x _ _ v hv => (nomatch hv)⟩
  ·cases dr with
   | true => exact hGV _ _ _ (Below.refl _ _).drew h0
   | false => exact h0
  ·cases dr with
   | true => exact .ofBelow (Below.refl _ _).drew
   | false => exact .ofBelow (Below.refl _ _)
 ·obtain ⟨vals, k1, k2, k3, k4, k5⟩ := hG
  have hlv : vals.length = chain.length := by
   rcases Nat.lt_or_ge vals.length chain.length with c | c
   ·obtain ⟨v, hv⟩ := hall vals.length c
    have h6 := (List.getElem?_eq_some_iff.1 (vals_some (k2 ▸ hv))).1
    omega
   ·omega
  have hv : ∀ (p c d : Nat), chain[p]? = some c → (ops[c]?).bind (·.dst) = some d → vals[p]? = some (a.tmps.getD d undef) := fun p c d z1 z2 => vals_some (k2 ▸ hl p c d z1 z2)
  exact hQ a w' vals hk hlv k3 k4 hu hv (fun p c d b x z1 z2 z3 z4 => k5 p b x z3 z4 _ (hv p c d z1 z2))
end
end Go.Proofs.Ytnmopmdpnpcdhaa

/- The search for places: the program. -/
namespace Go.Proofs.Ytnmopmdpnpcdhaa
open Go.RowKit Go
set_option linter.unusedVariables false
set_option linter.unusedSimpArgs false
set_option maxRecDepth 100000 in
theorem into_any (w0 : World) (C0 A : Nat → Prop) (g gu gm : Nat) (cl d : List Li) (ca da : Option Addr) (cc dc : Nat) (hne : g ≠ gu) (hA : ∀ b, A b → ¬ FF w0 C0 g gu b) (hcl : InRow eltL A w0 cl ca) (hd : InRow eltL A w0 d da) (hz : ∀ x ∈ cl, x.l.size ≤ 300 ∧ x.r.size ≤ 300) (hzd : ∀ x ∈ d, x.l.size ≤ 300 ∧ x.r.size ≤ 300) (hcn : cl.length ≤ 20) (hdn : d.length ≤ 20) :
  ∀ (r i : Nat), r + i = cl.length → ∀ (us : List Bool) (st : List Bd) (n : Nat) (w : World), us.length = d.length → n ≤ 20000 → st.length ≤ 600 * (i + 1) → Now w0 C0 g gu w → MatG w0 C0 g gu gm st w → URow w gu 4 us → Blk w g 81 #[.slice ca cl.length cc, .slice da d.length dc, .slice ((some ⟨gu, 0, none⟩)) d.length d.length, .pointer (some ⟨gm, 0, none⟩), .int .i64 (((n : Nat) : Int))] →
   Calls Try.prog 38 #[.pointer (some ⟨g, 0, none⟩), .int .i64 (i : Int)] w (Ret fun v' w' => (v' = .bool (into d (cl.drop i) us st n).1 ∧ ((into d (cl.drop i) us st n).1 = false → MatG w0 C0 g gu gm st w' ∧ URow w' gu 4 us ∧ Blk w' g 81 #[.slice ca cl.length cc, .slice da d.length dc, .slice ((some ⟨gu, 0, none⟩)) d.length d.length, .pointer (some ⟨gm, 0, none⟩), .int .i64 ((((into d (cl.drop i) us st n).2 : Nat) : Int))])) ∧ (Now w0 C0 g gu w' ∧ w.heap.size ≤ w'.heap.size)) := by
 refine fun r => Nat.strongRecOn r (fun r ih => ?_)
 intro i hri us st n w hul hn hst hw hgo hU hB
 refine Calls.walk (l := [.pointer (some ⟨g, 0, none⟩), .int .i64 (((i : Nat) : Int))]) Try.func38 rfl (by kernel_rfl) ?_
 refine WC.sub (K' := [(0, .pointer (some ⟨g, 0, none⟩)), (1, .int .i64 (((i : Nat) : Int)))]) ⟨rfl, rfl, trivial⟩ ?_
 refine WC.seq (WC.region (WL.asg rfl rfl rfl rfl rfl (WL.nil (WE.next (WC.scope rfl (WC.seq (WC.seq (WC.region (WL.mv rfl rfl rfl rfl rfl (WL.mv rfl rfl rfl rfl rfl ?_))))))))))
 refine WL.val _ rfl rfl rfl (fun za zC zh zk => nilCheck_ rfl (zh.ev rfl) zk) ?_
 refine WL.val _ rfl rfl rfl (fun za zC zh zk => fld_81_0 rfl (zh.ev rfl) zk) ?_
 refine WL.val _ rfl rfl rfl (fun za zC zh zk => ld_29 rfl (zh.ev rfl) ((hB.cell 0).trans rfl) zk) ?_
 refine WL.val (.int .i64 (((cl.length : Nat) : Int))) rfl rfl rfl (fun za zC zh zk => len_29 rfl (zh.ev rfl) zk) ?_
 refine WL.val (.bool (((((i : Nat) : Int) : Int) == (((cl.length : Nat) : Int) : Int)))) rfl rfl rfl (fun za zC zh zk => eql_3 rfl (zh.ev rfl) (zh.ev rfl) zk) ?_
 refine WL.nil (WE.next ?_)
 refine WC.cond rfl (fun h1 => ?_) (fun h1 => ?_)
 ·have h1 : (((i : Nat) : Int) : Int) = (((cl.length : Nat) : Int) : Int) := by simpa using h1
  refine WC.seq (WC.region (WL.asg rfl rfl rfl rfl rfl (WL.nil (WE.next (WC.ret (WE.thenRet (WE.scopeRet (WE.ret1 rfl rfl ?_))))))))
  have hT : (into d (cl.drop i) us st n).1 = true := by rw [into_nil (by omega)]
  exact ⟨_, rfl, ⟨by rw [hT], fun h => by rw [hT] at h; cases h⟩, ⟨hw, (Nat.le_refl _)⟩⟩
 ·have h1 : ¬ ((((i : Nat) : Int) : Int) = (((cl.length : Nat) : Int) : Int)) := by simpa using h1
  refine WC.skip (WE.next (WC.seq (WC.label (WE.next (WC.seq (WC.seq (WC.region (WL.mv rfl rfl rfl rfl rfl ?_))))))))
  refine WL.val _ rfl rfl rfl (fun za zC zh zk => nilCheck_ rfl (zh.ev rfl) zk) ?_
  refine WL.val _ rfl rfl rfl (fun za zC zh zk => fld_81_1 rfl (zh.ev rfl) zk) ?_
  refine WL.val _ rfl rfl rfl (fun za zC zh zk => ld_29 rfl (zh.ev rfl) ((hB.cell 1).trans rfl) zk) ?_
  refine WL.val (.int .i64 (((d.length : Nat) : Int))) rfl rfl rfl (fun za zC zh zk => len_29 rfl (zh.ev rfl) zk) ?_
  refine WL.mv rfl rfl rfl rfl rfl (WL.nil (WE.next (WC.block ?_)))
  have hil : i < cl.length := by omega
  have hR0 := into_cons (d := d) hil us st n
  have hz1 := hz _ (lget_mem hil)
  refine WC.loop (X := Nat × Nat) (fun x => d.length - x.1) (fun x => [(0, .pointer (some ⟨g, 0, none⟩)), (1, .int .i64 (((i : Nat) : Int))), (15, .bool (((((i : Nat) : Int) : Int) == (((cl.length : Nat) : Int) : Int)))), (20, .int .i64 (((d.length : Nat) : Int))), (21, .int .i64 (((x.1 : Nat) : Int)))]) (fun x w2 => x.1 ≤ d.length ∧ x.2 ≤ 20000 ∧ (into d (cl.drop i) us st n) = intoL d (lget cl i) us st (into d (cl.drop (i + 1))) (chs (d.length - x.1) x.1) x.2 ∧ w.heap.size ≤ (w2).heap.size ∧ Blk w2 g 81 #[.slice ca cl.length cc, .slice da d.length dc, .slice ((some ⟨gu, 0, none⟩)) d.length d.length, .pointer (some ⟨gm, 0, none⟩), .int .i64 (((x.2 : Nat) : Int))] ∧ MatG w0 C0 g gu gm st (w2) ∧ URow (w2) gu 4 us ∧ Now w0 C0 g gu (w2)) ((0, n)) ⟨rfl, rfl, rfl, rfl, rfl, trivial⟩ ?_ ?_
  ·exact ⟨Nat.zero_le _, hn, hR0, (Nat.le_refl _), hB, hgo, hU, hw⟩
  ·rintro x w2 ⟨hj, hn2, hR, hsz0, hB3, ho4, ho5, ho6⟩
   refine WC.seq (WC.region ?_)
   refine WL.val (.bool ((decide ((((x.1 : Nat) : Int) : Int) < (((d.length : Nat) : Int) : Int))))) rfl rfl rfl (fun za zC zh zk => lss_3 rfl (zh.ev rfl) (zh.ev rfl) zk) ?_
   refine WL.nil (WE.next (WC.seq ?_))
   refine WC.cond rfl (fun h7 => ?_) (fun h7 => ?_)
   ·have h7 : (((x.1 : Nat) : Int) : Int) < (((d.length : Nat) : Int) : Int) := by simpa using h7
    refine WC.skip (WE.next (WC.seq (WC.block (WC.seq (WC.region (WL.mv rfl rfl rfl rfl rfl (WL.asg rfl rfl rfl rfl rfl (WL.nil (WE.next (WC.seq (WC.seq (WC.region (WL.mv rfl rfl rfl rfl rfl ?_)))))))))))))
    refine WL.val _ rfl rfl rfl (fun za zC zh zk => nilCheck_ rfl (zh.ev rfl) zk) ?_
    refine WL.val _ rfl rfl rfl (fun za zC zh zk => fld_81_2 rfl (zh.ev rfl) zk) ?_
    refine WL.val _ rfl rfl rfl (fun za zC zh zk => ld_37 rfl (zh.ev rfl) ((hB3.cell 2).trans rfl) zk) ?_
    refine WL.mv rfl rfl rfl rfl rfl ?_
    refine WL.val _ rfl rfl rfl (fun za zC zh zk => ix_37 (k := x.1) rfl (zh.ev rfl) rfl (zh.ev rfl) (by first | omega | (simp; omega)) zk) ?_
    refine WL.val _ rfl rfl rfl (fun za zC zh zk => ld_4 rfl (zh.ev rfl) (URow.at0 ho5 (by simp [hul]; omega)) zk) ?_
    refine WL.nil (WE.next ?_)
    refine WC.cond rfl (fun h8 => ?_) (fun h8 => ?_)
    ·skip
     refine WC.exit (WE.thenExit (WE.blockIs rfl (WE.next (WC.region ?_))))
     refine WL.val (.int .i64 ((((x.1 + 1) : Nat) : Int))) rfl rfl rfl (fun za zC zh zk => addb_3 rfl (zh.ev rfl) (zh.ev rfl) (wrap_eq (by omega) (by omega) (by omega)) zk) ?_
     refine WL.mv rfl rfl rfl rfl rfl (WL.nil ?_)
     refine WE.round ((x.1 + 1, x.2)) ⟨rfl, rfl, rfl, rfl, rfl, trivial⟩ ?_ ?_
     ·exact ⟨by (try dsimp only at *); omega, hn2, by (try dsimp only); rw [hR, show d.length - x.1 = (d.length - (x.1 + 1)) + 1 by omega, intoL_used (h8)], hsz0, hB3, ho4, ho5, ho6⟩
     ·(try dsimp only at *); omega
    ·skip
     refine WC.skip (WE.next (WC.seq (WC.region ?_)))
     refine WL.val (.agg #[.bool false, .bool true]) rfl rfl rfl (fun za zC zh zk => build_76_0_1 rfl (zh.ev rfl) (zh.ev rfl) zk) ?_
     refine WL.mv rfl rfl rfl rfl rfl (WL.nil (WE.next (WC.block ?_)))
     have hus9 : us.getD x.1 false = false := by simpa using h8
     have hjl : x.1 < d.length := by (try dsimp only at *); omega
     have hz2 := hzd _ (lget_mem hjl)
     refine WC.loop (X := Nat × Nat) (fun y => 2 - y.1) (fun y => [(0, .pointer (some ⟨g, 0, none⟩)), (1, .int .i64 (((i : Nat) : Int))), (5, .int .i64 (((x.1 : Nat) : Int))), (15, .bool (((((i : Nat) : Int) : Int) == (((cl.length : Nat) : Int) : Int)))), (20, .int .i64 (((d.length : Nat) : Int))), (21, .int .i64 (((x.1 : Nat) : Int))), (22, .bool ((decide ((((x.1 : Nat) : Int) : Int) < (((d.length : Nat) : Int) : Int))))), (30, .bool ((us.getD x.1 false))), (31, .agg #[.bool false, .bool true]), (32, .int .i64 (((y.1 : Nat) : Int)))]) (fun y w9 => y.1 ≤ 2 ∧ y.2 ≤ 20000 ∧ (into d (cl.drop i) us st n) = intoL d (lget cl i) us st (into d (cl.drop (i + 1))) (rk y.1 x.1 (d.length - (x.1 + 1))) y.2 ∧ w.heap.size ≤ (w9).heap.size ∧ Blk w9 g 81 #[.slice ca cl.length cc, .slice da d.length dc, .slice ((some ⟨gu, 0, none⟩)) d.length d.length, .pointer (some ⟨gm, 0, none⟩), .int .i64 (((y.2 : Nat) : Int))] ∧ MatG w0 C0 g gu gm st (w9) ∧ URow (w9) gu 4 us ∧ Now w0 C0 g gu (w9)) ((0, x.2)) ⟨rfl, rfl, rfl, rfl, rfl, rfl, rfl, rfl, rfl, rfl, trivial⟩ ?_ ?_
     ·exact ⟨Nat.zero_le _, hn2, by (try dsimp only); rw [hR, show d.length - x.1 = (d.length - (x.1 + 1)) + 1 by omega, rk_0], hsz0, hB3, ho4, ho5, ho6⟩
     ·rintro y w9 ⟨hk2, hn3, hS, hsz1, hB10, ho11, ho12, ho13⟩
      refine WC.seq (WC.region ?_)
      refine WL.val (.bool ((decide ((((y.1 : Nat) : Int) : Int) < (2 : Int))))) rfl rfl rfl (fun za zC zh zk => lss_3 rfl (zh.ev rfl) (zh.ev rfl) zk) ?_
      refine WL.nil (WE.next (WC.seq ?_))
      refine WC.cond rfl (fun h14 => ?_) (fun h14 => ?_)
      ·have h14 : (((y.1 : Nat) : Int) : Int) < (2 : Int) := by simpa using h14
       have hk3 : y.1 < 2 := by (try dsimp only at *); omega
       refine WC.skip (WE.next (WC.seq (WC.block (WC.seq (WC.region ?_)))))
       refine WL.val (.bool ((bif decide (y.1 = 0) then false else true))) rfl rfl rfl (fun za zC zh zk => aix_76 (k := y.1) rfl (zh.ev rfl) (zh.ev rfl) (by first | omega | (simp; omega)) zk) ?_
       refine WL.asg rfl rfl rfl rfl rfl (WL.nil (WE.next (WC.seq (WC.seq (WC.region (WL.mv rfl rfl rfl rfl rfl ?_))))))
       refine WL.val _ rfl rfl rfl (fun za zC zh zk => nilCheck_ rfl (zh.ev rfl) zk) ?_
       refine WL.val _ rfl rfl rfl (fun za zC zh zk => fld_81_4 rfl (zh.ev rfl) zk) ?_
       refine WL.val _ rfl rfl rfl (fun za zC zh zk => ld_3 rfl (zh.ev rfl) ((hB10.cell 4).trans rfl) zk) ?_
       refine WL.val (.int .i64 ((((y.2 + 1) : Nat) : Int))) rfl rfl rfl (fun za zC zh zk => addb_3 rfl (zh.ev rfl) (zh.ev rfl) (wrap_eq (by omega) (by omega) (by omega)) zk) ?_
       refine WL.val _ rfl rfl rfl (fun za zC zh zk => nilCheck_ rfl (zh.ev rfl) zk) ?_
       refine WL.val _ rfl rfl rfl (fun za zC zh zk => fld_81_4 rfl (zh.ev rfl) zk) ?_
       refine WL.step (post := fun _ w' => Upd g w9 w' ∧ Blk w' g 81 #[.slice ca cl.length cc, .slice da d.length dc, .slice ((some ⟨gu, 0, none⟩)) d.length d.length, .pointer (some ⟨gm, 0, none⟩), .int .i64 ((((y.2 + 1) : Nat) : Int))]) rfl rfl rfl (fun za zC zh zk => st_3 rfl (zh.ev rfl) (zh.ev rfl) hB10 (by first | decide | simp) (fun v => zk v _ ⟨Upd.at_ _ _ _ _, hB10.set_ 4 _⟩)) ?_
       rintro v18 w15 ⟨hu16, hB17⟩
       have hgo19 := MatG.chg ho11 (Chg.ofUpd (S := fun b => b = g) hu16 rfl) (fun b q e => q.2.1 e)
       have hw21 := Now.chg ho13 (Chg.ofUpd (S := fun b => b = g) hu16 rfl) (fun b e => .inl e)
       have hU20 := URow.chg ho12 (Chg.ofUpd (S := fun b => b = g) hu16 rfl) (fun e => hne e.symm)
       refine WL.nil (WE.next (WC.seq (WC.region (WL.mv rfl rfl rfl rfl rfl ?_))))
       refine WL.val _ rfl rfl rfl (fun za zC zh zk => nilCheck_ rfl (zh.ev rfl) zk) ?_
       refine WL.val _ rfl rfl rfl (fun za zC zh zk => fld_81_4 rfl (zh.ev rfl) zk) ?_
       refine WL.val _ rfl rfl rfl (fun za zC zh zk => ld_3 rfl (zh.ev rfl) ((hB17.cell 4).trans rfl) zk) ?_
       refine WL.val (.bool ((decide ((10000 : Int) < ((((y.2 + 1) : Nat) : Int) : Int))))) rfl rfl rfl (fun za zC zh zk => gtr_3 rfl (zh.ev rfl) (zh.ev rfl) zk) ?_
       refine WL.nil (WE.next ?_)
       refine WC.cond rfl (fun h22 => ?_) (fun h22 => ?_)
       ·have h22 : (10000 : Int) < ((((y.2 + 1) : Nat) : Int) : Int) := by simpa using h22
        have hno : 10000 < y.2 + 1 := by (try dsimp only at *); omega
        refine WC.seq (WC.region (WL.asg rfl rfl rfl rfl rfl (WL.nil (WE.next (WC.ret (WE.thenRet (WE.blockRet (WE.thenRet (WE.thenRet (WE.blockRet (WE.blockRet (WE.thenRet (WE.thenRet (WE.blockRet (WE.thenRet (WE.scopeRet (WE.ret1 rfl rfl ?_)))))))))))))))))
        have hF : (into d (cl.drop i) us st n) = (false, y.2 + 1) := by rw [hS]; exact rk_much hk3 hus9 hno
        exact ⟨_, rfl, ⟨by rw [hF], fun _ => ⟨hgo19, hU20, by rw [hF]; exact hB17⟩⟩, ⟨hw21, (Nat.le_trans hsz1 (Nat.le_of_eq hu16.size.symm))⟩⟩
       ·have h22 : ¬ ((10000 : Int) < ((((y.2 + 1) : Nat) : Int) : Int)) := by simpa using h22
        have hno : ¬ 10000 < y.2 + 1 := by (try dsimp only at *); omega
        refine WC.skip (WE.next (WC.seq (WC.region (WL.mv rfl rfl rfl rfl rfl ?_))))
        refine WL.val _ rfl rfl rfl (fun za zC zh zk => nilCheck_ rfl (zh.ev rfl) zk) ?_
        refine WL.val _ rfl rfl rfl (fun za zC zh zk => fld_81_3 rfl (zh.ev rfl) zk) ?_
        refine WL.val _ rfl rfl rfl (fun za zC zh zk => ld_78 rfl (zh.ev rfl) ((hB17.cell 3).trans rfl) zk) ?_
        refine WL.call rfl rfl rfl (fun za zh zC => wp_call (by kernel_rfl) rfl (hv1 (zh.ev rfl))) (mark_g hgo19) ?_
        rintro _ w24 ⟨rfl, hq23⟩
        refine WL.asg rfl rfl rfl rfl rfl (WL.nil (WE.next (WC.seq (WC.seq ?_))))
        have ho25 := hgo19.below hq23
        have ho26 := hU20.below hq23
        have hB27 := hB17.below hq23
        have ho28 := hw21.below hq23
        have hgl9 : g < w24.heap.size := hB27.lt
        have hul9 : gu < w24.heap.size := Blk.lt ho26
        have hwl9 : w0.heap.size ≤ w24.heap.size := Chg.size ho28
        have hN37 := InRow.now hcl ho28 hA
        obtain ⟨b29, o30, A31, C32, A33, C34, ha35, hc36⟩ := InRow.openL hN37
        have hAbca : i < cl.length → ∀ e, FF w0 C0 g gu e → b29 ≠ e := fun hk e he eb => hA b29 (InRow.inS hN37 hk (ha35 _ hk)) (eb ▸ he)
        have hN46 := InRow.now hd ho28 hA
        obtain ⟨b38, o39, A40, C41, A42, C43, ha44, hc45⟩ := InRow.openL hN46
        have hAbda : x.1 < d.length → ∀ e, FF w0 C0 g gu e → b38 ≠ e := fun hk e he eb => hA b38 (InRow.inS hN46 hk (ha44 _ hk)) (eb ▸ he)
        refine WC.seqV (S := ((Apart w0 C0 g gu))) [(true, .val (.pointer (some ⟨g, 0, none⟩))), (true, .val (.pointer (some ⟨g, 0, none⟩))), (true, .val (.pointer (some ⟨g, 3, none⟩))), (true, .val (.pointer (some ⟨gm, 0, none⟩))), (true, .val (.pointer (some ⟨g, 0, none⟩))), (true, .val (.pointer (some ⟨g, 0, none⟩))), (true, .val (.pointer (some ⟨g, 0, none⟩))), (true, .val (.slice ca cl.length cc)), (true, .val (.int .i64 (((i : Nat) : Int)))), (true, .val (.pointer (some ⟨b29, o30 + i * 5, none⟩))), (true, .val (.agg #[.bool ((lget cl i).neg), .int .i64 ((lget cl i).l.f), .slice ((A31 i)) ((lget cl i).l.args.length) ((C32 i)), .int .i64 ((lget cl i).r.f), .slice ((A33 i)) ((lget cl i).r.args.length) ((C34 i))])), (true, .val (.pointer (some ⟨g, 0, none⟩))), (true, .val (.pointer (some ⟨g, 0, none⟩))), (true, .val (.pointer (some ⟨g, 1, none⟩))), (true, .val (.slice da d.length dc)), (true, .val (.int .i64 (((x.1 : Nat) : Int)))), (true, .val (.pointer (some ⟨b38, o39 + x.1 * 5, none⟩))), (true, .val (.agg #[.bool ((lget d x.1).neg), .int .i64 ((lget d x.1).l.f), .slice ((A40 x.1)) ((lget d x.1).l.args.length) ((C41 x.1)), .int .i64 ((lget d x.1).r.f), .slice ((A42 x.1)) ((lget d x.1).r.args.length) ((C43 x.1))])), (true, .val (.bool ((bif decide (y.1 = 0) then false else true)))), (true, .val undef)] [(0, .pointer (some ⟨g, 0, none⟩)), (1, .int .i64 (((i : Nat) : Int))), (5, .int .i64 (((x.1 : Nat) : Int))), (7, .bool ((bif decide (y.1 = 0) then false else true))), (8, .int .i64 (((st.length : Nat) : Int))), (15, .bool (((((i : Nat) : Int) : Int) == (((cl.length : Nat) : Int) : Int)))), (20, .int .i64 (((d.length : Nat) : Int))), (21, .int .i64 (((x.1 : Nat) : Int))), (22, .bool ((decide ((((x.1 : Nat) : Int) : Int) < (((d.length : Nat) : Int) : Int))))), (30, .bool ((us.getD x.1 false))), (31, .agg #[.bool false, .bool true]), (32, .int .i64 (((y.1 : Nat) : Int))), (33, .bool ((decide ((((y.1 : Nat) : Int) : Int) < (2 : Int))))), (46, .bool ((decide ((10000 : Int) < ((((y.2 + 1) : Nat) : Int) : Int)))))] [19] [some (true, .bool ((lOk (lget cl i) (lget d x.1) (bif decide (y.1 = 0) then false else true) st)))] (fun vs wz => match vs with | [] => MatG w0 C0 g gu gm st wz | _ => MatG w0 C0 g gu gm (lTo (lget cl i) (lget d x.1) (bif decide (y.1 = 0) then false else true) st) wz) ((fun vs w w' hb h => by
         match vs, h with
         | [], h => exact MatG.below h hb
         | _ :: _, h => exact MatG.below h hb)) (by decide) ⟨rfl, rfl, rfl, rfl, rfl, rfl, rfl, rfl, rfl, rfl, rfl, rfl, rfl, rfl, trivial⟩ (by kernel_rfl) (by kernel_rfl) (by kernel_rfl) (by kernel_rfl) ho25 ?_ ?_
        ·refine ⟨.inl ⟨rfl, true, .none rfl, (fun gg b h => by cases h), fun h w => optUndef h, fun zβ za zw zc => ?_⟩, ?_⟩
         ·exact wp_move rfl (zc.kn.ev rfl) ⟨_, rfl, Below.refl _ _, optDef zβ rfl⟩
         refine ⟨.inl ⟨rfl, true, .none rfl, (fun gg b h => by cases h), fun h w => optUndef h, fun zβ za zw zc => ?_⟩, ?_⟩
         ·exact nilCheck_ rfl ((evt za 52).trans (optSVal (zc.dep 0 52 (by kernel_rfl) (by decide)) rfl rfl)) ⟨_, rfl, Below.refl _ _, optDef zβ rfl⟩
         refine ⟨.inl ⟨rfl, true, .none rfl, (fun gg b h => by cases h), fun h w => optUndef h, fun zβ za zw zc => ?_⟩, ?_⟩
         ·exact fld_81_3 rfl ((evt za 53).trans (optSVal (zc.dep 1 53 (by kernel_rfl) (by decide)) rfl rfl)) ⟨_, rfl, Below.refl _ _, optDef zβ rfl⟩
         refine ⟨.inl ⟨rfl, true, .none rfl, (fun gg b h => by cases h), fun h w => optUndef h, fun zβ za zw zc => ?_⟩, ?_⟩
         ·exact ld_78 rfl ((evt za 54).trans (optSVal (zc.dep 2 54 (by kernel_rfl) (by decide)) rfl rfl)) (chg_cell zc.chg (by first | exact fun e => e.2.1 rfl | exact fun e => hAbca (by omega) _ (Apart.ff e) rfl | exact fun e => hAbda (by omega) _ (Apart.ff e) rfl) ((hB27.cell 3).trans rfl)) ⟨_, rfl, Below.refl _ _, optDef zβ rfl⟩
         refine ⟨.inl ⟨rfl, true, .none rfl, (fun gg b h => by cases h), fun h w => optUndef h, fun zβ za zw zc => ?_⟩, ?_⟩
         ·exact wp_move rfl (zc.kn.ev rfl) ⟨_, rfl, Below.refl _ _, optDef zβ rfl⟩
         refine ⟨.inl ⟨rfl, true, .none rfl, (fun gg b h => by cases h), fun h w => optUndef h, fun zβ za zw zc => ?_⟩, ?_⟩
         ·exact nilCheck_ rfl ((evt za 56).trans (optSVal (zc.dep 4 56 (by kernel_rfl) (by decide)) rfl rfl)) ⟨_, rfl, Below.refl _ _, optDef zβ rfl⟩
         refine ⟨.inl ⟨rfl, true, .none rfl, (fun gg b h => by cases h), fun h w => optUndef h, fun zβ za zw zc => ?_⟩, ?_⟩
         ·exact fld_81_0 rfl ((evt za 57).trans (optSVal (zc.dep 5 57 (by kernel_rfl) (by decide)) rfl rfl)) ⟨_, rfl, Below.refl _ _, optDef zβ rfl⟩
         refine ⟨.inl ⟨rfl, true, .none rfl, (fun gg b h => by cases h), fun h w => optUndef h, fun zβ za zw zc => ?_⟩, ?_⟩
         ·exact ld_29 rfl ((evt za 58).trans (optSVal (zc.dep 6 58 (by kernel_rfl) (by decide)) rfl rfl)) (chg_cell zc.chg (by first | exact fun e => e.2.1 rfl | exact fun e => hAbca (by omega) _ (Apart.ff e) rfl | exact fun e => hAbda (by omega) _ (Apart.ff e) rfl) ((hB27.cell 0).trans rfl)) ⟨_, rfl, Below.refl _ _, optDef zβ rfl⟩
         refine ⟨.inl ⟨rfl, true, .none rfl, (fun gg b h => by cases h), fun h w => optUndef h, fun zβ za zw zc => ?_⟩, ?_⟩
         ·exact wp_move rfl (zc.kn.ev rfl) ⟨_, rfl, Below.refl _ _, optDef zβ rfl⟩
         refine ⟨.inl ⟨rfl, true, .none rfl, (fun gg b h => by cases h), fun h w => optUndef h, fun zβ za zw zc => ?_⟩, ?_⟩
         ·exact ix_29 (k := i) rfl ((evt za 59).trans (optSVal (zc.dep 7 59 (by kernel_rfl) (by decide)) rfl rfl)) (ha35 i (by first | omega | (simp; omega))) ((evt za 60).trans (optSVal (zc.dep 8 60 (by kernel_rfl) (by decide)) rfl rfl)) (by first | omega | (simp; omega)) ⟨_, rfl, Below.refl _ _, optDef zβ rfl⟩
         refine ⟨.inl ⟨rfl, true, .none rfl, (fun gg b h => by cases h), fun h w => optUndef h, fun zβ za zw zc => ?_⟩, ?_⟩
         ·exact ld_60 rfl ((evt za 61).trans (optSVal (zc.dep 9 61 (by kernel_rfl) (by decide)) rfl rfl)) (chg_cell zc.chg (by first | exact fun e => e.2.1 rfl | exact fun e => hAbca (by omega) _ (Apart.ff e) rfl | exact fun e => hAbda (by omega) _ (Apart.ff e) rfl) (hc36 i (by first | omega | (simp; omega))).1) (chg_cell zc.chg (by first | exact fun e => e.2.1 rfl | exact fun e => hAbca (by omega) _ (Apart.ff e) rfl | exact fun e => hAbda (by omega) _ (Apart.ff e) rfl) (hc36 i (by first | omega | (simp; omega))).2.1) (chg_cell zc.chg (by first | exact fun e => e.2.1 rfl | exact fun e => hAbca (by omega) _ (Apart.ff e) rfl | exact fun e => hAbda (by omega) _ (Apart.ff e) rfl) (hc36 i (by first | omega | (simp; omega))).2.2.1) (chg_cell zc.chg (by first | exact fun e => e.2.1 rfl | exact fun e => hAbca (by omega) _ (Apart.ff e) rfl | exact fun e => hAbda (by omega) _ (Apart.ff e) rfl) (hc36 i (by first | omega | (simp; omega))).2.2.2.1) (chg_cell zc.chg (by first | exact fun e => e.2.1 rfl | exact fun e => hAbca (by omega) _ (Apart.ff e) rfl | exact fun e => hAbda (by omega) _ (Apart.ff e) rfl) (hc36 i (by first | omega | (simp; omega))).2.2.2.2.1) ⟨_, rfl, Below.refl _ _, optDef zβ rfl⟩
         refine ⟨.inl ⟨rfl, true, .none rfl, (fun gg b h => by cases h), fun h w => optUndef h, fun zβ za zw zc => ?_⟩, ?_⟩
         ·exact wp_move rfl (zc.kn.ev rfl) ⟨_, rfl, Below.refl _ _, optDef zβ rfl⟩
         refine ⟨.inl ⟨rfl, true, .none rfl, (fun gg b h => by cases h), fun h w => optUndef h, fun zβ za zw zc => ?_⟩, ?_⟩
         ·exact nilCheck_ rfl ((evt za 63).trans (optSVal (zc.dep 11 63 (by kernel_rfl) (by decide)) rfl rfl)) ⟨_, rfl, Below.refl _ _, optDef zβ rfl⟩
         refine ⟨.inl ⟨rfl, true, .none rfl, (fun gg b h => by cases h), fun h w => optUndef h, fun zβ za zw zc => ?_⟩, ?_⟩
         ·exact fld_81_1 rfl ((evt za 64).trans (optSVal (zc.dep 12 64 (by kernel_rfl) (by decide)) rfl rfl)) ⟨_, rfl, Below.refl _ _, optDef zβ rfl⟩
         refine ⟨.inl ⟨rfl, true, .none rfl, (fun gg b h => by cases h), fun h w => optUndef h, fun zβ za zw zc => ?_⟩, ?_⟩
         ·exact ld_29 rfl ((evt za 65).trans (optSVal (zc.dep 13 65 (by kernel_rfl) (by decide)) rfl rfl)) (chg_cell zc.chg (by first | exact fun e => e.2.1 rfl | exact fun e => hAbca (by omega) _ (Apart.ff e) rfl | exact fun e => hAbda (by omega) _ (Apart.ff e) rfl) ((hB27.cell 1).trans rfl)) ⟨_, rfl, Below.refl _ _, optDef zβ rfl⟩
         refine ⟨.inl ⟨rfl, true, .none rfl, (fun gg b h => by cases h), fun h w => optUndef h, fun zβ za zw zc => ?_⟩, ?_⟩
         ·exact wp_move rfl (zc.kn.ev rfl) ⟨_, rfl, Below.refl _ _, optDef zβ rfl⟩
         refine ⟨.inl ⟨rfl, true, .none rfl, (fun gg b h => by cases h), fun h w => optUndef h, fun zβ za zw zc => ?_⟩, ?_⟩
         ·exact ix_29 (k := x.1) rfl ((evt za 66).trans (optSVal (zc.dep 14 66 (by kernel_rfl) (by decide)) rfl rfl)) (ha44 x.1 (by first | omega | (simp; omega))) ((evt za 67).trans (optSVal (zc.dep 15 67 (by kernel_rfl) (by decide)) rfl rfl)) (by first | omega | (simp; omega)) ⟨_, rfl, Below.refl _ _, optDef zβ rfl⟩
         refine ⟨.inl ⟨rfl, true, .none rfl, (fun gg b h => by cases h), fun h w => optUndef h, fun zβ za zw zc => ?_⟩, ?_⟩
         ·exact ld_60 rfl ((evt za 68).trans (optSVal (zc.dep 16 68 (by kernel_rfl) (by decide)) rfl rfl)) (chg_cell zc.chg (by first | exact fun e => e.2.1 rfl | exact fun e => hAbca (by omega) _ (Apart.ff e) rfl | exact fun e => hAbda (by omega) _ (Apart.ff e) rfl) (hc45 x.1 (by first | omega | (simp; omega))).1) (chg_cell zc.chg (by first | exact fun e => e.2.1 rfl | exact fun e => hAbca (by omega) _ (Apart.ff e) rfl | exact fun e => hAbda (by omega) _ (Apart.ff e) rfl) (hc45 x.1 (by first | omega | (simp; omega))).2.1) (chg_cell zc.chg (by first | exact fun e => e.2.1 rfl | exact fun e => hAbca (by omega) _ (Apart.ff e) rfl | exact fun e => hAbda (by omega) _ (Apart.ff e) rfl) (hc45 x.1 (by first | omega | (simp; omega))).2.2.1) (chg_cell zc.chg (by first | exact fun e => e.2.1 rfl | exact fun e => hAbca (by omega) _ (Apart.ff e) rfl | exact fun e => hAbda (by omega) _ (Apart.ff e) rfl) (hc45 x.1 (by first | omega | (simp; omega))).2.2.2.1) (chg_cell zc.chg (by first | exact fun e => e.2.1 rfl | exact fun e => hAbca (by omega) _ (Apart.ff e) rfl | exact fun e => hAbda (by omega) _ (Apart.ff e) rfl) (hc45 x.1 (by first | omega | (simp; omega))).2.2.2.2.1) ⟨_, rfl, Below.refl _ _, optDef zβ rfl⟩
         refine ⟨.inl ⟨rfl, true, .none rfl, (fun gg b h => by cases h), fun h w => optUndef h, fun zβ za zw zc => ?_⟩, ?_⟩
         ·exact wp_move rfl (zc.kn.ev rfl) ⟨_, rfl, Below.refl _ _, optDef zβ rfl⟩
         refine ⟨.inr ⟨0, rfl, by kernel_rfl, true, .none rfl, (fun gg b h => by cases h), (fun h => (nomatch h)), fun zβ za zw zvals zc => ?_⟩, ?_⟩
         ·obtain rfl := vlen0 zc.len
          have zn := zc.now
          have hws9 := zc.chg.size
          exact wp_call (by kernel_rfl) rfl (hv4 ((evt za 55).trans (optSVal (zc.dep 3 55 (by kernel_rfl) (by decide)) rfl rfl)) ((evt za 62).trans (optSVal (zc.dep 10 62 (by kernel_rfl) (by decide)) rfl rfl)) ((evt za 69).trans (optSVal (zc.dep 17 69 (by kernel_rfl) (by decide)) rfl rfl)) ((evt za 70).trans (optSVal (zc.dep 18 70 (by kernel_rfl) (by decide)) rfl rfl))) (mlit_g (A := A) (lget cl i) (lget d x.1) (bif decide (y.1 = 0) then false else true) zn (by omega) (by omega) (by omega) (LiIn.chgA (A := A) ⟨_, _, _, _, rfl, (hc36 i hil).2.2.2.2.2.1, (hc36 i hil).2.2.2.2.2.2⟩ zc.chg (fun b q e => hA b q (Apart.ff e))) (LiIn.chgA (A := A) ⟨_, _, _, _, rfl, (hc45 x.1 hjl).2.2.2.2.2.1, (hc45 x.1 hjl).2.2.2.2.2.2⟩ zc.chg (fun b q e => hA b q (Apart.ff e))) hA (by omega) (by omega) (by omega) (by omega) (by omega)) (fun v w' h => ⟨v, rfl, h.2, h.1.2, cvIs h.1.1⟩)
         exact trivial
        ·intro za w47 zvals zh zl hG48 hc49 zu zw zk
         obtain ⟨z0, rfl⟩ := vlen1 zl
         have zh := zh.cons (d := 71) (v := .bool ((lOk (lget cl i) (lget d x.1) (bif decide (y.1 = 0) then false else true) st))) (zk 0 19 71 _ _ rfl (by kernel_rfl) rfl rfl)
         have hw50 := Now.chg ho28 hc49 (fun b e => Apart.ff e)
         have hB51 := chg_blk hB27 hc49 (fun e => e.2.1 rfl)
         have hU52 := URow.chg ho26 hc49 (fun e => e.2.2 rfl)
         clear zu zw zk
         refine WE.go zh ?_
         refine WE.next ?_
         refine WC.cond rfl (fun h53 => ?_) (fun h53 => ?_)
         ·skip
          have hok54 : lOk (lget cl i) (lget d x.1) (bif decide (y.1 = 0) then false else true) st = true := by simpa using h53
          refine WC.seq (WC.region (WL.mv rfl rfl rfl rfl rfl ?_))
          refine WL.val _ rfl rfl rfl (fun za zC zh zk => nilCheck_ rfl (zh.ev rfl) zk) ?_
          refine WL.val _ rfl rfl rfl (fun za zC zh zk => fld_81_2 rfl (zh.ev rfl) zk) ?_
          refine WL.val _ rfl rfl rfl (fun za zC zh zk => ld_37 rfl (zh.ev rfl) ((hB51.cell 2).trans rfl) zk) ?_
          refine WL.mv rfl rfl rfl rfl rfl ?_
          refine WL.val _ rfl rfl rfl (fun za zC zh zk => ix_37 (k := x.1) rfl (zh.ev rfl) rfl (zh.ev rfl) (by first | omega | (simp; omega)) zk) ?_
          refine WL.step (post := fun _ w' => Upd gu w47 w' ∧ URow w' gu 4 (us.set x.1 true)) rfl rfl rfl (fun za zC zh zk => st_4 rfl (zh.ev rfl) (zh.ev rfl) hU52 (by simp [hul]; omega) (fun v => zk v _ ⟨Upd.at_ _ _ _ _, URow.set0 hU52 true (by simp [hul]; omega)⟩)) ?_
          rintro v58 w55 ⟨hu56, hU57⟩
          have hB59 := upd_blk hB51 hu56 (by omega)
          have hgo60 := MatG.chg hG48 (Chg.ofUpd (S := fun b => b = gu) hu56 rfl) (fun b q e => q.2.2 e)
          have hw62 := Now.chg hw50 (Chg.ofUpd (S := fun b => b = gu) hu56 rfl) (fun b e => .inr (.inl e))
          refine WL.nil (WE.sub (K' := [(0, .pointer (some ⟨g, 0, none⟩)), (1, .int .i64 (((i : Nat) : Int))), (5, .int .i64 (((x.1 : Nat) : Int))), (7, .bool ((bif decide (y.1 = 0) then false else true))), (8, .int .i64 (((st.length : Nat) : Int))), (15, .bool (((((i : Nat) : Int) : Int) == (((cl.length : Nat) : Int) : Int)))), (20, .int .i64 (((d.length : Nat) : Int))), (21, .int .i64 (((x.1 : Nat) : Int))), (22, .bool ((decide ((((x.1 : Nat) : Int) : Int) < (((d.length : Nat) : Int) : Int))))), (30, .bool ((us.getD x.1 false))), (31, .agg #[.bool false, .bool true]), (32, .int .i64 (((y.1 : Nat) : Int))), (33, .bool ((decide ((((y.1 : Nat) : Int) : Int) < (2 : Int))))), (46, .bool ((decide ((10000 : Int) < ((((y.2 + 1) : Nat) : Int) : Int))))), (71, .bool ((lOk (lget cl i) (lget d x.1) (bif decide (y.1 = 0) then false else true) st)))]) ⟨rfl, rfl, rfl, rfl, rfl, rfl, rfl, rfl, rfl, rfl, rfl, rfl, rfl, rfl, rfl, trivial⟩ ?_)
          refine WE.next (WC.seq (WC.seq (WC.region (WL.mv rfl rfl rfl rfl rfl (WL.mv rfl rfl rfl rfl rfl ?_)))))
          refine WL.val (.int .i64 ((((i + 1) : Nat) : Int))) rfl rfl rfl (fun za zC zh zk => addb_3 rfl (zh.ev rfl) (zh.ev rfl) (wrap_eq (by omega) (by omega) (by omega)) zk) ?_
          refine WL.call rfl rfl rfl (fun za zh zC => wp_call (by kernel_rfl) rfl (hv2 (zh.ev rfl) (zh.ev rfl))) (ih (r - 1) (by omega) (i + 1) (by omega) (us.set x.1 true) (lTo (lget cl i) (lget d x.1) (bif decide (y.1 = 0) then false else true) st) (y.2 + 1) _ (by simp [hul]) (by omega) (by have z := (lTo_len (p := (lget cl i)) (l := (lget d x.1)) (b := (bif decide (y.1 = 0) then false else true)) (st := st)).2.1; omega) hw62 hgo60 hU57 hB59) ?_
          rintro _ w63 ⟨⟨rfl, hrec⟩, hbr, hszr⟩
          refine WL.nil (WE.next ?_)
          refine WC.cond rfl (fun h64 => ?_) (fun h64 => ?_)
          ·skip
           have hrf65 : (into d (cl.drop (i + 1)) (us.set x.1 true) (lTo (lget cl i) (lget d x.1) (bif decide (y.1 = 0) then false else true) st) (y.2 + 1)).1 = true := by simpa using h64
           refine WC.seq (WC.region (WL.asg rfl rfl rfl rfl rfl (WL.nil (WE.next (WC.ret (WE.thenRet (WE.thenRet (WE.blockRet (WE.thenRet (WE.thenRet (WE.blockRet (WE.blockRet (WE.thenRet (WE.thenRet (WE.blockRet (WE.thenRet (WE.scopeRet (WE.ret1 rfl rfl ?_))))))))))))))))))
           have hT : (into d (cl.drop i) us st n).1 = true := by rw [hS]; exact rk_yes hk3 hus9 hno hok54 hrf65
           exact ⟨_, rfl, ⟨by rw [hT], fun h => by rw [hT] at h; cases h⟩, ⟨hbr, (Nat.le_trans (Nat.le_trans (Nat.le_trans (Nat.le_trans (Nat.le_trans hsz1 (Nat.le_of_eq hu16.size.symm)) hq23.size) hc49.size) (Nat.le_of_eq hu56.size.symm)) hszr)⟩⟩
          ·skip
           have hrf66 : (into d (cl.drop (i + 1)) (us.set x.1 true) (lTo (lget cl i) (lget d x.1) (bif decide (y.1 = 0) then false else true) st) (y.2 + 1)).1 = false := by simpa using h64
           obtain ⟨hgo7, hU7, hB7⟩ := hrec hrf66
           refine WC.skip (WE.next (WC.region (WL.mv rfl rfl rfl rfl rfl ?_)))
           refine WL.val _ rfl rfl rfl (fun za zC zh zk => nilCheck_ rfl (zh.ev rfl) zk) ?_
           refine WL.val _ rfl rfl rfl (fun za zC zh zk => fld_81_2 rfl (zh.ev rfl) zk) ?_
           refine WL.val _ rfl rfl rfl (fun za zC zh zk => ld_37 rfl (zh.ev rfl) ((hB7.cell 2).trans rfl) zk) ?_
           refine WL.mv rfl rfl rfl rfl rfl ?_
           refine WL.val _ rfl rfl rfl (fun za zC zh zk => ix_37 (k := x.1) rfl (zh.ev rfl) rfl (zh.ev rfl) (by first | omega | (simp; omega)) zk) ?_
           refine WL.step (post := fun _ w' => Upd gu w63 w' ∧ URow w' gu 4 ((us.set x.1 true).set x.1 false)) rfl rfl rfl (fun za zC zh zk => st_4 rfl (zh.ev rfl) (zh.ev rfl) hU7 (by simp [hul]; omega) (fun v => zk v _ ⟨Upd.at_ _ _ _ _, URow.set0 hU7 false (by simp [hul]; omega)⟩)) ?_
           rintro v70 w67 ⟨hu68, hU69⟩
           have hB71 := upd_blk hB7 hu68 (by omega)
           have hU72 : URow w67 gu 4 us := by have z := hU69; rwa [set_back (show us.getD x.1 false = false from hus9)] at z
           have hgo73 := MatG.chg hgo7 (Chg.ofUpd (S := fun b => b = gu) hu68 rfl) (fun b q e => q.2.2 e)
           have hw75 := Now.chg hbr (Chg.ofUpd (S := fun b => b = gu) hu68 rfl) (fun b e => .inr (.inl e))
           refine WL.nil (WE.next (WC.region (WL.mv rfl rfl rfl rfl rfl ?_)))
           refine WL.val _ rfl rfl rfl (fun za zC zh zk => nilCheck_ rfl (zh.ev rfl) zk) ?_
           refine WL.val _ rfl rfl rfl (fun za zC zh zk => fld_81_3 rfl (zh.ev rfl) zk) ?_
           refine WL.val _ rfl rfl rfl (fun za zC zh zk => ld_78 rfl (zh.ev rfl) ((hB71.cell 3).trans rfl) zk) ?_
           refine WL.mv rfl rfl rfl rfl rfl ?_
           refine WL.call rfl rfl rfl (fun za zh zC => wp_call (by kernel_rfl) rfl (hv2 (zh.ev rfl) (zh.ev rfl))) (back_g _ hgo73) ?_
           rintro _ w78 ⟨hgo76, hc77⟩
           rw [lTo_back] at hgo76
           have hw79 := Now.chg hw75 hc77 (fun b e => Apart.ff e)
           have hB80 := chg_blk hB71 hc77 (fun e => e.2.1 rfl)
           have hU81 := URow.chg hU72 hc77 (fun e => e.2.2 rfl)
           refine WL.nil (WE.blockNormal (WE.next (WC.region ?_)))
           refine WL.val (.int .i64 ((((y.1 + 1) : Nat) : Int))) rfl rfl rfl (fun za zC zh zk => addb_3 rfl (zh.ev rfl) (zh.ev rfl) (wrap_eq (by omega) (by omega) (by omega)) zk) ?_
           refine WL.mv rfl rfl rfl rfl rfl (WL.nil ?_)
           have hle9 := into_le (d := d) (cl.drop (i + 1)) (us.set x.1 true) (lTo (lget cl i) (lget d x.1) (bif decide (y.1 = 0) then false else true) st) (y.2 + 1)
           have hln9 : (cl.drop (i + 1)).length ≤ 20 := by rw [List.length_drop]; omega
           have hmx9 : Nat.max (y.2 + 1) 10000 = 10000 := Nat.max_eq_right (by omega)
           rw [hmx9] at hle9
           refine WE.round ((y.1 + 1, (into d (cl.drop (i + 1)) (us.set x.1 true) (lTo (lget cl i) (lget d x.1) (bif decide (y.1 = 0) then false else true) st) (y.2 + 1)).2)) ⟨rfl, rfl, rfl, rfl, rfl, rfl, rfl, rfl, rfl, rfl, trivial⟩ ?_ ?_
           ·exact ⟨by (try dsimp only at *); omega, by (try dsimp only at *); omega, by (try dsimp only); rw [hS, rk_back hk3 hus9 hno hok54 hrf66], (Nat.le_trans (Nat.le_trans (Nat.le_trans (Nat.le_trans (Nat.le_trans (Nat.le_trans (Nat.le_trans hsz1 (Nat.le_of_eq hu16.size.symm)) hq23.size) hc49.size) (Nat.le_of_eq hu56.size.symm)) hszr) (Nat.le_of_eq hu68.size.symm)) hc77.size), hB80, hgo76, hU81, hw79⟩
           ·(try dsimp only at *); omega
         ·skip
          have hok82 : lOk (lget cl i) (lget d x.1) (bif decide (y.1 = 0) then false else true) st = false := by simpa using h53
          refine WC.skip (WE.next (WC.region (WL.mv rfl rfl rfl rfl rfl ?_)))
          refine WL.val _ rfl rfl rfl (fun za zC zh zk => nilCheck_ rfl (zh.ev rfl) zk) ?_
          refine WL.val _ rfl rfl rfl (fun za zC zh zk => fld_81_3 rfl (zh.ev rfl) zk) ?_
          refine WL.val _ rfl rfl rfl (fun za zC zh zk => ld_78 rfl (zh.ev rfl) ((hB51.cell 3).trans rfl) zk) ?_
          refine WL.mv rfl rfl rfl rfl rfl ?_
          refine WL.call rfl rfl rfl (fun za zh zC => wp_call (by kernel_rfl) rfl (hv2 (zh.ev rfl) (zh.ev rfl))) (back_g _ hG48) ?_
          rintro _ w85 ⟨hgo83, hc84⟩
          rw [lTo_back] at hgo83
          have hw86 := Now.chg hw50 hc84 (fun b e => Apart.ff e)
          have hB87 := chg_blk hB51 hc84 (fun e => e.2.1 rfl)
          have hU88 := URow.chg hU52 hc84 (fun e => e.2.2 rfl)
          refine WL.nil (WE.sub (K' := [(0, .pointer (some ⟨g, 0, none⟩)), (1, .int .i64 (((i : Nat) : Int))), (5, .int .i64 (((x.1 : Nat) : Int))), (7, .bool ((bif decide (y.1 = 0) then false else true))), (8, .int .i64 (((st.length : Nat) : Int))), (15, .bool (((((i : Nat) : Int) : Int) == (((cl.length : Nat) : Int) : Int)))), (20, .int .i64 (((d.length : Nat) : Int))), (21, .int .i64 (((x.1 : Nat) : Int))), (22, .bool ((decide ((((x.1 : Nat) : Int) : Int) < (((d.length : Nat) : Int) : Int))))), (30, .bool ((us.getD x.1 false))), (31, .agg #[.bool false, .bool true]), (32, .int .i64 (((y.1 : Nat) : Int))), (33, .bool ((decide ((((y.1 : Nat) : Int) : Int) < (2 : Int))))), (46, .bool ((decide ((10000 : Int) < ((((y.2 + 1) : Nat) : Int) : Int))))), (71, .bool ((lOk (lget cl i) (lget d x.1) (bif decide (y.1 = 0) then false else true) st)))]) ⟨rfl, rfl, rfl, rfl, rfl, rfl, rfl, rfl, rfl, rfl, rfl, rfl, rfl, rfl, rfl, trivial⟩ ?_)
          refine WE.blockNormal (WE.next (WC.region ?_))
          refine WL.val (.int .i64 ((((y.1 + 1) : Nat) : Int))) rfl rfl rfl (fun za zC zh zk => addb_3 rfl (zh.ev rfl) (zh.ev rfl) (wrap_eq (by omega) (by omega) (by omega)) zk) ?_
          refine WL.mv rfl rfl rfl rfl rfl (WL.nil ?_)
          refine WE.round ((y.1 + 1, y.2 + 1)) ⟨rfl, rfl, rfl, rfl, rfl, rfl, rfl, rfl, rfl, rfl, trivial⟩ ?_ ?_
          ·exact ⟨by (try dsimp only at *); omega, by (try dsimp only at *); omega, by (try dsimp only); rw [hS, rk_no hk3 hus9 hno hok82], (Nat.le_trans (Nat.le_trans (Nat.le_trans (Nat.le_trans hsz1 (Nat.le_of_eq hu16.size.symm)) hq23.size) hc49.size) hc84.size), hB87, hgo83, hU88, hw86⟩
          ·(try dsimp only at *); omega
      ·have h14 : ¬ ((((y.1 : Nat) : Int) : Int) < (2 : Int)) := by simpa using h14
       refine WC.exit (WE.thenExit (WE.thenExit (WE.blockIs rfl (WE.blockNormal (WE.next (WC.region ?_))))))
       refine WL.val (.int .i64 ((((x.1 + 1) : Nat) : Int))) rfl rfl rfl (fun za zC zh zk => addb_3 rfl (zh.ev rfl) (zh.ev rfl) (wrap_eq (by omega) (by omega) (by omega)) zk) ?_
       refine WL.mv rfl rfl rfl rfl rfl (WL.nil ?_)
       have hy2 : y.1 = 2 := by (try dsimp only at *); omega
       refine WE.round ((x.1 + 1, y.2)) ⟨rfl, rfl, rfl, rfl, rfl, trivial⟩ ?_ ?_
       ·exact ⟨by (try dsimp only at *); omega, hn3, by (try dsimp only); rw [hS, hy2, rk_2], hsz1, hB10, ho11, ho12, ho13⟩
       ·(try dsimp only at *); omega
   ·have h7 : ¬ ((((x.1 : Nat) : Int) : Int) < (((d.length : Nat) : Int) : Int)) := by simpa using h7
    refine WC.exit (WE.thenExit (WE.thenExit (WE.blockIs rfl (WE.next (WC.seq (WC.region (WL.asg rfl rfl rfl rfl rfl (WL.nil (WE.next (WC.ret (WE.scopeRet (WE.ret1 rfl rfl ?_))))))))))))
    have hF : (into d (cl.drop i) us st n) = (false, x.2) := by rw [hR, show d.length - x.1 = 0 by (try dsimp only at *); omega]; rfl
    exact ⟨_, rfl, ⟨by rw [hF], fun _ => ⟨ho4, ho5, by rw [hF]; exact hB3⟩⟩, ⟨ho6, hsz0⟩⟩
end Go.Proofs.Ytnmopmdpnpcdhaa

/- 'append(l[:j:j], l[j+1:]...)': a row without one of its elements. -/
namespace Go.Proofs.Ytnmopmdpnpcdhaa
open Go.RowKit Go
set_option linter.unusedVariables false
set_option linter.unusedSimpArgs false
section
variable {α : Type} {E : Elt α} {S : Nat → Prop} {w : World}
theorem InRow.elts {b : Nat} : ∀ {l : List α} {o : Nat}, InRow E S w l (some ⟨b, o, none⟩) → ∃ xs, Elts E S w l xs ∧ ∀ q u, xs[q]? = some u → w.cell? ⟨b, o + q, none⟩ = some u
  | [], _, _ => ⟨[], rfl, fun q u h => by simp at h⟩
  | x :: l, o, h => by
    obtain ⟨b', o', cs, e, _, h1, h2⟩ := h 0 (by simp)
    simp only [Option.some.injEq, Addr.mk.injEq, and_true] at e
    obtain ⟨rfl, rfl⟩ := e
    have ht : InRow E S w l (some ⟨b, o + E.k, none⟩) := fun i hi => by
      obtain ⟨b', o', c2, e, hS, h3, h4⟩ := h (i + 1) (by simpa using hi)
      simp only [Option.some.injEq, Addr.mk.injEq, and_true] at e
      obtain ⟨rfl, rfl⟩ := e
      refine ⟨b, o + E.k, c2, rfl, hS, by simpa using h3, fun j hj => ?_⟩
      rw [← h4 j hj]; congr 2; rw [Nat.add_mul]; omega
    obtain ⟨xs, h3, h4⟩ := InRow.elts ht
    have hcl := E.len h1
    refine ⟨cs ++ xs, ⟨cs, xs, rfl, h1, h3⟩, fun q u hq => ?_⟩
    rcases Nat.lt_or_ge q cs.length with hlt | hge
    · rw [List.getElem?_append_left hlt] at hq
      rw [← hq, ← h2 q (by omega)]; congr 2; omega
    · rw [List.getElem?_append_right hge] at hq
      rw [← h4 _ _ hq]; congr 2; omega
theorem Elts.app {l q : List α} : ∀ {xs ys : List Value}, Elts E S w l xs → Elts E S w q ys → Elts E S w (l ++ q) (xs ++ ys) := by
  induction l with
  | nil => intro xs ys h k; rw [show xs = [] from h]; exact k
  | cons x l ih =>
    rintro xs ys ⟨cs, r, rfl, h1, h2⟩ k
    exact ⟨cs, r ++ ys, by rw [List.append_assoc], h1, ih h2 k⟩
theorem Elts.inRow {g e : Nat} {l : List α} {xs : List Value} {cs : Array Value} (h : Elts E S w l xs) (hB : Blk w g e cs) (hg : S g) (hx : ∀ (q : Nat) (u : Value), xs[q]? = some u → cs[q]? = some u) : InRow E S w l (some ⟨g, 0, none⟩) := fun i hi => by
  obtain ⟨c, h1, h2⟩ := h.at_ i hi
  refine ⟨g, 0, c, rfl, hg, h1, fun j hj => ?_⟩
  have hlt : j < c.length := by rw [E.len h1]; exact hj
  have z := h2 j hj
  rw [List.getElem?_eq_getElem hlt] at z ⊢
  rw [hB.cell, show 0 + i * E.k + j = i * E.k + j by omega]
  exact hx _ _ z
theorem InRow.take {l : List α} {a : Option Addr} (h : InRow E S w l a) (j : Nat) : InRow E S w (l.take j) a := fun i hi => by
  obtain ⟨b, o, cs, e, hS, h1, h2⟩ := h i (by simp at hi; omega)
  exact ⟨b, o, cs, e, hS, by simpa using h1, h2⟩
theorem InRow.dropS {l : List α} {b o : Nat} (h : InRow E S w l (some ⟨b, o, none⟩)) (j : Nat) : InRow E S w (l.drop j) (some ⟨b, o + j * E.k, none⟩) := fun i hi => by
  simp only [List.length_drop] at hi
  obtain ⟨b', o', cs, e, hS, h1, h2⟩ := h (j + i) (by omega)
  simp only [Option.some.injEq, Addr.mk.injEq, and_true] at e
  obtain ⟨rfl, rfl⟩ := e
  refine ⟨b, o + j * E.k, cs, rfl, hS, by simpa using h1, fun q hq => ?_⟩
  rw [← h2 q hq]; congr 2; rw [Nat.add_mul]; omega
end
section
variable {α : Type} {E : Elt α} {P : Program} {w : World} {a : Act} {K : Act → World → Prop} {Q : Exit → Act → World → Prop} {o : Oper}
theorem wp_appCutE {s x : Operand} {t e : TypeId} {z : Value} {size bytes j n rc : Nat} {r : Option Addr} {l : List α} (hk : E.k = size) (hsz : 0 < size) (ht : P.underlying t = some (.slice e)) (hinfo : (P.info? e).map (fun i => (i.zero, i.size, i.bytes)) = some (some z, size, bytes)) (hzs : z.cells.size = size)
    (ho : o.op = .call { callee := .builtin .append, args := #[s, x], argTypes := #[t, t] }) (hs : a.eval s = .slice r j j) (hx : a.eval x = .slice (slA r (j + 1) size rc) (n - (j + 1)) (rc - (j + 1)))
    (hR : InRow E (fun _ => True) w l r) (hlen : n = l.length) (hj : j < n) (hrc : n ≤ rc) (hb : n * bytes ≤ 140737488355328) (hn : n ≤ 4294967296) (hcm : rc ≤ maxLen)
    (hK : ∀ r' c' w', InRow E (fun _ => True) w' (l.eraseIdx j) r' → n - 1 ≤ c' → c' ≤ maxLen → Below w.heap.size w w' → K (a.put o.dst (.slice r' (n - 1) c')) w') : o.wp P a w K Q := by
  subst hk
  obtain ⟨i, hi, hz0, hz1, hz2⟩ := info_parts hinfo
  obtain ⟨b, p, _, e0, _⟩ := hR j (by omega)
  subst e0
  have her : l.eraseIdx j = l.take j ++ l.drop (j + 1) := List.eraseIdx_eq_take_drop_succ _ _
  by_cases hm : n - (j + 1) = 0
  · have hnj : n - 1 = j := by omega
    have hd : l.drop (j + 1) = [] := List.drop_eq_nil_of_le (by omega)
    have hr : (Builtin.append_ #[t, t] o.type #[.slice (some ⟨b, p, none⟩) j j, .slice (slA (some ⟨b, p, none⟩) (j + 1) E.k rc) 0 (rc - (j + 1))]).run P w = .ok (.slice (some ⟨b, p, none⟩) j j) w := by
      cases hsl : slA (some (⟨b, p, none⟩ : Addr)) (j + 1) E.k rc with
      | none => simp [Builtin.append_, run_underlying ht, sizeOf, typeInfo, hi, Builtin.lenOf, Builtin.firstCells, storeCells]
      | some ad =>
        have hf := run_firstCells_some (P := P) w i.size 0 ad 0 (rc - (j + 1)) [] (by simp) (by simp)
        simp [Builtin.append_, run_underlying ht, sizeOf, typeInfo, hi, Builtin.lenOf, hf, storeCells]
    unfold Oper.wp execOp
    simp only [ho, resolve, invoke, builtin, Sem.run_bind, Sem.run_pure, Result.andThen_ok, List.map_toArray, List.map_cons, List.map_nil, hs, hx, hm, hr]
    have hK' := hK (some ⟨b, p, none⟩) j w (by rw [her, hd, List.append_nil]; exact hR.take j) (by omega) (by omega) (Below.refl _ _)
    rw [hnj] at hK'
    exact hK'
  · have hsl : slA (some (⟨b, p, none⟩ : Addr)) (j + 1) E.k rc = some ⟨b, p + (j + 1) * E.k, none⟩ := slA_some (by omega)
    obtain ⟨xs, hx1, hx2⟩ := InRow.elts (hR.take j)
    obtain ⟨ys, hy1, hy2⟩ := InRow.elts (hR.dropS (j + 1))
    have hxl := hx1.len
    have hyl := hy1.len
    rw [List.length_take, Nat.min_eq_left (by omega)] at hxl
    rw [List.length_drop, ← hlen] at hyl
    have hr := run_append_grow (P := P) w t o.type e i z ht hi hz0 ⟨b, p, none⟩ j j xs (by rw [hz1]; exact hxl) (fun k v hv => by rw [add_plain2]; exact hx2 k v hv)
      ⟨b, p + (j + 1) * E.k, none⟩ (n - (j + 1)) (rc - (j + 1)) ys (by rw [hz1]; exact hyl) (fun k v hv => by rw [add_plain2]; exact hy2 k v hv)
      (by omega) (by omega) (growslice_fits (by omega) (by rw [hz2]; have : (j + (n - (j + 1))) * bytes ≤ n * bytes := Nat.mul_le_mul_right _ (by omega); omega))
    have e1 : j + (n - (j + 1)) = n - 1 := by omega
    rw [e1] at hr
    unfold Oper.wp execOp
    simp only [ho, resolve, invoke, builtin, Sem.run_bind, Sem.run_pure, Result.andThen_ok, List.map_toArray, List.map_cons, List.map_nil, hs, hx, hsl, hr]
    have hbl : Below w.heap.size w (w.drew.alloc (.cells (xs.toArray ++ ys.toArray ++ Builtin.zeroCells z.cells (grownCap w (n - 1) j e - (n - 1))) e)) := bstep (Below.refl _ _).drew (balloc _ _)
    refine hK _ _ _ ?_ (grownCap_ge _ _ _ _) (grownCap_le_maxLen _ _ _ _ (by unfold maxLen; omega)) hbl
    rw [her]
    refine Elts.inRow (xs := xs ++ ys) (Elts.app (Elts.keep (fun q v _ hv => bkeeps hbl q v hv) hx1) (Elts.keep (fun q v _ hv => bkeeps hbl q v hv) hy1)) (Blk.new' rfl) trivial (fun q u hq => ?_)
    have hlt := (List.getElem?_eq_some_iff.1 hq).1
    rw [Array.getElem?_append_left (by simpa using hlt)]
    simpa using hq
end
end Go.Proofs.Ytnmopmdpnpcdhaa

namespace Go.Proofs.Ytnmopmdpnpcdhaa
open Go.RowKit Go
set_option linter.unusedVariables false
set_option linter.unusedSimpArgs false
theorem eltL.below' {S : Nat → Prop} {w w' : World} {x : Li} {cs : List Value} (hb : Below w.heap.size w w') (h : eltL.In S w x cs) : eltL.In S w' x cs := Elt.below h hb
theorem NewC.older {w0 w1 w : World} {l : List Li} {a : Option Addr} {c : Nat} (h : NewC w1 w l a c) (hl : w0.heap.size ≤ w1.heap.size) : NewC w0 w l a c := ⟨h.1.mono (by decide) (fun b hb _ => Nat.le_trans hl hb), h.2⟩
set_option maxRecDepth 100000 in
theorem lcopy_any (x : Li) (w : World) (v : Value) (hz1 : x.l.size ≤ 4294967296) (hz2 : x.r.size ≤ 4294967296) (hv : IsLi w x v) : Calls Try.prog 42 #[v] w (Ret fun v' w' => NewL w w' x v' ∧ Below w.heap.size w w') := by
 obtain ⟨a1, a2, c1, c2, rfl, hl, hr⟩ := hv.form
 refine Calls.walk (l := [.agg #[.bool x.neg, .int .i64 x.l.f, .slice a1 x.l.args.length c1, .int .i64 x.r.f, .slice a2 x.r.args.length c2]]) Try.func42 rfl (by kernel_rfl) ?_
 refine WC.sub (K' := [(0, .agg #[.bool x.neg, .int .i64 x.l.f, .slice a1 x.l.args.length c1, .int .i64 x.r.f, .slice a2 x.r.args.length c2])]) ⟨rfl, trivial⟩ ?_
 refine WC.seq (WC.region ?_)
 refine WL.step (post := NewBlk w 60 #[.bool x.neg, .int .i64 x.l.f, .slice a1 x.l.args.length c1, .int .i64 x.r.f, .slice a2 x.r.args.length c2]) rfl rfl rfl (fun za zC zh zk => box_60 rfl (zh.ev rfl) (zk _ _ (newBlk _ _ _))) ?_
 rintro _ w1 ⟨g2, rfl, hg3, hB4, hb5, hz6⟩
 have hl7 : w.heap.size ≤ g2 := by omega
 refine WL.step (post := NewBlk w1 60 #[.bool false, .int .i64 0, .slice none 0 0, .int .i64 0, .slice none 0 0]) rfl rfl rfl (fun za zC zh zk => alloc_60 rfl (zk _ _ (newBlk _ _ _))) ?_
 rintro _ w8 ⟨g9, rfl, hg10, hB11, hb12, hz13⟩
 have hl14 : g2 < g9 := by have z1 := hB4.lt; omega
 have hl15 : w.heap.size ≤ g9 := by have z2 := (hb5).size; omega
 refine WL.nil (WE.next (WC.seq ?_))
 have hB16 := hB4.below hb12
 have hb17 : Below w.heap.size w w8 := (bstep hb5 hb12)
 have hSlt : ∀ b, (fun b => b = g9) b → b < w8.heap.size := fun b e => e ▸ hB11.lt
 have hgl : g9 < w8.heap.size := hB11.lt
 refine WC.tail1 (S := ((fun b => b = g9))) [(true, .val (.pointer (some ⟨g2, 0, none⟩))), (true, .val (.bool x.neg)), (true, .val (.pointer (some ⟨g2, 1, none⟩))), (true, .val (.agg #[.int .i64 x.l.f, .slice a1 x.l.args.length c1])), (true, .mem (fun v w' => NewT w8 w' x.l v) (fun v w w' hc h => InT.chg h hc (fun b hb hs => by have z := hSlt b hs; omega))), (true, .val (.pointer (some ⟨g2, 3, none⟩))), (true, .val (.agg #[.int .i64 x.r.f, .slice a2 x.r.args.length c2])), (true, .mem (fun v w' => NewT w8 w' x.r v) (fun v w w' hc h => InT.chg h hc (fun b hb hs => by have z := hSlt b hs; omega))), (true, .mem (fun v w' => NewL w8 w' x v) (fun v w w' hc h => NewL.chg h hc (fun b hb hs => by have z := hSlt b hs; omega))), (true, .val undef)] [(0, .agg #[.bool x.neg, .int .i64 x.l.f, .slice a1 x.l.args.length c1, .int .i64 x.r.f, .slice a2 x.r.args.length c2]), (1, .pointer (some ⟨g2, 0, none⟩)), (2, .pointer (some ⟨g9, 0, none⟩))] 9 (fun wz => LiBox w8 wz g9 60 x) (fun w w' hb h => h.below hb) ⟨rfl, rfl, rfl, trivial⟩ (by kernel_rfl) (by kernel_rfl) (by kernel_rfl) (by kernel_rfl) ?_ ?_
 ·refine ⟨.inl ⟨rfl, true, .none rfl, (fun gg b h => by cases h), fun h w => optUndef h, fun zβ za zw zc => ?_⟩, ?_⟩
  ·exact fld_60_0 rfl (zc.kn.ev rfl) ⟨_, rfl, Below.refl _ _, optDef zβ rfl⟩
  refine ⟨.inl ⟨rfl, true, .none rfl, (fun gg b h => by cases h), fun h w => optUndef h, fun zβ za zw zc => ?_⟩, ?_⟩
  ·exact ld_4 rfl ((evt za 3).trans (optSVal (zc.dep 0 3 (by kernel_rfl) (by decide)) rfl rfl)) (bkeeps (zc.early (by kernel_rfl)) _ _ ((hB16.cell 0).trans rfl)) ⟨_, rfl, Below.refl _ _, optDef zβ rfl⟩
  refine ⟨.inl ⟨rfl, true, .none rfl, (fun gg b h => by cases h), fun h w => optUndef h, fun zβ za zw zc => ?_⟩, ?_⟩
  ·exact fld_60_1 rfl (zc.kn.ev rfl) ⟨_, rfl, Below.refl _ _, optDef zβ rfl⟩
  refine ⟨.inl ⟨rfl, true, .none rfl, (fun gg b h => by cases h), fun h w => optUndef h, fun zβ za zw zc => ?_⟩, ?_⟩
  ·exact ld_58 rfl ((evt za 5).trans (optSVal (zc.dep 2 5 (by kernel_rfl) (by decide)) rfl rfl)) (bkeeps (zc.early (by kernel_rfl)) _ _ ((hB16.cell 1).trans rfl)) (bkeeps (zc.early (by kernel_rfl)) _ _ ((hB16.cell 2).trans rfl)) ⟨_, rfl, Below.refl _ _, optDef zβ rfl⟩
  refine ⟨.inl ⟨rfl, true, .none rfl, (fun gg b h => by cases h), fun h w => optUndef h, fun zβ za zw zc => ?_⟩, ?_⟩
  ·exact wp_call (by kernel_rfl) rfl (hv1 ((evt za 6).trans (optSVal (zc.dep 3 6 (by kernel_rfl) (by decide)) rfl rfl))) (copy_any x.l _ _ hz1 (IsT.below (bstep hb17 (zc.early (by kernel_rfl))) hl)) (fun v w' h => ⟨v, rfl, h.2, optDef zβ (InT.mono (fun b hb _ => Nat.le_trans (zc.early (by kernel_rfl)).size hb) h.1)⟩)
  refine ⟨.inl ⟨rfl, true, .none rfl, (fun gg b h => by cases h), fun h w => optUndef h, fun zβ za zw zc => ?_⟩, ?_⟩
  ·exact fld_60_2 rfl (zc.kn.ev rfl) ⟨_, rfl, Below.refl _ _, optDef zβ rfl⟩
  refine ⟨.inl ⟨rfl, true, .none rfl, (fun gg b h => by cases h), fun h w => optUndef h, fun zβ za zw zc => ?_⟩, ?_⟩
  ·exact ld_58 rfl ((evt za 8).trans (optSVal (zc.dep 5 8 (by kernel_rfl) (by decide)) rfl rfl)) (bkeeps (zc.early (by kernel_rfl)) _ _ ((hB16.cell 3).trans rfl)) (bkeeps (zc.early (by kernel_rfl)) _ _ ((hB16.cell 4).trans rfl)) ⟨_, rfl, Below.refl _ _, optDef zβ rfl⟩
  refine ⟨.inl ⟨rfl, true, .none rfl, (fun gg b h => by cases h), fun h w => optUndef h, fun zβ za zw zc => ?_⟩, ?_⟩
  ·exact wp_call (by kernel_rfl) rfl (hv1 ((evt za 9).trans (optSVal (zc.dep 6 9 (by kernel_rfl) (by decide)) rfl rfl))) (copy_any x.r _ _ hz2 (IsT.below (bstep hb17 (zc.early (by kernel_rfl))) hr)) (fun v w' h => ⟨v, rfl, h.2, optDef zβ (InT.mono (fun b hb _ => Nat.le_trans (zc.early (by kernel_rfl)).size hb) h.1)⟩)
  refine ⟨.inl ⟨rfl, true, .none rfl, (fun gg b h => by cases h), fun h w => optUndef h, fun zβ za zw zc => ?_⟩, ?_⟩
  ·have z1 := (optSMem (zc.dep 4 7 (by kernel_rfl) (by decide)) rfl rfl)
   obtain ⟨_, a1, c1, e1, _⟩ := z1.form
   rw [e1] at z1
   have z2 := (optSMem (zc.dep 7 10 (by kernel_rfl) (by decide)) rfl rfl)
   obtain ⟨_, a2, c2, e2, _⟩ := z2.form
   rw [e2] at z2
   exact build_60_0_1_2 rfl ((evt za 4).trans (optSVal (zc.dep 1 4 (by kernel_rfl) (by decide)) rfl rfl)) ((evt za 7).trans e1) ((evt za 10).trans e2) ⟨_, rfl, Below.refl _ _, optDef zβ (newL_mk (x := x) z1 z2)⟩
  refine ⟨.inr ⟨rfl, rfl, fun za zw zc => ?_⟩, ?_⟩
  ·have zv := (optSMem (zc.dep 8 11 (by kernel_rfl) (by decide)) rfl rfl)
   obtain ⟨a1, a2, c1, c2, e1⟩ := zv.parts
   rw [e1] at zv
   exact st_60 rfl (zc.kn.ev rfl) ((evt za 11).trans e1) rfl rfl rfl rfl rfl (hB11.below zc.below) (by decide) (fun v => ⟨v, rfl, ⟨a1, a2, c1, c2, ((((hB11.below zc.below).set_ 0 _).set_ 1 _).set_ 2 _ |>.set_ 3 _).set_ 4 _, zv.chg (S := fun b => b = g9) (.ofUpd (((((Upd.at_ _ _ _ _).trans (Upd.at_ _ _ _ _)).trans (Upd.at_ _ _ _ _)).trans (Upd.at_ _ _ _ _)).trans (Upd.at_ _ _ _ _)) rfl) (fun b hb e => by (try dsimp only at *); omega)⟩, .ofUpd (((((Upd.at_ _ _ _ _).trans (Upd.at_ _ _ _ _)).trans (Upd.at_ _ _ _ _)).trans (Upd.at_ _ _ _ _)).trans (Upd.at_ _ _ _ _)) rfl⟩)
  exact trivial
 ·intro za w18 zh hG19 hc20 zu
  have hb21 := chg_below hb17 hc20 (fun b hb => (by (try dsimp only at *); omega))
  have hB22 := chg_blk hB16 hc20 (by (try dsimp only at *); omega)
  obtain ⟨a23, a24, c25, c26, hB27, hn28⟩ := hG19
  clear zu
  refine WE.go zh ?_
  refine WE.next (WC.ret ?_)
  refine WE.retAny (v := .agg #[.bool x.neg, .int .i64 x.l.f, .slice a23 x.l.args.length c25, .int .i64 x.r.f, .slice a24 x.r.args.length c26]) (fun za zh => ?_) ?_
  ·have z0 : za.tmps[2]?.getD undef = .pointer (some ⟨g9, 0, none⟩) := by rw [← Array.getD_eq_getD_getElem?]; exact zh.knows 2 _ rfl
   have y0 : w18.cell? ⟨g9, 0, none⟩ = some (.bool x.neg) := ((hB27.cell 0).trans rfl)
   have y1 : w18.cell? ⟨g9, 1, none⟩ = some (.int .i64 x.l.f) := ((hB27.cell 1).trans rfl)
   have y2 : w18.cell? ⟨g9, 2, none⟩ = some (.slice a23 x.l.args.length c25) := ((hB27.cell 2).trans rfl)
   have y3 : w18.cell? ⟨g9, 3, none⟩ = some (.int .i64 x.r.f) := ((hB27.cell 3).trans rfl)
   have y4 : w18.cell? ⟨g9, 4, none⟩ = some (.slice a24 x.r.args.length c26) := ((hB27.cell 4).trans rfl)
   simp [results, Try.results42, z0, y0, y1, y2, y3, y4, go_sem]
  ·have hgz := (hb17).size
   exact ⟨_, rfl, (hn28).older (by omega), hb21⟩
set_option maxRecDepth 100000 in
theorem ccopy_any (l : List Li) (w : World) (a : Option Addr) (c : Nat) (h : IsCl w l a c) (hlen : l.length ≤ 1048576) : Calls Try.prog 35 #[.slice a l.length c] w (Ret fun v' w' => (∃ p c', v' = .slice p l.length c' ∧ NewC w w' l p c') ∧ Below w.heap.size w w') := by
 have hcap := h.cap
 refine Calls.walk (l := [.slice a l.length c]) Try.func35 rfl (by kernel_rfl) ?_
 refine WC.sub (K' := [(0, .slice a l.length c)]) ⟨rfl, trivial⟩ ?_
 refine WC.seq (WC.region (WL.asg rfl rfl rfl rfl rfl (WL.nil (WE.next (WC.seq (WC.region (WL.asg rfl rfl rfl rfl rfl (WL.nil (WE.next (WC.seq (WC.seq (WC.region (WL.mv rfl rfl rfl rfl rfl ?_)))))))))))))
 refine WL.val (.int .i64 (((l.length : Nat) : Int))) rfl rfl rfl (fun za zC zh zk => len_29 rfl (zh.ev rfl) zk) ?_
 refine WL.mv rfl rfl rfl rfl rfl (WL.nil (WE.next (WC.block ?_)))
 have hR1 : RowE eltL w w.heap.size 60 none 0 0 [] := RowE.nil
 refine WC.loop (X := Option Addr × Nat × Nat) (fun x => l.length - x.2.2) (fun x => [(0, .slice a l.length c), (2, .slice none 0 0), (3, .slice x.1 x.2.2 x.2.1), (6, .slice a l.length c), (7, .int .i64 (((l.length : Nat) : Int))), (8, .int .i64 (((x.2.2 : Nat) : Int)))]) (fun x w2 => x.2.2 ≤ l.length ∧ w.heap.size ≤ (w2).heap.size ∧ Below w.heap.size w w2 ∧ RowE eltL (w2) w.heap.size 60 x.1 x.2.1 x.2.2 ((l.take x.2.2))) ((none, 0, 0)) ⟨rfl, rfl, rfl, rfl, rfl, rfl, trivial⟩ ?_ ?_
 ·exact ⟨Nat.zero_le _, Nat.le_refl _, (Below.refl _ _), (by simpa using hR1)⟩
 ·rintro x w2 ⟨hk, hBw, hb3, ho4⟩
  refine WC.seq (WC.region ?_)
  refine WL.val (.bool ((decide ((((x.2.2 : Nat) : Int) : Int) < (((l.length : Nat) : Int) : Int))))) rfl rfl rfl (fun za zC zh zk => lss_3 rfl (zh.ev rfl) (zh.ev rfl) zk) ?_
  refine WL.nil (WE.next (WC.seq ?_))
  refine WC.cond rfl (fun h5 => ?_) (fun h5 => ?_)
  ·have h5 : (((x.2.2 : Nat) : Int) : Int) < (((l.length : Nat) : Int) : Int) := by simpa using h5
   refine WC.skip (WE.next (WC.seq (WC.block (WC.seq (WC.region ?_)))))
   obtain ⟨b6, o7, A8, C9, A10, C11, ha12, hc13⟩ := InRow.openL h.rows
   refine WL.val _ rfl rfl rfl (fun za zC zh zk => ix_29 (k := x.2.2) rfl (zh.ev rfl) (ha12 x.2.2 (by first | omega | (simp; omega))) (zh.ev rfl) (by first | omega | (simp; omega)) zk) ?_
   refine WL.val _ rfl rfl rfl (fun za zC zh zk => ld_60 rfl (zh.ev rfl) (bkeeps hb3 _ _ (hc13 x.2.2 (by first | omega | (simp; omega))).1) (bkeeps hb3 _ _ (hc13 x.2.2 (by first | omega | (simp; omega))).2.1) (bkeeps hb3 _ _ (hc13 x.2.2 (by first | omega | (simp; omega))).2.2.1) (bkeeps hb3 _ _ (hc13 x.2.2 (by first | omega | (simp; omega))).2.2.2.1) (bkeeps hb3 _ _ (hc13 x.2.2 (by first | omega | (simp; omega))).2.2.2.2.1) zk) ?_
   refine WL.step (post := NewBlk w2 60 #[.bool false, .int .i64 0, .slice none 0 0, .int .i64 0, .slice none 0 0]) rfl rfl rfl (fun za zC zh zk => alloc_60 rfl (zk _ _ (newBlk _ _ _))) ?_
   rintro _ w14 ⟨g15, rfl, hg16, hB17, hb18, hz19⟩
   have hl20 : w.heap.size ≤ g15 := by have z2 := (hb3).size; omega
   have hl21 : w2.heap.size ≤ g15 := by omega
   refine WL.step (post := fun _ w' => Upd g15 w14 w' ∧ Blk w' g15 60 #[.bool ((lget l x.2.2).neg), .int .i64 ((lget l x.2.2).l.f), .slice ((A8 x.2.2)) ((lget l x.2.2).l.args.length) ((C9 x.2.2)), .int .i64 ((lget l x.2.2).r.f), .slice ((A10 x.2.2)) ((lget l x.2.2).r.args.length) ((C11 x.2.2))]) rfl rfl rfl (fun za zC zh zk => st_60 rfl (zh.ev rfl) (zh.ev rfl) rfl rfl rfl rfl rfl hB17 (by first | decide | simp) (fun v => zk v _ ⟨((((Upd.at_ _ _ _ _).trans (Upd.at_ _ _ _ _)).trans (Upd.at_ _ _ _ _)).trans (Upd.at_ _ _ _ _)).trans (Upd.at_ _ _ _ _), ((((hB17.set_ 0 _).set_ 1 _).set_ 2 _).set_ 3 _).set_ 4 _⟩)) ?_
   rintro v25 w22 ⟨hu23, hB24⟩
   have hb26 : Below w.heap.size w w14 := (bstep hb3 hb18)
   have hb27 := upd_below hb26 hu23 (by omega)
   have hb28 := upd_below hb18 hu23 (by omega)
   refine WL.nil (WE.next ?_)
   have ho29 := ho4.below hb28
   have hSlt : ∀ b, (fun b => (Value.slice x.1 x.2.2 x.2.1).ownBlock = some b) b → b < w22.heap.size := fun b h => (ho29.lt b h).2
   have hSlo : ∀ b, (fun b => (Value.slice x.1 x.2.2 x.2.1).ownBlock = some b) b → w.heap.size ≤ b ∧ b < w2.heap.size := fun b h => ho4.lt b h
   have hBW : w.heap.size ≤ w22.heap.size := by have z1 := hb27.size; omega
   have hlL : x.2.2 = ((l.take x.2.2)).length := ho29.len
   refine WC.tail3 (S := ((fun b => (Value.slice x.1 x.2.2 x.2.1).ownBlock = some b))) [(true, .val (.slice x.1 x.2.2 x.2.1)), (true, .val (.agg #[.bool ((lget l x.2.2).neg), .int .i64 ((lget l x.2.2).l.f), .slice ((A8 x.2.2)) ((lget l x.2.2).l.args.length) ((C9 x.2.2)), .int .i64 ((lget l x.2.2).r.f), .slice ((A10 x.2.2)) ((lget l x.2.2).r.args.length) ((C11 x.2.2))])), (true, .mem (fun v w' => NewL w22 w' ((lget l x.2.2)) v) (fun v w w' hc h => NewL.chg h hc (fun b hb hs => by have z := hSlt b hs; omega))), (true, .mem (fun v w' => OneRow eltL w22 60 ((lget l x.2.2)) v w') (fun v w w' hc h => h.chg hc hSlt)), (true, .val undef), (true, .val undef)] [(0, .slice a l.length c), (2, .slice none 0 0), (5, .pointer (some ⟨g15, 0, none⟩)), (6, .slice a l.length c), (7, .int .i64 (((l.length : Nat) : Int))), (8, .int .i64 (((x.2.2 : Nat) : Int))), (9, .bool ((decide ((((x.2.2 : Nat) : Int) : Int) < (((l.length : Nat) : Int) : Int)))))] 4 5 ((x.2.2 + 1)) 16 3 (fun ra rc wz => RowE eltL wz w.heap.size 60 ra rc (x.2.2 + 1) ((l.take x.2.2 ++ [(lget l x.2.2)]))) (by decide) (fun ra rc w w' hb h => h.below hb) ⟨rfl, rfl, rfl, rfl, rfl, rfl, rfl, trivial⟩ (by kernel_rfl) (by kernel_rfl) (by kernel_rfl) (by kernel_rfl) (by kernel_rfl) (by kernel_rfl) ?_ ?_
   ·refine ⟨.inl ⟨rfl, true, .none rfl, (fun gg b h => by cases h), fun h w => optUndef h, fun zβ za zw zc => ?_⟩, ?_⟩
    ·exact wp_move rfl ((evt za 3).trans (zc.old 3 _ rfl (by kernel_rfl))) ⟨_, rfl, Below.refl _ _, optDef zβ rfl⟩
    refine ⟨.inl ⟨rfl, true, .none rfl, (fun gg b h => by cases h), fun h w => optUndef h, fun zβ za zw zc => ?_⟩, ?_⟩
    ·exact ld_60 rfl (zc.kn.ev rfl) (bkeeps (zc.early (by kernel_rfl)) _ _ ((hB24.cell 0).trans rfl)) (bkeeps (zc.early (by kernel_rfl)) _ _ ((hB24.cell 1).trans rfl)) (bkeeps (zc.early (by kernel_rfl)) _ _ ((hB24.cell 2).trans rfl)) (bkeeps (zc.early (by kernel_rfl)) _ _ ((hB24.cell 3).trans rfl)) (bkeeps (zc.early (by kernel_rfl)) _ _ ((hB24.cell 4).trans rfl)) ⟨_, rfl, Below.refl _ _, optDef zβ rfl⟩
    refine ⟨.inl ⟨rfl, true, .none rfl, (fun gg b h => by cases h), fun h w => optUndef h, fun zβ za zw zc => ?_⟩, ?_⟩
    ·exact wp_call (by kernel_rfl) rfl (hv1 ((evt za 13).trans (optSVal (zc.dep 1 13 (by kernel_rfl) (by decide)) rfl rfl))) (lcopy_any (lget l x.2.2) _ _ (h.pl (by omega)) (h.pr (by omega)) (isLi_mk (IsT.below (bstep hb27 (zc.early (by kernel_rfl))) (InT.isT (hc13 x.2.2 (by first | omega | (simp; omega))).2.2.2.2.2.1)) (IsT.below (bstep hb27 (zc.early (by kernel_rfl))) (InT.isT (hc13 x.2.2 (by first | omega | (simp; omega))).2.2.2.2.2.2)))) (fun v w' h => ⟨v, rfl, h.2, optDef zβ (NewL.older h.1 (zc.early (by kernel_rfl)).size)⟩)
    refine ⟨.inl ⟨rfl, true, .none rfl, (fun gg b h => by cases h), fun h w => optUndef h, fun zβ za zw zc => ?_⟩, ?_⟩
    ·have zv := (optSMem (zc.dep 2 14 (by kernel_rfl) (by decide)) rfl rfl)
     obtain ⟨a1, a2, c1, c2, e1⟩ := zv.parts
     rw [e1] at zv
     exact row_29_1 rfl ((evt za 14).trans e1) ⟨_, rfl, balloc _ _, optDef zβ ⟨_, _, rfl, zc.chg.size, Blk.new' rfl, eltL.below' (balloc _ _) zv.elt⟩⟩
    refine ⟨.inr (.inl ⟨rfl, rfl, fun za zw zc => ?_⟩), ?_⟩
    ·obtain ⟨g1, cs, e1, hg1, hB1, hin⟩ := (optSMem (zc.dep 3 15 (by kernel_rfl) (by decide)) rfl rfl)
     exact wp_appE (E := eltL) (size := 5) (bytes := 72) (z := .agg #[.bool false, .int .i64 0, .slice none 0 0, .int .i64 0, .slice none 0 0]) rfl Try.underlying29 (by kernel_rfl) rfl (by decide) rfl ((evt za 12).trans (optSVal (zc.dep 0 12 (by kernel_rfl) (by decide)) rfl rfl)) ((evt za 15).trans e1) (ho29.below zc.below) hB1 (eltL.mono (fun b hb _ => ⟨by omega, fun e => by have z := (ho29.lt b e).2; omega⟩) hin) (by omega) (by omega) (by have z := zc.below.size; omega) (fun ra rc w' h1 h2 _ => ⟨ra, rc, rfl, h1, h2⟩)
    refine ⟨.inr (.inr ⟨rfl, rfl, 16, by kernel_rfl, rfl⟩), ?_⟩
    exact trivial
   ·intro za w30 ra33 rc34 zh zv zv2 hG31 hc32 zu
    have zh := zh.cons (d := 3) zv2
    have hb35 := chg_below hb27 hc32 (fun b hb => (fun h => by have h := hSlo _ h; (try dsimp only at *); omega))
    have hB36 := chg_blk hB24 hc32 (fun h => by have h := hSlo _ h; (try dsimp only at *); omega)
    clear zu
    refine WE.go zh ?_
    refine WE.blockNormal (WE.next (WC.region ?_))
    refine WL.val (.int .i64 ((((x.2.2 + 1) : Nat) : Int))) rfl rfl rfl (fun za zC zh zk => addb_3 rfl (zh.ev rfl) (zh.ev rfl) (wrap_eq (by omega) (by omega) (by omega)) zk) ?_
    refine WL.mv rfl rfl rfl rfl rfl (WL.nil ?_)
    refine WE.round ((ra33, rc34, x.2.2 + 1)) ⟨rfl, rfl, rfl, rfl, rfl, rfl, trivial⟩ ?_ ?_
    ·exact ⟨by (try dsimp only at *); omega, hb35.size, hb35, (by rw [← take_snocL (by (try dsimp only at *); omega)]; exact hG31)⟩
    ·dsimp only; omega
  ·have h5 : ¬ ((((x.2.2 : Nat) : Int) : Int) < (((l.length : Nat) : Int) : Int)) := by simpa using h5
   refine WC.exit (WE.thenExit (WE.thenExit (WE.blockIs rfl (WE.next (WC.seq (WC.region (WL.mv rfl rfl rfl rfl rfl (WL.asg rfl rfl rfl rfl rfl (WL.nil (WE.next (WC.ret (WE.ret1 rfl rfl ?_))))))))))))
   have z := ho4
   rw [List.take_of_length_le (by omega)] at z
   obtain ⟨e, z⟩ := newC_row (w0 := w) z (by omega)
   exact ⟨_, rfl, ⟨_, _, by rw [← e], z⟩, hb3⟩
set_option maxRecDepth 100000 in
theorem without_any (l : List Li) (i : Nat) (hi : i < l.length) (w : World) (a : Option Addr) (c : Nat) (h : IsCl w l a c) (hlen : l.length ≤ 1048576) : Calls Try.prog 24 #[.slice a l.length c, .int .i64 (i : Int)] w (Ret fun v' w' => (∃ p c', v' = .slice p (l.eraseIdx i).length c' ∧ NewC w w' (l.eraseIdx i) p c') ∧ Below w.heap.size w w') := by
 have hcap := h.cap
 have hll := h.len
 have hmx : maxLen = 9223372036854775807 := by unfold maxLen; omega
 have hel : (l.eraseIdx i).length = l.length - 1 := List.length_eraseIdx_of_lt hi
 have hmem : ∀ b ∈ l.eraseIdx i, b ∈ l := fun b hb => List.mem_of_mem_eraseIdx hb
 refine Calls.walk (l := [.slice a l.length c, .int .i64 (((i : Nat) : Int))]) Try.func24 rfl (by kernel_rfl) ?_
 refine WC.sub (K' := [(0, .slice a l.length c), (1, .int .i64 (((i : Nat) : Int)))]) ⟨rfl, rfl, trivial⟩ ?_
 refine WC.seq (WC.region (WL.asg rfl rfl rfl rfl rfl (WL.nil (WE.next (WC.seq ?_)))))
 have hGV9 : ∀ (vals : List Value) (wa wb : World), Below wa.heap.size wa wb → (fun vals wz => match vals with | [] => True | [z0] => ∃ r' c', z0 = .slice r' (l.eraseIdx i).length c' ∧ InRow eltL (fun _ => True) wz (l.eraseIdx i) r' ∧ (l.eraseIdx i).length ≤ c' ∧ c' ≤ maxLen | [_, z1] => ∃ r' c', z1 = .slice r' (l.eraseIdx i).length c' ∧ NewC w wz (l.eraseIdx i) r' c' | [_, _, z2] => ∃ r' c', z2 = .slice r' (l.eraseIdx i).length c' ∧ NewC w wz (l.eraseIdx i) r' c' | _ => False) vals wa → (fun vals wz => match vals with | [] => True | [z0] => ∃ r' c', z0 = .slice r' (l.eraseIdx i).length c' ∧ InRow eltL (fun _ => True) wz (l.eraseIdx i) r' ∧ (l.eraseIdx i).length ≤ c' ∧ c' ≤ maxLen | [_, z1] => ∃ r' c', z1 = .slice r' (l.eraseIdx i).length c' ∧ NewC w wz (l.eraseIdx i) r' c' | [_, _, z2] => ∃ r' c', z2 = .slice r' (l.eraseIdx i).length c' ∧ NewC w wz (l.eraseIdx i) r' c' | _ => False) vals wb := by
  intro vals wa wb hb h
  match vals, h with
  | [], h => exact trivial
  | [z0], h =>
   obtain ⟨r1, c1, e, k1, k2⟩ := h
   exact ⟨r1, c1, e, k1.below hb, k2⟩
  | [_, z1], h =>
   obtain ⟨r1, c1, e, k1⟩ := h
   exact ⟨r1, c1, e, k1.below hb⟩
  | [_, _, z2], h =>
   obtain ⟨r1, c1, e, k1⟩ := h
   exact ⟨r1, c1, e, k1.below hb⟩
 refine WC.seqV (S := ((fun b => b < 0))) [(true, .val (.slice a l.length c)), (true, .val (.int .i64 (((i : Nat) : Int)))), (true, .val (.int .i64 (((i : Nat) : Int)))), (true, .val (.slice a i i)), (true, .val (.slice a l.length c)), (true, .val (.int .i64 (((i : Nat) : Int)))), (true, .val (.int .i64 ((((i + 1) : Nat) : Int)))), (true, .val (.slice ((slA a ((i + 1)) 5 c)) ((l.length - (i + 1))) ((c - (i + 1))))), (true, .val undef), (true, .val undef), (true, .val undef)] [(0, .slice a l.length c), (1, .int .i64 (((i : Nat) : Int)))] [8, 9, 10] [none, none, none] (fun vals wz => match vals with | [] => True | [z0] => ∃ r' c', z0 = .slice r' (l.eraseIdx i).length c' ∧ InRow eltL (fun _ => True) wz (l.eraseIdx i) r' ∧ (l.eraseIdx i).length ≤ c' ∧ c' ≤ maxLen | [_, z1] => ∃ r' c', z1 = .slice r' (l.eraseIdx i).length c' ∧ NewC w wz (l.eraseIdx i) r' c' | [_, _, z2] => ∃ r' c', z2 = .slice r' (l.eraseIdx i).length c' ∧ NewC w wz (l.eraseIdx i) r' c' | _ => False) hGV9 (by decide) ⟨rfl, rfl, trivial⟩ (by kernel_rfl) (by kernel_rfl) (by kernel_rfl) (by kernel_rfl) trivial ?_ ?_
 ·refine ⟨.inl ⟨rfl, true, .none rfl, (fun gg b h => by cases h), fun h w => optUndef h, fun zβ za zw zc => ?_⟩, ?_⟩
  ·exact wp_move rfl (zc.kn.ev rfl) ⟨_, rfl, Below.refl _ _, optDef zβ rfl⟩
  refine ⟨.inl ⟨rfl, true, .none rfl, (fun gg b h => by cases h), fun h w => optUndef h, fun zβ za zw zc => ?_⟩, ?_⟩
  ·exact wp_move rfl (zc.kn.ev rfl) ⟨_, rfl, Below.refl _ _, optDef zβ rfl⟩
  refine ⟨.inl ⟨rfl, true, .none rfl, (fun gg b h => by cases h), fun h w => optUndef h, fun zβ za zw zc => ?_⟩, ?_⟩
  ·exact wp_move rfl (zc.kn.ev rfl) ⟨_, rfl, Below.refl _ _, optDef zβ rfl⟩
  refine ⟨.inl ⟨rfl, true, .none rfl, (fun gg b h => by cases h), fun h w => optUndef h, fun zβ za zw zc => ?_⟩, ?_⟩
  ·exact shm_29 (k := i) (m := i) rfl ((evt za 5).trans (optSVal (zc.dep 0 5 (by kernel_rfl) (by decide)) rfl rfl)) ((evt za 6).trans (optSVal (zc.dep 1 6 (by kernel_rfl) (by decide)) rfl rfl)) ((evt za 7).trans (optSVal (zc.dep 2 7 (by kernel_rfl) (by decide)) rfl rfl)) (by omega) (by omega) ⟨_, rfl, Below.refl _ _, optDef zβ rfl⟩
  refine ⟨.inl ⟨rfl, true, .none rfl, (fun gg b h => by cases h), fun h w => optUndef h, fun zβ za zw zc => ?_⟩, ?_⟩
  ·exact wp_move rfl (zc.kn.ev rfl) ⟨_, rfl, Below.refl _ _, optDef zβ rfl⟩
  refine ⟨.inl ⟨rfl, true, .none rfl, (fun gg b h => by cases h), fun h w => optUndef h, fun zβ za zw zc => ?_⟩, ?_⟩
  ·exact wp_move rfl (zc.kn.ev rfl) ⟨_, rfl, Below.refl _ _, optDef zβ rfl⟩
  refine ⟨.inl ⟨rfl, true, .none rfl, (fun gg b h => by cases h), fun h w => optUndef h, fun zβ za zw zc => ?_⟩, ?_⟩
  ·exact addb_3 rfl ((evt za 10).trans (optSVal (zc.dep 5 10 (by kernel_rfl) (by decide)) rfl rfl)) (zc.kn.ev rfl) (wrap_eq (by omega) (by omega) (by omega)) ⟨_, rfl, Below.refl _ _, optDef zβ rfl⟩
  refine ⟨.inl ⟨rfl, true, .none rfl, (fun gg b h => by cases h), fun h w => optUndef h, fun zβ za zw zc => ?_⟩, ?_⟩
  ·exact slo_29 (k := (i + 1)) rfl ((evt za 9).trans (optSVal (zc.dep 4 9 (by kernel_rfl) (by decide)) rfl rfl)) ((evt za 11).trans (optSVal (zc.dep 6 11 (by kernel_rfl) (by decide)) rfl rfl)) (by omega) (by omega) ⟨_, rfl, Below.refl _ _, optDef zβ rfl⟩
  refine ⟨.inr ⟨0, rfl, by kernel_rfl, true, .none rfl, (fun gg b h => by cases h), (fun h => (nomatch h)), fun zβ za zw zvals zc => ?_⟩, ?_⟩
  ·obtain rfl := vlen0 zc.len
   have zn := zc.now
   exact wp_appCutE (E := eltL) (j := i) (n := l.length) (size := 5) (bytes := 72) (z := .agg #[.bool false, .int .i64 0, .slice none 0 0, .int .i64 0, .slice none 0 0]) rfl (by decide) Try.underlying29 (by kernel_rfl) rfl rfl ((evt za 8).trans (optSVal (zc.dep 3 8 (by kernel_rfl) (by decide)) rfl rfl)) ((evt za 12).trans (optSVal (zc.dep 7 12 (by kernel_rfl) (by decide)) rfl rfl)) (h.rows.below (Chg.toBelow zc.chg)) rfl hi (by omega) (by omega) (by omega) (by omega) (fun r' c' w' h1 h2 h3 h4 => ⟨_, rfl, .ofBelow h4, ⟨r', c', by rw [hel], h1, by omega, h3⟩, cvNo⟩)
  refine ⟨.inr ⟨1, rfl, by kernel_rfl, true, .none rfl, (fun gg b h => by cases h), (fun h => (nomatch h)), fun zβ za zw zvals zc => ?_⟩, ?_⟩
  ·obtain ⟨z0, rfl⟩ := vlen1 zc.len
   have zn := zc.now
   obtain ⟨r1, c1, e, k1, k2, k3⟩ := zn
   have e0 : z0 = za.tmps.getD 13 undef := Option.some.inj (zc.val 0 8 13 rfl (by kernel_rfl))
   exact wp_call (by kernel_rfl) rfl (hv1 ((evt za 13).trans (e0.symm.trans e))) (ccopy_any (l.eraseIdx i) _ _ _ ⟨k1, k2, k3, by omega, fun b hb => h.partsL b (hmem b hb), fun b hb => h.partsR b (hmem b hb)⟩ (by omega)) (fun v w' h => by obtain ⟨⟨p, c2, e2, k4⟩, k5⟩ := h; exact ⟨v, rfl, .ofBelow k5, ⟨p, c2, e2, k4.older zc.chg.size⟩, cvNo⟩)
  refine ⟨.inr ⟨2, rfl, by kernel_rfl, true, .none rfl, (fun gg b h => by cases h), (fun h => (nomatch h)), fun zβ za zw zvals zc => ?_⟩, ?_⟩
  ·obtain ⟨z0, z1, rfl⟩ := vlen2 zc.len
   have zn := zc.now
   obtain ⟨r1, c1, e, k1⟩ := zn
   have e1 : z1 = za.tmps.getD 14 undef := Option.some.inj (zc.val 1 9 14 rfl (by kernel_rfl))
   exact wp_assign rfl ((evt za 14).trans (e1.symm.trans e)) ⟨_, rfl, .ofBelow (Below.refl _ _), ⟨r1, c1, rfl, k1⟩, cvNo⟩
  exact trivial
 ·intro za w1 zvals zh zl hG2 hc3 zu zw zk
  obtain ⟨z0, z1, z2, rfl⟩ := vlen3 zl
  obtain ⟨p9, c9, e9, k9⟩ := hG2
  have zh := zh.cons (d := 4) (v := .slice p9 (l.eraseIdx i).length c9) ((Option.some.inj (zw 2 10 4 rfl (by kernel_rfl))).symm.trans e9)
  have hb4 := Chg.toBelow hc3
  clear zu zw zk
  refine WE.go zh ?_
  refine WE.next (WC.ret (WE.ret1 rfl rfl ?_))
  exact ⟨_, rfl, ⟨_, _, rfl, k9⟩, hb4⟩
def sameLi (x y : Li) : Bool := (x.neg == y.neg && T.same x.l y.l) && T.same x.r y.r
def sides (x y : Li) : Bool := (T.same x.l y.l && T.same x.r y.r) || (T.same x.l y.r && T.same x.r y.l)
set_option maxRecDepth 100000 in
theorem slit_any (x y : Li) (w : World) (u v : Value) (hu : IsLi w x u) (hv : IsLi w y v) : Calls Try.prog 32 #[u, v] w (Ret fun v' w' => v' = .bool (sameLi x y) ∧ Below w.heap.size w w') := by
 obtain ⟨a1, a2, c1, c2, rfl, h1, h2⟩ := hu.form
 obtain ⟨a3, a4, c3, c4, rfl, h3, h4⟩ := hv.form
 refine Calls.walk (l := [.agg #[.bool x.neg, .int .i64 x.l.f, .slice a1 x.l.args.length c1, .int .i64 x.r.f, .slice a2 x.r.args.length c2], .agg #[.bool y.neg, .int .i64 y.l.f, .slice a3 y.l.args.length c3, .int .i64 y.r.f, .slice a4 y.r.args.length c4]]) Try.func32 rfl (by kernel_rfl) ?_
 refine WC.sub (K' := [(0, .agg #[.bool x.neg, .int .i64 x.l.f, .slice a1 x.l.args.length c1, .int .i64 x.r.f, .slice a2 x.r.args.length c2]), (1, .agg #[.bool y.neg, .int .i64 y.l.f, .slice a3 y.l.args.length c3, .int .i64 y.r.f, .slice a4 y.r.args.length c4])]) ⟨rfl, rfl, trivial⟩ ?_
 refine WC.seq (WC.region ?_)
 refine WL.step (post := NewBlk w 60 #[.bool x.neg, .int .i64 x.l.f, .slice a1 x.l.args.length c1, .int .i64 x.r.f, .slice a2 x.r.args.length c2]) rfl rfl rfl (fun za zC zh zk => box_60 rfl (zh.ev rfl) (zk _ _ (newBlk _ _ _))) ?_
 rintro _ w1 ⟨g2, rfl, hg3, hB4, hb5, hz6⟩
 have hl7 : w.heap.size ≤ g2 := by omega
 refine WL.step (post := NewBlk w1 60 #[.bool y.neg, .int .i64 y.l.f, .slice a3 y.l.args.length c3, .int .i64 y.r.f, .slice a4 y.r.args.length c4]) rfl rfl rfl (fun za zC zh zk => box_60 rfl (zh.ev rfl) (zk _ _ (newBlk _ _ _))) ?_
 rintro _ w8 ⟨g9, rfl, hg10, hB11, hb12, hz13⟩
 have hl14 : g2 < g9 := by have z1 := hB4.lt; omega
 have hl15 : w.heap.size ≤ g9 := by have z2 := (hb5).size; omega
 refine WL.asg rfl rfl rfl rfl rfl (WL.nil (WE.next (WC.seq ?_)))
 have hB16 := hB4.below hb12
 have hb17 : Below w.heap.size w w8 := (bstep hb5 hb12)
 refine WC.opt [(true, .val (.pointer (some ⟨g2, 0, none⟩))), (true, .val (.bool x.neg)), (true, .val (.pointer (some ⟨g9, 0, none⟩))), (true, .val (.bool y.neg)), (true, .val (.bool ((x.neg == y.neg)))), (true, .val (.bool ((x.neg == y.neg)))), ((true && (x.neg == y.neg)), .val (.pointer (some ⟨g2, 1, none⟩))), ((true && (x.neg == y.neg)), .val (.agg #[.int .i64 x.l.f, .slice a1 x.l.args.length c1])), ((true && (x.neg == y.neg)), .val (.pointer (some ⟨g9, 1, none⟩))), ((true && (x.neg == y.neg)), .val (.agg #[.int .i64 y.l.f, .slice a3 y.l.args.length c3])), ((true && (x.neg == y.neg)), .val (.bool ((T.same x.l y.l)))), (true, .val (.bool (((x.neg == y.neg) && (T.same x.l y.l))))), (true, .val (.bool (((x.neg == y.neg) && (T.same x.l y.l))))), ((true && ((x.neg == y.neg) && (T.same x.l y.l))), .val (.pointer (some ⟨g2, 3, none⟩))), ((true && ((x.neg == y.neg) && (T.same x.l y.l))), .val (.agg #[.int .i64 x.r.f, .slice a2 x.r.args.length c2])), ((true && ((x.neg == y.neg) && (T.same x.l y.l))), .val (.pointer (some ⟨g9, 3, none⟩))), ((true && ((x.neg == y.neg) && (T.same x.l y.l))), .val (.agg #[.int .i64 y.r.f, .slice a4 y.r.args.length c4])), ((true && ((x.neg == y.neg) && (T.same x.l y.l))), .val (.bool ((T.same x.r y.r)))), (true, .val (.bool ((((x.neg == y.neg) && (T.same x.l y.l)) && (T.same x.r y.r))))), (true, .val (.bool ((((x.neg == y.neg) && (T.same x.l y.l)) && (T.same x.r y.r)))))] [(0, .agg #[.bool x.neg, .int .i64 x.l.f, .slice a1 x.l.args.length c1, .int .i64 x.r.f, .slice a2 x.r.args.length c2]), (1, .agg #[.bool y.neg, .int .i64 y.l.f, .slice a3 y.l.args.length c3, .int .i64 y.r.f, .slice a4 y.r.args.length c4]), (2, .pointer (some ⟨g2, 0, none⟩)), (3, .pointer (some ⟨g9, 0, none⟩))] ⟨rfl, rfl, rfl, rfl, trivial⟩ (by kernel_rfl) (by kernel_rfl) (by kernel_rfl) ?_ ?_
 ·refine ⟨⟨true, .none rfl, fun h w => optUndef h, fun zβ za zw zc => ?_⟩, ?_⟩
  ·exact fld_60_0 rfl (zc.kn.ev rfl) ⟨_, rfl, Below.refl _ _, optDef zβ rfl⟩
  refine ⟨⟨true, .none rfl, fun h w => optUndef h, fun zβ za zw zc => ?_⟩, ?_⟩
  ·exact ld_4 rfl ((evt za 5).trans (optVal (zc.dep 0 5 (by kernel_rfl)) rfl rfl)) (bkeeps zc.below _ _ ((hB16.cell 0).trans rfl)) ⟨_, rfl, Below.refl _ _, optDef zβ rfl⟩
  refine ⟨⟨true, .none rfl, fun h w => optUndef h, fun zβ za zw zc => ?_⟩, ?_⟩
  ·exact fld_60_0 rfl (zc.kn.ev rfl) ⟨_, rfl, Below.refl _ _, optDef zβ rfl⟩
  refine ⟨⟨true, .none rfl, fun h w => optUndef h, fun zβ za zw zc => ?_⟩, ?_⟩
  ·exact ld_4 rfl ((evt za 7).trans (optVal (zc.dep 2 7 (by kernel_rfl)) rfl rfl)) (bkeeps zc.below _ _ ((hB11.cell 0).trans rfl)) ⟨_, rfl, Below.refl _ _, optDef zβ rfl⟩
  refine ⟨⟨true, .none rfl, fun h w => optUndef h, fun zβ za zw zc => ?_⟩, ?_⟩
  ·exact eql_4 rfl ((evt za 6).trans (optVal (zc.dep 1 6 (by kernel_rfl)) rfl rfl)) ((evt za 8).trans (optVal (zc.dep 3 8 (by kernel_rfl)) rfl rfl)) ⟨_, rfl, Below.refl _ _, optDef zβ rfl⟩
  refine ⟨⟨true, .none rfl, fun h w => optUndef h, fun zβ za zw zc => ?_⟩, ?_⟩
  ·exact wp_move rfl ((evt za 9).trans (optVal (zc.dep 4 9 (by kernel_rfl)) rfl rfl)) ⟨_, rfl, Below.refl _ _, optDef zβ rfl⟩
  refine ⟨⟨_, .yes (c := (x.neg == y.neg)) (d := true) rfl (fun v w h => h), fun h w => optUndef h, fun zβ za zw zc => ?_⟩, ?_⟩
  ·exact fld_60_1 rfl (zc.kn.ev rfl) ⟨_, rfl, Below.refl _ _, optDef zβ rfl⟩
  refine ⟨⟨_, .yes (c := (x.neg == y.neg)) (d := true) rfl (fun v w h => h), fun h w => optUndef h, fun zβ za zw zc => ?_⟩, ?_⟩
  ·exact ld_58 rfl ((evt za 11).trans (optVal (zc.dep 6 11 (by kernel_rfl)) rfl zβ)) (bkeeps zc.below _ _ ((hB16.cell 1).trans rfl)) (bkeeps zc.below _ _ ((hB16.cell 2).trans rfl)) ⟨_, rfl, Below.refl _ _, optDef zβ rfl⟩
  refine ⟨⟨_, .yes (c := (x.neg == y.neg)) (d := true) rfl (fun v w h => h), fun h w => optUndef h, fun zβ za zw zc => ?_⟩, ?_⟩
  ·exact fld_60_1 rfl (zc.kn.ev rfl) ⟨_, rfl, Below.refl _ _, optDef zβ rfl⟩
  refine ⟨⟨_, .yes (c := (x.neg == y.neg)) (d := true) rfl (fun v w h => h), fun h w => optUndef h, fun zβ za zw zc => ?_⟩, ?_⟩
  ·exact ld_58 rfl ((evt za 13).trans (optVal (zc.dep 8 13 (by kernel_rfl)) rfl zβ)) (bkeeps zc.below _ _ ((hB11.cell 1).trans rfl)) (bkeeps zc.below _ _ ((hB11.cell 2).trans rfl)) ⟨_, rfl, Below.refl _ _, optDef zβ rfl⟩
  refine ⟨⟨_, .yes (c := (x.neg == y.neg)) (d := true) rfl (fun v w h => h), fun h w => optUndef h, fun zβ za zw zc => ?_⟩, ?_⟩
  ·exact wp_call (by kernel_rfl) rfl (hv2 ((evt za 12).trans (optVal (zc.dep 7 12 (by kernel_rfl)) rfl zβ)) ((evt za 14).trans (optVal (zc.dep 9 14 (by kernel_rfl)) rfl zβ))) (ret_of (same_any _ _ _ _ _ (IsT.below (bstep hb17 zc.below) h1) (IsT.below (bstep hb17 zc.below) h3))) (fun v w' h => ⟨v, rfl, h.2, optDef zβ h.1⟩)
  refine ⟨⟨true, .none rfl, fun h w => optUndef h, fun zβ za zw zc => ?_⟩, ?_⟩
  ·exact wp_and rfl ((evt za 10).trans (optVal (zc.dep 5 10 (by kernel_rfl)) rfl rfl)) (fun hp => ((evt za 15).trans (optVal (zc.dep 10 15 (by kernel_rfl)) rfl (bMk zβ hp)))) ⟨_, rfl, Below.refl _ _, optDef zβ rfl⟩
  refine ⟨⟨true, .none rfl, fun h w => optUndef h, fun zβ za zw zc => ?_⟩, ?_⟩
  ·exact wp_move rfl ((evt za 16).trans (optVal (zc.dep 11 16 (by kernel_rfl)) rfl rfl)) ⟨_, rfl, Below.refl _ _, optDef zβ rfl⟩
  refine ⟨⟨_, .yes (c := ((x.neg == y.neg) && (T.same x.l y.l))) (d := true) rfl (fun v w h => h), fun h w => optUndef h, fun zβ za zw zc => ?_⟩, ?_⟩
  ·exact fld_60_2 rfl (zc.kn.ev rfl) ⟨_, rfl, Below.refl _ _, optDef zβ rfl⟩
  refine ⟨⟨_, .yes (c := ((x.neg == y.neg) && (T.same x.l y.l))) (d := true) rfl (fun v w h => h), fun h w => optUndef h, fun zβ za zw zc => ?_⟩, ?_⟩
  ·exact ld_58 rfl ((evt za 18).trans (optVal (zc.dep 13 18 (by kernel_rfl)) rfl zβ)) (bkeeps zc.below _ _ ((hB16.cell 3).trans rfl)) (bkeeps zc.below _ _ ((hB16.cell 4).trans rfl)) ⟨_, rfl, Below.refl _ _, optDef zβ rfl⟩
  refine ⟨⟨_, .yes (c := ((x.neg == y.neg) && (T.same x.l y.l))) (d := true) rfl (fun v w h => h), fun h w => optUndef h, fun zβ za zw zc => ?_⟩, ?_⟩
  ·exact fld_60_2 rfl (zc.kn.ev rfl) ⟨_, rfl, Below.refl _ _, optDef zβ rfl⟩
  refine ⟨⟨_, .yes (c := ((x.neg == y.neg) && (T.same x.l y.l))) (d := true) rfl (fun v w h => h), fun h w => optUndef h, fun zβ za zw zc => ?_⟩, ?_⟩
  ·exact ld_58 rfl ((evt za 20).trans (optVal (zc.dep 15 20 (by kernel_rfl)) rfl zβ)) (bkeeps zc.below _ _ ((hB11.cell 3).trans rfl)) (bkeeps zc.below _ _ ((hB11.cell 4).trans rfl)) ⟨_, rfl, Below.refl _ _, optDef zβ rfl⟩
  refine ⟨⟨_, .yes (c := ((x.neg == y.neg) && (T.same x.l y.l))) (d := true) rfl (fun v w h => h), fun h w => optUndef h, fun zβ za zw zc => ?_⟩, ?_⟩
  ·exact wp_call (by kernel_rfl) rfl (hv2 ((evt za 19).trans (optVal (zc.dep 14 19 (by kernel_rfl)) rfl zβ)) ((evt za 21).trans (optVal (zc.dep 16 21 (by kernel_rfl)) rfl zβ))) (ret_of (same_any _ _ _ _ _ (IsT.below (bstep hb17 zc.below) h2) (IsT.below (bstep hb17 zc.below) h4))) (fun v w' h => ⟨v, rfl, h.2, optDef zβ h.1⟩)
  refine ⟨⟨true, .none rfl, fun h w => optUndef h, fun zβ za zw zc => ?_⟩, ?_⟩
  ·exact wp_and rfl ((evt za 17).trans (optVal (zc.dep 12 17 (by kernel_rfl)) rfl rfl)) (fun hp => ((evt za 22).trans (optVal (zc.dep 17 22 (by kernel_rfl)) rfl (bMk zβ hp)))) ⟨_, rfl, Below.refl _ _, optDef zβ rfl⟩
  refine ⟨⟨true, .none rfl, fun h w => optUndef h, fun zβ za zw zc => ?_⟩, ?_⟩
  ·exact wp_assign rfl ((evt za 23).trans (optVal (zc.dep 18 23 (by kernel_rfl)) rfl rfl)) ⟨_, rfl, Below.refl _ _, optDef zβ rfl⟩
  exact trivial
 ·intro za w18 zh hb19 zu
  have zh := zh.cons (d := 4) (v := .bool ((((x.neg == y.neg) && (T.same x.l y.l)) && (T.same x.r y.r)))) (optVal (zu 19 4 (by kernel_rfl)) rfl rfl)
  clear zu
  refine WE.go zh ?_
  refine WE.next (WC.ret (WE.ret1 rfl rfl ?_))
  have hb20 : Below w.heap.size w w18 := (bstep hb17 hb19)
  exact ⟨_, rfl, congrArg Value.bool (by unfold sameLi; cases x.neg <;> cases y.neg <;> cases T.same x.l y.l <;> cases T.same x.r y.r <;> rfl), hb20⟩
set_option maxRecDepth 100000 in
theorem cturn_any (x : Li) (w : World) (v : Value) (hv : IsLi w x v) : Calls Try.prog 33 #[v] w (Ret fun v' w' => IsLi w' ⟨x.neg, x.r, x.l⟩ v' ∧ Below w.heap.size w w') := by
 obtain ⟨a1, a2, c1, c2, rfl, h1, h2⟩ := hv.form
 refine Calls.walk (l := [.agg #[.bool x.neg, .int .i64 x.l.f, .slice a1 x.l.args.length c1, .int .i64 x.r.f, .slice a2 x.r.args.length c2]]) Try.func33 rfl (by kernel_rfl) ?_
 refine WC.sub (K' := [(0, .agg #[.bool x.neg, .int .i64 x.l.f, .slice a1 x.l.args.length c1, .int .i64 x.r.f, .slice a2 x.r.args.length c2])]) ⟨rfl, trivial⟩ ?_
 refine WC.seq (WC.region ?_)
 refine WL.step (post := NewBlk w 60 #[.bool x.neg, .int .i64 x.l.f, .slice a1 x.l.args.length c1, .int .i64 x.r.f, .slice a2 x.r.args.length c2]) rfl rfl rfl (fun za zC zh zk => box_60 rfl (zh.ev rfl) (zk _ _ (newBlk _ _ _))) ?_
 rintro _ w1 ⟨g2, rfl, hg3, hB4, hb5, hz6⟩
 have hl7 : w.heap.size ≤ g2 := by omega
 refine WL.step (post := NewBlk w1 60 #[.bool false, .int .i64 0, .slice none 0 0, .int .i64 0, .slice none 0 0]) rfl rfl rfl (fun za zC zh zk => alloc_60 rfl (zk _ _ (newBlk _ _ _))) ?_
 rintro _ w8 ⟨g9, rfl, hg10, hB11, hb12, hz13⟩
 have hl14 : g2 < g9 := by have z1 := hB4.lt; omega
 have hl15 : w.heap.size ≤ g9 := by have z2 := (hb5).size; omega
 refine WL.nil (WE.next (WC.seq (WC.region ?_)))
 refine WL.val _ rfl rfl rfl (fun za zC zh zk => fld_60_0 rfl (zh.ev rfl) zk) ?_
 have hB16 := hB4.below hb12
 refine WL.val _ rfl rfl rfl (fun za zC zh zk => ld_4 rfl (zh.ev rfl) ((hB16.cell 0).trans rfl) zk) ?_
 refine WL.val _ rfl rfl rfl (fun za zC zh zk => fld_60_2 rfl (zh.ev rfl) zk) ?_
 refine WL.val _ rfl rfl rfl (fun za zC zh zk => ld_58 rfl (zh.ev rfl) ((hB16.cell 3).trans rfl) ((hB16.cell 4).trans rfl) zk) ?_
 refine WL.val _ rfl rfl rfl (fun za zC zh zk => fld_60_1 rfl (zh.ev rfl) zk) ?_
 refine WL.val _ rfl rfl rfl (fun za zC zh zk => ld_58 rfl (zh.ev rfl) ((hB16.cell 1).trans rfl) ((hB16.cell 2).trans rfl) zk) ?_
 refine WL.val (.agg #[.bool x.neg, .int .i64 x.r.f, .slice a2 x.r.args.length c2, .int .i64 x.l.f, .slice a1 x.l.args.length c1]) rfl rfl rfl (fun za zC zh zk => build_60_0_1_2 rfl (zh.ev rfl) (zh.ev rfl) (zh.ev rfl) zk) ?_
 refine WL.step (post := fun _ w' => Upd g9 w8 w' ∧ Blk w' g9 60 #[.bool x.neg, .int .i64 x.r.f, .slice a2 x.r.args.length c2, .int .i64 x.l.f, .slice a1 x.l.args.length c1]) rfl rfl rfl (fun za zC zh zk => st_60 rfl (zh.ev rfl) (zh.ev rfl) rfl rfl rfl rfl rfl hB11 (by first | decide | simp) (fun v => zk v _ ⟨((((Upd.at_ _ _ _ _).trans (Upd.at_ _ _ _ _)).trans (Upd.at_ _ _ _ _)).trans (Upd.at_ _ _ _ _)).trans (Upd.at_ _ _ _ _), ((((hB11.set_ 0 _).set_ 1 _).set_ 2 _).set_ 3 _).set_ 4 _⟩)) ?_
 rintro v20 w17 ⟨hu18, hB19⟩
 have hb21 : Below w.heap.size w w8 := (bstep hb5 hb12)
 have hb22 := upd_below hb21 hu18 (by omega)
 have hB23 := upd_blk hB16 hu18 (by omega)
 refine WL.nil (WE.next (WC.ret ?_))
 refine WE.retAny (v := .agg #[.bool x.neg, .int .i64 x.r.f, .slice a2 x.r.args.length c2, .int .i64 x.l.f, .slice a1 x.l.args.length c1]) (fun za zh => ?_) ?_
 ·have z0 : za.tmps[2]?.getD undef = .pointer (some ⟨g9, 0, none⟩) := by rw [← Array.getD_eq_getD_getElem?]; exact zh.knows 2 _ rfl
  have y0 : w17.cell? ⟨g9, 0, none⟩ = some (.bool x.neg) := ((hB19.cell 0).trans rfl)
  have y1 : w17.cell? ⟨g9, 1, none⟩ = some (.int .i64 x.r.f) := ((hB19.cell 1).trans rfl)
  have y2 : w17.cell? ⟨g9, 2, none⟩ = some (.slice a2 x.r.args.length c2) := ((hB19.cell 2).trans rfl)
  have y3 : w17.cell? ⟨g9, 3, none⟩ = some (.int .i64 x.l.f) := ((hB19.cell 3).trans rfl)
  have y4 : w17.cell? ⟨g9, 4, none⟩ = some (.slice a1 x.l.args.length c1) := ((hB19.cell 4).trans rfl)
  simp [results, Try.results33, z0, y0, y1, y2, y3, y4, go_sem]
 ·exact ⟨_, rfl, isLi_mk (x := ⟨x.neg, x.r, x.l⟩) (h2.below hb22) (h1.below hb22), hb22⟩
set_option maxRecDepth 100000 in
theorem tsame_any (x y : Li) (w : World) (u v : Value) (hu : IsLi w x u) (hv : IsLi w y v) : Calls Try.prog 22 #[u, v] w (Ret fun v' w' => v' = .bool (sides x y) ∧ Below w.heap.size w w') := by
 obtain ⟨a1, a2, c1, c2, rfl, h1, h2⟩ := hu.form
 obtain ⟨a3, a4, c3, c4, rfl, h3, h4⟩ := hv.form
 refine Calls.walk (l := [.agg #[.bool x.neg, .int .i64 x.l.f, .slice a1 x.l.args.length c1, .int .i64 x.r.f, .slice a2 x.r.args.length c2], .agg #[.bool y.neg, .int .i64 y.l.f, .slice a3 y.l.args.length c3, .int .i64 y.r.f, .slice a4 y.r.args.length c4]]) Try.func22 rfl (by kernel_rfl) ?_
 refine WC.sub (K' := [(0, .agg #[.bool x.neg, .int .i64 x.l.f, .slice a1 x.l.args.length c1, .int .i64 x.r.f, .slice a2 x.r.args.length c2]), (1, .agg #[.bool y.neg, .int .i64 y.l.f, .slice a3 y.l.args.length c3, .int .i64 y.r.f, .slice a4 y.r.args.length c4])]) ⟨rfl, rfl, trivial⟩ ?_
 refine WC.seq (WC.region ?_)
 refine WL.step (post := NewBlk w 60 #[.bool x.neg, .int .i64 x.l.f, .slice a1 x.l.args.length c1, .int .i64 x.r.f, .slice a2 x.r.args.length c2]) rfl rfl rfl (fun za zC zh zk => box_60 rfl (zh.ev rfl) (zk _ _ (newBlk _ _ _))) ?_
 rintro _ w1 ⟨g2, rfl, hg3, hB4, hb5, hz6⟩
 have hl7 : w.heap.size ≤ g2 := by omega
 refine WL.step (post := NewBlk w1 60 #[.bool y.neg, .int .i64 y.l.f, .slice a3 y.l.args.length c3, .int .i64 y.r.f, .slice a4 y.r.args.length c4]) rfl rfl rfl (fun za zC zh zk => box_60 rfl (zh.ev rfl) (zk _ _ (newBlk _ _ _))) ?_
 rintro _ w8 ⟨g9, rfl, hg10, hB11, hb12, hz13⟩
 have hl14 : g2 < g9 := by have z1 := hB4.lt; omega
 have hl15 : w.heap.size ≤ g9 := by have z2 := (hb5).size; omega
 refine WL.asg rfl rfl rfl rfl rfl (WL.nil (WE.next (WC.seq (WC.region ?_))))
 refine WL.val _ rfl rfl rfl (fun za zC zh zk => fld_60_0 rfl (zh.ev rfl) zk) ?_
 have hB16 := hB4.below hb12
 refine WL.val _ rfl rfl rfl (fun za zC zh zk => ld_4 rfl (zh.ev rfl) ((hB16.cell 0).trans rfl) zk) ?_
 refine WL.val _ rfl rfl rfl (fun za zC zh zk => fld_60_0 rfl (zh.ev rfl) zk) ?_
 refine WL.step (post := fun _ w' => Upd g9 w8 w' ∧ Blk w' g9 60 #[.bool x.neg, .int .i64 y.l.f, .slice a3 y.l.args.length c3, .int .i64 y.r.f, .slice a4 y.r.args.length c4]) rfl rfl rfl (fun za zC zh zk => st_4 rfl (zh.ev rfl) (zh.ev rfl) hB11 (by first | decide | simp) (fun v => zk v _ ⟨Upd.at_ _ _ _ _, hB11.set_ 0 _⟩)) ?_
 rintro v20 w17 ⟨hu18, hB19⟩
 have hb21 : Below w.heap.size w w8 := (bstep hb5 hb12)
 have hb22 := upd_below hb21 hu18 (by omega)
 have hB23 := upd_blk hB16 hu18 (by omega)
 refine WL.nil (WE.next (WC.seq ?_))
 refine WC.opt [(true, .val (.agg #[.bool x.neg, .int .i64 x.l.f, .slice a1 x.l.args.length c1, .int .i64 x.r.f, .slice a2 x.r.args.length c2])), (true, .val (.agg #[.bool x.neg, .int .i64 y.l.f, .slice a3 y.l.args.length c3, .int .i64 y.r.f, .slice a4 y.r.args.length c4])), (true, .val (.bool ((sameLi (Li.mk x.neg x.l x.r) (Li.mk x.neg y.l y.r))))), (true, .val (.bool ((sameLi (Li.mk x.neg x.l x.r) (Li.mk x.neg y.l y.r))))), ((true && !(sameLi (Li.mk x.neg x.l x.r) (Li.mk x.neg y.l y.r))), .val (.agg #[.bool x.neg, .int .i64 x.l.f, .slice a1 x.l.args.length c1, .int .i64 x.r.f, .slice a2 x.r.args.length c2])), ((true && !(sameLi (Li.mk x.neg x.l x.r) (Li.mk x.neg y.l y.r))), .val (.agg #[.bool x.neg, .int .i64 y.l.f, .slice a3 y.l.args.length c3, .int .i64 y.r.f, .slice a4 y.r.args.length c4])), ((true && !(sameLi (Li.mk x.neg x.l x.r) (Li.mk x.neg y.l y.r))), .mem (fun v w' => IsLi w' (Li.mk x.neg y.r y.l) v) (fun v w w' hb h => h.below hb)), ((true && !(sameLi (Li.mk x.neg x.l x.r) (Li.mk x.neg y.l y.r))), .val (.bool ((sameLi (Li.mk x.neg x.l x.r) (Li.mk x.neg y.r y.l))))), (true, .val (.bool (((sameLi (Li.mk x.neg x.l x.r) (Li.mk x.neg y.l y.r)) || (sameLi (Li.mk x.neg x.l x.r) (Li.mk x.neg y.r y.l)))))), (true, .val (.bool (((sameLi (Li.mk x.neg x.l x.r) (Li.mk x.neg y.l y.r)) || (sameLi (Li.mk x.neg x.l x.r) (Li.mk x.neg y.r y.l))))))] [(0, .agg #[.bool x.neg, .int .i64 x.l.f, .slice a1 x.l.args.length c1, .int .i64 x.r.f, .slice a2 x.r.args.length c2]), (1, .agg #[.bool y.neg, .int .i64 y.l.f, .slice a3 y.l.args.length c3, .int .i64 y.r.f, .slice a4 y.r.args.length c4]), (2, .pointer (some ⟨g2, 0, none⟩)), (3, .pointer (some ⟨g9, 0, none⟩))] ⟨rfl, rfl, rfl, rfl, trivial⟩ (by kernel_rfl) (by kernel_rfl) (by kernel_rfl) ?_ ?_
 ·refine ⟨⟨true, .none rfl, fun h w => optUndef h, fun zβ za zw zc => ?_⟩, ?_⟩
  ·exact ld_60 rfl (zc.kn.ev rfl) (bkeeps zc.below _ _ ((hB23.cell 0).trans rfl)) (bkeeps zc.below _ _ ((hB23.cell 1).trans rfl)) (bkeeps zc.below _ _ ((hB23.cell 2).trans rfl)) (bkeeps zc.below _ _ ((hB23.cell 3).trans rfl)) (bkeeps zc.below _ _ ((hB23.cell 4).trans rfl)) ⟨_, rfl, Below.refl _ _, optDef zβ rfl⟩
  refine ⟨⟨true, .none rfl, fun h w => optUndef h, fun zβ za zw zc => ?_⟩, ?_⟩
  ·exact ld_60 rfl (zc.kn.ev rfl) (bkeeps zc.below _ _ ((hB19.cell 0).trans rfl)) (bkeeps zc.below _ _ ((hB19.cell 1).trans rfl)) (bkeeps zc.below _ _ ((hB19.cell 2).trans rfl)) (bkeeps zc.below _ _ ((hB19.cell 3).trans rfl)) (bkeeps zc.below _ _ ((hB19.cell 4).trans rfl)) ⟨_, rfl, Below.refl _ _, optDef zβ rfl⟩
  refine ⟨⟨true, .none rfl, fun h w => optUndef h, fun zβ za zw zc => ?_⟩, ?_⟩
  ·exact wp_call (by kernel_rfl) rfl (hv2 ((evt za 8).trans (optVal (zc.dep 0 8 (by kernel_rfl)) rfl rfl)) ((evt za 9).trans (optVal (zc.dep 1 9 (by kernel_rfl)) rfl rfl))) (slit_any (Li.mk x.neg x.l x.r) (Li.mk x.neg y.l y.r) _ _ _ (isLi_mk (x := Li.mk x.neg x.l x.r) (IsT.below (bstep hb22 zc.below) h1) (IsT.below (bstep hb22 zc.below) h2)) (isLi_mk (x := Li.mk x.neg y.l y.r) (IsT.below (bstep hb22 zc.below) h3) (IsT.below (bstep hb22 zc.below) h4))) (fun v w' h => ⟨v, rfl, h.2, optDef zβ h.1⟩)
  refine ⟨⟨true, .none rfl, fun h w => optUndef h, fun zβ za zw zc => ?_⟩, ?_⟩
  ·exact wp_move rfl ((evt za 10).trans (optVal (zc.dep 2 10 (by kernel_rfl)) rfl rfl)) ⟨_, rfl, Below.refl _ _, optDef zβ rfl⟩
  refine ⟨⟨_, .no (c := (sameLi (Li.mk x.neg x.l x.r) (Li.mk x.neg y.l y.r))) (d := true) rfl (fun v w h => h), fun h w => optUndef h, fun zβ za zw zc => ?_⟩, ?_⟩
  ·exact ld_60 rfl (zc.kn.ev rfl) (bkeeps zc.below _ _ ((hB23.cell 0).trans rfl)) (bkeeps zc.below _ _ ((hB23.cell 1).trans rfl)) (bkeeps zc.below _ _ ((hB23.cell 2).trans rfl)) (bkeeps zc.below _ _ ((hB23.cell 3).trans rfl)) (bkeeps zc.below _ _ ((hB23.cell 4).trans rfl)) ⟨_, rfl, Below.refl _ _, optDef zβ rfl⟩
  refine ⟨⟨_, .no (c := (sameLi (Li.mk x.neg x.l x.r) (Li.mk x.neg y.l y.r))) (d := true) rfl (fun v w h => h), fun h w => optUndef h, fun zβ za zw zc => ?_⟩, ?_⟩
  ·exact ld_60 rfl (zc.kn.ev rfl) (bkeeps zc.below _ _ ((hB19.cell 0).trans rfl)) (bkeeps zc.below _ _ ((hB19.cell 1).trans rfl)) (bkeeps zc.below _ _ ((hB19.cell 2).trans rfl)) (bkeeps zc.below _ _ ((hB19.cell 3).trans rfl)) (bkeeps zc.below _ _ ((hB19.cell 4).trans rfl)) ⟨_, rfl, Below.refl _ _, optDef zβ rfl⟩
  refine ⟨⟨_, .no (c := (sameLi (Li.mk x.neg x.l x.r) (Li.mk x.neg y.l y.r))) (d := true) rfl (fun v w h => h), fun h w => optUndef h, fun zβ za zw zc => ?_⟩, ?_⟩
  ·exact wp_call (by kernel_rfl) rfl (hv1 ((evt za 13).trans (optVal (zc.dep 5 13 (by kernel_rfl)) rfl zβ))) (cturn_any (Li.mk x.neg y.l y.r) _ _ (isLi_mk (x := Li.mk x.neg y.l y.r) (IsT.below (bstep hb22 zc.below) h3) (IsT.below (bstep hb22 zc.below) h4))) (fun v w' h => ⟨v, rfl, h.2, optDef zβ h.1⟩)
  refine ⟨⟨_, .no (c := (sameLi (Li.mk x.neg x.l x.r) (Li.mk x.neg y.l y.r))) (d := true) rfl (fun v w h => h), fun h w => optUndef h, fun zβ za zw zc => ?_⟩, ?_⟩
  ·exact wp_call (by kernel_rfl) rfl (hv2 ((evt za 12).trans (optVal (zc.dep 4 12 (by kernel_rfl)) rfl zβ)) (evt za 14)) (slit_any (Li.mk x.neg x.l x.r) (Li.mk x.neg y.r y.l) _ _ _ (isLi_mk (x := Li.mk x.neg x.l x.r) (IsT.below (bstep hb22 zc.below) h1) (IsT.below (bstep hb22 zc.below) h2)) (optMem (zc.dep 6 14 (by kernel_rfl)) rfl zβ)) (fun v w' h => ⟨v, rfl, h.2, optDef zβ h.1⟩)
  refine ⟨⟨true, .none rfl, fun h w => optUndef h, fun zβ za zw zc => ?_⟩, ?_⟩
  ·exact wp_or rfl ((evt za 11).trans (optVal (zc.dep 3 11 (by kernel_rfl)) rfl rfl)) (fun hp => ((evt za 15).trans (optVal (zc.dep 7 15 (by kernel_rfl)) rfl (bMkN zβ hp)))) ⟨_, rfl, Below.refl _ _, optDef zβ rfl⟩
  refine ⟨⟨true, .none rfl, fun h w => optUndef h, fun zβ za zw zc => ?_⟩, ?_⟩
  ·exact wp_assign rfl ((evt za 16).trans (optVal (zc.dep 8 16 (by kernel_rfl)) rfl rfl)) ⟨_, rfl, Below.refl _ _, optDef zβ rfl⟩
  exact trivial
 ·intro za w26 zh hb27 zu
  have zh := zh.cons (d := 4) (v := .bool (((sameLi (Li.mk x.neg x.l x.r) (Li.mk x.neg y.l y.r)) || (sameLi (Li.mk x.neg x.l x.r) (Li.mk x.neg y.r y.l))))) (optVal (zu 9 4 (by kernel_rfl)) rfl rfl)
  clear zu
  refine WE.go zh ?_
  refine WE.next (WC.ret (WE.ret1 rfl rfl ?_))
  have hb28 : Below w.heap.size w w26 := (bstep hb22 hb27)
  exact ⟨_, rfl, congrArg Value.bool (by unfold sides sameLi; cases T.same x.l y.l <;> cases T.same x.r y.r <;> cases T.same x.l y.r <;> cases T.same x.r y.l <;> simp), hb28⟩
end Go.Proofs.Ytnmopmdpnpcdhaa
