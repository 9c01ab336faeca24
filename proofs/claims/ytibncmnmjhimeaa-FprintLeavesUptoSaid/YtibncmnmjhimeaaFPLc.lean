/- What a matcher tells of what is bound: plain. -/
import Derived.Test.YtibncmnmjhimeaaFPLa
import Derived.WalkKit
import Derived.Test.YtibncmnmjhimeaaFPLb
import Derived.Scope

/- Regions in whatever order in which a row grows by append and is then given to a variable ('l = append(l, f(..))'). -/
namespace Go.Proofs.Ytibncmnmjhimeaa
open Go.RowKit Go
set_option linter.unusedVariables false
set_option linter.unusedSimpArgs false
section
variable {P : Program} {ops : Array Oper}
structure CtxH (ops : Array Oper) (chain : List Nat) (R : Nat → Value → World → Prop) (G : List (Option Value) → World → Prop) (n : Fr) (K Ke : Known) (i : Nat) (o : Oper) (a : Act) (w : World) (vs : List (Option Value)) : Prop where
 now : G vs w
 kn : Kn n K a
 dep : ∀ j d, depB ops o j d = true → chain.contains j = false → R j (a.tmps.getD d undef) w
 len : vs.length = chain.length
 link : ∀ (p c d : Nat), chain[p]? = some c → depB ops o c d = true → vs[p]? = some (some (a.tmps.getD d undef))
 done : ∀ (p c : Nat), chain[p]? = some c → o.after.any (fun e => e.on == c && Region.binds .any e) = true → ∃ v, vs[p]? = some (some v)
 most : ∀ (p c : Nat), chain[p]? = some c → afterB ops c i = true → vs[p]? = some none
 mostT : ∀ (p c : Nat), chain[p]? = some c → (ancL ops c).contains i = true → vs[p]? = some none
 old : ∀ d v, look Ke d = some v → (∀ c, (ops[c]?).bind (·.dst) = some d → (ancL ops c).contains i = true) → a.tmps.getD d undef = v
def SoundH (P : Program) (ops : Array Oper) (Q : Exit → Act → World → Prop) (chain : List Nat) (R : Nat → Value → World → Prop) (Le : World → World → Prop) (G : List (Option Value) → World → Prop) (n : Fr) (K Ke : Known) (i : Nat) (o : Oper) : Prop :=
 (chain.contains i = false ∧ ∃ β, GuardIs R o β ∧ (∀ g b, o.guard = some (g, b) → chain.contains g = false) ∧ (β = false → ∀ w, R i undef w) ∧
  (β = true → ∀ (a : Act) (w : World) (vs : List (Option Value)), CtxH ops chain R G n K Ke i o a w vs →
   o.wpIn (fen n.r) 0 P a w (fun a' w' => ∃ v, a' = Act.put a o.dst v ∧ Le w w' ∧ G vs w' ∧ R i v w') Q)) ∨
 (∃ p, chain[p]? = some i ∧ o.guard = none ∧ ∀ (a : Act) (w : World) (vs : List (Option Value)), CtxH ops chain R G n K Ke i o a w vs → vs[p]? = some none →
   o.wpIn (fen n.r) 0 P a w (fun a' w' => ∃ v, a' = Act.put a o.dst v ∧ Le w w' ∧ G (vs.set p (some v)) w') Q)
def SoundFromH (P : Program) (ops : Array Oper) (Q : Exit → Act → World → Prop) (chain : List Nat) (R : Nat → Value → World → Prop) (Le : World → World → Prop) (G : List (Option Value) → World → Prop) (n : Fr) (K Ke : Known) : Nat → List Oper → Prop
 | _, [] => True
 | k, o :: r => SoundH P ops Q chain R Le G n K Ke k o ∧ SoundFromH P ops Q chain R Le G n K Ke (k + 1) r
theorem SoundFromH.at_ {Q : Exit → Act → World → Prop} {chain : List Nat} {R : Nat → Value → World → Prop} {Le : World → World → Prop} {G : List (Option Value) → World → Prop} {n : Fr} {K Ke : Known} : ∀ {l : List Oper} {k : Nat}, SoundFromH P ops Q chain R Le G n K Ke k l → ∀ i o, l[i]? = some o → SoundH P ops Q chain R Le G n K Ke (k + i) o
 | [], _, _, i, o, h => by simp at h
 | x :: r, k, h, 0, o, ho => by simp at ho; subst ho; exact h.1
 | x :: r, k, h, i + 1, o, ho => by
  have := h.2.at_ i o (by simpa using ho)
  rwa [show k + 1 + i = k + (i + 1) by omega] at this
structure AtH (ops : Array Oper) (chain : List Nat) (R : Nat → Value → World → Prop) (G : List (Option Value) → World → Prop) (n : Fr) (K Ke : Known) (listed : Array Bool) (a : Act) (vs : List (Option Value)) (w : World) : Prop where
 size : listed.size = ops.size
 kn : Kn n K a
 plain : ∀ i d, chain.contains i = false → listed.getD i false = true → (ops[i]?).bind (·.dst) = some d → R i (a.tmps.getD d undef) w
 link : ∀ p c : Nat, chain[p]? = some c → (listed.getD c false = true ↔ ∃ v, vs[p]? = some (some v))
 vals : ∀ (p c d : Nat), chain[p]? = some c → listed.getD c false = true → (ops[c]?).bind (·.dst) = some d → vs[p]? = some (some (a.tmps.getD d undef))
 len : vs.length = chain.length
 closed : ∀ i o, ops[i]? = some o → listed.getD i false = true → ∀ e ∈ o.after, Region.binds .any e = true → listed.getD e.on false = true
 now : G vs w
 old : ∀ d v, look Ke d = some v → (∀ c, (ops[c]?).bind (·.dst) = some d → listed.getD c false = false) → a.tmps.getD d undef = v
theorem wp_any_genH {Q : Exit → Act → World → Prop} {n : Fr} {K Ke : Known} (chain : List Nat) (R : Nat → Value → World → Prop) (Le : World → World → Prop) (G : List (Option Value) → World → Prop)
  (hB : opsB ops n.n = true) (hnd : chain.Nodup) (hin : (chain.all fun c => Nat.blt c ops.size) = true) (hclear : clearB ops K = true)
  (hR : ∀ i v w w', R i v w → Le w w' → R i v w')
  (h : SoundFromH P ops Q chain R Le G n K Ke 0 ops.toList)
  (hQ : ∀ (a : Act) (w : World) (vs : List (Option Value)), Kn n K a → vs.length = chain.length → (∀ p, p < chain.length → ∃ v, vs[p]? = some (some v)) → G vs w → (∀ i d, (ops[i]?).bind (·.dst) = some d → chain.contains i = false → R i (a.tmps.getD d undef) w) → (∀ (p c d : Nat), chain[p]? = some c → (ops[c]?).bind (·.dst) = some d → vs[p]? = some (some (a.tmps.getD d undef))) → Q .normal a w) :
  ∀ (a0 : Act) (w0 : World), Kn n K a0 → Kn n Ke a0 → G (List.replicate chain.length none) w0 → wpAnyIn (fen n.r) 0 P .any ops Q ops.size (Array.replicate ops.size false) a0 w0 := by
 have main : ∀ (fuel : Nat) (listed : Array Bool) (a : Act) (vs : List (Option Value)) (w : World), listed.toList.count false ≤ fuel → AtH ops chain R G n K Ke listed a vs w →
   wpAnyIn (fen n.r) 0 P .any ops Q fuel listed a w := by
  intro fuel
  have done : ∀ (listed : Array Bool) (a : Act) (vs : List (Option Value)) (w : World), Region.ready .any ops listed = [] → AtH ops chain R G n K Ke listed a vs w → Q .normal a w := by
   intro listed a vs w hr H
   have all : ∀ i, i < ops.size → listed.getD i false = true := fun i hi => by
    have := ready_nil hB H.size hr i hi
    have hs := H.size
    simpa [Array.getD, show i < listed.size by omega] using this
   have hin' : ∀ p c, chain[p]? = some c → c < ops.size := fun p c hc => by
    have := List.all_eq_true.1 hin _ (List.mem_of_getElem? hc)
    simpa [Nat.blt_eq] using this
   have lt_of : ∀ i d, (ops[i]?).bind (·.dst) = some d → i < ops.size := fun i d hd => by
    rcases Nat.lt_or_ge i ops.size with h | h
    ·exact h
    ·simp [Array.getElem?_eq_none h] at hd
   exact hQ a w vs H.kn H.len (fun p hp => (H.link p chain[p] (by simp [hp])).1 (all _ (hin' p _ (by simp [hp])))) H.now (fun i d hd hc => H.plain i d hc (all i (lt_of i d hd)) hd) (fun p c d hc hd => H.vals p c d hc (all c (hin' p c hc)) hd)
  induction fuel with
  | zero =>
   intro listed a vs w hc H
   have hr : Region.ready .any ops listed = [] := by
    cases hr : Region.ready .any ops listed with
    | nil => rfl
    | cons i r =>
     have := (mem_ready (md := .any) (ops := ops) (j := i) (listed := listed)).1 (by rw [hr]; simp)
     rw [count_zero hc i] at this
     simp at this
   exact ⟨hr, done listed a vs w hr H⟩
  | succ fuel ih =>
   intro listed a vs w hc H
   refine ⟨fun hr => done listed a vs w hr H, fun i hi => ?_⟩
   obtain ⟨hun, o, ho, haf⟩ := mem_ready.1 hi
   have hilt : i < ops.size := by
    rcases Nat.lt_or_ge i ops.size with h | h
    ·exact h
    ·simp [Array.getElem?_eq_none h] at ho
   have hils : i < listed.size := by have := H.size; omega
   have hun' := getD_false_of hun
   have ok := opsB_spec hB ho
   have hs2 := h.at_ i o (by simpa using ho)
   rw [Nat.zero_add] at hs2
   have after_of : ∀ j d, depB ops o j d = true → listed.getD j false = true ∧ (ops[j]?).bind (·.dst) = some d := by
    intro j d hj
    simp only [depB, Bool.and_eq_true, Array.any_eq_true, beq_iff_eq] at hj
    obtain ⟨⟨k, hk, h1, h2⟩, h3⟩ := hj
    exact ⟨h1 ▸ haf _ (Array.getElem_mem hk) h2, h3⟩
   have ctx : CtxH ops chain R G n K Ke i o a w vs := by
    have opt : ∀ p c, chain[p]? = some c → listed.getD c false = false → vs[p]? = some none := fun p c hc hl => by
     have hp : p < vs.length := by rw [H.len]; exact (List.getElem?_eq_some_iff.1 hc).1
     rw [List.getElem?_eq_getElem hp]
     cases hx : vs[p] with
     | none => rfl
     | some v =>
      have := (H.link p c hc).2 ⟨v, by rw [List.getElem?_eq_getElem hp, hx]⟩
      rw [hl] at this; cases this
    refine ⟨H.now, H.kn, fun j d hj hc => H.plain j d hc (after_of j d hj).1 (after_of j d hj).2, H.len, fun p c d hc hj => H.vals p c d hc (after_of c d hj).1 (after_of c d hj).2, fun p c hc ha => ?_, fun p c hc ha => opt p c hc ?_, fun p c hc ha => opt p c hc ?_, fun d v hd hc => H.old d v hd fun c hcd => ?_⟩
    ·simp only [Array.any_eq_true, Bool.and_eq_true, beq_iff_eq] at ha
     obtain ⟨k, hk, h1, h2⟩ := ha
     exact (H.link p c hc).1 (h1 ▸ haf _ (Array.getElem_mem hk) h2)
    ·cases hl : listed.getD c false with
     | false => rfl
     | true =>
      exfalso
      unfold afterB at ha
      split at ha
      ·rename_i oc hoc
       simp only [Array.any_eq_true, Bool.and_eq_true, beq_iff_eq] at ha
       obtain ⟨k, hk, h1, h2⟩ := ha
       have := H.closed c oc hoc hl _ (Array.getElem_mem hk) h2
       rw [h1, hun'] at this
       cases this
      ·cases ha
    ·cases hl : listed.getD c false with
     | false => rfl
     | true =>
      exfalso
      have := anc_listed H.closed hl i (by simpa using ha)
      rw [hun'] at this
      cases this
    ·cases hl : listed.getD c false with
     | false => rfl
     | true =>
      exfalso
      have := anc_listed H.closed hl i (by simpa using hc c hcd)
      rw [hun'] at this
      cases this
   unfold wpOpIn
   simp only [ho]
   -- what is behind a step
   have step : ∀ (v : Value) (vs' : List (Option Value)) (w' : World), (∀ j u, R j u w → R j u w') → G vs' w' → (∀ d, o.dst = some d → chain.contains i = false → R i v w') →
     ((chain.contains i = false ∧ vs' = vs) ∨ (∃ p, chain[p]? = some i ∧ vs' = vs.set p (some v))) →
     wpAnyIn (fen n.r) 0 P .any ops Q fuel (listed.setIfInBounds i true) (Act.put a o.dst v) w' := by
    intro v vs' w' hle hG hRi hvs
    have hc' := count_set (l := listed) hils hun hc
    have hset : ∀ j, (listed.setIfInBounds i true).getD j false = true ↔ j = i ∨ listed.getD j false = true := by
     intro j
     by_cases hj : j = i
     ·subst hj; simp [getD_set_eq hils]
     ·rw [getD_set_ne false (Ne.symm hj)]; simp [hj]
    have hother : ∀ j k, j ≠ i → (ops[j]?).bind (·.dst) = some k → (Act.put a o.dst v).tmps.getD k undef = a.tmps.getD k undef := by
     intro j k hji hjk
     refine act_put_other (fun hd => ?_)
     have hjlt : j < ops.size := by
      rcases Nat.lt_or_ge j ops.size with h | h
      ·exact h
      ·simp [Array.getElem?_eq_none h] at hjk
     exact hji (ok.own k j hd hjlt hjk).symm
    have hself : ∀ d, (ops[i]?).bind (·.dst) = some d → (Act.put a o.dst v).tmps.getD d undef = v := by
     intro d hd
     rw [ho] at hd
     simp only [Option.bind_some] at hd
     rw [hd]
     exact act_put_self (by rw [H.kn.size]; exact ok.lt d hd)
    refine ih _ _ vs' w' hc' ⟨by simpa using H.size, H.kn.put_clear (fun k hk => clearB_look hclear (mem_dsts ho hk)) v, fun j d hjc hj hjd => ?_, fun p c hpc => ?_, fun p c d hpc hp hcd => ?_, ?_, fun j oj hoj hj e he hb => ?_, hG, fun d u hd hc => ?_⟩
    ·by_cases hji : j = i
     ·subst hji
      rw [hself d hjd]
      rw [ho] at hjd
      exact hRi d hjd hjc
     ·rw [hother j d hji hjd]
      exact hle _ _ (H.plain j d hjc (((hset j).1 hj).resolve_left hji) hjd)
    ·rw [hset]
     rcases hvs with ⟨hci, rfl⟩ | ⟨q, hq, rfl⟩
     ·have : c ≠ i := by
       rintro rfl
       have := List.mem_of_getElem? hpc
       simp [this] at hci
      exact ⟨fun h => (H.link p c hpc).1 (h.resolve_left this), fun h => .inr ((H.link p c hpc).2 h)⟩
     ·have hpl : q < vs.length := by rw [H.len]; exact (List.getElem?_eq_some_iff.1 hq).1
      by_cases hpq : p = q
      ·subst hpq
       rw [hq] at hpc
       simp only [Option.some.injEq] at hpc
       subst hpc
       exact ⟨fun _ => ⟨v, by rw [List.getElem?_set_self hpl]⟩, fun _ => .inl rfl⟩
      ·have hci : c ≠ i := by
        rintro rfl
        exact hpq ((List.getElem?_inj (List.getElem?_eq_some_iff.1 hpc).1 hnd).1 (hpc.trans hq.symm))
       rw [List.getElem?_set_ne (Ne.symm hpq)]
       exact ⟨fun h => (H.link p c hpc).1 (h.resolve_left hci), fun h => .inr ((H.link p c hpc).2 h)⟩
    ·rcases hvs with ⟨hci, rfl⟩ | ⟨q, hq, rfl⟩
     ·have hne : c ≠ i := by
       rintro rfl
       have := List.mem_of_getElem? hpc
       simp [this] at hci
      rw [hother c d hne hcd]
      exact H.vals p c d hpc (((hset c).1 hp).resolve_left hne) hcd
     ·have hpl : q < vs.length := by rw [H.len]; exact (List.getElem?_eq_some_iff.1 hq).1
      by_cases hpq : p = q
      ·subst hpq
       rw [hq] at hpc
       simp only [Option.some.injEq] at hpc
       subst hpc
       rw [hself d hcd, List.getElem?_set_self hpl]
      ·have hne : c ≠ i := by
        rintro rfl
        exact hpq ((List.getElem?_inj (List.getElem?_eq_some_iff.1 hpc).1 hnd).1 (hpc.trans hq.symm))
       rw [hother c d hne hcd, List.getElem?_set_ne (Ne.symm hpq)]
       exact H.vals p c d hpc (((hset c).1 hp).resolve_left hne) hcd
    ·rcases hvs with ⟨hci, rfl⟩ | ⟨q, hq, rfl⟩
     ·exact H.len
     ·rw [List.length_set]; exact H.len
    ·rw [hset]
     by_cases hji : j = i
     ·subst hji
      rw [ho] at hoj
      simp only [Option.some.injEq] at hoj
      subst hoj
      exact .inr (haf e he hb)
     ·exact .inr (H.closed j oj hoj (((hset j).1 hj).resolve_left hji) e he hb)
    ·have hne : o.dst ≠ some d := fun e => by
      have := hc i (by rw [ho]; exact e)
      rw [(hset i).2 (.inl rfl)] at this
      cases this
     rw [act_put_other hne]
     refine H.old d u hd fun c hcd => ?_
     cases hl : listed.getD c false with
     | false => rfl
     | true => have := hc c hcd; rw [(hset c).2 (.inr hl)] at this; cases this
   rcases hs2 with ⟨hci, β, hg, hgc, hs1, hs2⟩ | ⟨p, hp, hgn, hs2⟩
   ·have hwant : Region.wanted o (yielded ops a.tmps) = β := by
     have known : ∀ g c d b, o.guard = some (g, b) → (∀ v w, R g v w → (d = true → v = .bool c) ∧ (d = false → v = undef)) → yielded ops a.tmps g = if d then some c else none := by
      intro g c dd b hgb hv
      obtain ⟨⟨e, he, h1, h2⟩, d, hd⟩ := ok.guard g b hgb
      have hv := hv (a.tmps.getD d undef) w (H.plain g d (hgc g b hgb) (h1 ▸ haf e he h2) hd)
      have hdlt : d < a.tmps.size := by
       obtain ⟨og, hog, hgd⟩ := Option.bind_eq_some_iff.1 hd
       rw [H.kn.size]
       exact (opsB_spec hB hog).lt d hgd
      unfold yielded
      rw [hd]
      simp only [Array.getD_eq_getD_getElem?, Array.getElem?_eq_getElem hdlt, Option.getD_some] at hv
      cases dd with
      | true => simp [hdlt, hv.1 rfl]
      | false => simp [hdlt, hv.2 rfl, undef]
     cases hg with
     | none h => unfold Region.wanted; rw [h]
     | @yes g c d h hv => have := known _ _ _ _ h hv; unfold Region.wanted; rw [h]; simp only [this]; cases d <;> simp
     | @no g c d h hv => have := known _ _ _ _ h hv; unfold Region.wanted; rw [h]; simp only [this]; cases d <;> cases c <;> simp
    cases hβ : β with
    | false =>
     rw [hβ] at hwant
     simp only [hwant, Bool.false_eq_true, if_false]
     refine ⟨fun f _ => fen_fn _ f, ?_⟩
     exact step undef vs w (fun _ _ h => h) H.now (fun _ _ _ => hs1 hβ w) (.inl ⟨hci, rfl⟩)
    | true =>
     rw [hβ] at hwant
     simp only [hwant, if_true]
     refine Oper.wpIn_mono ?_ (hs2 hβ a w vs ctx)
     rintro a' w' ⟨v, rfl, hle, hG, hRi⟩
     exact step v vs w' (fun j u hj => hR j u _ _ hj hle) hG (fun _ _ _ => hRi) (.inl ⟨hci, rfl⟩)
   ·have hwant : Region.wanted o (yielded ops a.tmps) = true := by unfold Region.wanted; rw [hgn]
    have hnone : vs[p]? = some none := by
     have hp' : p < vs.length := by rw [H.len]; exact (List.getElem?_eq_some_iff.1 hp).1
     rw [List.getElem?_eq_getElem hp']
     cases hx : vs[p] with
     | none => rfl
     | some v =>
      have := (H.link p i hp).2 ⟨v, by rw [List.getElem?_eq_getElem hp', hx]⟩
      rw [hun'] at this; cases this
    simp only [hwant, if_true]
    refine Oper.wpIn_mono ?_ (hs2 a w vs ctx hnone)
    rintro a' w' ⟨v, rfl, hle, hG⟩
    have hcc : chain.contains i = true := by
     have := List.mem_of_getElem? hp
     simpa using this
    exact step v (vs.set p (some v)) w' (fun j u hj => hR j u _ _ hj hle) hG (fun _ _ h => by rw [hcc] at h; cases h) (.inr ⟨p, hp, rfl⟩)
 intro a0 w0 hk0 hke h0
 have nothing' : ∀ i, (Array.replicate ops.size false).getD i false = false := fun i => by
  by_cases h : i < ops.size <;> simp [Array.getD, h]
 refine main _ _ _ (List.replicate chain.length none) _ (by simp) ⟨by simp, hk0, fun i d _ hi => ?_, fun p c hpc => ?_, fun p c d _ hp => ?_, by simp, fun i o _ hi => ?_, h0, fun d v hd _ => hke.knows d v hd⟩
 ·rw [nothing'] at hi; cases hi
 ·rw [nothing']
  refine ⟨fun h => (by cases h), fun ⟨v, hv⟩ => ?_⟩
  have hp := (List.getElem?_eq_some_iff.1 hpc).1
  simp [hp] at hv
 ·rw [nothing'] at hp; cases hp
 ·rw [nothing'] at hi; cases hi
/-- The law: of what is known of the frame 'K0' is what the region does not write. -/
theorem WC.genH {id : Nat} {dr : Bool} {Q : Exit → Act → World → Prop} {n : Fr} {K : Known} {w : World} (chain : List Nat) (R : Nat → Value → World → Prop) (Le : World → World → Prop) (G : List (Option Value) → World → Prop) (K0 : Known)
  (hs : subK K0 K) (hclear : clearB ops K0 = true) (hm : P.follows .mixedOrders = true) (hB : opsB ops n.n = true) (hnd : chain.Nodup) (hin : (chain.all fun c => Nat.blt c ops.size) = true)
  (hR : ∀ i v w w', R i v w → Le w w' → R i v w') (h0 : G (List.replicate chain.length none) (bif dr then w.drew else w))
  (h : SoundFromH P ops Q chain R Le G n K0 K 0 ops.toList)
  (hQ : ∀ (a : Act) (w : World) (vs : List (Option Value)), Kn n K0 a → vs.length = chain.length → (∀ p, p < chain.length → ∃ v, vs[p]? = some (some v)) → G vs w → (∀ i d, (ops[i]?).bind (·.dst) = some d → chain.contains i = false → R i (a.tmps.getD d undef) w) → (∀ (p c d : Nat), chain[p]? = some c → (ops[c]?).bind (·.dst) = some d → vs[p]? = some (some (a.tmps.getD d undef))) → Q .normal a w) :
  WC P n K w (.region id ops dr) Q := by
 intro a ha
 have main := wp_any_genH (Ke := K) chain R Le G hB hnd hin hclear hR h hQ a
 cases dr with
 | true => exact wpIn_region_any hm (main _ (ha.sub hs) ha h0)
 | false => exact any_start hB (main _ (ha.sub hs) ha h0)
end
section
variable {P : Program} {ops : Array Oper} {S : Nat → Prop}
/-- That slot 'd' is not written yet. -/
def earlyB (ops : Array Oper) (i d : Nat) : Bool := (List.range ops.size).all fun c => !((ops[c]?).bind (·.dst) == some d) || (ancL ops c).contains i
theorem earlyB_of {ops : Array Oper} {i d : Nat} (h : earlyB ops i d = true) : ∀ c, (ops[c]?).bind (·.dst) = some d → (ancL ops c).contains i = true := fun c hc => by
 have hlt : c < ops.size := by
  rcases Nat.lt_or_ge c ops.size with h | h
  ·exact h
  ·simp [Array.getElem?_eq_none h] at hc
 have := List.all_eq_true.1 h c (List.mem_range.2 hlt)
 simpa [hc] using this
structure CtxA3 (ops : Array Oper) (l : List (Bool × SpS S)) (chain : List Nat) (first : Nat) (n : Fr) (K Ke : Known) (w0 : World) (i : Nat) (o : Oper) (a : Act) (w : World) : Prop extends CtxA ops l chain first n K w0 i o a w where
 old : ∀ d v, look Ke d = some v → earlyB ops i d = true → a.tmps.getD d undef = v
def Tail3 (P : Program) (ops : Array Oper) (Q : Exit → Act → World → Prop) (l : List (Bool × SpS S)) (n : Fr) (K Ke : Known) (w0 : World) (p q N : Nat) (GA : Option Addr → Nat → World → Prop) : Nat → List Oper → Prop
 | _, [] => True
 | i, o :: r => (([p, q].contains i = false ∧ ∃ β, GuardIs (optS l) o β ∧ (∀ g b, o.guard = some (g, b) → [p, q].contains g = false) ∧ (β = false → ∀ w, optS l i undef w) ∧
   (β = true → ∀ a w, CtxA3 ops l [p, q] p n K Ke w0 i o a w → o.wp P a w (fun a' w' => ∃ v, a' = Act.put a o.dst v ∧ Below w.heap.size w w' ∧ optS l i v w') Q)) ∨
  (i = p ∧ o.guard = none ∧ ∀ a w, CtxB ops l [p, q] n K w0 o a w → o.wp P a w (fun a' w' => ∃ ra rc, a' = Act.put a o.dst (.slice ra N rc) ∧ GA ra rc w' ∧ Chg S w w') Q) ∨
  (i = q ∧ o.guard = none ∧ ∃ d, depB ops o p d = true ∧ o.op = .assign (.tmp d))) ∧ Tail3 P ops Q l n K Ke w0 p q N GA (i + 1) r
def G3 (S : Nat → Prop) (w0 : World) (N : Nat) (GA : Option Addr → Nat → World → Prop) : List (Option Value) → World → Prop
 | [none, none], w => Below w0.heap.size w0 w
 | [some v, none], w => ∃ ra rc, v = .slice ra N rc ∧ GA ra rc w ∧ Chg S w0 w
 | [some v, some u], w => ∃ ra rc, v = .slice ra N rc ∧ u = .slice ra N rc ∧ GA ra rc w ∧ Chg S w0 w
 | _, _ => False
theorem G3.chg {w0 w : World} {N : Nat} {GA : Option Addr → Nat → World → Prop} : ∀ {vs : List (Option Value)}, G3 S w0 N GA vs w → Chg S w0 w
 | [none, none], h => .ofBelow h
 | [some _, none], h => by obtain ⟨_, _, _, _, h⟩ := h; exact h
 | [some _, some _], h => by obtain ⟨_, _, _, _, _, h⟩ := h; exact h
 | [none, some _], h => h.elim
 | [], h => h.elim
 | [x], h => by cases x <;> exact h.elim
 | _ :: _ :: _ :: _, h => by simp [G3] at h
theorem Tail3.gen {Q : Exit → Act → World → Prop} {l : List (Bool × SpS S)} {n : Fr} {K Ke : Known} {w0 : World} {p q N : Nat} {GA : Option Addr → Nat → World → Prop} (hpq : p ≠ q) (hGA : ∀ ra rc w w', Below w.heap.size w w' → GA ra rc w → GA ra rc w') : ∀ {lo : List Oper} {i : Nat}, Tail3 P ops Q l n K Ke w0 p q N GA i lo →
  SoundFromH P ops Q [p, q] (optS l) (Chg S) (G3 S w0 N GA) n K Ke i lo
 | [], _, _ => trivial
 | o :: r, i, ⟨h, hr⟩ => by
  refine ⟨?_, hr.gen hpq hGA⟩
  rcases h with ⟨hi, β, h1, h2, h3, h4⟩ | ⟨rfl, hg, h4⟩ | ⟨rfl, hg, d, hd, ho⟩
  ·refine .inl ⟨hi, β, h1, h2, h3, fun hβ a w vs C => ?_⟩
   refine Oper.wpIn_mono ?_ (wpIn_of (h4 hβ a w ⟨⟨C.now.chg, C.kn, C.dep, fun he => ?_⟩, fun d v hd hb => C.old d v hd (earlyB_of hb)⟩) (by rintro a' w' ⟨v, rfl, _⟩; exact put_defers _ _ _))
   ·rintro a' w' ⟨v, rfl, hb, hR⟩
    refine ⟨v, rfl, .ofBelow hb, ?_, hR⟩
    match vs, C.len, C.now with
    | [none, none], _, h => exact bstep h hb
    | [some _, none], _, ⟨ra, rc, e, h, hc⟩ => exact ⟨ra, rc, e, hGA _ _ _ _ hb h, hc.trans (.ofBelow hb)⟩
    | [some _, some _], _, ⟨ra, rc, e, e2, h, hc⟩ => exact ⟨ra, rc, e, e2, hGA _ _ _ _ hb h, hc.trans (.ofBelow hb)⟩
    | [none, some _], _, h => exact h.elim
   ·have := C.mostT 0 p rfl he
    match vs, C.len, C.now, this with
    | [none, none], _, h, _ => exact h
    | [none, some _], _, h, _ => exact h.elim
  ·refine .inr ⟨0, rfl, hg, fun a w vs C hn => ?_⟩
   match vs, C.len, C.now, hn, C with
   | [none, none], _, h, _, C =>
    refine Oper.wpIn_mono ?_ (wpIn_of (h4 a w ⟨h, C.kn, C.dep⟩) (by rintro a' w' ⟨_, _, rfl, _⟩; exact put_defers _ _ _))
    rintro a' w' ⟨ra, rc, rfl, hG, hc⟩
    exact ⟨_, rfl, hc, ra, rc, rfl, hG, (Chg.ofBelow h).trans hc⟩
   | [none, some _], _, h, _, _ => exact h.elim
  ·refine .inr ⟨1, rfl, hg, fun a w vs C hn => ?_⟩
   have hl := C.link 0 p d rfl hd
   match vs, C.len, C.now, hn, hl, C with
   | [some v, none], _, ⟨ra, rc, e, h, hc⟩, _, hl, C =>
    have hv : v = a.tmps.getD d undef := by simpa using hl
    refine Oper.wpIn_mono ?_ (wpIn_of (K := fun a' w' => a' = Act.put a o.dst (.slice ra N rc) ∧ w' = w) (wp_assign ho (show a.tmps.getD d undef = .slice ra N rc from (hv ▸ e)) ⟨rfl, rfl⟩) (by rintro a' w' ⟨rfl, _⟩; exact put_defers _ _ _))
    rintro a' w' ⟨rfl, rfl⟩
    exact ⟨_, rfl, .refl _ _, ra, rc, e, rfl, h, hc⟩
theorem WC.tail3 {id : Nat} {dr : Bool} {Q : Exit → Act → World → Prop} {n : Fr} {K : Known} {w : World} (l : List (Bool × SpS S)) (K0 : Known) (p q N dp dq : Nat) (GA : Option Addr → Nat → World → Prop) (hpq : p ≠ q) (hGA : ∀ ra rc w w', Below w.heap.size w w' → GA ra rc w → GA ra rc w')
  (hs : subK K0 K) (hclear : clearB ops K0 = true) (hm : P.follows .mixedOrders = true) (hB : opsB ops n.n = true) (hin : ([p, q].all fun c => Nat.blt c ops.size) = true) (hdp : (ops[p]?).bind (·.dst) = some dp) (hdq : (ops[q]?).bind (·.dst) = some dq)
  (h : Tail3 P ops Q l n K0 K w p q N GA 0 ops.toList)
  (hQ : ∀ (a : Act) (w' : World) (ra : Option Addr) (rc : Nat), Kn n K0 a → a.tmps.getD dp undef = .slice ra N rc → a.tmps.getD dq undef = .slice ra N rc → GA ra rc w' → Chg S w w' → (∀ i d, (ops[i]?).bind (·.dst) = some d → [p, q].contains i = false → optS l i (a.tmps.getD d undef) w') → Q .normal a w') :
  WC P n K w (.region id ops dr) Q := by
 refine WC.genH [p, q] (optS l) (Chg S) (G3 S w N GA) K0 hs hclear hm hB (by simpa using hpq) hin (optSKeep l) ?_ (h.gen hpq hGA) (fun a w' vs hk hlen hall hG hu hl => ?_)
 ·cases dr with
  | true => exact (Below.refl _ _).drew
  | false => exact Below.refl _ _
 ·obtain ⟨v, hv⟩ := hall 0 (by simp)
  obtain ⟨u, hu1⟩ := hall 1 (by simp)
  have hx := hl 0 p dp rfl hdp
  have hx2 := hl 1 q dq rfl hdq
  match vs, hlen, hv, hu1, hx, hx2, hG with
  | [some y, some z], _, _, _, hx, hx2, ⟨ra, rc, e, e2, hG, hc⟩ =>
   have hy : y = a.tmps.getD dp undef := by simpa using hx
   have hz : z = a.tmps.getD dq undef := by simpa using hx2
   exact hQ a w' ra rc hk (hy ▸ e) (hz ▸ e2) hG hc hu
end
end Go.Proofs.Ytibncmnmjhimeaa

/- Regions in whatever order, in which operations that change the memory may be guarded: one behind the other, each with what it yields. -/
namespace Go.Proofs.Ytibncmnmjhimeaa
open Go.RowKit Go
set_option linter.unusedVariables false
set_option linter.unusedSimpArgs false
section
variable {P : Program} {ops : Array Oper}
structure CtxQ (ops : Array Oper) (chain : List Nat) (R : Nat → Value → World → Prop) (G : List (Option Value) → World → Prop) (n : Fr) (K Ke : Known) (i : Nat) (o : Oper) (a : Act) (w : World) (vs : List (Option Value)) : Prop extends CtxH ops chain R G n K Ke i o a w vs where
 anc : ∀ (p c : Nat), chain[p]? = some c → o.after.any (fun e => Region.binds .any e && (ancL ops e.on).contains c) = true → ∃ v, vs[p]? = some (some v)
def SoundQ (P : Program) (ops : Array Oper) (Q : Exit → Act → World → Prop) (chain : List Nat) (R : Nat → Value → World → Prop) (Le : World → World → Prop) (G : List (Option Value) → World → Prop) (n : Fr) (K Ke : Known) (i : Nat) (o : Oper) : Prop :=
 (chain.contains i = false ∧ ∃ β, GuardIs R o β ∧ (∀ g b, o.guard = some (g, b) → chain.contains g = false) ∧ (β = false → ∀ w, R i undef w) ∧
  (β = true → ∀ (a : Act) (w : World) (vs : List (Option Value)), CtxQ ops chain R G n K Ke i o a w vs →
   o.wpIn (fen n.r) 0 P a w (fun a' w' => ∃ v, a' = Act.put a o.dst v ∧ Le w w' ∧ G vs w' ∧ R i v w') Q)) ∨
 (∃ p, chain[p]? = some i ∧ ∃ β, GuardIs R o β ∧ (∀ g b, o.guard = some (g, b) → chain.contains g = false) ∧
  (β = false → ∀ (a : Act) (w : World) (vs : List (Option Value)), CtxQ ops chain R G n K Ke i o a w vs → vs[p]? = some none → G (vs.set p (some undef)) w) ∧
  (β = true → ∀ (a : Act) (w : World) (vs : List (Option Value)), CtxQ ops chain R G n K Ke i o a w vs → vs[p]? = some none →
   o.wpIn (fen n.r) 0 P a w (fun a' w' => ∃ v, a' = Act.put a o.dst v ∧ Le w w' ∧ G (vs.set p (some v)) w') Q))
def SoundFromQ (P : Program) (ops : Array Oper) (Q : Exit → Act → World → Prop) (chain : List Nat) (R : Nat → Value → World → Prop) (Le : World → World → Prop) (G : List (Option Value) → World → Prop) (n : Fr) (K Ke : Known) : Nat → List Oper → Prop
 | _, [] => True
 | k, o :: r => SoundQ P ops Q chain R Le G n K Ke k o ∧ SoundFromQ P ops Q chain R Le G n K Ke (k + 1) r
theorem SoundFromQ.at_ {Q : Exit → Act → World → Prop} {chain : List Nat} {R : Nat → Value → World → Prop} {Le : World → World → Prop} {G : List (Option Value) → World → Prop} {n : Fr} {K Ke : Known} : ∀ {l : List Oper} {k : Nat}, SoundFromQ P ops Q chain R Le G n K Ke k l → ∀ i o, l[i]? = some o → SoundQ P ops Q chain R Le G n K Ke (k + i) o
 | [], _, _, i, o, h => by simp at h
 | x :: r, k, h, 0, o, ho => by simp at ho; subst ho; exact h.1
 | x :: r, k, h, i + 1, o, ho => by
  have := h.2.at_ i o (by simpa using ho)
  rwa [show k + 1 + i = k + (i + 1) by omega] at this
theorem wp_any_genQ {Q : Exit → Act → World → Prop} {n : Fr} {K Ke : Known} (chain : List Nat) (R : Nat → Value → World → Prop) (Le : World → World → Prop) (G : List (Option Value) → World → Prop)
  (hB : opsB ops n.n = true) (hnd : chain.Nodup) (hin : (chain.all fun c => Nat.blt c ops.size) = true) (hclear : clearB ops K = true)
  (hR : ∀ i v w w', R i v w → Le w w' → R i v w')
  (h : SoundFromQ P ops Q chain R Le G n K Ke 0 ops.toList)
  (hQ : ∀ (a : Act) (w : World) (vs : List (Option Value)), Kn n K a → vs.length = chain.length → (∀ p, p < chain.length → ∃ v, vs[p]? = some (some v)) → G vs w → (∀ i d, (ops[i]?).bind (·.dst) = some d → chain.contains i = false → R i (a.tmps.getD d undef) w) → (∀ (p c d : Nat), chain[p]? = some c → (ops[c]?).bind (·.dst) = some d → vs[p]? = some (some (a.tmps.getD d undef))) → Q .normal a w) :
  ∀ (a0 : Act) (w0 : World), Kn n K a0 → Kn n Ke a0 → G (List.replicate chain.length none) w0 → wpAnyIn (fen n.r) 0 P .any ops Q ops.size (Array.replicate ops.size false) a0 w0 := by
 have main : ∀ (fuel : Nat) (listed : Array Bool) (a : Act) (vs : List (Option Value)) (w : World), listed.toList.count false ≤ fuel → AtH ops chain R G n K Ke listed a vs w →
   wpAnyIn (fen n.r) 0 P .any ops Q fuel listed a w := by
  intro fuel
  have done : ∀ (listed : Array Bool) (a : Act) (vs : List (Option Value)) (w : World), Region.ready .any ops listed = [] → AtH ops chain R G n K Ke listed a vs w → Q .normal a w := by
   intro listed a vs w hr H
   have all : ∀ i, i < ops.size → listed.getD i false = true := fun i hi => by
    have := ready_nil hB H.size hr i hi
    have hs := H.size
    simpa [Array.getD, show i < listed.size by omega] using this
   have hin' : ∀ p c, chain[p]? = some c → c < ops.size := fun p c hc => by
    have := List.all_eq_true.1 hin _ (List.mem_of_getElem? hc)
    simpa [Nat.blt_eq] using this
   have lt_of : ∀ i d, (ops[i]?).bind (·.dst) = some d → i < ops.size := fun i d hd => by
    rcases Nat.lt_or_ge i ops.size with h | h
    ·exact h
    ·simp [Array.getElem?_eq_none h] at hd
   exact hQ a w vs H.kn H.len (fun p hp => (H.link p chain[p] (by simp [hp])).1 (all _ (hin' p _ (by simp [hp])))) H.now (fun i d hd hc => H.plain i d hc (all i (lt_of i d hd)) hd) (fun p c d hc hd => H.vals p c d hc (all c (hin' p c hc)) hd)
  induction fuel with
  | zero =>
   intro listed a vs w hc H
   have hr : Region.ready .any ops listed = [] := by
    cases hr : Region.ready .any ops listed with
    | nil => rfl
    | cons i r =>
     have := (mem_ready (md := .any) (ops := ops) (j := i) (listed := listed)).1 (by rw [hr]; simp)
     rw [count_zero hc i] at this
     simp at this
   exact ⟨hr, done listed a vs w hr H⟩
  | succ fuel ih =>
   intro listed a vs w hc H
   refine ⟨fun hr => done listed a vs w hr H, fun i hi => ?_⟩
   obtain ⟨hun, o, ho, haf⟩ := mem_ready.1 hi
   have hilt : i < ops.size := by
    rcases Nat.lt_or_ge i ops.size with h | h
    ·exact h
    ·simp [Array.getElem?_eq_none h] at ho
   have hils : i < listed.size := by have := H.size; omega
   have hun' := getD_false_of hun
   have ok := opsB_spec hB ho
   have hs2 := h.at_ i o (by simpa using ho)
   rw [Nat.zero_add] at hs2
   have after_of : ∀ j d, depB ops o j d = true → listed.getD j false = true ∧ (ops[j]?).bind (·.dst) = some d := by
    intro j d hj
    simp only [depB, Bool.and_eq_true, Array.any_eq_true, beq_iff_eq] at hj
    obtain ⟨⟨k, hk, h1, h2⟩, h3⟩ := hj
    exact ⟨h1 ▸ haf _ (Array.getElem_mem hk) h2, h3⟩
   have ctx : CtxH ops chain R G n K Ke i o a w vs := by
    have opt : ∀ p c, chain[p]? = some c → listed.getD c false = false → vs[p]? = some none := fun p c hc hl => by
     have hp : p < vs.length := by rw [H.len]; exact (List.getElem?_eq_some_iff.1 hc).1
     rw [List.getElem?_eq_getElem hp]
     cases hx : vs[p] with
     | none => rfl
     | some v =>
      have := (H.link p c hc).2 ⟨v, by rw [List.getElem?_eq_getElem hp, hx]⟩
      rw [hl] at this; cases this
    refine ⟨H.now, H.kn, fun j d hj hc => H.plain j d hc (after_of j d hj).1 (after_of j d hj).2, H.len, fun p c d hc hj => H.vals p c d hc (after_of c d hj).1 (after_of c d hj).2, fun p c hc ha => ?_, fun p c hc ha => opt p c hc ?_, fun p c hc ha => opt p c hc ?_, fun d v hd hc => H.old d v hd fun c hcd => ?_⟩
    ·simp only [Array.any_eq_true, Bool.and_eq_true, beq_iff_eq] at ha
     obtain ⟨k, hk, h1, h2⟩ := ha
     exact (H.link p c hc).1 (h1 ▸ haf _ (Array.getElem_mem hk) h2)
    ·cases hl : listed.getD c false with
     | false => rfl
     | true =>
      exfalso
      unfold afterB at ha
      split at ha
      ·rename_i oc hoc
       simp only [Array.any_eq_true, Bool.and_eq_true, beq_iff_eq] at ha
       obtain ⟨k, hk, h1, h2⟩ := ha
       have := H.closed c oc hoc hl _ (Array.getElem_mem hk) h2
       rw [h1, hun'] at this
       cases this
      ·cases ha
    ·cases hl : listed.getD c false with
     | false => rfl
     | true =>
      exfalso
      have := anc_listed H.closed hl i (by simpa using ha)
      rw [hun'] at this
      cases this
    ·cases hl : listed.getD c false with
     | false => rfl
     | true =>
      exfalso
      have := anc_listed H.closed hl i (by simpa using hc c hcd)
      rw [hun'] at this
      cases this
   have ctxQ : CtxQ ops chain R G n K Ke i o a w vs := ⟨ctx, fun p c hc ha => by
    simp only [Array.any_eq_true, Bool.and_eq_true] at ha
    obtain ⟨k, hk, h1, h2⟩ := ha
    exact (H.link p c hc).1 (anc_listed H.closed (haf _ (Array.getElem_mem hk) h1) c (by simpa using h2))⟩
   unfold wpOpIn
   simp only [ho]
   -- what is behind a step
   have step : ∀ (v : Value) (vs' : List (Option Value)) (w' : World), (∀ j u, R j u w → R j u w') → G vs' w' → (∀ d, o.dst = some d → chain.contains i = false → R i v w') →
     ((chain.contains i = false ∧ vs' = vs) ∨ (∃ p, chain[p]? = some i ∧ vs' = vs.set p (some v))) →
     wpAnyIn (fen n.r) 0 P .any ops Q fuel (listed.setIfInBounds i true) (Act.put a o.dst v) w' := by
    intro v vs' w' hle hG hRi hvs
    have hc' := count_set (l := listed) hils hun hc
    have hset : ∀ j, (listed.setIfInBounds i true).getD j false = true ↔ j = i ∨ listed.getD j false = true := by
     intro j
     by_cases hj : j = i
     ·subst hj; simp [getD_set_eq hils]
     ·rw [getD_set_ne false (Ne.symm hj)]; simp [hj]
    have hother : ∀ j k, j ≠ i → (ops[j]?).bind (·.dst) = some k → (Act.put a o.dst v).tmps.getD k undef = a.tmps.getD k undef := by
     intro j k hji hjk
     refine act_put_other (fun hd => ?_)
     have hjlt : j < ops.size := by
      rcases Nat.lt_or_ge j ops.size with h | h
      ·exact h
      ·simp [Array.getElem?_eq_none h] at hjk
     exact hji (ok.own k j hd hjlt hjk).symm
    have hself : ∀ d, (ops[i]?).bind (·.dst) = some d → (Act.put a o.dst v).tmps.getD d undef = v := by
     intro d hd
     rw [ho] at hd
     simp only [Option.bind_some] at hd
     rw [hd]
     exact act_put_self (by rw [H.kn.size]; exact ok.lt d hd)
    refine ih _ _ vs' w' hc' ⟨by simpa using H.size, H.kn.put_clear (fun k hk => clearB_look hclear (mem_dsts ho hk)) v, fun j d hjc hj hjd => ?_, fun p c hpc => ?_, fun p c d hpc hp hcd => ?_, ?_, fun j oj hoj hj e he hb => ?_, hG, fun d u hd hc => ?_⟩
    ·by_cases hji : j = i
     ·subst hji
      rw [hself d hjd]
      rw [ho] at hjd
      exact hRi d hjd hjc
     ·rw [hother j d hji hjd]
      exact hle _ _ (H.plain j d hjc (((hset j).1 hj).resolve_left hji) hjd)
    ·rw [hset]
     rcases hvs with ⟨hci, rfl⟩ | ⟨q, hq, rfl⟩
     ·have : c ≠ i := by
       rintro rfl
       have := List.mem_of_getElem? hpc
       simp [this] at hci
      exact ⟨fun h => (H.link p c hpc).1 (h.resolve_left this), fun h => .inr ((H.link p c hpc).2 h)⟩
     ·have hpl : q < vs.length := by rw [H.len]; exact (List.getElem?_eq_some_iff.1 hq).1
      by_cases hpq : p = q
      ·subst hpq
       rw [hq] at hpc
       simp only [Option.some.injEq] at hpc
       subst hpc
       exact ⟨fun _ => ⟨v, by rw [List.getElem?_set_self hpl]⟩, fun _ => .inl rfl⟩
      ·have hci : c ≠ i := by
        rintro rfl
        exact hpq ((List.getElem?_inj (List.getElem?_eq_some_iff.1 hpc).1 hnd).1 (hpc.trans hq.symm))
       rw [List.getElem?_set_ne (Ne.symm hpq)]
       exact ⟨fun h => (H.link p c hpc).1 (h.resolve_left hci), fun h => .inr ((H.link p c hpc).2 h)⟩
    ·rcases hvs with ⟨hci, rfl⟩ | ⟨q, hq, rfl⟩
     ·have hne : c ≠ i := by
       rintro rfl
       have := List.mem_of_getElem? hpc
       simp [this] at hci
      rw [hother c d hne hcd]
      exact H.vals p c d hpc (((hset c).1 hp).resolve_left hne) hcd
     ·have hpl : q < vs.length := by rw [H.len]; exact (List.getElem?_eq_some_iff.1 hq).1
      by_cases hpq : p = q
      ·subst hpq
       rw [hq] at hpc
       simp only [Option.some.injEq] at hpc
       subst hpc
       rw [hself d hcd, List.getElem?_set_self hpl]
      ·have hne : c ≠ i := by
        rintro rfl
        exact hpq ((List.getElem?_inj (List.getElem?_eq_some_iff.1 hpc).1 hnd).1 (hpc.trans hq.symm))
       rw [hother c d hne hcd, List.getElem?_set_ne (Ne.symm hpq)]
       exact H.vals p c d hpc (((hset c).1 hp).resolve_left hne) hcd
    ·rcases hvs with ⟨hci, rfl⟩ | ⟨q, hq, rfl⟩
     ·exact H.len
     ·rw [List.length_set]; exact H.len
    ·rw [hset]
     by_cases hji : j = i
     ·subst hji
      rw [ho] at hoj
      simp only [Option.some.injEq] at hoj
      subst hoj
      exact .inr (haf e he hb)
     ·exact .inr (H.closed j oj hoj (((hset j).1 hj).resolve_left hji) e he hb)
    ·have hne : o.dst ≠ some d := fun e => by
      have := hc i (by rw [ho]; exact e)
      rw [(hset i).2 (.inl rfl)] at this
      cases this
     rw [act_put_other hne]
     refine H.old d u hd fun c hcd => ?_
     cases hl : listed.getD c false with
     | false => rfl
     | true => have := hc c hcd; rw [(hset c).2 (.inr hl)] at this; cases this
   have known : ∀ {β : Bool}, GuardIs R o β → (∀ g b, o.guard = some (g, b) → chain.contains g = false) → Region.wanted o (yielded ops a.tmps) = β := by
    intro β hg hgc
    have known : ∀ g c d b, o.guard = some (g, b) → (∀ v w, R g v w → (d = true → v = .bool c) ∧ (d = false → v = undef)) → yielded ops a.tmps g = if d then some c else none := by
     intro g c dd b hgb hv
     obtain ⟨⟨e, he, h1, h2⟩, d, hd⟩ := ok.guard g b hgb
     have hv := hv (a.tmps.getD d undef) w (H.plain g d (hgc g b hgb) (h1 ▸ haf e he h2) hd)
     have hdlt : d < a.tmps.size := by
      obtain ⟨og, hog, hgd⟩ := Option.bind_eq_some_iff.1 hd
      rw [H.kn.size]
      exact (opsB_spec hB hog).lt d hgd
     unfold yielded
     rw [hd]
     simp only [Array.getD_eq_getD_getElem?, Array.getElem?_eq_getElem hdlt, Option.getD_some] at hv
     cases dd with
     | true => simp [hdlt, hv.1 rfl]
     | false => simp [hdlt, hv.2 rfl, undef]
    cases hg with
    | none h => unfold Region.wanted; rw [h]
    | @yes g c d h hv => have := known _ _ _ _ h hv; unfold Region.wanted; rw [h]; simp only [this]; cases d <;> simp
    | @no g c d h hv => have := known _ _ _ _ h hv; unfold Region.wanted; rw [h]; simp only [this]; cases d <;> cases c <;> simp
   rcases hs2 with ⟨hci, β, hg, hgc, hs1, hs2⟩ | ⟨p, hp, β, hg, hgc, hs1, hs2⟩
   ·have hwant := known hg hgc
    cases hβ : β with
    | false =>
     rw [hβ] at hwant
     simp only [hwant, Bool.false_eq_true, if_false]
     refine ⟨fun f _ => fen_fn _ f, ?_⟩
     exact step undef vs w (fun _ _ h => h) H.now (fun _ _ _ => hs1 hβ w) (.inl ⟨hci, rfl⟩)
    | true =>
     rw [hβ] at hwant
     simp only [hwant, if_true]
     refine Oper.wpIn_mono ?_ (hs2 hβ a w vs ctxQ)
     rintro a' w' ⟨v, rfl, hle, hG, hRi⟩
     exact step v vs w' (fun j u hj => hR j u _ _ hj hle) hG (fun _ _ _ => hRi) (.inl ⟨hci, rfl⟩)
   ·have hwant := known hg hgc
    have hnone : vs[p]? = some none := by
     have hp' : p < vs.length := by rw [H.len]; exact (List.getElem?_eq_some_iff.1 hp).1
     rw [List.getElem?_eq_getElem hp']
     cases hx : vs[p] with
     | none => rfl
     | some v =>
      have := (H.link p i hp).2 ⟨v, by rw [List.getElem?_eq_getElem hp', hx]⟩
      rw [hun'] at this; cases this
    have hcc : chain.contains i = true := by
     have := List.mem_of_getElem? hp
     simpa using this
    cases hβ : β with
    | false =>
     rw [hβ] at hwant
     simp only [hwant, Bool.false_eq_true, if_false]
     refine ⟨fun f _ => fen_fn _ f, ?_⟩
     exact step undef (vs.set p (some undef)) w (fun _ _ h => h) (hs1 hβ a w vs ctxQ hnone) (fun _ _ h => by rw [hcc] at h; cases h) (.inr ⟨p, hp, rfl⟩)
    | true =>
     rw [hβ] at hwant
     simp only [hwant, if_true]
     refine Oper.wpIn_mono ?_ (hs2 hβ a w vs ctxQ hnone)
     rintro a' w' ⟨v, rfl, hle, hG⟩
     exact step v (vs.set p (some v)) w' (fun j u hj => hR j u _ _ hj hle) hG (fun _ _ h => by rw [hcc] at h; cases h) (.inr ⟨p, hp, rfl⟩)
 intro a0 w0 hk0 hke h0
 have nothing' : ∀ i, (Array.replicate ops.size false).getD i false = false := fun i => by
  by_cases h : i < ops.size <;> simp [Array.getD, h]
 refine main _ _ _ (List.replicate chain.length none) _ (by simp) ⟨by simp, hk0, fun i d _ hi => ?_, fun p c hpc => ?_, fun p c d _ hp => ?_, by simp, fun i o _ hi => ?_, h0, fun d v hd _ => hke.knows d v hd⟩
 ·rw [nothing'] at hi; cases hi
 ·rw [nothing']
  refine ⟨fun h => (by cases h), fun ⟨v, hv⟩ => ?_⟩
  have hp := (List.getElem?_eq_some_iff.1 hpc).1
  simp [hp] at hv
 ·rw [nothing'] at hp; cases hp
 ·rw [nothing'] at hi; cases hi
theorem WC.genQ {id : Nat} {dr : Bool} {Q : Exit → Act → World → Prop} {n : Fr} {K : Known} {w : World} (chain : List Nat) (R : Nat → Value → World → Prop) (Le : World → World → Prop) (G : List (Option Value) → World → Prop) (K0 : Known)
  (hs : subK K0 K) (hclear : clearB ops K0 = true) (hm : P.follows .mixedOrders = true) (hB : opsB ops n.n = true) (hnd : chain.Nodup) (hin : (chain.all fun c => Nat.blt c ops.size) = true)
  (hR : ∀ i v w w', R i v w → Le w w' → R i v w') (h0 : G (List.replicate chain.length none) (bif dr then w.drew else w))
  (h : SoundFromQ P ops Q chain R Le G n K0 K 0 ops.toList)
  (hQ : ∀ (a : Act) (w : World) (vs : List (Option Value)), Kn n K0 a → vs.length = chain.length → (∀ p, p < chain.length → ∃ v, vs[p]? = some (some v)) → G vs w → (∀ i d, (ops[i]?).bind (·.dst) = some d → chain.contains i = false → R i (a.tmps.getD d undef) w) → (∀ (p c d : Nat), chain[p]? = some c → (ops[c]?).bind (·.dst) = some d → vs[p]? = some (some (a.tmps.getD d undef))) → Q .normal a w) :
  WC P n K w (.region id ops dr) Q := by
 intro a ha
 have main := wp_any_genQ (Ke := K) chain R Le G hB hnd hin hclear hR h hQ a
 cases dr with
 | true => exact wpIn_region_any hm (main _ (ha.sub hs) ha h0)
 | false => exact any_start hB (main _ (ha.sub hs) ha h0)
/-! ### Values that are told -/
/-- Which of the operations of the chain are done, and what they have yielded. -/
def Vals (vals : List Value) (m : Nat) : List (Option Value) := vals.map some ++ List.replicate (m - vals.length) none
variable {S : Nat → Prop}
def GH (S : Nat → Prop) (w0 : World) (m : Nat) (cv : List (Option (Bool × Value))) (GV : List Value → World → Prop) (vs : List (Option Value)) (w : World) : Prop :=
 ∃ vals, vals.length ≤ m ∧ vs = Vals vals m ∧ GV vals w ∧ Chg S w0 w ∧ ∀ (q : Nat) b x, cv[q]? = some (some (b, x)) → b = true → ∀ v, vals[q]? = some v → v = x
theorem vals_some {vals : List Value} {m q : Nat} {v : Value} (h : (Vals vals m)[q]? = some (some v)) : vals[q]? = some v := by
 unfold Vals at h
 rcases Nat.lt_or_ge q vals.length with hq | hq
 ·rw [List.getElem?_append_left (by simpa using hq), List.getElem?_map, List.getElem?_eq_getElem hq] at h
  rw [List.getElem?_eq_getElem hq]; simpa using h
 ·rw [List.getElem?_append_right (by simpa using hq), List.getElem?_replicate] at h
  split at h
  ·cases h
  ·cases h
theorem vals_none {vals : List Value} {m q : Nat} (h : (Vals vals m)[q]? = some none) : vals.length ≤ q := by
 unfold Vals at h
 rcases Nat.lt_or_ge q vals.length with hq | hq
 ·rw [List.getElem?_append_left (by simpa using hq), List.getElem?_map, List.getElem?_eq_getElem hq] at h
  cases h
 ·exact hq
theorem vals_set {vals : List Value} {m : Nat} {v : Value} (h : vals.length < m) : (Vals vals m).set vals.length (some v) = Vals (vals ++ [v]) m := by
 unfold Vals
 rw [List.set_append_right _ _ (by simp), List.map_append, List.length_append, List.append_assoc]
 congr 1
 obtain ⟨k, hk⟩ : ∃ k, m - vals.length = k + 1 := ⟨m - vals.length - 1, by omega⟩
 rw [hk, List.replicate_succ, List.length_map, Nat.sub_self, List.set_cons_zero, show m - (vals.length + [v].length) = k by simp; omega]
 rfl
/-- What an operation finds: 'l' says what the others yield, 'cv' what those of the chain do; 'early': where it must come ahead of an operation of the chain. -/
structure CtxV (ops : Array Oper) (S : Nat → Prop) (l : List (Bool × SpS S)) (chain : List Nat) (cv : List (Option (Bool × Value))) (GV : List Value → World → Prop) (n : Fr) (K Ke : Known) (w0 : World) (i : Nat) (o : Oper) (a : Act) (w : World) : Prop where
 chg : Chg S w0 w
 kn : Kn n K a
 dep : ∀ j d, depB ops o j d = true → chain.contains j = false → optS l j (a.tmps.getD d undef) w
 link : ∀ (q c d : Nat) (b : Bool) (x : Value), chain[q]? = some c → depB ops o c d = true → cv[q]? = some (some (b, x)) → b = true → a.tmps.getD d undef = x
 old : ∀ d v, look Ke d = some v → earlyB ops i d = true → a.tmps.getD d undef = v
 early : ∀ (q c : Nat), chain[q]? = some c → (ancL ops c).contains i = true → ∃ vals, vals.length ≤ q ∧ GV vals w ∧ ∀ (q' c' d : Nat), chain[q']? = some c' → depB ops o c' d = true → vals[q']? = some (a.tmps.getD d undef)
/-- .. and an operation of the chain: what was yielded before it. -/
structure CtxW (ops : Array Oper) (S : Nat → Prop) (l : List (Bool × SpS S)) (chain : List Nat) (cv : List (Option (Bool × Value))) (GV : List Value → World → Prop) (n : Fr) (K Ke : Known) (w0 : World) (i p : Nat) (o : Oper) (a : Act) (w : World) (vals : List Value) : Prop extends CtxV ops S l chain cv GV n K Ke w0 i o a w where
 len : vals.length = p
 now : GV vals w
 val : ∀ (q c d : Nat), chain[q]? = some c → depB ops o c d = true → vals[q]? = some (a.tmps.getD d undef)
/-- That the operation 'o' comes behind the one ahead of it in the chain. -/
def behind (ops : Array Oper) (chain : List Nat) (p : Nat) (o : Oper) : Bool := match p with | 0 => true | p + 1 => match chain[p]? with | some c => o.after.any (fun e => Region.binds .any e && (ancL ops e.on).contains c) | none => false
def SeqV (P : Program) (ops : Array Oper) (Q : Exit → Act → World → Prop) (l : List (Bool × SpS S)) (chain : List Nat) (cv : List (Option (Bool × Value))) (GV : List Value → World → Prop) (n : Fr) (K Ke : Known) (w0 : World) : Nat → List Oper → Prop
 | _, [] => True
 | i, o :: r => ((chain.contains i = false ∧ ∃ β, GuardIs (optS l) o β ∧ (∀ g b, o.guard = some (g, b) → chain.contains g = false) ∧ (β = false → ∀ w, optS l i undef w) ∧
   (β = true → ∀ a w, CtxV ops S l chain cv GV n K Ke w0 i o a w → o.wp P a w (fun a' w' => ∃ v, a' = Act.put a o.dst v ∧ Below w.heap.size w w' ∧ optS l i v w') Q)) ∨
  (∃ p, chain[p]? = some i ∧ behind ops chain p o = true ∧ ∃ β, GuardIs (optS l) o β ∧ (∀ g b, o.guard = some (g, b) → chain.contains g = false) ∧
   (β = false → ∀ w vals, vals.length = p → GV vals w → GV (vals ++ [undef]) w ∧ ∀ b x, cv[p]? = some (some (b, x)) → b = true → undef = x) ∧
   (β = true → ∀ a w vals, CtxW ops S l chain cv GV n K Ke w0 i p o a w vals → o.wp P a w (fun a' w' => ∃ v, a' = Act.put a o.dst v ∧ Chg S w w' ∧ GV (vals ++ [v]) w' ∧ ∀ b x, cv[p]? = some (some (b, x)) → b = true → v = x) Q))) ∧ SeqV P ops Q l chain cv GV n K Ke w0 (i + 1) r
theorem cv_snoc {cv : List (Option (Bool × Value))} {vals : List Value} {v : Value} (h : ∀ (q : Nat) b x, cv[q]? = some (some (b, x)) → b = true → ∀ v, vals[q]? = some v → v = x) (hv : ∀ b x, cv[vals.length]? = some (some (b, x)) → b = true → v = x) : ∀ (q : Nat) b x, cv[q]? = some (some (b, x)) → b = true → ∀ u, (vals ++ [v])[q]? = some u → u = x := by
 intro q b x hq hb u hu
 rcases Nat.lt_trichotomy q vals.length with c | c | c
 ·rw [List.getElem?_append_left c] at hu; exact h q b x hq hb u hu
 ·subst c
  rw [List.getElem?_append_right (Nat.le_refl _), Nat.sub_self] at hu
  have : v = u := by simpa using hu
  rw [← this]; exact hv b x hq hb
 ·rw [List.getElem?_append_right (by omega)] at hu
  obtain ⟨k, hk⟩ : ∃ k, q - vals.length = k + 1 := ⟨q - vals.length - 1, by omega⟩
  rw [hk] at hu; cases hu
theorem SeqV.gen {Q : Exit → Act → World → Prop} {l : List (Bool × SpS S)} {chain : List Nat} {cv : List (Option (Bool × Value))} {GV : List Value → World → Prop} {n : Fr} {K Ke : Known} {w0 : World} (hGV : ∀ vals w w', Below w.heap.size w w' → GV vals w → GV vals w') : ∀ {lo : List Oper} {i : Nat}, SeqV P ops Q l chain cv GV n K Ke w0 i lo →
  SoundFromQ P ops Q chain (optS l) (Chg S) (GH S w0 chain.length cv GV) n K Ke i lo
 | [], _, _ => trivial
 | o :: r, i, ⟨h, hr⟩ => by
  refine ⟨?_, hr.gen hGV⟩
  have ctx : ∀ {a w vs vals}, CtxQ ops chain (optS l) (GH S w0 chain.length cv GV) n K Ke i o a w vs → vs = Vals vals chain.length → Chg S w0 w → (∀ (q : Nat) b x, cv[q]? = some (some (b, x)) → b = true → ∀ v, vals[q]? = some v → v = x) → GV vals w → CtxV ops S l chain cv GV n K Ke w0 i o a w := fun {a w vs vals} C e hc hv hg =>
   ⟨hc, C.kn, C.dep, fun q c d b x h1 h2 h3 h4 => hv q b x h3 h4 _ (vals_some (e ▸ C.link q c d h1 h2)), fun d v hd hb => C.old d v hd (earlyB_of hb), fun q c h1 h2 => ⟨vals, vals_none (e ▸ C.mostT q c h1 h2), hg, fun q' c' d h3 h4 => vals_some (e ▸ C.link q' c' d h3 h4)⟩⟩
  rcases h with ⟨hi, β, h1, h2, h3, h4⟩ | ⟨p, hp, hbh, β, h1, h2, h3, h4⟩
  ·refine .inl ⟨hi, β, h1, h2, h3, fun hβ a w vs C => ?_⟩
   obtain ⟨vals, k1, k2, k3, k4, k5⟩ := C.now
   refine Oper.wpIn_mono ?_ (wpIn_of (h4 hβ a w (ctx C k2 k4 k5 k3)) (by rintro a' w' ⟨v, rfl, _⟩; exact put_defers _ _ _))
   rintro a' w' ⟨v, rfl, hb, hR⟩
   exact ⟨v, rfl, .ofBelow hb, ⟨vals, k1, k2, hGV _ _ _ hb k3, k4.trans (.ofBelow hb), k5⟩, hR⟩
  ·have hpl : p < chain.length := (List.getElem?_eq_some_iff.1 hp).1
   have len : ∀ {a w vs vals}, CtxQ ops chain (optS l) (GH S w0 chain.length cv GV) n K Ke i o a w vs → vs = Vals vals chain.length → vs[p]? = some none → vals.length = p := fun {a w vs vals} C e hn => by
    have h5 := vals_none (e ▸ hn)
    cases p with
    | zero => omega
    | succ p =>
     unfold behind at hbh
     obtain ⟨c, hc⟩ : ∃ c, chain[p]? = some c := ⟨chain[p], List.getElem?_eq_getElem (by omega)⟩
     simp only [hc] at hbh
     obtain ⟨v, hv⟩ := C.anc p c hc hbh
     have h6 := vals_some (e ▸ hv)
     have := (List.getElem?_eq_some_iff.1 h6).1
     omega
   refine .inr ⟨p, hp, β, h1, h2, fun hβ a w vs C hn => ?_, fun hβ a w vs C hn => ?_⟩
   ·obtain ⟨vals, k1, k2, k3, k4, k5⟩ := C.now
    have hl := len C k2 hn
    obtain ⟨z1, z2⟩ := h3 hβ w vals hl k3
    refine ⟨vals ++ [undef], by simp; omega, ?_, z1, k4, cv_snoc k5 (hl ▸ z2)⟩
    rw [k2, ← hl, vals_set (by omega)]
   ·obtain ⟨vals, k1, k2, k3, k4, k5⟩ := C.now
    have hl := len C k2 hn
    refine Oper.wpIn_mono ?_ (wpIn_of (h4 hβ a w vals ⟨ctx C k2 k4 k5 k3, hl, k3, fun q c d z1 z2 => vals_some (k2 ▸ C.link q c d z1 z2)⟩) (by rintro a' w' ⟨v, rfl, _⟩; exact put_defers _ _ _))
    rintro a' w' ⟨v, rfl, hc, z1, z2⟩
    refine ⟨v, rfl, hc, vals ++ [v], by simp; omega, ?_, z1, k4.trans hc, cv_snoc k5 (hl ▸ z2)⟩
    rw [k2, ← hl, vals_set (by omega)]
theorem cvIs {v X : Value} {β : Bool} (h : v = X) : ∀ b x, (some (some (β, X)) : Option (Option (Bool × Value))) = some (some (b, x)) → b = true → v = x := fun b x e _ => by cases e; exact h
theorem cvNo {v : Value} : ∀ b x, (some none : Option (Option (Bool × Value))) = some (some (b, x)) → b = true → v = x := fun b x e => by cases e
theorem vlen0 {l : List Value} (h : l.length = 0) : l = [] := List.length_eq_zero_iff.1 h
theorem vlen1 {l : List Value} (h : l.length = 1) : ∃ a, l = [a] := by
 match l, h with
 | [a], _ => exact ⟨a, rfl⟩
theorem vlen2 {l : List Value} (h : l.length = 2) : ∃ a b, l = [a, b] := by
 match l, h with
 | [a, b], _ => exact ⟨a, b, rfl⟩
theorem vlen3 {l : List Value} (h : l.length = 3) : ∃ a b c, l = [a, b, c] := by
 match l, h with
 | [a, b, c], _ => exact ⟨a, b, c, rfl⟩
theorem vlen4 {l : List Value} (h : l.length = 4) : ∃ a b c d, l = [a, b, c, d] := by
 match l, h with
 | [a, b, c, d], _ => exact ⟨a, b, c, d, rfl⟩
theorem vlen5 {l : List Value} (h : l.length = 5) : ∃ a b c d e, l = [a, b, c, d, e] := by
 match l, h with
 | [a, b, c, d, e], _ => exact ⟨a, b, c, d, e, rfl⟩
theorem WC.seqV {id : Nat} {dr : Bool} {Q : Exit → Act → World → Prop} {n : Fr} {K : Known} {w : World} (l : List (Bool × SpS S)) (K0 : Known) (chain : List Nat) (cv : List (Option (Bool × Value))) (GV : List Value → World → Prop) (hGV : ∀ vals w w', Below w.heap.size w w' → GV vals w → GV vals w') (hnd : chain.Nodup)
  (hs : subK K0 K) (hclear : clearB ops K0 = true) (hm : P.follows .mixedOrders = true) (hB : opsB ops n.n = true) (hin : (chain.all fun c => Nat.blt c ops.size) = true) (h0 : GV [] w)
  (h : SeqV P ops Q l chain cv GV n K0 K w 0 ops.toList)
  (hQ : ∀ (a : Act) (w' : World) (vals : List Value), Kn n K0 a → vals.length = chain.length → GV vals w' → Chg S w w' → (∀ i d, (ops[i]?).bind (·.dst) = some d → chain.contains i = false → optS l i (a.tmps.getD d undef) w') → (∀ (p c d : Nat), chain[p]? = some c → (ops[c]?).bind (·.dst) = some d → vals[p]? = some (a.tmps.getD d undef)) → (∀ (p c d : Nat) b x, chain[p]? = some c → (ops[c]?).bind (·.dst) = some d → cv[p]? = some (some (b, x)) → b = true → a.tmps.getD d undef = x) → Q .normal a w') :
  WC P n K w (.region id ops dr) Q := by
 refine WC.genQ chain (optS l) (Chg S) (GH S w chain.length cv GV) K0 hs hclear hm hB hnd hin (optSKeep l) ?_ (h.gen hGV) (fun a w' vs hk hlen hall hG hu hl => ?_)
 ·refine ⟨[], Nat.zero_le _, by simp [Vals], ?_, ?_, fun q b x _ _ v hv => (nomatch hv)⟩
  ·cases dr with
   | true => exact hGV _ _ _ (Below.refl _ _).drew h0
   | false => exact h0
  ·cases dr with
   | true => exact .ofBelow (Below.refl _ _).drew
   | false => exact .ofBelow (Below.refl _ _)
 ·obtain ⟨vals, k1, k2, k3, k4, k5⟩ := hG
  have hlv : vals.length = chain.length := by
   rcases Nat.lt_or_ge vals.length chain.length with c | c
   ·obtain ⟨v, hv⟩ := hall vals.length c
    have h6 := (List.getElem?_eq_some_iff.1 (vals_some (k2 ▸ hv))).1
    omega
   ·omega
  have hv : ∀ (p c d : Nat), chain[p]? = some c → (ops[c]?).bind (·.dst) = some d → vals[p]? = some (a.tmps.getD d undef) := fun p c d z1 z2 => vals_some (k2 ▸ hl p c d z1 z2)
  exact hQ a w' vals hk hlv k3 k4 hu hv (fun p c d b x z1 z2 z3 z4 => k5 p b x z3 z4 _ (hv p c d z1 z2))
end
end Go.Proofs.Ytibncmnmjhimeaa

/- Operations, one law a kind and type. -/
namespace Go.Proofs.Ytibncmnmjhimeaa
open Go.RowKit Go
set_option linter.unusedVariables false
set_option linter.unusedSimpArgs false
set_option maxRecDepth 100000
theorem fld_79_2 {w : World} {a : Act} {K : Act → World → Prop} {Q : Exit → Act → World → Prop} {o : Oper} {x : Operand} {b p : Nat} (ho : o.op = .fieldAddr 79 x 2) (hx : a.eval x = .pointer (some ⟨b, p, none⟩)) (hK : K (a.put o.dst (.pointer (some ⟨b, p + 2, none⟩))) w) : o.wp Try.prog a w K Q := by
  unfold Oper.wp execOp
  simp only [ho, hx]
  go_simp
  exact hK
theorem ld_31 {w : World} {a : Act} {K : Act → World → Prop} {Q : Exit → Act → World → Prop} {o : Oper} {x : Operand} {p : Addr} {v : Value} (ho : o.op = .load 31 x) (hx : a.eval x = .pointer (some p)) (hc : w.cell? p = some v) (hK : K (a.put o.dst (v)) w) : o.wp Try.prog a w K Q := by
  unfold Oper.wp execOp
  simp only [ho, hx]
  go_simp
  exact hK
theorem build_89_0 {w : World} {a : Act} {K : Act → World → Prop} {Q : Exit → Act → World → Prop} {o : Oper} {x0 : Operand} {c0 : Int} (ho : o.op = .build 89 #[(0, x0)]) (h0 : a.eval x0 = .int .i64 c0) (hK : K (a.put o.dst (.agg #[.int .i64 c0, .slice none 0 0])) w) : o.wp Try.prog a w K Q := by
  unfold Oper.wp execOp
  simp only [ho, List.map_toArray, List.map_cons, List.map_nil, h0]
  go_simp
  exact hK
theorem alloc_89 {w : World} {a : Act} {K : Act → World → Prop} {Q : Exit → Act → World → Prop} {o : Oper} (ho : o.op = .alloc 89) (hK : K (a.put o.dst (.pointer (some ⟨w.heap.size, 0, none⟩))) (w.alloc (.cells #[.int .i64 0, .slice none 0 0] 89))) : o.wp Try.prog a w K Q := by
  unfold Oper.wp execOp
  simp only [ho]
  go_simp
  exact hK
theorem st_89 {w : World} {a : Act} {K : Act → World → Prop} {Q : Exit → Act → World → Prop} {o : Oper} {x y : Operand} {g p : Nat} {ty : TypeId} {cs : Array Value} {c0 c1 : Value} (ho : o.op = .store 89 x y) (hx : a.eval x = .pointer (some ⟨g, p, none⟩)) (hy : a.eval y = .agg #[c0, c1]) (k0 : c0.oneCell' = true) (k1 : c1.oneCell' = true) (hB : Blk w g ty cs) (hp : p + 1 < cs.size) (hK : ∀ v, K (a.put o.dst v) ((w.setCell ⟨g, p, none⟩ c0).setCell ⟨g, p + 1, none⟩ c1)) : o.wp Try.prog a w K Q := by
  have h0 := (hB.cell (p)).trans (Array.getElem?_eq_getElem (by first | omega | (simp; omega)))
  have f0 := hB.frozen (p)
  have hB := hB.set_ (p) c0
  have h1 := (hB.cell (p + 1)).trans (Array.getElem?_eq_getElem (by first | omega | (simp; omega)))
  have f1 := hB.frozen (p + 1)
  have s0 := fun w a m => run_store Try.prog w a c0 m k0
  have s1 := fun w a m => run_store Try.prog w a c1 m k1
  clear hB
  unfold Oper.wp execOp
  simp only [ho, hx, hy]
  go_simp
  exact hK _
theorem fld_89_1 {w : World} {a : Act} {K : Act → World → Prop} {Q : Exit → Act → World → Prop} {o : Oper} {x : Operand} {b p : Nat} (ho : o.op = .fieldAddr 89 x 1) (hx : a.eval x = .pointer (some ⟨b, p, none⟩)) (hK : K (a.put o.dst (.pointer (some ⟨b, p + 1, none⟩))) w) : o.wp Try.prog a w K Q := by
  unfold Oper.wp execOp
  simp only [ho, hx]
  go_simp
  exact hK
theorem st_31 {w : World} {a : Act} {K : Act → World → Prop} {Q : Exit → Act → World → Prop} {o : Oper} {x y : Operand} {g p : Nat} {ty : TypeId} {cs : Array Value} {c0a : Option Addr} {c0n c0c : Nat} (ho : o.op = .store 31 x y) (hx : a.eval x = .pointer (some ⟨g, p, none⟩)) (hy : a.eval y = .slice c0a c0n c0c) (hB : Blk w g ty cs) (hp : p + 0 < cs.size) (hK : ∀ v, K (a.put o.dst v) (w.setCell ⟨g, p, none⟩ (.slice c0a c0n c0c))) : o.wp Try.prog a w K Q := by
  have h0 := (hB.cell (p)).trans (Array.getElem?_eq_getElem (by first | omega | (simp; omega)))
  have f0 := hB.frozen (p)
  clear hB
  unfold Oper.wp execOp
  simp only [ho, hx, hy]
  go_simp
  exact hK _
theorem fld_79_0 {w : World} {a : Act} {K : Act → World → Prop} {Q : Exit → Act → World → Prop} {o : Oper} {x : Operand} {b p : Nat} (ho : o.op = .fieldAddr 79 x 0) (hx : a.eval x = .pointer (some ⟨b, p, none⟩)) (hK : K (a.put o.dst (.pointer (some ⟨b, p, none⟩))) w) : o.wp Try.prog a w K Q := by
  unfold Oper.wp execOp
  simp only [ho, hx]
  go_simp
  exact hK
theorem ld_77 {w : World} {a : Act} {K : Act → World → Prop} {Q : Exit → Act → World → Prop} {o : Oper} {x : Operand} {p : Addr} {v : Value} (ho : o.op = .load 77 x) (hx : a.eval x = .pointer (some p)) (hc : w.cell? p = some v) (hK : K (a.put o.dst (v)) w) : o.wp Try.prog a w K Q := by
  unfold Oper.wp execOp
  simp only [ho, hx]
  go_simp
  exact hK
theorem ld_89 {w : World} {a : Act} {K : Act → World → Prop} {Q : Exit → Act → World → Prop} {o : Oper} {x : Operand} {b p : Nat} {c0 c1 : Value} (ho : o.op = .load 89 x) (hx : a.eval x = .pointer (some ⟨b, p, none⟩)) (h0 : w.cell? ⟨b, p, none⟩ = some c0) (h1 : w.cell? ⟨b, p + 1, none⟩ = some c1) (hK : K (a.put o.dst (.agg #[c0, c1])) w) : o.wp Try.prog a w K Q := by
  unfold Oper.wp execOp
  simp only [ho, hx]
  go_simp
  exact hK
theorem row_77_1 {w : World} {a : Act} {K : Act → World → Prop} {Q : Exit → Act → World → Prop} {o : Oper} {x0 : Operand} {c0 c1 : Value} (ho : o.op = .buildSlice 77 1 #[(0, x0)]) (h0 : a.eval x0 = .agg #[c0, c1]) (hK : K (a.put o.dst (.slice (some ⟨w.heap.size, 0, none⟩) 1 1)) (w.alloc (.cells #[c0, c1] 89))) : o.wp Try.prog a w K Q := by
  unfold Oper.wp execOp
  simp only [ho, List.map_toArray, List.map_cons, List.map_nil, h0]
  go_simp
  exact hK
theorem st_77 {w : World} {a : Act} {K : Act → World → Prop} {Q : Exit → Act → World → Prop} {o : Oper} {x y : Operand} {g p : Nat} {ty : TypeId} {cs : Array Value} {c0a : Option Addr} {c0n c0c : Nat} (ho : o.op = .store 77 x y) (hx : a.eval x = .pointer (some ⟨g, p, none⟩)) (hy : a.eval y = .slice c0a c0n c0c) (hB : Blk w g ty cs) (hp : p + 0 < cs.size) (hK : ∀ v, K (a.put o.dst v) (w.setCell ⟨g, p, none⟩ (.slice c0a c0n c0c))) : o.wp Try.prog a w K Q := by
  have h0 := (hB.cell (p)).trans (Array.getElem?_eq_getElem (by first | omega | (simp; omega)))
  have f0 := hB.frozen (p)
  clear hB
  unfold Oper.wp execOp
  simp only [ho, hx, hy]
  go_simp
  exact hK _
theorem fld_79_1 {w : World} {a : Act} {K : Act → World → Prop} {Q : Exit → Act → World → Prop} {o : Oper} {x : Operand} {b p : Nat} (ho : o.op = .fieldAddr 79 x 1) (hx : a.eval x = .pointer (some ⟨b, p, none⟩)) (hK : K (a.put o.dst (.pointer (some ⟨b, p + 1, none⟩))) w) : o.wp Try.prog a w K Q := by
  unfold Oper.wp execOp
  simp only [ho, hx]
  go_simp
  exact hK
theorem len_77 {w : World} {a : Act} {K : Act → World → Prop} {Q : Exit → Act → World → Prop} {o : Oper} {x : Operand} {r : Option Addr} {n c : Nat} (ho : o.op = .call { callee := .builtin .len, args := #[x], argTypes := #[77] }) (hx : a.eval x = .slice r n c) (hK : K (a.put o.dst (.int .i64 n)) w) : o.wp Try.prog a w K Q := by
  unfold Oper.wp execOp
  simp only [ho, resolve, List.map_toArray, List.map_cons, List.map_nil, hx]
  go_simp
  exact hK
theorem ix_77 {w : World} {a : Act} {K : Act → World → Prop} {Q : Exit → Act → World → Prop} {o : Oper} {x y : Operand} {r : Option Addr} {b p n c k : Nat} (ho : o.op = .indexAddr 77 x y) (hx : a.eval x = .slice r n c) (hr : r = some ⟨b, p, none⟩) (hy : a.eval y = .int .i64 (k : Int)) (hk : k < n) (hK : K (a.put o.dst (.pointer (some ⟨b, p + k * 2, none⟩))) w) : o.wp Try.prog a w K Q := by
  subst hr
  have h0 : (0 : Int) ≤ (k : Int) := by omega
  have h1 : (k : Int) < (n : Int) := by omega
  unfold Oper.wp execOp
  simp only [ho, hx, hy]
  go_simp
  exact hK
theorem fld_89_0 {w : World} {a : Act} {K : Act → World → Prop} {Q : Exit → Act → World → Prop} {o : Oper} {x : Operand} {b p : Nat} (ho : o.op = .fieldAddr 89 x 0) (hx : a.eval x = .pointer (some ⟨b, p, none⟩)) (hK : K (a.put o.dst (.pointer (some ⟨b, p, none⟩))) w) : o.wp Try.prog a w K Q := by
  unfold Oper.wp execOp
  simp only [ho, hx]
  go_simp
  exact hK
theorem fld_81_0 {w : World} {a : Act} {K : Act → World → Prop} {Q : Exit → Act → World → Prop} {o : Oper} {x : Operand} {b p : Nat} (ho : o.op = .fieldAddr 81 x 0) (hx : a.eval x = .pointer (some ⟨b, p, none⟩)) (hK : K (a.put o.dst (.pointer (some ⟨b, p, none⟩))) w) : o.wp Try.prog a w K Q := by
  unfold Oper.wp execOp
  simp only [ho, hx]
  go_simp
  exact hK
theorem min_3 {w : World} {a : Act} {K : Act → World → Prop} {Q : Exit → Act → World → Prop} {o : Oper} {x y : Operand} {m n : Int} (ho : o.op = .call { callee := .builtin .min, args := #[x, y], argTypes := #[3, 3] }) (hx : a.eval x = .int .i64 m) (hy : a.eval y = .int .i64 n) (hK : K (a.put o.dst (.int .i64 (min m n))) w) : o.wp Try.prog a w K Q := by
  unfold Oper.wp execOp
  simp only [ho, resolve, List.map_toArray, List.map_cons, List.map_nil, hx, hy]
  go_simp
  first
    | exact hK
    | (have e : min m n = (if n < m then n else m) := by split <;> omega
       rw [e] at hK
       exact hK)
theorem fld_81_1 {w : World} {a : Act} {K : Act → World → Prop} {Q : Exit → Act → World → Prop} {o : Oper} {x : Operand} {b p : Nat} (ho : o.op = .fieldAddr 81 x 1) (hx : a.eval x = .pointer (some ⟨b, p, none⟩)) (hK : K (a.put o.dst (.pointer (some ⟨b, p + 1, none⟩))) w) : o.wp Try.prog a w K Q := by
  unfold Oper.wp execOp
  simp only [ho, hx]
  go_simp
  exact hK
theorem build_79_ {w : World} {a : Act} {K : Act → World → Prop} {Q : Exit → Act → World → Prop} {o : Oper}   (ho : o.op = .build 79 #[])  (hK : K (a.put o.dst (.agg #[.slice none 0 0, .slice none 0 0, .slice none 0 0])) w) : o.wp Try.prog a w K Q := by
  unfold Oper.wp execOp
  simp only [ho, List.map_toArray, List.map_cons, List.map_nil, ]
  go_simp
  exact hK
theorem box_79 {w : World} {a : Act} {K : Act → World → Prop} {Q : Exit → Act → World → Prop} {o : Oper} {x : Operand} {c0 c1 c2 : Value} (ho : o.op = .box 79 x) (hx : a.eval x = .agg #[c0, c1, c2]) (hK : K (a.put o.dst (.pointer (some ⟨w.heap.size, 0, none⟩))) (w.alloc (.cells #[c0, c1, c2] 79))) : o.wp Try.prog a w K Q := by
  unfold Oper.wp execOp
  simp only [ho, hx]
  go_simp
  exact hK
theorem len_58 {w : World} {a : Act} {K : Act → World → Prop} {Q : Exit → Act → World → Prop} {o : Oper} {x : Operand} {r : Option Addr} {n c : Nat} (ho : o.op = .call { callee := .builtin .len, args := #[x], argTypes := #[58] }) (hx : a.eval x = .slice r n c) (hK : K (a.put o.dst (.int .i64 n)) w) : o.wp Try.prog a w K Q := by
  unfold Oper.wp execOp
  simp only [ho, resolve, List.map_toArray, List.map_cons, List.map_nil, hx]
  go_simp
  exact hK
theorem ix_58 {w : World} {a : Act} {K : Act → World → Prop} {Q : Exit → Act → World → Prop} {o : Oper} {x y : Operand} {r : Option Addr} {b p n c k : Nat} (ho : o.op = .indexAddr 58 x y) (hx : a.eval x = .slice r n c) (hr : r = some ⟨b, p, none⟩) (hy : a.eval y = .int .i64 (k : Int)) (hk : k < n) (hK : K (a.put o.dst (.pointer (some ⟨b, p + k * 4, none⟩))) w) : o.wp Try.prog a w K Q := by
  subst hr
  have h0 : (0 : Int) ≤ (k : Int) := by omega
  have h1 : (k : Int) < (n : Int) := by omega
  unfold Oper.wp execOp
  simp only [ho, hx, hy]
  go_simp
  exact hK
theorem ixa_57 {w : World} {a : Act} {K : Act → World → Prop} {Q : Exit → Act → World → Prop} {o : Oper} {x y : Operand} {b p k : Nat} (ho : o.op = .indexAddr 57 x y) (hx : a.eval x = .pointer (some ⟨b, p, none⟩)) (hy : a.eval y = .int .i64 (k : Int)) (hk : k < 2) (hK : K (a.put o.dst (.pointer (some ⟨b, p + k * 2, none⟩))) w) : o.wp Try.prog a w K Q := by
  have h0 : (0 : Int) ≤ (k : Int) := by omega
  have h1 : (k : Int) < (2 : Int) := by omega
  unfold Oper.wp execOp
  simp only [ho, hx, hy]
  go_simp
  exact hK
theorem build_81_0_1 {w : World} {a : Act} {K : Act → World → Prop} {Q : Exit → Act → World → Prop} {o : Oper} {x0 x1 : Operand} {c0a : Option Addr} {c0n c0c : Nat} {c1a : Option Addr} {c1n c1c : Nat} (ho : o.op = .build 81 #[(0, x0), (1, x1)]) (h0 : a.eval x0 = .slice c0a c0n c0c) (h1 : a.eval x1 = .slice c1a c1n c1c) (hK : K (a.put o.dst (.agg #[.slice c0a c0n c0c, .slice c1a c1n c1c])) w) : o.wp Try.prog a w K Q := by
  unfold Oper.wp execOp
  simp only [ho, List.map_toArray, List.map_cons, List.map_nil, h0, h1]
  go_simp
  exact hK
theorem box_81 {w : World} {a : Act} {K : Act → World → Prop} {Q : Exit → Act → World → Prop} {o : Oper} {x : Operand} {c0 c1 : Value} (ho : o.op = .box 81 x) (hx : a.eval x = .agg #[c0, c1]) (hK : K (a.put o.dst (.pointer (some ⟨w.heap.size, 0, none⟩))) (w.alloc (.cells #[c0, c1] 81))) : o.wp Try.prog a w K Q := by
  unfold Oper.wp execOp
  simp only [ho, hx]
  go_simp
  exact hK
theorem build_57_0_1 {w : World} {a : Act} {K : Act → World → Prop} {Q : Exit → Act → World → Prop} {o : Oper} {x0 x1 : Operand} {c0 c1 : Value} {c2 c3 : Value} (ho : o.op = .build 57 #[(0, x0), (1, x1)]) (h0 : a.eval x0 = .agg #[c0, c1]) (h1 : a.eval x1 = .agg #[c2, c3]) (hK : K (a.put o.dst (.agg #[c0, c1, c2, c3])) w) : o.wp Try.prog a w K Q := by
  unfold Oper.wp execOp
  simp only [ho, List.map_toArray, List.map_cons, List.map_nil, h0, h1]
  go_simp
  exact hK
theorem row_58_1 {w : World} {a : Act} {K : Act → World → Prop} {Q : Exit → Act → World → Prop} {o : Oper} {x0 : Operand} {c0 c1 c2 c3 : Value} (ho : o.op = .buildSlice 58 1 #[(0, x0)]) (h0 : a.eval x0 = .agg #[c0, c1, c2, c3]) (hK : K (a.put o.dst (.slice (some ⟨w.heap.size, 0, none⟩) 1 1)) (w.alloc (.cells #[c0, c1, c2, c3] 57))) : o.wp Try.prog a w K Q := by
  unfold Oper.wp execOp
  simp only [ho, List.map_toArray, List.map_cons, List.map_nil, h0]
  go_simp
  exact hK
theorem ext3_2 {w : World} {a : Act} {K : Act → World → Prop} {Q : Exit → Act → World → Prop} {o : Oper} {x : Operand} {v0 v1 v2 : Value} (ho : o.op = .extract x 2) (hx : a.eval x = .tuple #[v0, v1, v2]) (hK : K (a.put o.dst (v2)) w) : o.wp Try.prog a w K Q := by
  unfold Oper.wp execOp
  simp only [ho, hx]
  go_simp
  exact hK
theorem leq_3 {w : World} {a : Act} {K : Act → World → Prop} {Q : Exit → Act → World → Prop} {o : Oper} {x y : Operand} {m n : Int} (ho : o.op = .binOp .leq 3 x y 3) (hx : a.eval x = .int .i64 m) (hy : a.eval y = .int .i64 n) (hK : K (a.put o.dst (.bool (decide (m ≤ n)))) w) : o.wp Try.prog a w K Q := by
  unfold Oper.wp execOp
  simp only [ho, hx, hy]
  go_simp
  exact hK
theorem fld_66_0 {w : World} {a : Act} {K : Act → World → Prop} {Q : Exit → Act → World → Prop} {o : Oper} {x : Operand} {b p : Nat} (ho : o.op = .fieldAddr 66 x 0) (hx : a.eval x = .pointer (some ⟨b, p, none⟩)) (hK : K (a.put o.dst (.pointer (some ⟨b, p, none⟩))) w) : o.wp Try.prog a w K Q := by
  unfold Oper.wp execOp
  simp only [ho, hx]
  go_simp
  exact hK
theorem ld_36 {w : World} {a : Act} {K : Act → World → Prop} {Q : Exit → Act → World → Prop} {o : Oper} {x : Operand} {p : Addr} {v : Value} (ho : o.op = .load 36 x) (hx : a.eval x = .pointer (some p)) (hc : w.cell? p = some v) (hK : K (a.put o.dst (v)) w) : o.wp Try.prog a w K Q := by
  unfold Oper.wp execOp
  simp only [ho, hx]
  go_simp
  exact hK
theorem len_36 {w : World} {a : Act} {K : Act → World → Prop} {Q : Exit → Act → World → Prop} {o : Oper} {x : Operand} {r : Option Addr} {n c : Nat} (ho : o.op = .call { callee := .builtin .len, args := #[x], argTypes := #[36] }) (hx : a.eval x = .slice r n c) (hK : K (a.put o.dst (.int .i64 n)) w) : o.wp Try.prog a w K Q := by
  unfold Oper.wp execOp
  simp only [ho, resolve, List.map_toArray, List.map_cons, List.map_nil, hx]
  go_simp
  exact hK
theorem ix_36 {w : World} {a : Act} {K : Act → World → Prop} {Q : Exit → Act → World → Prop} {o : Oper} {x y : Operand} {r : Option Addr} {b p n c k : Nat} (ho : o.op = .indexAddr 36 x y) (hx : a.eval x = .slice r n c) (hr : r = some ⟨b, p, none⟩) (hy : a.eval y = .int .i64 (k : Int)) (hk : k < n) (hK : K (a.put o.dst (.pointer (some ⟨b, p + k * 3, none⟩))) w) : o.wp Try.prog a w K Q := by
  subst hr
  have h0 : (0 : Int) ≤ (k : Int) := by omega
  have h1 : (k : Int) < (n : Int) := by omega
  unfold Oper.wp execOp
  simp only [ho, hx, hy]
  go_simp
  exact hK
theorem fld_85_0 {w : World} {a : Act} {K : Act → World → Prop} {Q : Exit → Act → World → Prop} {o : Oper} {x : Operand} {b p : Nat} (ho : o.op = .fieldAddr 85 x 0) (hx : a.eval x = .pointer (some ⟨b, p, none⟩)) (hK : K (a.put o.dst (.pointer (some ⟨b, p, none⟩))) w) : o.wp Try.prog a w K Q := by
  unfold Oper.wp execOp
  simp only [ho, hx]
  go_simp
  exact hK
theorem fld_85_1 {w : World} {a : Act} {K : Act → World → Prop} {Q : Exit → Act → World → Prop} {o : Oper} {x : Operand} {b p : Nat} (ho : o.op = .fieldAddr 85 x 1) (hx : a.eval x = .pointer (some ⟨b, p, none⟩)) (hK : K (a.put o.dst (.pointer (some ⟨b, p + 1, none⟩))) w) : o.wp Try.prog a w K Q := by
  unfold Oper.wp execOp
  simp only [ho, hx]
  go_simp
  exact hK
theorem build_24_ {w : World} {a : Act} {K : Act → World → Prop} {Q : Exit → Act → World → Prop} {o : Oper}   (ho : o.op = .build 24 #[])  (hK : K (a.put o.dst (.agg #[.int .i64 0, .slice none 0 0])) w) : o.wp Try.prog a w K Q := by
  unfold Oper.wp execOp
  simp only [ho, List.map_toArray, List.map_cons, List.map_nil, ]
  go_simp
  exact hK
theorem build_85_0_1 {w : World} {a : Act} {K : Act → World → Prop} {Q : Exit → Act → World → Prop} {o : Oper} {x0 x1 : Operand} {c0 : Int} {c1 c2 : Value} (ho : o.op = .build 85 #[(0, x0), (1, x1)]) (h0 : a.eval x0 = .int .i64 c0) (h1 : a.eval x1 = .agg #[c1, c2]) (hK : K (a.put o.dst (.agg #[.int .i64 c0, c1, c2])) w) : o.wp Try.prog a w K Q := by
  unfold Oper.wp execOp
  simp only [ho, List.map_toArray, List.map_cons, List.map_nil, h0, h1]
  go_simp
  exact hK
theorem row_36_1 {w : World} {a : Act} {K : Act → World → Prop} {Q : Exit → Act → World → Prop} {o : Oper} {x0 : Operand} {c0 c1 c2 : Value} (ho : o.op = .buildSlice 36 1 #[(0, x0)]) (h0 : a.eval x0 = .agg #[c0, c1, c2]) (hK : K (a.put o.dst (.slice (some ⟨w.heap.size, 0, none⟩) 1 1)) (w.alloc (.cells #[c0, c1, c2] 85))) : o.wp Try.prog a w K Q := by
  unfold Oper.wp execOp
  simp only [ho, List.map_toArray, List.map_cons, List.map_nil, h0]
  go_simp
  exact hK
theorem st_36 {w : World} {a : Act} {K : Act → World → Prop} {Q : Exit → Act → World → Prop} {o : Oper} {x y : Operand} {g p : Nat} {ty : TypeId} {cs : Array Value} {c0a : Option Addr} {c0n c0c : Nat} (ho : o.op = .store 36 x y) (hx : a.eval x = .pointer (some ⟨g, p, none⟩)) (hy : a.eval y = .slice c0a c0n c0c) (hB : Blk w g ty cs) (hp : p + 0 < cs.size) (hK : ∀ v, K (a.put o.dst v) (w.setCell ⟨g, p, none⟩ (.slice c0a c0n c0c))) : o.wp Try.prog a w K Q := by
  have h0 := (hB.cell (p)).trans (Array.getElem?_eq_getElem (by first | omega | (simp; omega)))
  have f0 := hB.frozen (p)
  clear hB
  unfold Oper.wp execOp
  simp only [ho, hx, hy]
  go_simp
  exact hK _
theorem shi_36 {w : World} {a : Act} {K : Act → World → Prop} {Q : Exit → Act → World → Prop} {o : Oper} {x hi : Operand} {r : Option Addr} {n c k : Nat} (ho : o.op = .slice 36 x none (some hi) none) (hx : a.eval x = .slice r n c) (hl : a.eval hi = .int .i64 (k : Int)) (hk : k ≤ c) (hK : K (a.put o.dst (.slice r k c)) w) : o.wp Try.prog a w K Q := by
  have h0 : (0 : Int) ≤ (k : Int) := by omega
  have h1 : (k : Int) ≤ (c : Int) := by omega
  unfold Oper.wp execOp
  simp only [ho, hx, hl, Option.map_some, Option.map_none]
  go_simp
  exact hK
theorem row_37_1 {w : World} {a : Act} {K : Act → World → Prop} {Q : Exit → Act → World → Prop} {o : Oper} {x0 : Operand} {c0 c1 c2 : Value} (ho : o.op = .buildSlice 37 1 #[(0, x0)]) (h0 : a.eval x0 = .agg #[c0, c1, c2]) (hK : K (a.put o.dst (.slice (some ⟨w.heap.size, 0, none⟩) 1 1)) (w.alloc (.cells #[c0, c1, c2] 85))) : o.wp Try.prog a w K Q := by
  unfold Oper.wp execOp
  simp only [ho, List.map_toArray, List.map_cons, List.map_nil, h0]
  go_simp
  exact hK
theorem len_37 {w : World} {a : Act} {K : Act → World → Prop} {Q : Exit → Act → World → Prop} {o : Oper} {x : Operand} {r : Option Addr} {n c : Nat} (ho : o.op = .call { callee := .builtin .len, args := #[x], argTypes := #[37] }) (hx : a.eval x = .slice r n c) (hK : K (a.put o.dst (.int .i64 n)) w) : o.wp Try.prog a w K Q := by
  unfold Oper.wp execOp
  simp only [ho, resolve, List.map_toArray, List.map_cons, List.map_nil, hx]
  go_simp
  exact hK
theorem ix_37 {w : World} {a : Act} {K : Act → World → Prop} {Q : Exit → Act → World → Prop} {o : Oper} {x y : Operand} {r : Option Addr} {b p n c k : Nat} (ho : o.op = .indexAddr 37 x y) (hx : a.eval x = .slice r n c) (hr : r = some ⟨b, p, none⟩) (hy : a.eval y = .int .i64 (k : Int)) (hk : k < n) (hK : K (a.put o.dst (.pointer (some ⟨b, p + k * 3, none⟩))) w) : o.wp Try.prog a w K Q := by
  subst hr
  have h0 : (0 : Int) ≤ (k : Int) := by omega
  have h1 : (k : Int) < (n : Int) := by omega
  unfold Oper.wp execOp
  simp only [ho, hx, hy]
  go_simp
  exact hK
theorem ld_85 {w : World} {a : Act} {K : Act → World → Prop} {Q : Exit → Act → World → Prop} {o : Oper} {x : Operand} {b p : Nat} {c0 c1 c2 : Value} (ho : o.op = .load 85 x) (hx : a.eval x = .pointer (some ⟨b, p, none⟩)) (h0 : w.cell? ⟨b, p, none⟩ = some c0) (h1 : w.cell? ⟨b, p + 1, none⟩ = some c1) (h2 : w.cell? ⟨b, p + 2, none⟩ = some c2) (hK : K (a.put o.dst (.agg #[c0, c1, c2])) w) : o.wp Try.prog a w K Q := by
  unfold Oper.wp execOp
  simp only [ho, hx]
  go_simp
  exact hK
theorem alloc_85 {w : World} {a : Act} {K : Act → World → Prop} {Q : Exit → Act → World → Prop} {o : Oper} (ho : o.op = .alloc 85) (hK : K (a.put o.dst (.pointer (some ⟨w.heap.size, 0, none⟩))) (w.alloc (.cells #[.int .i64 0, .int .i64 0, .slice none 0 0] 85))) : o.wp Try.prog a w K Q := by
  unfold Oper.wp execOp
  simp only [ho]
  go_simp
  exact hK
theorem st_85 {w : World} {a : Act} {K : Act → World → Prop} {Q : Exit → Act → World → Prop} {o : Oper} {x y : Operand} {g p : Nat} {ty : TypeId} {cs : Array Value} {c0 c1 c2 : Value} (ho : o.op = .store 85 x y) (hx : a.eval x = .pointer (some ⟨g, p, none⟩)) (hy : a.eval y = .agg #[c0, c1, c2]) (k0 : c0.oneCell' = true) (k1 : c1.oneCell' = true) (k2 : c2.oneCell' = true) (hB : Blk w g ty cs) (hp : p + 2 < cs.size) (hK : ∀ v, K (a.put o.dst v) (((w.setCell ⟨g, p, none⟩ c0).setCell ⟨g, p + 1, none⟩ c1).setCell ⟨g, p + 2, none⟩ c2)) : o.wp Try.prog a w K Q := by
  have h0 := (hB.cell (p)).trans (Array.getElem?_eq_getElem (by first | omega | (simp; omega)))
  have f0 := hB.frozen (p)
  have hB := hB.set_ (p) c0
  have h1 := (hB.cell (p + 1)).trans (Array.getElem?_eq_getElem (by first | omega | (simp; omega)))
  have f1 := hB.frozen (p + 1)
  have hB := hB.set_ (p + 1) c1
  have h2 := (hB.cell (p + 2)).trans (Array.getElem?_eq_getElem (by first | omega | (simp; omega)))
  have f2 := hB.frozen (p + 2)
  have s0 := fun w a m => run_store Try.prog w a c0 m k0
  have s1 := fun w a m => run_store Try.prog w a c1 m k1
  have s2 := fun w a m => run_store Try.prog w a c2 m k2
  clear hB
  unfold Oper.wp execOp
  simp only [ho, hx, hy]
  go_simp
  exact hK _
theorem build_66_ {w : World} {a : Act} {K : Act → World → Prop} {Q : Exit → Act → World → Prop} {o : Oper}   (ho : o.op = .build 66 #[])  (hK : K (a.put o.dst (.agg #[.slice none 0 0])) w) : o.wp Try.prog a w K Q := by
  unfold Oper.wp execOp
  simp only [ho, List.map_toArray, List.map_cons, List.map_nil, ]
  go_simp
  exact hK
theorem box_66 {w : World} {a : Act} {K : Act → World → Prop} {Q : Exit → Act → World → Prop} {o : Oper} {x : Operand} {c0 : Value} (ho : o.op = .box 66 x) (hx : a.eval x = .agg #[c0]) (hK : K (a.put o.dst (.pointer (some ⟨w.heap.size, 0, none⟩))) (w.alloc (.cells #[c0] 66))) : o.wp Try.prog a w K Q := by
  unfold Oper.wp execOp
  simp only [ho, hx]
  go_simp
  exact hK
end Go.Proofs.Ytibncmnmjhimeaa

/- What stands for a part: the program. -/
namespace Go.Proofs.Ytibncmnmjhimeaa
open Go.RowKit Go
set_option linter.unusedVariables false
set_option linter.unusedSimpArgs false
end Go.Proofs.Ytibncmnmjhimeaa

/- A part is added: the program. -/
namespace Go.Proofs.Ytibncmnmjhimeaa
open Go.RowKit Go
set_option linter.unusedVariables false
set_option linter.unusedSimpArgs false
end Go.Proofs.Ytibncmnmjhimeaa

/- Copies of terms: the program and the document. -/
namespace Go.Proofs.Ytibncmnmjhimeaa
open Go.RowKit Go
set_option linter.unusedVariables false
set_option linter.unusedSimpArgs false
theorem len_le_sizeL (l : List T) : l.length ≤ T.sizeL l := by
  induction l with
  | nil => simp [T.sizeL]
  | cons t r ih => simp only [List.length_cons, T.sizeL]; have : 1 ≤ t.size := by rw [T.size_eq]; omega
                   omega
theorem take_snocT {l : List T} {k : Nat} (h : k < l.length) : l.take k ++ [tget l k] = l.take (k + 1) := by
  rw [List.take_succ_eq_append_getElem h, tget_lt h]
theorem size_at {l : List T} {k N : Nat} {f : Int} (h : k < l.length) (hz : (T.mk f l).size ≤ N) : (tget l k).size ≤ N := by
  have h1 := T.size_le_sizeL (tget_mem h)
  simp only [T.size] at hz
  omega
set_option maxRecDepth 100000 in
theorem rcopy_any : ∀ (t : T) (w : World) (v : Value), t.size ≤ 4294967296 → IsT w t v → Calls Try.prog 48 #[v] w (Ret fun v' w' => NewT w w' t v' ∧ Below w.heap.size w w') := by
  refine T.ind (fun f l ih => ?_)
  intro w v hz hv
  have hlen := len_le_sizeL l
  have hz' := hz
  simp only [T.size] at hz'
  obtain ⟨hf, a, c, rfl, hc, hm, hl⟩ := hv
  refine Calls.walk (l := [.agg #[.int .i64 f, .slice a l.length c]]) Try.func48 rfl (by kernel_rfl) ?_
  refine WC.sub (K' := [(0, .agg #[.int .i64 f, .slice a l.length c])]) ⟨rfl, trivial⟩ ?_
  refine WC.seq ?_
  refine WC.region ?_
  refine WL.step (post := NewBlk w 24 #[.int .i64 f, .slice a l.length c]) rfl rfl rfl (fun za zC zh zk => box_24 rfl (zh.ev rfl) (zk _ _ (newBlk _ _ _))) ?_
  rintro _ w1 ⟨g2, rfl, hg3, hB4, hb5, hz6⟩
  have hl7 : w.heap.size ≤ g2 := by omega
  refine WL.step (post := NewBlk w1 24 #[.int .i64 0, .slice none 0 0]) rfl rfl rfl (fun za zC zh zk => alloc_24 rfl (zk _ _ (newBlk _ _ _))) ?_
  rintro _ w8 ⟨g9, rfl, hg10, hB11, hb12, hz13⟩
  have hl14 : g2 < g9 := by have z1 := hB4.lt; omega
  have hl15 : w.heap.size ≤ g9 := by have z2 := (hb5).size; omega
  refine WL.nil ?_
  refine WE.next ?_
  refine WC.seq ?_
  refine WC.region ?_
  refine WL.val _ rfl rfl rfl (fun za zC zh zk => fld_24_0 rfl (zh.ev rfl) zk) ?_
  have hB16 := hB4.below hb12
  refine WL.val _ rfl rfl rfl (fun za zC zh zk => ld_3 rfl (zh.ev rfl) ((hB16.cell 0).trans rfl) zk) ?_
  refine WL.val (.agg #[.int .i64 f, .slice none 0 0]) rfl rfl rfl (fun za zC zh zk => build_24_0 rfl (zh.ev rfl) zk) ?_
  refine WL.step (post := NewBlk w8 24 #[.int .i64 0, .slice none 0 0]) rfl rfl rfl (fun za zC zh zk => alloc_24 rfl (zk _ _ (newBlk _ _ _))) ?_
  rintro _ w17 ⟨g18, rfl, hg19, hB20, hb21, hz22⟩
  have hl23 : g2 < g18 := by have z1 := hB16.lt; omega
  have hl24 : g9 < g18 := by have z1 := hB11.lt; omega
  have hb25 : Below w.heap.size w w8 := (bstep hb5 hb12)
  have hl26 : w.heap.size ≤ g18 := by have z2 := (hb25).size; omega
  refine WL.step (post := fun _ w' => Upd g18 w17 w' ∧ Blk w' g18 24 #[.int .i64 f, .slice none 0 0]) rfl rfl rfl (fun za zC zh zk => st_24 rfl (zh.ev rfl) (zh.ev rfl) rfl rfl hB20 (by first | decide | simp) (fun v => zk v _ ⟨(Upd.at_ _ _ _ _).trans (Upd.at_ _ _ _ _), (hB20.set_ 0 _).set_ 1 _⟩)) ?_
  rintro v30 w27 ⟨hu28, hB29⟩
  have hb31 : Below w.heap.size w w17 := (bstep hb25 hb21)
  have hb32 := upd_below hb31 hu28 (by omega)
  have hB33 := hB16.below hb21
  have hB34 := upd_blk hB33 hu28 (by omega)
  have hB35 := hB11.below hb21
  have hB36 := upd_blk hB35 hu28 (by omega)
  refine WL.nil ?_
  refine WE.next ?_
  refine WC.seq ?_
  refine WC.seq ?_
  refine WC.region ?_
  refine WL.asg rfl rfl rfl rfl rfl ?_
  refine WL.nil ?_
  refine WE.next ?_
  refine WC.block ?_
  have hl37 : g2 < w27.heap.size := by have z1 := hB34.lt; omega
  have hl38 : g9 < w27.heap.size := by have z1 := hB36.lt; omega
  have hl39 : g18 < w27.heap.size := by have z1 := hB29.lt; omega
  have hl40 : w.heap.size ≤ w27.heap.size := (hb32).size
  have hR41 : RowE eltT w27 w27.heap.size 24 none 0 0 [] := RowE.nil
  refine WC.loop (X := Option Addr × Nat × Nat) (fun x => l.length - x.2.2) (fun x => [(0, .agg #[.int .i64 f, .slice a l.length c]), (1, .pointer (some ⟨g2, 0, none⟩)), (2, .pointer (some ⟨g9, 0, none⟩)), (3, .pointer (some ⟨g18, 0, none⟩)), (4, .int .i64 (((x.2.2 : Nat) : Int)))]) (fun x w42 => x.2.2 ≤ l.length ∧ w27.heap.size ≤ (w42).heap.size ∧ Below w.heap.size w w42 ∧ Blk w42 g2 24 #[.int .i64 f, .slice a l.length c] ∧ Blk w42 g9 24 #[.int .i64 0, .slice none 0 0] ∧ Blk w42 g18 24 #[.int .i64 f, .slice x.1 x.2.2 x.2.1] ∧ RowE eltT (w42) w27.heap.size 24 x.1 x.2.1 x.2.2 (l.take x.2.2)) ((none, 0, 0)) ⟨rfl, rfl, rfl, rfl, rfl, trivial⟩ ?_ ?_
  · exact ⟨Nat.zero_le _, Nat.le_refl _, hb32, hB34, hB36, hB29, (by simpa using hR41)⟩
  · rintro x w42 ⟨hk, hBw, hb43, hB44, hB45, hB46, ho47⟩
    skip
    refine WC.seq ?_
    refine WC.seq ?_
    refine WC.region ?_
    refine WL.mv rfl rfl rfl rfl rfl ?_
    refine WL.val _ rfl rfl rfl (fun za zC zh zk => fld_24_1 rfl (zh.ev rfl) zk) ?_
    refine WL.val _ rfl rfl rfl (fun za zC zh zk => ld_22 rfl (zh.ev rfl) ((hB44.cell 1).trans rfl) zk) ?_
    refine WL.val (.int .i64 (((l.length : Nat) : Int))) rfl rfl rfl (fun za zC zh zk => len_22 rfl (zh.ev rfl) zk) ?_
    refine WL.val (.bool ((decide ((((x.2.2 : Nat) : Int) : Int) < (((l.length : Nat) : Int) : Int))))) rfl rfl rfl (fun za zC zh zk => lss_3 rfl (zh.ev rfl) (zh.ev rfl) zk) ?_
    refine WL.nil ?_
    refine WE.next ?_
    refine WC.cond rfl (fun h48 => ?_) (fun h48 => ?_)
    · have h48 : (((x.2.2 : Nat) : Int) : Int) < (((l.length : Nat) : Int) : Int) := by simpa using h48
      refine WC.skip ?_
      refine WE.next ?_
      refine WC.seq ?_
      refine WC.block ?_
      obtain ⟨b49, o50, A51, C52, ha53, hc54⟩ := IsTs.open hl
      have hSlt : ∀ b, (fun b => b = g18 ∨ (Value.slice x.1 x.2.2 x.2.1).ownBlock = some b) b → b < w42.heap.size := fun b h => h.elim (fun e => e ▸ hB46.lt) (fun h => (ho47.lt b h).2)
      have hSlo : ∀ b, (fun b => b = g18 ∨ (Value.slice x.1 x.2.2 x.2.1).ownBlock = some b) b → b = g18 ∨ (w27.heap.size ≤ b ∧ b < w42.heap.size) := fun b h => h.imp id (fun h => ho47.lt b h)
      have hBW : w27.heap.size ≤ w42.heap.size := by have z1 := hBw; omega
      have hlL : x.2.2 = ((l.take x.2.2)).length := ho47.len
      refine WC.tail2 (S := ((fun b => b = g18 ∨ (Value.slice x.1 x.2.2 x.2.1).ownBlock = some b))) [(true, .val (.pointer (some ⟨g18, 1, none⟩))), (true, .val (.slice x.1 x.2.2 x.2.1)), (true, .val (.pointer (some ⟨g2, 1, none⟩))), (true, .val (.slice a l.length c)), (true, .val (.int .i64 (((x.2.2 : Nat) : Int)))), (true, .val (.pointer (some ⟨b49, o50 + x.2.2 * 2, none⟩))), (true, .val (.agg #[.int .i64 ((tget l x.2.2).f), .slice ((A51 x.2.2)) ((tget l x.2.2).args.length) ((C52 x.2.2))])), (true, .mem (fun v w' => NewT w42 w' ((tget l x.2.2)) v) (fun v w w' hc h => InT.chg h hc (fun b hb hs => by have z := hSlt b hs; omega))), (true, .mem (fun v w' => OneRow eltT w42 24 ((tget l x.2.2)) v w') (fun v w w' hc h => h.chg hc hSlt)), (true, .val undef), (true, .val (.pointer (some ⟨g18, 1, none⟩))), (true, .val undef)] [(0, .agg #[.int .i64 f, .slice a l.length c]), (1, .pointer (some ⟨g2, 0, none⟩)), (2, .pointer (some ⟨g9, 0, none⟩)), (3, .pointer (some ⟨g18, 0, none⟩)), (4, .int .i64 (((x.2.2 : Nat) : Int))), (12, .bool ((decide ((((x.2.2 : Nat) : Int) : Int) < (((l.length : Nat) : Int) : Int)))))] 9 11 ((x.2.2 + 1)) 24 (fun ra rc wz => RowE eltT wz w27.heap.size 24 ra rc (x.2.2 + 1) ((l.take x.2.2 ++ [tget l x.2.2])) ∧ Blk wz g18 24 #[.int .i64 f, .slice x.1 x.2.2 x.2.1]) (fun ra rc wz => RowE eltT wz w27.heap.size 24 ra rc (x.2.2 + 1) ((l.take x.2.2 ++ [tget l x.2.2])) ∧ Blk wz g18 24 #[.int .i64 f, .slice ra ((x.2.2 + 1)) rc]) (by decide) (fun ra rc w w' hb h => ⟨h.1.below hb, h.2.below hb⟩) (fun ra rc w w' hb h => ⟨h.1.below hb, h.2.below hb⟩) ⟨rfl, rfl, rfl, rfl, rfl, rfl, trivial⟩ (by kernel_rfl) (by kernel_rfl) (by kernel_rfl) (by kernel_rfl) (by kernel_rfl) ?_ ?_
      · refine ⟨.inl ⟨rfl, true, .none rfl, (fun gg b h => by cases h), fun h w => optUndef h, fun zβ za zw zc => ?_⟩, ?_⟩
        · exact fld_24_1 rfl (zc.kn.ev rfl) ⟨_, rfl, Below.refl _ _, optDef zβ rfl⟩
        refine ⟨.inl ⟨rfl, true, .none rfl, (fun gg b h => by cases h), fun h w => optUndef h, fun zβ za zw zc => ?_⟩, ?_⟩
        · exact ld_22 rfl ((evt za 15).trans (optSVal (zc.dep 0 15 (by kernel_rfl) (by decide)) rfl rfl)) (bkeeps (zc.early (by kernel_rfl)) _ _ ((hB46.cell 1).trans rfl)) ⟨_, rfl, Below.refl _ _, optDef zβ rfl⟩
        refine ⟨.inl ⟨rfl, true, .none rfl, (fun gg b h => by cases h), fun h w => optUndef h, fun zβ za zw zc => ?_⟩, ?_⟩
        · exact fld_24_1 rfl (zc.kn.ev rfl) ⟨_, rfl, Below.refl _ _, optDef zβ rfl⟩
        refine ⟨.inl ⟨rfl, true, .none rfl, (fun gg b h => by cases h), fun h w => optUndef h, fun zβ za zw zc => ?_⟩, ?_⟩
        · exact ld_22 rfl ((evt za 17).trans (optSVal (zc.dep 2 17 (by kernel_rfl) (by decide)) rfl rfl)) (bkeeps (zc.early (by kernel_rfl)) _ _ ((hB44.cell 1).trans rfl)) ⟨_, rfl, Below.refl _ _, optDef zβ rfl⟩
        refine ⟨.inl ⟨rfl, true, .none rfl, (fun gg b h => by cases h), fun h w => optUndef h, fun zβ za zw zc => ?_⟩, ?_⟩
        · exact wp_move rfl (zc.kn.ev rfl) ⟨_, rfl, Below.refl _ _, optDef zβ rfl⟩
        refine ⟨.inl ⟨rfl, true, .none rfl, (fun gg b h => by cases h), fun h w => optUndef h, fun zβ za zw zc => ?_⟩, ?_⟩
        · exact ix_22 (k := x.2.2) rfl ((evt za 18).trans (optSVal (zc.dep 3 18 (by kernel_rfl) (by decide)) rfl rfl)) (ha53 x.2.2 (by first | omega | (simp; omega))) ((evt za 19).trans (optSVal (zc.dep 4 19 (by kernel_rfl) (by decide)) rfl rfl)) (by first | omega | (simp; omega)) ⟨_, rfl, Below.refl _ _, optDef zβ rfl⟩
        refine ⟨.inl ⟨rfl, true, .none rfl, (fun gg b h => by cases h), fun h w => optUndef h, fun zβ za zw zc => ?_⟩, ?_⟩
        · exact ld_24 rfl ((evt za 20).trans (optSVal (zc.dep 5 20 (by kernel_rfl) (by decide)) rfl rfl)) (bkeeps (bstep hb43 (zc.early (by kernel_rfl))) _ _ (hc54 x.2.2 (by first | omega | (simp; omega))).1) (bkeeps (bstep hb43 (zc.early (by kernel_rfl))) _ _ (hc54 x.2.2 (by first | omega | (simp; omega))).2.1) ⟨_, rfl, Below.refl _ _, optDef zβ rfl⟩
        refine ⟨.inl ⟨rfl, true, .none rfl, (fun gg b h => by cases h), fun h w => optUndef h, fun zβ za zw zc => ?_⟩, ?_⟩
        · exact wp_call (by kernel_rfl) rfl (hv1 ((evt za 21).trans (optSVal (zc.dep 6 21 (by kernel_rfl) (by decide)) rfl rfl))) (ih _ (tget_mem (by omega)) _ _ (size_at (by omega) hz) (IsT.below (bstep hb43 (zc.early (by kernel_rfl))) (hc54 x.2.2 (by first | omega | (simp; omega))).2.2)) (fun v w' h => ⟨v, rfl, h.2, optDef zβ (InT.mono (fun b hb _ => Nat.le_trans (zc.early (by kernel_rfl)).size hb) h.1)⟩)
        refine ⟨.inl ⟨rfl, true, .none rfl, (fun gg b h => by cases h), fun h w => optUndef h, fun zβ za zw zc => ?_⟩, ?_⟩
        · have zv := (optSMem (zc.dep 7 22 (by kernel_rfl) (by decide)) rfl rfl)
          obtain ⟨_, a1, c1, e1, _⟩ := zv.form
          rw [e1] at zv
          exact row_22_1 rfl ((evt za 22).trans e1) ⟨_, rfl, balloc _ _, optDef zβ ⟨_, _, rfl, zc.chg.size, Blk.new' rfl, _, _, rfl, zv.below (balloc _ _)⟩⟩
        refine ⟨.inr (.inl ⟨rfl, rfl, fun za zw zc => ?_⟩), ?_⟩
        · obtain ⟨g1, cs, e1, hg1, hB1, hin⟩ := (optSMem (zc.dep 8 23 (by kernel_rfl) (by decide)) rfl rfl)
          exact wp_appE (E := eltT) (size := 2) (bytes := 32) (z := .agg #[.int .i64 0, .slice none 0 0]) rfl Try.underlying22 (by kernel_rfl) rfl (by decide) rfl ((evt za 16).trans (optSVal (zc.dep 1 16 (by kernel_rfl) (by decide)) rfl rfl)) ((evt za 23).trans e1) (ho47.below zc.below) hB1 (eltT.mono (fun b hb _ => ⟨by omega, fun e => by have z := (ho47.lt b e).2; omega⟩) hin) (by omega) (by omega) (by have z := zc.below.size; omega) (fun ra rc w' h1 h2 _ => ⟨ra, rc, rfl, ⟨h1, chg_blk (hB46.below zc.below) h2 (fun e => by have z := (ho47.lt _ e).1; omega)⟩, h2.mono (fun b hb => .inr hb)⟩)
        refine ⟨.inl ⟨rfl, true, .none rfl, (fun gg b h => by cases h), fun h w => optUndef h, fun zβ za zw zc => ?_⟩, ?_⟩
        · exact fld_24_1 rfl (zc.kn.ev rfl) ⟨_, rfl, Below.refl _ _, optDef zβ rfl⟩
        refine ⟨.inr (.inr ⟨rfl, rfl, 24, by kernel_rfl, fun za zw ra rc zk zd zv zg => ?_⟩), ?_⟩
        · exact st_22 rfl ((evt za 25).trans (optSVal (zd 10 25 (by kernel_rfl) (by decide)) rfl rfl)) ((evt za 24).trans zv) zg.2 (by first | decide | simp) (fun v => ⟨v, rfl, ⟨zg.1.upd (Upd.at_ _ _ _ _) (by omega), zg.2.set_ 1 _⟩, .ofUpd (Upd.at_ _ _ _ _) (.inl rfl)⟩)
        exact trivial
      · intro za w55 ra58 rc59 zh zv hG56 hc57 zu
        have hb60 := chg_below hb43 hc57 (fun b hb => (fun h => by rcases hSlo _ h with h | h <;> omega))
        have hB61 := chg_blk hB44 hc57 (fun h => by rcases hSlo _ h with h | h <;> omega)
        have hB62 := chg_blk hB45 hc57 (fun h => by rcases hSlo _ h with h | h <;> omega)
        clear zu
        refine WE.go zh ?_
        refine WE.blockNormal ?_
        refine WE.next ?_
        refine WC.region ?_
        refine WL.mv rfl rfl rfl rfl rfl ?_
        refine WL.val (.int .i64 ((((x.2.2 + 1) : Nat) : Int))) rfl rfl rfl (fun za zC zh zk => addb_3 rfl (zh.ev rfl) (zh.ev rfl) (wrap_eq (by omega) (by omega) (by omega)) zk) ?_
        refine WL.asg rfl rfl rfl rfl rfl ?_
        refine WL.nil ?_
        refine WE.round ((ra58, rc59, x.2.2 + 1)) ⟨rfl, rfl, rfl, rfl, rfl, trivial⟩ ?_ ?_
        · exact ⟨by (try dsimp only at *); omega, (Nat.le_trans hBw hc57.size), hb60, hB61, hB62, hG56.2, (by rw [← take_snocT (by omega)]; exact hG56.1)⟩
        · dsimp only; omega
    · have h48 : ¬ ((((x.2.2 : Nat) : Int) : Int) < (((l.length : Nat) : Int) : Int)) := by simpa using h48
      refine WC.exit ?_
      refine WE.thenExit ?_
      refine WE.thenExit ?_
      refine WE.blockIs rfl ?_
      refine WE.next ?_
      refine WC.seq ?_
      refine WC.region ?_
      refine WL.val _ rfl rfl rfl (fun za zC zh zk => ld_24 rfl (zh.ev rfl) ((hB46.cell 0).trans rfl) ((hB46.cell 1).trans rfl) zk) ?_
      refine WL.step (post := fun _ w' => Upd g9 w42 w' ∧ Blk w' g9 24 #[.int .i64 f, .slice x.1 x.2.2 x.2.1]) rfl rfl rfl (fun za zC zh zk => st_24 rfl (zh.ev rfl) (zh.ev rfl) rfl rfl hB45 (by first | decide | simp) (fun v => zk v _ ⟨(Upd.at_ _ _ _ _).trans (Upd.at_ _ _ _ _), (hB45.set_ 0 _).set_ 1 _⟩)) ?_
      rintro v66 w63 ⟨hu64, hB65⟩
      have hb67 := upd_below hb43 hu64 (by omega)
      have hB68 := upd_blk hB44 hu64 (by omega)
      have hB69 := upd_blk hB46 hu64 (by omega)
      have ho70 := ho47.upd hu64 (by omega)
      refine WL.nil ?_
      refine WE.next ?_
      refine WC.ret ?_
      refine WE.retAny (v := .agg #[.int .i64 f, .slice x.1 x.2.2 x.2.1]) (fun za zh => ?_) ?_
      · have z0 : za.tmps[2]?.getD undef = .pointer (some ⟨g9, 0, none⟩) := by rw [← Array.getD_eq_getD_getElem?]; exact zh.knows 2 _ rfl
        have y0 : w63.cell? ⟨g9, 0, none⟩ = some (.int .i64 f) := ((hB65.cell 0).trans rfl)
        have y1 : w63.cell? ⟨g9, 1, none⟩ = some (.slice x.1 x.2.2 x.2.1) := ((hB65.cell 1).trans rfl)
        simp [results, Try.results48, z0, y0, y1, go_sem]
      · refine ⟨_, rfl, ?_, hb67⟩
        have z := ho70
        rw [List.take_of_length_le (by omega)] at z
        exact newT_row hf z (by omega)
end Go.Proofs.Ytibncmnmjhimeaa

/- A term is put into the net: the program. -/
namespace Go.Proofs.Ytibncmnmjhimeaa
open Go.RowKit Go
set_option linter.unusedVariables false
set_option linter.unusedSimpArgs false
theorem vnum_lt {f : Int} (h : f < 0) (h2 : -96 ≤ f) : vnum f < 96 ∧ ((vnum f : Nat) : Int) = -1 - f := by unfold vnum; omega
theorem putL_take {l : List T} {k : Nat} {st : NS} (h : k < l.length) : T.putL (l.take (k + 1)) st = (((tget l k).put (T.putL (l.take k) st).1).1, (T.putL (l.take k) st).2 ++ [((tget l k).put (T.putL (l.take k) st).1).2]) := by
  rw [List.take_succ_eq_append_getElem h, putL_snoc, tget_lt h]
theorem putL_take_len {l : List T} {k : Nat} {st : NS} (h : NetOk st) (hk : k ≤ l.length) : (T.putL (l.take k) st).2.length = k := by rw [(putL_ok _ st h).2.2, List.length_take]; omega
end Go.Proofs.Ytibncmnmjhimeaa

/- Regions in whatever order: two calls that make things, two new boxes, what is made is stored into them. -/
namespace Go.Proofs.Ytibncmnmjhimeaa
open Go.RowKit Go
set_option linter.unusedVariables false
def vcells : Value → Array Value
 | .agg cs => cs
 | v => #[v]
def PKeep (P : (Nat → Prop) → World → Value → Prop) : Prop := ∀ (S : Nat → Prop) (w w' : World) (v : Value), (∀ (p : Addr) (x : Value), S p.block → w.cell? p = some x → w'.cell? p = some x) → P S w v → P S w' v
def PMono (P : (Nat → Prop) → World → Value → Prop) : Prop := ∀ (S S' : Nat → Prop) (w : World) (v : Value), (∀ b, S b → b < w.heap.size → S' b) → P S w v → P S' w v
section
variable {w0 w w' : World} {t1 t2 g : Nat} {z1 z2 : Array Value} {x1 x2 va vb vp vq : Option Value} {P1 P2 : (Nat → Prop) → World → Value → Prop}
/-- A box: new, apart from what was made; empty, or what was made lies in it. -/
def BoxS (w0 : World) (S1 S2 : Nat → Prop) (t : Nat) (z : Array Value) (x va vp : Option Value) (w : World) : Prop :=
 ∀ v, va = some v → ∃ g cs, v = .pointer (some ⟨g, 0, none⟩) ∧ w0.heap.size ≤ g ∧ ¬ S1 g ∧ ¬ S2 g ∧ Blk w g t cs ∧ (vp = none → cs = z) ∧ (∀ u, vp = some u → ∃ y, x = some y ∧ cs = vcells y)
structure BxS (w0 : World) (P1 P2 : (Nat → Prop) → World → Value → Prop) (t1 : Nat) (z1 : Array Value) (t2 : Nat) (z2 : Array Value) (x1 x2 va vb vp vq : Option Value) (w : World) : Prop where
 below : Below w0.heap.size w0 w
 wit : ∃ S1 S2 : Nat → Prop, (∀ b, S1 b → w0.heap.size ≤ b ∧ b < w.heap.size) ∧ (∀ b, S2 b → w0.heap.size ≤ b ∧ b < w.heap.size) ∧ (∀ v, x1 = some v → P1 S1 w v) ∧ (∀ v, x2 = some v → P2 S2 w v) ∧
  BoxS w0 S1 S2 t1 z1 x1 va vp w ∧ BoxS w0 S1 S2 t2 z2 x2 vb vq w
 ne : ∀ v u, va = some v → vb = some u → v ≠ u
 pa : va = none → vp = none
 qb : vb = none → vq = none
def BxG (w0 : World) (P1 P2 : (Nat → Prop) → World → Value → Prop) (t1 : Nat) (z1 : Array Value) (t2 : Nat) (z2 : Array Value) : List (Option Value) → World → Prop
 | [x1, x2, va, vb, vp, vq], w => BxS w0 P1 P2 t1 z1 t2 z2 x1 x2 va vb vp vq w
 | _, _ => False
theorem BoxS.step {S1 S2 : Nat → Prop} (h : BoxS w0 S1 S2 t1 z1 x1 va vp w) (hb : Below w.heap.size w w') : BoxS w0 S1 S2 t1 z1 x1 va vp w' := fun v hv => by
 obtain ⟨g, cs, h1, h2, h3, h4, h5, h6⟩ := h v hv
 exact ⟨g, cs, h1, h2, h3, h4, h5.below hb, h6⟩
theorem BxS.step (k1 : PKeep P1) (k2 : PKeep P2) (h : BxS w0 P1 P2 t1 z1 t2 z2 x1 x2 va vb vp vq w) (hb : Below w.heap.size w w') : BxS w0 P1 P2 t1 z1 t2 z2 x1 x2 va vb vp vq w' := by
 obtain ⟨S1, S2, h1, h2, h3, h4, h5, h6⟩ := h.wit
 have hs := hb.size
 exact ⟨bstep h.below hb, ⟨S1, S2, fun b q => ⟨(h1 b q).1, by have := (h1 b q).2; omega⟩, fun b q => ⟨(h2 b q).1, by have := (h2 b q).2; omega⟩, fun v q => k1 _ _ _ _ (fun p x _ hx => bkeeps hb p x hx) (h3 v q), fun v q => k2 _ _ _ _ (fun p x _ hx => bkeeps hb p x hx) (h4 v q), h5.step hb, h6.step hb⟩, h.ne, h.pa, h.qb⟩
theorem BoxS.lt {S1 S2 : Nat → Prop} {S1' S2' : Nat → Prop} (h : BoxS w0 S1 S2 t1 z1 x1 va vp w) (h1 : ∀ b, b < w.heap.size → S1' b → S1 b) (h2 : ∀ b, b < w.heap.size → S2' b → S2 b) : BoxS w0 S1' S2' t1 z1 x1 va vp w := fun v hv => by
 obtain ⟨g, cs, e, h3, h4, h5, h6, h7⟩ := h v hv
 exact ⟨g, cs, e, h3, fun q => h4 (h1 g h6.lt q), fun q => h5 (h2 g h6.lt q), h6, h7⟩
theorem BxS.callA (k1 : PKeep P1) (k2 : PKeep P2) (m1 : PMono P1) {v : Value} (h : BxS w0 P1 P2 t1 z1 t2 z2 none x2 va vb vp vq w) (hb : Below w.heap.size w w') (hv : P1 (fun b => w.heap.size ≤ b) w' v) : BxS w0 P1 P2 t1 z1 t2 z2 (some v) x2 va vb vp vq w' := by
 obtain ⟨S1, S2, h1, h2, h3, h4, h5, h6⟩ := h.wit
 have hs := hb.size
 have h0 := h.below.size
 have far : ∀ b, b < w.heap.size → (w.heap.size ≤ b ∧ b < w'.heap.size) → S1 b := fun b q r => by omega
 refine ⟨bstep h.below hb, ⟨fun b => w.heap.size ≤ b ∧ b < w'.heap.size, S2, fun b q => ⟨by omega, q.2⟩, fun b q => ⟨(h2 b q).1, by have := (h2 b q).2; omega⟩, fun u q => ?_, fun v q => k2 _ _ _ _ (fun p x _ hx => bkeeps hb p x hx) (h4 v q), ?_, (h6.lt far (fun _ _ q => q)).step hb⟩, h.ne, h.pa, h.qb⟩
 ·obtain rfl := Option.some.inj q
  exact m1 _ _ _ _ (fun b q r => ⟨q, r⟩) hv
 ·refine BoxS.step (w := w) (fun v hv => ?_) hb
  obtain ⟨g, cs, e, q3, q4, q5, q6, q7, q8⟩ := h5 v hv
  refine ⟨g, cs, e, q3, fun q => q4 (far g q6.lt q), q5, q6, q7, fun u hu => ?_⟩
  obtain ⟨y, hy, _⟩ := q8 u hu
  cases hy
theorem BxS.callB (k1 : PKeep P1) (k2 : PKeep P2) (m2 : PMono P2) {v : Value} (h : BxS w0 P1 P2 t1 z1 t2 z2 x1 none va vb vp vq w) (hb : Below w.heap.size w w') (hv : P2 (fun b => w.heap.size ≤ b) w' v) : BxS w0 P1 P2 t1 z1 t2 z2 x1 (some v) va vb vp vq w' := by
 obtain ⟨S1, S2, h1, h2, h3, h4, h5, h6⟩ := h.wit
 have hs := hb.size
 have h0 := h.below.size
 have far : ∀ b, b < w.heap.size → (w.heap.size ≤ b ∧ b < w'.heap.size) → S2 b := fun b q r => by omega
 refine ⟨bstep h.below hb, ⟨S1, fun b => w.heap.size ≤ b ∧ b < w'.heap.size, fun b q => ⟨(h1 b q).1, by have := (h1 b q).2; omega⟩, fun b q => ⟨by omega, q.2⟩, fun v q => k1 _ _ _ _ (fun p x _ hx => bkeeps hb p x hx) (h3 v q), fun u q => ?_, (h5.lt (fun _ _ q => q) far).step hb, ?_⟩, h.ne, h.pa, h.qb⟩
 ·obtain rfl := Option.some.inj q
  exact m2 _ _ _ _ (fun b q r => ⟨q, r⟩) hv
 ·refine BoxS.step (w := w) (fun v hv => ?_) hb
  obtain ⟨g, cs, e, q3, q4, q5, q6, q7, q8⟩ := h6 v hv
  refine ⟨g, cs, e, q3, q4, fun q => q5 (far g q6.lt q), q6, q7, fun u hu => ?_⟩
  obtain ⟨y, hy, _⟩ := q8 u hu
  cases hy
theorem BxS.allocA (k1 : PKeep P1) (k2 : PKeep P2) (h : BxS w0 P1 P2 t1 z1 t2 z2 x1 x2 none vb vp vq w) : BxS w0 P1 P2 t1 z1 t2 z2 x1 x2 (some (.pointer (some ⟨w.heap.size, 0, none⟩))) vb vp vq (w.alloc (.cells z1 t1)) := by
 have hp := h.pa rfl
 subst hp
 have h0 := h.below.size
 have hst := h.step k1 k2 (balloc w (.cells z1 t1))
 obtain ⟨S1, S2, h1, h2, h3, h4, h5, h6⟩ := h.wit
 have hs := (balloc w (.cells z1 t1)).size
 refine ⟨hst.below, ⟨S1, S2, fun b q => ⟨(h1 b q).1, by have := (h1 b q).2; omega⟩, fun b q => ⟨(h2 b q).1, by have := (h2 b q).2; omega⟩, fun v q => k1 _ _ _ _ (fun p x _ hx => bkeeps (balloc _ _) p x hx) (h3 v q), fun v q => k2 _ _ _ _ (fun p x _ hx => bkeeps (balloc _ _) p x hx) (h4 v q), fun v hv => ?_, h6.step (balloc _ _)⟩, fun v u hv hu => ?_, fun e => (by cases e), h.qb⟩
 ·exact ⟨_, _, (Option.some.inj hv).symm, h0, fun q => by have := (h1 _ q).2; omega, fun q => by have := (h2 _ q).2; omega, Blk.new' rfl, fun _ => rfl, fun u hu => (by cases hu)⟩
 ·obtain ⟨g, cs, rfl, _, _, _, q6, _⟩ := h6 u hu
  obtain rfl := Option.some.inj hv
  have := q6.lt
  simp only [ne_eq, Value.pointer.injEq, Option.some.injEq, Addr.mk.injEq, and_true]
  omega
theorem BxS.allocB (k1 : PKeep P1) (k2 : PKeep P2) (h : BxS w0 P1 P2 t1 z1 t2 z2 x1 x2 va none vp vq w) : BxS w0 P1 P2 t1 z1 t2 z2 x1 x2 va (some (.pointer (some ⟨w.heap.size, 0, none⟩))) vp vq (w.alloc (.cells z2 t2)) := by
 have hp := h.qb rfl
 subst hp
 have h0 := h.below.size
 have hst := h.step k1 k2 (balloc w (.cells z2 t2))
 obtain ⟨S1, S2, h1, h2, h3, h4, h5, h6⟩ := h.wit
 have hs := (balloc w (.cells z2 t2)).size
 refine ⟨hst.below, ⟨S1, S2, fun b q => ⟨(h1 b q).1, by have := (h1 b q).2; omega⟩, fun b q => ⟨(h2 b q).1, by have := (h2 b q).2; omega⟩, fun v q => k1 _ _ _ _ (fun p x _ hx => bkeeps (balloc _ _) p x hx) (h3 v q), fun v q => k2 _ _ _ _ (fun p x _ hx => bkeeps (balloc _ _) p x hx) (h4 v q), h5.step (balloc _ _), fun v hv => ?_⟩, fun v u hv hu => ?_, h.pa, fun e => (by cases e)⟩
 ·exact ⟨_, _, (Option.some.inj hv).symm, h0, fun q => by have := (h1 _ q).2; omega, fun q => by have := (h2 _ q).2; omega, Blk.new' rfl, fun _ => rfl, fun u hu => (by cases hu)⟩
 ·obtain ⟨g, cs, rfl, _, _, _, q6, _⟩ := h5 v hv
  obtain rfl := Option.some.inj hu
  have := q6.lt
  simp only [ne_eq, Value.pointer.injEq, Option.some.injEq, Addr.mk.injEq, and_true]
  omega
theorem upd_keep {S : Nat → Prop} (hu : Upd g w w') (hS : ¬ S g) (p : Addr) (x : Value) (hp : S p.block) (hx : w.cell? p = some x) : w'.cell? p = some x := by
 unfold World.cell? at hx ⊢
 rw [hu.block p.block (fun e => hS (e ▸ hp))]; exact hx
theorem BxS.storeA (k1 : PKeep P1) (k2 : PKeep P2) {q y : Value} (h : BxS w0 P1 P2 t1 z1 t2 z2 (some y) x2 (some (.pointer (some ⟨g, 0, none⟩))) vb none vq w) (hu : Upd g w w') (hB : Blk w' g t1 (vcells y)) : BxS w0 P1 P2 t1 z1 t2 z2 (some y) x2 (some (.pointer (some ⟨g, 0, none⟩))) vb (some q) vq w' := by
 obtain ⟨S1, S2, h1, h2, h3, h4, h5, h6⟩ := h.wit
 obtain ⟨g', cs, e, q1, q2, q3, q4, _⟩ := h5 _ rfl
 simp only [Value.pointer.injEq, Option.some.injEq, Addr.mk.injEq, and_true] at e
 subst e
 have hs := hu.size
 refine ⟨upd_below h.below hu q1, ⟨S1, S2, fun b q => ⟨(h1 b q).1, by have := (h1 b q).2; omega⟩, fun b q => ⟨(h2 b q).1, by have := (h2 b q).2; omega⟩, fun v q => k1 _ _ _ _ (upd_keep hu q2) (h3 v q), fun v q => k2 _ _ _ _ (upd_keep hu q3) (h4 v q), fun v hv => ?_, fun v hv => ?_⟩, h.ne, fun e => (by cases e), h.qb⟩
 ·exact ⟨g, _, (Option.some.inj hv).symm, q1, q2, q3, hB, fun e => (by cases e), fun u _ => ⟨y, rfl, rfl⟩⟩
 ·obtain ⟨g2, cs2, rfl, r1, r2, r3, r4, r5⟩ := h6 v hv
  have := h.ne _ _ rfl hv
  simp only [ne_eq, Value.pointer.injEq, Option.some.injEq, Addr.mk.injEq, and_true] at this
  exact ⟨g2, cs2, rfl, r1, r2, r3, upd_blk r4 hu (fun e => this e.symm), r5⟩
theorem BxS.storeB (k1 : PKeep P1) (k2 : PKeep P2) {q y : Value} (h : BxS w0 P1 P2 t1 z1 t2 z2 x1 (some y) va (some (.pointer (some ⟨g, 0, none⟩))) vp none w) (hu : Upd g w w') (hB : Blk w' g t2 (vcells y)) : BxS w0 P1 P2 t1 z1 t2 z2 x1 (some y) va (some (.pointer (some ⟨g, 0, none⟩))) vp (some q) w' := by
 obtain ⟨S1, S2, h1, h2, h3, h4, h5, h6⟩ := h.wit
 obtain ⟨g', cs, e, q1, q2, q3, q4, _⟩ := h6 _ rfl
 simp only [Value.pointer.injEq, Option.some.injEq, Addr.mk.injEq, and_true] at e
 subst e
 have hs := hu.size
 refine ⟨upd_below h.below hu q1, ⟨S1, S2, fun b q => ⟨(h1 b q).1, by have := (h1 b q).2; omega⟩, fun b q => ⟨(h2 b q).1, by have := (h2 b q).2; omega⟩, fun v q => k1 _ _ _ _ (upd_keep hu q2) (h3 v q), fun v q => k2 _ _ _ _ (upd_keep hu q3) (h4 v q), fun v hv => ?_, fun v hv => ?_⟩, h.ne, h.pa, fun e => (by cases e)⟩
 ·obtain ⟨g2, cs2, rfl, r1, r2, r3, r4, r5⟩ := h5 v hv
  have := h.ne _ _ hv rfl
  simp only [ne_eq, Value.pointer.injEq, Option.some.injEq, Addr.mk.injEq, and_true] at this
  exact ⟨g2, cs2, rfl, r1, r2, r3, upd_blk r4 hu this, r5⟩
 ·exact ⟨g, _, (Option.some.inj hv).symm, q1, q2, q3, hB, fun e => (by cases e), fun u _ => ⟨y, rfl, rfl⟩⟩
end
section
variable {P : Program} {ops : Array Oper} {P1 P2 : (Nat → Prop) → World → Value → Prop}
def valR2 (l : List (Bool × Value)) (i : Nat) (v : Value) : Prop := (l.getD i (true, undef)).1 = true → v = (l.getD i (true, undef)).2
theorem valVal2 {l : List (Bool × Value)} {i : Nat} {v x : Value} {β : Bool} (h : valR2 l i v) (e : l.getD i (true, undef) = (β, x)) (hβ : β = true) : v = x := by
 have := h (by rw [e]; exact hβ)
 rw [e] at this; exact this
structure CtxX (ops : Array Oper) (l : List (Bool × Value)) (chain : List Nat) (n : Fr) (K : Known) (w0 : World) (o : Oper) (a : Act) (w : World) : Prop where
 below : Below w0.heap.size w0 w
 kn : Kn n K a
 dep : ∀ j d, depB ops o j d = true → chain.contains j = false → valR2 l j (a.tmps.getD d undef)
def SoundX (P : Program) (ops : Array Oper) (Q : Exit → Act → World → Prop) (l : List (Bool × Value)) (n : Fr) (K : Known) (w0 : World) (P1 P2 : (Nat → Prop) → World → Value → Prop) (t1 : Nat) (z1 : Array Value) (t2 : Nat) (z2 : Array Value) (ic id ia ib ip iq : Nat) : Nat → List Oper → Prop
 | _, [] => True
 | i, o :: r => (([ic, id, ia, ib, ip, iq].contains i = false ∧ o.guard = none ∧
    (∀ a w, CtxX ops l [ic, id, ia, ib, ip, iq] n K w0 o a w → o.wp P a w (fun a' w' => ∃ v, a' = Act.put a o.dst v ∧ w' = w ∧ valR2 l i v) Q)) ∨
   (i = ic ∧ o.guard = none ∧ ∀ a w, CtxX ops l [ic, id, ia, ib, ip, iq] n K w0 o a w → o.wp P a w (fun a' w' => ∃ v, a' = Act.put a o.dst v ∧ Below w.heap.size w w' ∧ P1 (fun b => w.heap.size ≤ b) w' v) Q) ∨
   (i = id ∧ o.guard = none ∧ ∀ a w, CtxX ops l [ic, id, ia, ib, ip, iq] n K w0 o a w → o.wp P a w (fun a' w' => ∃ v, a' = Act.put a o.dst v ∧ Below w.heap.size w w' ∧ P2 (fun b => w.heap.size ≤ b) w' v) Q) ∨
   (i = ia ∧ o.guard = none ∧ ∀ a w, CtxX ops l [ic, id, ia, ib, ip, iq] n K w0 o a w → o.wp P a w (fun a' w' => a' = Act.put a o.dst (.pointer (some ⟨w.heap.size, 0, none⟩)) ∧ w' = w.alloc (.cells z1 t1)) Q) ∨
   (i = ib ∧ o.guard = none ∧ ∀ a w, CtxX ops l [ic, id, ia, ib, ip, iq] n K w0 o a w → o.wp P a w (fun a' w' => a' = Act.put a o.dst (.pointer (some ⟨w.heap.size, 0, none⟩)) ∧ w' = w.alloc (.cells z2 t2)) Q) ∨
   (i = ip ∧ o.guard = none ∧ ∃ dp dx, depB ops o ia dp = true ∧ depB ops o ic dx = true ∧ ∀ a w g S, CtxX ops l [ic, id, ia, ib, ip, iq] n K w0 o a w → a.tmps.getD dp undef = .pointer (some ⟨g, 0, none⟩) → Blk w g t1 z1 → P1 S w (a.tmps.getD dx undef) → o.wp P a w (fun a' w' => ∃ v, a' = Act.put a o.dst v ∧ Upd g w w' ∧ Blk w' g t1 (vcells (a.tmps.getD dx undef))) Q) ∨
   (i = iq ∧ o.guard = none ∧ ∃ dp dx, depB ops o ib dp = true ∧ depB ops o id dx = true ∧ ∀ a w g S, CtxX ops l [ic, id, ia, ib, ip, iq] n K w0 o a w → a.tmps.getD dp undef = .pointer (some ⟨g, 0, none⟩) → Blk w g t2 z2 → P2 S w (a.tmps.getD dx undef) → o.wp P a w (fun a' w' => ∃ v, a' = Act.put a o.dst v ∧ Upd g w w' ∧ Blk w' g t2 (vcells (a.tmps.getD dx undef))) Q)) ∧ SoundX P ops Q l n K w0 P1 P2 t1 z1 t2 z2 ic id ia ib ip iq (i + 1) r
theorem SoundX.gen (k1 : PKeep P1) (k2 : PKeep P2) (m1 : PMono P1) (m2 : PMono P2) {Q : Exit → Act → World → Prop} {l : List (Bool × Value)} {n : Fr} {K : Known} {w0 : World} {t1 : Nat} {z1 : Array Value} {t2 : Nat} {z2 : Array Value} {ic id ia ib ip iq : Nat} : ∀ {lo : List Oper} {i : Nat}, SoundX P ops Q l n K w0 P1 P2 t1 z1 t2 z2 ic id ia ib ip iq i lo →
  SoundFromG P ops Q [ic, id, ia, ib, ip, iq] (fun i v _ => valR2 l i v) (fun _ _ => True) (BxG w0 P1 P2 t1 z1 t2 z2) n K i lo
 | [], _, _ => trivial
 | o :: r, i, ⟨h, hr⟩ => by
  refine ⟨?_, hr.gen k1 k2 m1 m2⟩
  have mk : ∀ {a : Act} {w : World} {vs : List (Option Value)} (_ : CtxG ops [ic, id, ia, ib, ip, iq] (fun i v _ => valR2 l i v) (BxG w0 P1 P2 t1 z1 t2 z2) n K i o a w vs), CtxX ops l [ic, id, ia, ib, ip, iq] n K w0 o a w := by
   intro a w vs C
   match vs, C.len, C.now with
   | [x1, x2, va, vb, vp, vq], _, hG => exact ⟨BxS.below hG, C.kn, C.dep⟩
  rcases h with ⟨h1, h2, h3⟩ | ⟨rfl, h1, h2⟩ | ⟨rfl, h1, h2⟩ | ⟨rfl, h1, h2⟩ | ⟨rfl, h1, h2⟩ | ⟨rfl, h1, dp, dx, h2, hx, h3⟩ | ⟨rfl, h1, dp, dx, h2, hx, h3⟩
  ·refine .inl ⟨h1, true, .none h2, fun g b hb => by (rw [h2] at hb; cases hb), fun e => (by cases e), fun _ a w vs C => ?_⟩
   refine Oper.wpIn_mono ?_ (wpIn_of (h3 a w (mk C)) (by rintro a' w' ⟨v, rfl, _⟩; exact put_defers _ _ _))
   rintro a' w' ⟨v, rfl, rfl, hv⟩
   exact ⟨v, rfl, trivial, C.now, hv⟩
  ·refine .inr ⟨0, rfl, h1, fun a w vs C hn => ?_⟩
   refine Oper.wpIn_mono ?_ (wpIn_of (h2 a w (mk C)) (by rintro a' w' ⟨v, rfl, _⟩; exact put_defers _ _ _))
   rintro a' w' ⟨v, rfl, hb, hv⟩
   match vs, C.len, hn, C.now with
   | [x1, x2, va, vb, vp, vq], _, hn, hG =>
    simp only [List.getElem?_cons_zero, Option.some.injEq] at hn
    subst hn
    exact ⟨_, rfl, trivial, BxS.callA k1 k2 m1 hG hb hv⟩
  ·refine .inr ⟨1, rfl, h1, fun a w vs C hn => ?_⟩
   refine Oper.wpIn_mono ?_ (wpIn_of (h2 a w (mk C)) (by rintro a' w' ⟨v, rfl, _⟩; exact put_defers _ _ _))
   rintro a' w' ⟨v, rfl, hb, hv⟩
   match vs, C.len, hn, C.now with
   | [x1, x2, va, vb, vp, vq], _, hn, hG =>
    simp only [List.getElem?_cons_zero, List.getElem?_cons_succ, Option.some.injEq] at hn
    subst hn
    exact ⟨_, rfl, trivial, BxS.callB k1 k2 m2 hG hb hv⟩
  ·refine .inr ⟨2, rfl, h1, fun a w vs C hn => ?_⟩
   refine Oper.wpIn_mono ?_ (wpIn_of (h2 a w (mk C)) (by rintro a' w' ⟨rfl, _⟩; exact put_defers _ _ _))
   rintro a' w' ⟨rfl, rfl⟩
   match vs, C.len, hn, C.now with
   | [x1, x2, va, vb, vp, vq], _, hn, hG =>
    simp only [List.getElem?_cons_zero, List.getElem?_cons_succ, Option.some.injEq] at hn
    subst hn
    exact ⟨_, rfl, trivial, BxS.allocA k1 k2 hG⟩
  ·refine .inr ⟨3, rfl, h1, fun a w vs C hn => ?_⟩
   refine Oper.wpIn_mono ?_ (wpIn_of (h2 a w (mk C)) (by rintro a' w' ⟨rfl, _⟩; exact put_defers _ _ _))
   rintro a' w' ⟨rfl, rfl⟩
   match vs, C.len, hn, C.now with
   | [x1, x2, va, vb, vp, vq], _, hn, hG =>
    simp only [List.getElem?_cons_zero, List.getElem?_cons_succ, Option.some.injEq] at hn
    subst hn
    exact ⟨_, rfl, trivial, BxS.allocB k1 k2 hG⟩
  ·refine .inr ⟨4, rfl, h1, fun a w vs C hn => ?_⟩
   have e0 := C.link 2 ia dp rfl h2
   have e1 := C.link 0 ic dx rfl hx
   match vs, C.len, hn, e0, e1, C.now, C with
   | [x1, x2, va, vb, vp, vq], _, hn, e0, e1, hG, C =>
    simp only [List.getElem?_cons_zero, List.getElem?_cons_succ, Option.some.injEq] at hn e0 e1
    subst hn e0 e1
    have hG' : BxS w0 P1 P2 t1 z1 t2 z2 (some (a.tmps.getD dx undef)) x2 (some (a.tmps.getD dp undef)) vb none vq w := hG
    obtain ⟨S1, S2, _, _, p1, _, b1, _⟩ := hG'.wit
    obtain ⟨g, cs, h5, _, _, _, h6, h7, _⟩ := b1 _ rfl
    obtain rfl := h7 rfl
    refine Oper.wpIn_mono ?_ (wpIn_of (h3 a w g S1 (mk C) h5 h6 (p1 _ rfl)) (by rintro a' w' ⟨v, rfl, _⟩; exact put_defers _ _ _))
    rintro a' w' ⟨v, rfl, h7, h8⟩
    refine ⟨v, rfl, trivial, ?_⟩
    show BxS w0 P1 P2 t1 cs t2 z2 (some (a.tmps.getD dx undef)) x2 (some (a.tmps.getD dp undef)) vb (some v) vq w'
    rw [h5] at hG' ⊢
    exact BxS.storeA k1 k2 hG' h7 h8
  ·refine .inr ⟨5, rfl, h1, fun a w vs C hn => ?_⟩
   have e0 := C.link 3 ib dp rfl h2
   have e1 := C.link 1 id dx rfl hx
   match vs, C.len, hn, e0, e1, C.now, C with
   | [x1, x2, va, vb, vp, vq], _, hn, e0, e1, hG, C =>
    simp only [List.getElem?_cons_zero, List.getElem?_cons_succ, Option.some.injEq] at hn e0 e1
    subst hn e0 e1
    have hG' : BxS w0 P1 P2 t1 z1 t2 z2 x1 (some (a.tmps.getD dx undef)) va (some (a.tmps.getD dp undef)) vp none w := hG
    obtain ⟨S1, S2, _, _, _, p2, _, b2⟩ := hG'.wit
    obtain ⟨g, cs, h5, _, _, _, h6, h7, _⟩ := b2 _ rfl
    obtain rfl := h7 rfl
    refine Oper.wpIn_mono ?_ (wpIn_of (h3 a w g S2 (mk C) h5 h6 (p2 _ rfl)) (by rintro a' w' ⟨v, rfl, _⟩; exact put_defers _ _ _))
    rintro a' w' ⟨v, rfl, h7, h8⟩
    refine ⟨v, rfl, trivial, ?_⟩
    show BxS w0 P1 P2 t1 z1 t2 cs x1 (some (a.tmps.getD dx undef)) va (some (a.tmps.getD dp undef)) vp (some v) w'
    rw [h5] at hG' ⊢
    exact BxS.storeB k1 k2 hG' h7 h8
theorem WC.box2 {rid : Nat} {dr : Bool} {Q : Exit → Act → World → Prop} {n : Fr} {K : Known} {w : World} (P1 P2 : (Nat → Prop) → World → Value → Prop) (k1 : PKeep P1) (k2 : PKeep P2) (m1 : PMono P1) (m2 : PMono P2) (l : List (Bool × Value)) (K0 : Known) {t1 : Nat} {z1 : Array Value} {t2 : Nat} {z2 : Array Value} (ic id ia ib ip iq da db : Nat)
  (hd : ([ic, id, ia, ib, ip, iq]).Nodup) (hin : (([ic, id, ia, ib, ip, iq]).all fun c => Nat.blt c ops.size) = true) (hda : (ops[ia]?).bind (·.dst) = some da) (hdb : (ops[ib]?).bind (·.dst) = some db)
  (hs : subK K0 K) (hclear : clearB ops K0 = true) (hm : P.follows .mixedOrders = true) (hB : opsB ops n.n = true)
  (h : SoundX P ops Q l n K0 w P1 P2 t1 z1 t2 z2 ic id ia ib ip iq 0 ops.toList)
  (hQ : ∀ (a : Act) (w' : World) (g1 g2 : Nat) (v1 v2 : Value) (S1 S2 : Nat → Prop), Kn n K0 a → Below w.heap.size w w' → w.heap.size ≤ g1 → w.heap.size ≤ g2 → g1 ≠ g2 → Blk w' g1 t1 (vcells v1) → Blk w' g2 t2 (vcells v2) → P1 S1 w' v1 → P2 S2 w' v2 → (∀ b, S1 b → w.heap.size ≤ b ∧ b ≠ g1 ∧ b ≠ g2) → (∀ b, S2 b → w.heap.size ≤ b ∧ b ≠ g1 ∧ b ≠ g2) → a.tmps.getD da undef = .pointer (some ⟨g1, 0, none⟩) → a.tmps.getD db undef = .pointer (some ⟨g2, 0, none⟩) → (∀ i d, (ops[i]?).bind (·.dst) = some d → ([ic, id, ia, ib, ip, iq]).contains i = false → valR2 l i (a.tmps.getD d undef)) → Q .normal a w') :
  WC P n K w (.region rid ops dr) Q := by
 refine WC.gen [ic, id, ia, ib, ip, iq] (fun i v _ => valR2 l i v) (fun _ _ => True) (BxG w P1 P2 t1 z1 t2 z2) K0 hs hclear hm hB hd hin (fun _ _ _ _ h _ => h) ?_ (h.gen k1 k2 m1 m2) (fun a w' vs hk hlen hall hG hu hl => ?_)
 ·have st : ∀ w' : World, Below w.heap.size w w' → BxS w P1 P2 t1 z1 t2 z2 none none none none none none w' := fun w' hb => ⟨hb, ⟨fun _ => False, fun _ => False, fun _ h => h.elim, fun _ h => h.elim, fun v hv => (by cases hv), fun v hv => (by cases hv), fun v hv => (by cases hv), fun v hv => (by cases hv)⟩, fun v u hv => (by cases hv), fun _ => rfl, fun _ => rfl⟩
  cases dr with
  | true => exact st _ (Below.refl _ _).drew
  | false => exact st _ (Below.refl _ _)
 ·obtain ⟨v0, hv0⟩ := hall 0 (by simp)
  obtain ⟨v1, hv1⟩ := hall 1 (by simp)
  obtain ⟨v2, hv2⟩ := hall 2 (by simp)
  obtain ⟨v3, hv3⟩ := hall 3 (by simp)
  obtain ⟨v4, hv4⟩ := hall 4 (by simp)
  obtain ⟨v5, hv5⟩ := hall 5 (by simp)
  have ha := hl 2 ia da rfl hda
  have hb := hl 3 ib db rfl hdb
  match vs, hlen, hv0, hv1, hv2, hv3, hv4, hv5, hG, ha, hb with
  | [x1, x2, va, vb, vp, vq], _, hv0, hv1, hv2, hv3, hv4, hv5, hG, ha, hb =>
   simp only [List.getElem?_cons_zero, List.getElem?_cons_succ, Option.some.injEq] at hv0 hv1 hv2 hv3 hv4 hv5 ha hb
   subst hv0 hv1 hv4 hv5 ha hb
   have hG' : BxS w P1 P2 t1 z1 t2 z2 (some v0) (some v1) _ _ (some v4) (some v5) w' := hG
   obtain ⟨S1, S2, s1, s2, p1, p2, b1, b2⟩ := hG'.wit
   obtain ⟨g1, cs1, e1, h1, h2, h3, h4, _, h5⟩ := b1 _ rfl
   obtain ⟨g2, cs2, e2, r1, r2, r3, r4, _, r5⟩ := b2 _ rfl
   obtain ⟨y1, f1, rfl⟩ := h5 _ rfl
   obtain ⟨y2, f2, rfl⟩ := r5 _ rfl
   obtain rfl := Option.some.inj f1
   obtain rfl := Option.some.inj f2
   have hne := BxS.ne hG' _ _ rfl rfl
   rw [e1, e2] at hne
   simp only [ne_eq, Value.pointer.injEq, Option.some.injEq, Addr.mk.injEq, and_true] at hne
   exact hQ a w' g1 g2 v0 v1 S1 S2 hk (BxS.below hG') h1 r1 hne h4 r4 (p1 _ rfl) (p2 _ rfl) (fun b q => ⟨(s1 b q).1, fun e => h2 (e ▸ q), fun e => r2 (e ▸ q)⟩) (fun b q => ⟨(s2 b q).1, fun e => h3 (e ▸ q), fun e => r3 (e ▸ q)⟩) e1 e2 hu
end
end Go.Proofs.Ytibncmnmjhimeaa

/- Scopes (functions with labels) through which the run goes without a goto. -/
namespace Go.Proofs.Ytibncmnmjhimeaa
open Go.RowKit Go
set_option linter.unusedVariables false
set_option linter.unusedSimpArgs false
section
variable {P : Program} {n : Fr} {K : Known} {w : World} {Q : Exit → Act → World → Prop} {c : Code}
end
end Go.Proofs.Ytibncmnmjhimeaa

/- Parts are made the same: the program. -/
namespace Go.Proofs.Ytibncmnmjhimeaa
open Go.RowKit Go
set_option linter.unusedVariables false
set_option linter.unusedSimpArgs false
end Go.Proofs.Ytibncmnmjhimeaa

/- Loops over functions, and functions that hand out one thing after the other. -/
namespace Go.Proofs.Ytibncmnmjhimeaa
open Go.RowKit Go
set_option linter.unusedVariables false
set_option linter.unusedSimpArgs false
section
variable {P : Program}
end
/-! ### Operations behind guards, one after the other -/
section
variable {P : Program} {n : Fr} {K K' : Known} {w : World} {ops : Array Oper} {o : Oper} {rest : List Oper} {Q : Exit → Act → World → Prop}
theorem bool_split {X : Prop} (b : Bool) (ht : b = true → X) (hf : b = false → X) : X := by
  cases b
  · exact hf rfl
  · exact ht rfl
theorem wp_pickT {a : Act} {C : Act → World → Prop} {x y z : Operand} {v : Value} (ho : o.op = .pick x y z) (hx : a.eval x = .bool true) (hy : a.eval y = v) (hK : C (a.put o.dst v) w) : o.wp P a w C Q := by
  unfold Oper.wp execOp
  simp only [ho, hx, hy]
  exact hK
theorem wp_pickF {a : Act} {C : Act → World → Prop} {x y z : Operand} {v : Value} (ho : o.op = .pick x y z) (hx : a.eval x = .bool false) (hz : a.eval z = v) (hK : C (a.put o.dst v) w) : o.wp P a w C Q := by
  unfold Oper.wp execOp
  simp only [ho, hx, hz]
  exact hK
theorem yielded_known {a : Act} {g d : Nat} {c : Bool} (ha : Kn n K a) (hd : (ops[g]?).bind (·.dst) = some d) (hk : look K d = some (.bool c)) : yielded ops a.tmps g = some c := by
  have := ha.knows d _ hk
  unfold yielded
  rw [hd]
  rcases Nat.lt_or_ge d a.tmps.size with h | h
  · simp only [Array.getD_eq_getD_getElem?, Array.getElem?_eq_getElem h, Option.getD_some] at this
    simp [h, this]
  · simp [Array.getD, Nat.not_lt.2 h, undef] at this
theorem WL.want {g d : Nat} {b : Bool} (hg : o.guard = some (g, b)) (hd : (ops[g]?).bind (·.dst) = some d) (hk : look K d = some (.bool b)) (h : WL P ops n K w ({ o with guard := none } :: rest) Q) : WL P ops n K w (o :: rest) Q := fun a ha => by
  have := h a ha
  unfold wpListIn at this ⊢
  have e1 : Region.wanted o (yielded ops a.tmps) = true := by unfold Region.wanted; rw [hg]; simp only [yielded_known ha hd hk]; cases b <;> rfl
  rw [if_pos e1]
  have e2 : Region.wanted { o with guard := none } (yielded ops a.tmps) = true := rfl
  rw [if_pos e2] at this
  exact this
theorem WL.skip {g d : Nat} {b c : Bool} (hg : o.guard = some (g, b)) (hd : (ops[g]?).bind (·.dst) = some d) (hk : look K d = some (.bool c)) (hne : (c == b) = false) (hlt : dstB n.n o.dst = true) (h : WL P ops n (putK K o.dst undef) w rest Q) : WL P ops n K w (o :: rest) Q := fun a ha => by
  unfold wpListIn
  have e1 : Region.wanted o (yielded ops a.tmps) = false := by unfold Region.wanted; rw [hg]; simp only [yielded_known ha hd hk]; simpa using hne
  rw [if_neg (by rw [e1]; decide)]
  exact ⟨fun f _ => fen_fn _ f, h _ (ha.puts hlt undef)⟩
end
section
variable {P : Program} {n : Fr} {K : Known} {w : World} {ops : Array Oper} {o : Oper} {rest : List Oper} {Q : Exit → Act → World → Prop}
end
section
variable {P : Program} {N : Nat} {r : Option Nat} {ds : List Deferred} {K : Known} {w w' : World} {fn : Func} {R : Ending → World → Prop}
end
section
variable {P : Program} {N : Nat} {ds : List Deferred}
end
/-! ### The other side: a function that hands out -/
section
variable {P : Program} {w : World} {a : Act} {Q : Exit → Act → World → Prop} {o : Oper}
end
end Go.Proofs.Ytibncmnmjhimeaa

/- Loops over functions that lay boxes of their own: a round leaves all cells outside 'S' as they are. -/
namespace Go.Proofs.Ytibncmnmjhimeaa
open Go.RowKit Go
set_option linter.unusedVariables false
set_option linter.unusedSimpArgs false
section
variable {S : Nat → Prop} {B : Nat} {w w' w'' : World}
end
section
variable {P : Program} {N : Nat} {ds : List Deferred}
end
section
variable {B : Nat} {w w' : World} {l : List Nat}
end
section
variable {P : Program} {n : Fr} {K : Known} {w : World} {c : Code} {Q : Exit → Act → World → Prop}
end
end Go.Proofs.Ytibncmnmjhimeaa

/- What a part becomes is measured: the program. -/
namespace Go.Proofs.Ytibncmnmjhimeaa
open Go.RowKit Go
set_option linter.unusedVariables false
set_option linter.unusedSimpArgs false
theorem args_le : ∀ {N : List Pt} {r : Nat}, r < N.length → (pget N r).args.length ≤ argN N
  | x :: N, 0, _ => by show x.args.length ≤ _; unfold argN; rw [List.map_cons, List.sum_cons]; omega
  | x :: N, r + 1, h => by
    have := args_le (N := N) (r := r) (by simpa using h)
    have e : pget (x :: N) (r + 1) = pget N r := rfl
    rw [e]; unfold argN at *; rw [List.map_cons, List.sum_cons]; omega
/-- How measuring stands. -/
structure AS where
  k : Nat
  U : List Nat
  ms : List Ms
end Go.Proofs.Ytibncmnmjhimeaa

/- Literals, clauses: how they lie in memory. -/
namespace Go.Proofs.Ytibncmnmjhimeaa
open Go.RowKit Go
set_option linter.unusedVariables false
set_option linter.unusedSimpArgs false
/-- A literal. -/
structure Li where
  neg : Bool
  l : T
  r : T
instance : Inhabited Li := ⟨⟨false, .mk 0 [], .mk 0 []⟩⟩
end Go.Proofs.Ytibncmnmjhimeaa

/- Are terms, clauses small? The program. -/
namespace Go.Proofs.Ytibncmnmjhimeaa
open Go.RowKit Go
set_option linter.unusedVariables false
set_option linter.unusedSimpArgs false
end Go.Proofs.Ytibncmnmjhimeaa

/- Is a term small? The program. -/
namespace Go.Proofs.Ytibncmnmjhimeaa
open Go.RowKit Go
set_option linter.unusedVariables false
set_option linter.unusedSimpArgs false
end Go.Proofs.Ytibncmnmjhimeaa

/- All pairs are joined and measured: the program. -/
namespace Go.Proofs.Ytibncmnmjhimeaa
open Go.RowKit Go
set_option linter.unusedVariables false
set_option linter.unusedSimpArgs false
/-- How joining all stands. -/
structure SS where
  k : Nat
  st : NS
  κ : Nat → Nat
end Go.Proofs.Ytibncmnmjhimeaa

/- Regions in whatever order: a call that makes something, calls that read it, a new box into which one value is stored. -/
namespace Go.Proofs.Ytibncmnmjhimeaa
open Go.RowKit Go
set_option linter.unusedVariables false
section
variable {w0 w w' : World} {t g : Nat} {z : Array Value} {y : Value} {x va vp : Option Value} {P1 : World → Value → Prop}
end
section
variable {P : Program} {ops : Array Oper} {P1 : World → Value → Prop}
def valR1 (l : List (Bool × Value)) (i : Nat) (v : Value) : Prop := (l.getD i (true, undef)).1 = true → v = (l.getD i (true, undef)).2
theorem valVal1 {l : List (Bool × Value)} {i : Nat} {v x : Value} {β : Bool} (h : valR1 l i v) (e : l.getD i (true, undef) = (β, x)) (hβ : β = true) : v = x := by
  have := h (by rw [e]; exact hβ)
  rw [e] at this; exact this
end
end Go.Proofs.Ytibncmnmjhimeaa

/- Regions in whatever order: a call that changes memory, what it tells, a new box into which one value is stored. -/
namespace Go.Proofs.Ytibncmnmjhimeaa
open Go.RowKit Go
set_option linter.unusedVariables false
section
variable {w0 w w' : World} {T : Nat → Prop} {t g : Nat} {z : Array Value} {y : Value} {x va vp : Option Value} {P1 : World → Value → Prop}
end
section
variable {P : Program} {ops : Array Oper} {P1 : World → Value → Prop}
end
end Go.Proofs.Ytibncmnmjhimeaa

/- What a part becomes: the program. -/
namespace Go.Proofs.Ytibncmnmjhimeaa
open Go.RowKit Go
set_option linter.unusedVariables false
set_option linter.unusedSimpArgs false
section
variable {α : Type} {E : Elt α} {S : Nat → Prop} {w : World} {e n c : Nat} {a : Option Addr} {l : List α}
end
end Go.Proofs.Ytibncmnmjhimeaa

/- What variables become: the program. -/
namespace Go.Proofs.Ytibncmnmjhimeaa
open Go.RowKit Go
set_option linter.unusedVariables false
set_option linter.unusedSimpArgs false
end Go.Proofs.Ytibncmnmjhimeaa

/- Two terms: what variables become; whether there is a unifier: the program. -/
namespace Go.Proofs.Ytibncmnmjhimeaa
open Go.RowKit Go
set_option linter.unusedVariables false
set_option linter.unusedSimpArgs false
/-- Whether there is a unifier. -/
def CanIs (rv : Bool) (l : List (T × T)) (b : Bool) : Prop := (wideB l = false ∧ b = false) ∨ (wideB l = true ∧ ∃ o, SolveIs rv l o ∧ b = o.isSome)
end Go.Proofs.Ytibncmnmjhimeaa

/- Unifiers, plain: the most general one, and that there is but one. -/
namespace Go.Proofs.Ytibncmnmjhimeaa
set_option linter.unusedVariables false
set_option linter.unusedSimpArgs false
/-- The most general unifier: of variables that hang together the least stands. -/
structure Mgu (l : List (T × T)) (σ : Nat → T) : Prop where
  unif : Unif σ l
  most : ∀ θ, Unif θ l → ∀ v, θ v = (σ v).apv θ
  prp : ∀ v, (σ v).prp
  low : ∀ v x, σ v = tv x → x ≤ v
  idem : ∀ v (n : Nat), (σ v).hasV (n : Int) → σ n = tv n
def bindsS (σ : Nat → T) : Nat → Option (List Bd)
  | 0 => some []
  | v + 1 => match bindsS σ v with
    | none => none
    | some s => if (σ v).f = -1 - (v : Int) then some s else if 300 < (σ v).size ∨ 30 < (σ v).dep then none else some (s ++ [⟨(v : Int), σ v⟩])
theorem mem_le_sum : ∀ {l : List Nat} {x : Nat}, x ∈ l → x ≤ l.sum
  | y :: r, x, h => by
    rw [List.sum_cons]
    rcases List.mem_cons.1 h with rfl | h
    · omega
    · have := mem_le_sum h; omega
theorem tv_inj {v x : Nat} (h : tv v = tv x) : v = x := by unfold tv at h; have := (T.mk.inj h).1; omega
section
variable {st : NS} {κ μ : Nat → Nat} {θ : Nat → T}
theorem tmU_ap (h : Mu st.N κ μ) (hS : ∀ i j, κ i = κ j → SP st.N θ i j) : ∀ i, i < st.N.length → (tmU st.N κ μ i).apv θ = pv st.N θ i := by
  have hr : ∀ i, i < st.N.length → pv st.N θ (κ i) = pv st.N θ i := fun i hi => by
    rcases hS (κ i) i (h.ok.idem i) with e | ⟨_, _, e⟩
    · rw [e]
    · exact e
  refine mu_ind h (fun i hi ih => ?_)
  have l := h.ok.lt i hi
  rw [← hr i hi]
  by_cases hf : (pget st.N (κ i)).fn < 0
  · rw [tmU_var h hi hf, apv_var hf, pv_var hf]
  · rw [tmU_eq h hi, apv_sym hf, pv_sym h.nok l hf, List.map_map]
    congr 1
    exact map_mem (fun a ha => ih a ha)
theorem sg_most (hs : NetOk st) (h : Mu st.N κ μ) (hS : ∀ i j, κ i = κ j → SP st.N θ i j) (v : Nat) : θ v = (sgV st κ μ v).apv θ := by
  unfold sgV
  by_cases c : st.V v = 0
  · rw [if_pos c, apv_tv]
  · rw [if_neg c]
    obtain ⟨a, b⟩ := hs.vars v
    have hb := b c
    rw [tmU_ap h hS _ (by omega), pv_var (by rw [hb]; omega), hb, vnum_tv]
theorem sg_mgu {l : List (T × T)} (hs : NetOk st) (ho : VarOne st) (hk : KCl st.N κ) (h : Mu st.N κ μ) (hl : ∀ p ∈ l, ∃ i j, p.1.rep st.N st.V i ∧ p.2.rep st.N st.V j ∧ κ i = κ j) (hm : ∀ θ, Unif θ l → ∀ i j, κ i = κ j → SP st.N θ i j) : Mgu l (sgV st κ μ) := by
  refine ⟨fun p hp => ?_, fun θ hu v => sg_most hs h (hm θ hu) v, fun v => ?_, fun v x e => ?_, fun v n hh => ?_⟩
  · obtain ⟨i, j, h1, h2, h3⟩ := hl p hp
    rw [rep_sg hs ho h _ _ h1 (tmU_own hk h), rep_sg hs ho h _ _ h2 (tmU_own hk h)]
    exact unU_same h3
  · unfold sgV
    by_cases c : st.V v = 0
    · rw [if_pos c]; unfold tv; rw [T.prp, if_pos (by omega)]
    · rw [if_neg c]; have := (hs.vars v).1; exact tmU_prp h _ (by omega)
  · unfold sgV at e
    by_cases c : st.V v = 0
    · rw [if_pos c] at e; have := tv_inj e; omega
    · rw [if_neg c] at e
      obtain ⟨a, b⟩ := hs.vars v
      have hb := b c
      have hi : st.V v - 1 < st.N.length := by omega
      rw [tmU_eq h hi] at e
      have e1 := (T.mk.inj e).1
      have := hk.ok.top (st.V v - 1) (by rw [e1]; omega)
      omega
  · have key : ∀ i, i < st.N.length → (tmU st.N κ μ i).hasV (n : Int) → sgV st κ μ n = tv n := mu_ind h (fun i hi ih hh => by
      have l := h.ok.lt i hi
      by_cases hf : (pget st.N (κ i)).fn < 0
      · rw [tmU_var h hi hf, T.hasV] at hh
        rcases hh with ⟨_, hh⟩ | hh
        · have e := ho (κ i) l hf
          have en : vnum (pget st.N (κ i)).fn = n := by unfold vnum; omega
          have z := sgV_part hs ho h l hf
          rw [en] at z
          rw [z, show tmU st.N κ μ (κ i) = tmU st.N κ μ i from unU_same (h.ok.idem i), tmU_var h hi hf]
          unfold tv; congr 1; omega
        · simp [T.hasVL] at hh
      · rw [tmU_eq h hi, T.hasV] at hh
        rcases hh with ⟨hh, _⟩ | hh
        · exact absurd hh hf
        · obtain ⟨t, ht, hh⟩ := hasVL_mem.1 hh
          obtain ⟨a, ha, rfl⟩ := List.mem_map.1 ht
          exact ih a ha hh)
    unfold sgV at hh
    by_cases c : st.V v = 0
    · rw [if_pos c] at hh
      unfold tv at hh
      rw [T.hasV] at hh
      rcases hh with ⟨_, hh⟩ | hh
      · obtain rfl : n = v := by omega
        unfold sgV; rw [if_pos c]
      · simp [T.hasVL] at hh
    · rw [if_neg c] at hh
      have := (hs.vars v).1
      exact key _ (by omega) hh
theorem binds_sg {sz dp : Nat → Nat} (hs : NetOk st) (hk : KOk st.N κ) (h : Meas st.N κ sz dp) : ∀ v, bindsM st κ sz dp v = bindsS (sgV st κ (fun i => dp i - 1)) v
  | 0 => rfl
  | v + 1 => by
    rw [bindsM, bindsS, binds_sg hs hk h v]
    cases bindsS (sgV st κ (fun i => dp i - 1)) v with
    | none => rfl
    | some s =>
      (try dsimp only)
      by_cases c : st.V v = 0
      · rw [if_pos c, if_pos]
        unfold sgV; rw [if_pos c]; rfl
      · rw [if_neg c]
        have hv := (hs.vars v).1
        have hi : st.V v - 1 < st.N.length := by omega
        have hm := h.mu hk hs.args
        have e : sgV st κ (fun i => dp i - 1) v = tmU st.N κ (fun i => dp i - 1) (st.V v - 1) := by unfold sgV; rw [if_neg c]
        obtain ⟨k1, k2⟩ := h.is hk hs.args _ hi
        have e1 : (tmU st.N κ (fun i => dp i - 1) (st.V v - 1)).f = (pget st.N (κ (st.V v - 1))).fn := by rw [tmU_eq hm hi]; rfl
        have e2 : tmF st.N κ (dp (κ (st.V v - 1))) (κ (st.V v - 1)) = tmU st.N κ (fun i => dp i - 1) (st.V v - 1) := by
          rw [tmF_unf, unf_rep hk]
          have := h.pos hi
          exact unU_at hm hi (by show dp (κ (st.V v - 1)) - 1 < _; omega)
        rw [e, e1, e2, k1, k2]
        by_cases c2 : (pget st.N (κ (st.V v - 1))).fn = -1 - (v : Int)
        · rw [if_pos c2, if_pos c2]
        · rw [if_neg c2, if_neg c2]
          by_cases c3 : 300 < (tmU st.N κ (fun i => dp i - 1) (st.V v - 1)).size ∨ 30 < (tmU st.N κ (fun i => dp i - 1) (st.V v - 1)).dep
          · rw [if_pos c3, if_pos (by unfold capS; omega)]
          · rw [if_neg c3, if_neg (by unfold capS; omega)]
/-- A unifier measures parts: nothing stands in itself. -/
theorem unif_meas (hs : NetOk st) (hk : KOk st.N κ) (hS : ∀ i j, κ i = κ j → SP st.N θ i j) : ∃ sz dp, Meas st.N κ sz dp := by
  have hr : ∀ i, i < st.N.length → pv st.N θ (κ i) = pv st.N θ i := fun i hi => by
    rcases hS (κ i) i (hk.idem i) with e | ⟨_, _, e⟩
    · rw [e]
    · exact e
  have hm : Mu st.N κ (fun i => (pv st.N θ i).size) := ⟨hk, hs.args, fun i hi a ha => by
    have l := hk.lt i hi
    have la : a < st.N.length := by have := (hs.args _ l).1 _ ha; omega
    have hf : ¬ (pget st.N (κ i)).fn < 0 := fun q => by rw [(hs.args _ l).2 q] at ha; simp at ha
    show (pv st.N θ (κ a)).size < (pv st.N θ (κ i)).size
    rw [hr a la, pv_sym hs.args l hf, T.size, sizeL_sum, List.map_map]
    have : (pv st.N θ a).size ≤ (((pget st.N (κ i)).args.map (T.size ∘ pv st.N θ))).sum := mem_le_sum (List.mem_map.2 ⟨a, ha, rfl⟩)
    omega⟩
  refine ⟨unU st.N κ (fun i => (pv st.N θ i).size) (fun _ l => l.foldl (fun n d => min (n + d) capS) 1) 0, unU st.N κ (fun i => (pv st.N θ i).size) (fun _ l => l.foldl (fun n d => max n (d + 1)) 1) 0, fun i hi => ?_, fun i hi => ?_⟩
  · have l := hk.lt i hi
    rw [unU_eq hm l, hk.idem, List.foldl_map]
    unfold szF
    congr 1
    funext n a
    rw [unU_same (hk.idem a)]
  · have l := hk.lt i hi
    rw [unU_eq hm l, hk.idem, List.foldl_map]
    unfold dpF
    congr 1
    funext n a
    rw [unU_same (hk.idem a)]
end
theorem solve_some {rv : Bool} {l : List (T × T)} {st : NS} {κ sz dp : Nat → Nat} (h : SolveIs rv l (some (st, κ, sz, dp))) (hp : PrpPs l) : ∃ σ, Mgu l σ ∧ resOf (some (st, κ, sz, dp)) = resB (bindsS σ 96) := by
  cases h with
  | ok h1 hm =>
    obtain ⟨k1, k2⟩ := nrun_unif h1 net0_ok varOne0 kcl0 hp
    obtain ⟨m1, m2, m3, _, _, _, m4⟩ := k1 st κ rfl
    refine ⟨sgV st κ (fun i => dp i - 1), sg_mgu m1 m2 m3 (hm.mu m3.ok m1.args) m4 (fun θ hu => ?_), ?_⟩
    · obtain ⟨st', κ', e, hS⟩ := k2 θ hu (fun i j e => .inl e)
      cases e
      exact hS
    · unfold resOf
      (try dsimp only)
      rw [binds_sg m1 m3.ok hm]
theorem solve_none {rv : Bool} {l : List (T × T)} (h : SolveIs rv l none) (hp : PrpPs l) (θ : Nat → T) : ¬ Unif θ l := fun hu => by
  cases h with
  | clash h1 =>
    obtain ⟨_, _, e, _⟩ := (nrun_unif h1 net0_ok varOne0 kcl0 hp).2 θ hu (fun i j e => .inl e)
    cases e
  | cyc h1 hc =>
    obtain ⟨k1, k2⟩ := nrun_unif h1 net0_ok varOne0 kcl0 hp
    obtain ⟨st', κ', e, hS⟩ := k2 θ hu (fun i j e => .inl e)
    cases e
    obtain ⟨m1, m2, m3, _⟩ := k1 _ _ rfl
    obtain ⟨sz, dp, hm⟩ := unif_meas m1 m3.ok hS
    exact hc sz dp hm
/-! ### There is but one -/
theorem wide_prp {l : List (T × T)} (h : wideB l = true) : PrpPs l := fun p hp => by
  unfold wideB at h
  rw [Bool.and_eq_true, List.all_eq_true] at h
  have z := h.2 p hp
  rw [Bool.and_eq_true] at z
  exact ⟨low_prp (small_low z.1).2, low_prp (small_low z.2).2⟩
end Go.Proofs.Ytibncmnmjhimeaa

/- Rows of integers, opened. -/
namespace Go.Proofs.Ytibncmnmjhimeaa
open Go.RowKit Go
set_option linter.unusedVariables false
set_option linter.unusedSimpArgs false
theorem InRow.openI {S : Nat → Prop} {w : World} {l : List Int} {a : Option Addr} (h : InRow eltI S w l a) : ∃ b o : Nat, (∀ k, k < l.length → a = some ⟨b, o, none⟩) ∧ ∀ k, k < l.length → w.cell? ⟨b, o + k, none⟩ = some (.int .i64 (l.getD k 0)) := by
  rcases Nat.eq_zero_or_pos l.length with h0 | h0
  · exact ⟨0, 0, fun k hk => by omega, fun k hk => by omega⟩
  · obtain ⟨b, o, _, ha, _⟩ := h 0 h0
    refine ⟨b, o, fun _ _ => ha, fun k hk => ?_⟩
    obtain ⟨b', o', cs, ha', _, h1, h2⟩ := h k hk
    rw [ha] at ha'
    simp only [Option.some.injEq, Addr.mk.injEq, and_true] at ha'
    obtain ⟨rfl, rfl⟩ := ha'
    have h1' : cs = [.int .i64 l[k]] := h1
    subst h1'
    have := h2 0 (by decide)
    simpa [eltI, hk] using this
end Go.Proofs.Ytibncmnmjhimeaa

/- The matcher: how it lies in memory. -/
namespace Go.Proofs.Ytibncmnmjhimeaa
open Go.RowKit Go
set_option linter.unusedVariables false
set_option linter.unusedSimpArgs false
section
variable {w w' : World} {g : Nat} {st : List Bd} {C S : Nat → Prop} {mb : Nat} {es : Array MapEntry} {cl : Nat} {a : Option Addr} {c : Nat} {ps : List Value}
end
end Go.Proofs.Ytibncmnmjhimeaa

namespace Go.Proofs.Ytibncmnmjhimeaa
open Go.RowKit Go
set_option linter.unusedVariables false
set_option linter.unusedSimpArgs false
/-- What is told: in order, and what is itself is left out. -/
structure SubOf (st R : List Bd) : Prop where
  sorted : R.Pairwise fun x y => x.var < y.var
  mem : ∀ x, x ∈ R ↔ x ∈ st ∧ x.itself = false
theorem bds_ext : ∀ {l l' : List Bd}, l.Pairwise (fun x y => x.var < y.var) → l'.Pairwise (fun x y => x.var < y.var) → (∀ x, x ∈ l ↔ x ∈ l') → l = l'
  | [], [], _, _, _ => rfl
  | [], y :: r, _, _, h => absurd ((h y).2 (by simp)) (by simp)
  | x :: r, [], _, _, h => absurd ((h x).1 (by simp)) (by simp)
  | x :: r, y :: q, h1, h2, h => by
    obtain ⟨h3, h4⟩ := List.pairwise_cons.1 h1
    obtain ⟨h5, h6⟩ := List.pairwise_cons.1 h2
    have e : x = y := by
      rcases List.mem_cons.1 ((h x).1 (by simp)) with e | hx
      · exact e
      · rcases List.mem_cons.1 ((h y).2 (by simp)) with e | hy
        · exact e.symm
        · have := h5 x hx; have := h3 y hy; omega
    subst e
    congr 1
    refine bds_ext h4 h6 fun z => ?_
    constructor
    · intro hz
      rcases List.mem_cons.1 ((h z).1 (by simp [hz])) with e | hz'
      · subst e; have := h3 z hz; omega
      · exact hz'
    · intro hz
      rcases List.mem_cons.1 ((h z).2 (by simp [hz])) with e | hz'
      · subst e; have := h5 z hz; omega
      · exact hz'
theorem nodup_len : ∀ {R st : List Bd}, R.Nodup → (∀ x ∈ R, x ∈ st) → R.length ≤ st.length
  | [], _, _, _ => Nat.zero_le _
  | x :: R, st, hn, h => by
    obtain ⟨h1, h2⟩ := List.nodup_cons.1 hn
    obtain ⟨s, t, rfl⟩ := List.append_of_mem (h x (by simp))
    have := nodup_len (R := R) (st := s ++ t) h2 fun y hy => by
      have hy2 := h y (by simp [hy])
      simp only [List.mem_append, List.mem_cons] at hy2 ⊢
      rcases hy2 with q | rfl | q
      · exact .inl q
      · exact absurd hy h1
      · exact .inr q
    simp only [List.length_append, List.length_cons] at this ⊢
    omega
theorem SubOf.length_le {st R : List Bd} (h : SubOf st R) : R.length ≤ st.length := by
  have hn : R.Nodup := h.sorted.imp fun h e => by rw [e] at h; omega
  exact nodup_len hn fun x hx => ((h.mem x).1 hx).1
section
variable {st : List Bd} {ps : List Value} {es : Array MapEntry} {seen : Array Nat} {done rest : List (Int × Value)}
end
theorem itself_iff {b : Bd} : b.itself = true ↔ b.t.f = -1 - b.var ∧ b.t.args.length = 0 := by unfold Bd.itself; simp
def BdNew (w0 w : World) (x : Bd) (v : Value) : Prop := ∃ u v', v = .agg #[.int .i64 x.var, u, v'] ∧ I64 x.var ∧ NewT w0 w x.t (.agg #[u, v'])
theorem BdNew.chg {w0 w w' : World} {x : Bd} {v : Value} {S : Nat → Prop} (h : BdNew w0 w x v) (hc : Chg S w w') (hS : ∀ b, S b → b < w0.heap.size) : BdNew w0 w' x v := by
  obtain ⟨u, v', e, h0, h1⟩ := h
  exact ⟨u, v', e, h0, InT.chg h1 hc (fun b hb hs => by have := hS b hs; omega)⟩
/-- A row of bindings that was made since. -/
def NewBs (w0 w : World) (R : List Bd) (a : Option Addr) (c : Nat) : Prop := InRow eltB (fun b => w0.heap.size ≤ b) w R a ∧ R.length ≤ c ∧ c ≤ maxLen
theorem NewBs.below {w0 w w' : World} {R : List Bd} {a : Option Addr} {c : Nat} (h : NewBs w0 w R a c) (hb : Below w.heap.size w w') : NewBs w0 w' R a c := ⟨h.1.below hb, h.2⟩
end Go.Proofs.Ytibncmnmjhimeaa
