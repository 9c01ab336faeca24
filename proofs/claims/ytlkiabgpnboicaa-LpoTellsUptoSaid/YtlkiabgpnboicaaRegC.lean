/- Regions that draw their order: one in which a state is kept and some blocks may be written; one with two new blocks and the stores into them. -/
import Derived.Test.YtlkiabgpnboicaaGrowR
namespace Go.Proofs.Ytlkiabgpnboicaa
open Go.RowKit Go

section
variable {P : Program} {ops : Array Oper}
/-- What an operation finds. -/
structure CtxC (ops : Array Oper) (l : List (Bool × Value)) (n : Nat) (K : Known) (w0 : World) (S : Nat → Prop) (I : World → Prop) (o : Oper) (a : Act) (w : World) : Prop where
  chg : Chg S w0 w
  inv : I w
  kn : Kn n K a
  dep : ∀ j d, depB ops o j d = true → valR l j (a.tmps.getD d undef)
def SoundC (P : Program) (ops : Array Oper) (Q : Exit → Act → World → Prop) (l : List (Bool × Value)) (n : Nat) (K : Known) (w0 : World) (S : Nat → Prop) (I : World → Prop) : Nat → List Oper → Prop
  | _, [] => True
  | i, o :: r => (∃ β, GuardIs (fun i v _ => valR l i v) o β ∧ (β = false → valR l i undef) ∧
      (β = true → ∀ a w, CtxC ops l n K w0 S I o a w → o.wp P a w (fun a' w' => ∃ v, a' = Act.put a o.dst v ∧ Chg S w0 w' ∧ I w' ∧ valR l i v) Q)) ∧ SoundC P ops Q l n K w0 S I (i + 1) r
theorem SoundC.gen {Q : Exit → Act → World → Prop} {l : List (Bool × Value)} {n : Nat} {K : Known} {w0 : World} {S : Nat → Prop} {I : World → Prop} : ∀ {lo : List Oper} {i : Nat}, SoundC P ops Q l n K w0 S I i lo →
    SoundFromG P ops Q [] (fun i v _ => valR l i v) (fun _ _ => True) (fun _ w => Chg S w0 w ∧ I w) n K i lo
  | [], _, _ => trivial
  | o :: r, i, ⟨⟨β, h1, h2, h3⟩, h4⟩ => by
    refine ⟨.inl ⟨rfl, β, h1, fun _ _ _ => rfl, fun e _ => h2 e, fun hβ a w vs C => ?_⟩, h4.gen⟩
    refine Oper.wp_mono ?_ (h3 hβ a w ⟨C.now.1, C.now.2, C.kn, fun j d hj => C.dep j d hj rfl⟩)
    rintro a' w' ⟨v, rfl, hc, hi, hv⟩
    exact ⟨v, rfl, trivial, ⟨hc, hi⟩, hv⟩
theorem WC.optc {id : Nat} {dr : Bool} {Q : Exit → Act → World → Prop} {n : Nat} {K : Known} {w : World} (l : List (Bool × Value)) (K0 : Known) {S : Nat → Prop} {I : World → Prop} (hI : ∀ w w', Below w.heap.size w w' → I w → I w') (hi : I w)
    (hs : subK K0 K) (hclear : clearB ops K0 = true) (hm : P.follows .mixedOrders = true) (hB : opsB ops n = true)
    (h : SoundC P ops Q l n K0 w S I 0 ops.toList)
    (hQ : ∀ (a : Act) (w' : World), Kn n K0 a → Chg S w w' → I w' → (∀ i d, (ops[i]?).bind (·.dst) = some d → valR l i (a.tmps.getD d undef)) → Q .normal a w') :
    WC P n K w (.region id ops dr) Q := by
  refine WC.gen [] (fun i v _ => valR l i v) (fun _ _ => True) (fun _ w' => Chg S w w' ∧ I w') K0 hs hclear hm hB List.nodup_nil rfl (fun _ _ _ _ h _ => h) ?_ h.gen (fun a w' vs hk _ _ hG hu _ => hQ a w' hk hG.1 hG.2 (fun i d hd => hu i d hd rfl))
  cases dr with
  | true => exact ⟨.ofBelow (Below.refl _ _).drew, hI _ _ (Below.refl _ _).drew hi⟩
  | false => exact ⟨.refl _ _, hi⟩
end

/-! ### Two new blocks, two stores -/

section
variable {w0 w w' : World} {t1 t2 g : Nat} {z1 c1 z2 c2 : Array Value} {va vb vp vq : Option Value}
structure TwoS (w0 : World) (t1 : Nat) (z1 c1 : Array Value) (t2 : Nat) (z2 c2 : Array Value) (va vb vp vq : Option Value) (w : World) : Prop where
  below : Below w0.heap.size w0 w
  a : ∀ v, va = some v → ∃ g, v = .pointer (some ⟨g, 0, none⟩) ∧ w0.heap.size ≤ g ∧ Blk w g t1 (if vp.isSome then c1 else z1)
  b : ∀ v, vb = some v → ∃ g, v = .pointer (some ⟨g, 0, none⟩) ∧ w0.heap.size ≤ g ∧ Blk w g t2 (if vq.isSome then c2 else z2)
  ne : ∀ v u, va = some v → vb = some u → v ≠ u
  pa : va = none → vp = none
  qb : vb = none → vq = none
def TwoG (w0 : World) (t1 : Nat) (z1 c1 : Array Value) (t2 : Nat) (z2 c2 : Array Value) : List (Option Value) → World → Prop
  | [va, vb, vp, vq], w => TwoS w0 t1 z1 c1 t2 z2 c2 va vb vp vq w
  | _, _ => False
theorem TwoS.allocA (h : TwoS w0 t1 z1 c1 t2 z2 c2 none vb vp vq w) : TwoS w0 t1 z1 c1 t2 z2 c2 (some (.pointer (some ⟨w.heap.size, 0, none⟩))) vb vp vq (w.alloc (.cells z1 t1)) := by
  have hp := h.pa rfl
  subst hp
  refine ⟨bstep h.below (balloc _ _), fun v hv => ⟨_, (Option.some.inj hv).symm, h.below.size, Blk.new' rfl⟩, fun v hv => ?_, fun v u hv hu => ?_, fun e => (by cases e), h.qb⟩
  · obtain ⟨g, h1, h2, h3⟩ := h.b v hv
    exact ⟨g, h1, h2, h3.below (balloc _ _)⟩
  · obtain ⟨g, rfl, _, h3⟩ := h.b u hu
    obtain rfl := Option.some.inj hv
    have := h3.lt
    simp only [ne_eq, Value.pointer.injEq, Option.some.injEq, Addr.mk.injEq, and_true]
    omega
theorem TwoS.allocB (h : TwoS w0 t1 z1 c1 t2 z2 c2 va none vp vq w) : TwoS w0 t1 z1 c1 t2 z2 c2 va (some (.pointer (some ⟨w.heap.size, 0, none⟩))) vp vq (w.alloc (.cells z2 t2)) := by
  have hp := h.qb rfl
  subst hp
  refine ⟨bstep h.below (balloc _ _), fun v hv => ?_, fun v hv => ⟨_, (Option.some.inj hv).symm, h.below.size, Blk.new' rfl⟩, fun v u hv hu => ?_, h.pa, fun e => (by cases e)⟩
  · obtain ⟨g, h1, h2, h3⟩ := h.a v hv
    exact ⟨g, h1, h2, h3.below (balloc _ _)⟩
  · obtain ⟨g, rfl, _, h3⟩ := h.a v hv
    obtain rfl := Option.some.inj hu
    have := h3.lt
    simp only [ne_eq, Value.pointer.injEq, Option.some.injEq, Addr.mk.injEq, and_true]
    omega
theorem TwoS.storeA {q : Value} (h : TwoS w0 t1 z1 c1 t2 z2 c2 (some (.pointer (some ⟨g, 0, none⟩))) vb none vq w) (hu : Upd g w w') (hB : Blk w' g t1 c1) : TwoS w0 t1 z1 c1 t2 z2 c2 (some (.pointer (some ⟨g, 0, none⟩))) vb (some q) vq w' := by
  obtain ⟨g', e, h1, _⟩ := h.a _ rfl
  simp only [Value.pointer.injEq, Option.some.injEq, Addr.mk.injEq, and_true] at e
  subst e
  refine ⟨upd_below h.below hu h1, fun v hv => ⟨g, (Option.some.inj hv).symm, h1, by simpa using hB⟩, fun v hv => ?_, h.ne, fun e => (by cases e), h.qb⟩
  obtain ⟨g2, rfl, h2, h3⟩ := h.b v hv
  have := h.ne _ _ rfl hv
  simp only [ne_eq, Value.pointer.injEq, Option.some.injEq, Addr.mk.injEq, and_true] at this
  exact ⟨g2, rfl, h2, upd_blk h3 hu (fun e => this e.symm)⟩
theorem TwoS.storeB {q : Value} (h : TwoS w0 t1 z1 c1 t2 z2 c2 va (some (.pointer (some ⟨g, 0, none⟩))) vp none w) (hu : Upd g w w') (hB : Blk w' g t2 c2) : TwoS w0 t1 z1 c1 t2 z2 c2 va (some (.pointer (some ⟨g, 0, none⟩))) vp (some q) w' := by
  obtain ⟨g', e, h1, _⟩ := h.b _ rfl
  simp only [Value.pointer.injEq, Option.some.injEq, Addr.mk.injEq, and_true] at e
  subst e
  refine ⟨upd_below h.below hu h1, fun v hv => ?_, fun v hv => ⟨g, (Option.some.inj hv).symm, h1, by simpa using hB⟩, h.ne, h.pa, fun e => (by cases e)⟩
  obtain ⟨g2, rfl, h2, h3⟩ := h.a v hv
  have := h.ne _ _ hv rfl
  simp only [ne_eq, Value.pointer.injEq, Option.some.injEq, Addr.mk.injEq, and_true] at this
  exact ⟨g2, rfl, h2, upd_blk h3 hu this⟩
end

section
variable {P : Program} {ops : Array Oper}
structure CtxT (ops : Array Oper) (l : List (Bool × Value)) (chain : List Nat) (n : Nat) (K : Known) (w0 : World) (o : Oper) (a : Act) (w : World) : Prop where
  below : Below w0.heap.size w0 w
  kn : Kn n K a
  dep : ∀ j d, depB ops o j d = true → chain.contains j = false → valR l j (a.tmps.getD d undef)
def SoundT (P : Program) (ops : Array Oper) (Q : Exit → Act → World → Prop) (l : List (Bool × Value)) (n : Nat) (K : Known) (w0 : World) (t1 : Nat) (z1 c1 : Array Value) (t2 : Nat) (z2 c2 : Array Value) (ia ib ip iq : Nat) : Nat → List Oper → Prop
  | _, [] => True
  | i, o :: r => (([ia, ib, ip, iq].contains i = false ∧ o.guard = none ∧
        (∀ a w, CtxT ops l [ia, ib, ip, iq] n K w0 o a w → o.wp P a w (fun a' w' => ∃ v, a' = Act.put a o.dst v ∧ w' = w ∧ valR l i v) Q)) ∨
      (i = ia ∧ o.guard = none ∧ ∀ a w, CtxT ops l [ia, ib, ip, iq] n K w0 o a w → o.wp P a w (fun a' w' => a' = Act.put a o.dst (.pointer (some ⟨w.heap.size, 0, none⟩)) ∧ w' = w.alloc (.cells z1 t1)) Q) ∨
      (i = ib ∧ o.guard = none ∧ ∀ a w, CtxT ops l [ia, ib, ip, iq] n K w0 o a w → o.wp P a w (fun a' w' => a' = Act.put a o.dst (.pointer (some ⟨w.heap.size, 0, none⟩)) ∧ w' = w.alloc (.cells z2 t2)) Q) ∨
      (i = ip ∧ o.guard = none ∧ ∃ dp, depB ops o ia dp = true ∧ ∀ a w g, CtxT ops l [ia, ib, ip, iq] n K w0 o a w → a.tmps.getD dp undef = .pointer (some ⟨g, 0, none⟩) → Blk w g t1 z1 → o.wp P a w (fun a' w' => ∃ v, a' = Act.put a o.dst v ∧ Upd g w w' ∧ Blk w' g t1 c1) Q) ∨
      (i = iq ∧ o.guard = none ∧ ∃ dp, depB ops o ib dp = true ∧ ∀ a w g, CtxT ops l [ia, ib, ip, iq] n K w0 o a w → a.tmps.getD dp undef = .pointer (some ⟨g, 0, none⟩) → Blk w g t2 z2 → o.wp P a w (fun a' w' => ∃ v, a' = Act.put a o.dst v ∧ Upd g w w' ∧ Blk w' g t2 c2) Q)) ∧ SoundT P ops Q l n K w0 t1 z1 c1 t2 z2 c2 ia ib ip iq (i + 1) r
theorem SoundT.gen {Q : Exit → Act → World → Prop} {l : List (Bool × Value)} {n : Nat} {K : Known} {w0 : World} {t1 : Nat} {z1 c1 : Array Value} {t2 : Nat} {z2 c2 : Array Value} {ia ib ip iq : Nat} : ∀ {lo : List Oper} {i : Nat}, SoundT P ops Q l n K w0 t1 z1 c1 t2 z2 c2 ia ib ip iq i lo →
    SoundFromG P ops Q [ia, ib, ip, iq] (fun i v _ => valR l i v) (fun _ _ => True) (TwoG w0 t1 z1 c1 t2 z2 c2) n K i lo
  | [], _, _ => trivial
  | o :: r, i, ⟨h, hr⟩ => by
    refine ⟨?_, hr.gen⟩
    have mk : ∀ {a : Act} {w : World} {vs : List (Option Value)} (_ : CtxG ops [ia, ib, ip, iq] (fun i v _ => valR l i v) (TwoG w0 t1 z1 c1 t2 z2 c2) n K i o a w vs), CtxT ops l [ia, ib, ip, iq] n K w0 o a w := by
      intro a w vs C
      match vs, C.len, C.now with
      | [va, vb, vp, vq], _, hG => exact ⟨TwoS.below hG, C.kn, C.dep⟩
    rcases h with ⟨h1, h2, h3⟩ | ⟨rfl, h1, h2⟩ | ⟨rfl, h1, h2⟩ | ⟨rfl, h1, dp, h2, h3⟩ | ⟨rfl, h1, dp, h2, h3⟩
    · refine .inl ⟨h1, true, .none h2, fun g b hb => by (rw [h2] at hb; cases hb), fun e => (by cases e), fun _ a w vs C => ?_⟩
      refine Oper.wp_mono ?_ (h3 a w (mk C))
      rintro a' w' ⟨v, rfl, rfl, hv⟩
      exact ⟨v, rfl, trivial, C.now, hv⟩
    · refine .inr ⟨0, rfl, h1, fun a w vs C hn => ?_⟩
      refine Oper.wp_mono ?_ (h2 a w (mk C))
      rintro a' w' ⟨rfl, rfl⟩
      match vs, C.len, hn, C.now with
      | [va, vb, vp, vq], _, hn, hG =>
        simp only [List.getElem?_cons_zero, Option.some.injEq] at hn
        subst hn
        exact ⟨_, rfl, trivial, TwoS.allocA hG⟩
    · refine .inr ⟨1, rfl, h1, fun a w vs C hn => ?_⟩
      refine Oper.wp_mono ?_ (h2 a w (mk C))
      rintro a' w' ⟨rfl, rfl⟩
      match vs, C.len, hn, C.now with
      | [va, vb, vp, vq], _, hn, hG =>
        simp only [List.getElem?_cons_zero, List.getElem?_cons_succ, Option.some.injEq] at hn
        subst hn
        exact ⟨_, rfl, trivial, TwoS.allocB hG⟩
    · refine .inr ⟨2, rfl, h1, fun a w vs C hn => ?_⟩
      have e0 := C.link 0 ia dp rfl h2
      match vs, C.len, hn, e0, C.now, C with
      | [va, vb, vp, vq], _, hn, e0, hG, C =>
        simp only [List.getElem?_cons_zero, List.getElem?_cons_succ, Option.some.injEq] at hn e0
        subst hn e0
        obtain ⟨g, h5, _, h6⟩ := TwoS.a hG _ rfl
        refine Oper.wp_mono ?_ (h3 a w g (mk C) h5 (by simpa using h6))
        rintro a' w' ⟨v, rfl, h7, h8⟩
        have hG' : TwoS w0 t1 z1 c1 t2 z2 c2 (some (a.tmps.getD dp undef)) vb none vq w := hG
        rw [h5] at hG'
        refine ⟨v, rfl, trivial, ?_⟩
        show TwoS w0 t1 z1 c1 t2 z2 c2 (some (a.tmps.getD dp undef)) vb (some v) vq w'
        rw [h5]
        exact TwoS.storeA hG' h7 h8
    · refine .inr ⟨3, rfl, h1, fun a w vs C hn => ?_⟩
      have e0 := C.link 1 ib dp rfl h2
      match vs, C.len, hn, e0, C.now, C with
      | [va, vb, vp, vq], _, hn, e0, hG, C =>
        simp only [List.getElem?_cons_zero, List.getElem?_cons_succ, Option.some.injEq] at hn e0
        subst hn e0
        obtain ⟨g, h5, _, h6⟩ := TwoS.b hG _ rfl
        refine Oper.wp_mono ?_ (h3 a w g (mk C) h5 (by simpa using h6))
        rintro a' w' ⟨v, rfl, h7, h8⟩
        have hG' : TwoS w0 t1 z1 c1 t2 z2 c2 va (some (a.tmps.getD dp undef)) vp none w := hG
        rw [h5] at hG'
        refine ⟨v, rfl, trivial, ?_⟩
        show TwoS w0 t1 z1 c1 t2 z2 c2 va (some (a.tmps.getD dp undef)) vp (some v) w'
        rw [h5]
        exact TwoS.storeB hG' h7 h8
theorem WC.two {id : Nat} {dr : Bool} {Q : Exit → Act → World → Prop} {n : Nat} {K : Known} {w : World} (l : List (Bool × Value)) (K0 : Known) {t1 : Nat} {z1 c1 : Array Value} {t2 : Nat} {z2 c2 : Array Value} (ia ib ip iq da db : Nat)
    (hd : ([ia, ib, ip, iq]).Nodup) (hin : (([ia, ib, ip, iq]).all fun c => Nat.blt c ops.size) = true) (hda : (ops[ia]?).bind (·.dst) = some da) (hdb : (ops[ib]?).bind (·.dst) = some db)
    (hs : subK K0 K) (hclear : clearB ops K0 = true) (hm : P.follows .mixedOrders = true) (hB : opsB ops n = true)
    (h : SoundT P ops Q l n K0 w t1 z1 c1 t2 z2 c2 ia ib ip iq 0 ops.toList)
    (hQ : ∀ (a : Act) (w' : World) (g1 g2 : Nat), Kn n K0 a → Below w.heap.size w w' → w.heap.size ≤ g1 → w.heap.size ≤ g2 → g1 ≠ g2 → Blk w' g1 t1 c1 → Blk w' g2 t2 c2 → a.tmps.getD da undef = .pointer (some ⟨g1, 0, none⟩) → a.tmps.getD db undef = .pointer (some ⟨g2, 0, none⟩) → (∀ i d, (ops[i]?).bind (·.dst) = some d → ([ia, ib, ip, iq]).contains i = false → valR l i (a.tmps.getD d undef)) → Q .normal a w') :
    WC P n K w (.region id ops dr) Q := by
  refine WC.gen [ia, ib, ip, iq] (fun i v _ => valR l i v) (fun _ _ => True) (TwoG w t1 z1 c1 t2 z2 c2) K0 hs hclear hm hB hd hin (fun _ _ _ _ h _ => h) ?_ h.gen (fun a w' vs hk hlen hall hG hu hl => ?_)
  · have st : ∀ w' : World, Below w.heap.size w w' → TwoS w t1 z1 c1 t2 z2 c2 none none none none w' := fun w' hb => ⟨hb, fun v hv => (by cases hv), fun v hv => (by cases hv), fun v u hv => (by cases hv), fun _ => rfl, fun _ => rfl⟩
    cases dr with
    | true => exact st _ (Below.refl _ _).drew
    | false => exact st _ (Below.refl _ _)
  · obtain ⟨v0, hv0⟩ := hall 0 (by simp)
    obtain ⟨v1, hv1⟩ := hall 1 (by simp)
    obtain ⟨v2, hv2⟩ := hall 2 (by simp)
    obtain ⟨v3, hv3⟩ := hall 3 (by simp)
    have ha := hl 0 ia da rfl hda
    have hb := hl 1 ib db rfl hdb
    match vs, hlen, hv0, hv1, hv2, hv3, hG, ha, hb with
    | [va, vb, vp, vq], _, hv0, hv1, hv2, hv3, hG, ha, hb =>
      simp only [List.getElem?_cons_zero, List.getElem?_cons_succ, Option.some.injEq] at hv0 hv1 hv2 hv3 ha hb
      subst hv2 hv3 ha hb
      obtain ⟨g1, e1, h1, h2⟩ := TwoS.a hG _ rfl
      obtain ⟨g2, e2, h3, h4⟩ := TwoS.b hG _ rfl
      have hne := TwoS.ne hG _ _ rfl rfl
      rw [e1, e2] at hne
      simp only [ne_eq, Value.pointer.injEq, Option.some.injEq, Addr.mk.injEq, and_true] at hne
      exact hQ a w' g1 g2 hk (TwoS.below hG) h1 h3 hne (by simpa using h2) (by simpa using h4) e1 e2 hu
end

end Go.Proofs.Ytlkiabgpnboicaa
