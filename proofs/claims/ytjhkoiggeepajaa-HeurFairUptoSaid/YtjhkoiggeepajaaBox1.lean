/- Regions in whatever order: a call that makes something, calls that read it, a new box into which one value is stored. -/
import Derived.Test.YtjhkoiggeepajaaEng
namespace Go.Proofs.Ytjhkoiggeepajaa
open Go.RowKit Go
set_option linter.unusedVariables false

def ycells : Value → Array Value
  | .agg cs => cs
  | v => #[v]
section
variable {w0 w w' : World} {t g : Nat} {z : Array Value} {y : Value} {x va vp : Option Value} {P1 : World → Value → Prop}
/-- What was made; a box: new, behind 'w0'; empty, or the value lies in it. What was made stands, as long as nothing is stored. -/
structure B1S (w0 : World) (P1 : World → Value → Prop) (t : Nat) (z : Array Value) (y : Value) (x va vp : Option Value) (w : World) : Prop where
  below : Below w0.heap.size w0 w
  md : vp = none → ∀ v, x = some v → P1 w v
  box : ∀ v, va = some v → ∃ g, v = .pointer (some ⟨g, 0, none⟩) ∧ w0.heap.size ≤ g ∧ Blk w g t (if vp = none then z else ycells y)
  pa : va = none → vp = none
def B1G (w0 : World) (P1 : World → Value → Prop) (t : Nat) (z : Array Value) (y : Value) : List (Option Value) → World → Prop
  | [x, va, vp], w => B1S w0 P1 t z y x va vp w
  | _, _ => False
theorem B1S.step (k1 : ∀ w w' v, Below w.heap.size w w' → P1 w v → P1 w' v) (h : B1S w0 P1 t z y x va vp w) (hb : Below w.heap.size w w') : B1S w0 P1 t z y x va vp w' :=
  ⟨bstep h.below hb, fun e v hv => k1 _ _ _ hb (h.md e v hv), fun v hv => by
    obtain ⟨g, e, h1, h2⟩ := h.box v hv
    exact ⟨g, e, h1, h2.below hb⟩, h.pa⟩
theorem B1S.call (k1 : ∀ w w' v, Below w.heap.size w w' → P1 w v → P1 w' v) {v : Value} (h : B1S w0 P1 t z y none va vp w) (hb : Below w.heap.size w w') (hv : P1 w' v) : B1S w0 P1 t z y (some v) va vp w' :=
  ⟨bstep h.below hb, fun _ u hu => by obtain rfl := Option.some.inj hu; exact hv, (h.step k1 hb).box, h.pa⟩
theorem B1S.alloc (k1 : ∀ w w' v, Below w.heap.size w w' → P1 w v → P1 w' v) (h : B1S w0 P1 t z y x none vp w) : B1S w0 P1 t z y x (some (.pointer (some ⟨w.heap.size, 0, none⟩))) vp (w.alloc (.cells z t)) := by
  have hp := h.pa rfl
  subst hp
  have hst := h.step k1 (balloc w (.cells z t))
  exact ⟨hst.below, hst.md, fun v hv => ⟨_, (Option.some.inj hv).symm, h.below.size, Blk.new' rfl⟩, fun e => by cases e⟩
theorem B1S.store {q : Value} (h : B1S w0 P1 t z y x (some (.pointer (some ⟨g, 0, none⟩))) none w) (hu : Upd g w w') (hB : Blk w' g t (ycells y)) : B1S w0 P1 t z y x (some (.pointer (some ⟨g, 0, none⟩))) (some q) w' := by
  obtain ⟨g', e, h1, h2⟩ := h.box _ rfl
  simp only [Value.pointer.injEq, Option.some.injEq, Addr.mk.injEq, and_true] at e
  subst e
  exact ⟨upd_below h.below hu h1, fun e => (by cases e), fun v hv => ⟨g, (Option.some.inj hv).symm, h1, by rw [if_neg (by simp)]; exact hB⟩, fun e => (by cases e)⟩
end
section
variable {P : Program} {ops : Array Oper} {P1 : World → Value → Prop}
def valR1 (l : List (Bool × Value)) (i : Nat) (v : Value) : Prop := (l.getD i (true, undef)).1 = true → v = (l.getD i (true, undef)).2
theorem valVal1 {l : List (Bool × Value)} {i : Nat} {v x : Value} {β : Bool} (h : valR1 l i v) (e : l.getD i (true, undef) = (β, x)) (hβ : β = true) : v = x := by
  have := h (by rw [e]; exact hβ)
  rw [e] at this; exact this
structure CtxB1 (ops : Array Oper) (l : List (Bool × Value)) (P1 : World → Value → Prop) (ic ip : Nat) (chain : List Nat) (n : Fr) (K : Known) (w0 : World) (i : Nat) (o : Oper) (a : Act) (w : World) : Prop where
  below : Below w0.heap.size w0 w
  kn : Kn n K a
  dep : ∀ j d, depB ops o j d = true → chain.contains j = false → valR1 l j (a.tmps.getD d undef)
  made : ∀ d, depB ops o ic d = true → (ancL ops ip).contains i = true → P1 w (a.tmps.getD d undef)
/-- Each operation: one that yields what is listed (it may make memory); the call; the new box; the store. -/
def SoundB1 (P : Program) (ops : Array Oper) (Q : Exit → Act → World → Prop) (l : List (Bool × Value)) (n : Fr) (K : Known) (w0 : World) (P1 : World → Value → Prop) (t : Nat) (z : Array Value) (y : Value) (ic ia ip : Nat) : Nat → List Oper → Prop
  | _, [] => True
  | i, o :: r => (([ic, ia, ip].contains i = false ∧ o.guard = none ∧
        (∀ a w, CtxB1 ops l P1 ic ip [ic, ia, ip] n K w0 i o a w → o.wp P a w (fun a' w' => ∃ v, a' = Act.put a o.dst v ∧ Below w.heap.size w w' ∧ valR1 l i v) Q)) ∨
      (i = ic ∧ o.guard = none ∧ ∀ a w, CtxB1 ops l P1 ic ip [ic, ia, ip] n K w0 i o a w → o.wp P a w (fun a' w' => ∃ v, a' = Act.put a o.dst v ∧ Below w.heap.size w w' ∧ P1 w' v) Q) ∨
      (i = ia ∧ o.guard = none ∧ ∀ a w, CtxB1 ops l P1 ic ip [ic, ia, ip] n K w0 i o a w → o.wp P a w (fun a' w' => a' = Act.put a o.dst (.pointer (some ⟨w.heap.size, 0, none⟩)) ∧ w' = w.alloc (.cells z t)) Q) ∨
      (i = ip ∧ o.guard = none ∧ ∃ dp, depB ops o ia dp = true ∧ ∀ a w g, CtxB1 ops l P1 ic ip [ic, ia, ip] n K w0 i o a w → a.tmps.getD dp undef = .pointer (some ⟨g, 0, none⟩) → Blk w g t z → o.wp P a w (fun a' w' => ∃ v, a' = Act.put a o.dst v ∧ Upd g w w' ∧ Blk w' g t (ycells y)) Q)) ∧ SoundB1 P ops Q l n K w0 P1 t z y ic ia ip (i + 1) r
theorem SoundB1.gen (k1 : ∀ w w' v, Below w.heap.size w w' → P1 w v → P1 w' v) {Q : Exit → Act → World → Prop} {l : List (Bool × Value)} {n : Fr} {K : Known} {w0 : World} {t : Nat} {z : Array Value} {y : Value} {ic ia ip : Nat} : ∀ {lo : List Oper} {i : Nat}, SoundB1 P ops Q l n K w0 P1 t z y ic ia ip i lo →
    SoundFromG P ops Q [ic, ia, ip] (fun i v _ => valR1 l i v) (fun _ _ => True) (B1G w0 P1 t z y) n K i lo
  | [], _, _ => trivial
  | o :: r, i, ⟨h, hr⟩ => by
    refine ⟨?_, hr.gen k1⟩
    have mk : ∀ {a : Act} {w : World} {vs : List (Option Value)} (_ : CtxG ops [ic, ia, ip] (fun i v _ => valR1 l i v) (B1G w0 P1 t z y) n K i o a w vs), CtxB1 ops l P1 ic ip [ic, ia, ip] n K w0 i o a w := by
      intro a w vs C
      refine ⟨?_, C.kn, C.dep, fun d hd ha => ?_⟩
      · match vs, C.len, C.now with
        | [x, va, vp], _, hG => exact B1S.below hG
      · have e0 := C.link 0 ic d rfl hd
        have e1 := C.mostT 2 ip rfl ha
        match vs, C.len, e0, e1, C.now with
        | [x, va, vp], _, e0, e1, hG =>
          simp only [List.getElem?_cons_zero, List.getElem?_cons_succ, Option.some.injEq] at e0 e1
          subst e0 e1
          exact B1S.md hG rfl _ rfl
    rcases h with ⟨h1, h2, h3⟩ | ⟨rfl, h1, h2⟩ | ⟨rfl, h1, h2⟩ | ⟨rfl, h1, dp, h2, h3⟩
    · refine .inl ⟨h1, true, .none h2, fun g b hb => by (rw [h2] at hb; cases hb), fun e => (by cases e), fun _ a w vs C => ?_⟩
      refine Oper.wpIn_mono ?_ (wpIn_of (h3 a w (mk C)) (by rintro a' w' ⟨v, rfl, _⟩; exact put_defers _ _ _))
      rintro a' w' ⟨v, rfl, hb, hv⟩
      refine ⟨v, rfl, trivial, ?_, hv⟩
      match vs, C.len, C.now with
      | [x, va, vp], _, hG => exact B1S.step k1 hG hb
    · refine .inr ⟨0, rfl, h1, fun a w vs C hn => ?_⟩
      refine Oper.wpIn_mono ?_ (wpIn_of (h2 a w (mk C)) (by rintro a' w' ⟨v, rfl, _⟩; exact put_defers _ _ _))
      rintro a' w' ⟨v, rfl, hb, hv⟩
      match vs, C.len, hn, C.now with
      | [x, va, vp], _, hn, hG =>
        simp only [List.getElem?_cons_zero, Option.some.injEq] at hn
        subst hn
        exact ⟨_, rfl, trivial, B1S.call k1 hG hb hv⟩
    · refine .inr ⟨1, rfl, h1, fun a w vs C hn => ?_⟩
      refine Oper.wpIn_mono ?_ (wpIn_of (h2 a w (mk C)) (by rintro a' w' ⟨rfl, _⟩; exact put_defers _ _ _))
      rintro a' w' ⟨rfl, rfl⟩
      match vs, C.len, hn, C.now with
      | [x, va, vp], _, hn, hG =>
        simp only [List.getElem?_cons_zero, List.getElem?_cons_succ, Option.some.injEq] at hn
        subst hn
        exact ⟨_, rfl, trivial, B1S.alloc k1 hG⟩
    · refine .inr ⟨2, rfl, h1, fun a w vs C hn => ?_⟩
      have e0 := C.link 1 ia dp rfl h2
      match vs, C.len, hn, e0, C.now, C with
      | [x, va, vp], _, hn, e0, hG, C =>
        simp only [List.getElem?_cons_zero, List.getElem?_cons_succ, Option.some.injEq] at hn e0
        subst hn e0
        have hG' : B1S w0 P1 t z y x (some (a.tmps.getD dp undef)) none w := hG
        obtain ⟨g, h5, h6, h7⟩ := hG'.box _ rfl
        rw [if_pos rfl] at h7
        refine Oper.wpIn_mono ?_ (wpIn_of (h3 a w g (mk C) h5 h7) (by rintro a' w' ⟨v, rfl, _⟩; exact put_defers _ _ _))
        rintro a' w' ⟨v, rfl, h8, h9⟩
        refine ⟨v, rfl, trivial, ?_⟩
        show B1S w0 P1 t z y x (some (a.tmps.getD dp undef)) (some v) w'
        rw [h5] at hG' ⊢
        exact B1S.store hG' h8 h9
theorem WC.box1 {rid : Nat} {dr : Bool} {Q : Exit → Act → World → Prop} {n : Fr} {K : Known} {w : World} (P1 : World → Value → Prop) (k1 : ∀ w w' v, Below w.heap.size w w' → P1 w v → P1 w' v) (l : List (Bool × Value)) (K0 : Known) {t : Nat} {z : Array Value} (y : Value) (ic ia ip da : Nat)
    (hd : ([ic, ia, ip]).Nodup) (hin : (([ic, ia, ip]).all fun c => Nat.blt c ops.size) = true) (hda : (ops[ia]?).bind (·.dst) = some da)
    (hs : subK K0 K) (hclear : clearB ops K0 = true) (hm : P.follows .mixedOrders = true) (hB : opsB ops n.n = true)
    (h : SoundB1 P ops Q l n K0 w P1 t z y ic ia ip 0 ops.toList)
    (hQ : ∀ (a : Act) (w' : World) (g : Nat), Kn n K0 a → Below w.heap.size w w' → w.heap.size ≤ g → Blk w' g t (ycells y) → a.tmps.getD da undef = .pointer (some ⟨g, 0, none⟩) → (∀ i d, (ops[i]?).bind (·.dst) = some d → ([ic, ia, ip]).contains i = false → valR1 l i (a.tmps.getD d undef)) → Q .normal a w') :
    WC P n K w (.region rid ops dr) Q := by
  refine WC.gen [ic, ia, ip] (fun i v _ => valR1 l i v) (fun _ _ => True) (B1G w P1 t z y) K0 hs hclear hm hB hd hin (fun _ _ _ _ h _ => h) ?_ (h.gen k1) (fun a w' vs hk hlen hall hG hu hl => ?_)
  · have st : ∀ w' : World, Below w.heap.size w w' → B1S w P1 t z y none none none w' := fun w' hb => ⟨hb, fun _ v hv => (by cases hv), fun v hv => (by cases hv), fun _ => rfl⟩
    cases dr with
    | true => exact st _ (Below.refl _ _).drew
    | false => exact st _ (Below.refl _ _)
  · obtain ⟨v0, hv0⟩ := hall 0 (by simp)
    obtain ⟨v1, hv1⟩ := hall 1 (by simp)
    obtain ⟨v2, hv2⟩ := hall 2 (by simp)
    have ha := hl 1 ia da rfl hda
    match vs, hlen, hv0, hv1, hv2, hG, ha with
    | [x, va, vp], _, hv0, hv1, hv2, hG, ha =>
      simp only [List.getElem?_cons_zero, List.getElem?_cons_succ, Option.some.injEq] at hv0 hv1 hv2 ha
      subst hv0 hv2 ha
      have hG' : B1S w P1 t z y (some v0) (some (a.tmps.getD da undef)) (some v2) w' := hG
      obtain ⟨g, e1, h1, h2⟩ := hG'.box _ rfl
      rw [if_neg (by simp)] at h2
      exact hQ a w' g hk hG'.below h1 h2 e1 hu
end
end Go.Proofs.Ytjhkoiggeepajaa
