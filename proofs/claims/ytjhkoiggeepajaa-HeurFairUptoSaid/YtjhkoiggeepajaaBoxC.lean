/- Regions in whatever order: a call that changes memory, what it tells, a new box into which one value is stored. -/
import Derived.Test.YtjhkoiggeepajaaBox1
import Derived.Test.YtjhkoiggeepajaaGrowR
namespace Go.Proofs.Ytjhkoiggeepajaa
open Go.RowKit Go
set_option linter.unusedVariables false

section
variable {w0 w w' : World} {T : Nat → Prop} {t g : Nat} {z : Array Value} {y : Value} {x va vp : Option Value} {P1 : World → Value → Prop}
/-- What the call told; a box: new, behind 'w0'; empty, or the value lies in it. -/
structure BCS (w0 : World) (T : Nat → Prop) (P1 : World → Value → Prop) (t : Nat) (z : Array Value) (y : Value) (x va vp : Option Value) (w : World) : Prop where
  chg : Chg T w0 w
  pre : x = none → Below w0.heap.size w0 w
  md : ∀ v, x = some v → P1 w v
  box : ∀ v, va = some v → ∃ g, v = .pointer (some ⟨g, 0, none⟩) ∧ w0.heap.size ≤ g ∧ Blk w g t (if vp = none then z else ycells y)
  pa : va = none → vp = none
def BCG (w0 : World) (T : Nat → Prop) (P1 : World → Value → Prop) (t : Nat) (z : Array Value) (y : Value) : List (Option Value) → World → Prop
  | [x, va, vp], w => BCS w0 T P1 t z y x va vp w
  | _, _ => False
theorem BCS.step (k1 : ∀ w w' v, Chg (fun b => w0.heap.size ≤ b) w w' → P1 w v → P1 w' v) (h : BCS w0 T P1 t z y x va vp w) (hb : Below w.heap.size w w') : BCS w0 T P1 t z y x va vp w' :=
  ⟨h.chg.trans (.ofBelow hb), fun e => bstep (h.pre e) hb, fun v hv => k1 _ _ _ (.ofBelow hb) (h.md v hv), fun v hv => by
    obtain ⟨g, e, h1, h2⟩ := h.box v hv
    exact ⟨g, e, h1, h2.below hb⟩, h.pa⟩
theorem BCS.call (hT : ∀ b, T b → b < w0.heap.size) {v : Value} (h : BCS w0 T P1 t z y none va vp w) (hc : Chg T w w') (hv : P1 w' v) : BCS w0 T P1 t z y (some v) va vp w' :=
  ⟨h.chg.trans hc, fun e => (by cases e), fun u hu => by obtain rfl := Option.some.inj hu; exact hv, fun v hv => by
    obtain ⟨g, e, h1, h2⟩ := h.box v hv
    exact ⟨g, e, h1, chg_blk h2 hc (fun q => by have := hT g q; omega)⟩, h.pa⟩
theorem BCS.alloc (k1 : ∀ w w' v, Chg (fun b => w0.heap.size ≤ b) w w' → P1 w v → P1 w' v) (h : BCS w0 T P1 t z y x none vp w) : BCS w0 T P1 t z y x (some (.pointer (some ⟨w.heap.size, 0, none⟩))) vp (w.alloc (.cells z t)) := by
  have hp := h.pa rfl
  subst hp
  have hst := h.step k1 (balloc w (.cells z t))
  exact ⟨hst.chg, hst.pre, hst.md, fun v hv => ⟨_, (Option.some.inj hv).symm, h.chg.size, Blk.new' rfl⟩, fun e => by cases e⟩
theorem BCS.store {q : Value} (k1 : ∀ w w' v, Chg (fun b => w0.heap.size ≤ b) w w' → P1 w v → P1 w' v) (h : BCS w0 T P1 t z y x (some (.pointer (some ⟨g, 0, none⟩))) none w) (hu : Upd g w w') (hB : Blk w' g t (ycells y)) : BCS w0 T P1 t z y x (some (.pointer (some ⟨g, 0, none⟩))) (some q) w' := by
  obtain ⟨g', e, h1, h2⟩ := h.box _ rfl
  simp only [Value.pointer.injEq, Option.some.injEq, Addr.mk.injEq, and_true] at e
  subst e
  exact ⟨Chg.trans2 h.chg (.ofUpd (S := fun b => b = g) hu rfl) (fun i hi q => by omega), fun e => upd_below (h.pre e) hu h1, fun v hv => k1 _ _ _ (.ofUpd hu h1) (h.md v hv), fun v hv => ⟨g, (Option.some.inj hv).symm, h1, by rw [if_neg (by simp)]; exact hB⟩, fun e => (by cases e)⟩
end
section
variable {P : Program} {ops : Array Oper} {P1 : World → Value → Prop}
structure CtxBC (ops : Array Oper) (l : List (Bool × Value)) (P1 : World → Value → Prop) (ic : Nat) (chain : List Nat) (n : Fr) (K : Known) (w0 : World) (i : Nat) (o : Oper) (a : Act) (w : World) : Prop where
  below : i = ic ∨ (ancL ops ic).contains i = true → Below w0.heap.size w0 w
  kn : Kn n K a
  dep : ∀ j d, depB ops o j d = true → chain.contains j = false → valR1 l j (a.tmps.getD d undef)
  made : ∀ d, depB ops o ic d = true → P1 w (a.tmps.getD d undef)
/-- Each operation: one that yields what is listed (it may make memory); the call; the new box; the store. -/
def SoundBC (P : Program) (ops : Array Oper) (Q : Exit → Act → World → Prop) (l : List (Bool × Value)) (n : Fr) (K : Known) (w0 : World) (T : Nat → Prop) (P1 : World → Value → Prop) (t : Nat) (z : Array Value) (y : Value) (ic ia ip : Nat) : Nat → List Oper → Prop
  | _, [] => True
  | i, o :: r => (([ic, ia, ip].contains i = false ∧ o.guard = none ∧
        (∀ a w, CtxBC ops l P1 ic [ic, ia, ip] n K w0 i o a w → o.wp P a w (fun a' w' => ∃ v, a' = Act.put a o.dst v ∧ Below w.heap.size w w' ∧ valR1 l i v) Q)) ∨
      (i = ic ∧ o.guard = none ∧ ∀ a w, CtxBC ops l P1 ic [ic, ia, ip] n K w0 i o a w → o.wp P a w (fun a' w' => ∃ v, a' = Act.put a o.dst v ∧ Chg T w w' ∧ P1 w' v) Q) ∨
      (i = ia ∧ o.guard = none ∧ ∀ a w, CtxBC ops l P1 ic [ic, ia, ip] n K w0 i o a w → o.wp P a w (fun a' w' => a' = Act.put a o.dst (.pointer (some ⟨w.heap.size, 0, none⟩)) ∧ w' = w.alloc (.cells z t)) Q) ∨
      (i = ip ∧ o.guard = none ∧ ∃ dp, depB ops o ia dp = true ∧ ∀ a w g, CtxBC ops l P1 ic [ic, ia, ip] n K w0 i o a w → a.tmps.getD dp undef = .pointer (some ⟨g, 0, none⟩) → Blk w g t z → o.wp P a w (fun a' w' => ∃ v, a' = Act.put a o.dst v ∧ Upd g w w' ∧ Blk w' g t (ycells y)) Q)) ∧ SoundBC P ops Q l n K w0 T P1 t z y ic ia ip (i + 1) r
theorem SoundBC.gen {ic ia ip : Nat} (hne1 : ia ≠ ic) (hne2 : ip ≠ ic) {w0 : World} {T : Nat → Prop} (hT : ∀ b, T b → b < w0.heap.size) (k1 : ∀ w w' v, Chg (fun b => w0.heap.size ≤ b) w w' → P1 w v → P1 w' v) {Q : Exit → Act → World → Prop} {l : List (Bool × Value)} {n : Fr} {K : Known} {t : Nat} {z : Array Value} {y : Value} : ∀ {lo : List Oper} {i : Nat}, SoundBC P ops Q l n K w0 T P1 t z y ic ia ip i lo →
    SoundFromG P ops Q [ic, ia, ip] (fun i v _ => valR1 l i v) (fun _ _ => True) (BCG w0 T P1 t z y) n K i lo
  | [], _, _ => trivial
  | o :: r, i, ⟨h, hr⟩ => by
    refine ⟨?_, hr.gen hne1 hne2 hT k1⟩
    have mk : ∀ {a : Act} {w : World} {vs : List (Option Value)} (_ : CtxG ops [ic, ia, ip] (fun i v _ => valR1 l i v) (BCG w0 T P1 t z y) n K i o a w vs), (i = ic → vs[0]? = some none) → CtxBC ops l P1 ic [ic, ia, ip] n K w0 i o a w := by
      intro a w vs C hic
      refine ⟨fun hq => ?_, C.kn, C.dep, fun d hd => ?_⟩
      · have e0 : vs[0]? = some none := hq.elim hic (fun ha => C.mostT 0 ic rfl ha)
        match vs, C.len, e0, C.now with
        | [x, va, vp], _, e0, hG =>
          simp only [List.getElem?_cons_zero, Option.some.injEq] at e0
          exact BCS.pre hG e0
      · have e0 := C.link 0 ic d rfl hd
        match vs, C.len, e0, C.now with
        | [x, va, vp], _, e0, hG =>
          simp only [List.getElem?_cons_zero, Option.some.injEq] at e0
          exact BCS.md hG _ e0
    rcases h with ⟨h1, h2, h3⟩ | ⟨rfl, h1, h2⟩ | ⟨rfl, h1, h2⟩ | ⟨rfl, h1, dp, h2, h3⟩
    · have hne : i ≠ ic := fun e => by rw [e] at h1; simp at h1
      refine .inl ⟨h1, true, .none h2, fun g b hb => by (rw [h2] at hb; cases hb), fun e => (by cases e), fun _ a w vs C => ?_⟩
      refine Oper.wpIn_mono ?_ (wpIn_of (h3 a w (mk C (fun e => absurd e hne))) (by rintro a' w' ⟨v, rfl, _⟩; exact put_defers _ _ _))
      rintro a' w' ⟨v, rfl, hb, hv⟩
      refine ⟨v, rfl, trivial, ?_, hv⟩
      match vs, C.len, C.now with
      | [x, va, vp], _, hG => exact BCS.step k1 hG hb
    · refine .inr ⟨0, rfl, h1, fun a w vs C hn => ?_⟩
      refine Oper.wpIn_mono ?_ (wpIn_of (h2 a w (mk C (fun _ => hn))) (by rintro a' w' ⟨v, rfl, _⟩; exact put_defers _ _ _))
      rintro a' w' ⟨v, rfl, hb, hv⟩
      match vs, C.len, hn, C.now with
      | [x, va, vp], _, hn, hG =>
        simp only [List.getElem?_cons_zero, Option.some.injEq] at hn
        subst hn
        exact ⟨_, rfl, trivial, BCS.call hT hG hb hv⟩
    · refine .inr ⟨1, rfl, h1, fun a w vs C hn => ?_⟩
      refine Oper.wpIn_mono ?_ (wpIn_of (h2 a w (mk C (fun q => absurd q hne1))) (by rintro a' w' ⟨rfl, _⟩; exact put_defers _ _ _))
      rintro a' w' ⟨rfl, rfl⟩
      match vs, C.len, hn, C.now with
      | [x, va, vp], _, hn, hG =>
        simp only [List.getElem?_cons_zero, List.getElem?_cons_succ, Option.some.injEq] at hn
        subst hn
        exact ⟨_, rfl, trivial, BCS.alloc k1 hG⟩
    · refine .inr ⟨2, rfl, h1, fun a w vs C hn => ?_⟩
      have e0 := C.link 1 ia dp rfl h2
      match vs, C.len, hn, e0, C.now, C with
      | [x, va, vp], _, hn, e0, hG, C =>
        simp only [List.getElem?_cons_zero, List.getElem?_cons_succ, Option.some.injEq] at hn e0
        subst hn e0
        have hG' : BCS w0 T P1 t z y x (some (a.tmps.getD dp undef)) none w := hG
        obtain ⟨g, h5, h6, h7⟩ := hG'.box _ rfl
        rw [if_pos rfl] at h7
        refine Oper.wpIn_mono ?_ (wpIn_of (h3 a w g (mk C (fun q => absurd q hne2)) h5 h7) (by rintro a' w' ⟨v, rfl, _⟩; exact put_defers _ _ _))
        rintro a' w' ⟨v, rfl, h8, h9⟩
        refine ⟨v, rfl, trivial, ?_⟩
        show BCS w0 T P1 t z y x (some (a.tmps.getD dp undef)) (some v) w'
        rw [h5] at hG' ⊢
        exact BCS.store k1 hG' h8 h9
theorem WC.boxC {rid : Nat} {dr : Bool} {Q : Exit → Act → World → Prop} {n : Fr} {K : Known} {w : World} (T : Nat → Prop) (hT : ∀ b, T b → b < w.heap.size) (P1 : World → Value → Prop) (k1 : ∀ w1 w' v, Chg (fun b => w.heap.size ≤ b) w1 w' → P1 w1 v → P1 w' v) (l : List (Bool × Value)) (K0 : Known) {t : Nat} {z : Array Value} (y : Value) (ic ia ip da : Nat)
    (hd : ([ic, ia, ip]).Nodup) (hin : (([ic, ia, ip]).all fun c => Nat.blt c ops.size) = true) (hda : (ops[ia]?).bind (·.dst) = some da)
    (hs : subK K0 K) (hclear : clearB ops K0 = true) (hm : P.follows .mixedOrders = true) (hB : opsB ops n.n = true)
    (h : SoundBC P ops Q l n K0 w T P1 t z y ic ia ip 0 ops.toList)
    (hQ : ∀ (a : Act) (w' : World) (g : Nat) (v : Value), Kn n K0 a → Chg T w w' → P1 w' v → w.heap.size ≤ g → Blk w' g t (ycells y) → a.tmps.getD da undef = .pointer (some ⟨g, 0, none⟩) → (∀ i d, (ops[i]?).bind (·.dst) = some d → ([ic, ia, ip]).contains i = false → valR1 l i (a.tmps.getD d undef)) → Q .normal a w') :
    WC P n K w (.region rid ops dr) Q := by
  have hne : ia ≠ ic ∧ ip ≠ ic := by
    simp only [List.nodup_cons, List.mem_cons, List.not_mem_nil, or_false, not_or] at hd
    exact ⟨fun e => hd.1.1 e.symm, fun e => hd.1.2 e.symm⟩
  refine WC.gen [ic, ia, ip] (fun i v _ => valR1 l i v) (fun _ _ => True) (BCG w T P1 t z y) K0 hs hclear hm hB hd hin (fun _ _ _ _ h _ => h) ?_ (h.gen hne.1 hne.2 hT k1) (fun a w' vs hk hlen hall hG hu hl => ?_)
  · have st : ∀ w' : World, Below w.heap.size w w' → BCS w T P1 t z y none none none w' := fun w' hb => ⟨.ofBelow hb, fun _ => hb, fun _ hv => (by cases hv), fun v hv => (by cases hv), fun _ => rfl⟩
    cases dr with
    | true => exact st _ (Below.refl _ _).drew
    | false => exact st _ (Below.refl _ _)
  · obtain ⟨v0, hv0⟩ := hall 0 (by simp)
    obtain ⟨v1, hv1⟩ := hall 1 (by simp)
    obtain ⟨v2, hv2⟩ := hall 2 (by simp)
    have ha := hl 1 ia da rfl hda
    match vs, hlen, hv0, hv1, hv2, hG, ha with
    | [x, va, vp], _, hv0, hv1, hv2, hG, ha =>
      simp only [List.getElem?_cons_zero, List.getElem?_cons_succ, Option.some.injEq] at hv0 hv1 hv2 ha
      subst hv0 hv2 ha
      have hG' : BCS w T P1 t z y (some v0) (some (a.tmps.getD da undef)) (some v2) w' := hG
      obtain ⟨g, e1, h1, h2⟩ := hG'.box _ rfl
      rw [if_neg (by simp)] at h2
      exact hQ a w' g v0 hk hG'.chg (hG'.md _ rfl) h1 h2 e1 hu
end
end Go.Proofs.Ytjhkoiggeepajaa
