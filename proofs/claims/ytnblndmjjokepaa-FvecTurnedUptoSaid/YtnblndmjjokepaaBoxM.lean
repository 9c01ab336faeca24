/- Regions in whatever order: operations that make things in memory, one out of the other; a new box into which the last thing is stored. -/
import Derived.Test.YtnblndmjjokepaaBox1
namespace Go.Proofs.Ytnblndmjjokepaa
open Go.RowKit Go
set_option linter.unusedVariables false

section
variable {w0 w w' : World} {m t iy : Nat} {z : Array Value} {Pf : Nat → (Nat → Prop) → World → Value → Prop} {vs : List (Option Value)}
/-- Where what was made lies: behind 'w0', and not in the box. -/
def SfM (w0 : World) (m : Nat) (vs : List (Option Value)) : Nat → Prop := fun b => w0.heap.size ≤ b ∧ ∀ g, vs[m]? = some (some (.pointer (some ⟨g, 0, none⟩))) → b ≠ g
structure BMS (w0 : World) (m : Nat) (Pf : Nat → (Nat → Prop) → World → Value → Prop) (t : Nat) (z : Array Value) (iy : Nat) (vs : List (Option Value)) (w : World) : Prop where
  below : Below w0.heap.size w0 w
  md : vs[m + 1]? = some none → ∀ q v, q < m → vs[q]? = some (some v) → Pf q (SfM w0 m vs) w v
  box : ∀ v, vs[m]? = some (some v) → ∃ g, v = .pointer (some ⟨g, 0, none⟩) ∧ w0.heap.size ≤ g ∧ g < w.heap.size ∧ (vs[m + 1]? = some none → Blk w g t z) ∧ (∀ u, vs[m + 1]? = some (some u) → ∃ vy, vs[iy]? = some (some vy) ∧ Blk w g t (ycells vy) ∧ Pf iy (SfM w0 m vs) w vy)
  pa : vs[m]? = some none → vs[m + 1]? = some none
variable (k1 : ∀ q S w w' v, (∀ (p : Addr) (x : Value), S p.block → w.cell? p = some x → w'.cell? p = some x) → Pf q S w v → Pf q S w' v)
  (k2 : ∀ q (S S' : Nat → Prop) w v, (∀ b, S b → b < w.heap.size → S' b) → Pf q S w v → Pf q S' w v)
include k1 in
theorem BMS.step (h : BMS w0 m Pf t z iy vs w) (hb : Below w.heap.size w w') : BMS w0 m Pf t z iy vs w' :=
  ⟨bstep h.below hb, fun e q v hq hv => k1 _ _ _ _ _ (fun p x _ hx => bkeeps hb p x hx) (h.md e q v hq hv), fun v hv => by
    obtain ⟨g, e, h1, h2, h3, h4⟩ := h.box v hv
    refine ⟨g, e, h1, Nat.lt_of_lt_of_le h2 hb.size, fun e => (h3 e).below hb, fun u hu => ?_⟩
    obtain ⟨vy, h5, h6, h7⟩ := h4 u hu
    exact ⟨vy, h5, h6.below hb, k1 _ _ _ _ _ (fun p x _ hx => bkeeps hb p x hx) h7⟩, h.pa⟩
include k1 k2 in
theorem BMS.make (h : BMS w0 m Pf t z iy vs w) (hl : vs.length = m + 2) {q : Nat} (hq : q < m) (hn : vs[m + 1]? = some none) {v : Value} (hb : Below w.heap.size w w') (hP : Pf q (fun b => SfM w0 m vs b ∨ w.heap.size ≤ b) w' v) : BMS w0 m Pf t z iy (vs.set q (some v)) w' := by
  have e1 : (vs.set q (some v))[m]? = vs[m]? := by rw [List.getElem?_set_ne (by omega)]
  have e2 : (vs.set q (some v))[m + 1]? = vs[m + 1]? := by rw [List.getElem?_set_ne (by omega)]
  have eS : SfM w0 m (vs.set q (some v)) = SfM w0 m vs := by unfold SfM; rw [e1]
  have hs := h.step k1 hb
  have hP' : Pf q (SfM w0 m vs) w' v := k2 _ _ _ _ _ (fun b hb2 _ => by
    rcases hb2 with hb2 | hb2
    · exact hb2
    · refine ⟨Nat.le_trans h.below.size hb2, fun g hg e => ?_⟩
      obtain ⟨g', e', _, h4, _⟩ := h.box _ hg
      simp only [Value.pointer.injEq, Option.some.injEq, Addr.mk.injEq, and_true] at e'
      omega) hP
  refine ⟨hs.below, fun e q' v' hq' hv' => ?_, fun v' hv' => ?_, fun e => by rw [e2]; exact h.pa (e1 ▸ e)⟩
  · rw [eS]
    by_cases hqq : q' = q
    · subst hqq
      rw [List.getElem?_set_self (by omega)] at hv'
      simp only [Option.some.injEq] at hv'
      subst hv'; exact hP'
    · rw [List.getElem?_set_ne (Ne.symm hqq)] at hv'
      exact hs.md hn q' v' hq' hv'
  · rw [e1] at hv'
    obtain ⟨g, e, h1, h2, h3, h4⟩ := hs.box v' hv'
    exact ⟨g, e, h1, h2, fun _ => h3 hn, fun u hu => by rw [e2, hn] at hu; cases hu⟩
include k1 k2 in
theorem BMS.alloc (h : BMS w0 m Pf t z iy vs w) (hl : vs.length = m + 2) (hn : vs[m]? = some none) : BMS w0 m Pf t z iy (vs.set m (some (.pointer (some ⟨w.heap.size, 0, none⟩)))) (w.alloc (.cells z t)) := by
  have e2 : (vs.set m (some (.pointer (some ⟨w.heap.size, 0, none⟩))))[m + 1]? = vs[m + 1]? := by rw [List.getElem?_set_ne (by omega)]
  have hp := h.pa hn
  have hs := h.step k1 (balloc w (.cells z t))
  refine ⟨hs.below, fun e q v hq hv => ?_, fun v hv => ?_, fun e => ?_⟩
  · rw [List.getElem?_set_ne (by omega)] at hv
    refine k1 _ _ w _ _ (fun p x _ hx => bkeeps (balloc w _) p x hx) (k2 _ (SfM w0 m vs) _ _ _ (fun b hb hlt => ⟨hb.1, fun g hg => ?_⟩) (h.md hp q v hq hv))
    rw [List.getElem?_set_self (by omega)] at hg
    simp only [Option.some.injEq, Value.pointer.injEq, Addr.mk.injEq, and_true] at hg
    omega
  · rw [List.getElem?_set_self (by omega)] at hv
    refine ⟨w.heap.size, (Option.some.inj (Option.some.inj hv)).symm, h.below.size, by simp, fun _ => Blk.new' rfl, fun u hu => by rw [e2, hp] at hu; cases hu⟩
  · rw [List.getElem?_set_self (by omega)] at e; cases e
include k1 in
theorem BMS.store (h : BMS w0 m Pf t z iy vs w) (hl : vs.length = m + 2) (hiy : iy < m) {g : Nat} {vy u : Value} (hg : vs[m]? = some (some (.pointer (some ⟨g, 0, none⟩)))) (hy : vs[iy]? = some (some vy)) (hn : vs[m + 1]? = some none) (hu : Upd g w w') (hB : Blk w' g t (ycells vy)) : BMS w0 m Pf t z iy (vs.set (m + 1) (some u)) w' := by
  have e1 : (vs.set (m + 1) (some u))[m]? = vs[m]? := by rw [List.getElem?_set_ne (by omega)]
  have eS : SfM w0 m (vs.set (m + 1) (some u)) = SfM w0 m vs := by unfold SfM; rw [e1]
  obtain ⟨g', e', h1, h2, _, _⟩ := h.box _ hg
  simp only [Value.pointer.injEq, Option.some.injEq, Addr.mk.injEq, and_true] at e'
  subst e'
  refine ⟨upd_below h.below hu h1, fun e q v hq hv => ?_, fun v hv => ?_, fun e => ?_⟩
  · rw [List.getElem?_set_self (by omega)] at e; cases e
  · rw [e1, hg] at hv
    refine ⟨g, (Option.some.inj (Option.some.inj hv)).symm, h1, by rw [hu.size]; exact h2, fun e => (by rw [List.getElem?_set_self (by omega)] at e; cases e), fun _ _ => ⟨vy, by rw [List.getElem?_set_ne (by omega)]; exact hy, hB, ?_⟩⟩
    rw [eS]
    refine k1 _ _ w _ _ (fun p x hp hx => ?_) (h.md hn iy vy hiy hy)
    have hne := hp.2 g hg
    unfold World.cell? at hx ⊢
    rw [hu.block _ hne]; exact hx
  · rw [e1, hg] at e; cases e
end
section
variable {P : Program} {ops : Array Oper} {Pf : Nat → (Nat → Prop) → World → Value → Prop}
structure CtxM2 (ops : Array Oper) (l : List (Bool × Value)) (Pf : Nat → (Nat → Prop) → World → Value → Prop) (ms : List Nat) (ip : Nat) (chain : List Nat) (n : Fr) (K : Known) (w0 : World) (S : Nat → Prop) (i : Nat) (o : Oper) (a : Act) (w : World) : Prop where
  below : Below w0.heap.size w0 w
  kn : Kn n K a
  dep : ∀ j d, depB ops o j d = true → chain.contains j = false → valR1 l j (a.tmps.getD d undef)
  made : ∀ q c d, ms[q]? = some c → depB ops o c d = true → (ancL ops ip).contains i = true → Pf q S w (a.tmps.getD d undef)
/-- Each operation: one that yields what is listed (it may make memory); one that makes a thing; the new box; the store. -/
def SoundM2 (P : Program) (ops : Array Oper) (Q : Exit → Act → World → Prop) (l : List (Bool × Value)) (n : Fr) (K : Known) (w0 : World) (Pf : Nat → (Nat → Prop) → World → Value → Prop) (ms : List Nat) (t : Nat) (z : Array Value) (iy ia ip : Nat) : Nat → List Oper → Prop
  | _, [] => True
  | i, o :: r => (((ms ++ [ia, ip]).contains i = false ∧ o.guard = none ∧
        (∀ a w S, CtxM2 ops l Pf ms ip (ms ++ [ia, ip]) n K w0 S i o a w → o.wp P a w (fun a' w' => ∃ v, a' = Act.put a o.dst v ∧ Below w.heap.size w w' ∧ valR1 l i v) Q)) ∨
      (∃ q, ms[q]? = some i ∧ o.guard = none ∧ (ancL ops ip).contains i = true ∧ ∀ a w S, CtxM2 ops l Pf ms ip (ms ++ [ia, ip]) n K w0 S i o a w → o.wp P a w (fun a' w' => ∃ v, a' = Act.put a o.dst v ∧ Below w.heap.size w w' ∧ Pf q (fun b => S b ∨ w.heap.size ≤ b) w' v) Q) ∨
      (i = ia ∧ o.guard = none ∧ ∀ a w S, CtxM2 ops l Pf ms ip (ms ++ [ia, ip]) n K w0 S i o a w → o.wp P a w (fun a' w' => a' = Act.put a o.dst (.pointer (some ⟨w.heap.size, 0, none⟩)) ∧ w' = w.alloc (.cells z t)) Q) ∨
      (i = ip ∧ o.guard = none ∧ ∃ dp dy cy, depB ops o ia dp = true ∧ ms[iy]? = some cy ∧ depB ops o cy dy = true ∧ ∀ a w g S, CtxM2 ops l Pf ms ip (ms ++ [ia, ip]) n K w0 S i o a w → a.tmps.getD dp undef = .pointer (some ⟨g, 0, none⟩) → Blk w g t z → Pf iy S w (a.tmps.getD dy undef) →
        o.wp P a w (fun a' w' => ∃ v, a' = Act.put a o.dst v ∧ Upd g w w' ∧ Blk w' g t (ycells (a.tmps.getD dy undef))) Q)) ∧ SoundM2 P ops Q l n K w0 Pf ms t z iy ia ip (i + 1) r
theorem SoundM2.gen (k1 : ∀ q S w w' v, (∀ (p : Addr) (x : Value), S p.block → w.cell? p = some x → w'.cell? p = some x) → Pf q S w v → Pf q S w' v)
    (k2 : ∀ q (S S' : Nat → Prop) w v, (∀ b, S b → b < w.heap.size → S' b) → Pf q S w v → Pf q S' w v) {Q : Exit → Act → World → Prop} {l : List (Bool × Value)} {n : Fr} {K : Known} {w0 : World} {ms : List Nat} {t : Nat} {z : Array Value} {iy ia ip : Nat} (hiy : iy < ms.length) : ∀ {lo : List Oper} {i : Nat}, SoundM2 P ops Q l n K w0 Pf ms t z iy ia ip i lo →
    SoundFromG P ops Q (ms ++ [ia, ip]) (fun i v _ => valR1 l i v) (fun _ _ => True) (fun vs w => BMS w0 ms.length Pf t z iy vs w) n K i lo
  | [], _, _ => trivial
  | o :: r, i, ⟨h, hr⟩ => by
    refine ⟨?_, hr.gen k1 k2 hiy⟩
    have cm : ∀ q, q < ms.length → (ms ++ [ia, ip])[q]? = ms[q]? := fun q hq => List.getElem?_append_left hq
    have ca : (ms ++ [ia, ip])[ms.length]? = some ia := by rw [List.getElem?_append_right (Nat.le_refl _)]; simp
    have cp : (ms ++ [ia, ip])[ms.length + 1]? = some ip := by rw [List.getElem?_append_right (by omega)]; simp
    have mk : ∀ {a : Act} {w : World} {vs : List (Option Value)} (_ : CtxG ops (ms ++ [ia, ip]) (fun i v _ => valR1 l i v) (fun vs w => BMS w0 ms.length Pf t z iy vs w) n K i o a w vs), CtxM2 ops l Pf ms ip (ms ++ [ia, ip]) n K w0 (SfM w0 ms.length vs) i o a w := by
      intro a w vs C
      refine ⟨C.now.below, C.kn, C.dep, fun q c d hq hd ha => ?_⟩
      have hql := (List.getElem?_eq_some_iff.1 hq).1
      exact C.now.md (C.mostT (ms.length + 1) ip cp ha) q _ hql (C.link q c d ((cm q hql).trans hq) hd)
    have hlen : ∀ {a : Act} {w : World} {vs : List (Option Value)} (_ : CtxG ops (ms ++ [ia, ip]) (fun i v _ => valR1 l i v) (fun vs w => BMS w0 ms.length Pf t z iy vs w) n K i o a w vs), vs.length = ms.length + 2 := fun C => by have := C.len; simpa using this
    rcases h with ⟨h1, h2, h3⟩ | ⟨q, hq, h1, ha, h2⟩ | ⟨rfl, h1, h2⟩ | ⟨rfl, h1, dp, dy, cy, h2, h3, h4, h5⟩
    · refine .inl ⟨h1, true, .none h2, fun g b hb => by (rw [h2] at hb; cases hb), fun e => (by cases e), fun _ a w vs C => ?_⟩
      refine Oper.wpIn_mono ?_ (wpIn_of (h3 a w _ (mk C)) (by rintro a' w' ⟨v, rfl, _⟩; exact put_defers _ _ _))
      rintro a' w' ⟨v, rfl, hb, hv⟩
      exact ⟨v, rfl, trivial, BMS.step k1 C.now hb, hv⟩
    · have hql := (List.getElem?_eq_some_iff.1 hq).1
      refine .inr ⟨q, (cm q hql).trans hq, h1, fun a w vs C hn => ?_⟩
      refine Oper.wpIn_mono ?_ (wpIn_of (h2 a w _ (mk C)) (by rintro a' w' ⟨v, rfl, _⟩; exact put_defers _ _ _))
      rintro a' w' ⟨v, rfl, hb, hv⟩
      exact ⟨_, rfl, trivial, BMS.make k1 k2 C.now (hlen C) hql (C.mostT (ms.length + 1) ip cp ha) hb hv⟩
    · refine .inr ⟨ms.length, ca, h1, fun a w vs C hn => ?_⟩
      refine Oper.wpIn_mono ?_ (wpIn_of (h2 a w _ (mk C)) (by rintro a' w' ⟨rfl, _⟩; exact put_defers _ _ _))
      rintro a' w' ⟨rfl, rfl⟩
      exact ⟨_, rfl, trivial, BMS.alloc k1 k2 C.now (hlen C) hn⟩
    · refine .inr ⟨ms.length + 1, cp, h1, fun a w vs C hn => ?_⟩
      have e0 := C.link ms.length ia dp ca h2
      have e1 := C.link iy cy dy ((cm iy hiy).trans h3) h4
      obtain ⟨g, h6, h7, h8, h9, _⟩ := C.now.box _ e0
      have hm := C.now.md hn iy _ hiy e1
      refine Oper.wpIn_mono ?_ (wpIn_of (h5 a w g _ (mk C) h6 (h9 hn) hm) (by rintro a' w' ⟨v, rfl, _⟩; exact put_defers _ _ _))
      rintro a' w' ⟨v, rfl, h10, h11⟩
      exact ⟨v, rfl, trivial, BMS.store k1 C.now (hlen C) hiy (by rw [← h6]; exact e0) e1 hn h10 h11⟩
theorem WC.boxM {rid : Nat} {dr : Bool} {Q : Exit → Act → World → Prop} {n : Fr} {K : Known} {w : World} (Pf : Nat → (Nat → Prop) → World → Value → Prop)
    (k1 : ∀ q S w w' v, (∀ (p : Addr) (x : Value), S p.block → w.cell? p = some x → w'.cell? p = some x) → Pf q S w v → Pf q S w' v)
    (k2 : ∀ q (S S' : Nat → Prop) w v, (∀ b, S b → b < w.heap.size → S' b) → Pf q S w v → Pf q S' w v)
    (l : List (Bool × Value)) (K0 : Known) {t : Nat} {z : Array Value} (ms : List Nat) (iy ia ip da : Nat) (hiy : iy < ms.length)
    (hd : (ms ++ [ia, ip]).Nodup) (hin : ((ms ++ [ia, ip]).all fun c => Nat.blt c ops.size) = true) (hda : (ops[ia]?).bind (·.dst) = some da)
    (hs : subK K0 K) (hclear : clearB ops K0 = true) (hm : P.follows .mixedOrders = true) (hB : opsB ops n.n = true)
    (h : SoundM2 P ops Q l n K0 w Pf ms t z iy ia ip 0 ops.toList)
    (hQ : ∀ (a : Act) (w' : World) (g : Nat) (vy : Value), Kn n K0 a → Below w.heap.size w w' → w.heap.size ≤ g → Blk w' g t (ycells vy) → Pf iy (fun b => w.heap.size ≤ b ∧ b ≠ g) w' vy → a.tmps.getD da undef = .pointer (some ⟨g, 0, none⟩) → (∀ i d, (ops[i]?).bind (·.dst) = some d → (ms ++ [ia, ip]).contains i = false → valR1 l i (a.tmps.getD d undef)) → Q .normal a w') :
    WC P n K w (.region rid ops dr) Q := by
  have ca : (ms ++ [ia, ip])[ms.length]? = some ia := by rw [List.getElem?_append_right (Nat.le_refl _)]; simp
  refine WC.gen (ms ++ [ia, ip]) (fun i v _ => valR1 l i v) (fun _ _ => True) (fun vs w' => BMS w ms.length Pf t z iy vs w') K0 hs hclear hm hB hd hin (fun _ _ _ _ h _ => h) ?_ (h.gen k1 k2 hiy) (fun a w' vs hk hlen hall hG hu hl => ?_)
  · have hnn : ∀ q (v : Value), (List.replicate (ms ++ [ia, ip]).length (none : Option Value))[q]? ≠ some (some v) := fun q v e => by
      rw [List.getElem?_replicate] at e
      split at e
      · cases e
      · cases e
    have st : ∀ w' : World, Below w.heap.size w w' → BMS w ms.length Pf t z iy (List.replicate (ms ++ [ia, ip]).length none) w' := fun w' hb => ⟨hb, fun _ q v _ hv => absurd hv (hnn q v), fun v hv => absurd hv (hnn _ v), fun _ => by rw [List.getElem?_replicate, if_pos (by simp)]⟩
    cases dr with
    | true => exact st _ (Below.refl _ _).drew
    | false => exact st _ (Below.refl _ _)
  · obtain ⟨v2, hv2⟩ := hall (ms.length + 1) (by simp)
    have ha := hl ms.length ia da ca hda
    obtain ⟨g, e1, h1, _, _, h2⟩ := hG.box _ ha
    obtain ⟨vy, h3, h4, h5⟩ := h2 v2 hv2
    refine hQ a w' g vy hk hG.below h1 h4 (k2 _ _ _ _ _ (fun b hb _ => ⟨hb.1, hb.2 g ?_⟩) h5) e1 hu
    rw [← e1]; exact ha
end
end Go.Proofs.Ytnblndmjjokepaa
