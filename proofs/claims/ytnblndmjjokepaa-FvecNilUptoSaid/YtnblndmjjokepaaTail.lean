/- Regions in whatever order, in which what is made comes first and, last, one thing is written ('row[i] = f(..)'), or two ('box = append(box, f(..))'). -/
import Derived.Test.YtnblndmjjokepaaElt
namespace Go.Proofs.Ytnblndmjjokepaa
open Go.RowKit Go
set_option linter.unusedVariables false
set_option linter.unusedSimpArgs false

/-- What an operation yields: a value, or one of which something holds that blocks of 'S' do not touch. -/
inductive SpS (S : Nat → Prop) where
  | val (x : Value)
  | mem (p : Value → World → Prop) (h : ∀ v w w', Chg S w w' → p v w → p v w')
def SpS.holds {S : Nat → Prop} : SpS S → Value → World → Prop
  | .val x, v, _ => v = x
  | .mem p _, v, w => p v w
def optS {S : Nat → Prop} (l : List (Bool × SpS S)) (i : Nat) (v : Value) (w : World) : Prop := ((l.getD i (true, .val undef)).1 = true → (l.getD i (true, .val undef)).2.holds v w) ∧ ((l.getD i (true, .val undef)).1 = false → v = undef)
theorem optSKeep {S : Nat → Prop} (l : List (Bool × SpS S)) (i : Nat) (v : Value) (w w' : World) (h : optS l i v w) (hb : Chg S w w') : optS l i v w' := by
  refine ⟨fun e => ?_, h.2⟩
  have := h.1 e
  generalize (l.getD i (true, .val undef)).2 = s at *
  cases s with
  | val x => exact this
  | mem p hp => exact hp _ _ _ hb this
theorem optSVal {S : Nat → Prop} {l : List (Bool × SpS S)} {i : Nat} {v x : Value} {w : World} {β : Bool} (h : optS l i v w) (e : l.getD i (true, .val undef) = (β, .val x)) (hβ : β = true) : v = x := by
  have := h.1 (by rw [e]; exact hβ)
  rw [e] at this
  exact this
theorem optSMem {S : Nat → Prop} {l : List (Bool × SpS S)} {i : Nat} {v : Value} {w : World} {β : Bool} {p : Value → World → Prop} {hp : ∀ v w w', Chg S w w' → p v w → p v w'} (h : optS l i v w) (e : l.getD i (true, .val undef) = (β, .mem p hp)) (hβ : β = true) : p v w := by
  have := h.1 (by rw [e]; exact hβ)
  rw [e] at this
  exact this

/-- A row of one, new. -/
def OneRow {α : Type} (E : Elt α) (w0 : World) (e : TypeId) (x : α) (v : Value) (w : World) : Prop := ∃ g cs, v = .slice (some ⟨g, 0, none⟩) 1 1 ∧ w0.heap.size ≤ g ∧ Blk w g e cs.toArray ∧ E.In (fun b => w0.heap.size ≤ b) w x cs
theorem OneRow.chg {α : Type} {E : Elt α} {w0 w w' : World} {e : TypeId} {x : α} {v : Value} {S : Nat → Prop} (h : OneRow E w0 e x v w) (hc : Chg S w w') (hS : ∀ b, S b → b < w0.heap.size) : OneRow E w0 e x v w' := by
  obtain ⟨g, cs, e1, h1, h2, h3⟩ := h
  exact ⟨g, cs, e1, h1, chg_blk h2 hc (fun hs => by have := hS g hs; omega), Elt.chg h3 hc (fun b hb hs => by have := hS b hs; omega)⟩

section
variable {P : Program} {ops : Array Oper} {S : Nat → Prop}
/-- What an operation finds that does not write. -/
structure CtxA (ops : Array Oper) (l : List (Bool × SpS S)) (chain : List Nat) (first : Nat) (n : Fr) (K : Known) (w0 : World) (i : Nat) (o : Oper) (a : Act) (w : World) : Prop where
  chg : Chg S w0 w
  kn : Kn n K a
  dep : ∀ j d, depB ops o j d = true → chain.contains j = false → optS l j (a.tmps.getD d undef) w
  early : (ancL ops first).contains i = true → Below w0.heap.size w0 w
/-- What an operation finds that writes first. -/
structure CtxB (ops : Array Oper) (l : List (Bool × SpS S)) (chain : List Nat) (n : Fr) (K : Known) (w0 : World) (o : Oper) (a : Act) (w : World) : Prop where
  below : Below w0.heap.size w0 w
  kn : Kn n K a
  dep : ∀ j d, depB ops o j d = true → chain.contains j = false → optS l j (a.tmps.getD d undef) w

def Tail1 (P : Program) (ops : Array Oper) (Q : Exit → Act → World → Prop) (l : List (Bool × SpS S)) (n : Fr) (K : Known) (w0 : World) (q : Nat) (GS : World → Prop) : Nat → List Oper → Prop
  | _, [] => True
  | i, o :: r => (([q].contains i = false ∧ ∃ β, GuardIs (optS l) o β ∧ (∀ g b, o.guard = some (g, b) → [q].contains g = false) ∧ (β = false → ∀ w, optS l i undef w) ∧
      (β = true → ∀ a w, CtxA ops l [q] q n K w0 i o a w → o.wp P a w (fun a' w' => ∃ v, a' = Act.put a o.dst v ∧ Below w.heap.size w w' ∧ optS l i v w') Q)) ∨
    (i = q ∧ o.guard = none ∧ ∀ a w, CtxB ops l [q] n K w0 o a w → o.wp P a w (fun a' w' => ∃ v, a' = Act.put a o.dst v ∧ GS w' ∧ Chg S w w') Q)) ∧ Tail1 P ops Q l n K w0 q GS (i + 1) r
def G1 (S : Nat → Prop) (w0 : World) (GS : World → Prop) : List (Option Value) → World → Prop
  | [none], w => Below w0.heap.size w0 w
  | [some _], w => GS w ∧ Chg S w0 w
  | _, _ => False
theorem Tail1.gen {Q : Exit → Act → World → Prop} {l : List (Bool × SpS S)} {n : Fr} {K : Known} {w0 : World} {q : Nat} {GS : World → Prop} (hGS : ∀ w w', Below w.heap.size w w' → GS w → GS w') : ∀ {lo : List Oper} {i : Nat}, Tail1 P ops Q l n K w0 q GS i lo →
    SoundFromG P ops Q [q] (optS l) (Chg S) (G1 S w0 GS) n K i lo
  | [], _, _ => trivial
  | o :: r, i, ⟨h, hr⟩ => by
    refine ⟨?_, hr.gen hGS⟩
    rcases h with ⟨hi, β, h1, h2, h3, h4⟩ | ⟨rfl, hg, h4⟩
    · refine .inl ⟨hi, β, h1, h2, h3, fun hβ a w vs C => ?_⟩
      have hc : Chg S w0 w := by
        match vs, C.len, C.now with
        | [none], _, h => exact .ofBelow h
        | [some _], _, h => exact h.2
      refine Oper.wpIn_mono ?_ (wpIn_of (h4 hβ a w ⟨hc, C.kn, C.dep, fun he => ?_⟩) (by rintro a' w' ⟨v, rfl, _⟩; exact put_defers _ _ _))
      · rintro a' w' ⟨v, rfl, hb, hR⟩
        refine ⟨v, rfl, .ofBelow hb, ?_, hR⟩
        match vs, C.len, C.now with
        | [none], _, h => exact bstep h hb
        | [some _], _, h => exact ⟨hGS _ _ hb h.1, h.2.trans (.ofBelow hb)⟩
      · have := C.mostT 0 q rfl he
        match vs, C.len, C.now, this with
        | [none], _, h, _ => exact h
    · refine .inr ⟨0, rfl, hg, fun a w vs C hn => ?_⟩
      match vs, C.len, C.now, hn, C with
      | [none], _, h, _, C =>
        refine Oper.wpIn_mono ?_ (wpIn_of (h4 a w ⟨h, C.kn, C.dep⟩) (by rintro a' w' ⟨v, rfl, _⟩; exact put_defers _ _ _))
        rintro a' w' ⟨v, rfl, hG, hc⟩
        exact ⟨v, rfl, hc, hG, (Chg.ofBelow h).trans hc⟩
theorem WC.tail1 {id : Nat} {dr : Bool} {Q : Exit → Act → World → Prop} {n : Fr} {K : Known} {w : World} (l : List (Bool × SpS S)) (K0 : Known) (q : Nat) (GS : World → Prop) (hGS : ∀ w w', Below w.heap.size w w' → GS w → GS w')
    (hs : subK K0 K) (hclear : clearB ops K0 = true) (hm : P.follows .mixedOrders = true) (hB : opsB ops n.n = true) (hin : ([q].all fun c => Nat.blt c ops.size) = true)
    (h : Tail1 P ops Q l n K0 w q GS 0 ops.toList)
    (hQ : ∀ (a : Act) (w' : World), Kn n K0 a → GS w' → Chg S w w' → (∀ i d, (ops[i]?).bind (·.dst) = some d → [q].contains i = false → optS l i (a.tmps.getD d undef) w') → Q .normal a w') :
    WC P n K w (.region id ops dr) Q := by
  refine WC.gen [q] (optS l) (Chg S) (G1 S w GS) K0 hs hclear hm hB (by simp) hin (optSKeep l) ?_ (h.gen hGS) (fun a w' vs hk hlen hall hG hu _ => ?_)
  · cases dr with
    | true => exact (Below.refl _ _).drew
    | false => exact Below.refl _ _
  · obtain ⟨v, hv⟩ := hall 0 (by simp)
    match vs, hlen, hv, hG with
    | [some _], _, _, hG => exact hQ a w' hk hG.1 hG.2 hu

def Tail2 (P : Program) (ops : Array Oper) (Q : Exit → Act → World → Prop) (l : List (Bool × SpS S)) (n : Fr) (K : Known) (w0 : World) (p q N : Nat) (GA GS : Option Addr → Nat → World → Prop) : Nat → List Oper → Prop
  | _, [] => True
  | i, o :: r => (([p, q].contains i = false ∧ ∃ β, GuardIs (optS l) o β ∧ (∀ g b, o.guard = some (g, b) → [p, q].contains g = false) ∧ (β = false → ∀ w, optS l i undef w) ∧
      (β = true → ∀ a w, CtxA ops l [p, q] p n K w0 i o a w → o.wp P a w (fun a' w' => ∃ v, a' = Act.put a o.dst v ∧ Below w.heap.size w w' ∧ optS l i v w') Q)) ∨
    (i = p ∧ o.guard = none ∧ ∀ a w, CtxB ops l [p, q] n K w0 o a w → o.wp P a w (fun a' w' => ∃ ra rc, a' = Act.put a o.dst (.slice ra N rc) ∧ GA ra rc w' ∧ Chg S w w') Q) ∨
    (i = q ∧ o.guard = none ∧ ∃ d, depB ops o p d = true ∧ ∀ a w ra rc, Kn n K a → (∀ j d, depB ops o j d = true → [p, q].contains j = false → optS l j (a.tmps.getD d undef) w) → a.tmps.getD d undef = .slice ra N rc → GA ra rc w → o.wp P a w (fun a' w' => ∃ v, a' = Act.put a o.dst v ∧ GS ra rc w' ∧ Chg S w w') Q)) ∧ Tail2 P ops Q l n K w0 p q N GA GS (i + 1) r
def G2 (S : Nat → Prop) (w0 : World) (N : Nat) (GA GS : Option Addr → Nat → World → Prop) : List (Option Value) → World → Prop
  | [none, none], w => Below w0.heap.size w0 w
  | [some v, none], w => ∃ ra rc, v = .slice ra N rc ∧ GA ra rc w ∧ Chg S w0 w
  | [some v, some _], w => ∃ ra rc, v = .slice ra N rc ∧ GS ra rc w ∧ Chg S w0 w
  | _, _ => False
theorem G2.chg {w0 w : World} {N : Nat} {GA GS : Option Addr → Nat → World → Prop} : ∀ {vs : List (Option Value)}, G2 S w0 N GA GS vs w → Chg S w0 w
  | [none, none], h => .ofBelow h
  | [some _, none], h => by obtain ⟨_, _, _, _, h⟩ := h; exact h
  | [some _, some _], h => by obtain ⟨_, _, _, _, h⟩ := h; exact h
  | [none, some _], h => h.elim
  | [], h => h.elim
  | [x], h => by cases x <;> exact h.elim
  | _ :: _ :: _ :: _, h => by simp [G2] at h
theorem Tail2.gen {Q : Exit → Act → World → Prop} {l : List (Bool × SpS S)} {n : Fr} {K : Known} {w0 : World} {p q N : Nat} {GA GS : Option Addr → Nat → World → Prop} (hpq : p ≠ q) (hGA : ∀ ra rc w w', Below w.heap.size w w' → GA ra rc w → GA ra rc w') (hGS : ∀ ra rc w w', Below w.heap.size w w' → GS ra rc w → GS ra rc w') : ∀ {lo : List Oper} {i : Nat}, Tail2 P ops Q l n K w0 p q N GA GS i lo →
    SoundFromG P ops Q [p, q] (optS l) (Chg S) (G2 S w0 N GA GS) n K i lo
  | [], _, _ => trivial
  | o :: r, i, ⟨h, hr⟩ => by
    refine ⟨?_, hr.gen hpq hGA hGS⟩
    rcases h with ⟨hi, β, h1, h2, h3, h4⟩ | ⟨rfl, hg, h4⟩ | ⟨rfl, hg, d, hd, h4⟩
    · refine .inl ⟨hi, β, h1, h2, h3, fun hβ a w vs C => ?_⟩
      refine Oper.wpIn_mono ?_ (wpIn_of (h4 hβ a w ⟨C.now.chg, C.kn, C.dep, fun he => ?_⟩) (by rintro a' w' ⟨v, rfl, _⟩; exact put_defers _ _ _))
      · rintro a' w' ⟨v, rfl, hb, hR⟩
        refine ⟨v, rfl, .ofBelow hb, ?_, hR⟩
        match vs, C.len, C.now with
        | [none, none], _, h => exact bstep h hb
        | [some _, none], _, ⟨ra, rc, e, h, hc⟩ => exact ⟨ra, rc, e, hGA _ _ _ _ hb h, hc.trans (.ofBelow hb)⟩
        | [some _, some _], _, ⟨ra, rc, e, h, hc⟩ => exact ⟨ra, rc, e, hGS _ _ _ _ hb h, hc.trans (.ofBelow hb)⟩
        | [none, some _], _, h => exact h.elim
      · have := C.mostT 0 p rfl he
        match vs, C.len, C.now, this with
        | [none, none], _, h, _ => exact h
        | [none, some _], _, h, _ => exact h.elim
    · refine .inr ⟨0, rfl, hg, fun a w vs C hn => ?_⟩
      match vs, C.len, C.now, hn, C with
      | [none, none], _, h, _, C =>
        refine Oper.wpIn_mono ?_ (wpIn_of (h4 a w ⟨h, C.kn, C.dep⟩) (by rintro a' w' ⟨_, _, rfl, _⟩; exact put_defers _ _ _))
        rintro a' w' ⟨ra, rc, rfl, hG, hc⟩
        exact ⟨_, rfl, hc, ra, rc, rfl, hG, (Chg.ofBelow h).trans hc⟩
      | [none, some _], _, h, _, _ => exact h.elim
    · refine .inr ⟨1, rfl, hg, fun a w vs C hn => ?_⟩
      have hl := C.link 0 p d rfl hd
      match vs, C.len, C.now, hn, hl, C with
      | [some v, none], _, ⟨ra, rc, e, h, hc⟩, _, hl, C =>
        have hv : v = a.tmps.getD d undef := by simpa using hl
        refine Oper.wpIn_mono ?_ (wpIn_of (h4 a w ra rc C.kn C.dep (hv ▸ e) h) (by rintro a' w' ⟨v, rfl, _⟩; exact put_defers _ _ _))
        rintro a' w' ⟨u, rfl, hG, hc2⟩
        exact ⟨u, rfl, hc2, ra, rc, e, hG, hc.trans hc2⟩
theorem WC.tail2 {id : Nat} {dr : Bool} {Q : Exit → Act → World → Prop} {n : Fr} {K : Known} {w : World} (l : List (Bool × SpS S)) (K0 : Known) (p q N dp : Nat) (GA GS : Option Addr → Nat → World → Prop) (hpq : p ≠ q) (hGA : ∀ ra rc w w', Below w.heap.size w w' → GA ra rc w → GA ra rc w') (hGS : ∀ ra rc w w', Below w.heap.size w w' → GS ra rc w → GS ra rc w')
    (hs : subK K0 K) (hclear : clearB ops K0 = true) (hm : P.follows .mixedOrders = true) (hB : opsB ops n.n = true) (hin : ([p, q].all fun c => Nat.blt c ops.size) = true) (hdp : (ops[p]?).bind (·.dst) = some dp)
    (h : Tail2 P ops Q l n K0 w p q N GA GS 0 ops.toList)
    (hQ : ∀ (a : Act) (w' : World) (ra : Option Addr) (rc : Nat), Kn n K0 a → a.tmps.getD dp undef = .slice ra N rc → GS ra rc w' → Chg S w w' → (∀ i d, (ops[i]?).bind (·.dst) = some d → [p, q].contains i = false → optS l i (a.tmps.getD d undef) w') → Q .normal a w') :
    WC P n K w (.region id ops dr) Q := by
  refine WC.gen [p, q] (optS l) (Chg S) (G2 S w N GA GS) K0 hs hclear hm hB (by simpa using hpq) hin (optSKeep l) ?_ (h.gen hpq hGA hGS) (fun a w' vs hk hlen hall hG hu hl => ?_)
  · cases dr with
    | true => exact (Below.refl _ _).drew
    | false => exact Below.refl _ _
  · obtain ⟨v, hv⟩ := hall 0 (by simp)
    obtain ⟨u, hu1⟩ := hall 1 (by simp)
    have hx := hl 0 p dp rfl hdp
    match vs, hlen, hv, hu1, hx, hG with
    | [some y, some _], _, _, _, hx, ⟨ra, rc, e, hG, hc⟩ =>
      have hy : y = a.tmps.getD dp undef := by simpa using hx
      exact hQ a w' ra rc hk (hy ▸ e) hG hc hu
end

end Go.Proofs.Ytnblndmjjokepaa
