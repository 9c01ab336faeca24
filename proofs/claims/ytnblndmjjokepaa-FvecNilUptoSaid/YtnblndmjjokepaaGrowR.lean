/- 'box = append(box, x)' in a region that draws its order: the row of one, the append to a row of the call's own, the store into a box, everything else only reads. -/
import Derived.Test.YtnblndmjjokepaaEng
namespace Go.Proofs.Ytnblndmjjokepaa
open Go.RowKit Go

def valR (l : List (Bool × Value)) (i : Nat) (v : Value) : Prop := ((l.getD i (true, undef)).1 = true → v = (l.getD i (true, undef)).2) ∧ ((l.getD i (true, undef)).1 = false → v = undef)
theorem valVal {l : List (Bool × Value)} {i : Nat} {v x : Value} {β : Bool} (h : valR l i v) (e : l.getD i (true, undef) = (β, x)) (hβ : β = true) : v = x := by
  have := h.1 (by rw [e]; exact hβ)
  rw [e] at this
  exact this

theorem Chg.refl (S : Nat → Prop) (w : World) : Chg S w w := ⟨rfl, rfl, rfl, Nat.le_refl _, fun _ _ _ => rfl⟩
theorem Chg.trans {S : Nat → Prop} {a b c : World} (h : Chg S a b) (k : Chg S b c) : Chg S a c :=
  ⟨k.os.trans h.os, k.tape.trans h.tape, k.output.trans h.output, Nat.le_trans h.size k.size, fun i hi hS => (k.block i (Nat.lt_of_lt_of_le hi h.size) hS).trans (h.block i hi hS)⟩
theorem Chg.trans2 {S S2 : Nat → Prop} {a b c : World} (h : Chg S a b) (k : Chg S2 b c) (hS : ∀ i, i < a.heap.size → S2 i → S i) : Chg S a c :=
  ⟨k.os.trans h.os, k.tape.trans h.tape, k.output.trans h.output, Nat.le_trans h.size k.size, fun i hi hn => (k.block i (Nat.lt_of_lt_of_le hi h.size) (fun e => hn (hS i hi e))).trans (h.block i hi hn)⟩
theorem Chg.mono {S S' : Nat → Prop} {a b : World} (h : Chg S a b) (hS : ∀ k, S k → S' k) : Chg S' a b := ⟨h.os, h.tape, h.output, h.size, fun i hi hn => h.block i hi (fun e => hn (hS i e))⟩
theorem Chg.ofBelow {S : Nat → Prop} {a b : World} (h : Below a.heap.size a b) : Chg S a b := ⟨h.os, h.tape, h.output, h.size, fun i hi _ => h.block i hi⟩
theorem Chg.ofUpd {S : Nat → Prop} {g : Nat} {a b : World} (h : Upd g a b) (hS : S g) : Chg S a b := ⟨h.os, h.tape, h.output, Nat.le_of_eq h.size.symm, fun i _ hn => h.block i (fun e => hn (e ▸ hS))⟩
theorem chg_cell {S : Nat → Prop} {w w' : World} {b o : Nat} {v : Value} (k : Chg S w w') (hS : ¬ S b) (h : w.cell? ⟨b, o, none⟩ = some v) : w'.cell? ⟨b, o, none⟩ = some v := by
  have hb := World.block_lt_of_cell? _ _ h
  unfold World.cell? at h ⊢
  have e := k.block b hb hS
  dsimp only at h ⊢
  rw [e]; exact h

theorem chg_old {S : Nat → Prop} {w0 w w' : World} {p : Addr} {v : Value} (hb : Below w0.heap.size w0 w) (k : Chg S w w') (hS : ∀ b, b < w0.heap.size → ¬ S b) (h : w0.cell? p = some v) : w'.cell? p = some v :=
  bkeeps (chg_below hb k hS) _ _ h

section
variable {w0 w w' : World} {S : Nat → Prop} {e size n rc m g ty i : Nat} {ra : Option Addr} {xs : List Value} {cs : Array Value} {N : List Value → Prop} {vb vp vq : Option Value}

/-- What holds while the three are carried out. -/
structure GrowS (w0 : World) (S : Nat → Prop) (e size : Nat) (ra : Option Addr) (rc n : Nat) (xs : List Value) (g ty : Nat) (cs : Array Value) (i m : Nat) (news : List Value) (vb vp vq : Option Value) (w : World) : Prop where
  chg : Chg (fun b => S b ∨ b = g) w0 w
  q0 : vq = none → Chg S w0 w ∧ Blk w g ty cs
  p0 : vp = none → Own w S e size ra rc n xs ∧ vq = none
  b1 : vp = none → ∀ v, vb = some v → ∃ g1, v = .slice (some ⟨g1, 0, none⟩) m m ∧ Blk w g1 e news.toArray
  p1 : ∀ v, vp = some v → ∃ ra' rc', v = .slice ra' (n + m) rc' ∧ Own w S e size ra' rc' (n + m) (xs ++ news) ∧ (vq ≠ none → Blk w g ty (cs.setIfInBounds i v))

variable {news : List Value}
def GrowG (w0 : World) (S : Nat → Prop) (e size : Nat) (ra : Option Addr) (rc n : Nat) (xs : List Value) (g ty : Nat) (cs : Array Value) (i m : Nat) (news : List Value) : List (Option Value) → World → Prop
  | [vb, vp, vq], w => GrowS w0 S e size ra rc n xs g ty cs i m news vb vp vq w
  | _, _ => False

theorem GrowS.below (h : GrowS w0 S e size ra rc n xs g ty cs i m news vb vp vq w) (hb : Below w.heap.size w w') : GrowS w0 S e size ra rc n xs g ty cs i m news vb vp vq w' :=
  ⟨h.chg.trans (.ofBelow hb), fun e => ⟨(h.q0 e).1.trans (.ofBelow hb), (h.q0 e).2.below hb⟩, fun e => ⟨(h.p0 e).1.below hb, (h.p0 e).2⟩, fun e v hv => by
    obtain ⟨g1, h1, h2⟩ := h.b1 e v hv; exact ⟨g1, h1, h2.below hb⟩, fun v hv => by
    obtain ⟨ra', rc', h1, h2, h3⟩ := h.p1 v hv; exact ⟨ra', rc', h1, h2.below hb, fun e => (h3 e).below hb⟩⟩
theorem GrowG.below {vs : List (Option Value)} (h : GrowG w0 S e size ra rc n xs g ty cs i m news vs w) (hb : Below w.heap.size w w') : GrowG w0 S e size ra rc n xs g ty cs i m news vs w' := by
  match vs, h with
  | [vb, vp, vq], h => exact GrowS.below h hb
theorem GrowS.start (ho : Own w0 S e size ra rc n xs) (hB : Blk w0 g ty cs) (hb : Below w0.heap.size w0 w) : GrowS w0 S e size ra rc n xs g ty cs i m news none none none w :=
  ⟨.ofBelow hb, fun _ => ⟨.ofBelow hb, hB.below hb⟩, fun _ => ⟨ho.below hb, rfl⟩, fun _ v hv => (by cases hv), fun v hv => (by cases hv)⟩
theorem GrowS.row (h : GrowS w0 S e size ra rc n xs g ty cs i m news none none none w) : GrowS w0 S e size ra rc n xs g ty cs i m news (some (.slice (some ⟨w.heap.size, 0, none⟩) m m)) none none (w.alloc (.cells news.toArray e)) := by
  have h' := h.below (balloc w (.cells news.toArray e))
  exact ⟨h'.chg, h'.q0, h'.p0, fun _ v hv => ⟨_, (Option.some.inj hv).symm, Blk.new' rfl⟩, h'.p1⟩
theorem GrowS.app {ra' : Option Addr} {rc' : Nat} {x : Value} (h : GrowS w0 S e size ra rc n xs g ty cs i m news (some x) none none w) (ho : Own w' S e size ra' rc' (n + m) (xs ++ news)) (hc : Chg S w w') (hg : ¬ S g) : GrowS w0 S e size ra rc n xs g ty cs i m news (some x) (some (.slice ra' (n + m) rc')) none w' := by
  refine ⟨h.chg.trans (hc.mono fun _ h => .inl h), fun _ => ⟨(h.q0 rfl).1.trans hc, chg_blk (h.q0 rfl).2 hc hg⟩, (fun e => by cases e), (fun e => by cases e), fun v hv => ⟨ra', rc', (Option.some.inj hv).symm, ho, fun e => absurd rfl e⟩⟩
theorem GrowS.store {x y q : Value} (h : GrowS w0 S e size ra rc n xs g ty cs i m news (some x) (some y) none w) (hu : Upd g w w') (hB : Blk w' g ty (cs.setIfInBounds i y)) (hg : ¬ S g) : GrowS w0 S e size ra rc n xs g ty cs i m news (some x) (some y) (some q) w' := by
  refine ⟨h.chg.trans (.ofUpd hu (.inr rfl)), (fun e => by cases e), (fun e => by cases e), (fun e => by cases e), fun v hv => ?_⟩
  obtain ⟨ra', rc', h1, h2, _⟩ := h.p1 v hv
  obtain rfl := Option.some.inj hv
  exact ⟨ra', rc', h1, h2.upd hu hg, fun _ => hB⟩
end

section
variable {P : Program} {ops : Array Oper}
/-- What an operation that only reads finds. -/
structure CtxR (ops : Array Oper) (l : List (Bool × Value)) (chain : List Nat) (n : Fr) (K : Known) (w0 : World) (S : Nat → Prop) (g ty : Nat) (cs : Array Value) (o : Oper) (a : Act) (w : World) : Prop where
  chg : Chg S w0 w
  blk : Blk w g ty cs
  kn : Kn n K a
  dep : ∀ j d, depB ops o j d = true → chain.contains j = false → valR l j (a.tmps.getD d undef)

def SoundR (P : Program) (ops : Array Oper) (Q : Exit → Act → World → Prop) (l : List (Bool × Value)) (n : Fr) (K : Known) (w0 : World) (S : Nat → Prop) (e size : Nat) (ra : Option Addr) (rc ln : Nat) (xs : List Value) (g ty : Nat) (cs : Array Value) (ix m : Nat) (news : List Value) (ib ip iq : Nat) : Nat → List Oper → Prop
  | _, [] => True
  | i, o :: r => ((∃ β, [ib, ip, iq].contains i = false ∧ afterB ops iq i = true ∧ GuardIs (fun i v _ => valR l i v) o β ∧ (∀ gg b, o.guard = some (gg, b) → [ib, ip, iq].contains gg = false) ∧ (β = false → valR l i undef) ∧
      (β = true → ∀ a w, CtxR ops l [ib, ip, iq] n K w0 S g ty cs o a w → o.wp P a w (fun a' w' => ∃ v, a' = Act.put a o.dst v ∧ w' = w ∧ valR l i v) Q)) ∨
    (i = ib ∧ o.guard = none ∧ afterB ops ip ib = true ∧ afterB ops iq ib = true ∧ ∀ a w, CtxR ops l [ib, ip, iq] n K w0 S g ty cs o a w →
      (o.wp P a w (fun a' w' => a' = Act.put a o.dst (.slice (some ⟨w.heap.size, 0, none⟩) m m) ∧ w' = w.alloc (.cells news.toArray e)) Q)) ∨
    (i = ip ∧ o.guard = none ∧ afterB ops iq ip = true ∧ (∃ db, depB ops o ib db = true ∧ ∀ a w g1, CtxR ops l [ib, ip, iq] n K w0 S g ty cs o a w → Own w S e size ra rc ln xs → a.tmps.getD db undef = .slice (some ⟨g1, 0, none⟩) m m → Blk w g1 e news.toArray →
      (o.wp P a w (fun a' w' => ∃ ra' rc', a' = Act.put a o.dst (.slice ra' (ln + m) rc') ∧ Own w' S e size ra' rc' (ln + m) (xs ++ news) ∧ Chg S w w') Q))) ∨
    (i = iq ∧ o.guard = none ∧ (∃ dp, depB ops o ip dp = true ∧ (o.after.any (fun e => e.on == ib && Region.binds .any e)) = true ∧ ∀ a w ra' rc', CtxR ops l [ib, ip, iq] n K w0 S g ty cs o a w → a.tmps.getD dp undef = .slice ra' (ln + m) rc' →
      (o.wp P a w (fun a' w' => ∃ v, a' = Act.put a o.dst v ∧ Upd g w w' ∧ Blk w' g ty (cs.setIfInBounds ix (.slice ra' (ln + m) rc'))) Q)))) ∧ SoundR P ops Q l n K w0 S e size ra rc ln xs g ty cs ix m news ib ip iq (i + 1) r

theorem SoundR.gen {Q : Exit → Act → World → Prop} {l : List (Bool × Value)} {n : Fr} {K : Known} {w0 : World} {S : Nat → Prop} {e size : Nat} {ra : Option Addr} {rc ln : Nat} {xs : List Value} {g ty : Nat} {cs : Array Value} {ix m : Nat} {news : List Value} {ib ip iq : Nat} (hd : [ib, ip, iq].Nodup) (hS : ¬ S g) : ∀ {lo : List Oper} {i : Nat}, SoundR P ops Q l n K w0 S e size ra rc ln xs g ty cs ix m news ib ip iq i lo →
    SoundFromG P ops Q [ib, ip, iq] (fun i v _ => valR l i v) (fun _ _ => True) (GrowG w0 S e size ra rc ln xs g ty cs ix m news) n K i lo
  | [], _, _ => trivial
  | o :: r, i, ⟨h, hr⟩ => by
    refine ⟨?_, hr.gen hd hS⟩
    have mk : ∀ {a : Act} {w : World} {vs : List (Option Value)} (_ : CtxG ops [ib, ip, iq] (fun i v _ => valR l i v) (GrowG w0 S e size ra rc ln xs g ty cs ix m news) n K i o a w vs), vs[2]? = some none → CtxR ops l [ib, ip, iq] n K w0 S g ty cs o a w := by
      intro a w vs C h2
      match vs, C.len with
      | [vb, vp, vq], _ =>
        have hq : vq = none := by simpa using h2
        have := C.now.q0 hq
        exact ⟨this.1, this.2, C.kn, C.dep⟩
    rcases h with ⟨β, h1, h2, h3, h4, h5, h6⟩ | ⟨rfl, h1, h2, h2', h3⟩ | ⟨rfl, h1, h2, db, h3, h4⟩ | ⟨rfl, h1, dp, h2, h3, h4⟩
    · refine .inl ⟨h1, β, h3, h4, fun e w => h5 e, fun hβ a w vs C => ?_⟩
      refine Oper.wpIn_mono ?_ (wpIn_of (h6 hβ a w (mk C (C.most 2 iq rfl h2))) (by rintro a' w' h; first | (obtain ⟨v, rfl, _⟩ := h; exact put_defers _ _ _) | (obtain ⟨_, _, rfl, _⟩ := h; exact put_defers _ _ _) | (obtain ⟨rfl, _⟩ := h; exact put_defers _ _ _)))
      rintro a' w' ⟨v, rfl, rfl, hv⟩
      exact ⟨v, rfl, trivial, C.now, hv⟩
    · refine .inr ⟨0, rfl, h1, fun a w vs C hn => ?_⟩
      have e1 := C.most 1 ip rfl h2
      have e2 := C.most 2 iq rfl h2'
      refine Oper.wpIn_mono ?_ (wpIn_of (h3 a w (mk C e2)) (by rintro a' w' h; first | (obtain ⟨v, rfl, _⟩ := h; exact put_defers _ _ _) | (obtain ⟨_, _, rfl, _⟩ := h; exact put_defers _ _ _) | (obtain ⟨rfl, _⟩ := h; exact put_defers _ _ _)))
      rintro a' w' ⟨rfl, rfl⟩
      match vs, C.len, hn, e1, e2, C.now with
      | [vb, vp, vq], _, hn, e1, e2, hG =>
        simp only [List.getElem?_cons_zero, List.getElem?_cons_succ, Option.some.injEq] at hn e1 e2
        subst hn e1 e2
        exact ⟨_, rfl, trivial, GrowS.row hG⟩
    · refine .inr ⟨1, rfl, h1, fun a w vs C hn => ?_⟩
      have e2 := C.most 2 iq rfl h2
      have e0 := C.link 0 ib db rfl h3
      match vs, C.len, hn, e0, e2, C.now, C with
      | [vb, vp, vq], _, hn, e0, e2, hG, C =>
        have e2' := e2
        simp only [List.getElem?_cons_zero, List.getElem?_cons_succ, Option.some.injEq] at hn e0 e2'
        subst hn e0 e2'
        obtain ⟨g1, h5, h6⟩ := hG.b1 rfl _ rfl
        refine Oper.wpIn_mono ?_ (wpIn_of (h4 a w g1 (mk C e2) (hG.p0 rfl).1 h5 h6) (by rintro a' w' h; first | (obtain ⟨v, rfl, _⟩ := h; exact put_defers _ _ _) | (obtain ⟨_, _, rfl, _⟩ := h; exact put_defers _ _ _) | (obtain ⟨rfl, _⟩ := h; exact put_defers _ _ _)))
        rintro a' w' ⟨ra', rc', rfl, h7, h8⟩
        exact ⟨_, rfl, trivial, GrowS.app hG h7 h8 hS⟩
    · refine .inr ⟨2, rfl, h1, fun a w vs C hn => ?_⟩
      have e1 := C.link 1 ip dp rfl h2
      obtain ⟨vb', e0⟩ := C.done 0 ib rfl h3
      match vs, C.len, hn, e0, e1, C.now, C with
      | [vb, vp, vq], _, hn, e0, e1, hG, C =>
        have hn' := hn
        simp only [List.getElem?_cons_zero, List.getElem?_cons_succ, Option.some.injEq] at hn' e0 e1
        subst hn' e0 e1
        obtain ⟨ra', rc', h5, _⟩ := hG.p1 _ rfl
        refine Oper.wpIn_mono ?_ (wpIn_of (h4 a w ra' rc' (mk C hn) h5) (by rintro a' w' h; first | (obtain ⟨v, rfl, _⟩ := h; exact put_defers _ _ _) | (obtain ⟨_, _, rfl, _⟩ := h; exact put_defers _ _ _) | (obtain ⟨rfl, _⟩ := h; exact put_defers _ _ _)))
        rintro a' w' ⟨v, rfl, h7, h8⟩
        rw [← h5] at h8
        exact ⟨v, rfl, trivial, GrowS.store hG h7 h8 hS⟩

theorem WC.grow {id : Nat} {dr : Bool} {Q : Exit → Act → World → Prop} {n : Fr} {K : Known} {w : World} (l : List (Bool × Value)) (K0 : Known) {S : Nat → Prop} {e size : Nat} {ra : Option Addr} {rc ln : Nat} {xs : List Value} {g ty : Nat} {cs : Array Value} (ix m : Nat) (news : List Value) (ib ip iq : Nat)
    (hd : ([ib, ip, iq]).Nodup) (hin : (([ib, ip, iq]).all fun c => Nat.blt c ops.size) = true) (hS : ¬ S g) (ho : Own w S e size ra rc ln xs) (hBk : Blk w g ty cs)
    (hs : subK K0 K) (hclear : clearB ops K0 = true) (hm : P.follows .mixedOrders = true) (hB : opsB ops n.n = true)
    (h : SoundR P ops Q l n K0 w S e size ra rc ln xs g ty cs ix m news ib ip iq 0 ops.toList)
    (hQ : ∀ (a : Act) (w' : World) (ra' : Option Addr) (rc' : Nat), Kn n K0 a → Chg (fun b => S b ∨ b = g) w w' → Own w' S e size ra' rc' (ln + m) (xs ++ news) → Blk w' g ty (cs.setIfInBounds ix (.slice ra' (ln + m) rc')) → (∀ i d, (ops[i]?).bind (·.dst) = some d → ([ib, ip, iq]).contains i = false → valR l i (a.tmps.getD d undef)) → Q .normal a w') :
    WC P n K w (.region id ops dr) Q := by
  refine WC.gen [ib, ip, iq] (fun i v _ => valR l i v) (fun _ _ => True) (GrowG w S e size ra rc ln xs g ty cs ix m news) K0 hs hclear hm hB hd hin (fun _ _ _ _ h _ => h) ?_ (h.gen hd hS) (fun a w' vs hk hlen hall hG hu _ => ?_)
  · cases dr with
    | true => exact GrowS.start ho hBk (Below.refl _ _).drew
    | false => exact GrowS.start ho hBk (Below.refl _ _)
  · obtain ⟨v1, hv1⟩ := hall 1 (by simp)
    obtain ⟨v2, hv2⟩ := hall 2 (by simp)
    match vs, hlen, hv1, hv2, hG with
    | [vb, vp, vq], _, hv1, hv2, hG =>
      simp only [List.getElem?_cons_zero, List.getElem?_cons_succ, Option.some.injEq] at hv1 hv2
      subst hv1 hv2
      obtain ⟨ra', rc', rfl, h2, h3⟩ := hG.p1 _ rfl
      exact hQ a w' ra' rc' hk hG.chg h2 (h3 (by simp)) hu
end

end Go.Proofs.Ytnblndmjjokepaa
