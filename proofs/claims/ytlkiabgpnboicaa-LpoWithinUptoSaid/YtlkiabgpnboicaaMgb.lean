/- Operations, one law a kind and type. -/
import Derived.Test.YtlkiabgpnboicaaMga
import Derived.Sort.Walk0
import Derived.WalkKit

/- 'box = append(box, x)' in a region that draws its order: the row of one, the append to a row of the call's own, the store into a box, everything else only reads. -/
namespace Go.Proofs.Ytlkiabgpnboicaa
open Go.RowKit Go

def valR (l : List (Bool × Value)) (i : Nat) (v : Value) : Prop := ((l.getD i (true, undef)).1 = true → v = (l.getD i (true, undef)).2) ∧ ((l.getD i (true, undef)).1 = false → v = undef)
theorem valVal {l : List (Bool × Value)} {i : Nat} {v x : Value} {β : Bool} (h : valR l i v) (e : l.getD i (true, undef) = (β, x)) (hβ : β = true) : v = x := by
  have := h.1 (by rw [e]; exact hβ)
  rw [e] at this
  exact this

theorem Chg.refl (S : Nat → Prop) (w : World) : Chg S w w := ⟨rfl, rfl, rfl, Nat.le_refl _, fun _ _ _ => rfl⟩
theorem Chg.trans {S : Nat → Prop} {a b c : World} (h : Chg S a b) (k : Chg S b c) : Chg S a c :=
  ⟨k.os.trans h.os, k.tape.trans h.tape, k.output.trans h.output, Nat.le_trans h.size k.size, fun i hi hS => (k.block i (Nat.lt_of_lt_of_le hi h.size) hS).trans (h.block i hi hS)⟩
theorem Chg.trans2 {S S2 : Nat → Prop} {a b c : World} (h : Chg S a b) (k : Chg S2 b c) (hS : ∀ i, i < a.heap.size → S2 i → S i) : Chg S a c :=
  ⟨k.os.trans h.os, k.tape.trans h.tape, k.output.trans h.output, Nat.le_trans h.size k.size, fun i hi hn => (k.block i (Nat.lt_of_lt_of_le hi h.size) (fun e => hn (hS i hi e))).trans (h.block i hi hn)⟩
theorem Chg.mono {S S' : Nat → Prop} {a b : World} (h : Chg S a b) (hS : ∀ k, S k → S' k) : Chg S' a b := ⟨h.os, h.tape, h.output, h.size, fun i hi hn => h.block i hi (fun e => hn (hS i e))⟩
theorem Chg.ofBelow {S : Nat → Prop} {a b : World} (h : Below a.heap.size a b) : Chg S a b := ⟨h.os, h.tape, h.output, h.size, fun i hi _ => h.block i hi⟩
theorem Chg.ofUpd {S : Nat → Prop} {g : Nat} {a b : World} (h : Upd g a b) (hS : S g) : Chg S a b := ⟨h.os, h.tape, h.output, Nat.le_of_eq h.size.symm, fun i _ hn => h.block i (fun e => hn (e ▸ hS))⟩
theorem chg_cell {S : Nat → Prop} {w w' : World} {b o : Nat} {v : Value} (k : Chg S w w') (hS : ¬ S b) (h : w.cell? ⟨b, o, none⟩ = some v) : w'.cell? ⟨b, o, none⟩ = some v := by
  have hb := World.block_lt_of_cell? _ _ h
  unfold World.cell? at h ⊢
  have e := k.block b hb hS
  dsimp only at h ⊢
  rw [e]; exact h

theorem chg_old {S : Nat → Prop} {w0 w w' : World} {p : Addr} {v : Value} (hb : Below w0.heap.size w0 w) (k : Chg S w w') (hS : ∀ b, b < w0.heap.size → ¬ S b) (h : w0.cell? p = some v) : w'.cell? p = some v :=
  bkeeps (chg_below hb k hS) _ _ h

section
variable {w0 w w' : World} {S : Nat → Prop} {e size n rc m g ty i : Nat} {ra : Option Addr} {xs : List Value} {cs : Array Value} {N : List Value → Prop} {vb vp vq : Option Value}

/-- What holds while the three are carried out. -/
structure GrowS (w0 : World) (S : Nat → Prop) (e size : Nat) (ra : Option Addr) (rc n : Nat) (xs : List Value) (g ty : Nat) (cs : Array Value) (i m : Nat) (news : List Value) (vb vp vq : Option Value) (w : World) : Prop where
  chg : Chg (fun b => S b ∨ b = g) w0 w
  q0 : vq = none → Chg S w0 w ∧ Blk w g ty cs
  p0 : vp = none → Own w S e size ra rc n xs ∧ vq = none
  b1 : vp = none → ∀ v, vb = some v → ∃ g1, v = .slice (some ⟨g1, 0, none⟩) m m ∧ Blk w g1 e news.toArray
  p1 : ∀ v, vp = some v → ∃ ra' rc', v = .slice ra' (n + m) rc' ∧ Own w S e size ra' rc' (n + m) (xs ++ news) ∧ (vq ≠ none → Blk w g ty (cs.setIfInBounds i v))

variable {news : List Value}
def GrowG (w0 : World) (S : Nat → Prop) (e size : Nat) (ra : Option Addr) (rc n : Nat) (xs : List Value) (g ty : Nat) (cs : Array Value) (i m : Nat) (news : List Value) : List (Option Value) → World → Prop
  | [vb, vp, vq], w => GrowS w0 S e size ra rc n xs g ty cs i m news vb vp vq w
  | _, _ => False

theorem GrowS.below (h : GrowS w0 S e size ra rc n xs g ty cs i m news vb vp vq w) (hb : Below w.heap.size w w') : GrowS w0 S e size ra rc n xs g ty cs i m news vb vp vq w' :=
  ⟨h.chg.trans (.ofBelow hb), fun e => ⟨(h.q0 e).1.trans (.ofBelow hb), (h.q0 e).2.below hb⟩, fun e => ⟨(h.p0 e).1.below hb, (h.p0 e).2⟩, fun e v hv => by
    obtain ⟨g1, h1, h2⟩ := h.b1 e v hv; exact ⟨g1, h1, h2.below hb⟩, fun v hv => by
    obtain ⟨ra', rc', h1, h2, h3⟩ := h.p1 v hv; exact ⟨ra', rc', h1, h2.below hb, fun e => (h3 e).below hb⟩⟩
theorem GrowG.below {vs : List (Option Value)} (h : GrowG w0 S e size ra rc n xs g ty cs i m news vs w) (hb : Below w.heap.size w w') : GrowG w0 S e size ra rc n xs g ty cs i m news vs w' := by
  match vs, h with
  | [vb, vp, vq], h => exact GrowS.below h hb
theorem GrowS.start (ho : Own w0 S e size ra rc n xs) (hB : Blk w0 g ty cs) (hb : Below w0.heap.size w0 w) : GrowS w0 S e size ra rc n xs g ty cs i m news none none none w :=
  ⟨.ofBelow hb, fun _ => ⟨.ofBelow hb, hB.below hb⟩, fun _ => ⟨ho.below hb, rfl⟩, fun _ v hv => (by cases hv), fun v hv => (by cases hv)⟩
theorem GrowS.row (h : GrowS w0 S e size ra rc n xs g ty cs i m news none none none w) : GrowS w0 S e size ra rc n xs g ty cs i m news (some (.slice (some ⟨w.heap.size, 0, none⟩) m m)) none none (w.alloc (.cells news.toArray e)) := by
  have h' := h.below (balloc w (.cells news.toArray e))
  exact ⟨h'.chg, h'.q0, h'.p0, fun _ v hv => ⟨_, (Option.some.inj hv).symm, Blk.new' rfl⟩, h'.p1⟩
theorem GrowS.app {ra' : Option Addr} {rc' : Nat} {x : Value} (h : GrowS w0 S e size ra rc n xs g ty cs i m news (some x) none none w) (ho : Own w' S e size ra' rc' (n + m) (xs ++ news)) (hc : Chg S w w') (hg : ¬ S g) : GrowS w0 S e size ra rc n xs g ty cs i m news (some x) (some (.slice ra' (n + m) rc')) none w' := by
  refine ⟨h.chg.trans (hc.mono fun _ h => .inl h), fun _ => ⟨(h.q0 rfl).1.trans hc, chg_blk (h.q0 rfl).2 hc hg⟩, (fun e => by cases e), (fun e => by cases e), fun v hv => ⟨ra', rc', (Option.some.inj hv).symm, ho, fun e => absurd rfl e⟩⟩
theorem GrowS.store {x y q : Value} (h : GrowS w0 S e size ra rc n xs g ty cs i m news (some x) (some y) none w) (hu : Upd g w w') (hB : Blk w' g ty (cs.setIfInBounds i y)) (hg : ¬ S g) : GrowS w0 S e size ra rc n xs g ty cs i m news (some x) (some y) (some q) w' := by
  refine ⟨h.chg.trans (.ofUpd hu (.inr rfl)), (fun e => by cases e), (fun e => by cases e), (fun e => by cases e), fun v hv => ?_⟩
  obtain ⟨ra', rc', h1, h2, _⟩ := h.p1 v hv
  obtain rfl := Option.some.inj hv
  exact ⟨ra', rc', h1, h2.upd hu hg, fun _ => hB⟩
end

section
variable {P : Program} {ops : Array Oper}
/-- What an operation that only reads finds. -/
structure CtxR (ops : Array Oper) (l : List (Bool × Value)) (chain : List Nat) (n : Nat) (K : Known) (w0 : World) (S : Nat → Prop) (g ty : Nat) (cs : Array Value) (o : Oper) (a : Act) (w : World) : Prop where
  chg : Chg S w0 w
  blk : Blk w g ty cs
  kn : Kn n K a
  dep : ∀ j d, depB ops o j d = true → chain.contains j = false → valR l j (a.tmps.getD d undef)

def SoundR (P : Program) (ops : Array Oper) (Q : Exit → Act → World → Prop) (l : List (Bool × Value)) (n : Nat) (K : Known) (w0 : World) (S : Nat → Prop) (e size : Nat) (ra : Option Addr) (rc ln : Nat) (xs : List Value) (g ty : Nat) (cs : Array Value) (ix m : Nat) (news : List Value) (ib ip iq : Nat) : Nat → List Oper → Prop
  | _, [] => True
  | i, o :: r => ((∃ β, [ib, ip, iq].contains i = false ∧ afterB ops iq i = true ∧ GuardIs (fun i v _ => valR l i v) o β ∧ (∀ gg b, o.guard = some (gg, b) → [ib, ip, iq].contains gg = false) ∧ (β = false → valR l i undef) ∧
      (β = true → ∀ a w, CtxR ops l [ib, ip, iq] n K w0 S g ty cs o a w → o.wp P a w (fun a' w' => ∃ v, a' = Act.put a o.dst v ∧ w' = w ∧ valR l i v) Q)) ∨
    (i = ib ∧ o.guard = none ∧ afterB ops ip ib = true ∧ afterB ops iq ib = true ∧ ∀ a w, CtxR ops l [ib, ip, iq] n K w0 S g ty cs o a w →
      (o.wp P a w (fun a' w' => a' = Act.put a o.dst (.slice (some ⟨w.heap.size, 0, none⟩) m m) ∧ w' = w.alloc (.cells news.toArray e)) Q)) ∨
    (i = ip ∧ o.guard = none ∧ afterB ops iq ip = true ∧ (∃ db, depB ops o ib db = true ∧ ∀ a w g1, CtxR ops l [ib, ip, iq] n K w0 S g ty cs o a w → Own w S e size ra rc ln xs → a.tmps.getD db undef = .slice (some ⟨g1, 0, none⟩) m m → Blk w g1 e news.toArray →
      (o.wp P a w (fun a' w' => ∃ ra' rc', a' = Act.put a o.dst (.slice ra' (ln + m) rc') ∧ Own w' S e size ra' rc' (ln + m) (xs ++ news) ∧ Chg S w w') Q))) ∨
    (i = iq ∧ o.guard = none ∧ (∃ dp, depB ops o ip dp = true ∧ (o.after.any (fun e => e.on == ib && Region.binds .any e)) = true ∧ ∀ a w ra' rc', CtxR ops l [ib, ip, iq] n K w0 S g ty cs o a w → a.tmps.getD dp undef = .slice ra' (ln + m) rc' →
      (o.wp P a w (fun a' w' => ∃ v, a' = Act.put a o.dst v ∧ Upd g w w' ∧ Blk w' g ty (cs.setIfInBounds ix (.slice ra' (ln + m) rc'))) Q)))) ∧ SoundR P ops Q l n K w0 S e size ra rc ln xs g ty cs ix m news ib ip iq (i + 1) r

theorem SoundR.gen {Q : Exit → Act → World → Prop} {l : List (Bool × Value)} {n : Nat} {K : Known} {w0 : World} {S : Nat → Prop} {e size : Nat} {ra : Option Addr} {rc ln : Nat} {xs : List Value} {g ty : Nat} {cs : Array Value} {ix m : Nat} {news : List Value} {ib ip iq : Nat} (hd : [ib, ip, iq].Nodup) (hS : ¬ S g) : ∀ {lo : List Oper} {i : Nat}, SoundR P ops Q l n K w0 S e size ra rc ln xs g ty cs ix m news ib ip iq i lo →
    SoundFromG P ops Q [ib, ip, iq] (fun i v _ => valR l i v) (fun _ _ => True) (GrowG w0 S e size ra rc ln xs g ty cs ix m news) n K i lo
  | [], _, _ => trivial
  | o :: r, i, ⟨h, hr⟩ => by
    refine ⟨?_, hr.gen hd hS⟩
    have mk : ∀ {a : Act} {w : World} {vs : List (Option Value)} (_ : CtxG ops [ib, ip, iq] (fun i v _ => valR l i v) (GrowG w0 S e size ra rc ln xs g ty cs ix m news) n K i o a w vs), vs[2]? = some none → CtxR ops l [ib, ip, iq] n K w0 S g ty cs o a w := by
      intro a w vs C h2
      match vs, C.len with
      | [vb, vp, vq], _ =>
        have hq : vq = none := by simpa using h2
        have := C.now.q0 hq
        exact ⟨this.1, this.2, C.kn, C.dep⟩
    rcases h with ⟨β, h1, h2, h3, h4, h5, h6⟩ | ⟨rfl, h1, h2, h2', h3⟩ | ⟨rfl, h1, h2, db, h3, h4⟩ | ⟨rfl, h1, dp, h2, h3, h4⟩
    · refine .inl ⟨h1, β, h3, h4, fun e w => h5 e, fun hβ a w vs C => ?_⟩
      refine Oper.wp_mono ?_ (h6 hβ a w (mk C (C.most 2 iq rfl h2)))
      rintro a' w' ⟨v, rfl, rfl, hv⟩
      exact ⟨v, rfl, trivial, C.now, hv⟩
    · refine .inr ⟨0, rfl, h1, fun a w vs C hn => ?_⟩
      have e1 := C.most 1 ip rfl h2
      have e2 := C.most 2 iq rfl h2'
      refine Oper.wp_mono ?_ (h3 a w (mk C e2))
      rintro a' w' ⟨rfl, rfl⟩
      match vs, C.len, hn, e1, e2, C.now with
      | [vb, vp, vq], _, hn, e1, e2, hG =>
        simp only [List.getElem?_cons_zero, List.getElem?_cons_succ, Option.some.injEq] at hn e1 e2
        subst hn e1 e2
        exact ⟨_, rfl, trivial, GrowS.row hG⟩
    · refine .inr ⟨1, rfl, h1, fun a w vs C hn => ?_⟩
      have e2 := C.most 2 iq rfl h2
      have e0 := C.link 0 ib db rfl h3
      match vs, C.len, hn, e0, e2, C.now, C with
      | [vb, vp, vq], _, hn, e0, e2, hG, C =>
        have e2' := e2
        simp only [List.getElem?_cons_zero, List.getElem?_cons_succ, Option.some.injEq] at hn e0 e2'
        subst hn e0 e2'
        obtain ⟨g1, h5, h6⟩ := hG.b1 rfl _ rfl
        refine Oper.wp_mono ?_ (h4 a w g1 (mk C e2) (hG.p0 rfl).1 h5 h6)
        rintro a' w' ⟨ra', rc', rfl, h7, h8⟩
        exact ⟨_, rfl, trivial, GrowS.app hG h7 h8 hS⟩
    · refine .inr ⟨2, rfl, h1, fun a w vs C hn => ?_⟩
      have e1 := C.link 1 ip dp rfl h2
      obtain ⟨vb', e0⟩ := C.done 0 ib rfl h3
      match vs, C.len, hn, e0, e1, C.now, C with
      | [vb, vp, vq], _, hn, e0, e1, hG, C =>
        have hn' := hn
        simp only [List.getElem?_cons_zero, List.getElem?_cons_succ, Option.some.injEq] at hn' e0 e1
        subst hn' e0 e1
        obtain ⟨ra', rc', h5, _⟩ := hG.p1 _ rfl
        refine Oper.wp_mono ?_ (h4 a w ra' rc' (mk C hn) h5)
        rintro a' w' ⟨v, rfl, h7, h8⟩
        rw [← h5] at h8
        exact ⟨v, rfl, trivial, GrowS.store hG h7 h8 hS⟩

theorem WC.grow {id : Nat} {dr : Bool} {Q : Exit → Act → World → Prop} {n : Nat} {K : Known} {w : World} (l : List (Bool × Value)) (K0 : Known) {S : Nat → Prop} {e size : Nat} {ra : Option Addr} {rc ln : Nat} {xs : List Value} {g ty : Nat} {cs : Array Value} (ix m : Nat) (news : List Value) (ib ip iq : Nat)
    (hd : ([ib, ip, iq]).Nodup) (hin : (([ib, ip, iq]).all fun c => Nat.blt c ops.size) = true) (hS : ¬ S g) (ho : Own w S e size ra rc ln xs) (hBk : Blk w g ty cs)
    (hs : subK K0 K) (hclear : clearB ops K0 = true) (hm : P.follows .mixedOrders = true) (hB : opsB ops n = true)
    (h : SoundR P ops Q l n K0 w S e size ra rc ln xs g ty cs ix m news ib ip iq 0 ops.toList)
    (hQ : ∀ (a : Act) (w' : World) (ra' : Option Addr) (rc' : Nat), Kn n K0 a → Chg (fun b => S b ∨ b = g) w w' → Own w' S e size ra' rc' (ln + m) (xs ++ news) → Blk w' g ty (cs.setIfInBounds ix (.slice ra' (ln + m) rc')) → (∀ i d, (ops[i]?).bind (·.dst) = some d → ([ib, ip, iq]).contains i = false → valR l i (a.tmps.getD d undef)) → Q .normal a w') :
    WC P n K w (.region id ops dr) Q := by
  refine WC.gen [ib, ip, iq] (fun i v _ => valR l i v) (fun _ _ => True) (GrowG w S e size ra rc ln xs g ty cs ix m news) K0 hs hclear hm hB hd hin (fun _ _ _ _ h _ => h) ?_ (h.gen hd hS) (fun a w' vs hk hlen hall hG hu _ => ?_)
  · cases dr with
    | true => exact GrowS.start ho hBk (Below.refl _ _).drew
    | false => exact GrowS.start ho hBk (Below.refl _ _)
  · obtain ⟨v1, hv1⟩ := hall 1 (by simp)
    obtain ⟨v2, hv2⟩ := hall 2 (by simp)
    match vs, hlen, hv1, hv2, hG with
    | [vb, vp, vq], _, hv1, hv2, hG =>
      simp only [List.getElem?_cons_zero, List.getElem?_cons_succ, Option.some.injEq] at hv1 hv2
      subst hv1 hv2
      obtain ⟨ra', rc', rfl, h2, h3⟩ := hG.p1 _ rfl
      exact hQ a w' ra' rc' hk hG.chg h2 (h3 (by simp)) hu
end

end Go.Proofs.Ytlkiabgpnboicaa

/- A term laid out in a row of its parts: how it lies in memory while it grows. -/
namespace Go.Proofs.Ytlkiabgpnboicaa
open Go.RowKit Go

def natV (n : Nat) : Value := .int .i64 n

/-- The numbers lie at X, in a block that N holds of. -/
def ArgRow (w : World) (N : Nat → Prop) (X : Option Addr) (args : List Nat) : Prop :=
  args = [] ∨ ∃ g, X = some ⟨g, 0, none⟩ ∧ N g ∧ g < w.heap.size ∧ ∀ j, j < args.length → w.cell? ⟨g, j, none⟩ = some (natV (args.getD j 0))
/-- The cells are those of the parts. -/
def NdsAt (w0 w : World) (N : Nat → Prop) : List Nd → List Value → Prop
  | [], xs => xs = []
  | d :: r, xs => ∃ (A : Option Addr) (C : Nat) (X : Option Addr) (Z : Nat) (ys : List Value), xs = .int .i64 d.t.f :: .slice A d.t.args.length C :: .slice X d.args.length Z :: ys ∧
      IsT w0 d.t (.agg #[.int .i64 d.t.f, .slice A d.t.args.length C]) ∧ ArgRow w N X d.args ∧ NdsAt w0 w N r ys

section
variable {w0 w w' : World} {N N' S : Nat → Prop}
theorem ArgRow.keep {X : Option Addr} {args : List Nat} (h : ArgRow w N X args) (hc : Chg S w w') (hN : ∀ g, g < w.heap.size → N g → ¬ S g ∧ N' g) : ArgRow w' N' X args := by
  rcases h with h | ⟨g, h1, h2, h3, h4⟩
  · exact .inl h
  · have := hN g h3 h2
    exact .inr ⟨g, h1, this.2, Nat.lt_of_lt_of_le h3 hc.size, fun j hj => chg_cell hc this.1 (h4 j hj)⟩
theorem NdsAt.keep : ∀ {l : List Nd} {xs : List Value}, NdsAt w0 w N l xs → Chg S w w' → (∀ g, g < w.heap.size → N g → ¬ S g ∧ N' g) → NdsAt w0 w' N' l xs
  | [], _, h, _, _ => h
  | _ :: _, _, ⟨A, C, X, Z, ys, h1, h2, h3, h4⟩, hc, hN => ⟨A, C, X, Z, ys, h1, h2, h3.keep hc hN, NdsAt.keep h4 hc hN⟩
theorem NdsAt.append : ∀ {l r : List Nd} {xs ys : List Value}, NdsAt w0 w N l xs → NdsAt w0 w N r ys → NdsAt w0 w N (l ++ r) (xs ++ ys)
  | [], _, _, _, h, k => by
    have h : _ = [] := h
    subst h; exact k
  | _ :: _, _, _, _, ⟨A, C, X, Z, zs, h1, h2, h3, h4⟩, k => ⟨A, C, X, Z, zs ++ _, by rw [h1]; rfl, h2, h3, NdsAt.append h4 k⟩
theorem NdsAt.len : ∀ {l : List Nd} {xs : List Value}, NdsAt w0 w N l xs → xs.length = l.length * 3
  | [], _, h => by have h : _ = [] := h; subst h; rfl
  | _ :: r, _, ⟨_, _, _, _, ys, h1, _, _, h4⟩ => by rw [h1]; have := NdsAt.len h4; simp only [List.length_cons]; omega
theorem NdsAt.at_ : ∀ {l : List Nd} {xs : List Value}, NdsAt w0 w N l xs → ∀ k, k < l.length →
    ∃ (A : Option Addr) (C : Nat) (X : Option Addr) (Z : Nat), xs[k * 3]? = some (.int .i64 (ndget l k).t.f) ∧ xs[k * 3 + 1]? = some (.slice A (ndget l k).t.args.length C) ∧ xs[k * 3 + 2]? = some (.slice X (ndget l k).args.length Z) ∧
      IsT w0 (ndget l k).t (.agg #[.int .i64 (ndget l k).t.f, .slice A (ndget l k).t.args.length C]) ∧ ArgRow w N X (ndget l k).args
  | [], _, _, k, hk => by simp at hk
  | d :: r, _, ⟨A, C, X, Z, ys, h1, h2, h3, h4⟩, k, hk => by
    cases k with
    | zero => exact ⟨A, C, X, Z, by rw [h1]; rfl, by rw [h1]; rfl, by rw [h1]; rfl, h2, h3⟩
    | succ k =>
      obtain ⟨A', C', X', Z', e1, e2, e3, e4, e5⟩ := NdsAt.at_ h4 k (by simpa using hk)
      have e : ndget (d :: r) (k + 1) = ndget r k := by simp [ndget]
      rw [e]
      refine ⟨A', C', X', Z', ?_, ?_, ?_, e4, e5⟩
      · rw [h1, show (k + 1) * 3 = k * 3 + 3 by omega]; exact e1
      · rw [h1, show (k + 1) * 3 + 1 = k * 3 + 1 + 3 by omega]; exact e2
      · rw [h1, show (k + 1) * 3 + 2 = k * 3 + 2 + 3 by omega]; exact e3

variable {e size : Nat} {ra : Option Addr} {rc n b c : Nat} {xs : List Value}
/-- A row that is not empty lies in one block. -/
theorem own_pick (h : Own w S e size ra rc n xs) (hn : 0 < n) : ∃ b, S b ∧ ra = some ⟨b, 0, none⟩ ∧ b < w.heap.size ∧ Own w (fun k => k = b) e size (some ⟨b, 0, none⟩) rc n xs := by
  rcases h.1.2 with ⟨_, h0⟩ | ⟨g, cap, cur, e1, h1, hb, r⟩
  · omega
  · simp only [Value.slice.injEq, true_and] at e1
    obtain ⟨rfl, rfl⟩ := e1
    exact ⟨g, h.2 g rfl, rfl, (Array.getElem?_eq_some_iff.1 hb).1, h.1, fun k hk => (Option.some.inj hk).symm⟩
theorem own_cell (h : Own w S e size (some ⟨b, 0, none⟩) rc n xs) {i : Nat} {v : Value} (hi : xs[i]? = some v) : w.cell? ⟨b, i, none⟩ = some v := by
  have := h.1.cells (g := b) rfl i v hi
  rwa [add_plain2, Nat.zero_add] at this
/-- A cell of such a row, written. -/
theorem own_set (h : Own w S e size (some ⟨b, 0, none⟩) rc n xs) (i : Nat) (v : Value) : Own (w.setCell ⟨b, i, none⟩ v) S e size (some ⟨b, 0, none⟩) rc n (xs.set i v) := by
  refine ⟨⟨by rw [List.length_set]; exact h.1.1, ?_⟩, h.2⟩
  rcases h.1.2 with ⟨e1, _⟩ | ⟨g, cap, cur, e1, h1, hb, h2, h3, h4, h5⟩
  · cases e1
  · simp only [Value.slice.injEq, Option.some.injEq, Addr.mk.injEq, and_true, true_and] at e1
    obtain ⟨rfl, rfl⟩ := e1
    have hg := (Array.getElem?_eq_some_iff.1 hb).1
    refine .inr ⟨b, rc, cur.setIfInBounds i v, rfl, h1, ?_, h2, h3, by simpa using h4, ?_⟩
    · have hB : Blk w b e cur := hb
      exact hB.set_ i v
    · rw [← h5, Array.toList_setIfInBounds, List.take_set]
theorem own_mono (h : Own w S e size ra rc n xs) (hS : ∀ b, S b → N b) : Own w N e size ra rc n xs := ⟨h.1, fun b hb => hS b (h.2 b hb)⟩
theorem own_len (h : Own w S e size ra rc n xs) : xs.length = n * size := h.1.1
theorem own_upd (_ : Own w S e size (some ⟨b, 0, none⟩) rc n xs) (i : Nat) (v : Value) : Upd b w (w.setCell ⟨b, i, none⟩ v) := Upd.at_ _ _ _ _
end

/-- The state in the middle of a part: q of its arguments are laid out, m of them are numbered. -/
structure LaySt (E : TypeId) (w0 : World) (sz : Nat) (n : Nat) (xs : List Value) (f : Int) (a : Option Addr) (c : Nat) (l : List T) (bm rc : Nat) (xa : Option Addr) (xz ba la : Nat) (ys : List Value) (q m : Nat) (w : World) : Prop where
  main : Own w (fun g => g = bm) E 3 (some ⟨bm, 0, none⟩) rc (n + 1 + T.sizeL (l.take q)) (xs ++ [.int .i64 f, .slice a l.length c, .slice xa m xz] ++ ys)
  args : Own w (fun g => g = ba ∧ g < la) 3 1 xa xz m ((kids (l.take m) (n + 1)).map natV)
  nds : NdsAt w0 w (fun g => g ≠ bm ∧ ¬ (g = ba ∧ g < la) ∧ sz ≤ g) (layL (l.take q) (n + 1)) ys
  ne : ¬ (bm = ba ∧ bm < la)
  lt : bm < w.heap.size
  hla : la ≤ w.heap.size
  hba : ba < la → sz ≤ ba
/-- What laying out a term leaves. -/
def LayP (E : TypeId) (w0 w : World) (bm lo n : Nat) (xs : List Value) (t : T) (v' : Value) (w' : World) : Prop :=
  ∃ (bm' rc' : Nat) (ys : List Value), v' = .slice (some ⟨bm', 0, none⟩) (n + t.size) rc' ∧ Own w' (fun g => g = bm') E 3 (some ⟨bm', 0, none⟩) rc' (n + t.size) (xs ++ ys) ∧ NdsAt w0 w' (fun g => g ≠ bm' ∧ w.heap.size ≤ g) (lay t n) ys ∧ bm' < w'.heap.size ∧
    Chg (fun k => k = bm ∧ k < lo) w w' ∧ ((bm' = bm ∧ bm' < lo) ∨ w.heap.size ≤ bm')

theorem lay_cell {xs ys : List Value} {u v z : Value} {n : Nat} (hx : xs.length = n * 3) : (xs ++ [u, v, z] ++ ys)[0 + n * 3 + 2]? = some z := by
  rw [List.append_assoc, List.getElem?_append_right (by omega), show 0 + n * 3 + 2 - xs.length = 2 by omega]; rfl
theorem lay_set {xs ys : List Value} {u v z z' : Value} {n : Nat} (hx : xs.length = n * 3) : (xs ++ [u, v, z] ++ ys).set (0 + n * 3 + 2) z' = xs ++ [u, v, z'] ++ ys := by
  rw [List.append_assoc, List.append_assoc, List.set_append_right _ _ (by omega), show 0 + n * 3 + 2 - xs.length = 2 by omega]; rfl
theorem sizeL_take_t {l : List T} {k : Nat} (h : k < l.length) : T.sizeL (l.take (k + 1)) = T.sizeL (l.take k) + (tget l k).size := by rw [T.sizeL_take_succ l k h, tget_lt h]
theorem layL_take {l : List T} {k n : Nat} (h : k < l.length) : layL (l.take (k + 1)) n = layL (l.take k) n ++ lay (tget l k) (n + T.sizeL (l.take k)) := by
  rw [List.take_succ_eq_append_getElem h, layL_append, tget_lt h]; simp [layL]
theorem kids_take {l : List T} {k n : Nat} (h : k < l.length) : kids (l.take (k + 1)) n = kids (l.take k) n ++ [n + T.sizeL (l.take k)] := by
  rw [List.take_succ_eq_append_getElem h, kids_append]; simp [kids]

section
variable {E : TypeId} {w0 w w' w'' : World} {sz n : Nat} {xs : List Value} {f : Int} {a : Option Addr} {c : Nat} {l : List T} {bm rc : Nat} {xa : Option Addr} {xz ba la : Nat} {ys : List Value} {q m : Nat}
theorem LaySt.below (h : LaySt E w0 sz n xs f a c l bm rc xa xz ba la ys q m w) (hb : Below w.heap.size w w') : LaySt E w0 sz n xs f a c l bm rc xa xz ba la ys q m w' :=
  ⟨h.main.below hb, h.args.below hb, h.nds.keep (S := fun _ => False) (.ofBelow hb) (fun _ _ h => ⟨id, h⟩), h.ne, Nat.lt_of_lt_of_le h.lt hb.size, Nat.le_trans h.hla hb.size, h.hba⟩
/-- The first part is laid. -/
theorem LaySt.start (h : Own w (fun g => g = bm) E 3 (some ⟨bm, 0, none⟩) rc (n + 1) (xs ++ [.int .i64 f, .slice a l.length c, .slice none 0 0])) (hlt : bm < w.heap.size) : LaySt E w0 sz n xs f a c l bm rc none 0 0 0 [] 0 0 w :=
  ⟨by simpa [T.sizeL] using h, own_nil, rfl, by omega, hlt, Nat.zero_le _, fun h => by omega⟩
/-- One more argument is numbered. -/
theorem LaySt.app {ba' rc' v : Nat} (h : LaySt E w0 sz n xs f a c l bm rc xa xz ba la ys q m w) (hx : xs.length = n * 3) (hc : Chg (fun g => (g = ba ∧ g < la) ∨ g = w.heap.size) w w') (hsz : sz ≤ w.heap.size)
    (hA : Own w' (fun g => g = ba') 3 1 (some ⟨ba', 0, none⟩) rc' (m + 1) ((kids (l.take m) (n + 1)).map natV ++ [natV v])) (hS : (ba' = ba ∧ ba' < la) ∨ ba' = w.heap.size) (hb : ba' < w'.heap.size) (hv : v = n + 1 + T.sizeL (l.take m)) (hm : m < l.length)
    (hw : w'' = w'.setCell ⟨bm, 0 + n * 3 + 2, none⟩ (.slice (some ⟨ba', 0, none⟩) (m + 1) rc')) :
    LaySt E w0 sz n xs f a c l bm rc (some ⟨ba', 0, none⟩) rc' ba' (ba' + 1) ys q (m + 1) w'' := by
  subst hw
  have hlt := h.lt
  have hne := h.ne
  have hla := h.hla
  have hba := h.hba
  have hM := h.main.chg hc (fun b hb => by omega)
  have hM' := own_set hM (0 + n * 3 + 2) (.slice (some ⟨ba', 0, none⟩) (m + 1) rc')
  rw [lay_set hx] at hM'
  have hu := own_upd hM (0 + n * 3 + 2) (.slice (some ⟨ba', 0, none⟩) (m + 1) rc')
  have hN := h.nds.keep hc (N' := fun g => g ≠ bm ∧ ¬ (g = ba' ∧ g < ba' + 1) ∧ sz ≤ g) (fun g hg hn => ⟨by omega, by omega⟩)
  refine ⟨hM', ?_, hN.keep (S := fun g => g = bm) (.ofUpd hu rfl) (fun g _ hn => ⟨hn.1, hn⟩), by omega, by rw [hu.size]; exact Nat.lt_of_lt_of_le hlt hc.size, by rw [hu.size]; omega, fun _ => by omega⟩
  rw [kids_take hm, List.map_append, List.map_cons, List.map_nil, ← hv]
  exact own_mono (hA.upd hu (by omega)) (fun b hb => ⟨hb, by omega⟩)
/-- One more argument is laid out. -/
theorem LaySt.call {v' : Value} (h : LaySt E w0 sz n xs f a c l bm rc xa xz ba la ys q m w) (hsz : sz ≤ w.heap.size) (hq : q < l.length) (hP : LayP E w0 w bm (bm + 1) (n + 1 + T.sizeL (l.take q)) (xs ++ [.int .i64 f, .slice a l.length c, .slice xa m xz] ++ ys) (tget l q) v' w') :
    ∃ (bm' rc' : Nat) (ys' : List Value), v' = .slice (some ⟨bm', 0, none⟩) (n + 1 + T.sizeL (l.take (q + 1))) rc' ∧ LaySt E w0 sz n xs f a c l bm' rc' xa xz ba la ys' (q + 1) m w' ∧ Chg (fun g => g = bm) w w' ∧ (bm' = bm ∨ w.heap.size ≤ bm') := by
  obtain ⟨bm', rc', ys', rfl, h1, h2, h3, h4, h5⟩ := hP
  have hlt := h.lt
  have hne := h.ne
  have hla := h.hla
  have hba := h.hba
  have e : n + 1 + T.sizeL (l.take q) + (tget l q).size = n + 1 + T.sizeL (l.take (q + 1)) := by rw [sizeL_take_t hq, Nat.add_assoc]
  rw [e] at h1 ⊢
  refine ⟨bm', rc', ys ++ ys', rfl, ⟨by rw [← List.append_assoc]; exact h1, h.args.chg h4 (fun b hb => by omega), ?_, by omega, h3, Nat.le_trans hla h4.size, hba⟩, h4.mono (fun k hk => hk.1), by omega⟩
  rw [layL_take hq]
  refine NdsAt.append (h.nds.keep h4 (fun g hg hn => ⟨by omega, by omega⟩)) (h2.keep (S := fun _ => False) (.refl _ _) (fun g hg hn => ⟨id, ?_⟩))
  have hn1 : g ≠ bm' := hn.1
  have hn2 : w.heap.size ≤ g := hn.2
  exact ⟨hn1, by omega, by omega⟩
/-- All is laid out. -/
theorem LaySt.done {lo bm0 : Nat} (h : LaySt E w0 w.heap.size n xs f a c l bm rc xa xz ba la ys q m w') (hT : IsT w0 (.mk f l) (.agg #[.int .i64 f, .slice a l.length c])) (hq : l.length ≤ q) (hm : m = l.length) (hC : Chg (fun k => k = bm0 ∧ k < lo) w w') (hb : (bm = bm0 ∧ bm < lo) ∨ w.heap.size ≤ bm) :
    LayP E w0 w bm0 lo n xs (.mk f l) (.slice (some ⟨bm, 0, none⟩) (n + 1 + T.sizeL (l.take q)) rc) w' := by
  have hM := h.main
  have hN := h.nds
  have hA := h.args
  have hne := h.ne
  have hba := h.hba
  rw [List.take_of_length_le (by omega)] at hM hN hA ⊢
  have e : n + 1 + T.sizeL l = n + (T.mk f l).size := by rw [T.size]; omega
  rw [e] at hM ⊢
  subst hm
  refine ⟨bm, rc, [.int .i64 f, .slice a l.length c, .slice xa l.length xz] ++ ys, rfl, by rw [← List.append_assoc]; exact hM, ?_, h.lt, hC, hb⟩
  rw [lay]
  refine ⟨a, c, xa, xz, ys, by rw [kids_len]; rfl, hT, ?_, hN.keep (S := fun _ => False) (.refl _ _) (fun g _ hn => ⟨id, hn.1, hn.2.2⟩)⟩
  rcases Nat.eq_zero_or_pos l.length with h0 | h0
  · obtain rfl : l = [] := List.length_eq_zero_iff.1 h0
    exact .inl rfl
  · obtain ⟨b, hb1, hb2, hb3, hb4⟩ := own_pick hA h0
    refine .inr ⟨b, hb2, ⟨by omega, by omega⟩, hb3, fun j hj => own_cell hb4 ?_⟩
    have hj : j < (kids l (n + 1)).length := hj
    simp [List.getD_eq_getElem?_getD, List.getElem?_eq_getElem hj]
end

/-- The addresses in the middle of a part. -/
structure LayX where
  bm : Nat
  rc : Nat
  xa : Option Addr
  xz : Nat
  ba : Nat
  la : Nat
  ys : List Value
  k : Nat

end Go.Proofs.Ytlkiabgpnboicaa

/- Maps from pairs of numbers to truth values: what all their entries are. -/
namespace Go.Proofs.Ytlkiabgpnboicaa
open Go.RowKit Go.Sort Go

def prV (x : Nat × Nat) : Value := .agg #[.int .i64 x.1, .int .i64 x.2]

theorem eqPr (a b c d : Int) (w : World) : (binOp .eql 88 (.agg #[.int .i64 a, .int .i64 b]) (.agg #[.int .i64 c, .int .i64 d])).run Try.prog w = .ok (.bool (decide (a = c ∧ b = d))) w := by
  have hS : Try.prog.underlying 88 = some (.struct (Try.prog.fieldsOf 88)) := by kernel_rfl
  have hp : Try.prog.stoodInHeld 88 = false := by kernel_rfl
  have u2 := Try.underlying3
  rw [run_eql_struct, show (10000 : Nat) = 9999 + 1 from rfl, run_equalIn_agg w 9999 88 _ _ hS hp]
  simp only [Program.fieldsOf, Try.underlying88]
  go_simp
  by_cases h1 : a = c <;> by_cases h2 : b = d <;> simp_all

theorem run_equal_pr (x y : Nat × Nat) (w : World) : (Op.equal 88 (prV x) (prV y)).run Try.prog w = .ok (decide (x = y)) w := by
  have h := eqPr x.1 x.2 y.1 y.2 w
  have e : (binOp .eql 88 (prV x) (prV y)).run Try.prog w = ((Op.equal 88 (prV x) (prV y)).run Try.prog w).andThen fun b w' => .ok (.bool b) w' := by
    simp [binOp, prV]
  unfold prV at *
  rw [e] at h
  have hd : decide ((x.1 : Int) = y.1 ∧ (x.2 : Int) = y.2) = decide (x = y) := by
    rw [decide_eq_decide, Prod.ext_iff]; omega
  cases hr : (Op.equal 88 (.agg #[.int .i64 x.1, .int .i64 x.2]) (.agg #[.int .i64 y.1, .int .i64 y.2])).run Try.prog w with
  | ok b w' =>
    rw [hr] at h
    simp only [Result.andThen_ok, Result.ok.injEq, Value.bool.injEq] at h ⊢
    exact ⟨h.1.trans hd, h.2⟩
  | halt z w' => rw [hr] at h; simp [Result.andThen] at h

set_option maxRecDepth 20000 in
theorem run_checkKey_pr (b : Bool) (x : Nat × Nat) (w : World) : (Instr.checkKey b 10000 88 (prV x)).run Try.prog w = .ok () w := by
  have u0 := Try.underlying88
  have u2 := Try.underlying3
  rw [show (10000 : Nat) = 9998 + 1 + 1 from rfl]
  generalize (9998 : Nat) = n
  unfold prV
  simp [Instr.checkKey, run_underlying u0, run_underlying u2, go_sem]

theorem run_getObj_map (P : Program) (w : World) (r : Nat) (es : Array MapEntry) (clock : Nat) (h : w.heap[r]? = some (.map es clock)) : (getObj r).run P w = .ok (.map es clock) w := by
  simp [getObj, Sem.run, h]

/-- A map, of whose entries Q holds. -/
def PrMap (w : World) (r : Nat) (Q : Nat × Nat → Bool → Prop) : Prop := ∃ es clock, w.heap[r]? = some (.map es clock) ∧ ∀ e ∈ es.toList, ∃ x b, e.key = prV x ∧ e.val = .bool b ∧ Q x b

theorem run_findAsking_pr {Q : Nat × Nat → Bool → Prop} (x : Nat × Nat) : ∀ (es : List MapEntry) (i : Nat), (∀ e ∈ es, ∃ x b, e.key = prV x ∧ e.val = .bool b ∧ Q x b) →
    ∃ r, (∀ w, (Instr.findAsking 88 (prV x) es i).run Try.prog w = .ok r w) ∧ (r = none ∨ ∃ j b, r = some (j, .bool b) ∧ Q x b ∧ i ≤ j ∧ ∃ e, es[j - i]? = some e ∧ e.key = prV x)
  | [], i, _ => ⟨none, fun w => by simp [Instr.findAsking], .inl rfl⟩
  | e :: es, i, h => by
    obtain ⟨y, b, hk, hv, hq⟩ := h e (by simp)
    unfold Instr.findAsking
    simp only [Sem.run_bind, hk, run_equal_pr, Result.andThen_ok]
    by_cases hxy : x = y
    · subst hxy
      exact ⟨some (i, e.val), fun w => by simp, .inr ⟨i, b, by rw [hv], hq, Nat.le_refl _, e, by simp, hk⟩⟩
    · obtain ⟨r, h1, h2⟩ := run_findAsking_pr x es (i + 1) (fun e he => h e (by simp [he]))
      refine ⟨r, fun w => by simpa [hxy] using h1 w, ?_⟩
      rcases h2 with h2 | ⟨j, b, h2, h3, h4, e', h5, h6⟩
      · exact .inl h2
      · refine .inr ⟨j, b, h2, h3, by omega, e', ?_, h6⟩
        rw [show j - i = (j - (i + 1)) + 1 by omega]; simpa using h5

theorem run_findKey_pr {Q : Nat × Nat → Bool → Prop} (x : Nat × Nat) (es : List MapEntry) (h : ∀ e ∈ es, ∃ x b, e.key = prV x ∧ e.val = .bool b ∧ Q x b) :
    ∃ r, (∀ w, (Instr.findKey 88 (prV x) es).run Try.prog w = .ok r w) ∧ (r = none ∨ ∃ j b, r = some (j, .bool b) ∧ Q x b ∧ ∃ e, es[j]? = some e ∧ e.key = prV x) := by
  have u0 := Try.underlying88
  cases es with
  | nil => exact ⟨none, fun w => by simp [Instr.findKey, run_underlying u0, Instr.findNow], .inl rfl⟩
  | cons e es =>
    obtain ⟨r, h1, h2⟩ := run_findAsking_pr x (e :: es) 0 h
    refine ⟨r, fun w => ?_, ?_⟩
    · have hs : Instr.findNow (.struct (Try.prog.fieldsOf 88)) (prV x) (e :: es) 0 = none := by
        simp [Instr.findNow, Instr.sameNow]
      have hU : Try.prog.underlying 88 = some (.struct (Try.prog.fieldsOf 88)) := by kernel_rfl
      unfold Instr.findKey
      simp only [Sem.run_bind, run_underlying hU, Result.andThen_ok, hs]
      exact h1 w
    · rcases h2 with h2 | ⟨j, b, h2, h3, _, e', h5, h6⟩
      · exact .inl h2
      · exact .inr ⟨j, b, h2, h3, e', by simpa using h5, h6⟩

set_option maxRecDepth 20000 in
theorem stays_pr (x : Nat × Nat) (w : World) : (Instr.keyThatStays (prV x) (prV x)).run Try.prog w = .ok (prV x) w := by
  have h : Instr.sameBits 10000 (prV x) (prV x) = true := by
    rw [show (10000 : Nat) = 9998 + 1 + 1 from rfl]
    generalize (9998 : Nat) = n
    simp [Instr.sameBits, prV]
  unfold Instr.keyThatStays
  rw [if_pos h]; rfl

section
variable {w : World} {a : Act} {K : Act → World → Prop} {Q : Exit → Act → World → Prop} {o : Oper} {R : Nat × Nat → Bool → Prop}
set_option maxRecDepth 20000 in
theorem wp_lookup_pr {r : Nat} (s : Nat × Nat) (hM : PrMap w r R) : ∃ b f, (f = true → R s b) ∧ ∀ {w' : World} {a : Act} {K : Act → World → Prop} {Q : Exit → Act → World → Prop} {o : Oper} {x y : Operand}, w'.heap[r]? = w.heap[r]? →
    o.op = .lookup 73 x y true → a.eval x = .map (some r) → a.eval y = prV s → K (a.put o.dst (.tuple #[.bool b, .bool f])) w' → o.wp Try.prog a w' K Q := by
  obtain ⟨es, clock, h1, h2⟩ := hM
  obtain ⟨r0, h4, h5⟩ := run_findKey_pr s es.toList h2
  have um := Try.underlying73
  have hi : (Try.prog.info? 4).map (fun i => i.zero) = some (some (.bool false)) := by kernel_rfl
  have fin : ∀ b f, ((match r0 with | some (_, v) => v | none => .bool false) = .bool b ∧ r0.isSome = f) → ∀ {w' : World} {a : Act} {K : Act → World → Prop} {Q : Exit → Act → World → Prop} {o : Oper} {x y : Operand}, w'.heap[r]? = w.heap[r]? →
    o.op = .lookup 73 x y true → a.eval x = .map (some r) → a.eval y = prV s → K (a.put o.dst (.tuple #[.bool b, .bool f])) w' → o.wp Try.prog a w' K Q := by
    intro b f hbf w' a K Q o x y hw ho hx hy this
    have hg : (getObj r).run Try.prog w' = .ok (.map es clock) w' := by rw [run_getObj_map _ _ _ _ _ (hw.trans h1)]
    unfold Oper.wp execOp
    simp only [ho, hx, hy, Instr.lookup, Sem.run_bind, Sem.run_pure, run_underlying um, Result.andThen_ok, hg, run_checkKey_pr, h4]
    rcases h5 with rfl | ⟨j, b', rfl, hb, _⟩
    · obtain ⟨e1, e2⟩ := hbf
      simp only [Value.bool.injEq, Option.isSome_none] at e1 e2
      subst e1 e2
      go_simp
      exact this
    · obtain ⟨e1, e2⟩ := hbf
      simp only [Value.bool.injEq, Option.isSome_some] at e1 e2
      subst e1 e2
      simp
      exact this
  rcases h5 with rfl | ⟨j, b, rfl, hb, _⟩
  · exact ⟨false, false, (fun e => by cases e), fin false false ⟨rfl, rfl⟩⟩
  · exact ⟨b, true, (fun _ => hb), fin b true ⟨rfl, rfl⟩⟩

theorem wp_mapUpdate_pr {x y z : Operand} {r : Nat} {s : Nat × Nat} {b : Bool} (ho : o.op = .mapUpdate 73 x y z) (hx : a.eval x = .map (some r)) (hy : a.eval y = prV s) (hz : a.eval z = .bool b) (hM : PrMap w r R) (hs : R s b)
    (hK : ∀ w', PrMap w' r R → Upd r w w' → K (a.put o.dst undef) w') : o.wp Try.prog a w K Q := by
  obtain ⟨es, clock, h1, h2⟩ := hM
  obtain ⟨r0, h4, h5⟩ := run_findKey_pr s es.toList h2
  have um := Try.underlying73
  have hg := run_getObj_map Try.prog w r es clock h1
  have hlt : r < w.heap.size := (Array.getElem?_eq_some_iff.1 h1).1
  have hset : ∀ o', (setObj r o').run Try.prog w = .ok () { w with heap := w.heap.setIfInBounds r o' } := by
    intro o'; simp [setObj, Sem.run, h1]
  have fin : ∀ (es' : Array MapEntry) (c' : Nat), (∀ e ∈ es'.toList, ∃ x b, e.key = prV x ∧ e.val = .bool b ∧ R x b) → K (a.put o.dst undef) { w with heap := w.heap.setIfInBounds r (.map es' c') } := fun es' c' h =>
    hK _ ⟨es', c', by simp [hlt], h⟩ ⟨rfl, rfl, rfl, by simp, fun k hk => by simp [Ne.symm hk]⟩
  unfold Oper.wp execOp
  simp only [ho, hx, hy, hz, Instr.mapUpdate, Sem.run_bind, Sem.run_pure, run_underlying um, Result.andThen_ok, hg, run_checkKey_pr, h4]
  rcases h5 with rfl | ⟨j, b', rfl, hb, e, he, hk⟩
  · simp only [hset, Result.andThen_ok]
    refine fin _ _ (fun e he => ?_)
    simp only [Array.toList_push, List.mem_append, List.mem_singleton] at he
    rcases he with he | rfl
    · exact h2 e he
    · exact ⟨s, b, rfl, rfl, hs⟩
  · have hj : es[j]? = some e := by simpa using he
    simp only [hj, Option.map_some, Option.getD_some, hk, Sem.run_bind, stays_pr, Result.andThen_ok, hset]
    refine fin _ _ (fun e' he' => ?_)
    obtain ⟨i, hi, rfl⟩ := List.getElem_of_mem he'
    simp only [Array.getElem_toList, Array.getElem_modify]
    split
    · exact ⟨s, b, rfl, rfl, hs⟩
    · exact h2 _ (by simp)

/-- A new map. -/
def NewPrMap (R : Nat × Nat → Bool → Prop) (w : World) (v : Value) (w' : World) : Prop := ∃ g, v = .map (some g) ∧ w.heap.size = g ∧ PrMap w' g R ∧ Below w.heap.size w w' ∧ w'.heap.size = g + 1
theorem wp_makeMap_pr (ho : o.op = .makeMap 73 none) (hK : ∀ v w', NewPrMap R w v w' → K (a.put o.dst v) w') : o.wp Try.prog a w K Q := by
  have := hK (.map (some w.heap.size)) (w.alloc (.map #[] 0)) ⟨_, rfl, rfl, ⟨#[], 0, heap_alloc_new w _, fun e he => by simp at he⟩, balloc _ _, by simp⟩
  unfold Oper.wp execOp
  simp only [ho]
  go_simp
  exact this
end

section
variable {w w' : World} {r g : Nat} {R : Nat × Nat → Bool → Prop} {S : Nat → Prop}
theorem PrMap.lt (h : PrMap w r R) : r < w.heap.size := by
  obtain ⟨es, clock, h1, _⟩ := h
  exact (Array.getElem?_eq_some_iff.1 h1).1
theorem PrMap.chg (h : PrMap w r R) (hb : Chg S w w') (hr : ¬ S r) : PrMap w' r R := by
  obtain ⟨es, clock, h1, h2⟩ := h
  exact ⟨es, clock, (hb.block r (Array.getElem?_eq_some_iff.1 h1).1 hr).trans h1, h2⟩
theorem PrMap.below (h : PrMap w r R) (hb : Below w.heap.size w w') : PrMap w' r R := h.chg (S := fun _ => False) (.ofBelow hb) id
theorem PrMap.upd (h : PrMap w r R) (hu : Upd g w w') (hne : r ≠ g) : PrMap w' r R := h.chg (S := fun k => k = g) (.ofUpd hu rfl) hne
/-- What lies in cells lies in another block. -/
theorem PrMap.ne (h : PrMap w r R) {b o : Nat} {v : Value} (hc : w.cell? ⟨b, o, none⟩ = some v) : b ≠ r := by
  rintro rfl
  obtain ⟨es, clock, h1, _⟩ := h
  unfold World.cell? at hc
  simp only [h1] at hc
  cases hc
end

end Go.Proofs.Ytlkiabgpnboicaa

/- Regions that draw their order: one in which a state is kept and some blocks may be written; one with two new blocks and the stores into them. -/
namespace Go.Proofs.Ytlkiabgpnboicaa
open Go.RowKit Go

section
variable {P : Program} {ops : Array Oper}
/-- What an operation finds. -/
structure CtxK (ops : Array Oper) (l : List (Bool × Value)) (n : Nat) (K : Known) (w0 : World) (S : Nat → Prop) (I : World → Prop) (o : Oper) (a : Act) (w : World) : Prop where
  chg : Chg S w0 w
  inv : I w
  kn : Kn n K a
  dep : ∀ j d, depB ops o j d = true → valR l j (a.tmps.getD d undef)
def SoundK (P : Program) (ops : Array Oper) (Q : Exit → Act → World → Prop) (l : List (Bool × Value)) (n : Nat) (K : Known) (w0 : World) (S : Nat → Prop) (I : World → Prop) : Nat → List Oper → Prop
  | _, [] => True
  | i, o :: r => (∃ β, GuardIs (fun i v _ => valR l i v) o β ∧ (β = false → valR l i undef) ∧
      (β = true → ∀ a w, CtxK ops l n K w0 S I o a w → o.wp P a w (fun a' w' => ∃ v, a' = Act.put a o.dst v ∧ Chg S w0 w' ∧ I w' ∧ valR l i v) Q)) ∧ SoundK P ops Q l n K w0 S I (i + 1) r
theorem SoundK.gen {Q : Exit → Act → World → Prop} {l : List (Bool × Value)} {n : Nat} {K : Known} {w0 : World} {S : Nat → Prop} {I : World → Prop} : ∀ {lo : List Oper} {i : Nat}, SoundK P ops Q l n K w0 S I i lo →
    SoundFromG P ops Q [] (fun i v _ => valR l i v) (fun _ _ => True) (fun _ w => Chg S w0 w ∧ I w) n K i lo
  | [], _, _ => trivial
  | o :: r, i, ⟨⟨β, h1, h2, h3⟩, h4⟩ => by
    refine ⟨.inl ⟨rfl, β, h1, fun _ _ _ => rfl, fun e _ => h2 e, fun hβ a w vs C => ?_⟩, h4.gen⟩
    refine Oper.wp_mono ?_ (h3 hβ a w ⟨C.now.1, C.now.2, C.kn, fun j d hj => C.dep j d hj rfl⟩)
    rintro a' w' ⟨v, rfl, hc, hi, hv⟩
    exact ⟨v, rfl, trivial, ⟨hc, hi⟩, hv⟩
theorem WC.optc {id : Nat} {dr : Bool} {Q : Exit → Act → World → Prop} {n : Nat} {K : Known} {w : World} (l : List (Bool × Value)) (K0 : Known) {S : Nat → Prop} {I : World → Prop} (hI : ∀ w w', Below w.heap.size w w' → I w → I w') (hi : I w)
    (hs : subK K0 K) (hclear : clearB ops K0 = true) (hm : P.follows .mixedOrders = true) (hB : opsB ops n = true)
    (h : SoundK P ops Q l n K0 w S I 0 ops.toList)
    (hQ : ∀ (a : Act) (w' : World), Kn n K0 a → Chg S w w' → I w' → (∀ i d, (ops[i]?).bind (·.dst) = some d → valR l i (a.tmps.getD d undef)) → Q .normal a w') :
    WC P n K w (.region id ops dr) Q := by
  refine WC.gen [] (fun i v _ => valR l i v) (fun _ _ => True) (fun _ w' => Chg S w w' ∧ I w') K0 hs hclear hm hB List.nodup_nil rfl (fun _ _ _ _ h _ => h) ?_ h.gen (fun a w' vs hk _ _ hG hu _ => hQ a w' hk hG.1 hG.2 (fun i d hd => hu i d hd rfl))
  cases dr with
  | true => exact ⟨.ofBelow (Below.refl _ _).drew, hI _ _ (Below.refl _ _).drew hi⟩
  | false => exact ⟨.refl _ _, hi⟩
end

/-! ### Two new blocks, two stores -/

section
variable {w0 w w' : World} {t1 t2 g : Nat} {z1 c1 z2 c2 : Array Value} {va vb vp vq : Option Value}
structure TwoS (w0 : World) (t1 : Nat) (z1 c1 : Array Value) (t2 : Nat) (z2 c2 : Array Value) (va vb vp vq : Option Value) (w : World) : Prop where
  below : Below w0.heap.size w0 w
  a : ∀ v, va = some v → ∃ g, v = .pointer (some ⟨g, 0, none⟩) ∧ w0.heap.size ≤ g ∧ Blk w g t1 (if vp.isSome then c1 else z1)
  b : ∀ v, vb = some v → ∃ g, v = .pointer (some ⟨g, 0, none⟩) ∧ w0.heap.size ≤ g ∧ Blk w g t2 (if vq.isSome then c2 else z2)
  ne : ∀ v u, va = some v → vb = some u → v ≠ u
  pa : va = none → vp = none
  qb : vb = none → vq = none
def TwoG (w0 : World) (t1 : Nat) (z1 c1 : Array Value) (t2 : Nat) (z2 c2 : Array Value) : List (Option Value) → World → Prop
  | [va, vb, vp, vq], w => TwoS w0 t1 z1 c1 t2 z2 c2 va vb vp vq w
  | _, _ => False
theorem TwoS.allocA (h : TwoS w0 t1 z1 c1 t2 z2 c2 none vb vp vq w) : TwoS w0 t1 z1 c1 t2 z2 c2 (some (.pointer (some ⟨w.heap.size, 0, none⟩))) vb vp vq (w.alloc (.cells z1 t1)) := by
  have hp := h.pa rfl
  subst hp
  refine ⟨bstep h.below (balloc _ _), fun v hv => ⟨_, (Option.some.inj hv).symm, h.below.size, Blk.new' rfl⟩, fun v hv => ?_, fun v u hv hu => ?_, fun e => (by cases e), h.qb⟩
  · obtain ⟨g, h1, h2, h3⟩ := h.b v hv
    exact ⟨g, h1, h2, h3.below (balloc _ _)⟩
  · obtain ⟨g, rfl, _, h3⟩ := h.b u hu
    obtain rfl := Option.some.inj hv
    have := h3.lt
    simp only [ne_eq, Value.pointer.injEq, Option.some.injEq, Addr.mk.injEq, and_true]
    omega
theorem TwoS.allocB (h : TwoS w0 t1 z1 c1 t2 z2 c2 va none vp vq w) : TwoS w0 t1 z1 c1 t2 z2 c2 va (some (.pointer (some ⟨w.heap.size, 0, none⟩))) vp vq (w.alloc (.cells z2 t2)) := by
  have hp := h.qb rfl
  subst hp
  refine ⟨bstep h.below (balloc _ _), fun v hv => ?_, fun v hv => ⟨_, (Option.some.inj hv).symm, h.below.size, Blk.new' rfl⟩, fun v u hv hu => ?_, h.pa, fun e => (by cases e)⟩
  · obtain ⟨g, h1, h2, h3⟩ := h.a v hv
    exact ⟨g, h1, h2, h3.below (balloc _ _)⟩
  · obtain ⟨g, rfl, _, h3⟩ := h.a v hv
    obtain rfl := Option.some.inj hu
    have := h3.lt
    simp only [ne_eq, Value.pointer.injEq, Option.some.injEq, Addr.mk.injEq, and_true]
    omega
theorem TwoS.storeA {q : Value} (h : TwoS w0 t1 z1 c1 t2 z2 c2 (some (.pointer (some ⟨g, 0, none⟩))) vb none vq w) (hu : Upd g w w') (hB : Blk w' g t1 c1) : TwoS w0 t1 z1 c1 t2 z2 c2 (some (.pointer (some ⟨g, 0, none⟩))) vb (some q) vq w' := by
  obtain ⟨g', e, h1, _⟩ := h.a _ rfl
  simp only [Value.pointer.injEq, Option.some.injEq, Addr.mk.injEq, and_true] at e
  subst e
  refine ⟨upd_below h.below hu h1, fun v hv => ⟨g, (Option.some.inj hv).symm, h1, by simpa using hB⟩, fun v hv => ?_, h.ne, fun e => (by cases e), h.qb⟩
  obtain ⟨g2, rfl, h2, h3⟩ := h.b v hv
  have := h.ne _ _ rfl hv
  simp only [ne_eq, Value.pointer.injEq, Option.some.injEq, Addr.mk.injEq, and_true] at this
  exact ⟨g2, rfl, h2, upd_blk h3 hu (fun e => this e.symm)⟩
theorem TwoS.storeB {q : Value} (h : TwoS w0 t1 z1 c1 t2 z2 c2 va (some (.pointer (some ⟨g, 0, none⟩))) vp none w) (hu : Upd g w w') (hB : Blk w' g t2 c2) : TwoS w0 t1 z1 c1 t2 z2 c2 va (some (.pointer (some ⟨g, 0, none⟩))) vp (some q) w' := by
  obtain ⟨g', e, h1, _⟩ := h.b _ rfl
  simp only [Value.pointer.injEq, Option.some.injEq, Addr.mk.injEq, and_true] at e
  subst e
  refine ⟨upd_below h.below hu h1, fun v hv => ?_, fun v hv => ⟨g, (Option.some.inj hv).symm, h1, by simpa using hB⟩, h.ne, h.pa, fun e => (by cases e)⟩
  obtain ⟨g2, rfl, h2, h3⟩ := h.a v hv
  have := h.ne _ _ hv rfl
  simp only [ne_eq, Value.pointer.injEq, Option.some.injEq, Addr.mk.injEq, and_true] at this
  exact ⟨g2, rfl, h2, upd_blk h3 hu this⟩
end

section
variable {P : Program} {ops : Array Oper}
structure CtxT (ops : Array Oper) (l : List (Bool × Value)) (chain : List Nat) (n : Nat) (K : Known) (w0 : World) (o : Oper) (a : Act) (w : World) : Prop where
  below : Below w0.heap.size w0 w
  kn : Kn n K a
  dep : ∀ j d, depB ops o j d = true → chain.contains j = false → valR l j (a.tmps.getD d undef)
def SoundT (P : Program) (ops : Array Oper) (Q : Exit → Act → World → Prop) (l : List (Bool × Value)) (n : Nat) (K : Known) (w0 : World) (t1 : Nat) (z1 c1 : Array Value) (t2 : Nat) (z2 c2 : Array Value) (ia ib ip iq : Nat) : Nat → List Oper → Prop
  | _, [] => True
  | i, o :: r => (([ia, ib, ip, iq].contains i = false ∧ o.guard = none ∧
        (∀ a w, CtxT ops l [ia, ib, ip, iq] n K w0 o a w → o.wp P a w (fun a' w' => ∃ v, a' = Act.put a o.dst v ∧ w' = w ∧ valR l i v) Q)) ∨
      (i = ia ∧ o.guard = none ∧ ∀ a w, CtxT ops l [ia, ib, ip, iq] n K w0 o a w → o.wp P a w (fun a' w' => a' = Act.put a o.dst (.pointer (some ⟨w.heap.size, 0, none⟩)) ∧ w' = w.alloc (.cells z1 t1)) Q) ∨
      (i = ib ∧ o.guard = none ∧ ∀ a w, CtxT ops l [ia, ib, ip, iq] n K w0 o a w → o.wp P a w (fun a' w' => a' = Act.put a o.dst (.pointer (some ⟨w.heap.size, 0, none⟩)) ∧ w' = w.alloc (.cells z2 t2)) Q) ∨
      (i = ip ∧ o.guard = none ∧ ∃ dp, depB ops o ia dp = true ∧ ∀ a w g, CtxT ops l [ia, ib, ip, iq] n K w0 o a w → a.tmps.getD dp undef = .pointer (some ⟨g, 0, none⟩) → Blk w g t1 z1 → o.wp P a w (fun a' w' => ∃ v, a' = Act.put a o.dst v ∧ Upd g w w' ∧ Blk w' g t1 c1) Q) ∨
      (i = iq ∧ o.guard = none ∧ ∃ dp, depB ops o ib dp = true ∧ ∀ a w g, CtxT ops l [ia, ib, ip, iq] n K w0 o a w → a.tmps.getD dp undef = .pointer (some ⟨g, 0, none⟩) → Blk w g t2 z2 → o.wp P a w (fun a' w' => ∃ v, a' = Act.put a o.dst v ∧ Upd g w w' ∧ Blk w' g t2 c2) Q)) ∧ SoundT P ops Q l n K w0 t1 z1 c1 t2 z2 c2 ia ib ip iq (i + 1) r
theorem SoundT.gen {Q : Exit → Act → World → Prop} {l : List (Bool × Value)} {n : Nat} {K : Known} {w0 : World} {t1 : Nat} {z1 c1 : Array Value} {t2 : Nat} {z2 c2 : Array Value} {ia ib ip iq : Nat} : ∀ {lo : List Oper} {i : Nat}, SoundT P ops Q l n K w0 t1 z1 c1 t2 z2 c2 ia ib ip iq i lo →
    SoundFromG P ops Q [ia, ib, ip, iq] (fun i v _ => valR l i v) (fun _ _ => True) (TwoG w0 t1 z1 c1 t2 z2 c2) n K i lo
  | [], _, _ => trivial
  | o :: r, i, ⟨h, hr⟩ => by
    refine ⟨?_, hr.gen⟩
    have mk : ∀ {a : Act} {w : World} {vs : List (Option Value)} (_ : CtxG ops [ia, ib, ip, iq] (fun i v _ => valR l i v) (TwoG w0 t1 z1 c1 t2 z2 c2) n K i o a w vs), CtxT ops l [ia, ib, ip, iq] n K w0 o a w := by
      intro a w vs C
      match vs, C.len, C.now with
      | [va, vb, vp, vq], _, hG => exact ⟨TwoS.below hG, C.kn, C.dep⟩
    rcases h with ⟨h1, h2, h3⟩ | ⟨rfl, h1, h2⟩ | ⟨rfl, h1, h2⟩ | ⟨rfl, h1, dp, h2, h3⟩ | ⟨rfl, h1, dp, h2, h3⟩
    · refine .inl ⟨h1, true, .none h2, fun g b hb => by (rw [h2] at hb; cases hb), fun e => (by cases e), fun _ a w vs C => ?_⟩
      refine Oper.wp_mono ?_ (h3 a w (mk C))
      rintro a' w' ⟨v, rfl, rfl, hv⟩
      exact ⟨v, rfl, trivial, C.now, hv⟩
    · refine .inr ⟨0, rfl, h1, fun a w vs C hn => ?_⟩
      refine Oper.wp_mono ?_ (h2 a w (mk C))
      rintro a' w' ⟨rfl, rfl⟩
      match vs, C.len, hn, C.now with
      | [va, vb, vp, vq], _, hn, hG =>
        simp only [List.getElem?_cons_zero, Option.some.injEq] at hn
        subst hn
        exact ⟨_, rfl, trivial, TwoS.allocA hG⟩
    · refine .inr ⟨1, rfl, h1, fun a w vs C hn => ?_⟩
      refine Oper.wp_mono ?_ (h2 a w (mk C))
      rintro a' w' ⟨rfl, rfl⟩
      match vs, C.len, hn, C.now with
      | [va, vb, vp, vq], _, hn, hG =>
        simp only [List.getElem?_cons_zero, List.getElem?_cons_succ, Option.some.injEq] at hn
        subst hn
        exact ⟨_, rfl, trivial, TwoS.allocB hG⟩
    · refine .inr ⟨2, rfl, h1, fun a w vs C hn => ?_⟩
      have e0 := C.link 0 ia dp rfl h2
      match vs, C.len, hn, e0, C.now, C with
      | [va, vb, vp, vq], _, hn, e0, hG, C =>
        simp only [List.getElem?_cons_zero, List.getElem?_cons_succ, Option.some.injEq] at hn e0
        subst hn e0
        obtain ⟨g, h5, _, h6⟩ := TwoS.a hG _ rfl
        refine Oper.wp_mono ?_ (h3 a w g (mk C) h5 (by simpa using h6))
        rintro a' w' ⟨v, rfl, h7, h8⟩
        have hG' : TwoS w0 t1 z1 c1 t2 z2 c2 (some (a.tmps.getD dp undef)) vb none vq w := hG
        rw [h5] at hG'
        refine ⟨v, rfl, trivial, ?_⟩
        show TwoS w0 t1 z1 c1 t2 z2 c2 (some (a.tmps.getD dp undef)) vb (some v) vq w'
        rw [h5]
        exact TwoS.storeA hG' h7 h8
    · refine .inr ⟨3, rfl, h1, fun a w vs C hn => ?_⟩
      have e0 := C.link 1 ib dp rfl h2
      match vs, C.len, hn, e0, C.now, C with
      | [va, vb, vp, vq], _, hn, e0, hG, C =>
        simp only [List.getElem?_cons_zero, List.getElem?_cons_succ, Option.some.injEq] at hn e0
        subst hn e0
        obtain ⟨g, h5, _, h6⟩ := TwoS.b hG _ rfl
        refine Oper.wp_mono ?_ (h3 a w g (mk C) h5 (by simpa using h6))
        rintro a' w' ⟨v, rfl, h7, h8⟩
        have hG' : TwoS w0 t1 z1 c1 t2 z2 c2 va (some (a.tmps.getD dp undef)) vp none w := hG
        rw [h5] at hG'
        refine ⟨v, rfl, trivial, ?_⟩
        show TwoS w0 t1 z1 c1 t2 z2 c2 va (some (a.tmps.getD dp undef)) vp (some v) w'
        rw [h5]
        exact TwoS.storeB hG' h7 h8
theorem WC.two {id : Nat} {dr : Bool} {Q : Exit → Act → World → Prop} {n : Nat} {K : Known} {w : World} (l : List (Bool × Value)) (K0 : Known) {t1 : Nat} {z1 c1 : Array Value} {t2 : Nat} {z2 c2 : Array Value} (ia ib ip iq da db : Nat)
    (hd : ([ia, ib, ip, iq]).Nodup) (hin : (([ia, ib, ip, iq]).all fun c => Nat.blt c ops.size) = true) (hda : (ops[ia]?).bind (·.dst) = some da) (hdb : (ops[ib]?).bind (·.dst) = some db)
    (hs : subK K0 K) (hclear : clearB ops K0 = true) (hm : P.follows .mixedOrders = true) (hB : opsB ops n = true)
    (h : SoundT P ops Q l n K0 w t1 z1 c1 t2 z2 c2 ia ib ip iq 0 ops.toList)
    (hQ : ∀ (a : Act) (w' : World) (g1 g2 : Nat), Kn n K0 a → Below w.heap.size w w' → w.heap.size ≤ g1 → w.heap.size ≤ g2 → g1 ≠ g2 → Blk w' g1 t1 c1 → Blk w' g2 t2 c2 → a.tmps.getD da undef = .pointer (some ⟨g1, 0, none⟩) → a.tmps.getD db undef = .pointer (some ⟨g2, 0, none⟩) → (∀ i d, (ops[i]?).bind (·.dst) = some d → ([ia, ib, ip, iq]).contains i = false → valR l i (a.tmps.getD d undef)) → Q .normal a w') :
    WC P n K w (.region id ops dr) Q := by
  refine WC.gen [ia, ib, ip, iq] (fun i v _ => valR l i v) (fun _ _ => True) (TwoG w t1 z1 c1 t2 z2 c2) K0 hs hclear hm hB hd hin (fun _ _ _ _ h _ => h) ?_ h.gen (fun a w' vs hk hlen hall hG hu hl => ?_)
  · have st : ∀ w' : World, Below w.heap.size w w' → TwoS w t1 z1 c1 t2 z2 c2 none none none none w' := fun w' hb => ⟨hb, fun v hv => (by cases hv), fun v hv => (by cases hv), fun v u hv => (by cases hv), fun _ => rfl, fun _ => rfl⟩
    cases dr with
    | true => exact st _ (Below.refl _ _).drew
    | false => exact st _ (Below.refl _ _)
  · obtain ⟨v0, hv0⟩ := hall 0 (by simp)
    obtain ⟨v1, hv1⟩ := hall 1 (by simp)
    obtain ⟨v2, hv2⟩ := hall 2 (by simp)
    obtain ⟨v3, hv3⟩ := hall 3 (by simp)
    have ha := hl 0 ia da rfl hda
    have hb := hl 1 ib db rfl hdb
    match vs, hlen, hv0, hv1, hv2, hv3, hG, ha, hb with
    | [va, vb, vp, vq], _, hv0, hv1, hv2, hv3, hG, ha, hb =>
      simp only [List.getElem?_cons_zero, List.getElem?_cons_succ, Option.some.injEq] at hv0 hv1 hv2 hv3 ha hb
      subst hv2 hv3 ha hb
      obtain ⟨g1, e1, h1, h2⟩ := TwoS.a hG _ rfl
      obtain ⟨g2, e2, h3, h4⟩ := TwoS.b hG _ rfl
      have hne := TwoS.ne hG _ _ rfl rfl
      rw [e1, e2] at hne
      simp only [ne_eq, Value.pointer.injEq, Option.some.injEq, Addr.mk.injEq, and_true] at hne
      exact hQ a w' g1 g2 hk (TwoS.below hG) h1 h3 hne (by simpa using h2) (by simpa using h4) e1 e2 hu
end

end Go.Proofs.Ytlkiabgpnboicaa

/- Two terms laid out, what was found of their parts: how it lies in memory. -/
namespace Go.Proofs.Ytlkiabgpnboicaa
open Go.RowKit Go

/-- A row of parts, cell by cell. -/
structure NdRow (w0 : World) (L : List Nd) (b : Nat) (A X : Nat → Option Addr) (C Z xb : Nat → Nat) (w : World) : Prop where
  c0 : ∀ k, k < L.length → w.cell? ⟨b, 0 + k * 3, none⟩ = some (.int .i64 (ndget L k).t.f)
  c1 : ∀ k, k < L.length → w.cell? ⟨b, 0 + k * 3 + 1, none⟩ = some (.slice (A k) (ndget L k).t.args.length (C k))
  c2 : ∀ k, k < L.length → w.cell? ⟨b, 0 + k * 3 + 2, none⟩ = some (.slice (X k) (ndget L k).args.length (Z k))
  t : ∀ k, k < L.length → IsT w0 (ndget L k).t (.agg #[.int .i64 (ndget L k).t.f, .slice (A k) (ndget L k).t.args.length (C k)])
  x : ∀ k j, k < L.length → j < (ndget L k).args.length → X k = some ⟨xb k, 0, none⟩ ∧ w.cell? ⟨xb k, 0 + j, none⟩ = some (.int .i64 (((ndget L k).args.getD j 0 : Nat) : Int))
theorem NdRow.keep {w0 w w' : World} {L : List Nd} {b : Nat} {A X : Nat → Option Addr} {C Z xb : Nat → Nat} (h : NdRow w0 L b A X C Z xb w) (hk : ∀ b i v, w.cell? ⟨b, i, none⟩ = some v → w'.cell? ⟨b, i, none⟩ = some v) : NdRow w0 L b A X C Z xb w' :=
  ⟨fun k h1 => hk _ _ _ (h.c0 k h1), fun k h1 => hk _ _ _ (h.c1 k h1), fun k h1 => hk _ _ _ (h.c2 k h1), h.t, fun k j h1 h2 => ⟨(h.x k j h1 h2).1, hk _ _ _ (h.x k j h1 h2).2⟩⟩

theorem NdRow.of {w0 w : World} {N S : Nat → Prop} {E b rc n : Nat} {L : List Nd} {xs : List Value} (h : NdsAt w0 w N L xs) (hO : Own w S E 3 (some ⟨b, 0, none⟩) rc n xs) : ∃ (A X : Nat → Option Addr) (C Z xb : Nat → Nat), NdRow w0 L b A X C Z xb w := by
  have key : ∀ k, k < L.length → ∃ p : Option Addr × Nat × Option Addr × Nat × Nat, xs[k * 3]? = some (.int .i64 (ndget L k).t.f) ∧ xs[k * 3 + 1]? = some (.slice p.1 (ndget L k).t.args.length p.2.1) ∧ xs[k * 3 + 2]? = some (.slice p.2.2.1 (ndget L k).args.length p.2.2.2.1) ∧
      IsT w0 (ndget L k).t (.agg #[.int .i64 (ndget L k).t.f, .slice p.1 (ndget L k).t.args.length p.2.1]) ∧ ∀ j, j < (ndget L k).args.length → p.2.2.1 = some ⟨p.2.2.2.2, 0, none⟩ ∧ w.cell? ⟨p.2.2.2.2, 0 + j, none⟩ = some (.int .i64 (((ndget L k).args.getD j 0 : Nat) : Int)) := by
    intro k hk
    obtain ⟨A, C, X, Z, e1, e2, e3, e4, e5⟩ := h.at_ k hk
    rcases e5 with e5 | ⟨g, e5, _, _, e6⟩
    · exact ⟨(A, C, X, Z, 0), e1, e2, e3, e4, fun j hj => by rw [e5] at hj; simp at hj⟩
    · exact ⟨(A, C, X, Z, g), e1, e2, e3, e4, fun j hj => ⟨e5, by rw [Nat.zero_add]; exact e6 j hj⟩⟩
  have : Inhabited (Option Addr × Nat × Option Addr × Nat × Nat) := ⟨(none, 0, none, 0, 0)⟩
  obtain ⟨F, hF⟩ := Go.Deep.choose_lt key
  refine ⟨fun k => (F k).1, fun k => (F k).2.2.1, fun k => (F k).2.1, fun k => (F k).2.2.2.1, fun k => (F k).2.2.2.2, fun k hk => ?_, fun k hk => ?_, fun k hk => ?_, fun k hk => (hF k hk).2.2.2.1, fun k j hk hj => (hF k hk).2.2.2.2 j hj⟩
  · rw [Nat.zero_add]; exact own_cell hO (hF k hk).1
  · rw [Nat.zero_add]; exact own_cell hO (hF k hk).2.1
  · rw [Nat.zero_add]; exact own_cell hO (hF k hk).2.2.1

/-- The addresses. -/
structure LpoQ where
  gw : Nat
  gm : Nat
  b1 : Nat
  b2 : Nat
  r1 : Nat
  r2 : Nat
  A1 : Nat → Option Addr
  A2 : Nat → Option Addr
  X1 : Nat → Option Addr
  X2 : Nat → Option Addr
  C1 : Nat → Nat
  C2 : Nat → Nat
  Z1 : Nat → Nat
  Z2 : Nat → Nat
  x1 : Nat → Nat
  x2 : Nat → Nat
  p1 : Option Addr
  p2 : Option Addr
  k1 : Nat
  k2 : Nat

/-- What is known of the two rows. -/
structure LpoH (o : Od) (L1 L2 : List Nd) : Prop where
  g1 : ∀ k, k < L1.length → GoodAt L1 k
  g2 : ∀ k, k < L2.length → GoodAt L2 k
  k1 : ∀ k, k < L1.length → o.lknows (ndget L1 k).t = true
  k2 : ∀ k, k < L2.length → o.lknows (ndget L2 k).t = true
  z1 : ∀ k, k < L1.length → (ndget L1 k).t.size ≤ 4294967296
  z2 : ∀ k, k < L2.length → (ndget L2 k).t.size ≤ 4294967296
theorem args_le (t : T) : t.args.length < t.size := by
  have h : ∀ l : List T, l.length ≤ T.sizeL l := by
    intro l
    induction l with
    | nil => simp
    | cons a r ih =>
      have := T.size_eq a
      rw [T.sizeL, List.length_cons]; omega
  have := T.size_eq t
  have := h t.args
  omega
theorem nd_child {L : List Nd} {k j : Nat} (h : GoodAt L k) (hj : j < (ndget L k).t.args.length) : (ndget L k).args.getD j 0 < L.length ∧ (ndget L ((ndget L k).args.getD j 0)).t = tget (ndget L k).t.args j := by
  have := h.2 j hj
  rw [tget_lt hj]; exact this

def LpoBlk (o : Od) (L1 L2 : List Nd) (q : LpoQ) : Array Value := #[.bool o.lpo, .slice q.p1 o.prec.length q.k1, .slice q.p2 o.weights.length q.k2, .int .i64 o.var, .slice (some ⟨q.b1, 0, none⟩) L1.length q.r1, .slice (some ⟨q.b2, 0, none⟩) L2.length q.r2, .map (some q.gm)]
/-- What was found is right. -/
def LpoR (o : Od) (L1 L2 : List Nd) (x : Nat × Nat) (b : Bool) : Prop := b = o.lg (ndget L1 x.1).t (ndget L2 x.2).t
structure LpoSt (o : Od) (L1 L2 : List Nd) (q : LpoQ) (w0 w : World) : Prop where
  below : Below w0.heap.size w0 w
  prec : IsInts w0 o.prec q.p1
  n1 : NdRow w0 L1 q.b1 q.A1 q.X1 q.C1 q.Z1 q.x1 w
  n2 : NdRow w0 L2 q.b2 q.A2 q.X2 q.C2 q.Z2 q.x2 w
  map : PrMap w q.gm (LpoR o L1 L2)
  blk : Blk w q.gw 75 #[.bool o.lpo, .slice q.p1 o.prec.length q.k1, .slice q.p2 o.weights.length q.k2, .int .i64 o.var, .slice (some ⟨q.b1, 0, none⟩) L1.length q.r1, .slice (some ⟨q.b2, 0, none⟩) L2.length q.r2, .map (some q.gm)]
  hgm : w0.heap.size ≤ q.gm
section
variable {o : Od} {L1 L2 : List Nd} {q : LpoQ} {w0 w w' : World}
theorem LpoSt.step (h : LpoSt o L1 L2 q w0 w) (hc : Chg (fun b => b = q.gm) w w') (hm : PrMap w' q.gm (LpoR o L1 L2)) : LpoSt o L1 L2 q w0 w' := by
  have hk : ∀ b i v, w.cell? ⟨b, i, none⟩ = some v → w'.cell? ⟨b, i, none⟩ = some v := fun b i v hv => chg_cell hc (h.map.ne hv) hv
  have hg := h.hgm
  exact ⟨chg_below h.below hc (fun b hb => by omega), h.prec, h.n1.keep hk, h.n2.keep hk, hm, chg_blk h.blk hc (h.map.ne (h.blk.cell 0)), hg⟩
theorem LpoSt.bel (h : LpoSt o L1 L2 q w0 w) (hb : Below w.heap.size w w') : LpoSt o L1 L2 q w0 w' := h.step (.ofBelow hb) (h.map.below hb)
theorem LpoSt.glt (h : LpoSt o L1 L2 q w0 w) : q.gm < w.heap.size ∧ q.gw < w.heap.size ∧ q.gw ≠ q.gm ∧ w0.heap.size ≤ w.heap.size := ⟨h.map.lt, h.blk.lt, h.map.ne (h.blk.cell 0), h.below.size⟩
end

/-- To so many parts, above tells what is right. -/
def AboveOK (o : Od) (L1 L2 : List Nd) (q : LpoQ) (w0 : World) (n : Nat) : Prop :=
  ∀ (i k : Nat) (w : World), i < L1.length → k < L2.length → (ndget L1 i).t.size + (ndget L2 k).t.size ≤ n → LpoSt o L1 L2 q w0 w →
    Calls Try.prog 37 #[.pointer (some ⟨q.gw, 0, none⟩), .int .i64 (i : Int), .int .i64 (k : Int)] w (Ret fun v' w' => v' = .bool (o.lg (ndget L1 i).t (ndget L2 k).t) ∧ LpoSt o L1 L2 q w0 w' ∧ Chg (fun b => b = q.gm) w w')

end Go.Proofs.Ytlkiabgpnboicaa

namespace Go.Proofs.Ytlkiabgpnboicaa
open Go.RowKit Go

theorem box_35 {w : World} {a : Act} {K : Act → World → Prop} {Q : Exit → Act → World → Prop} {o : Oper} {x : Operand} {c0 : Value} (ho : o.op = .box 35 x) (hx : a.eval x = .agg #[c0]) (hK : K (a.put o.dst (.pointer (some ⟨w.heap.size, 0, none⟩))) (w.alloc (.cells #[c0] 35))) : o.wp Try.prog a w K Q := by
  unfold Oper.wp execOp
  simp only [ho, hx]
  go_simp
  exact hK
theorem box_24 {w : World} {a : Act} {K : Act → World → Prop} {Q : Exit → Act → World → Prop} {o : Oper} {x : Operand} {c0 c1 c2 c3 : Value} (ho : o.op = .box 24 x) (hx : a.eval x = .agg #[c0, c1, c2, c3]) (hK : K (a.put o.dst (.pointer (some ⟨w.heap.size, 0, none⟩))) (w.alloc (.cells #[c0, c1, c2, c3] 24))) : o.wp Try.prog a w K Q := by
  unfold Oper.wp execOp
  simp only [ho, hx]
  go_simp
  exact hK
theorem fld_24_0 {w : World} {a : Act} {K : Act → World → Prop} {Q : Exit → Act → World → Prop} {o : Oper} {x : Operand} {b p : Nat} (ho : o.op = .fieldAddr 24 x 0) (hx : a.eval x = .pointer (some ⟨b, p, none⟩)) (hK : K (a.put o.dst (.pointer (some ⟨b, p, none⟩))) w) : o.wp Try.prog a w K Q := by
  unfold Oper.wp execOp
  simp only [ho, hx]
  go_simp
  exact hK
theorem ld_4 {w : World} {a : Act} {K : Act → World → Prop} {Q : Exit → Act → World → Prop} {o : Oper} {x : Operand} {p : Addr} {v : Value} (ho : o.op = .load 4 x) (hx : a.eval x = .pointer (some p)) (hc : w.cell? p = some v) (hK : K (a.put o.dst (v)) w) : o.wp Try.prog a w K Q := by
  unfold Oper.wp execOp
  simp only [ho, hx]
  go_simp
  exact hK
theorem ld_35 {w : World} {a : Act} {K : Act → World → Prop} {Q : Exit → Act → World → Prop} {o : Oper} {x : Operand} {b p : Nat} {c0 : Value} (ho : o.op = .load 35 x) (hx : a.eval x = .pointer (some ⟨b, p, none⟩)) (h0 : w.cell? ⟨b, p, none⟩ = some c0) (hK : K (a.put o.dst (.agg #[c0])) w) : o.wp Try.prog a w K Q := by
  unfold Oper.wp execOp
  simp only [ho, hx]
  go_simp
  exact hK
theorem ld_24 {w : World} {a : Act} {K : Act → World → Prop} {Q : Exit → Act → World → Prop} {o : Oper} {x : Operand} {b p : Nat} {c0 c1 c2 c3 : Value} (ho : o.op = .load 24 x) (hx : a.eval x = .pointer (some ⟨b, p, none⟩)) (h0 : w.cell? ⟨b, p, none⟩ = some c0) (h1 : w.cell? ⟨b, p + 1, none⟩ = some c1) (h2 : w.cell? ⟨b, p + 2, none⟩ = some c2) (h3 : w.cell? ⟨b, p + 3, none⟩ = some c3) (hK : K (a.put o.dst (.agg #[c0, c1, c2, c3])) w) : o.wp Try.prog a w K Q := by
  unfold Oper.wp execOp
  simp only [ho, hx]
  go_simp
  exact hK
theorem neq_56 {w : World} {a : Act} {K : Act → World → Prop} {Q : Exit → Act → World → Prop} {o : Oper} {x y : Operand} {m n : Int} (ho : o.op = .binOp .neq 56 x y 56) (hx : a.eval x = .int .i64 m) (hy : a.eval y = .int .i64 n) (hK : K (a.put o.dst (.bool (m != n))) w) : o.wp Try.prog a w K Q := by
  unfold Oper.wp execOp
  simp only [ho, hx, hy]
  go_simp
  exact hK
theorem len_25 {w : World} {a : Act} {K : Act → World → Prop} {Q : Exit → Act → World → Prop} {o : Oper} {x : Operand} {r : Option Addr} {n c : Nat} (ho : o.op = .call { callee := .builtin .len, args := #[x], argTypes := #[25] }) (hx : a.eval x = .slice r n c) (hK : K (a.put o.dst (.int .i64 n)) w) : o.wp Try.prog a w K Q := by
  unfold Oper.wp execOp
  simp only [ho, resolve, List.map_toArray, List.map_cons, List.map_nil, hx]
  go_simp
  exact hK
theorem lss_3 {w : World} {a : Act} {K : Act → World → Prop} {Q : Exit → Act → World → Prop} {o : Oper} {x y : Operand} {m n : Int} (ho : o.op = .binOp .lss 3 x y 3) (hx : a.eval x = .int .i64 m) (hy : a.eval y = .int .i64 n) (hK : K (a.put o.dst (.bool (decide (m < n)))) w) : o.wp Try.prog a w K Q := by
  unfold Oper.wp execOp
  simp only [ho, hx, hy]
  go_simp
  exact hK
theorem ix_25 {w : World} {a : Act} {K : Act → World → Prop} {Q : Exit → Act → World → Prop} {o : Oper} {x y : Operand} {r : Option Addr} {b p n c k : Nat} (ho : o.op = .indexAddr 25 x y) (hx : a.eval x = .slice r n c) (hr : r = some ⟨b, p, none⟩) (hy : a.eval y = .int .i64 (k : Int)) (hk : k < n) (hK : K (a.put o.dst (.pointer (some ⟨b, p + k * 2, none⟩))) w) : o.wp Try.prog a w K Q := by
  subst hr
  have h0 : (0 : Int) ≤ (k : Int) := by omega
  have h1 : (k : Int) < (n : Int) := by omega
  unfold Oper.wp execOp
  simp only [ho, hx, hy]
  go_simp
  exact hK
theorem ld_27 {w : World} {a : Act} {K : Act → World → Prop} {Q : Exit → Act → World → Prop} {o : Oper} {x : Operand} {b p : Nat} {c0 c1 : Value} (ho : o.op = .load 27 x) (hx : a.eval x = .pointer (some ⟨b, p, none⟩)) (h0 : w.cell? ⟨b, p, none⟩ = some c0) (h1 : w.cell? ⟨b, p + 1, none⟩ = some c1) (hK : K (a.put o.dst (.agg #[c0, c1])) w) : o.wp Try.prog a w K Q := by
  unfold Oper.wp execOp
  simp only [ho, hx]
  go_simp
  exact hK
theorem add_3 {w : World} {a : Act} {K : Act → World → Prop} {Q : Exit → Act → World → Prop} {o : Oper} {x y : Operand} {m n : Int} (ho : o.op = .binOp .add 3 x y 3) (hx : a.eval x = .int .i64 m) (hy : a.eval y = .int .i64 n) (hK : K (a.put o.dst (.int .i64 (IntKind.i64.wrap (m + n)))) w) : o.wp Try.prog a w K Q := by
  unfold Oper.wp execOp
  simp only [ho, hx, hy]
  go_simp
  exact hK
theorem addb_3 {w : World} {a : Act} {K : Act → World → Prop} {Q : Exit → Act → World → Prop} {o : Oper} {x y : Operand} {m n r : Int} (ho : o.op = .binOp .add 3 x y 3) (hx : a.eval x = .int .i64 m) (hy : a.eval y = .int .i64 n) (hr : IntKind.i64.wrap (m + n) = r) (hK : K (a.put o.dst (.int .i64 r)) w) : o.wp Try.prog a w K Q := by
  subst hr
  unfold Oper.wp execOp
  simp only [ho, hx, hy]
  go_simp
  exact hK
theorem box_27 {w : World} {a : Act} {K : Act → World → Prop} {Q : Exit → Act → World → Prop} {o : Oper} {x : Operand} {c0 c1 : Value} (ho : o.op = .box 27 x) (hx : a.eval x = .agg #[c0, c1]) (hK : K (a.put o.dst (.pointer (some ⟨w.heap.size, 0, none⟩))) (w.alloc (.cells #[c0, c1] 27))) : o.wp Try.prog a w K Q := by
  unfold Oper.wp execOp
  simp only [ho, hx]
  go_simp
  exact hK
theorem fld_27_0 {w : World} {a : Act} {K : Act → World → Prop} {Q : Exit → Act → World → Prop} {o : Oper} {x : Operand} {b p : Nat} (ho : o.op = .fieldAddr 27 x 0) (hx : a.eval x = .pointer (some ⟨b, p, none⟩)) (hK : K (a.put o.dst (.pointer (some ⟨b, p, none⟩))) w) : o.wp Try.prog a w K Q := by
  unfold Oper.wp execOp
  simp only [ho, hx]
  go_simp
  exact hK
theorem ld_3 {w : World} {a : Act} {K : Act → World → Prop} {Q : Exit → Act → World → Prop} {o : Oper} {x : Operand} {p : Addr} {v : Value} (ho : o.op = .load 3 x) (hx : a.eval x = .pointer (some p)) (hc : w.cell? p = some v) (hK : K (a.put o.dst (v)) w) : o.wp Try.prog a w K Q := by
  unfold Oper.wp execOp
  simp only [ho, hx]
  go_simp
  exact hK
theorem sub_3 {w : World} {a : Act} {K : Act → World → Prop} {Q : Exit → Act → World → Prop} {o : Oper} {x y : Operand} {m n : Int} (ho : o.op = .binOp .sub 3 x y 3) (hx : a.eval x = .int .i64 m) (hy : a.eval y = .int .i64 n) (hK : K (a.put o.dst (.int .i64 (IntKind.i64.wrap (m - n)))) w) : o.wp Try.prog a w K Q := by
  unfold Oper.wp execOp
  simp only [ho, hx, hy]
  go_simp
  exact hK
theorem subb_3 {w : World} {a : Act} {K : Act → World → Prop} {Q : Exit → Act → World → Prop} {o : Oper} {x y : Operand} {m n r : Int} (ho : o.op = .binOp .sub 3 x y 3) (hx : a.eval x = .int .i64 m) (hy : a.eval y = .int .i64 n) (hr : IntKind.i64.wrap (m - n) = r) (hK : K (a.put o.dst (.int .i64 r)) w) : o.wp Try.prog a w K Q := by
  subst hr
  unfold Oper.wp execOp
  simp only [ho, hx, hy]
  go_simp
  exact hK
theorem eql_3 {w : World} {a : Act} {K : Act → World → Prop} {Q : Exit → Act → World → Prop} {o : Oper} {x y : Operand} {m n : Int} (ho : o.op = .binOp .eql 3 x y 3) (hx : a.eval x = .int .i64 m) (hy : a.eval y = .int .i64 n) (hK : K (a.put o.dst (.bool (m == n))) w) : o.wp Try.prog a w K Q := by
  unfold Oper.wp execOp
  simp only [ho, hx, hy]
  go_simp
  exact hK
theorem fld_27_1 {w : World} {a : Act} {K : Act → World → Prop} {Q : Exit → Act → World → Prop} {o : Oper} {x : Operand} {b p : Nat} (ho : o.op = .fieldAddr 27 x 1) (hx : a.eval x = .pointer (some ⟨b, p, none⟩)) (hK : K (a.put o.dst (.pointer (some ⟨b, p + 1, none⟩))) w) : o.wp Try.prog a w K Q := by
  unfold Oper.wp execOp
  simp only [ho, hx]
  go_simp
  exact hK
theorem ld_25 {w : World} {a : Act} {K : Act → World → Prop} {Q : Exit → Act → World → Prop} {o : Oper} {x : Operand} {p : Addr} {v : Value} (ho : o.op = .load 25 x) (hx : a.eval x = .pointer (some p)) (hc : w.cell? p = some v) (hK : K (a.put o.dst (v)) w) : o.wp Try.prog a w K Q := by
  unfold Oper.wp execOp
  simp only [ho, hx]
  go_simp
  exact hK
theorem alloc_24 {w : World} {a : Act} {K : Act → World → Prop} {Q : Exit → Act → World → Prop} {o : Oper} (ho : o.op = .alloc 24) (hK : K (a.put o.dst (.pointer (some ⟨w.heap.size, 0, none⟩))) (w.alloc (.cells #[.bool false, .slice none 0 0, .slice none 0 0, .int .i64 0] 24))) : o.wp Try.prog a w K Q := by
  unfold Oper.wp execOp
  simp only [ho]
  go_simp
  exact hK
theorem st_24 {w : World} {a : Act} {K : Act → World → Prop} {Q : Exit → Act → World → Prop} {o : Oper} {x y : Operand} {g p : Nat} {ty : TypeId} {cs : Array Value} {c0 c1 c2 c3 : Value} (ho : o.op = .store 24 x y) (hx : a.eval x = .pointer (some ⟨g, p, none⟩)) (hy : a.eval y = .agg #[c0, c1, c2, c3]) (k0 : c0.oneCell' = true) (k1 : c1.oneCell' = true) (k2 : c2.oneCell' = true) (k3 : c3.oneCell' = true) (hB : Blk w g ty cs) (hp : p + 3 < cs.size) (hK : ∀ v, K (a.put o.dst v) ((((w.setCell ⟨g, p, none⟩ c0).setCell ⟨g, p + 1, none⟩ c1).setCell ⟨g, p + 2, none⟩ c2).setCell ⟨g, p + 3, none⟩ c3)) : o.wp Try.prog a w K Q := by
  have h0 := (hB.cell (p)).trans (Array.getElem?_eq_getElem (by first | omega | (simp; omega)))
  have f0 := hB.frozen (p)
  have hB := hB.set_ (p) c0
  have h1 := (hB.cell (p + 1)).trans (Array.getElem?_eq_getElem (by first | omega | (simp; omega)))
  have f1 := hB.frozen (p + 1)
  have hB := hB.set_ (p + 1) c1
  have h2 := (hB.cell (p + 2)).trans (Array.getElem?_eq_getElem (by first | omega | (simp; omega)))
  have f2 := hB.frozen (p + 2)
  have hB := hB.set_ (p + 2) c2
  have h3 := (hB.cell (p + 3)).trans (Array.getElem?_eq_getElem (by first | omega | (simp; omega)))
  have f3 := hB.frozen (p + 3)
  have s0 := fun w a m => run_store Try.prog w a c0 m k0
  have s1 := fun w a m => run_store Try.prog w a c1 m k1
  have s2 := fun w a m => run_store Try.prog w a c2 m k2
  have s3 := fun w a m => run_store Try.prog w a c3 m k3
  clear hB
  unfold Oper.wp execOp
  simp only [ho, hx, hy]
  go_simp
  exact hK _
theorem alloc_27 {w : World} {a : Act} {K : Act → World → Prop} {Q : Exit → Act → World → Prop} {o : Oper} (ho : o.op = .alloc 27) (hK : K (a.put o.dst (.pointer (some ⟨w.heap.size, 0, none⟩))) (w.alloc (.cells #[.int .i64 0, .slice none 0 0] 27))) : o.wp Try.prog a w K Q := by
  unfold Oper.wp execOp
  simp only [ho]
  go_simp
  exact hK
theorem st_27 {w : World} {a : Act} {K : Act → World → Prop} {Q : Exit → Act → World → Prop} {o : Oper} {x y : Operand} {g p : Nat} {ty : TypeId} {cs : Array Value} {c0 c1 : Value} (ho : o.op = .store 27 x y) (hx : a.eval x = .pointer (some ⟨g, p, none⟩)) (hy : a.eval y = .agg #[c0, c1]) (k0 : c0.oneCell' = true) (k1 : c1.oneCell' = true) (hB : Blk w g ty cs) (hp : p + 1 < cs.size) (hK : ∀ v, K (a.put o.dst v) ((w.setCell ⟨g, p, none⟩ c0).setCell ⟨g, p + 1, none⟩ c1)) : o.wp Try.prog a w K Q := by
  have h0 := (hB.cell (p)).trans (Array.getElem?_eq_getElem (by first | omega | (simp; omega)))
  have f0 := hB.frozen (p)
  have hB := hB.set_ (p) c0
  have h1 := (hB.cell (p + 1)).trans (Array.getElem?_eq_getElem (by first | omega | (simp; omega)))
  have f1 := hB.frozen (p + 1)
  have s0 := fun w a m => run_store Try.prog w a c0 m k0
  have s1 := fun w a m => run_store Try.prog w a c1 m k1
  clear hB
  unfold Oper.wp execOp
  simp only [ho, hx, hy]
  go_simp
  exact hK _
theorem row_25_1 {w : World} {a : Act} {K : Act → World → Prop} {Q : Exit → Act → World → Prop} {o : Oper} {x0 : Operand} {c0 c1 : Value} (ho : o.op = .buildSlice 25 1 #[(0, x0)]) (h0 : a.eval x0 = .agg #[c0, c1]) (hK : K (a.put o.dst (.slice (some ⟨w.heap.size, 0, none⟩) 1 1)) (w.alloc (.cells #[c0, c1] 27))) : o.wp Try.prog a w K Q := by
  unfold Oper.wp execOp
  simp only [ho, List.map_toArray, List.map_cons, List.map_nil, h0]
  go_simp
  exact hK
theorem row_25_2 {w : World} {a : Act} {K : Act → World → Prop} {Q : Exit → Act → World → Prop} {o : Oper} {x0 x1 : Operand} {c0 c1 : Value} {c2 c3 : Value} (ho : o.op = .buildSlice 25 2 #[(0, x0), (1, x1)]) (h0 : a.eval x0 = .agg #[c0, c1]) (h1 : a.eval x1 = .agg #[c2, c3]) (hK : K (a.put o.dst (.slice (some ⟨w.heap.size, 0, none⟩) 2 2)) (w.alloc (.cells #[c0, c1, c2, c3] 27))) : o.wp Try.prog a w K Q := by
  unfold Oper.wp execOp
  simp only [ho, List.map_toArray, List.map_cons, List.map_nil, h0, h1]
  go_simp
  exact hK
theorem eql_30 {w : World} {a : Act} {K : Act → World → Prop} {Q : Exit → Act → World → Prop} {o : Oper} {x y : Operand} {m n : Int} (ho : o.op = .binOp .eql 30 x y 30) (hx : a.eval x = .int .i64 m) (hy : a.eval y = .int .i64 n) (hK : K (a.put o.dst (.bool (m == n))) w) : o.wp Try.prog a w K Q := by
  unfold Oper.wp execOp
  simp only [ho, hx, hy]
  go_simp
  exact hK
theorem build_24_0 {w : World} {a : Act} {K : Act → World → Prop} {Q : Exit → Act → World → Prop} {o : Oper} {x0 : Operand} {c0 : Bool} (ho : o.op = .build 24 #[(0, x0)]) (h0 : a.eval x0 = .bool c0) (hK : K (a.put o.dst (.agg #[.bool c0, .slice none 0 0, .slice none 0 0, .int .i64 0])) w) : o.wp Try.prog a w K Q := by
  unfold Oper.wp execOp
  simp only [ho, List.map_toArray, List.map_cons, List.map_nil, h0]
  go_simp
  exact hK
theorem fld_24_1 {w : World} {a : Act} {K : Act → World → Prop} {Q : Exit → Act → World → Prop} {o : Oper} {x : Operand} {b p : Nat} (ho : o.op = .fieldAddr 24 x 1) (hx : a.eval x = .pointer (some ⟨b, p, none⟩)) (hK : K (a.put o.dst (.pointer (some ⟨b, p + 1, none⟩))) w) : o.wp Try.prog a w K Q := by
  unfold Oper.wp execOp
  simp only [ho, hx]
  go_simp
  exact hK
theorem ld_22 {w : World} {a : Act} {K : Act → World → Prop} {Q : Exit → Act → World → Prop} {o : Oper} {x : Operand} {p : Addr} {v : Value} (ho : o.op = .load 22 x) (hx : a.eval x = .pointer (some p)) (hc : w.cell? p = some v) (hK : K (a.put o.dst (v)) w) : o.wp Try.prog a w K Q := by
  unfold Oper.wp execOp
  simp only [ho, hx]
  go_simp
  exact hK
theorem row_22_1 {w : World} {a : Act} {K : Act → World → Prop} {Q : Exit → Act → World → Prop} {o : Oper} {x0 : Operand} {c0 : Int} (ho : o.op = .buildSlice 22 1 #[(0, x0)]) (h0 : a.eval x0 = .int .i64 c0) (hK : K (a.put o.dst (.slice (some ⟨w.heap.size, 0, none⟩) 1 1)) (w.alloc (.cells #[.int .i64 c0] 3))) : o.wp Try.prog a w K Q := by
  unfold Oper.wp execOp
  simp only [ho, List.map_toArray, List.map_cons, List.map_nil, h0]
  go_simp
  exact hK
theorem app_22 {w : World} {a : Act} {K : Act → World → Prop} {Q : Exit → Act → World → Prop} {o : Oper} {s x : Operand} {n m rc : Nat} {S : Nat → Prop} {ra : Option Addr} {y : Value} {xs news : List Value} (ho : o.op = .call { callee := .builtin .append, args := #[s, x], argTypes := #[22, 22] }) (hs : a.eval s = .slice ra n rc) (hx : a.eval x = y) (hown : Own w S 3 1 ra rc n xs) (hsrc : SrcIs w y m news) (hl : news.length = m * 1) (h1 : ∀ u ∈ news, u.oneCell' = true)
    (hb : (n + m) * 8 ≤ 140737488355328) (hn : n + m ≤ 9223372036854775807) (hS : S w.heap.size) (hK : ∀ ra rc w', Own w' S 3 1 ra rc (n + m) (xs ++ news) → Chg S w w' → K (a.put o.dst (.slice ra (n + m) rc)) w') : o.wp Try.prog a w K Q :=
  wp_own Try.underlying22 (z := .int .i64 0) (size := 1) (bytes := 8) (by kernel_rfl) rfl (by decide) ho hs hx hown hsrc hl h1 hb hn hS hK
theorem st_22 {w : World} {a : Act} {K : Act → World → Prop} {Q : Exit → Act → World → Prop} {o : Oper} {x y : Operand} {g p : Nat} {ty : TypeId} {cs : Array Value} {c0a : Option Addr} {c0n c0c : Nat} (ho : o.op = .store 22 x y) (hx : a.eval x = .pointer (some ⟨g, p, none⟩)) (hy : a.eval y = .slice c0a c0n c0c) (hB : Blk w g ty cs) (hp : p + 0 < cs.size) (hK : ∀ v, K (a.put o.dst v) (w.setCell ⟨g, p, none⟩ (.slice c0a c0n c0c))) : o.wp Try.prog a w K Q := by
  have h0 := (hB.cell (p)).trans (Array.getElem?_eq_getElem (by first | omega | (simp; omega)))
  have f0 := hB.frozen (p)
  clear hB
  unfold Oper.wp execOp
  simp only [ho, hx, hy]
  go_simp
  exact hK _
theorem build_27_0_1 {w : World} {a : Act} {K : Act → World → Prop} {Q : Exit → Act → World → Prop} {o : Oper} {x0 x1 : Operand} {c0 : Int} {c1a : Option Addr} {c1n c1c : Nat} (ho : o.op = .build 27 #[(0, x0), (1, x1)]) (h0 : a.eval x0 = .int .i64 c0) (h1 : a.eval x1 = .slice c1a c1n c1c) (hK : K (a.put o.dst (.agg #[.int .i64 c0, .slice c1a c1n c1c])) w) : o.wp Try.prog a w K Q := by
  unfold Oper.wp execOp
  simp only [ho, List.map_toArray, List.map_cons, List.map_nil, h0, h1]
  go_simp
  exact hK
theorem gtr_3 {w : World} {a : Act} {K : Act → World → Prop} {Q : Exit → Act → World → Prop} {o : Oper} {x y : Operand} {m n : Int} (ho : o.op = .binOp .gtr 3 x y 3) (hx : a.eval x = .int .i64 m) (hy : a.eval y = .int .i64 n) (hK : K (a.put o.dst (.bool (decide (n < m)))) w) : o.wp Try.prog a w K Q := by
  unfold Oper.wp execOp
  simp only [ho, hx, hy]
  go_simp
  exact hK
theorem eql_4 {w : World} {a : Act} {K : Act → World → Prop} {Q : Exit → Act → World → Prop} {o : Oper} {x y : Operand} {m n : Bool} (ho : o.op = .binOp .eql 4 x y 4) (hx : a.eval x = .bool m) (hy : a.eval y = .bool n) (hK : K (a.put o.dst (.bool (m == n))) w) : o.wp Try.prog a w K Q := by
  unfold Oper.wp execOp
  simp only [ho, hx, hy]
  go_simp
  exact hK
theorem row_25_3 {w : World} {a : Act} {K : Act → World → Prop} {Q : Exit → Act → World → Prop} {o : Oper} {x0 x1 x2 : Operand} {c0 c1 : Value} {c2 c3 : Value} {c4 c5 : Value} (ho : o.op = .buildSlice 25 3 #[(0, x0), (1, x1), (2, x2)]) (h0 : a.eval x0 = .agg #[c0, c1]) (h1 : a.eval x1 = .agg #[c2, c3]) (h2 : a.eval x2 = .agg #[c4, c5]) (hK : K (a.put o.dst (.slice (some ⟨w.heap.size, 0, none⟩) 3 3)) (w.alloc (.cells #[c0, c1, c2, c3, c4, c5] 27))) : o.wp Try.prog a w K Q := by
  unfold Oper.wp execOp
  simp only [ho, List.map_toArray, List.map_cons, List.map_nil, h0, h1, h2]
  go_simp
  exact hK
theorem neq_30 {w : World} {a : Act} {K : Act → World → Prop} {Q : Exit → Act → World → Prop} {o : Oper} {x y : Operand} {m n : Int} (ho : o.op = .binOp .neq 30 x y 30) (hx : a.eval x = .int .i64 m) (hy : a.eval y = .int .i64 n) (hK : K (a.put o.dst (.bool (m != n))) w) : o.wp Try.prog a w K Q := by
  unfold Oper.wp execOp
  simp only [ho, hx, hy]
  go_simp
  exact hK
theorem neq_4 {w : World} {a : Act} {K : Act → World → Prop} {Q : Exit → Act → World → Prop} {o : Oper} {x y : Operand} {m n : Bool} (ho : o.op = .binOp .neq 4 x y 4) (hx : a.eval x = .bool m) (hy : a.eval y = .bool n) (hK : K (a.put o.dst (.bool (m != n))) w) : o.wp Try.prog a w K Q := by
  unfold Oper.wp execOp
  simp only [ho, hx, hy]
  go_simp
  exact hK
theorem len_40 {w : World} {a : Act} {K : Act → World → Prop} {Q : Exit → Act → World → Prop} {o : Oper} {x : Operand} {r : Option Addr} {n c : Nat} (ho : o.op = .call { callee := .builtin .len, args := #[x], argTypes := #[40] }) (hx : a.eval x = .slice r n c) (hK : K (a.put o.dst (.int .i64 n)) w) : o.wp Try.prog a w K Q := by
  unfold Oper.wp execOp
  simp only [ho, resolve, List.map_toArray, List.map_cons, List.map_nil, hx]
  go_simp
  exact hK
theorem ix_40 {w : World} {a : Act} {K : Act → World → Prop} {Q : Exit → Act → World → Prop} {o : Oper} {x y : Operand} {r : Option Addr} {b p n c k : Nat} (ho : o.op = .indexAddr 40 x y) (hx : a.eval x = .slice r n c) (hr : r = some ⟨b, p, none⟩) (hy : a.eval y = .int .i64 (k : Int)) (hk : k < n) (hK : K (a.put o.dst (.pointer (some ⟨b, p + k * 3, none⟩))) w) : o.wp Try.prog a w K Q := by
  subst hr
  have h0 : (0 : Int) ≤ (k : Int) := by omega
  have h1 : (k : Int) < (n : Int) := by omega
  unfold Oper.wp execOp
  simp only [ho, hx, hy]
  go_simp
  exact hK
theorem fld_44_1 {w : World} {a : Act} {K : Act → World → Prop} {Q : Exit → Act → World → Prop} {o : Oper} {x : Operand} {b p : Nat} (ho : o.op = .fieldAddr 44 x 1) (hx : a.eval x = .pointer (some ⟨b, p, none⟩)) (hK : K (a.put o.dst (.pointer (some ⟨b, p + 1, none⟩))) w) : o.wp Try.prog a w K Q := by
  unfold Oper.wp execOp
  simp only [ho, hx]
  go_simp
  exact hK
theorem len_22 {w : World} {a : Act} {K : Act → World → Prop} {Q : Exit → Act → World → Prop} {o : Oper} {x : Operand} {r : Option Addr} {n c : Nat} (ho : o.op = .call { callee := .builtin .len, args := #[x], argTypes := #[22] }) (hx : a.eval x = .slice r n c) (hK : K (a.put o.dst (.int .i64 n)) w) : o.wp Try.prog a w K Q := by
  unfold Oper.wp execOp
  simp only [ho, resolve, List.map_toArray, List.map_cons, List.map_nil, hx]
  go_simp
  exact hK
theorem fld_44_0 {w : World} {a : Act} {K : Act → World → Prop} {Q : Exit → Act → World → Prop} {o : Oper} {x : Operand} {b p : Nat} (ho : o.op = .fieldAddr 44 x 0) (hx : a.eval x = .pointer (some ⟨b, p, none⟩)) (hK : K (a.put o.dst (.pointer (some ⟨b, p, none⟩))) w) : o.wp Try.prog a w K Q := by
  unfold Oper.wp execOp
  simp only [ho, hx]
  go_simp
  exact hK
theorem ld_42 {w : World} {a : Act} {K : Act → World → Prop} {Q : Exit → Act → World → Prop} {o : Oper} {x : Operand} {p : Addr} {v : Value} (ho : o.op = .load 42 x) (hx : a.eval x = .pointer (some p)) (hc : w.cell? p = some v) (hK : K (a.put o.dst (v)) w) : o.wp Try.prog a w K Q := by
  unfold Oper.wp execOp
  simp only [ho, hx]
  go_simp
  exact hK
theorem ext2_0 {w : World} {a : Act} {K : Act → World → Prop} {Q : Exit → Act → World → Prop} {o : Oper} {x : Operand} {v0 v1 : Value} (ho : o.op = .extract x 0) (hx : a.eval x = .tuple #[v0, v1]) (hK : K (a.put o.dst (v0)) w) : o.wp Try.prog a w K Q := by
  unfold Oper.wp execOp
  simp only [ho, hx]
  go_simp
  exact hK
theorem ext3_0 {w : World} {a : Act} {K : Act → World → Prop} {Q : Exit → Act → World → Prop} {o : Oper} {x : Operand} {v0 v1 v2 : Value} (ho : o.op = .extract x 0) (hx : a.eval x = .tuple #[v0, v1, v2]) (hK : K (a.put o.dst (v0)) w) : o.wp Try.prog a w K Q := by
  unfold Oper.wp execOp
  simp only [ho, hx]
  go_simp
  exact hK
theorem ext2_1 {w : World} {a : Act} {K : Act → World → Prop} {Q : Exit → Act → World → Prop} {o : Oper} {x : Operand} {v0 v1 : Value} (ho : o.op = .extract x 1) (hx : a.eval x = .tuple #[v0, v1]) (hK : K (a.put o.dst (v1)) w) : o.wp Try.prog a w K Q := by
  unfold Oper.wp execOp
  simp only [ho, hx]
  go_simp
  exact hK
theorem ext3_1 {w : World} {a : Act} {K : Act → World → Prop} {Q : Exit → Act → World → Prop} {o : Oper} {x : Operand} {v0 v1 v2 : Value} (ho : o.op = .extract x 1) (hx : a.eval x = .tuple #[v0, v1, v2]) (hK : K (a.put o.dst (v1)) w) : o.wp Try.prog a w K Q := by
  unfold Oper.wp execOp
  simp only [ho, hx]
  go_simp
  exact hK
theorem geq_3 {w : World} {a : Act} {K : Act → World → Prop} {Q : Exit → Act → World → Prop} {o : Oper} {x y : Operand} {m n : Int} (ho : o.op = .binOp .geq 3 x y 3) (hx : a.eval x = .int .i64 m) (hy : a.eval y = .int .i64 n) (hK : K (a.put o.dst (.bool (decide (n ≤ m)))) w) : o.wp Try.prog a w K Q := by
  unfold Oper.wp execOp
  simp only [ho, hx, hy]
  go_simp
  exact hK
theorem len_63 {w : World} {a : Act} {K : Act → World → Prop} {Q : Exit → Act → World → Prop} {o : Oper} {x : Operand} {r : Option Addr} {n c : Nat} (ho : o.op = .call { callee := .builtin .len, args := #[x], argTypes := #[63] }) (hx : a.eval x = .slice r n c) (hK : K (a.put o.dst (.int .i64 n)) w) : o.wp Try.prog a w K Q := by
  unfold Oper.wp execOp
  simp only [ho, resolve, List.map_toArray, List.map_cons, List.map_nil, hx]
  go_simp
  exact hK
theorem build_84_0 {w : World} {a : Act} {K : Act → World → Prop} {Q : Exit → Act → World → Prop} {o : Oper} {x0 : Operand} {c0 c1 : Value} (ho : o.op = .build 84 #[(0, x0)]) (h0 : a.eval x0 = .agg #[c0, c1]) (hK : K (a.put o.dst (.agg #[c0, c1, .slice none 0 0])) w) : o.wp Try.prog a w K Q := by
  unfold Oper.wp execOp
  simp only [ho, List.map_toArray, List.map_cons, List.map_nil, h0]
  go_simp
  exact hK
theorem row_63_1 {w : World} {a : Act} {K : Act → World → Prop} {Q : Exit → Act → World → Prop} {o : Oper} {x0 : Operand} {c0 c1 c2 : Value} (ho : o.op = .buildSlice 63 1 #[(0, x0)]) (h0 : a.eval x0 = .agg #[c0, c1, c2]) (hK : K (a.put o.dst (.slice (some ⟨w.heap.size, 0, none⟩) 1 1)) (w.alloc (.cells #[c0, c1, c2] 84))) : o.wp Try.prog a w K Q := by
  unfold Oper.wp execOp
  simp only [ho, List.map_toArray, List.map_cons, List.map_nil, h0]
  go_simp
  exact hK
theorem app_63 {w : World} {a : Act} {K : Act → World → Prop} {Q : Exit → Act → World → Prop} {o : Oper} {s x : Operand} {n m rc : Nat} {S : Nat → Prop} {ra : Option Addr} {y : Value} {xs news : List Value} (ho : o.op = .call { callee := .builtin .append, args := #[s, x], argTypes := #[63, 63] }) (hs : a.eval s = .slice ra n rc) (hx : a.eval x = y) (hown : Own w S 84 3 ra rc n xs) (hsrc : SrcIs w y m news) (hl : news.length = m * 3) (h1 : ∀ u ∈ news, u.oneCell' = true)
    (hb : (n + m) * 56 ≤ 140737488355328) (hn : n + m ≤ 9223372036854775807) (hS : S w.heap.size) (hK : ∀ ra rc w', Own w' S 84 3 ra rc (n + m) (xs ++ news) → Chg S w w' → K (a.put o.dst (.slice ra (n + m) rc)) w') : o.wp Try.prog a w K Q :=
  wp_own Try.underlying63 (z := .agg #[.int .i64 0, .slice none 0 0, .slice none 0 0]) (size := 3) (bytes := 56) (by kernel_rfl) rfl (by decide) ho hs hx hown hsrc hl h1 hb hn hS hK
theorem ix_63 {w : World} {a : Act} {K : Act → World → Prop} {Q : Exit → Act → World → Prop} {o : Oper} {x y : Operand} {r : Option Addr} {b p n c k : Nat} (ho : o.op = .indexAddr 63 x y) (hx : a.eval x = .slice r n c) (hr : r = some ⟨b, p, none⟩) (hy : a.eval y = .int .i64 (k : Int)) (hk : k < n) (hK : K (a.put o.dst (.pointer (some ⟨b, p + k * 3, none⟩))) w) : o.wp Try.prog a w K Q := by
  subst hr
  have h0 : (0 : Int) ≤ (k : Int) := by omega
  have h1 : (k : Int) < (n : Int) := by omega
  unfold Oper.wp execOp
  simp only [ho, hx, hy]
  go_simp
  exact hK
theorem fld_84_1 {w : World} {a : Act} {K : Act → World → Prop} {Q : Exit → Act → World → Prop} {o : Oper} {x : Operand} {b p : Nat} (ho : o.op = .fieldAddr 84 x 1) (hx : a.eval x = .pointer (some ⟨b, p, none⟩)) (hK : K (a.put o.dst (.pointer (some ⟨b, p + 2, none⟩))) w) : o.wp Try.prog a w K Q := by
  unfold Oper.wp execOp
  simp only [ho, hx]
  go_simp
  exact hK
theorem nilCheck_ {w : World} {a : Act} {K : Act → World → Prop} {Q : Exit → Act → World → Prop} {o : Oper} {x : Operand} {p : Addr} (ho : o.op = .nilCheck x) (hx : a.eval x = .pointer (some p)) (hK : K (a.put o.dst (.pointer (some p))) w) : o.wp Try.prog a w K Q := by
  unfold Oper.wp execOp
  simp only [ho, hx]
  go_simp
  exact hK
theorem fld_67_3 {w : World} {a : Act} {K : Act → World → Prop} {Q : Exit → Act → World → Prop} {o : Oper} {x : Operand} {b p : Nat} (ho : o.op = .fieldAddr 67 x 3) (hx : a.eval x = .pointer (some ⟨b, p, none⟩)) (hK : K (a.put o.dst (.pointer (some ⟨b, p + 6, none⟩))) w) : o.wp Try.prog a w K Q := by
  unfold Oper.wp execOp
  simp only [ho, hx]
  go_simp
  exact hK
theorem ld_65 {w : World} {a : Act} {K : Act → World → Prop} {Q : Exit → Act → World → Prop} {o : Oper} {x : Operand} {p : Addr} {v : Value} (ho : o.op = .load 65 x) (hx : a.eval x = .pointer (some p)) (hc : w.cell? p = some v) (hK : K (a.put o.dst (v)) w) : o.wp Try.prog a w K Q := by
  unfold Oper.wp execOp
  simp only [ho, hx]
  go_simp
  exact hK
theorem ix_65 {w : World} {a : Act} {K : Act → World → Prop} {Q : Exit → Act → World → Prop} {o : Oper} {x y : Operand} {r : Option Addr} {b p n c k : Nat} (ho : o.op = .indexAddr 65 x y) (hx : a.eval x = .slice r n c) (hr : r = some ⟨b, p, none⟩) (hy : a.eval y = .int .i64 (k : Int)) (hk : k < n) (hK : K (a.put o.dst (.pointer (some ⟨b, p + k, none⟩))) w) : o.wp Try.prog a w K Q := by
  subst hr
  have h0 : (0 : Int) ≤ (k : Int) := by omega
  have h1 : (k : Int) < (n : Int) := by omega
  unfold Oper.wp execOp
  simp only [ho, hx, hy]
  go_simp
  exact hK
theorem ix_22 {w : World} {a : Act} {K : Act → World → Prop} {Q : Exit → Act → World → Prop} {o : Oper} {x y : Operand} {r : Option Addr} {b p n c k : Nat} (ho : o.op = .indexAddr 22 x y) (hx : a.eval x = .slice r n c) (hr : r = some ⟨b, p, none⟩) (hy : a.eval y = .int .i64 (k : Int)) (hk : k < n) (hK : K (a.put o.dst (.pointer (some ⟨b, p + k, none⟩))) w) : o.wp Try.prog a w K Q := by
  subst hr
  have h0 : (0 : Int) ≤ (k : Int) := by omega
  have h1 : (k : Int) < (n : Int) := by omega
  unfold Oper.wp execOp
  simp only [ho, hx, hy]
  go_simp
  exact hK
theorem st_3 {w : World} {a : Act} {K : Act → World → Prop} {Q : Exit → Act → World → Prop} {o : Oper} {x y : Operand} {g p : Nat} {ty : TypeId} {cs : Array Value} {c0 : Int} (ho : o.op = .store 3 x y) (hx : a.eval x = .pointer (some ⟨g, p, none⟩)) (hy : a.eval y = .int .i64 c0) (hB : Blk w g ty cs) (hp : p + 0 < cs.size) (hK : ∀ v, K (a.put o.dst v) (w.setCell ⟨g, p, none⟩ (.int .i64 c0))) : o.wp Try.prog a w K Q := by
  have h0 := (hB.cell (p)).trans (Array.getElem?_eq_getElem (by first | omega | (simp; omega)))
  have f0 := hB.frozen (p)
  clear hB
  unfold Oper.wp execOp
  simp only [ho, hx, hy]
  go_simp
  exact hK _
theorem fld_67_1 {w : World} {a : Act} {K : Act → World → Prop} {Q : Exit → Act → World → Prop} {o : Oper} {x : Operand} {b p : Nat} (ho : o.op = .fieldAddr 67 x 1) (hx : a.eval x = .pointer (some ⟨b, p, none⟩)) (hK : K (a.put o.dst (.pointer (some ⟨b, p + 4, none⟩))) w) : o.wp Try.prog a w K Q := by
  unfold Oper.wp execOp
  simp only [ho, hx]
  go_simp
  exact hK
theorem ld_63 {w : World} {a : Act} {K : Act → World → Prop} {Q : Exit → Act → World → Prop} {o : Oper} {x : Operand} {p : Addr} {v : Value} (ho : o.op = .load 63 x) (hx : a.eval x = .pointer (some p)) (hc : w.cell? p = some v) (hK : K (a.put o.dst (v)) w) : o.wp Try.prog a w K Q := by
  unfold Oper.wp execOp
  simp only [ho, hx]
  go_simp
  exact hK
theorem fld_84_0 {w : World} {a : Act} {K : Act → World → Prop} {Q : Exit → Act → World → Prop} {o : Oper} {x : Operand} {b p : Nat} (ho : o.op = .fieldAddr 84 x 0) (hx : a.eval x = .pointer (some ⟨b, p, none⟩)) (hK : K (a.put o.dst (.pointer (some ⟨b, p, none⟩))) w) : o.wp Try.prog a w K Q := by
  unfold Oper.wp execOp
  simp only [ho, hx]
  go_simp
  exact hK
theorem fld_67_2 {w : World} {a : Act} {K : Act → World → Prop} {Q : Exit → Act → World → Prop} {o : Oper} {x : Operand} {b p : Nat} (ho : o.op = .fieldAddr 67 x 2) (hx : a.eval x = .pointer (some ⟨b, p, none⟩)) (hK : K (a.put o.dst (.pointer (some ⟨b, p + 5, none⟩))) w) : o.wp Try.prog a w K Q := by
  unfold Oper.wp execOp
  simp only [ho, hx]
  go_simp
  exact hK
theorem neq_3 {w : World} {a : Act} {K : Act → World → Prop} {Q : Exit → Act → World → Prop} {o : Oper} {x y : Operand} {m n : Int} (ho : o.op = .binOp .neq 3 x y 3) (hx : a.eval x = .int .i64 m) (hy : a.eval y = .int .i64 n) (hK : K (a.put o.dst (.bool (m != n))) w) : o.wp Try.prog a w K Q := by
  unfold Oper.wp execOp
  simp only [ho, hx, hy]
  go_simp
  exact hK
theorem fld_67_0 {w : World} {a : Act} {K : Act → World → Prop} {Q : Exit → Act → World → Prop} {o : Oper} {x : Operand} {b p : Nat} (ho : o.op = .fieldAddr 67 x 0) (hx : a.eval x = .pointer (some ⟨b, p, none⟩)) (hK : K (a.put o.dst (.pointer (some ⟨b, p, none⟩))) w) : o.wp Try.prog a w K Q := by
  unfold Oper.wp execOp
  simp only [ho, hx]
  go_simp
  exact hK
theorem build_67_0_1_2 {w : World} {a : Act} {K : Act → World → Prop} {Q : Exit → Act → World → Prop} {o : Oper} {x0 x1 x2 : Operand} {c0 c1 c2 c3 : Value} {c4a : Option Addr} {c4n c4c : Nat} {c5a : Option Addr} {c5n c5c : Nat} (ho : o.op = .build 67 #[(0, x0), (1, x1), (2, x2)]) (h0 : a.eval x0 = .agg #[c0, c1, c2, c3]) (h1 : a.eval x1 = .slice c4a c4n c4c) (h2 : a.eval x2 = .slice c5a c5n c5c) (hK : K (a.put o.dst (.agg #[c0, c1, c2, c3, .slice c4a c4n c4c, .slice c5a c5n c5c, .slice none 0 0])) w) : o.wp Try.prog a w K Q := by
  unfold Oper.wp execOp
  simp only [ho, List.map_toArray, List.map_cons, List.map_nil, h0, h1, h2]
  go_simp
  exact hK
theorem box_67 {w : World} {a : Act} {K : Act → World → Prop} {Q : Exit → Act → World → Prop} {o : Oper} {x : Operand} {c0 c1 c2 c3 c4 c5 c6 : Value} (ho : o.op = .box 67 x) (hx : a.eval x = .agg #[c0, c1, c2, c3, c4, c5, c6]) (hK : K (a.put o.dst (.pointer (some ⟨w.heap.size, 0, none⟩))) (w.alloc (.cells #[c0, c1, c2, c3, c4, c5, c6] 67))) : o.wp Try.prog a w K Q := by
  unfold Oper.wp execOp
  simp only [ho, hx]
  go_simp
  exact hK
theorem row_65_1 {w : World} {a : Act} {K : Act → World → Prop} {Q : Exit → Act → World → Prop} {o : Oper} {x0 : Operand} {c0a : Option Addr} {c0n c0c : Nat} (ho : o.op = .buildSlice 65 1 #[(0, x0)]) (h0 : a.eval x0 = .slice c0a c0n c0c) (hK : K (a.put o.dst (.slice (some ⟨w.heap.size, 0, none⟩) 1 1)) (w.alloc (.cells #[.slice c0a c0n c0c] 22))) : o.wp Try.prog a w K Q := by
  unfold Oper.wp execOp
  simp only [ho, List.map_toArray, List.map_cons, List.map_nil, h0]
  go_simp
  exact hK
theorem app_65 {w : World} {a : Act} {K : Act → World → Prop} {Q : Exit → Act → World → Prop} {o : Oper} {s x : Operand} {n m rc : Nat} {S : Nat → Prop} {ra : Option Addr} {y : Value} {xs news : List Value} (ho : o.op = .call { callee := .builtin .append, args := #[s, x], argTypes := #[65, 65] }) (hs : a.eval s = .slice ra n rc) (hx : a.eval x = y) (hown : Own w S 22 1 ra rc n xs) (hsrc : SrcIs w y m news) (hl : news.length = m * 1) (h1 : ∀ u ∈ news, u.oneCell' = true)
    (hb : (n + m) * 24 ≤ 140737488355328) (hn : n + m ≤ 9223372036854775807) (hS : S w.heap.size) (hK : ∀ ra rc w', Own w' S 22 1 ra rc (n + m) (xs ++ news) → Chg S w w' → K (a.put o.dst (.slice ra (n + m) rc)) w') : o.wp Try.prog a w K Q :=
  wp_own Try.underlying65 (z := .slice none 0 0) (size := 1) (bytes := 24) (by kernel_rfl) rfl (by decide) ho hs hx hown hsrc hl h1 hb hn hS hK
theorem st_65 {w : World} {a : Act} {K : Act → World → Prop} {Q : Exit → Act → World → Prop} {o : Oper} {x y : Operand} {g p : Nat} {ty : TypeId} {cs : Array Value} {c0a : Option Addr} {c0n c0c : Nat} (ho : o.op = .store 65 x y) (hx : a.eval x = .pointer (some ⟨g, p, none⟩)) (hy : a.eval y = .slice c0a c0n c0c) (hB : Blk w g ty cs) (hp : p + 0 < cs.size) (hK : ∀ v, K (a.put o.dst v) (w.setCell ⟨g, p, none⟩ (.slice c0a c0n c0c))) : o.wp Try.prog a w K Q := by
  have h0 := (hB.cell (p)).trans (Array.getElem?_eq_getElem (by first | omega | (simp; omega)))
  have f0 := hB.frozen (p)
  clear hB
  unfold Oper.wp execOp
  simp only [ho, hx, hy]
  go_simp
  exact hK _
theorem build_75_0_1_2_3 {w : World} {a : Act} {K : Act → World → Prop} {Q : Exit → Act → World → Prop} {o : Oper} {x0 x1 x2 x3 : Operand} {c0 c1 c2 c3 : Value} {c4a : Option Addr} {c4n c4c : Nat} {c5a : Option Addr} {c5n c5c : Nat} {c6 : Option Nat} (ho : o.op = .build 75 #[(0, x0), (1, x1), (2, x2), (3, x3)]) (h0 : a.eval x0 = .agg #[c0, c1, c2, c3]) (h1 : a.eval x1 = .slice c4a c4n c4c) (h2 : a.eval x2 = .slice c5a c5n c5c) (h3 : a.eval x3 = .map c6) (hK : K (a.put o.dst (.agg #[c0, c1, c2, c3, .slice c4a c4n c4c, .slice c5a c5n c5c, .map c6])) w) : o.wp Try.prog a w K Q := by
  unfold Oper.wp execOp
  simp only [ho, List.map_toArray, List.map_cons, List.map_nil, h0, h1, h2, h3]
  go_simp
  exact hK
theorem box_75 {w : World} {a : Act} {K : Act → World → Prop} {Q : Exit → Act → World → Prop} {o : Oper} {x : Operand} {c0 c1 c2 c3 c4 c5 c6 : Value} (ho : o.op = .box 75 x) (hx : a.eval x = .agg #[c0, c1, c2, c3, c4, c5, c6]) (hK : K (a.put o.dst (.pointer (some ⟨w.heap.size, 0, none⟩))) (w.alloc (.cells #[c0, c1, c2, c3, c4, c5, c6] 75))) : o.wp Try.prog a w K Q := by
  unfold Oper.wp execOp
  simp only [ho, hx]
  go_simp
  exact hK
theorem len_71 {w : World} {a : Act} {K : Act → World → Prop} {Q : Exit → Act → World → Prop} {o : Oper} {x : Operand} {r : Option Addr} {n c : Nat} (ho : o.op = .call { callee := .builtin .len, args := #[x], argTypes := #[71] }) (hx : a.eval x = .slice r n c) (hK : K (a.put o.dst (.int .i64 n)) w) : o.wp Try.prog a w K Q := by
  unfold Oper.wp execOp
  simp only [ho, resolve, List.map_toArray, List.map_cons, List.map_nil, hx]
  go_simp
  exact hK
theorem build_86_0 {w : World} {a : Act} {K : Act → World → Prop} {Q : Exit → Act → World → Prop} {o : Oper} {x0 : Operand} {c0 c1 : Value} (ho : o.op = .build 86 #[(0, x0)]) (h0 : a.eval x0 = .agg #[c0, c1]) (hK : K (a.put o.dst (.agg #[c0, c1, .slice none 0 0])) w) : o.wp Try.prog a w K Q := by
  unfold Oper.wp execOp
  simp only [ho, List.map_toArray, List.map_cons, List.map_nil, h0]
  go_simp
  exact hK
theorem row_71_1 {w : World} {a : Act} {K : Act → World → Prop} {Q : Exit → Act → World → Prop} {o : Oper} {x0 : Operand} {c0 c1 c2 : Value} (ho : o.op = .buildSlice 71 1 #[(0, x0)]) (h0 : a.eval x0 = .agg #[c0, c1, c2]) (hK : K (a.put o.dst (.slice (some ⟨w.heap.size, 0, none⟩) 1 1)) (w.alloc (.cells #[c0, c1, c2] 86))) : o.wp Try.prog a w K Q := by
  unfold Oper.wp execOp
  simp only [ho, List.map_toArray, List.map_cons, List.map_nil, h0]
  go_simp
  exact hK
theorem app_71 {w : World} {a : Act} {K : Act → World → Prop} {Q : Exit → Act → World → Prop} {o : Oper} {s x : Operand} {n m rc : Nat} {S : Nat → Prop} {ra : Option Addr} {y : Value} {xs news : List Value} (ho : o.op = .call { callee := .builtin .append, args := #[s, x], argTypes := #[71, 71] }) (hs : a.eval s = .slice ra n rc) (hx : a.eval x = y) (hown : Own w S 86 3 ra rc n xs) (hsrc : SrcIs w y m news) (hl : news.length = m * 3) (h1 : ∀ u ∈ news, u.oneCell' = true)
    (hb : (n + m) * 56 ≤ 140737488355328) (hn : n + m ≤ 9223372036854775807) (hS : S w.heap.size) (hK : ∀ ra rc w', Own w' S 86 3 ra rc (n + m) (xs ++ news) → Chg S w w' → K (a.put o.dst (.slice ra (n + m) rc)) w') : o.wp Try.prog a w K Q :=
  wp_own Try.underlying71 (z := .agg #[.int .i64 0, .slice none 0 0, .slice none 0 0]) (size := 3) (bytes := 56) (by kernel_rfl) rfl (by decide) ho hs hx hown hsrc hl h1 hb hn hS hK
theorem ix_71 {w : World} {a : Act} {K : Act → World → Prop} {Q : Exit → Act → World → Prop} {o : Oper} {x y : Operand} {r : Option Addr} {b p n c k : Nat} (ho : o.op = .indexAddr 71 x y) (hx : a.eval x = .slice r n c) (hr : r = some ⟨b, p, none⟩) (hy : a.eval y = .int .i64 (k : Int)) (hk : k < n) (hK : K (a.put o.dst (.pointer (some ⟨b, p + k * 3, none⟩))) w) : o.wp Try.prog a w K Q := by
  subst hr
  have h0 : (0 : Int) ≤ (k : Int) := by omega
  have h1 : (k : Int) < (n : Int) := by omega
  unfold Oper.wp execOp
  simp only [ho, hx, hy]
  go_simp
  exact hK
theorem fld_86_1 {w : World} {a : Act} {K : Act → World → Prop} {Q : Exit → Act → World → Prop} {o : Oper} {x : Operand} {b p : Nat} (ho : o.op = .fieldAddr 86 x 1) (hx : a.eval x = .pointer (some ⟨b, p, none⟩)) (hK : K (a.put o.dst (.pointer (some ⟨b, p + 2, none⟩))) w) : o.wp Try.prog a w K Q := by
  unfold Oper.wp execOp
  simp only [ho, hx]
  go_simp
  exact hK
theorem build_88_0_1 {w : World} {a : Act} {K : Act → World → Prop} {Q : Exit → Act → World → Prop} {o : Oper} {x0 x1 : Operand} {c0 : Int} {c1 : Int} (ho : o.op = .build 88 #[(0, x0), (1, x1)]) (h0 : a.eval x0 = .int .i64 c0) (h1 : a.eval x1 = .int .i64 c1) (hK : K (a.put o.dst (.agg #[.int .i64 c0, .int .i64 c1])) w) : o.wp Try.prog a w K Q := by
  unfold Oper.wp execOp
  simp only [ho, List.map_toArray, List.map_cons, List.map_nil, h0, h1]
  go_simp
  exact hK
theorem alloc_88 {w : World} {a : Act} {K : Act → World → Prop} {Q : Exit → Act → World → Prop} {o : Oper} (ho : o.op = .alloc 88) (hK : K (a.put o.dst (.pointer (some ⟨w.heap.size, 0, none⟩))) (w.alloc (.cells #[.int .i64 0, .int .i64 0] 88))) : o.wp Try.prog a w K Q := by
  unfold Oper.wp execOp
  simp only [ho]
  go_simp
  exact hK
theorem st_88 {w : World} {a : Act} {K : Act → World → Prop} {Q : Exit → Act → World → Prop} {o : Oper} {x y : Operand} {g p : Nat} {ty : TypeId} {cs : Array Value} {c0 c1 : Value} (ho : o.op = .store 88 x y) (hx : a.eval x = .pointer (some ⟨g, p, none⟩)) (hy : a.eval y = .agg #[c0, c1]) (k0 : c0.oneCell' = true) (k1 : c1.oneCell' = true) (hB : Blk w g ty cs) (hp : p + 1 < cs.size) (hK : ∀ v, K (a.put o.dst v) ((w.setCell ⟨g, p, none⟩ c0).setCell ⟨g, p + 1, none⟩ c1)) : o.wp Try.prog a w K Q := by
  have h0 := (hB.cell (p)).trans (Array.getElem?_eq_getElem (by first | omega | (simp; omega)))
  have f0 := hB.frozen (p)
  have hB := hB.set_ (p) c0
  have h1 := (hB.cell (p + 1)).trans (Array.getElem?_eq_getElem (by first | omega | (simp; omega)))
  have f1 := hB.frozen (p + 1)
  have s0 := fun w a m => run_store Try.prog w a c0 m k0
  have s1 := fun w a m => run_store Try.prog w a c1 m k1
  clear hB
  unfold Oper.wp execOp
  simp only [ho, hx, hy]
  go_simp
  exact hK _
theorem fld_75_3 {w : World} {a : Act} {K : Act → World → Prop} {Q : Exit → Act → World → Prop} {o : Oper} {x : Operand} {b p : Nat} (ho : o.op = .fieldAddr 75 x 3) (hx : a.eval x = .pointer (some ⟨b, p, none⟩)) (hK : K (a.put o.dst (.pointer (some ⟨b, p + 6, none⟩))) w) : o.wp Try.prog a w K Q := by
  unfold Oper.wp execOp
  simp only [ho, hx]
  go_simp
  exact hK
theorem ld_73 {w : World} {a : Act} {K : Act → World → Prop} {Q : Exit → Act → World → Prop} {o : Oper} {x : Operand} {p : Addr} {v : Value} (ho : o.op = .load 73 x) (hx : a.eval x = .pointer (some p)) (hc : w.cell? p = some v) (hK : K (a.put o.dst (v)) w) : o.wp Try.prog a w K Q := by
  unfold Oper.wp execOp
  simp only [ho, hx]
  go_simp
  exact hK
theorem ld_88 {w : World} {a : Act} {K : Act → World → Prop} {Q : Exit → Act → World → Prop} {o : Oper} {x : Operand} {b p : Nat} {c0 c1 : Value} (ho : o.op = .load 88 x) (hx : a.eval x = .pointer (some ⟨b, p, none⟩)) (h0 : w.cell? ⟨b, p, none⟩ = some c0) (h1 : w.cell? ⟨b, p + 1, none⟩ = some c1) (hK : K (a.put o.dst (.agg #[c0, c1])) w) : o.wp Try.prog a w K Q := by
  unfold Oper.wp execOp
  simp only [ho, hx]
  go_simp
  exact hK
theorem fld_75_1 {w : World} {a : Act} {K : Act → World → Prop} {Q : Exit → Act → World → Prop} {o : Oper} {x : Operand} {b p : Nat} (ho : o.op = .fieldAddr 75 x 1) (hx : a.eval x = .pointer (some ⟨b, p, none⟩)) (hK : K (a.put o.dst (.pointer (some ⟨b, p + 4, none⟩))) w) : o.wp Try.prog a w K Q := by
  unfold Oper.wp execOp
  simp only [ho, hx]
  go_simp
  exact hK
theorem ld_71 {w : World} {a : Act} {K : Act → World → Prop} {Q : Exit → Act → World → Prop} {o : Oper} {x : Operand} {p : Addr} {v : Value} (ho : o.op = .load 71 x) (hx : a.eval x = .pointer (some p)) (hc : w.cell? p = some v) (hK : K (a.put o.dst (v)) w) : o.wp Try.prog a w K Q := by
  unfold Oper.wp execOp
  simp only [ho, hx]
  go_simp
  exact hK
theorem fld_86_0 {w : World} {a : Act} {K : Act → World → Prop} {Q : Exit → Act → World → Prop} {o : Oper} {x : Operand} {b p : Nat} (ho : o.op = .fieldAddr 86 x 0) (hx : a.eval x = .pointer (some ⟨b, p, none⟩)) (hK : K (a.put o.dst (.pointer (some ⟨b, p, none⟩))) w) : o.wp Try.prog a w K Q := by
  unfold Oper.wp execOp
  simp only [ho, hx]
  go_simp
  exact hK
theorem row_90_4 {w : World} {a : Act} {K : Act → World → Prop} {Q : Exit → Act → World → Prop} {o : Oper} {x0 x1 x2 x3 : Operand} {c0f : Fn} {c0x c0y : Array Value} {c1f : Fn} {c1x c1y : Array Value} {c2f : Fn} {c2x c2y : Array Value} {c3f : Fn} {c3x c3y : Array Value} (ho : o.op = .buildSlice 90 4 #[(0, x0), (1, x1), (2, x2), (3, x3)]) (h0 : a.eval x0 = .func c0f c0x c0y) (h1 : a.eval x1 = .func c1f c1x c1y) (h2 : a.eval x2 = .func c2f c2x c2y) (h3 : a.eval x3 = .func c3f c3x c3y) (hK : K (a.put o.dst (.slice (some ⟨w.heap.size, 0, none⟩) 4 4)) (w.alloc (.cells #[.func c0f c0x c0y, .func c1f c1x c1y, .func c2f c2x c2y, .func c3f c3x c3y] 68))) : o.wp Try.prog a w K Q := by
  unfold Oper.wp execOp
  simp only [ho, List.map_toArray, List.map_cons, List.map_nil, h0, h1, h2, h3]
  go_simp
  exact hK
theorem len_90 {w : World} {a : Act} {K : Act → World → Prop} {Q : Exit → Act → World → Prop} {o : Oper} {x : Operand} {r : Option Addr} {n c : Nat} (ho : o.op = .call { callee := .builtin .len, args := #[x], argTypes := #[90] }) (hx : a.eval x = .slice r n c) (hK : K (a.put o.dst (.int .i64 n)) w) : o.wp Try.prog a w K Q := by
  unfold Oper.wp execOp
  simp only [ho, resolve, List.map_toArray, List.map_cons, List.map_nil, hx]
  go_simp
  exact hK
theorem ix_90 {w : World} {a : Act} {K : Act → World → Prop} {Q : Exit → Act → World → Prop} {o : Oper} {x y : Operand} {r : Option Addr} {b p n c k : Nat} (ho : o.op = .indexAddr 90 x y) (hx : a.eval x = .slice r n c) (hr : r = some ⟨b, p, none⟩) (hy : a.eval y = .int .i64 (k : Int)) (hk : k < n) (hK : K (a.put o.dst (.pointer (some ⟨b, p + k, none⟩))) w) : o.wp Try.prog a w K Q := by
  subst hr
  have h0 : (0 : Int) ≤ (k : Int) := by omega
  have h1 : (k : Int) < (n : Int) := by omega
  unfold Oper.wp execOp
  simp only [ho, hx, hy]
  go_simp
  exact hK
theorem ld_68 {w : World} {a : Act} {K : Act → World → Prop} {Q : Exit → Act → World → Prop} {o : Oper} {x : Operand} {p : Addr} {v : Value} (ho : o.op = .load 68 x) (hx : a.eval x = .pointer (some p)) (hc : w.cell? p = some v) (hK : K (a.put o.dst (v)) w) : o.wp Try.prog a w K Q := by
  unfold Oper.wp execOp
  simp only [ho, hx]
  go_simp
  exact hK
theorem fld_75_2 {w : World} {a : Act} {K : Act → World → Prop} {Q : Exit → Act → World → Prop} {o : Oper} {x : Operand} {b p : Nat} (ho : o.op = .fieldAddr 75 x 2) (hx : a.eval x = .pointer (some ⟨b, p, none⟩)) (hK : K (a.put o.dst (.pointer (some ⟨b, p + 5, none⟩))) w) : o.wp Try.prog a w K Q := by
  unfold Oper.wp execOp
  simp only [ho, hx]
  go_simp
  exact hK
theorem fld_75_0 {w : World} {a : Act} {K : Act → World → Prop} {Q : Exit → Act → World → Prop} {o : Oper} {x : Operand} {b p : Nat} (ho : o.op = .fieldAddr 75 x 0) (hx : a.eval x = .pointer (some ⟨b, p, none⟩)) (hK : K (a.put o.dst (.pointer (some ⟨b, p, none⟩))) w) : o.wp Try.prog a w K Q := by
  unfold Oper.wp execOp
  simp only [ho, hx]
  go_simp
  exact hK
theorem ld_86 {w : World} {a : Act} {K : Act → World → Prop} {Q : Exit → Act → World → Prop} {o : Oper} {x : Operand} {b p : Nat} {c0 c1 c2 : Value} (ho : o.op = .load 86 x) (hx : a.eval x = .pointer (some ⟨b, p, none⟩)) (h0 : w.cell? ⟨b, p, none⟩ = some c0) (h1 : w.cell? ⟨b, p + 1, none⟩ = some c1) (h2 : w.cell? ⟨b, p + 2, none⟩ = some c2) (hK : K (a.put o.dst (.agg #[c0, c1, c2])) w) : o.wp Try.prog a w K Q := by
  unfold Oper.wp execOp
  simp only [ho, hx]
  go_simp
  exact hK
theorem alloc_86 {w : World} {a : Act} {K : Act → World → Prop} {Q : Exit → Act → World → Prop} {o : Oper} (ho : o.op = .alloc 86) (hK : K (a.put o.dst (.pointer (some ⟨w.heap.size, 0, none⟩))) (w.alloc (.cells #[.int .i64 0, .slice none 0 0, .slice none 0 0] 86))) : o.wp Try.prog a w K Q := by
  unfold Oper.wp execOp
  simp only [ho]
  go_simp
  exact hK
theorem st_86 {w : World} {a : Act} {K : Act → World → Prop} {Q : Exit → Act → World → Prop} {o : Oper} {x y : Operand} {g p : Nat} {ty : TypeId} {cs : Array Value} {c0 c1 c2 : Value} (ho : o.op = .store 86 x y) (hx : a.eval x = .pointer (some ⟨g, p, none⟩)) (hy : a.eval y = .agg #[c0, c1, c2]) (k0 : c0.oneCell' = true) (k1 : c1.oneCell' = true) (k2 : c2.oneCell' = true) (hB : Blk w g ty cs) (hp : p + 2 < cs.size) (hK : ∀ v, K (a.put o.dst v) (((w.setCell ⟨g, p, none⟩ c0).setCell ⟨g, p + 1, none⟩ c1).setCell ⟨g, p + 2, none⟩ c2)) : o.wp Try.prog a w K Q := by
  have h0 := (hB.cell (p)).trans (Array.getElem?_eq_getElem (by first | omega | (simp; omega)))
  have f0 := hB.frozen (p)
  have hB := hB.set_ (p) c0
  have h1 := (hB.cell (p + 1)).trans (Array.getElem?_eq_getElem (by first | omega | (simp; omega)))
  have f1 := hB.frozen (p + 1)
  have hB := hB.set_ (p + 1) c1
  have h2 := (hB.cell (p + 2)).trans (Array.getElem?_eq_getElem (by first | omega | (simp; omega)))
  have f2 := hB.frozen (p + 2)
  have s0 := fun w a m => run_store Try.prog w a c0 m k0
  have s1 := fun w a m => run_store Try.prog w a c1 m k1
  have s2 := fun w a m => run_store Try.prog w a c2 m k2
  clear hB
  unfold Oper.wp execOp
  simp only [ho, hx, hy]
  go_simp
  exact hK _
theorem min_3 {w : World} {a : Act} {K : Act → World → Prop} {Q : Exit → Act → World → Prop} {o : Oper} {x y : Operand} {m n : Int} (ho : o.op = .call { callee := .builtin .min, args := #[x, y], argTypes := #[3, 3] }) (hx : a.eval x = .int .i64 m) (hy : a.eval y = .int .i64 n) (hK : K (a.put o.dst (.int .i64 (min m n))) w) : o.wp Try.prog a w K Q := by
  unfold Oper.wp execOp
  simp only [ho, resolve, List.map_toArray, List.map_cons, List.map_nil, hx, hy]
  go_simp
  first
    | exact hK
    | (have e : min m n = (if n < m then n else m) := by split <;> omega
       rw [e] at hK
       exact hK)
theorem alloc_22 {w : World} {a : Act} {K : Act → World → Prop} {Q : Exit → Act → World → Prop} {o : Oper} (ho : o.op = .alloc 22) (hK : K (a.put o.dst (.pointer (some ⟨w.heap.size, 0, none⟩))) (w.alloc (.cells #[.slice none 0 0] 22))) : o.wp Try.prog a w K Q := by
  unfold Oper.wp execOp
  simp only [ho]
  go_simp
  exact hK

end Go.Proofs.Ytlkiabgpnboicaa
