/- 'box = append(box, make(..))' in a region that draws its order. -/
import Derived.Test.YtlkiabgpnboicaaLay
namespace Go.Proofs.Ytlkiabgpnboicaa
open Go.RowKit Go

section
variable {w0 w w' : World} {S : Nat → Prop} {e tI nI n rc g ty ix : Nat} {ra : Option Addr} {xs : List Value} {cs zI : Array Value} {vm vb vp vq : Option Value}
structure MkS (w0 : World) (S : Nat → Prop) (e tI nI : Nat) (zI : Array Value) (ra : Option Addr) (rc n : Nat) (xs : List Value) (g ty : Nat) (cs : Array Value) (ix : Nat) (vm vb vp vq : Option Value) (w : World) : Prop where
  chg : Chg (fun b => S b ∨ b = g) w0 w
  q0 : vq = none → Chg S w0 w ∧ Blk w g ty cs
  m0 : vm = none → vb = none
  b0 : vb = none → vp = none
  p0 : vp = none → Own w S e 1 ra rc n xs ∧ vq = none
  m1 : ∀ v, vm = some v → ∃ gI, v = .slice (some ⟨gI, 0, none⟩) nI nI ∧ w0.heap.size ≤ gI ∧ Blk w gI tI zI
  b1 : vp = none → ∀ v, vb = some v → ∃ g1 u, vm = some u ∧ v = .slice (some ⟨g1, 0, none⟩) 1 1 ∧ Blk w g1 e #[u]
  p1 : ∀ v, vp = some v → ∃ (b' rc' gI : Nat), vm = some (.slice (some ⟨gI, 0, none⟩) nI nI) ∧ v = .slice (some ⟨b', 0, none⟩) (n + 1) rc' ∧ Own w (fun b => b = b') e 1 (some ⟨b', 0, none⟩) rc' (n + 1) (xs ++ [.slice (some ⟨gI, 0, none⟩) nI nI]) ∧ (S b' ∨ w0.heap.size ≤ b') ∧ b' ≠ gI ∧ b' < w.heap.size ∧ (vq ≠ none → Blk w g ty (cs.setIfInBounds ix v))
def MkG (w0 : World) (S : Nat → Prop) (e tI nI : Nat) (zI : Array Value) (ra : Option Addr) (rc n : Nat) (xs : List Value) (g ty : Nat) (cs : Array Value) (ix : Nat) : List (Option Value) → World → Prop
  | [vm, vb, vp, vq], w => MkS w0 S e tI nI zI ra rc n xs g ty cs ix vm vb vp vq w
  | _, _ => False

theorem MkS.make (h : MkS w0 S e tI nI zI ra rc n xs g ty cs ix none vb vp vq w) : MkS w0 S e tI nI zI ra rc n xs g ty cs ix (some (.slice (some ⟨w.heap.size, 0, none⟩) nI nI)) vb vp vq (w.alloc (.cells zI tI)) := by
  have h1 := h.m0 rfl
  have h2 := h.b0 h1
  obtain ⟨h3, h4⟩ := h.p0 h2
  subst h1 h2 h4
  have hb := balloc w (.cells zI tI)
  have hq := h.q0 rfl
  exact ⟨h.chg.trans (.ofBelow hb), fun _ => ⟨hq.1.trans (.ofBelow hb), hq.2.below hb⟩, (fun e => by cases e), fun _ => rfl, fun _ => ⟨h3.below hb, rfl⟩, fun v hv => ⟨_, (Option.some.inj hv).symm, hq.1.size, Blk.new' rfl⟩, (fun _ v hv => by cases hv), (fun v hv => by cases hv)⟩
theorem MkS.row {u : Value} (h : MkS w0 S e tI nI zI ra rc n xs g ty cs ix (some u) none vp vq w) : MkS w0 S e tI nI zI ra rc n xs g ty cs ix (some u) (some (.slice (some ⟨w.heap.size, 0, none⟩) 1 1)) vp vq (w.alloc (.cells #[u] e)) := by
  have h2 := h.b0 rfl
  obtain ⟨h3, h4⟩ := h.p0 h2
  subst h2 h4
  have hb := balloc w (.cells #[u] e)
  have hq := h.q0 rfl
  refine ⟨h.chg.trans (.ofBelow hb), fun _ => ⟨hq.1.trans (.ofBelow hb), hq.2.below hb⟩, (fun e => by cases e), (fun e => by cases e), fun _ => ⟨h3.below hb, rfl⟩, fun v hv => ?_, fun _ v hv => ⟨_, u, rfl, (Option.some.inj hv).symm, Blk.new' rfl⟩, (fun v hv => by cases hv)⟩
  obtain ⟨gI, h5, h6, h7⟩ := h.m1 v hv
  exact ⟨gI, h5, h6, h7.below hb⟩
theorem MkS.app {ra' : Option Addr} {rc' gI : Nat} {x : Value} (h : MkS w0 S e tI nI zI ra rc n xs g ty cs ix (some (.slice (some ⟨gI, 0, none⟩) nI nI)) (some x) none none w) (ho : Own w' (fun b => S b ∨ b = w.heap.size) e 1 ra' rc' (n + 1) (xs ++ [.slice (some ⟨gI, 0, none⟩) nI nI])) (hc : Chg (fun b => S b ∨ b = w.heap.size) w w') (hg : ¬ S g) (hS : ∀ b, S b → b < w0.heap.size) :
    MkS w0 S e tI nI zI ra rc n xs g ty cs ix (some (.slice (some ⟨gI, 0, none⟩) nI nI)) (some x) (some (.slice ra' (n + 1) rc')) none w' := by
  obtain ⟨hq1, hq2⟩ := h.q0 rfl
  obtain ⟨gI', e1, h5, h6⟩ := h.m1 _ rfl
  simp only [Value.slice.injEq, Option.some.injEq, Addr.mk.injEq, and_true] at e1
  subst e1
  have hlt := h6.lt
  have hgl := hq2.lt
  have hsz := hq1.size
  have hc0 : Chg S w0 w' := hq1.trans2 hc (fun b hb hb2 => by rcases hb2 with z | z; exact z; omega)
  obtain ⟨b', hb1, rfl, hb2, hb3⟩ := own_pick ho (by omega)
  have hI : ¬ (S gI ∨ gI = w.heap.size) := by rintro (z | z); have := hS _ z; omega; omega
  have hG : ¬ (S g ∨ g = w.heap.size) := by rintro (z | z); exact hg z; omega
  refine ⟨hc0.mono (fun _ z => .inl z), fun _ => ⟨hc0, chg_blk hq2 hc hG⟩, (fun e => by cases e), (fun e => by cases e), (fun e => by cases e), fun v hv => ⟨gI, (Option.some.inj hv).symm, h5, chg_blk h6 hc hI⟩, (fun e => by cases e), fun v hv => ⟨b', rc', gI, rfl, (Option.some.inj hv).symm, hb3, ?_, ?_, hb2, fun z => absurd rfl z⟩⟩
  · rcases hb1 with z | z
    · exact .inl z
    · exact .inr (by omega)
  · rintro rfl
    exact hI hb1
theorem MkS.store {u x y q : Value} (h : MkS w0 S e tI nI zI ra rc n xs g ty cs ix (some u) (some x) (some y) none w) (hu : Upd g w w') (hB : Blk w' g ty (cs.setIfInBounds ix y)) (hg : ¬ S g) (hgl : g < w0.heap.size) : MkS w0 S e tI nI zI ra rc n xs g ty cs ix (some u) (some x) (some y) (some q) w' := by
  refine ⟨h.chg.trans (.ofUpd hu (.inr rfl)), (fun e => by cases e), (fun e => by cases e), (fun e => by cases e), (fun e => by cases e), fun v hv => ?_, (fun e => by cases e), fun v hv => ?_⟩
  · obtain ⟨gI, h5, h6, h7⟩ := h.m1 v hv
    exact ⟨gI, h5, h6, upd_blk h7 hu (by omega)⟩
  · obtain ⟨b', rc', gI, h1, h2, h3, h4, h5, h6, _⟩ := h.p1 v hv
    obtain rfl := Option.some.inj hv
    refine ⟨b', rc', gI, h1, h2, h3.upd hu ?_, h4, h5, by rw [hu.size]; exact h6, fun _ => hB⟩
    rintro rfl
    rcases h4 with z | z
    · exact hg z
    · omega
end

section
variable {P : Program} {ops : Array Oper}
structure CtxM (ops : Array Oper) (l : List (Bool × Value)) (chain : List Nat) (n : Nat) (K : Known) (w0 : World) (S : Nat → Prop) (g ty : Nat) (cs : Array Value) (o : Oper) (a : Act) (w : World) : Prop where
  chg : Chg S w0 w
  blk : Blk w g ty cs
  kn : Kn n K a
  dep : ∀ j d, depB ops o j d = true → chain.contains j = false → valR l j (a.tmps.getD d undef)
/-- What an operation finds that may come behind the store. -/
structure CtxW (ops : Array Oper) (l : List (Bool × Value)) (chain : List Nat) (n : Nat) (K : Known) (g : Nat) (cs : Array Value) (ix : Nat) (o : Oper) (a : Act) (w : World) : Prop where
  cell : ∀ j u, j ≠ ix → cs[j]? = some u → w.cell? ⟨g, j, none⟩ = some u
  kn : Kn n K a
  dep : ∀ j d, depB ops o j d = true → chain.contains j = false → valR l j (a.tmps.getD d undef)
def SoundM (P : Program) (ops : Array Oper) (Q : Exit → Act → World → Prop) (l : List (Bool × Value)) (n : Nat) (K : Known) (w0 : World) (S : Nat → Prop) (e tI nI : Nat) (zI : Array Value) (ra : Option Addr) (rc ln : Nat) (xs : List Value) (g ty : Nat) (cs : Array Value) (ix im ib ip iq : Nat) : Nat → List Oper → Prop
  | _, [] => True
  | i, o :: r => ((([im, ib, ip, iq].contains i = false ∧ o.guard = none ∧
      (∀ a w, CtxW ops l [im, ib, ip, iq] n K g cs ix o a w → o.wp P a w (fun a' w' => ∃ v, a' = Act.put a o.dst v ∧ w' = w ∧ valR l i v) Q))) ∨
    (([im, ib, ip, iq].contains i = false ∧ afterB ops iq i = true ∧ o.guard = none ∧
      (∀ a w, CtxM ops l [im, ib, ip, iq] n K w0 S g ty cs o a w → o.wp P a w (fun a' w' => ∃ v, a' = Act.put a o.dst v ∧ w' = w ∧ valR l i v) Q))) ∨
    (i = im ∧ o.guard = none ∧ afterB ops iq im = true ∧ ∀ a w, CtxM ops l [im, ib, ip, iq] n K w0 S g ty cs o a w →
      (o.wp P a w (fun a' w' => a' = Act.put a o.dst (.slice (some ⟨w.heap.size, 0, none⟩) nI nI) ∧ w' = w.alloc (.cells zI tI)) Q)) ∨
    (i = ib ∧ o.guard = none ∧ afterB ops iq ib = true ∧ (∃ dm, depB ops o im dm = true ∧ ∀ a w gI, CtxM ops l [im, ib, ip, iq] n K w0 S g ty cs o a w → a.tmps.getD dm undef = .slice (some ⟨gI, 0, none⟩) nI nI →
      (o.wp P a w (fun a' w' => a' = Act.put a o.dst (.slice (some ⟨w.heap.size, 0, none⟩) 1 1) ∧ w' = w.alloc (.cells #[.slice (some ⟨gI, 0, none⟩) nI nI] e)) Q))) ∨
    (i = ip ∧ o.guard = none ∧ afterB ops iq ip = true ∧ (∃ db, depB ops o ib db = true ∧ ∀ a w g1 gI, CtxM ops l [im, ib, ip, iq] n K w0 S g ty cs o a w → Own w S e 1 ra rc ln xs → a.tmps.getD db undef = .slice (some ⟨g1, 0, none⟩) 1 1 → Blk w g1 e #[.slice (some ⟨gI, 0, none⟩) nI nI] →
      (o.wp P a w (fun a' w' => ∃ ra' rc', a' = Act.put a o.dst (.slice ra' (ln + 1) rc') ∧ Own w' (fun b => S b ∨ b = w.heap.size) e 1 ra' rc' (ln + 1) (xs ++ [.slice (some ⟨gI, 0, none⟩) nI nI]) ∧ Chg (fun b => S b ∨ b = w.heap.size) w w') Q))) ∨
    (i = iq ∧ o.guard = none ∧ (∃ dp, depB ops o ip dp = true ∧ ∀ a w ra' rc', CtxM ops l [im, ib, ip, iq] n K w0 S g ty cs o a w → a.tmps.getD dp undef = .slice ra' (ln + 1) rc' →
      (o.wp P a w (fun a' w' => ∃ v, a' = Act.put a o.dst v ∧ Upd g w w' ∧ Blk w' g ty (cs.setIfInBounds ix (.slice ra' (ln + 1) rc'))) Q)))) ∧ SoundM P ops Q l n K w0 S e tI nI zI ra rc ln xs g ty cs ix im ib ip iq (i + 1) r

theorem SoundM.gen {Q : Exit → Act → World → Prop} {l : List (Bool × Value)} {n : Nat} {K : Known} {w0 : World} {S : Nat → Prop} {e tI nI : Nat} {zI : Array Value} {ra : Option Addr} {rc ln : Nat} {xs : List Value} {g ty : Nat} {cs : Array Value} {ix im ib ip iq : Nat} (hS : ¬ S g) (hSl : ∀ b, S b → b < w0.heap.size) (hgl : g < w0.heap.size) : ∀ {lo : List Oper} {i : Nat}, SoundM P ops Q l n K w0 S e tI nI zI ra rc ln xs g ty cs ix im ib ip iq i lo →
    SoundFromG P ops Q [im, ib, ip, iq] (fun i v _ => valR l i v) (fun _ _ => True) (MkG w0 S e tI nI zI ra rc ln xs g ty cs ix) n K i lo
  | [], _, _ => trivial
  | o :: r, i, ⟨h, hr⟩ => by
    refine ⟨?_, hr.gen hS hSl hgl⟩
    have mk : ∀ {a : Act} {w : World} {vs : List (Option Value)} (_ : CtxG ops [im, ib, ip, iq] (fun i v _ => valR l i v) (MkG w0 S e tI nI zI ra rc ln xs g ty cs ix) n K i o a w vs), vs[3]? = some none → CtxM ops l [im, ib, ip, iq] n K w0 S g ty cs o a w := by
      intro a w vs C h2
      match vs, C.len with
      | [vm, vb, vp, vq], _ =>
        have hq : vq = none := by simpa using h2
        have := MkS.q0 C.now hq
        exact ⟨this.1, this.2, C.kn, C.dep⟩
    rcases h with ⟨h1, h3, h4⟩ | ⟨h1, h2, h3, h4⟩ | ⟨rfl, h1, h2, h3⟩ | ⟨rfl, h1, h2, dm, h3, h4⟩ | ⟨rfl, h1, h2, db, h3, h4⟩ | ⟨rfl, h1, dp, h2, h3⟩
    · refine .inl ⟨h1, true, .none h3, fun gg b hb => by (rw [h3] at hb; cases hb), (fun e => by cases e), fun _ a w vs C => ?_⟩
      have hcell : ∀ j u, j ≠ ix → cs[j]? = some u → w.cell? ⟨g, j, none⟩ = some u := by
        match vs, C.len, C.now with
        | [vm, vb, vp, vq], _, hG =>
          have hG' : MkS w0 S e tI nI zI ra rc ln xs g ty cs ix vm vb vp vq w := hG
          intro j u hj hu
          cases vq with
          | none => exact ((hG'.q0 rfl).2.cell j).trans hu
          | some x =>
            cases vp with
            | none => have := (hG'.p0 rfl).2; cases this
            | some v =>
              obtain ⟨_, _, _, _, _, _, _, _, _, hb⟩ := hG'.p1 v rfl
              refine ((hb (by simp)).cell j).trans ?_
              rw [Array.getElem?_setIfInBounds, if_neg (fun e => hj e.symm)]; exact hu
      refine Oper.wp_mono ?_ (h4 a w ⟨hcell, C.kn, C.dep⟩)
      rintro a' w' ⟨v, rfl, rfl, hv⟩
      exact ⟨v, rfl, trivial, C.now, hv⟩
    · refine .inl ⟨h1, true, .none h3, fun gg b hb => by (rw [h3] at hb; cases hb), (fun e => by cases e), fun _ a w vs C => ?_⟩
      refine Oper.wp_mono ?_ (h4 a w (mk C (C.most 3 iq rfl h2)))
      rintro a' w' ⟨v, rfl, rfl, hv⟩
      exact ⟨v, rfl, trivial, C.now, hv⟩
    · refine .inr ⟨0, rfl, h1, fun a w vs C hn => ?_⟩
      have e2 := C.most 3 iq rfl h2
      refine Oper.wp_mono ?_ (h3 a w (mk C e2))
      rintro a' w' ⟨rfl, rfl⟩
      match vs, C.len, hn, C.now with
      | [vm, vb, vp, vq], _, hn, hG =>
        simp only [List.getElem?_cons_zero, Option.some.injEq] at hn
        subst hn
        exact ⟨_, rfl, trivial, MkS.make hG⟩
    · refine .inr ⟨1, rfl, h1, fun a w vs C hn => ?_⟩
      have e2 := C.most 3 iq rfl h2
      have e0 := C.link 0 im dm rfl h3
      match vs, C.len, hn, e0, e2, C.now, C with
      | [vm, vb, vp, vq], _, hn, e0, e2, hG, C =>
        have hn' := hn
        simp only [List.getElem?_cons_zero, List.getElem?_cons_succ, Option.some.injEq] at hn' e0
        subst hn' e0
        obtain ⟨gI, h5, _⟩ := MkS.m1 hG _ rfl
        refine Oper.wp_mono ?_ (h4 a w gI (mk C e2) h5)
        rintro a' w' ⟨rfl, rfl⟩
        have hG' : MkS w0 S e tI nI zI ra rc ln xs g ty cs ix (some (a.tmps.getD dm undef)) none vp vq w := hG
        refine ⟨_, rfl, trivial, ?_⟩
        have := MkS.row hG'
        rw [h5] at this
        show MkS w0 S e tI nI zI ra rc ln xs g ty cs ix (some (a.tmps.getD dm undef)) _ vp vq _
        rw [h5]; exact this
    · refine .inr ⟨2, rfl, h1, fun a w vs C hn => ?_⟩
      have e2 := C.most 3 iq rfl h2
      have e0 := C.link 1 ib db rfl h3
      match vs, C.len, hn, e0, e2, C.now, C with
      | [vm, vb, vp, vq], _, hn, e0, e2, hG, C =>
        have e2' := e2
        simp only [List.getElem?_cons_zero, List.getElem?_cons_succ, Option.some.injEq] at hn e0 e2'
        subst hn e0 e2'
        obtain ⟨g1, u, rfl, h5, h6⟩ := MkS.b1 hG rfl _ rfl
        obtain ⟨gI, rfl, _⟩ := MkS.m1 hG _ rfl
        refine Oper.wp_mono ?_ (h4 a w g1 gI (mk C e2) (MkS.p0 hG rfl).1 h5 h6)
        rintro a' w' ⟨ra', rc', rfl, h7, h8⟩
        exact ⟨_, rfl, trivial, MkS.app hG h7 h8 hS hSl⟩
    · refine .inr ⟨3, rfl, h1, fun a w vs C hn => ?_⟩
      have e1 := C.link 2 ip dp rfl h2
      match vs, C.len, hn, e1, C.now, C with
      | [vm, vb, vp, vq], _, hn, e1, hG, C =>
        have hn' := hn
        simp only [List.getElem?_cons_zero, List.getElem?_cons_succ, Option.some.injEq] at hn' e1
        subst hn' e1
        obtain ⟨b', rc', gI, hm, h5, _⟩ := MkS.p1 hG _ rfl
        subst hm
        have hb : ∃ x, vb = some x := by
          cases vb with
          | none => have := MkS.b0 hG rfl; cases this
          | some x => exact ⟨x, rfl⟩
        obtain ⟨x, rfl⟩ := hb
        refine Oper.wp_mono ?_ (h3 a w _ rc' (mk C hn) h5)
        rintro a' w' ⟨v, rfl, h7, h8⟩
        rw [← h5] at h8
        exact ⟨v, rfl, trivial, MkS.store hG h7 h8 hS hgl⟩

theorem WC.mk {id : Nat} {dr : Bool} {Q : Exit → Act → World → Prop} {n : Nat} {K : Known} {w : World} (l : List (Bool × Value)) (K0 : Known) {S : Nat → Prop} {e tI nI : Nat} {zI : Array Value} {ra : Option Addr} {rc ln : Nat} {xs : List Value} {g ty : Nat} {cs : Array Value} (ix im ib ip iq : Nat)
    (hd : ([im, ib, ip, iq]).Nodup) (hin : (([im, ib, ip, iq]).all fun c => Nat.blt c ops.size) = true) (hS : ¬ S g) (hSl : ∀ b, S b → b < w.heap.size) (ho : Own w S e 1 ra rc ln xs) (hBk : Blk w g ty cs)
    (hs : subK K0 K) (hclear : clearB ops K0 = true) (hm : P.follows .mixedOrders = true) (hB : opsB ops n = true)
    (h : SoundM P ops Q l n K0 w S e tI nI zI ra rc ln xs g ty cs ix im ib ip iq 0 ops.toList)
    (hQ : ∀ (a : Act) (w' : World) (b' rc' gI : Nat), Kn n K0 a → Chg (fun b => S b ∨ b = g) w w' → Own w' (fun b => b = b') e 1 (some ⟨b', 0, none⟩) rc' (ln + 1) (xs ++ [.slice (some ⟨gI, 0, none⟩) nI nI]) → (S b' ∨ w.heap.size ≤ b') → b' ≠ gI → b' < w'.heap.size → w.heap.size ≤ gI → Blk w' gI tI zI → Blk w' g ty (cs.setIfInBounds ix (.slice (some ⟨b', 0, none⟩) (ln + 1) rc')) → (∀ i d, (ops[i]?).bind (·.dst) = some d → ([im, ib, ip, iq]).contains i = false → valR l i (a.tmps.getD d undef)) → Q .normal a w') :
    WC P n K w (.region id ops dr) Q := by
  have hgl := hBk.lt
  refine WC.gen [im, ib, ip, iq] (fun i v _ => valR l i v) (fun _ _ => True) (MkG w S e tI nI zI ra rc ln xs g ty cs ix) K0 hs hclear hm hB hd hin (fun _ _ _ _ h _ => h) ?_ (h.gen hS hSl hgl) (fun a w' vs hk hlen hall hG hu _ => ?_)
  · have st : ∀ w' : World, Below w.heap.size w w' → MkS w S e tI nI zI ra rc ln xs g ty cs ix none none none none w' := fun w' hb => ⟨.ofBelow hb, fun _ => ⟨.ofBelow hb, hBk.below hb⟩, fun _ => rfl, fun _ => rfl, fun _ => ⟨ho.below hb, rfl⟩, (fun v hv => by cases hv), (fun _ v hv => by cases hv), (fun v hv => by cases hv)⟩
    cases dr with
    | true => exact st _ (Below.refl _ _).drew
    | false => exact st _ (Below.refl _ _)
  · obtain ⟨v2, hv2⟩ := hall 2 (by simp)
    obtain ⟨v3, hv3⟩ := hall 3 (by simp)
    match vs, hlen, hv2, hv3, hG with
    | [vm, vb, vp, vq], _, hv2, hv3, hG =>
      simp only [List.getElem?_cons_zero, List.getElem?_cons_succ, Option.some.injEq] at hv2 hv3
      subst hv2 hv3
      obtain ⟨b', rc', gI, rfl, rfl, h3, h4, h5, h6, h7⟩ := MkS.p1 hG _ rfl
      obtain ⟨gI', e1, h8, h9⟩ := MkS.m1 hG _ rfl
      simp only [Value.slice.injEq, Option.some.injEq, Addr.mk.injEq, and_true] at e1
      subst e1
      exact hQ a w' b' rc' gI hk (MkS.chg hG) h3 h4 h5 h6 h8 h9 (h7 (by simp)) hu
end

end Go.Proofs.Ytlkiabgpnboicaa
