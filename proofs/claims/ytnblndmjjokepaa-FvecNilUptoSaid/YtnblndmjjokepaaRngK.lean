/- Loops over functions that lay boxes of their own: a round leaves all cells outside 'S' as they are. -/
import Derived.Test.YtnblndmjjokepaaRng
namespace Go.Proofs.Ytnblndmjjokepaa
open Go.RowKit Go
set_option linter.unusedVariables false
set_option linter.unusedSimpArgs false

/-- What is cells, outside 'S', stays; so does all below 'B', outside 'S'. -/
structure Kpt (S : Nat → Prop) (B : Nat) (w w' : World) : Prop where
  os : w'.os = w.os
  tape : w'.tape = w.tape
  output : w'.output = w.output
  size : w.heap.size ≤ w'.heap.size
  block : ∀ (k : Nat) (o : Obj), w.heap[k]? = some o → (o.isCells = true ∨ k < B) → ¬ S k → w'.heap[k]? = some o
theorem Chg.toBelow {w w' : World} (h : Chg (fun b => b < 0) w w') : Below w.heap.size w w' := ⟨h.os, h.tape, h.output, h.size, fun k hk => h.block k hk (fun q => by omega)⟩
section
variable {S : Nat → Prop} {B : Nat} {w w' w'' : World}
theorem Kpt.refl : Kpt S B w w := ⟨rfl, rfl, rfl, Nat.le_refl _, fun _ _ h _ _ => h⟩
theorem Kpt.trans (h : Kpt S B w w') (k : Kpt S B w' w'') : Kpt S B w w'' :=
  ⟨k.os.trans h.os, k.tape.trans h.tape, k.output.trans h.output, Nat.le_trans h.size k.size, fun i o hi ho hS => k.block i o (h.block i o hi ho hS) ho hS⟩
theorem Kpt.ofChg (h : Chg S w w') : Kpt S B w w' := ⟨h.os, h.tape, h.output, h.size, fun k o hk _ hS => (h.block k (Array.getElem?_eq_some_iff.1 hk).1 hS).trans hk⟩
theorem Kpt.ofBelow (h : Below w.heap.size w w') : Kpt S B w w' := Kpt.ofChg (.ofBelow h)
theorem Kpt.put {l : Nat} {o o' : Obj} (hl : B ≤ l) (h : w.heap[l]? = some o) (ho : o.isCells = false) : Kpt S B w (w.putObj l o') := by
  have hg := grownBy_putObj' w l o'
  refine ⟨hg.os, hg.tape, hg.output, hg.size, fun k u hk hu hS => (hg.block k (Array.getElem?_eq_some_iff.1 hk).1 (fun e => ?_)).trans hk⟩
  obtain rfl : k = l := Option.some.inj e
  rw [h] at hk; obtain rfl := Option.some.inj hk
  rcases hu with hu | hu
  · rw [ho] at hu; cases hu
  · omega
theorem Kpt.blk {b : Nat} {t : TypeId} {cs : Array Value} (k : Kpt S B w w') (h : Blk w b t cs) (hS : ¬ S b) : Blk w' b t cs := k.block b _ h (.inl rfl) hS
theorem Kpt.below {w0 : World} (k : Kpt S B w w') (h : Below w0.heap.size w0 w) (hB : w0.heap.size ≤ B) (hS : ∀ b, b < w0.heap.size → ¬ S b) : Below w0.heap.size w0 w' :=
  ⟨k.os.trans h.os, k.tape.trans h.tape, k.output.trans h.output, Nat.le_trans h.size k.size, fun i hi => by
    have := h.block i hi
    rw [Array.getElem?_eq_getElem hi] at this ⊢
    exact k.block i _ this (.inr (by omega)) (hS i hi)⟩
theorem Kpt.cell {p : Addr} {v : Value} (k : Kpt S B w w') (hS : ¬ S p.block) (h : w.cell? p = some v) : w'.cell? p = some v := by
  have hlt := World.block_lt_of_cell? _ _ h
  have hh := h
  unfold World.cell? at h ⊢
  rw [Array.getElem?_eq_getElem hlt] at h
  have hc : (w.heap[p.block]).isCells = true := by
    cases hx : w.heap[p.block] with
    | cells a b c => rfl
    | _ => simp [hx] at h
  rw [k.block p.block _ (Array.getElem?_eq_getElem hlt) (.inl hc) hS]
  exact h
end

section
variable {P : Program} {N : Nat} {ds : List Deferred}
/-- The law of a loop over a function whose rounds leave all cells outside 'S'. -/
theorem WC.rangeK {α γ : Type} {g : Operand} {ps : List Nat} {assign body : Code} {Q : Exit → Act → World → Prop} {K : Known} {w : World} (S : Nat → Prop) {gf : Nat} {lb : Array Value} (hg : ev K g = some (.func (.func gf) #[] lb)) (hF : callB P gf = true) (hp : (ps.all fun p => Nat.blt p N) = true)
    {encs : α → List Value} {Sx Sp : List α → Prop} {M : Nat} {w0 : World} (hseq : SeqStopsK Fence.wide 0 P gf lb (fun x => (encs x).toArray) (Kpt S w.heap.size) Sx Sp M w0)
    (hb0 : Below w0.heap.size w0 w) (hps : ∀ x, (encs x).length = ps.length)
    (KB : α → γ → Known) (AW : α → γ → World → Prop) (I : List α → World → Prop) (Ix : Code → List α → World → Prop) (hI : ∀ s W W', Turn w.heap.size W W' → I s W → I s W') (hIx : ∀ c s W W', Turn w.heap.size W W' → Ix c s W → Ix c s W')
    (hAW : ∀ x y W W', Turn w.heap.size W W' → AW x y W → AW x y W') (h0 : I [] w)
    (hassign : ∀ (l : Nat) (pre : List α) (x : α) (W : World), I pre W → WC P ⟨N, [], some l⟩ ((ps.zip (encs x)).foldl (fun K p => (p.1, p.2) :: K) K) W assign (Exit.then (fun a' W' => Below W.heap.size W W' ∧ ∃ y, Kn ⟨N, [], some l⟩ (KB x y) a' ∧ AW x y W') (fun _ _ _ => False)))
    (hbody : ∀ (l : Nat) (pre : List α) (x : α) (y : γ) (W : World), I pre W → AW x y W → pre.length < M → WC P ⟨N, [], some l⟩ (KB x y) W body (ownPostG w.heap.size (Kpt S w.heap.size) I Ix (pre ++ [x]) W))
    (hdone : ∀ (D : Nat) (xs : List α) (W : World), w.heap.size ≤ D → Sx xs → I xs W → Mk W D → WE ⟨N, markOf D :: ds, none⟩ K W Q .normal)
    (hstop : ∀ (D : Nat) (c : Code) (pre : List α) (W : World), w.heap.size ≤ D → Sp pre → Ix c pre W → Mk W D → WC P ⟨N, markOf D :: ds, none⟩ K W c Q) :
    WC P ⟨N, ds, none⟩ K w (.rangeFunc g ps.toArray assign body) Q := by
  intro a ha
  have turn : ∀ {W W' : World} {row : Option Nat}, W.grownBy W' row → (∀ r, row = some r → w.heap.size ≤ r ∧ ∃ o : Obj, W.heap[r]? = some o ∧ o.isCells = false) → Turn w.heap.size W W' := fun h hr => Turn.of h hr
  refine wpIn_n (r := none) (n := 1) (wpIn_rangeFunc_ownH (F := Fence.wide) (n := 1) rfl (Nat.le_refl _) (ha.ev hg) trivial (callB_enters hF) (encs := fun x => (encs x).toArray) hseq (fun h k => h.trans k) (fun W l o o' hl h ho _ => Kpt.put hl h ho) hb0 (fun x => by simpa using hps x)
    I Ix (fun s W W' row h hg hr => hI s W W' (turn hg hr) h) (fun c s W W' row h hg hr => hIx c s W W' (turn hg hr) h) h0 (fun x a' W => ∃ y, Kn ⟨N, [], none⟩ (KB x y) a' ∧ AW x y W) (fun x a' s W W' row h hg hr => by
      obtain ⟨y, h1, h2⟩ := h
      exact ⟨y, h1, hAW x y W W' (turn hg hr) h2⟩) ?_ ?_ ?_ ?_)
  · intro l pre x W C hi hC
    have ha' : Kn ⟨N, [], some l⟩ ((ps.zip (encs x)).foldl (fun K p => (p.1, p.2) :: K) K) ⟨(ps.zip (encs x)).foldl (fun t p => t.setIfInBounds p.1 p.2) a.tmps, []⟩ := by
      have h1 : Kn ⟨N, [], none⟩ K ⟨a.tmps, []⟩ := ⟨ha.size, rfl, ha.knows⟩
      have h2 := h1.sets (vs := encs x) hp
      exact ⟨h2.size, rfl, h2.knows⟩
    have e : ((ps.toArray.zip (encs x).toArray).foldl (fun t (p, v) => t.setIfInBounds p v) a.tmps) = (ps.zip (encs x)).foldl (fun t p => t.setIfInBounds p.1 p.2) a.tmps := by simp
    rw [e]
    refine wpIn_mono (hassign l pre x W hi _ ha') ?_
    intro e a1 W1 h
    cases e with
    | normal =>
      obtain ⟨hb, y, hk, hA⟩ := h
      exact hC a1 W1 (keepsFrom_below hb) (.ofBelow hb) (hI _ _ _ ⟨hb.os, hb.tape, hb.output, hb.size, fun k o hk _ => (hb.block k (Array.getElem?_eq_some_iff.1 hk).1).trans hk⟩ hi) ⟨y, ⟨hk.size, hk.defers, hk.knows⟩, hA⟩
    | _ => exact h
  · rintro l pre x a' W _ _ hi ⟨y, hk, hA⟩ hlen
    exact hbody l pre x y W hi hA hlen a' ⟨hk.size, hk.defers, hk.knows⟩
  · intro D xs W hD hs hi hw
    exact hdone D xs W hD hs hi hw _ ⟨ha.size, by rw [ha.defers], ha.knows⟩
  · intro D c pre W hD hs hi hw
    exact wpIn_n (r := none) (hstop D c pre W hD hs hi hw _ ⟨ha.size, by rw [ha.defers], ha.knows⟩)
end

/-- What has been handed out stays so, behind steps that change nothing that was there. -/
theorem abide_below {β : Type} {B : Nat} {J : List β → World → Prop} (hA : AbidesFrom B J) {pre : List β} {w w' : World} (h : J pre w) (hb : Below w.heap.size w w') : J pre w' :=
  hA pre w w' none h (grown_of_below hb) (fun r e => by cases e)
/-! ### Loops over functions within loops: the marks are told by a list -/
structure Marks (B : Nat) (w : World) (l : List Nat) : Prop where
  nodup : l.Nodup
  at_ : ∀ D, D ∈ l → B ≤ D ∧ Mk w D
section
variable {B : Nat} {w w' : World} {l : List Nat}
theorem Marks.nil : Marks B w [] := ⟨List.nodup_nil, fun D h => by simp at h⟩
theorem Marks.base (h : Marks B w l) {D : Nat} (hD : D ∈ l) : B ≤ D := (h.at_ D hD).1
theorem Marks.lt (h : Marks B w l) {D : Nat} (hD : D ∈ l) : D < w.heap.size := (h.at_ D hD).2.lt
theorem Marks.below (h : Marks B w l) (hb : Below w.heap.size w w') : Marks B w' l := ⟨h.nodup, fun D hD => ⟨h.base hD, (h.at_ D hD).2.below hb⟩⟩
theorem Marks.upd {g : Nat} (h : Marks B w l) (hu : Upd g w w') (hg : ∃ o : Obj, w.heap[g]? = some o ∧ o.isCells = true) : Marks B w' l := ⟨h.nodup, fun D hD => ⟨h.base hD, (h.at_ D hD).2.upd hu (fun e => by
  obtain ⟨o, h1, h2⟩ := hg
  have h3 := (h.at_ D hD).2
  subst e
  unfold Mk at h3
  rw [h1] at h3
  obtain rfl := Option.some.inj h3
  cases h2)⟩⟩
theorem Marks.chg {S : Nat → Prop} (h : Marks B w l) (hc : Chg S w w') (hS : ∀ D, D ∈ l → ¬ S D) : Marks B w' l := ⟨h.nodup, fun D hD => ⟨h.base hD, (h.at_ D hD).2.chg hc (hS D hD)⟩⟩
theorem Marks.turn {Bt : Nat} (h : Marks B w l) (t : Turn Bt w w') (hl : ∀ D, D ∈ l → D < Bt) : Marks B w' l := ⟨h.nodup, fun D hD => ⟨h.base hD, t.block D _ (h.at_ D hD).2 (.inr (hl D hD))⟩⟩
theorem Marks.cons {D : Nat} (h : Marks B w l) (hw : Mk w D) (hB : B ≤ D) (hn : ∀ D', D' ∈ l → D' < D) : Marks B w (D :: l) :=
  ⟨List.nodup_cons.2 ⟨fun q => Nat.lt_irrefl _ (hn D q), h.nodup⟩, fun D' hD' => by
    rcases List.mem_cons.1 hD' with rfl | q
    · exact ⟨hB, hw⟩
    · exact h.at_ D' q⟩
theorem Marks.shut (h : Marks B w l) : ∃ w', Shut (l.map markOf) w w' ∧ Chg (fun b => b ∈ l) w w' ∧ (∀ (k : Nat) (o : Obj), w.heap[k]? = some o → o.isCells = true → w'.heap[k]? = some o) :=
  shut_all l w (fun D hD => (h.at_ D hD).2) h.nodup
end
section
variable {P : Program} {n : Fr} {K : Known} {w : World} {c : Code} {Q : Exit → Act → World → Prop}
theorem WC.loopD {X : Type} (μ : X → Nat) (KI : X → Known) (J : X → List Nat → World → Prop) (x0 : X) (l0 : List Nat) (hd : n.ds = l0.map markOf) (hs : subK (KI x0) K) (h0 : J x0 l0 w)
    (round : ∀ x l w, J x l w → WC P ⟨n.n, l.map markOf, n.r⟩ (KI x) w c (Exit.then (fun a' w' => ∃ x' l', (Kn ⟨n.n, l'.map markOf, n.r⟩ (KI x') a' ∧ J x' l' w') ∧ μ x' < μ x) Q)) : WC P n K w (.loop c) Q :=
  fun a ha => wp_loop_ghost (X := X × List Nat) (fun x a w => Kn ⟨n.n, x.2.map markOf, n.r⟩ (KI x.1) a ∧ J x.1 x.2 w) (fun x => μ x.1) (x0 := (x0, l0)) ⟨by rw [← hd]; exact ha.sub hs, h0⟩ (fun x a w h => by
    refine wpIn_mono (round x.1 x.2 w h.2 a h.1) ?_
    rintro e a' w' h
    cases e with
    | normal => obtain ⟨x', l', h1, h2⟩ := h; exact ⟨(x', l'), h1, h2⟩
    | _ => exact h)
theorem WE.roundD {X : Type} {N : Nat} {ds : List Deferred} {r : Option Nat} {μ : X → Nat} {KI : X → Known} {J : X → List Nat → World → Prop} {x : X} (x' : X) (l' : List Nat) (hd : ds = l'.map markOf) (hs : subK (KI x') K) (hJ : J x' l' w) (hm : μ x' < μ x) :
    WE ⟨N, ds, r⟩ K w (Exit.then (fun a' w' => ∃ x' l', (Kn ⟨N, l'.map markOf, r⟩ (KI x') a' ∧ J x' l' w') ∧ μ x' < μ x) Q) .normal := fun _ ha => ⟨x', l', ⟨by rw [← hd]; exact ha.sub hs, hJ⟩, hm⟩
end
end Go.Proofs.Ytnblndmjjokepaa
