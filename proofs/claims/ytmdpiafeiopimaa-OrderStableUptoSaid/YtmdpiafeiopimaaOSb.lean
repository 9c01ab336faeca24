/- Terms that are the same: the program's way. -/
import Derived.Test.YtmdpiafeiopimaaOSa
import Derived.Sort.Walk0
import Derived.WalkKit
import Derived.Test.YtmdpiafeiopimaaProg
import Derived.Shelf.SlGeneric
import Derived.Ground.SlgmProg
import Derived.Shelf.SortM.Plain
import Derived.Shelf.SortM.SortNone
import Derived.Shelf.Slices.CompactI
import Derived.Shelf.Slices.Empties
import Derived.Shelf.Slices.Turned
import Derived.Ground.NamesProg
import Derived.Ground.Names2Prog
import Derived.Sort.OwnSortedInts

/- Maps from pairs of numbers to truth values: what all their entries are. -/
namespace Go.Proofs.Ytmdpiafeiopimaa
open Go.RowKit Go.Sort Go
def prV (x : Nat × Nat) : Value := .agg #[.int .i64 x.1, .int .i64 x.2]
theorem eqPr (a b c d : Int) (w : World) : (binOp .eql 109 (.agg #[.int .i64 a, .int .i64 b]) (.agg #[.int .i64 c, .int .i64 d])).run Try.prog w = .ok (.bool (decide (a = c ∧ b = d))) w := by
  have hS : Try.prog.underlying 109 = some (.struct (Try.prog.fieldsOf 109)) := by kernel_rfl
  have hp : Try.prog.stoodInHeld 109 = false := by kernel_rfl
  have u2 := Try.underlying3
  rw [run_eql_struct, show (10000 : Nat) = 9999 + 1 from rfl, run_equalIn_agg w 9999 109 _ _ hS hp]
  simp only [Program.fieldsOf, Try.underlying109]
  go_simp
  by_cases h1 : a = c <;> by_cases h2 : b = d <;> simp_all
theorem run_equal_pr (x y : Nat × Nat) (w : World) : (Op.equal 109 (prV x) (prV y)).run Try.prog w = .ok (decide (x = y)) w := by
  have h := eqPr x.1 x.2 y.1 y.2 w
  have e : (binOp .eql 109 (prV x) (prV y)).run Try.prog w = ((Op.equal 109 (prV x) (prV y)).run Try.prog w).andThen fun b w' => .ok (.bool b) w' := by
    simp [binOp, prV]
  unfold prV at *
  rw [e] at h
  have hd : decide ((x.1 : Int) = y.1 ∧ (x.2 : Int) = y.2) = decide (x = y) := by
    rw [decide_eq_decide, Prod.ext_iff]; omega
  cases hr : (Op.equal 109 (.agg #[.int .i64 x.1, .int .i64 x.2]) (.agg #[.int .i64 y.1, .int .i64 y.2])).run Try.prog w with
  | ok b w' =>
    rw [hr] at h
    simp only [Result.andThen_ok, Result.ok.injEq, Value.bool.injEq] at h ⊢
    exact ⟨h.1.trans hd, h.2⟩
  | halt z w' => rw [hr] at h; simp [Result.andThen] at h
set_option maxRecDepth 20000 in
theorem run_checkKey_pr (b : Bool) (x : Nat × Nat) (w : World) : (Instr.checkKey b 10000 109 (prV x)).run Try.prog w = .ok () w := by
  have u0 := Try.underlying109
  have u2 := Try.underlying3
  rw [show (10000 : Nat) = 9998 + 1 + 1 from rfl]
  generalize (9998 : Nat) = n
  unfold prV
  simp [Instr.checkKey, run_underlying u0, run_underlying u2, go_sem]
theorem run_getObj_map (P : Program) (w : World) (r : Nat) (es : Array MapEntry) (clock : Nat) (h : w.heap[r]? = some (.map es clock)) : (getObj r).run P w = .ok (.map es clock) w := by
  simp [getObj, Sem.run, h]
/-- A map, of whose entries Q holds. -/
def PrMap (w : World) (r : Nat) (Q : Nat × Nat → Bool → Prop) : Prop := ∃ es clock, w.heap[r]? = some (.map es clock) ∧ ∀ e ∈ es.toList, ∃ x b, e.key = prV x ∧ e.val = .bool b ∧ Q x b
theorem run_findAsking_pr {Q : Nat × Nat → Bool → Prop} (x : Nat × Nat) : ∀ (es : List MapEntry) (i : Nat), (∀ e ∈ es, ∃ x b, e.key = prV x ∧ e.val = .bool b ∧ Q x b) →
    ∃ r, (∀ w, (Instr.findAsking 109 (prV x) es i).run Try.prog w = .ok r w) ∧ (r = none ∨ ∃ j b, r = some (j, .bool b) ∧ Q x b ∧ i ≤ j ∧ ∃ e, es[j - i]? = some e ∧ e.key = prV x)
  | [], i, _ => ⟨none, fun w => by simp [Instr.findAsking], .inl rfl⟩
  | e :: es, i, h => by
    obtain ⟨y, b, hk, hv, hq⟩ := h e (by simp)
    unfold Instr.findAsking
    simp only [Sem.run_bind, hk, run_equal_pr, Result.andThen_ok]
    by_cases hxy : x = y
    · subst hxy
      exact ⟨some (i, e.val), fun w => by simp, .inr ⟨i, b, by rw [hv], hq, Nat.le_refl _, e, by simp, hk⟩⟩
    · obtain ⟨r, h1, h2⟩ := run_findAsking_pr x es (i + 1) (fun e he => h e (by simp [he]))
      refine ⟨r, fun w => by simpa [hxy] using h1 w, ?_⟩
      rcases h2 with h2 | ⟨j, b, h2, h3, h4, e', h5, h6⟩
      · exact .inl h2
      · refine .inr ⟨j, b, h2, h3, by omega, e', ?_, h6⟩
        rw [show j - i = (j - (i + 1)) + 1 by omega]; simpa using h5
theorem run_findKey_pr {Q : Nat × Nat → Bool → Prop} (x : Nat × Nat) (es : List MapEntry) (h : ∀ e ∈ es, ∃ x b, e.key = prV x ∧ e.val = .bool b ∧ Q x b) :
    ∃ r, (∀ w, (Instr.findKey 109 (prV x) es).run Try.prog w = .ok r w) ∧ (r = none ∨ ∃ j b, r = some (j, .bool b) ∧ Q x b ∧ ∃ e, es[j]? = some e ∧ e.key = prV x) := by
  have u0 := Try.underlying109
  cases es with
  | nil => exact ⟨none, fun w => by simp [Instr.findKey, run_underlying u0, Instr.findNow], .inl rfl⟩
  | cons e es =>
    obtain ⟨r, h1, h2⟩ := run_findAsking_pr x (e :: es) 0 h
    refine ⟨r, fun w => ?_, ?_⟩
    · have hs : Instr.findNow (.struct (Try.prog.fieldsOf 109)) (prV x) (e :: es) 0 = none := by
        simp [Instr.findNow, Instr.sameNow]
      have hU : Try.prog.underlying 109 = some (.struct (Try.prog.fieldsOf 109)) := by kernel_rfl
      unfold Instr.findKey
      simp only [Sem.run_bind, run_underlying hU, Result.andThen_ok, hs]
      exact h1 w
    · rcases h2 with h2 | ⟨j, b, h2, h3, _, e', h5, h6⟩
      · exact .inl h2
      · exact .inr ⟨j, b, h2, h3, e', by simpa using h5, h6⟩
set_option maxRecDepth 20000 in
theorem stays_pr (x : Nat × Nat) (w : World) : (Instr.keyThatStays (prV x) (prV x)).run Try.prog w = .ok (prV x) w := by
  have h : Instr.sameBits 10000 (prV x) (prV x) = true := by
    rw [show (10000 : Nat) = 9998 + 1 + 1 from rfl]
    generalize (9998 : Nat) = n
    simp [Instr.sameBits, prV]
  unfold Instr.keyThatStays
  rw [if_pos h]; rfl
section
variable {w : World} {a : Act} {K : Act → World → Prop} {Q : Exit → Act → World → Prop} {o : Oper} {R : Nat × Nat → Bool → Prop}
set_option maxRecDepth 20000 in
theorem wp_lookup_pr {r : Nat} (s : Nat × Nat) (hM : PrMap w r R) : ∃ b f, (f = true → R s b) ∧ ∀ {w' : World} {a : Act} {K : Act → World → Prop} {Q : Exit → Act → World → Prop} {o : Oper} {x y : Operand}, w'.heap[r]? = w.heap[r]? →
    o.op = .lookup 100 x y true → a.eval x = .map (some r) → a.eval y = prV s → K (a.put o.dst (.tuple #[.bool b, .bool f])) w' → o.wp Try.prog a w' K Q := by
  obtain ⟨es, clock, h1, h2⟩ := hM
  obtain ⟨r0, h4, h5⟩ := run_findKey_pr s es.toList h2
  have um := Try.underlying100
  have hi : (Try.prog.info? 4).map (fun i => i.zero) = some (some (.bool false)) := by kernel_rfl
  have fin : ∀ b f, ((match r0 with | some (_, v) => v | none => .bool false) = .bool b ∧ r0.isSome = f) → ∀ {w' : World} {a : Act} {K : Act → World → Prop} {Q : Exit → Act → World → Prop} {o : Oper} {x y : Operand}, w'.heap[r]? = w.heap[r]? →
    o.op = .lookup 100 x y true → a.eval x = .map (some r) → a.eval y = prV s → K (a.put o.dst (.tuple #[.bool b, .bool f])) w' → o.wp Try.prog a w' K Q := by
    intro b f hbf w' a K Q o x y hw ho hx hy this
    have hg : (getObj r).run Try.prog w' = .ok (.map es clock) w' := by rw [run_getObj_map _ _ _ _ _ (hw.trans h1)]
    unfold Oper.wp execOp
    simp only [ho, hx, hy, Instr.lookup, Sem.run_bind, Sem.run_pure, run_underlying um, Result.andThen_ok, hg, run_checkKey_pr, h4]
    rcases h5 with rfl | ⟨j, b', rfl, hb, _⟩
    · obtain ⟨e1, e2⟩ := hbf
      simp only [Value.bool.injEq, Option.isSome_none] at e1 e2
      subst e1 e2
      go_simp
      exact this
    · obtain ⟨e1, e2⟩ := hbf
      simp only [Value.bool.injEq, Option.isSome_some] at e1 e2
      subst e1 e2
      simp
      exact this
  rcases h5 with rfl | ⟨j, b, rfl, hb, _⟩
  · exact ⟨false, false, (fun e => by cases e), fin false false ⟨rfl, rfl⟩⟩
  · exact ⟨b, true, (fun _ => hb), fin b true ⟨rfl, rfl⟩⟩
theorem wp_mapUpdate_pr {x y z : Operand} {r : Nat} {s : Nat × Nat} {b : Bool} (ho : o.op = .mapUpdate 100 x y z) (hx : a.eval x = .map (some r)) (hy : a.eval y = prV s) (hz : a.eval z = .bool b) (hM : PrMap w r R) (hs : R s b)
    (hK : ∀ w', PrMap w' r R → Upd r w w' → K (a.put o.dst undef) w') : o.wp Try.prog a w K Q := by
  obtain ⟨es, clock, h1, h2⟩ := hM
  obtain ⟨r0, h4, h5⟩ := run_findKey_pr s es.toList h2
  have um := Try.underlying100
  have hg := run_getObj_map Try.prog w r es clock h1
  have hlt : r < w.heap.size := (Array.getElem?_eq_some_iff.1 h1).1
  have hset : ∀ o', (setObj r o').run Try.prog w = .ok () { w with heap := w.heap.setIfInBounds r o' } := by
    intro o'; simp [setObj, Sem.run, h1]
  have fin : ∀ (es' : Array MapEntry) (c' : Nat), (∀ e ∈ es'.toList, ∃ x b, e.key = prV x ∧ e.val = .bool b ∧ R x b) → K (a.put o.dst undef) { w with heap := w.heap.setIfInBounds r (.map es' c') } := fun es' c' h =>
    hK _ ⟨es', c', by simp [hlt], h⟩ ⟨rfl, rfl, rfl, by simp, fun k hk => by simp [Ne.symm hk]⟩
  unfold Oper.wp execOp
  simp only [ho, hx, hy, hz, Instr.mapUpdate, Sem.run_bind, Sem.run_pure, run_underlying um, Result.andThen_ok, hg, run_checkKey_pr, h4]
  rcases h5 with rfl | ⟨j, b', rfl, hb, e, he, hk⟩
  · simp only [hset, Result.andThen_ok]
    refine fin _ _ (fun e he => ?_)
    simp only [Array.toList_push, List.mem_append, List.mem_singleton] at he
    rcases he with he | rfl
    · exact h2 e he
    · exact ⟨s, b, rfl, rfl, hs⟩
  · have hj : es[j]? = some e := by simpa using he
    simp only [hj, Option.map_some, Option.getD_some, hk, Sem.run_bind, stays_pr, Result.andThen_ok, hset]
    refine fin _ _ (fun e' he' => ?_)
    obtain ⟨i, hi, rfl⟩ := List.getElem_of_mem he'
    simp only [Array.getElem_toList, Array.getElem_modify]
    split
    · exact ⟨s, b, rfl, rfl, hs⟩
    · exact h2 _ (by simp)
/-- A new map. -/
def NewPrMap (R : Nat × Nat → Bool → Prop) (w : World) (v : Value) (w' : World) : Prop := ∃ g, v = .map (some g) ∧ w.heap.size = g ∧ PrMap w' g R ∧ Below w.heap.size w w' ∧ w'.heap.size = g + 1
theorem wp_makeMap_pr (ho : o.op = .makeMap 100 none) (hK : ∀ v w', NewPrMap R w v w' → K (a.put o.dst v) w') : o.wp Try.prog a w K Q := by
  have := hK (.map (some w.heap.size)) (w.alloc (.map #[] 0)) ⟨_, rfl, rfl, ⟨#[], 0, heap_alloc_new w _, fun e he => by simp at he⟩, balloc _ _, by simp⟩
  unfold Oper.wp execOp
  simp only [ho]
  go_simp
  exact this
end
section
variable {w w' : World} {r g : Nat} {R : Nat × Nat → Bool → Prop} {S : Nat → Prop}
theorem PrMap.lt (h : PrMap w r R) : r < w.heap.size := by
  obtain ⟨es, clock, h1, _⟩ := h
  exact (Array.getElem?_eq_some_iff.1 h1).1
theorem PrMap.chg (h : PrMap w r R) (hb : Chg S w w') (hr : ¬ S r) : PrMap w' r R := by
  obtain ⟨es, clock, h1, h2⟩ := h
  exact ⟨es, clock, (hb.block r (Array.getElem?_eq_some_iff.1 h1).1 hr).trans h1, h2⟩
theorem PrMap.below (h : PrMap w r R) (hb : Below w.heap.size w w') : PrMap w' r R := h.chg (S := fun _ => False) (.ofBelow hb) id
theorem PrMap.upd (h : PrMap w r R) (hu : Upd g w w') (hne : r ≠ g) : PrMap w' r R := h.chg (S := fun k => k = g) (.ofUpd hu rfl) hne
/-- What lies in cells lies in another block. -/
theorem PrMap.ne (h : PrMap w r R) {b o : Nat} {v : Value} (hc : w.cell? ⟨b, o, none⟩ = some v) : b ≠ r := by
  rintro rfl
  obtain ⟨es, clock, h1, _⟩ := h
  unfold World.cell? at hc
  simp only [h1] at hc
  cases hc
end
end Go.Proofs.Ytmdpiafeiopimaa

/- Regions that draw their order: one in which a state is kept and some blocks may be written; one with two new blocks and the stores into them. -/
namespace Go.Proofs.Ytmdpiafeiopimaa
open Go.RowKit Go
section
variable {P : Program} {ops : Array Oper}
/-- What an operation finds. -/
structure CtxK (ops : Array Oper) (l : List (Bool × Value)) (n : Fr) (K : Known) (w0 : World) (S : Nat → Prop) (I : World → Prop) (o : Oper) (a : Act) (w : World) : Prop where
 chg : Chg S w0 w
 inv : I w
 kn : Kn n K a
 dep : ∀ j d, depB ops o j d = true → valR l j (a.tmps.getD d undef)
def SoundK (P : Program) (ops : Array Oper) (Q : Exit → Act → World → Prop) (l : List (Bool × Value)) (n : Fr) (K : Known) (w0 : World) (S : Nat → Prop) (I : World → Prop) : Nat → List Oper → Prop
 | _, [] => True
 | i, o :: r => (∃ β, GuardIs (fun i v _ => valR l i v) o β ∧ (β = false → valR l i undef) ∧
   (β = true → ∀ a w, CtxK ops l n K w0 S I o a w → o.wp P a w (fun a' w' => ∃ v, a' = Act.put a o.dst v ∧ Chg S w0 w' ∧ I w' ∧ valR l i v) Q)) ∧ SoundK P ops Q l n K w0 S I (i + 1) r
theorem SoundK.gen {Q : Exit → Act → World → Prop} {l : List (Bool × Value)} {n : Fr} {K : Known} {w0 : World} {S : Nat → Prop} {I : World → Prop} : ∀ {lo : List Oper} {i : Nat}, SoundK P ops Q l n K w0 S I i lo →
  SoundFromG P ops Q [] (fun i v _ => valR l i v) (fun _ _ => True) (fun _ w => Chg S w0 w ∧ I w) n K i lo
 | [], _, _ => trivial
 | o :: r, i, ⟨⟨β, h1, h2, h3⟩, h4⟩ => by
  refine ⟨.inl ⟨rfl, β, h1, fun _ _ _ => rfl, fun e _ => h2 e, fun hβ a w vs C => ?_⟩, h4.gen⟩
  refine Oper.wpIn_mono ?_ (wpIn_of (h3 hβ a w ⟨C.now.1, C.now.2, C.kn, fun j d hj => C.dep j d hj rfl⟩) (by rintro a' w' h; first | (obtain ⟨v, rfl, _⟩ := h; exact put_defers _ _ _) | (obtain ⟨_, _, rfl, _⟩ := h; exact put_defers _ _ _) | (obtain ⟨rfl, _⟩ := h; exact put_defers _ _ _)))
  rintro a' w' ⟨v, rfl, hc, hi, hv⟩
  exact ⟨v, rfl, trivial, ⟨hc, hi⟩, hv⟩
theorem WC.optc {id : Nat} {dr : Bool} {Q : Exit → Act → World → Prop} {n : Fr} {K : Known} {w : World} (l : List (Bool × Value)) (K0 : Known) {S : Nat → Prop} {I : World → Prop} (hI : ∀ w w', Below w.heap.size w w' → I w → I w') (hi : I w)
  (hs : subK K0 K) (hclear : clearB ops K0 = true) (hm : P.follows .mixedOrders = true) (hB : opsB ops n.n = true)
  (h : SoundK P ops Q l n K0 w S I 0 ops.toList)
  (hQ : ∀ (a : Act) (w' : World), Kn n K0 a → Chg S w w' → I w' → (∀ i d, (ops[i]?).bind (·.dst) = some d → valR l i (a.tmps.getD d undef)) → Q .normal a w') :
  WC P n K w (.region id ops dr) Q := by
 refine WC.gen [] (fun i v _ => valR l i v) (fun _ _ => True) (fun _ w' => Chg S w w' ∧ I w') K0 hs hclear hm hB List.nodup_nil rfl (fun _ _ _ _ h _ => h) ?_ h.gen (fun a w' vs hk _ _ hG hu _ => hQ a w' hk hG.1 hG.2 (fun i d hd => hu i d hd rfl))
 cases dr with
 | true => exact ⟨.ofBelow (Below.refl _ _).drew, hI _ _ (Below.refl _ _).drew hi⟩
 | false => exact ⟨.refl _ _, hi⟩
end
/-! ### Two new blocks, two stores -/
section
variable {w0 w w' : World} {t1 t2 g : Nat} {z1 c1 z2 c2 : Array Value} {va vb vp vq : Option Value}
structure TwoS (w0 : World) (t1 : Nat) (z1 c1 : Array Value) (t2 : Nat) (z2 c2 : Array Value) (va vb vp vq : Option Value) (w : World) : Prop where
 below : Below w0.heap.size w0 w
 a : ∀ v, va = some v → ∃ g, v = .pointer (some ⟨g, 0, none⟩) ∧ w0.heap.size ≤ g ∧ Blk w g t1 (if vp.isSome then c1 else z1)
 b : ∀ v, vb = some v → ∃ g, v = .pointer (some ⟨g, 0, none⟩) ∧ w0.heap.size ≤ g ∧ Blk w g t2 (if vq.isSome then c2 else z2)
 ne : ∀ v u, va = some v → vb = some u → v ≠ u
 pa : va = none → vp = none
 qb : vb = none → vq = none
def TwoG (w0 : World) (t1 : Nat) (z1 c1 : Array Value) (t2 : Nat) (z2 c2 : Array Value) : List (Option Value) → World → Prop
 | [va, vb, vp, vq], w => TwoS w0 t1 z1 c1 t2 z2 c2 va vb vp vq w
 | _, _ => False
theorem TwoS.allocA (h : TwoS w0 t1 z1 c1 t2 z2 c2 none vb vp vq w) : TwoS w0 t1 z1 c1 t2 z2 c2 (some (.pointer (some ⟨w.heap.size, 0, none⟩))) vb vp vq (w.alloc (.cells z1 t1)) := by
 have hp := h.pa rfl
 subst hp
 refine ⟨bstep h.below (balloc _ _), fun v hv => ⟨_, (Option.some.inj hv).symm, h.below.size, Blk.new' rfl⟩, fun v hv => ?_, fun v u hv hu => ?_, fun e => (by cases e), h.qb⟩
 ·obtain ⟨g, h1, h2, h3⟩ := h.b v hv
  exact ⟨g, h1, h2, h3.below (balloc _ _)⟩
 ·obtain ⟨g, rfl, _, h3⟩ := h.b u hu
  obtain rfl := Option.some.inj hv
  have := h3.lt
  simp only [ne_eq, Value.pointer.injEq, Option.some.injEq, Addr.mk.injEq, and_true]
  omega
theorem TwoS.allocB (h : TwoS w0 t1 z1 c1 t2 z2 c2 va none vp vq w) : TwoS w0 t1 z1 c1 t2 z2 c2 va (some (.pointer (some ⟨w.heap.size, 0, none⟩))) vp vq (w.alloc (.cells z2 t2)) := by
 have hp := h.qb rfl
 subst hp
 refine ⟨bstep h.below (balloc _ _), fun v hv => ?_, fun v hv => ⟨_, (Option.some.inj hv).symm, h.below.size, Blk.new' rfl⟩, fun v u hv hu => ?_, h.pa, fun e => (by cases e)⟩
 ·obtain ⟨g, h1, h2, h3⟩ := h.a v hv
  exact ⟨g, h1, h2, h3.below (balloc _ _)⟩
 ·obtain ⟨g, rfl, _, h3⟩ := h.a v hv
  obtain rfl := Option.some.inj hu
  have := h3.lt
  simp only [ne_eq, Value.pointer.injEq, Option.some.injEq, Addr.mk.injEq, and_true]
  omega
theorem TwoS.storeA {q : Value} (h : TwoS w0 t1 z1 c1 t2 z2 c2 (some (.pointer (some ⟨g, 0, none⟩))) vb none vq w) (hu : Upd g w w') (hB : Blk w' g t1 c1) : TwoS w0 t1 z1 c1 t2 z2 c2 (some (.pointer (some ⟨g, 0, none⟩))) vb (some q) vq w' := by
 obtain ⟨g', e, h1, _⟩ := h.a _ rfl
 simp only [Value.pointer.injEq, Option.some.injEq, Addr.mk.injEq, and_true] at e
 subst e
 refine ⟨upd_below h.below hu h1, fun v hv => ⟨g, (Option.some.inj hv).symm, h1, by simpa using hB⟩, fun v hv => ?_, h.ne, fun e => (by cases e), h.qb⟩
 obtain ⟨g2, rfl, h2, h3⟩ := h.b v hv
 have := h.ne _ _ rfl hv
 simp only [ne_eq, Value.pointer.injEq, Option.some.injEq, Addr.mk.injEq, and_true] at this
 exact ⟨g2, rfl, h2, upd_blk h3 hu (fun e => this e.symm)⟩
theorem TwoS.storeB {q : Value} (h : TwoS w0 t1 z1 c1 t2 z2 c2 va (some (.pointer (some ⟨g, 0, none⟩))) vp none w) (hu : Upd g w w') (hB : Blk w' g t2 c2) : TwoS w0 t1 z1 c1 t2 z2 c2 va (some (.pointer (some ⟨g, 0, none⟩))) vp (some q) w' := by
 obtain ⟨g', e, h1, _⟩ := h.b _ rfl
 simp only [Value.pointer.injEq, Option.some.injEq, Addr.mk.injEq, and_true] at e
 subst e
 refine ⟨upd_below h.below hu h1, fun v hv => ?_, fun v hv => ⟨g, (Option.some.inj hv).symm, h1, by simpa using hB⟩, h.ne, h.pa, fun e => (by cases e)⟩
 obtain ⟨g2, rfl, h2, h3⟩ := h.a v hv
 have := h.ne _ _ hv rfl
 simp only [ne_eq, Value.pointer.injEq, Option.some.injEq, Addr.mk.injEq, and_true] at this
 exact ⟨g2, rfl, h2, upd_blk h3 hu this⟩
end
section
variable {P : Program} {ops : Array Oper}
structure CtxT (ops : Array Oper) (l : List (Bool × Value)) (chain : List Nat) (n : Fr) (K : Known) (w0 : World) (o : Oper) (a : Act) (w : World) : Prop where
 below : Below w0.heap.size w0 w
 kn : Kn n K a
 dep : ∀ j d, depB ops o j d = true → chain.contains j = false → valR l j (a.tmps.getD d undef)
def SoundT (P : Program) (ops : Array Oper) (Q : Exit → Act → World → Prop) (l : List (Bool × Value)) (n : Fr) (K : Known) (w0 : World) (t1 : Nat) (z1 c1 : Array Value) (t2 : Nat) (z2 c2 : Array Value) (ia ib ip iq : Nat) : Nat → List Oper → Prop
 | _, [] => True
 | i, o :: r => (([ia, ib, ip, iq].contains i = false ∧ o.guard = none ∧
    (∀ a w, CtxT ops l [ia, ib, ip, iq] n K w0 o a w → o.wp P a w (fun a' w' => ∃ v, a' = Act.put a o.dst v ∧ w' = w ∧ valR l i v) Q)) ∨
   (i = ia ∧ o.guard = none ∧ ∀ a w, CtxT ops l [ia, ib, ip, iq] n K w0 o a w → o.wp P a w (fun a' w' => a' = Act.put a o.dst (.pointer (some ⟨w.heap.size, 0, none⟩)) ∧ w' = w.alloc (.cells z1 t1)) Q) ∨
   (i = ib ∧ o.guard = none ∧ ∀ a w, CtxT ops l [ia, ib, ip, iq] n K w0 o a w → o.wp P a w (fun a' w' => a' = Act.put a o.dst (.pointer (some ⟨w.heap.size, 0, none⟩)) ∧ w' = w.alloc (.cells z2 t2)) Q) ∨
   (i = ip ∧ o.guard = none ∧ ∃ dp, depB ops o ia dp = true ∧ ∀ a w g, CtxT ops l [ia, ib, ip, iq] n K w0 o a w → a.tmps.getD dp undef = .pointer (some ⟨g, 0, none⟩) → Blk w g t1 z1 → o.wp P a w (fun a' w' => ∃ v, a' = Act.put a o.dst v ∧ Upd g w w' ∧ Blk w' g t1 c1) Q) ∨
   (i = iq ∧ o.guard = none ∧ ∃ dp, depB ops o ib dp = true ∧ ∀ a w g, CtxT ops l [ia, ib, ip, iq] n K w0 o a w → a.tmps.getD dp undef = .pointer (some ⟨g, 0, none⟩) → Blk w g t2 z2 → o.wp P a w (fun a' w' => ∃ v, a' = Act.put a o.dst v ∧ Upd g w w' ∧ Blk w' g t2 c2) Q)) ∧ SoundT P ops Q l n K w0 t1 z1 c1 t2 z2 c2 ia ib ip iq (i + 1) r
theorem SoundT.gen {Q : Exit → Act → World → Prop} {l : List (Bool × Value)} {n : Fr} {K : Known} {w0 : World} {t1 : Nat} {z1 c1 : Array Value} {t2 : Nat} {z2 c2 : Array Value} {ia ib ip iq : Nat} : ∀ {lo : List Oper} {i : Nat}, SoundT P ops Q l n K w0 t1 z1 c1 t2 z2 c2 ia ib ip iq i lo →
  SoundFromG P ops Q [ia, ib, ip, iq] (fun i v _ => valR l i v) (fun _ _ => True) (TwoG w0 t1 z1 c1 t2 z2 c2) n K i lo
 | [], _, _ => trivial
 | o :: r, i, ⟨h, hr⟩ => by
  refine ⟨?_, hr.gen⟩
  have mk : ∀ {a : Act} {w : World} {vs : List (Option Value)} (_ : CtxG ops [ia, ib, ip, iq] (fun i v _ => valR l i v) (TwoG w0 t1 z1 c1 t2 z2 c2) n K i o a w vs), CtxT ops l [ia, ib, ip, iq] n K w0 o a w := by
   intro a w vs C
   match vs, C.len, C.now with
   | [va, vb, vp, vq], _, hG => exact ⟨TwoS.below hG, C.kn, C.dep⟩
  rcases h with ⟨h1, h2, h3⟩ | ⟨rfl, h1, h2⟩ | ⟨rfl, h1, h2⟩ | ⟨rfl, h1, dp, h2, h3⟩ | ⟨rfl, h1, dp, h2, h3⟩
  ·refine .inl ⟨h1, true, .none h2, fun g b hb => by (rw [h2] at hb; cases hb), fun e => (by cases e), fun _ a w vs C => ?_⟩
   refine Oper.wpIn_mono ?_ (wpIn_of (h3 a w (mk C)) (by rintro a' w' h; first | (obtain ⟨v, rfl, _⟩ := h; exact put_defers _ _ _) | (obtain ⟨_, _, rfl, _⟩ := h; exact put_defers _ _ _) | (obtain ⟨rfl, _⟩ := h; exact put_defers _ _ _)))
   rintro a' w' ⟨v, rfl, rfl, hv⟩
   exact ⟨v, rfl, trivial, C.now, hv⟩
  ·refine .inr ⟨0, rfl, h1, fun a w vs C hn => ?_⟩
   refine Oper.wpIn_mono ?_ (wpIn_of (h2 a w (mk C)) (by rintro a' w' h; first | (obtain ⟨v, rfl, _⟩ := h; exact put_defers _ _ _) | (obtain ⟨_, _, rfl, _⟩ := h; exact put_defers _ _ _) | (obtain ⟨rfl, _⟩ := h; exact put_defers _ _ _)))
   rintro a' w' ⟨rfl, rfl⟩
   match vs, C.len, hn, C.now with
   | [va, vb, vp, vq], _, hn, hG =>
    simp only [List.getElem?_cons_zero, Option.some.injEq] at hn
    subst hn
    exact ⟨_, rfl, trivial, TwoS.allocA hG⟩
  ·refine .inr ⟨1, rfl, h1, fun a w vs C hn => ?_⟩
   refine Oper.wpIn_mono ?_ (wpIn_of (h2 a w (mk C)) (by rintro a' w' h; first | (obtain ⟨v, rfl, _⟩ := h; exact put_defers _ _ _) | (obtain ⟨_, _, rfl, _⟩ := h; exact put_defers _ _ _) | (obtain ⟨rfl, _⟩ := h; exact put_defers _ _ _)))
   rintro a' w' ⟨rfl, rfl⟩
   match vs, C.len, hn, C.now with
   | [va, vb, vp, vq], _, hn, hG =>
    simp only [List.getElem?_cons_zero, List.getElem?_cons_succ, Option.some.injEq] at hn
    subst hn
    exact ⟨_, rfl, trivial, TwoS.allocB hG⟩
  ·refine .inr ⟨2, rfl, h1, fun a w vs C hn => ?_⟩
   have e0 := C.link 0 ia dp rfl h2
   match vs, C.len, hn, e0, C.now, C with
   | [va, vb, vp, vq], _, hn, e0, hG, C =>
    simp only [List.getElem?_cons_zero, List.getElem?_cons_succ, Option.some.injEq] at hn e0
    subst hn e0
    obtain ⟨g, h5, _, h6⟩ := TwoS.a hG _ rfl
    refine Oper.wpIn_mono ?_ (wpIn_of (h3 a w g (mk C) h5 (by simpa using h6)) (by rintro a' w' h; first | (obtain ⟨v, rfl, _⟩ := h; exact put_defers _ _ _) | (obtain ⟨_, _, rfl, _⟩ := h; exact put_defers _ _ _) | (obtain ⟨rfl, _⟩ := h; exact put_defers _ _ _)))
    rintro a' w' ⟨v, rfl, h7, h8⟩
    have hG' : TwoS w0 t1 z1 c1 t2 z2 c2 (some (a.tmps.getD dp undef)) vb none vq w := hG
    rw [h5] at hG'
    refine ⟨v, rfl, trivial, ?_⟩
    show TwoS w0 t1 z1 c1 t2 z2 c2 (some (a.tmps.getD dp undef)) vb (some v) vq w'
    rw [h5]
    exact TwoS.storeA hG' h7 h8
  ·refine .inr ⟨3, rfl, h1, fun a w vs C hn => ?_⟩
   have e0 := C.link 1 ib dp rfl h2
   match vs, C.len, hn, e0, C.now, C with
   | [va, vb, vp, vq], _, hn, e0, hG, C =>
    simp only [List.getElem?_cons_zero, List.getElem?_cons_succ, Option.some.injEq] at hn e0
    subst hn e0
    obtain ⟨g, h5, _, h6⟩ := TwoS.b hG _ rfl
    refine Oper.wpIn_mono ?_ (wpIn_of (h3 a w g (mk C) h5 (by simpa using h6)) (by rintro a' w' h; first | (obtain ⟨v, rfl, _⟩ := h; exact put_defers _ _ _) | (obtain ⟨_, _, rfl, _⟩ := h; exact put_defers _ _ _) | (obtain ⟨rfl, _⟩ := h; exact put_defers _ _ _)))
    rintro a' w' ⟨v, rfl, h7, h8⟩
    have hG' : TwoS w0 t1 z1 c1 t2 z2 c2 va (some (a.tmps.getD dp undef)) vp none w := hG
    rw [h5] at hG'
    refine ⟨v, rfl, trivial, ?_⟩
    show TwoS w0 t1 z1 c1 t2 z2 c2 va (some (a.tmps.getD dp undef)) vp (some v) w'
    rw [h5]
    exact TwoS.storeB hG' h7 h8
theorem WC.two {id : Nat} {dr : Bool} {Q : Exit → Act → World → Prop} {n : Fr} {K : Known} {w : World} (l : List (Bool × Value)) (K0 : Known) {t1 : Nat} {z1 c1 : Array Value} {t2 : Nat} {z2 c2 : Array Value} (ia ib ip iq da db : Nat)
  (hd : ([ia, ib, ip, iq]).Nodup) (hin : (([ia, ib, ip, iq]).all fun c => Nat.blt c ops.size) = true) (hda : (ops[ia]?).bind (·.dst) = some da) (hdb : (ops[ib]?).bind (·.dst) = some db)
  (hs : subK K0 K) (hclear : clearB ops K0 = true) (hm : P.follows .mixedOrders = true) (hB : opsB ops n.n = true)
  (h : SoundT P ops Q l n K0 w t1 z1 c1 t2 z2 c2 ia ib ip iq 0 ops.toList)
  (hQ : ∀ (a : Act) (w' : World) (g1 g2 : Nat), Kn n K0 a → Below w.heap.size w w' → w.heap.size ≤ g1 → w.heap.size ≤ g2 → g1 ≠ g2 → Blk w' g1 t1 c1 → Blk w' g2 t2 c2 → a.tmps.getD da undef = .pointer (some ⟨g1, 0, none⟩) → a.tmps.getD db undef = .pointer (some ⟨g2, 0, none⟩) → (∀ i d, (ops[i]?).bind (·.dst) = some d → ([ia, ib, ip, iq]).contains i = false → valR l i (a.tmps.getD d undef)) → Q .normal a w') :
  WC P n K w (.region id ops dr) Q := by
 refine WC.gen [ia, ib, ip, iq] (fun i v _ => valR l i v) (fun _ _ => True) (TwoG w t1 z1 c1 t2 z2 c2) K0 hs hclear hm hB hd hin (fun _ _ _ _ h _ => h) ?_ h.gen (fun a w' vs hk hlen hall hG hu hl => ?_)
 ·have st : ∀ w' : World, Below w.heap.size w w' → TwoS w t1 z1 c1 t2 z2 c2 none none none none w' := fun w' hb => ⟨hb, fun v hv => (by cases hv), fun v hv => (by cases hv), fun v u hv => (by cases hv), fun _ => rfl, fun _ => rfl⟩
  cases dr with
  | true => exact st _ (Below.refl _ _).drew
  | false => exact st _ (Below.refl _ _)
 ·obtain ⟨v0, hv0⟩ := hall 0 (by simp)
  obtain ⟨v1, hv1⟩ := hall 1 (by simp)
  obtain ⟨v2, hv2⟩ := hall 2 (by simp)
  obtain ⟨v3, hv3⟩ := hall 3 (by simp)
  have ha := hl 0 ia da rfl hda
  have hb := hl 1 ib db rfl hdb
  match vs, hlen, hv0, hv1, hv2, hv3, hG, ha, hb with
  | [va, vb, vp, vq], _, hv0, hv1, hv2, hv3, hG, ha, hb =>
   simp only [List.getElem?_cons_zero, List.getElem?_cons_succ, Option.some.injEq] at hv0 hv1 hv2 hv3 ha hb
   subst hv2 hv3 ha hb
   obtain ⟨g1, e1, h1, h2⟩ := TwoS.a hG _ rfl
   obtain ⟨g2, e2, h3, h4⟩ := TwoS.b hG _ rfl
   have hne := TwoS.ne hG _ _ rfl rfl
   rw [e1, e2] at hne
   simp only [ne_eq, Value.pointer.injEq, Option.some.injEq, Addr.mk.injEq, and_true] at hne
   exact hQ a w' g1 g2 hk (TwoS.below hG) h1 h3 hne (by simpa using h2) (by simpa using h4) e1 e2 hu
end
end Go.Proofs.Ytmdpiafeiopimaa

/- Two terms laid out, what was found of their parts: how it lies in memory. -/
namespace Go.Proofs.Ytmdpiafeiopimaa
open Go.RowKit Go
/-- A row of parts, cell by cell. -/
structure NdRow (w0 : World) (L : List Nd) (b : Nat) (A X : Nat → Option Addr) (C Z xb : Nat → Nat) (w : World) : Prop where
  c0 : ∀ k, k < L.length → w.cell? ⟨b, 0 + k * 3, none⟩ = some (.int .i64 (ndget L k).t.f)
  c1 : ∀ k, k < L.length → w.cell? ⟨b, 0 + k * 3 + 1, none⟩ = some (.slice (A k) (ndget L k).t.args.length (C k))
  c2 : ∀ k, k < L.length → w.cell? ⟨b, 0 + k * 3 + 2, none⟩ = some (.slice (X k) (ndget L k).args.length (Z k))
  t : ∀ k, k < L.length → IsT w0 (ndget L k).t (.agg #[.int .i64 (ndget L k).t.f, .slice (A k) (ndget L k).t.args.length (C k)])
  x : ∀ k j, k < L.length → j < (ndget L k).args.length → X k = some ⟨xb k, 0, none⟩ ∧ w.cell? ⟨xb k, 0 + j, none⟩ = some (.int .i64 (((ndget L k).args.getD j 0 : Nat) : Int))
theorem NdRow.keep {w0 w w' : World} {L : List Nd} {b : Nat} {A X : Nat → Option Addr} {C Z xb : Nat → Nat} (h : NdRow w0 L b A X C Z xb w) (hk : ∀ b i v, w.cell? ⟨b, i, none⟩ = some v → w'.cell? ⟨b, i, none⟩ = some v) : NdRow w0 L b A X C Z xb w' :=
  ⟨fun k h1 => hk _ _ _ (h.c0 k h1), fun k h1 => hk _ _ _ (h.c1 k h1), fun k h1 => hk _ _ _ (h.c2 k h1), h.t, fun k j h1 h2 => ⟨(h.x k j h1 h2).1, hk _ _ _ (h.x k j h1 h2).2⟩⟩
theorem NdRow.of {w0 w : World} {N S : Nat → Prop} {E b rc n : Nat} {L : List Nd} {xs : List Value} (h : NdsAt w0 w N L xs) (hO : Own w S E 3 (some ⟨b, 0, none⟩) rc n xs) : ∃ (A X : Nat → Option Addr) (C Z xb : Nat → Nat), NdRow w0 L b A X C Z xb w := by
  have key : ∀ k, k < L.length → ∃ p : Option Addr × Nat × Option Addr × Nat × Nat, xs[k * 3]? = some (.int .i64 (ndget L k).t.f) ∧ xs[k * 3 + 1]? = some (.slice p.1 (ndget L k).t.args.length p.2.1) ∧ xs[k * 3 + 2]? = some (.slice p.2.2.1 (ndget L k).args.length p.2.2.2.1) ∧
      IsT w0 (ndget L k).t (.agg #[.int .i64 (ndget L k).t.f, .slice p.1 (ndget L k).t.args.length p.2.1]) ∧ ∀ j, j < (ndget L k).args.length → p.2.2.1 = some ⟨p.2.2.2.2, 0, none⟩ ∧ w.cell? ⟨p.2.2.2.2, 0 + j, none⟩ = some (.int .i64 (((ndget L k).args.getD j 0 : Nat) : Int)) := by
    intro k hk
    obtain ⟨A, C, X, Z, e1, e2, e3, e4, e5⟩ := h.at_ k hk
    rcases e5 with e5 | ⟨g, e5, _, _, e6⟩
    · exact ⟨(A, C, X, Z, 0), e1, e2, e3, e4, fun j hj => by rw [e5] at hj; simp at hj⟩
    · exact ⟨(A, C, X, Z, g), e1, e2, e3, e4, fun j hj => ⟨e5, by rw [Nat.zero_add]; exact e6 j hj⟩⟩
  have : Inhabited (Option Addr × Nat × Option Addr × Nat × Nat) := ⟨(none, 0, none, 0, 0)⟩
  obtain ⟨F, hF⟩ := Go.Deep.choose_lt key
  refine ⟨fun k => (F k).1, fun k => (F k).2.2.1, fun k => (F k).2.1, fun k => (F k).2.2.2.1, fun k => (F k).2.2.2.2, fun k hk => ?_, fun k hk => ?_, fun k hk => ?_, fun k hk => (hF k hk).2.2.2.1, fun k j hk hj => (hF k hk).2.2.2.2 j hj⟩
  · rw [Nat.zero_add]; exact own_cell hO (hF k hk).1
  · rw [Nat.zero_add]; exact own_cell hO (hF k hk).2.1
  · rw [Nat.zero_add]; exact own_cell hO (hF k hk).2.2.1
/-- The addresses. -/
structure LpoQ where
  gw : Nat
  gm : Nat
  b1 : Nat
  b2 : Nat
  r1 : Nat
  r2 : Nat
  A1 : Nat → Option Addr
  A2 : Nat → Option Addr
  X1 : Nat → Option Addr
  X2 : Nat → Option Addr
  C1 : Nat → Nat
  C2 : Nat → Nat
  Z1 : Nat → Nat
  Z2 : Nat → Nat
  x1 : Nat → Nat
  x2 : Nat → Nat
  p1 : Option Addr
  p2 : Option Addr
  k1 : Nat
  k2 : Nat
/-- What is known of the two rows. -/
structure LpoH (o : Od) (L1 L2 : List Nd) : Prop where
  g1 : ∀ k, k < L1.length → GoodAt L1 k
  g2 : ∀ k, k < L2.length → GoodAt L2 k
  k1 : ∀ k, k < L1.length → o.lknows (ndget L1 k).t = true
  k2 : ∀ k, k < L2.length → o.lknows (ndget L2 k).t = true
  z1 : ∀ k, k < L1.length → (ndget L1 k).t.size ≤ 4294967296
  z2 : ∀ k, k < L2.length → (ndget L2 k).t.size ≤ 4294967296
theorem args_le (t : T) : t.args.length < t.size := by
  have h : ∀ l : List T, l.length ≤ T.sizeL l := by
    intro l
    induction l with
    | nil => simp
    | cons a r ih =>
      have := T.size_eq a
      rw [T.sizeL, List.length_cons]; omega
  have := T.size_eq t
  have := h t.args
  omega
theorem nd_child {L : List Nd} {k j : Nat} (h : GoodAt L k) (hj : j < (ndget L k).t.args.length) : (ndget L k).args.getD j 0 < L.length ∧ (ndget L ((ndget L k).args.getD j 0)).t = tget (ndget L k).t.args j := by
  have := h.2 j hj
  rw [tget_lt hj]; exact this
/-- What was found is right. -/
def LpoR (o : Od) (L1 L2 : List Nd) (x : Nat × Nat) (b : Bool) : Prop := b = o.lg (ndget L1 x.1).t (ndget L2 x.2).t
structure LpoSt (o : Od) (L1 L2 : List Nd) (q : LpoQ) (w0 w : World) : Prop where
  below : Below w0.heap.size w0 w
  prec : IsInts w0 o.prec q.p1
  n1 : NdRow w0 L1 q.b1 q.A1 q.X1 q.C1 q.Z1 q.x1 w
  n2 : NdRow w0 L2 q.b2 q.A2 q.X2 q.C2 q.Z2 q.x2 w
  map : PrMap w q.gm (LpoR o L1 L2)
  blk : Blk w q.gw 102 #[.bool o.lpo, .slice q.p1 o.prec.length q.k1, .slice q.p2 o.weights.length q.k2, .int .i64 o.var, .slice (some ⟨q.b1, 0, none⟩) L1.length q.r1, .slice (some ⟨q.b2, 0, none⟩) L2.length q.r2, .map (some q.gm)]
  hgm : w0.heap.size ≤ q.gm
section
variable {o : Od} {L1 L2 : List Nd} {q : LpoQ} {w0 w w' : World}
theorem LpoSt.step (h : LpoSt o L1 L2 q w0 w) (hc : Chg (fun b => b = q.gm) w w') (hm : PrMap w' q.gm (LpoR o L1 L2)) : LpoSt o L1 L2 q w0 w' := by
  have hk : ∀ b i v, w.cell? ⟨b, i, none⟩ = some v → w'.cell? ⟨b, i, none⟩ = some v := fun b i v hv => chg_cell hc (h.map.ne hv) hv
  have hg := h.hgm
  exact ⟨chg_below h.below hc (fun b hb => by omega), h.prec, h.n1.keep hk, h.n2.keep hk, hm, chg_blk h.blk hc (h.map.ne (h.blk.cell 0)), hg⟩
theorem LpoSt.bel (h : LpoSt o L1 L2 q w0 w) (hb : Below w.heap.size w w') : LpoSt o L1 L2 q w0 w' := h.step (.ofBelow hb) (h.map.below hb)
theorem LpoSt.glt (h : LpoSt o L1 L2 q w0 w) : q.gm < w.heap.size ∧ q.gw < w.heap.size ∧ q.gw ≠ q.gm ∧ w0.heap.size ≤ w.heap.size := ⟨h.map.lt, h.blk.lt, h.map.ne (h.blk.cell 0), h.below.size⟩
end
/-- To so many parts, above tells what is right. -/
def AboveOK (o : Od) (L1 L2 : List Nd) (q : LpoQ) (w0 : World) (n : Nat) : Prop :=
  ∀ (i k : Nat) (w : World), i < L1.length → k < L2.length → (ndget L1 i).t.size + (ndget L2 k).t.size ≤ n → LpoSt o L1 L2 q w0 w →
    Calls Try.prog 58 #[.pointer (some ⟨q.gw, 0, none⟩), .int .i64 (i : Int), .int .i64 (k : Int)] w (Ret fun v' w' => v' = .bool (o.lg (ndget L1 i).t (ndget L2 k).t) ∧ LpoSt o L1 L2 q w0 w' ∧ Chg (fun b => b = q.gm) w w')
end Go.Proofs.Ytmdpiafeiopimaa

/- Operations, one law a kind and type. -/
namespace Go.Proofs.Ytmdpiafeiopimaa
open Go.RowKit Go
set_option linter.unusedVariables false
set_option linter.unusedSimpArgs false
set_option maxRecDepth 100000
theorem box_27 {w : World} {a : Act} {K : Act → World → Prop} {Q : Exit → Act → World → Prop} {o : Oper} {x : Operand} {c0 c1 c2 c3 : Value} (ho : o.op = .box 27 x) (hx : a.eval x = .agg #[c0, c1, c2, c3]) (hK : K (a.put o.dst (.pointer (some ⟨w.heap.size, 0, none⟩))) (w.alloc (.cells #[c0, c1, c2, c3] 27))) : o.wp Try.prog a w K Q := by
  unfold Oper.wp execOp
  simp only [ho, hx]
  go_simp
  exact hK
theorem box_30 {w : World} {a : Act} {K : Act → World → Prop} {Q : Exit → Act → World → Prop} {o : Oper} {x : Operand} {c0 c1 : Value} (ho : o.op = .box 30 x) (hx : a.eval x = .agg #[c0, c1]) (hK : K (a.put o.dst (.pointer (some ⟨w.heap.size, 0, none⟩))) (w.alloc (.cells #[c0, c1] 30))) : o.wp Try.prog a w K Q := by
  unfold Oper.wp execOp
  simp only [ho, hx]
  go_simp
  exact hK
theorem fld_30_0 {w : World} {a : Act} {K : Act → World → Prop} {Q : Exit → Act → World → Prop} {o : Oper} {x : Operand} {b p : Nat} (ho : o.op = .fieldAddr 30 x 0) (hx : a.eval x = .pointer (some ⟨b, p, none⟩)) (hK : K (a.put o.dst (.pointer (some ⟨b, p, none⟩))) w) : o.wp Try.prog a w K Q := by
  unfold Oper.wp execOp
  simp only [ho, hx]
  go_simp
  exact hK
theorem ld_3 {w : World} {a : Act} {K : Act → World → Prop} {Q : Exit → Act → World → Prop} {o : Oper} {x : Operand} {p : Addr} {v : Value} (ho : o.op = .load 3 x) (hx : a.eval x = .pointer (some p)) (hc : w.cell? p = some v) (hK : K (a.put o.dst (v)) w) : o.wp Try.prog a w K Q := by
  unfold Oper.wp execOp
  simp only [ho, hx]
  go_simp
  exact hK
theorem lss_3 {w : World} {a : Act} {K : Act → World → Prop} {Q : Exit → Act → World → Prop} {o : Oper} {x y : Operand} {m n : Int} (ho : o.op = .binOp .lss 3 x y 3) (hx : a.eval x = .int .i64 m) (hy : a.eval y = .int .i64 n) (hK : K (a.put o.dst (.bool (decide (m < n)))) w) : o.wp Try.prog a w K Q := by
  unfold Oper.wp execOp
  simp only [ho, hx, hy]
  go_simp
  exact hK
theorem fld_30_1 {w : World} {a : Act} {K : Act → World → Prop} {Q : Exit → Act → World → Prop} {o : Oper} {x : Operand} {b p : Nat} (ho : o.op = .fieldAddr 30 x 1) (hx : a.eval x = .pointer (some ⟨b, p, none⟩)) (hK : K (a.put o.dst (.pointer (some ⟨b, p + 1, none⟩))) w) : o.wp Try.prog a w K Q := by
  unfold Oper.wp execOp
  simp only [ho, hx]
  go_simp
  exact hK
theorem ld_28 {w : World} {a : Act} {K : Act → World → Prop} {Q : Exit → Act → World → Prop} {o : Oper} {x : Operand} {p : Addr} {v : Value} (ho : o.op = .load 28 x) (hx : a.eval x = .pointer (some p)) (hc : w.cell? p = some v) (hK : K (a.put o.dst (v)) w) : o.wp Try.prog a w K Q := by
  unfold Oper.wp execOp
  simp only [ho, hx]
  go_simp
  exact hK
theorem len_28 {w : World} {a : Act} {K : Act → World → Prop} {Q : Exit → Act → World → Prop} {o : Oper} {x : Operand} {r : Option Addr} {n c : Nat} (ho : o.op = .call { callee := .builtin .len, args := #[x], argTypes := #[28] }) (hx : a.eval x = .slice r n c) (hK : K (a.put o.dst (.int .i64 n)) w) : o.wp Try.prog a w K Q := by
  unfold Oper.wp execOp
  simp only [ho, resolve, List.map_toArray, List.map_cons, List.map_nil, hx]
  go_simp
  exact hK
theorem eql_3 {w : World} {a : Act} {K : Act → World → Prop} {Q : Exit → Act → World → Prop} {o : Oper} {x y : Operand} {m n : Int} (ho : o.op = .binOp .eql 3 x y 3) (hx : a.eval x = .int .i64 m) (hy : a.eval y = .int .i64 n) (hK : K (a.put o.dst (.bool (m == n))) w) : o.wp Try.prog a w K Q := by
  unfold Oper.wp execOp
  simp only [ho, hx, hy]
  go_simp
  exact hK
theorem fld_27_1 {w : World} {a : Act} {K : Act → World → Prop} {Q : Exit → Act → World → Prop} {o : Oper} {x : Operand} {b p : Nat} (ho : o.op = .fieldAddr 27 x 1) (hx : a.eval x = .pointer (some ⟨b, p, none⟩)) (hK : K (a.put o.dst (.pointer (some ⟨b, p + 1, none⟩))) w) : o.wp Try.prog a w K Q := by
  unfold Oper.wp execOp
  simp only [ho, hx]
  go_simp
  exact hK
theorem ld_25 {w : World} {a : Act} {K : Act → World → Prop} {Q : Exit → Act → World → Prop} {o : Oper} {x : Operand} {p : Addr} {v : Value} (ho : o.op = .load 25 x) (hx : a.eval x = .pointer (some p)) (hc : w.cell? p = some v) (hK : K (a.put o.dst (v)) w) : o.wp Try.prog a w K Q := by
  unfold Oper.wp execOp
  simp only [ho, hx]
  go_simp
  exact hK
theorem len_25 {w : World} {a : Act} {K : Act → World → Prop} {Q : Exit → Act → World → Prop} {o : Oper} {x : Operand} {r : Option Addr} {n c : Nat} (ho : o.op = .call { callee := .builtin .len, args := #[x], argTypes := #[25] }) (hx : a.eval x = .slice r n c) (hK : K (a.put o.dst (.int .i64 n)) w) : o.wp Try.prog a w K Q := by
  unfold Oper.wp execOp
  simp only [ho, resolve, List.map_toArray, List.map_cons, List.map_nil, hx]
  go_simp
  exact hK
theorem geq_3 {w : World} {a : Act} {K : Act → World → Prop} {Q : Exit → Act → World → Prop} {o : Oper} {x y : Operand} {m n : Int} (ho : o.op = .binOp .geq 3 x y 3) (hx : a.eval x = .int .i64 m) (hy : a.eval y = .int .i64 n) (hK : K (a.put o.dst (.bool (decide (n ≤ m)))) w) : o.wp Try.prog a w K Q := by
  unfold Oper.wp execOp
  simp only [ho, hx, hy]
  go_simp
  exact hK
theorem ix_28 {w : World} {a : Act} {K : Act → World → Prop} {Q : Exit → Act → World → Prop} {o : Oper} {x y : Operand} {r : Option Addr} {b p n c k : Nat} (ho : o.op = .indexAddr 28 x y) (hx : a.eval x = .slice r n c) (hr : r = some ⟨b, p, none⟩) (hy : a.eval y = .int .i64 (k : Int)) (hk : k < n) (hK : K (a.put o.dst (.pointer (some ⟨b, p + k * 2, none⟩))) w) : o.wp Try.prog a w K Q := by
  subst hr
  have h0 : (0 : Int) ≤ (k : Int) := by omega
  have h1 : (k : Int) < (n : Int) := by omega
  unfold Oper.wp execOp
  simp only [ho, hx, hy]
  go_simp
  exact hK
theorem ld_30 {w : World} {a : Act} {K : Act → World → Prop} {Q : Exit → Act → World → Prop} {o : Oper} {x : Operand} {b p : Nat} {c0 c1 : Value} (ho : o.op = .load 30 x) (hx : a.eval x = .pointer (some ⟨b, p, none⟩)) (h0 : w.cell? ⟨b, p, none⟩ = some c0) (h1 : w.cell? ⟨b, p + 1, none⟩ = some c1) (hK : K (a.put o.dst (.agg #[c0, c1])) w) : o.wp Try.prog a w K Q := by
  unfold Oper.wp execOp
  simp only [ho, hx]
  go_simp
  exact hK
theorem alloc_30 {w : World} {a : Act} {K : Act → World → Prop} {Q : Exit → Act → World → Prop} {o : Oper} (ho : o.op = .alloc 30) (hK : K (a.put o.dst (.pointer (some ⟨w.heap.size, 0, none⟩))) (w.alloc (.cells #[.int .i64 0, .slice none 0 0] 30))) : o.wp Try.prog a w K Q := by
  unfold Oper.wp execOp
  simp only [ho]
  go_simp
  exact hK
theorem st_30 {w : World} {a : Act} {K : Act → World → Prop} {Q : Exit → Act → World → Prop} {o : Oper} {x y : Operand} {g p : Nat} {ty : TypeId} {cs : Array Value} {c0 c1 : Value} (ho : o.op = .store 30 x y) (hx : a.eval x = .pointer (some ⟨g, p, none⟩)) (hy : a.eval y = .agg #[c0, c1]) (k0 : c0.oneCell' = true) (k1 : c1.oneCell' = true) (hB : Blk w g ty cs) (hp : p + 1 < cs.size) (hK : ∀ v, K (a.put o.dst v) ((w.setCell ⟨g, p, none⟩ c0).setCell ⟨g, p + 1, none⟩ c1)) : o.wp Try.prog a w K Q := by
  have h0 := (hB.cell (p)).trans (Array.getElem?_eq_getElem (by first | omega | (simp; omega)))
  have f0 := hB.frozen (p)
  have hB := hB.set_ (p) c0
  have h1 := (hB.cell (p + 1)).trans (Array.getElem?_eq_getElem (by first | omega | (simp; omega)))
  have f1 := hB.frozen (p + 1)
  have s0 := fun w a m => run_store Try.prog w a c0 m k0
  have s1 := fun w a m => run_store Try.prog w a c1 m k1
  clear hB
  unfold Oper.wp execOp
  simp only [ho, hx, hy]
  go_simp
  exact hK _
theorem ld_27 {w : World} {a : Act} {K : Act → World → Prop} {Q : Exit → Act → World → Prop} {o : Oper} {x : Operand} {b p : Nat} {c0 c1 c2 c3 : Value} (ho : o.op = .load 27 x) (hx : a.eval x = .pointer (some ⟨b, p, none⟩)) (h0 : w.cell? ⟨b, p, none⟩ = some c0) (h1 : w.cell? ⟨b, p + 1, none⟩ = some c1) (h2 : w.cell? ⟨b, p + 2, none⟩ = some c2) (h3 : w.cell? ⟨b, p + 3, none⟩ = some c3) (hK : K (a.put o.dst (.agg #[c0, c1, c2, c3])) w) : o.wp Try.prog a w K Q := by
  unfold Oper.wp execOp
  simp only [ho, hx]
  go_simp
  exact hK
theorem addb_3 {w : World} {a : Act} {K : Act → World → Prop} {Q : Exit → Act → World → Prop} {o : Oper} {x y : Operand} {m n r : Int} (ho : o.op = .binOp .add 3 x y 3) (hx : a.eval x = .int .i64 m) (hy : a.eval y = .int .i64 n) (hr : IntKind.i64.wrap (m + n) = r) (hK : K (a.put o.dst (.int .i64 r)) w) : o.wp Try.prog a w K Q := by
  subst hr
  unfold Oper.wp execOp
  simp only [ho, hx, hy]
  go_simp
  exact hK
theorem build_102_0_1_2_3 {w : World} {a : Act} {K : Act → World → Prop} {Q : Exit → Act → World → Prop} {o : Oper} {x0 x1 x2 x3 : Operand} {c0 c1 c2 c3 : Value} {c4a : Option Addr} {c4n c4c : Nat} {c5a : Option Addr} {c5n c5c : Nat} {c6 : Option Nat} (ho : o.op = .build 102 #[(0, x0), (1, x1), (2, x2), (3, x3)]) (h0 : a.eval x0 = .agg #[c0, c1, c2, c3]) (h1 : a.eval x1 = .slice c4a c4n c4c) (h2 : a.eval x2 = .slice c5a c5n c5c) (h3 : a.eval x3 = .map c6) (hK : K (a.put o.dst (.agg #[c0, c1, c2, c3, .slice c4a c4n c4c, .slice c5a c5n c5c, .map c6])) w) : o.wp Try.prog a w K Q := by
  unfold Oper.wp execOp
  simp only [ho, List.map_toArray, List.map_cons, List.map_nil, h0, h1, h2, h3]
  go_simp
  exact hK
theorem box_102 {w : World} {a : Act} {K : Act → World → Prop} {Q : Exit → Act → World → Prop} {o : Oper} {x : Operand} {c0 c1 c2 c3 c4 c5 c6 : Value} (ho : o.op = .box 102 x) (hx : a.eval x = .agg #[c0, c1, c2, c3, c4, c5, c6]) (hK : K (a.put o.dst (.pointer (some ⟨w.heap.size, 0, none⟩))) (w.alloc (.cells #[c0, c1, c2, c3, c4, c5, c6] 102))) : o.wp Try.prog a w K Q := by
  unfold Oper.wp execOp
  simp only [ho, hx]
  go_simp
  exact hK
theorem len_98 {w : World} {a : Act} {K : Act → World → Prop} {Q : Exit → Act → World → Prop} {o : Oper} {x : Operand} {r : Option Addr} {n c : Nat} (ho : o.op = .call { callee := .builtin .len, args := #[x], argTypes := #[98] }) (hx : a.eval x = .slice r n c) (hK : K (a.put o.dst (.int .i64 n)) w) : o.wp Try.prog a w K Q := by
  unfold Oper.wp execOp
  simp only [ho, resolve, List.map_toArray, List.map_cons, List.map_nil, hx]
  go_simp
  exact hK
theorem build_107_0 {w : World} {a : Act} {K : Act → World → Prop} {Q : Exit → Act → World → Prop} {o : Oper} {x0 : Operand} {c0 c1 : Value} (ho : o.op = .build 107 #[(0, x0)]) (h0 : a.eval x0 = .agg #[c0, c1]) (hK : K (a.put o.dst (.agg #[c0, c1, .slice none 0 0])) w) : o.wp Try.prog a w K Q := by
  unfold Oper.wp execOp
  simp only [ho, List.map_toArray, List.map_cons, List.map_nil, h0]
  go_simp
  exact hK
theorem row_98_1 {w : World} {a : Act} {K : Act → World → Prop} {Q : Exit → Act → World → Prop} {o : Oper} {x0 : Operand} {c0 c1 c2 : Value} (ho : o.op = .buildSlice 98 1 #[(0, x0)]) (h0 : a.eval x0 = .agg #[c0, c1, c2]) (hK : K (a.put o.dst (.slice (some ⟨w.heap.size, 0, none⟩) 1 1)) (w.alloc (.cells #[c0, c1, c2] 107))) : o.wp Try.prog a w K Q := by
  unfold Oper.wp execOp
  simp only [ho, List.map_toArray, List.map_cons, List.map_nil, h0]
  go_simp
  exact hK
theorem app_98 {w : World} {a : Act} {K : Act → World → Prop} {Q : Exit → Act → World → Prop} {o : Oper} {s x : Operand} {n m rc : Nat} {S : Nat → Prop} {ra : Option Addr} {y : Value} {xs news : List Value} (ho : o.op = .call { callee := .builtin .append, args := #[s, x], argTypes := #[98, 98] }) (hs : a.eval s = .slice ra n rc) (hx : a.eval x = y) (hown : Own w S 107 3 ra rc n xs) (hsrc : SrcIs w y m news) (hl : news.length = m * 3) (h1 : ∀ u ∈ news, u.oneCell' = true)
    (hb : (n + m) * 56 ≤ 140737488355328) (hn : n + m ≤ 9223372036854775807) (hS : S w.heap.size) (hK : ∀ ra rc w', Own w' S 107 3 ra rc (n + m) (xs ++ news) → Chg S w w' → K (a.put o.dst (.slice ra (n + m) rc)) w') : o.wp Try.prog a w K Q :=
  wp_own Try.underlying98 (z := .agg #[.int .i64 0, .slice none 0 0, .slice none 0 0]) (size := 3) (bytes := 56) (by kernel_rfl) rfl (by decide) ho hs hx hown hsrc hl h1 hb hn hS hK
theorem ix_98 {w : World} {a : Act} {K : Act → World → Prop} {Q : Exit → Act → World → Prop} {o : Oper} {x y : Operand} {r : Option Addr} {b p n c k : Nat} (ho : o.op = .indexAddr 98 x y) (hx : a.eval x = .slice r n c) (hr : r = some ⟨b, p, none⟩) (hy : a.eval y = .int .i64 (k : Int)) (hk : k < n) (hK : K (a.put o.dst (.pointer (some ⟨b, p + k * 3, none⟩))) w) : o.wp Try.prog a w K Q := by
  subst hr
  have h0 : (0 : Int) ≤ (k : Int) := by omega
  have h1 : (k : Int) < (n : Int) := by omega
  unfold Oper.wp execOp
  simp only [ho, hx, hy]
  go_simp
  exact hK
theorem fld_107_1 {w : World} {a : Act} {K : Act → World → Prop} {Q : Exit → Act → World → Prop} {o : Oper} {x : Operand} {b p : Nat} (ho : o.op = .fieldAddr 107 x 1) (hx : a.eval x = .pointer (some ⟨b, p, none⟩)) (hK : K (a.put o.dst (.pointer (some ⟨b, p + 2, none⟩))) w) : o.wp Try.prog a w K Q := by
  unfold Oper.wp execOp
  simp only [ho, hx]
  go_simp
  exact hK
theorem row_25_1 {w : World} {a : Act} {K : Act → World → Prop} {Q : Exit → Act → World → Prop} {o : Oper} {x0 : Operand} {c0 : Int} (ho : o.op = .buildSlice 25 1 #[(0, x0)]) (h0 : a.eval x0 = .int .i64 c0) (hK : K (a.put o.dst (.slice (some ⟨w.heap.size, 0, none⟩) 1 1)) (w.alloc (.cells #[.int .i64 c0] 3))) : o.wp Try.prog a w K Q := by
  unfold Oper.wp execOp
  simp only [ho, List.map_toArray, List.map_cons, List.map_nil, h0]
  go_simp
  exact hK
theorem app_25 {w : World} {a : Act} {K : Act → World → Prop} {Q : Exit → Act → World → Prop} {o : Oper} {s x : Operand} {n m rc : Nat} {S : Nat → Prop} {ra : Option Addr} {y : Value} {xs news : List Value} (ho : o.op = .call { callee := .builtin .append, args := #[s, x], argTypes := #[25, 25] }) (hs : a.eval s = .slice ra n rc) (hx : a.eval x = y) (hown : Own w S 3 1 ra rc n xs) (hsrc : SrcIs w y m news) (hl : news.length = m * 1) (h1 : ∀ u ∈ news, u.oneCell' = true)
    (hb : (n + m) * 8 ≤ 140737488355328) (hn : n + m ≤ 9223372036854775807) (hS : S w.heap.size) (hK : ∀ ra rc w', Own w' S 3 1 ra rc (n + m) (xs ++ news) → Chg S w w' → K (a.put o.dst (.slice ra (n + m) rc)) w') : o.wp Try.prog a w K Q :=
  wp_own Try.underlying25 (z := .int .i64 0) (size := 1) (bytes := 8) (by kernel_rfl) rfl (by decide) ho hs hx hown hsrc hl h1 hb hn hS hK
theorem st_25 {w : World} {a : Act} {K : Act → World → Prop} {Q : Exit → Act → World → Prop} {o : Oper} {x y : Operand} {g p : Nat} {ty : TypeId} {cs : Array Value} {c0a : Option Addr} {c0n c0c : Nat} (ho : o.op = .store 25 x y) (hx : a.eval x = .pointer (some ⟨g, p, none⟩)) (hy : a.eval y = .slice c0a c0n c0c) (hB : Blk w g ty cs) (hp : p + 0 < cs.size) (hK : ∀ v, K (a.put o.dst v) (w.setCell ⟨g, p, none⟩ (.slice c0a c0n c0c))) : o.wp Try.prog a w K Q := by
  have h0 := (hB.cell (p)).trans (Array.getElem?_eq_getElem (by first | omega | (simp; omega)))
  have f0 := hB.frozen (p)
  clear hB
  unfold Oper.wp execOp
  simp only [ho, hx, hy]
  go_simp
  exact hK _
theorem build_109_0_1 {w : World} {a : Act} {K : Act → World → Prop} {Q : Exit → Act → World → Prop} {o : Oper} {x0 x1 : Operand} {c0 : Int} {c1 : Int} (ho : o.op = .build 109 #[(0, x0), (1, x1)]) (h0 : a.eval x0 = .int .i64 c0) (h1 : a.eval x1 = .int .i64 c1) (hK : K (a.put o.dst (.agg #[.int .i64 c0, .int .i64 c1])) w) : o.wp Try.prog a w K Q := by
  unfold Oper.wp execOp
  simp only [ho, List.map_toArray, List.map_cons, List.map_nil, h0, h1]
  go_simp
  exact hK
theorem alloc_109 {w : World} {a : Act} {K : Act → World → Prop} {Q : Exit → Act → World → Prop} {o : Oper} (ho : o.op = .alloc 109) (hK : K (a.put o.dst (.pointer (some ⟨w.heap.size, 0, none⟩))) (w.alloc (.cells #[.int .i64 0, .int .i64 0] 109))) : o.wp Try.prog a w K Q := by
  unfold Oper.wp execOp
  simp only [ho]
  go_simp
  exact hK
theorem st_109 {w : World} {a : Act} {K : Act → World → Prop} {Q : Exit → Act → World → Prop} {o : Oper} {x y : Operand} {g p : Nat} {ty : TypeId} {cs : Array Value} {c0 c1 : Value} (ho : o.op = .store 109 x y) (hx : a.eval x = .pointer (some ⟨g, p, none⟩)) (hy : a.eval y = .agg #[c0, c1]) (k0 : c0.oneCell' = true) (k1 : c1.oneCell' = true) (hB : Blk w g ty cs) (hp : p + 1 < cs.size) (hK : ∀ v, K (a.put o.dst v) ((w.setCell ⟨g, p, none⟩ c0).setCell ⟨g, p + 1, none⟩ c1)) : o.wp Try.prog a w K Q := by
  have h0 := (hB.cell (p)).trans (Array.getElem?_eq_getElem (by first | omega | (simp; omega)))
  have f0 := hB.frozen (p)
  have hB := hB.set_ (p) c0
  have h1 := (hB.cell (p + 1)).trans (Array.getElem?_eq_getElem (by first | omega | (simp; omega)))
  have f1 := hB.frozen (p + 1)
  have s0 := fun w a m => run_store Try.prog w a c0 m k0
  have s1 := fun w a m => run_store Try.prog w a c1 m k1
  clear hB
  unfold Oper.wp execOp
  simp only [ho, hx, hy]
  go_simp
  exact hK _
theorem nilCheck_ {w : World} {a : Act} {K : Act → World → Prop} {Q : Exit → Act → World → Prop} {o : Oper} {x : Operand} {p : Addr} (ho : o.op = .nilCheck x) (hx : a.eval x = .pointer (some p)) (hK : K (a.put o.dst (.pointer (some p))) w) : o.wp Try.prog a w K Q := by
  unfold Oper.wp execOp
  simp only [ho, hx]
  go_simp
  exact hK
theorem fld_102_3 {w : World} {a : Act} {K : Act → World → Prop} {Q : Exit → Act → World → Prop} {o : Oper} {x : Operand} {b p : Nat} (ho : o.op = .fieldAddr 102 x 3) (hx : a.eval x = .pointer (some ⟨b, p, none⟩)) (hK : K (a.put o.dst (.pointer (some ⟨b, p + 6, none⟩))) w) : o.wp Try.prog a w K Q := by
  unfold Oper.wp execOp
  simp only [ho, hx]
  go_simp
  exact hK
theorem ld_100 {w : World} {a : Act} {K : Act → World → Prop} {Q : Exit → Act → World → Prop} {o : Oper} {x : Operand} {p : Addr} {v : Value} (ho : o.op = .load 100 x) (hx : a.eval x = .pointer (some p)) (hc : w.cell? p = some v) (hK : K (a.put o.dst (v)) w) : o.wp Try.prog a w K Q := by
  unfold Oper.wp execOp
  simp only [ho, hx]
  go_simp
  exact hK
theorem ld_109 {w : World} {a : Act} {K : Act → World → Prop} {Q : Exit → Act → World → Prop} {o : Oper} {x : Operand} {b p : Nat} {c0 c1 : Value} (ho : o.op = .load 109 x) (hx : a.eval x = .pointer (some ⟨b, p, none⟩)) (h0 : w.cell? ⟨b, p, none⟩ = some c0) (h1 : w.cell? ⟨b, p + 1, none⟩ = some c1) (hK : K (a.put o.dst (.agg #[c0, c1])) w) : o.wp Try.prog a w K Q := by
  unfold Oper.wp execOp
  simp only [ho, hx]
  go_simp
  exact hK
theorem ext2_0 {w : World} {a : Act} {K : Act → World → Prop} {Q : Exit → Act → World → Prop} {o : Oper} {x : Operand} {v0 v1 : Value} (ho : o.op = .extract x 0) (hx : a.eval x = .tuple #[v0, v1]) (hK : K (a.put o.dst (v0)) w) : o.wp Try.prog a w K Q := by
  unfold Oper.wp execOp
  simp only [ho, hx]
  go_simp
  exact hK
theorem ext2_1 {w : World} {a : Act} {K : Act → World → Prop} {Q : Exit → Act → World → Prop} {o : Oper} {x : Operand} {v0 v1 : Value} (ho : o.op = .extract x 1) (hx : a.eval x = .tuple #[v0, v1]) (hK : K (a.put o.dst (v1)) w) : o.wp Try.prog a w K Q := by
  unfold Oper.wp execOp
  simp only [ho, hx]
  go_simp
  exact hK
theorem fld_102_1 {w : World} {a : Act} {K : Act → World → Prop} {Q : Exit → Act → World → Prop} {o : Oper} {x : Operand} {b p : Nat} (ho : o.op = .fieldAddr 102 x 1) (hx : a.eval x = .pointer (some ⟨b, p, none⟩)) (hK : K (a.put o.dst (.pointer (some ⟨b, p + 4, none⟩))) w) : o.wp Try.prog a w K Q := by
  unfold Oper.wp execOp
  simp only [ho, hx]
  go_simp
  exact hK
theorem ld_98 {w : World} {a : Act} {K : Act → World → Prop} {Q : Exit → Act → World → Prop} {o : Oper} {x : Operand} {p : Addr} {v : Value} (ho : o.op = .load 98 x) (hx : a.eval x = .pointer (some p)) (hc : w.cell? p = some v) (hK : K (a.put o.dst (v)) w) : o.wp Try.prog a w K Q := by
  unfold Oper.wp execOp
  simp only [ho, hx]
  go_simp
  exact hK
theorem fld_107_0 {w : World} {a : Act} {K : Act → World → Prop} {Q : Exit → Act → World → Prop} {o : Oper} {x : Operand} {b p : Nat} (ho : o.op = .fieldAddr 107 x 0) (hx : a.eval x = .pointer (some ⟨b, p, none⟩)) (hK : K (a.put o.dst (.pointer (some ⟨b, p, none⟩))) w) : o.wp Try.prog a w K Q := by
  unfold Oper.wp execOp
  simp only [ho, hx]
  go_simp
  exact hK
theorem row_110_4 {w : World} {a : Act} {K : Act → World → Prop} {Q : Exit → Act → World → Prop} {o : Oper} {x0 x1 x2 x3 : Operand} {c0f : Fn} {c0x c0y : Array Value} {c1f : Fn} {c1x c1y : Array Value} {c2f : Fn} {c2x c2y : Array Value} {c3f : Fn} {c3x c3y : Array Value} (ho : o.op = .buildSlice 110 4 #[(0, x0), (1, x1), (2, x2), (3, x3)]) (h0 : a.eval x0 = .func c0f c0x c0y) (h1 : a.eval x1 = .func c1f c1x c1y) (h2 : a.eval x2 = .func c2f c2x c2y) (h3 : a.eval x3 = .func c3f c3x c3y) (hK : K (a.put o.dst (.slice (some ⟨w.heap.size, 0, none⟩) 4 4)) (w.alloc (.cells #[.func c0f c0x c0y, .func c1f c1x c1y, .func c2f c2x c2y, .func c3f c3x c3y] 103))) : o.wp Try.prog a w K Q := by
  unfold Oper.wp execOp
  simp only [ho, List.map_toArray, List.map_cons, List.map_nil, h0, h1, h2, h3]
  go_simp
  exact hK
theorem len_110 {w : World} {a : Act} {K : Act → World → Prop} {Q : Exit → Act → World → Prop} {o : Oper} {x : Operand} {r : Option Addr} {n c : Nat} (ho : o.op = .call { callee := .builtin .len, args := #[x], argTypes := #[110] }) (hx : a.eval x = .slice r n c) (hK : K (a.put o.dst (.int .i64 n)) w) : o.wp Try.prog a w K Q := by
  unfold Oper.wp execOp
  simp only [ho, resolve, List.map_toArray, List.map_cons, List.map_nil, hx]
  go_simp
  exact hK
theorem ix_110 {w : World} {a : Act} {K : Act → World → Prop} {Q : Exit → Act → World → Prop} {o : Oper} {x y : Operand} {r : Option Addr} {b p n c k : Nat} (ho : o.op = .indexAddr 110 x y) (hx : a.eval x = .slice r n c) (hr : r = some ⟨b, p, none⟩) (hy : a.eval y = .int .i64 (k : Int)) (hk : k < n) (hK : K (a.put o.dst (.pointer (some ⟨b, p + k, none⟩))) w) : o.wp Try.prog a w K Q := by
  subst hr
  have h0 : (0 : Int) ≤ (k : Int) := by omega
  have h1 : (k : Int) < (n : Int) := by omega
  unfold Oper.wp execOp
  simp only [ho, hx, hy]
  go_simp
  exact hK
theorem ld_103 {w : World} {a : Act} {K : Act → World → Prop} {Q : Exit → Act → World → Prop} {o : Oper} {x : Operand} {p : Addr} {v : Value} (ho : o.op = .load 103 x) (hx : a.eval x = .pointer (some p)) (hc : w.cell? p = some v) (hK : K (a.put o.dst (v)) w) : o.wp Try.prog a w K Q := by
  unfold Oper.wp execOp
  simp only [ho, hx]
  go_simp
  exact hK
theorem fld_102_2 {w : World} {a : Act} {K : Act → World → Prop} {Q : Exit → Act → World → Prop} {o : Oper} {x : Operand} {b p : Nat} (ho : o.op = .fieldAddr 102 x 2) (hx : a.eval x = .pointer (some ⟨b, p, none⟩)) (hK : K (a.put o.dst (.pointer (some ⟨b, p + 5, none⟩))) w) : o.wp Try.prog a w K Q := by
  unfold Oper.wp execOp
  simp only [ho, hx]
  go_simp
  exact hK
theorem ix_25 {w : World} {a : Act} {K : Act → World → Prop} {Q : Exit → Act → World → Prop} {o : Oper} {x y : Operand} {r : Option Addr} {b p n c k : Nat} (ho : o.op = .indexAddr 25 x y) (hx : a.eval x = .slice r n c) (hr : r = some ⟨b, p, none⟩) (hy : a.eval y = .int .i64 (k : Int)) (hk : k < n) (hK : K (a.put o.dst (.pointer (some ⟨b, p + k, none⟩))) w) : o.wp Try.prog a w K Q := by
  subst hr
  have h0 : (0 : Int) ≤ (k : Int) := by omega
  have h1 : (k : Int) < (n : Int) := by omega
  unfold Oper.wp execOp
  simp only [ho, hx, hy]
  go_simp
  exact hK
theorem subb_3 {w : World} {a : Act} {K : Act → World → Prop} {Q : Exit → Act → World → Prop} {o : Oper} {x y : Operand} {m n r : Int} (ho : o.op = .binOp .sub 3 x y 3) (hx : a.eval x = .int .i64 m) (hy : a.eval y = .int .i64 n) (hr : IntKind.i64.wrap (m - n) = r) (hK : K (a.put o.dst (.int .i64 r)) w) : o.wp Try.prog a w K Q := by
  subst hr
  unfold Oper.wp execOp
  simp only [ho, hx, hy]
  go_simp
  exact hK
theorem neq_3 {w : World} {a : Act} {K : Act → World → Prop} {Q : Exit → Act → World → Prop} {o : Oper} {x y : Operand} {m n : Int} (ho : o.op = .binOp .neq 3 x y 3) (hx : a.eval x = .int .i64 m) (hy : a.eval y = .int .i64 n) (hK : K (a.put o.dst (.bool (m != n))) w) : o.wp Try.prog a w K Q := by
  unfold Oper.wp execOp
  simp only [ho, hx, hy]
  go_simp
  exact hK
theorem fld_102_0 {w : World} {a : Act} {K : Act → World → Prop} {Q : Exit → Act → World → Prop} {o : Oper} {x : Operand} {b p : Nat} (ho : o.op = .fieldAddr 102 x 0) (hx : a.eval x = .pointer (some ⟨b, p, none⟩)) (hK : K (a.put o.dst (.pointer (some ⟨b, p, none⟩))) w) : o.wp Try.prog a w K Q := by
  unfold Oper.wp execOp
  simp only [ho, hx]
  go_simp
  exact hK
theorem gtr_3 {w : World} {a : Act} {K : Act → World → Prop} {Q : Exit → Act → World → Prop} {o : Oper} {x y : Operand} {m n : Int} (ho : o.op = .binOp .gtr 3 x y 3) (hx : a.eval x = .int .i64 m) (hy : a.eval y = .int .i64 n) (hK : K (a.put o.dst (.bool (decide (n < m)))) w) : o.wp Try.prog a w K Q := by
  unfold Oper.wp execOp
  simp only [ho, hx, hy]
  go_simp
  exact hK
theorem ld_107 {w : World} {a : Act} {K : Act → World → Prop} {Q : Exit → Act → World → Prop} {o : Oper} {x : Operand} {b p : Nat} {c0 c1 c2 : Value} (ho : o.op = .load 107 x) (hx : a.eval x = .pointer (some ⟨b, p, none⟩)) (h0 : w.cell? ⟨b, p, none⟩ = some c0) (h1 : w.cell? ⟨b, p + 1, none⟩ = some c1) (h2 : w.cell? ⟨b, p + 2, none⟩ = some c2) (hK : K (a.put o.dst (.agg #[c0, c1, c2])) w) : o.wp Try.prog a w K Q := by
  unfold Oper.wp execOp
  simp only [ho, hx]
  go_simp
  exact hK
theorem alloc_107 {w : World} {a : Act} {K : Act → World → Prop} {Q : Exit → Act → World → Prop} {o : Oper} (ho : o.op = .alloc 107) (hK : K (a.put o.dst (.pointer (some ⟨w.heap.size, 0, none⟩))) (w.alloc (.cells #[.int .i64 0, .slice none 0 0, .slice none 0 0] 107))) : o.wp Try.prog a w K Q := by
  unfold Oper.wp execOp
  simp only [ho]
  go_simp
  exact hK
theorem st_107 {w : World} {a : Act} {K : Act → World → Prop} {Q : Exit → Act → World → Prop} {o : Oper} {x y : Operand} {g p : Nat} {ty : TypeId} {cs : Array Value} {c0 c1 c2 : Value} (ho : o.op = .store 107 x y) (hx : a.eval x = .pointer (some ⟨g, p, none⟩)) (hy : a.eval y = .agg #[c0, c1, c2]) (k0 : c0.oneCell' = true) (k1 : c1.oneCell' = true) (k2 : c2.oneCell' = true) (hB : Blk w g ty cs) (hp : p + 2 < cs.size) (hK : ∀ v, K (a.put o.dst v) (((w.setCell ⟨g, p, none⟩ c0).setCell ⟨g, p + 1, none⟩ c1).setCell ⟨g, p + 2, none⟩ c2)) : o.wp Try.prog a w K Q := by
  have h0 := (hB.cell (p)).trans (Array.getElem?_eq_getElem (by first | omega | (simp; omega)))
  have f0 := hB.frozen (p)
  have hB := hB.set_ (p) c0
  have h1 := (hB.cell (p + 1)).trans (Array.getElem?_eq_getElem (by first | omega | (simp; omega)))
  have f1 := hB.frozen (p + 1)
  have hB := hB.set_ (p + 1) c1
  have h2 := (hB.cell (p + 2)).trans (Array.getElem?_eq_getElem (by first | omega | (simp; omega)))
  have f2 := hB.frozen (p + 2)
  have s0 := fun w a m => run_store Try.prog w a c0 m k0
  have s1 := fun w a m => run_store Try.prog w a c1 m k1
  have s2 := fun w a m => run_store Try.prog w a c2 m k2
  clear hB
  unfold Oper.wp execOp
  simp only [ho, hx, hy]
  go_simp
  exact hK _
theorem min_3 {w : World} {a : Act} {K : Act → World → Prop} {Q : Exit → Act → World → Prop} {o : Oper} {x y : Operand} {m n : Int} (ho : o.op = .call { callee := .builtin .min, args := #[x, y], argTypes := #[3, 3] }) (hx : a.eval x = .int .i64 m) (hy : a.eval y = .int .i64 n) (hK : K (a.put o.dst (.int .i64 (min m n))) w) : o.wp Try.prog a w K Q := by
  unfold Oper.wp execOp
  simp only [ho, resolve, List.map_toArray, List.map_cons, List.map_nil, hx, hy]
  go_simp
  first
    | exact hK
    | (have e : min m n = (if n < m then n else m) := by split <;> omega
       rw [e] at hK
       exact hK)
theorem alloc_25 {w : World} {a : Act} {K : Act → World → Prop} {Q : Exit → Act → World → Prop} {o : Oper} (ho : o.op = .alloc 25) (hK : K (a.put o.dst (.pointer (some ⟨w.heap.size, 0, none⟩))) (w.alloc (.cells #[.slice none 0 0] 25))) : o.wp Try.prog a w K Q := by
  unfold Oper.wp execOp
  simp only [ho]
  go_simp
  exact hK
theorem box_32 {w : World} {a : Act} {K : Act → World → Prop} {Q : Exit → Act → World → Prop} {o : Oper} {x : Operand} {c0 c1 c2 c3 c4 : Value} (ho : o.op = .box 32 x) (hx : a.eval x = .agg #[c0, c1, c2, c3, c4]) (hK : K (a.put o.dst (.pointer (some ⟨w.heap.size, 0, none⟩))) (w.alloc (.cells #[c0, c1, c2, c3, c4] 32))) : o.wp Try.prog a w K Q := by
  unfold Oper.wp execOp
  simp only [ho, hx]
  go_simp
  exact hK
theorem alloc_65 {w : World} {a : Act} {K : Act → World → Prop} {Q : Exit → Act → World → Prop} {o : Oper} (ho : o.op = .alloc 65) (hK : K (a.put o.dst (.pointer (some ⟨w.heap.size, 0, none⟩))) (w.alloc (.cells #[.nilFunc] 65))) : o.wp Try.prog a w K Q := by
  unfold Oper.wp execOp
  simp only [ho]
  go_simp
  exact hK
theorem st_65 {w : World} {a : Act} {K : Act → World → Prop} {Q : Exit → Act → World → Prop} {o : Oper} {x y : Operand} {g p : Nat} {ty : TypeId} {cs : Array Value} {c0f : Fn} {c0x c0y : Array Value} (ho : o.op = .store 65 x y) (hx : a.eval x = .pointer (some ⟨g, p, none⟩)) (hy : a.eval y = .func c0f c0x c0y) (hB : Blk w g ty cs) (hp : p + 0 < cs.size) (hK : ∀ v, K (a.put o.dst v) (w.setCell ⟨g, p, none⟩ (.func c0f c0x c0y))) : o.wp Try.prog a w K Q := by
  have h0 := (hB.cell (p)).trans (Array.getElem?_eq_getElem (by first | omega | (simp; omega)))
  have f0 := hB.frozen (p)
  have s0 := fun w a m => run_store Try.prog w a (.func c0f c0x c0y) m rfl
  clear hB
  unfold Oper.wp execOp
  simp only [ho, hx, hy]
  go_simp
  exact hK _
theorem ld_32 {w : World} {a : Act} {K : Act → World → Prop} {Q : Exit → Act → World → Prop} {o : Oper} {x : Operand} {b p : Nat} {c0 c1 c2 c3 c4 : Value} (ho : o.op = .load 32 x) (hx : a.eval x = .pointer (some ⟨b, p, none⟩)) (h0 : w.cell? ⟨b, p, none⟩ = some c0) (h1 : w.cell? ⟨b, p + 1, none⟩ = some c1) (h2 : w.cell? ⟨b, p + 2, none⟩ = some c2) (h3 : w.cell? ⟨b, p + 3, none⟩ = some c3) (h4 : w.cell? ⟨b, p + 4, none⟩ = some c4) (hK : K (a.put o.dst (.agg #[c0, c1, c2, c3, c4])) w) : o.wp Try.prog a w K Q := by
  unfold Oper.wp execOp
  simp only [ho, hx]
  go_simp
  exact hK
theorem len_37 {w : World} {a : Act} {K : Act → World → Prop} {Q : Exit → Act → World → Prop} {o : Oper} {x : Operand} {r : Option Addr} {n c : Nat} (ho : o.op = .call { callee := .builtin .len, args := #[x], argTypes := #[37] }) (hx : a.eval x = .slice r n c) (hK : K (a.put o.dst (.int .i64 n)) w) : o.wp Try.prog a w K Q := by
  unfold Oper.wp execOp
  simp only [ho, resolve, List.map_toArray, List.map_cons, List.map_nil, hx]
  go_simp
  exact hK
theorem ix_37 {w : World} {a : Act} {K : Act → World → Prop} {Q : Exit → Act → World → Prop} {o : Oper} {x y : Operand} {r : Option Addr} {b p n c k : Nat} (ho : o.op = .indexAddr 37 x y) (hx : a.eval x = .slice r n c) (hr : r = some ⟨b, p, none⟩) (hy : a.eval y = .int .i64 (k : Int)) (hk : k < n) (hK : K (a.put o.dst (.pointer (some ⟨b, p + k * 5, none⟩))) w) : o.wp Try.prog a w K Q := by
  subst hr
  have h0 : (0 : Int) ≤ (k : Int) := by omega
  have h1 : (k : Int) < (n : Int) := by omega
  unfold Oper.wp execOp
  simp only [ho, hx, hy]
  go_simp
  exact hK
theorem eql_48 {w : World} {a : Act} {K : Act → World → Prop} {Q : Exit → Act → World → Prop} {o : Oper} {x y : Operand} {m n : Int} (ho : o.op = .binOp .eql 48 x y 48) (hx : a.eval x = .int .i64 m) (hy : a.eval y = .int .i64 n) (hK : K (a.put o.dst (.bool (m == n))) w) : o.wp Try.prog a w K Q := by
  unfold Oper.wp execOp
  simp only [ho, hx, hy]
  go_simp
  exact hK
theorem fld_27_0 {w : World} {a : Act} {K : Act → World → Prop} {Q : Exit → Act → World → Prop} {o : Oper} {x : Operand} {b p : Nat} (ho : o.op = .fieldAddr 27 x 0) (hx : a.eval x = .pointer (some ⟨b, p, none⟩)) (hK : K (a.put o.dst (.pointer (some ⟨b, p, none⟩))) w) : o.wp Try.prog a w K Q := by
  unfold Oper.wp execOp
  simp only [ho, hx]
  go_simp
  exact hK
theorem ld_4 {w : World} {a : Act} {K : Act → World → Prop} {Q : Exit → Act → World → Prop} {o : Oper} {x : Operand} {p : Addr} {v : Value} (ho : o.op = .load 4 x) (hx : a.eval x = .pointer (some p)) (hc : w.cell? p = some v) (hK : K (a.put o.dst (v)) w) : o.wp Try.prog a w K Q := by
  unfold Oper.wp execOp
  simp only [ho, hx]
  go_simp
  exact hK
theorem box_71 {w : World} {a : Act} {K : Act → World → Prop} {Q : Exit → Act → World → Prop} {o : Oper} {x : Operand} {c0f : Fn} {c0x c0y : Array Value} (ho : o.op = .box 71 x) (hx : a.eval x = .func c0f c0x c0y) (hK : K (a.put o.dst (.pointer (some ⟨w.heap.size, 0, none⟩))) (w.alloc (.cells #[.func c0f c0x c0y] 71))) : o.wp Try.prog a w K Q := by
  unfold Oper.wp execOp
  simp only [ho, hx]
  go_simp
  exact hK
theorem len_68 {w : World} {a : Act} {K : Act → World → Prop} {Q : Exit → Act → World → Prop} {o : Oper} {x : Operand} {r : Option Addr} {n c : Nat} (ho : o.op = .call { callee := .builtin .len, args := #[x], argTypes := #[68] }) (hx : a.eval x = .slice r n c) (hK : K (a.put o.dst (.int .i64 n)) w) : o.wp Try.prog a w K Q := by
  unfold Oper.wp execOp
  simp only [ho, resolve, List.map_toArray, List.map_cons, List.map_nil, hx]
  go_simp
  exact hK
theorem ix_68 {w : World} {a : Act} {K : Act → World → Prop} {Q : Exit → Act → World → Prop} {o : Oper} {x y : Operand} {r : Option Addr} {b p n c k : Nat} (ho : o.op = .indexAddr 68 x y) (hx : a.eval x = .slice r n c) (hr : r = some ⟨b, p, none⟩) (hy : a.eval y = .int .i64 (k : Int)) (hk : k < n) (hK : K (a.put o.dst (.pointer (some ⟨b, p + k, none⟩))) w) : o.wp Try.prog a w K Q := by
  subst hr
  have h0 : (0 : Int) ≤ (k : Int) := by omega
  have h1 : (k : Int) < (n : Int) := by omega
  unfold Oper.wp execOp
  simp only [ho, hx, hy]
  go_simp
  exact hK
theorem ix_80 {w : World} {a : Act} {K : Act → World → Prop} {Q : Exit → Act → World → Prop} {o : Oper} {x y : Operand} {r : Option Addr} {b p n c k : Nat} (ho : o.op = .indexAddr 80 x y) (hx : a.eval x = .slice r n c) (hr : r = some ⟨b, p, none⟩) (hy : a.eval y = .int .i64 (k : Int)) (hk : k < n) (hK : K (a.put o.dst (.pointer (some ⟨b, p + k, none⟩))) w) : o.wp Try.prog a w K Q := by
  subst hr
  have h0 : (0 : Int) ≤ (k : Int) := by omega
  have h1 : (k : Int) < (n : Int) := by omega
  unfold Oper.wp execOp
  simp only [ho, hx, hy]
  go_simp
  exact hK
theorem st_81 {w : World} {a : Act} {K : Act → World → Prop} {Q : Exit → Act → World → Prop} {o : Oper} {x y : Operand} {g p : Nat} {ty : TypeId} {cs : Array Value} {c0 : Option Addr} (ho : o.op = .store 81 x y) (hx : a.eval x = .pointer (some ⟨g, p, none⟩)) (hy : a.eval y = .pointer c0) (hB : Blk w g ty cs) (hp : p + 0 < cs.size) (hK : ∀ v, K (a.put o.dst v) (w.setCell ⟨g, p, none⟩ (.pointer c0))) : o.wp Try.prog a w K Q := by
  have h0 := (hB.cell (p)).trans (Array.getElem?_eq_getElem (by first | omega | (simp; omega)))
  have f0 := hB.frozen (p)
  clear hB
  unfold Oper.wp execOp
  simp only [ho, hx, hy]
  go_simp
  exact hK _
theorem len_80 {w : World} {a : Act} {K : Act → World → Prop} {Q : Exit → Act → World → Prop} {o : Oper} {x : Operand} {r : Option Addr} {n c : Nat} (ho : o.op = .call { callee := .builtin .len, args := #[x], argTypes := #[80] }) (hx : a.eval x = .slice r n c) (hK : K (a.put o.dst (.int .i64 n)) w) : o.wp Try.prog a w K Q := by
  unfold Oper.wp execOp
  simp only [ho, resolve, List.map_toArray, List.map_cons, List.map_nil, hx]
  go_simp
  exact hK
theorem ld_71 {w : World} {a : Act} {K : Act → World → Prop} {Q : Exit → Act → World → Prop} {o : Oper} {x : Operand} {p : Addr} {v : Value} (ho : o.op = .load 71 x) (hx : a.eval x = .pointer (some p)) (hc : w.cell? p = some v) (hK : K (a.put o.dst (v)) w) : o.wp Try.prog a w K Q := by
  unfold Oper.wp execOp
  simp only [ho, hx]
  go_simp
  exact hK
theorem ld_81 {w : World} {a : Act} {K : Act → World → Prop} {Q : Exit → Act → World → Prop} {o : Oper} {x : Operand} {p : Addr} {v : Value} (ho : o.op = .load 81 x) (hx : a.eval x = .pointer (some p)) (hc : w.cell? p = some v) (hK : K (a.put o.dst (v)) w) : o.wp Try.prog a w K Q := by
  unfold Oper.wp execOp
  simp only [ho, hx]
  go_simp
  exact hK
theorem shm_80 {w : World} {a : Act} {K : Act → World → Prop} {Q : Exit → Act → World → Prop} {o : Oper} {x hi mx : Operand} {r : Option Addr} {n c k m : Nat} (ho : o.op = .slice 80 x none (some hi) (some mx)) (hx : a.eval x = .slice r n c) (hl : a.eval hi = .int .i64 (k : Int)) (hm : a.eval mx = .int .i64 (m : Int)) (hk : k ≤ m) (hc : m ≤ c) (hK : K (a.put o.dst (.slice r k m)) w) : o.wp Try.prog a w K Q := by
  have h0 : (0 : Int) ≤ (k : Int) := by omega
  have h1 : (k : Int) ≤ (m : Int) := by omega
  have h2 : (m : Int) ≤ (c : Int) := by omega
  have h3 : (0 : Int) ≤ (m : Int) := by omega
  unfold Oper.wp execOp
  simp only [ho, hx, hl, hm, Option.map_some, Option.map_none]
  go_simp
  exact hK
theorem slo_80 {w : World} {a : Act} {K : Act → World → Prop} {Q : Exit → Act → World → Prop} {o : Oper} {x lo : Operand} {r : Option Addr} {n c k : Nat} (ho : o.op = .slice 80 x (some lo) none none) (hx : a.eval x = .slice r n c) (hl : a.eval lo = .int .i64 (k : Int)) (hk : k ≤ n) (hc : n ≤ c) (hK : K (a.put o.dst (.slice (slA r k 1 c) (n - k) (c - k))) w) : o.wp Try.prog a w K Q := by
  have h0 : (0 : Int) ≤ (k : Int) := by omega
  have h1 : (k : Int) ≤ (n : Int) := by omega
  unfold slA at hK
  simp only [Nat.mul_one] at hK
  unfold Oper.wp execOp
  simp only [ho, hx, hl, Option.map_some, Option.map_none]
  go_simp
  exact hK
theorem row_80_1 {w : World} {a : Act} {K : Act → World → Prop} {Q : Exit → Act → World → Prop} {o : Oper} {x0 : Operand} {c0 : Option Addr} (ho : o.op = .buildSlice 80 1 #[(0, x0)]) (h0 : a.eval x0 = .pointer c0) (hK : K (a.put o.dst (.slice (some ⟨w.heap.size, 0, none⟩) 1 1)) (w.alloc (.cells #[.pointer c0] 81))) : o.wp Try.prog a w K Q := by
  unfold Oper.wp execOp
  simp only [ho, List.map_toArray, List.map_cons, List.map_nil, h0]
  go_simp
  exact hK
theorem fld_32_0 {w : World} {a : Act} {K : Act → World → Prop} {Q : Exit → Act → World → Prop} {o : Oper} {x : Operand} {b p : Nat} (ho : o.op = .fieldAddr 32 x 0) (hx : a.eval x = .pointer (some ⟨b, p, none⟩)) (hK : K (a.put o.dst (.pointer (some ⟨b, p, none⟩))) w) : o.wp Try.prog a w K Q := by
  unfold Oper.wp execOp
  simp only [ho, hx]
  go_simp
  exact hK
theorem fld_32_1 {w : World} {a : Act} {K : Act → World → Prop} {Q : Exit → Act → World → Prop} {o : Oper} {x : Operand} {b p : Nat} (ho : o.op = .fieldAddr 32 x 1) (hx : a.eval x = .pointer (some ⟨b, p, none⟩)) (hK : K (a.put o.dst (.pointer (some ⟨b, p + 1, none⟩))) w) : o.wp Try.prog a w K Q := by
  unfold Oper.wp execOp
  simp only [ho, hx]
  go_simp
  exact hK
theorem fld_32_2 {w : World} {a : Act} {K : Act → World → Prop} {Q : Exit → Act → World → Prop} {o : Oper} {x : Operand} {b p : Nat} (ho : o.op = .fieldAddr 32 x 2) (hx : a.eval x = .pointer (some ⟨b, p, none⟩)) (hK : K (a.put o.dst (.pointer (some ⟨b, p + 3, none⟩))) w) : o.wp Try.prog a w K Q := by
  unfold Oper.wp execOp
  simp only [ho, hx]
  go_simp
  exact hK
theorem row_28_2 {w : World} {a : Act} {K : Act → World → Prop} {Q : Exit → Act → World → Prop} {o : Oper} {x0 x1 : Operand} {c0 c1 : Value} {c2 c3 : Value} (ho : o.op = .buildSlice 28 2 #[(0, x0), (1, x1)]) (h0 : a.eval x0 = .agg #[c0, c1]) (h1 : a.eval x1 = .agg #[c2, c3]) (hK : K (a.put o.dst (.slice (some ⟨w.heap.size, 0, none⟩) 2 2)) (w.alloc (.cells #[c0, c1, c2, c3] 30))) : o.wp Try.prog a w K Q := by
  unfold Oper.wp execOp
  simp only [ho, List.map_toArray, List.map_cons, List.map_nil, h0, h1]
  go_simp
  exact hK
theorem row_68_1 {w : World} {a : Act} {K : Act → World → Prop} {Q : Exit → Act → World → Prop} {o : Oper} {x0 : Operand} {c0a : Option Addr} {c0n c0c : Nat} (ho : o.op = .buildSlice 68 1 #[(0, x0)]) (h0 : a.eval x0 = .slice c0a c0n c0c) (hK : K (a.put o.dst (.slice (some ⟨w.heap.size, 0, none⟩) 1 1)) (w.alloc (.cells #[.slice c0a c0n c0c] 28))) : o.wp Try.prog a w K Q := by
  unfold Oper.wp execOp
  simp only [ho, List.map_toArray, List.map_cons, List.map_nil, h0]
  go_simp
  exact hK
theorem row_28_1 {w : World} {a : Act} {K : Act → World → Prop} {Q : Exit → Act → World → Prop} {o : Oper} {x0 : Operand} {c0 c1 : Value} (ho : o.op = .buildSlice 28 1 #[(0, x0)]) (h0 : a.eval x0 = .agg #[c0, c1]) (hK : K (a.put o.dst (.slice (some ⟨w.heap.size, 0, none⟩) 1 1)) (w.alloc (.cells #[c0, c1] 30))) : o.wp Try.prog a w K Q := by
  unfold Oper.wp execOp
  simp only [ho, List.map_toArray, List.map_cons, List.map_nil, h0]
  go_simp
  exact hK
theorem row_68_2 {w : World} {a : Act} {K : Act → World → Prop} {Q : Exit → Act → World → Prop} {o : Oper} {x0 x1 : Operand} {c0a : Option Addr} {c0n c0c : Nat} {c1a : Option Addr} {c1n c1c : Nat} (ho : o.op = .buildSlice 68 2 #[(0, x0), (1, x1)]) (h0 : a.eval x0 = .slice c0a c0n c0c) (h1 : a.eval x1 = .slice c1a c1n c1c) (hK : K (a.put o.dst (.slice (some ⟨w.heap.size, 0, none⟩) 2 2)) (w.alloc (.cells #[.slice c0a c0n c0c, .slice c1a c1n c1c] 28))) : o.wp Try.prog a w K Q := by
  unfold Oper.wp execOp
  simp only [ho, List.map_toArray, List.map_cons, List.map_nil, h0, h1]
  go_simp
  exact hK
theorem ld_65 {w : World} {a : Act} {K : Act → World → Prop} {Q : Exit → Act → World → Prop} {o : Oper} {x : Operand} {p : Addr} {v : Value} (ho : o.op = .load 65 x) (hx : a.eval x = .pointer (some p)) (hc : w.cell? p = some v) (hK : K (a.put o.dst (v)) w) : o.wp Try.prog a w K Q := by
  unfold Oper.wp execOp
  simp only [ho, hx]
  go_simp
  exact hK
theorem box_65 {w : World} {a : Act} {K : Act → World → Prop} {Q : Exit → Act → World → Prop} {o : Oper} {x : Operand} {c0f : Fn} {c0x c0y : Array Value} (ho : o.op = .box 65 x) (hx : a.eval x = .func c0f c0x c0y) (hK : K (a.put o.dst (.pointer (some ⟨w.heap.size, 0, none⟩))) (w.alloc (.cells #[.func c0f c0x c0y] 65))) : o.wp Try.prog a w K Q := by
  unfold Oper.wp execOp
  simp only [ho, hx]
  go_simp
  exact hK
theorem ix_83 {w : World} {a : Act} {K : Act → World → Prop} {Q : Exit → Act → World → Prop} {o : Oper} {x y : Operand} {r : Option Addr} {b p n c k : Nat} (ho : o.op = .indexAddr 83 x y) (hx : a.eval x = .slice r n c) (hr : r = some ⟨b, p, none⟩) (hy : a.eval y = .int .i64 (k : Int)) (hk : k < n) (hK : K (a.put o.dst (.pointer (some ⟨b, p + k, none⟩))) w) : o.wp Try.prog a w K Q := by
  subst hr
  have h0 : (0 : Int) ≤ (k : Int) := by omega
  have h1 : (k : Int) < (n : Int) := by omega
  unfold Oper.wp execOp
  simp only [ho, hx, hy]
  go_simp
  exact hK
theorem st_84 {w : World} {a : Act} {K : Act → World → Prop} {Q : Exit → Act → World → Prop} {o : Oper} {x y : Operand} {g p : Nat} {ty : TypeId} {cs : Array Value} {c0 : Option Addr} (ho : o.op = .store 84 x y) (hx : a.eval x = .pointer (some ⟨g, p, none⟩)) (hy : a.eval y = .pointer c0) (hB : Blk w g ty cs) (hp : p + 0 < cs.size) (hK : ∀ v, K (a.put o.dst v) (w.setCell ⟨g, p, none⟩ (.pointer c0))) : o.wp Try.prog a w K Q := by
  have h0 := (hB.cell (p)).trans (Array.getElem?_eq_getElem (by first | omega | (simp; omega)))
  have f0 := hB.frozen (p)
  clear hB
  unfold Oper.wp execOp
  simp only [ho, hx, hy]
  go_simp
  exact hK _
theorem len_83 {w : World} {a : Act} {K : Act → World → Prop} {Q : Exit → Act → World → Prop} {o : Oper} {x : Operand} {r : Option Addr} {n c : Nat} (ho : o.op = .call { callee := .builtin .len, args := #[x], argTypes := #[83] }) (hx : a.eval x = .slice r n c) (hK : K (a.put o.dst (.int .i64 n)) w) : o.wp Try.prog a w K Q := by
  unfold Oper.wp execOp
  simp only [ho, resolve, List.map_toArray, List.map_cons, List.map_nil, hx]
  go_simp
  exact hK
theorem ld_84 {w : World} {a : Act} {K : Act → World → Prop} {Q : Exit → Act → World → Prop} {o : Oper} {x : Operand} {p : Addr} {v : Value} (ho : o.op = .load 84 x) (hx : a.eval x = .pointer (some p)) (hc : w.cell? p = some v) (hK : K (a.put o.dst (v)) w) : o.wp Try.prog a w K Q := by
  unfold Oper.wp execOp
  simp only [ho, hx]
  go_simp
  exact hK
theorem shm_83 {w : World} {a : Act} {K : Act → World → Prop} {Q : Exit → Act → World → Prop} {o : Oper} {x hi mx : Operand} {r : Option Addr} {n c k m : Nat} (ho : o.op = .slice 83 x none (some hi) (some mx)) (hx : a.eval x = .slice r n c) (hl : a.eval hi = .int .i64 (k : Int)) (hm : a.eval mx = .int .i64 (m : Int)) (hk : k ≤ m) (hc : m ≤ c) (hK : K (a.put o.dst (.slice r k m)) w) : o.wp Try.prog a w K Q := by
  have h0 : (0 : Int) ≤ (k : Int) := by omega
  have h1 : (k : Int) ≤ (m : Int) := by omega
  have h2 : (m : Int) ≤ (c : Int) := by omega
  have h3 : (0 : Int) ≤ (m : Int) := by omega
  unfold Oper.wp execOp
  simp only [ho, hx, hl, hm, Option.map_some, Option.map_none]
  go_simp
  exact hK
theorem slo_83 {w : World} {a : Act} {K : Act → World → Prop} {Q : Exit → Act → World → Prop} {o : Oper} {x lo : Operand} {r : Option Addr} {n c k : Nat} (ho : o.op = .slice 83 x (some lo) none none) (hx : a.eval x = .slice r n c) (hl : a.eval lo = .int .i64 (k : Int)) (hk : k ≤ n) (hc : n ≤ c) (hK : K (a.put o.dst (.slice (slA r k 1 c) (n - k) (c - k))) w) : o.wp Try.prog a w K Q := by
  have h0 : (0 : Int) ≤ (k : Int) := by omega
  have h1 : (k : Int) ≤ (n : Int) := by omega
  unfold slA at hK
  simp only [Nat.mul_one] at hK
  unfold Oper.wp execOp
  simp only [ho, hx, hl, Option.map_some, Option.map_none]
  go_simp
  exact hK
theorem row_83_1 {w : World} {a : Act} {K : Act → World → Prop} {Q : Exit → Act → World → Prop} {o : Oper} {x0 : Operand} {c0 : Option Addr} (ho : o.op = .buildSlice 83 1 #[(0, x0)]) (h0 : a.eval x0 = .pointer c0) (hK : K (a.put o.dst (.slice (some ⟨w.heap.size, 0, none⟩) 1 1)) (w.alloc (.cells #[.pointer c0] 84))) : o.wp Try.prog a w K Q := by
  unfold Oper.wp execOp
  simp only [ho, List.map_toArray, List.map_cons, List.map_nil, h0]
  go_simp
  exact hK
theorem build_30_0 {w : World} {a : Act} {K : Act → World → Prop} {Q : Exit → Act → World → Prop} {o : Oper} {x0 : Operand} {c0 : Int} (ho : o.op = .build 30 #[(0, x0)]) (h0 : a.eval x0 = .int .i64 c0) (hK : K (a.put o.dst (.agg #[.int .i64 c0, .slice none 0 0])) w) : o.wp Try.prog a w K Q := by
  unfold Oper.wp execOp
  simp only [ho, List.map_toArray, List.map_cons, List.map_nil, h0]
  go_simp
  exact hK
theorem build_30_0_1 {w : World} {a : Act} {K : Act → World → Prop} {Q : Exit → Act → World → Prop} {o : Oper} {x0 x1 : Operand} {c0 : Int} {c1a : Option Addr} {c1n c1c : Nat} (ho : o.op = .build 30 #[(0, x0), (1, x1)]) (h0 : a.eval x0 = .int .i64 c0) (h1 : a.eval x1 = .slice c1a c1n c1c) (hK : K (a.put o.dst (.agg #[.int .i64 c0, .slice c1a c1n c1c])) w) : o.wp Try.prog a w K Q := by
  unfold Oper.wp execOp
  simp only [ho, List.map_toArray, List.map_cons, List.map_nil, h0, h1]
  go_simp
  exact hK
theorem alloc_27 {w : World} {a : Act} {K : Act → World → Prop} {Q : Exit → Act → World → Prop} {o : Oper} (ho : o.op = .alloc 27) (hK : K (a.put o.dst (.pointer (some ⟨w.heap.size, 0, none⟩))) (w.alloc (.cells #[.bool false, .slice none 0 0, .slice none 0 0, .int .i64 0] 27))) : o.wp Try.prog a w K Q := by
  unfold Oper.wp execOp
  simp only [ho]
  go_simp
  exact hK
theorem st_27 {w : World} {a : Act} {K : Act → World → Prop} {Q : Exit → Act → World → Prop} {o : Oper} {x y : Operand} {g p : Nat} {ty : TypeId} {cs : Array Value} {c0 c1 c2 c3 : Value} (ho : o.op = .store 27 x y) (hx : a.eval x = .pointer (some ⟨g, p, none⟩)) (hy : a.eval y = .agg #[c0, c1, c2, c3]) (k0 : c0.oneCell' = true) (k1 : c1.oneCell' = true) (k2 : c2.oneCell' = true) (k3 : c3.oneCell' = true) (hB : Blk w g ty cs) (hp : p + 3 < cs.size) (hK : ∀ v, K (a.put o.dst v) ((((w.setCell ⟨g, p, none⟩ c0).setCell ⟨g, p + 1, none⟩ c1).setCell ⟨g, p + 2, none⟩ c2).setCell ⟨g, p + 3, none⟩ c3)) : o.wp Try.prog a w K Q := by
  have h0 := (hB.cell (p)).trans (Array.getElem?_eq_getElem (by first | omega | (simp; omega)))
  have f0 := hB.frozen (p)
  have hB := hB.set_ (p) c0
  have h1 := (hB.cell (p + 1)).trans (Array.getElem?_eq_getElem (by first | omega | (simp; omega)))
  have f1 := hB.frozen (p + 1)
  have hB := hB.set_ (p + 1) c1
  have h2 := (hB.cell (p + 2)).trans (Array.getElem?_eq_getElem (by first | omega | (simp; omega)))
  have f2 := hB.frozen (p + 2)
  have hB := hB.set_ (p + 2) c2
  have h3 := (hB.cell (p + 3)).trans (Array.getElem?_eq_getElem (by first | omega | (simp; omega)))
  have f3 := hB.frozen (p + 3)
  have s0 := fun w a m => run_store Try.prog w a c0 m k0
  have s1 := fun w a m => run_store Try.prog w a c1 m k1
  have s2 := fun w a m => run_store Try.prog w a c2 m k2
  have s3 := fun w a m => run_store Try.prog w a c3 m k3
  clear hB
  unfold Oper.wp execOp
  simp only [ho, hx, hy]
  go_simp
  exact hK _
theorem build_32_1_2 {w : World} {a : Act} {K : Act → World → Prop} {Q : Exit → Act → World → Prop} {o : Oper} {x0 x1 : Operand} {c1 c2 : Value} {c3 c4 : Value} (ho : o.op = .build 32 #[(1, x0), (2, x1)]) (h0 : a.eval x0 = .agg #[c1, c2]) (h1 : a.eval x1 = .agg #[c3, c4]) (hK : K (a.put o.dst (.agg #[.bool false, c1, c2, c3, c4])) w) : o.wp Try.prog a w K Q := by
  unfold Oper.wp execOp
  simp only [ho, List.map_toArray, List.map_cons, List.map_nil, h0, h1]
  go_simp
  exact hK
theorem build_32_0_1_2 {w : World} {a : Act} {K : Act → World → Prop} {Q : Exit → Act → World → Prop} {o : Oper} {x0 x1 x2 : Operand} {c0 : Bool} {c1 c2 : Value} {c3 c4 : Value} (ho : o.op = .build 32 #[(0, x0), (1, x1), (2, x2)]) (h0 : a.eval x0 = .bool c0) (h1 : a.eval x1 = .agg #[c1, c2]) (h2 : a.eval x2 = .agg #[c3, c4]) (hK : K (a.put o.dst (.agg #[.bool c0, c1, c2, c3, c4])) w) : o.wp Try.prog a w K Q := by
  unfold Oper.wp execOp
  simp only [ho, List.map_toArray, List.map_cons, List.map_nil, h0, h1, h2]
  go_simp
  exact hK
theorem build_27_3 {w : World} {a : Act} {K : Act → World → Prop} {Q : Exit → Act → World → Prop} {o : Oper} {x0 : Operand} {c3 : Int} (ho : o.op = .build 27 #[(3, x0)]) (h0 : a.eval x0 = .int .i64 c3) (hK : K (a.put o.dst (.agg #[.bool false, .slice none 0 0, .slice none 0 0, .int .i64 c3])) w) : o.wp Try.prog a w K Q := by
  unfold Oper.wp execOp
  simp only [ho, List.map_toArray, List.map_cons, List.map_nil, h0]
  go_simp
  exact hK
theorem fld_27_2 {w : World} {a : Act} {K : Act → World → Prop} {Q : Exit → Act → World → Prop} {o : Oper} {x : Operand} {b p : Nat} (ho : o.op = .fieldAddr 27 x 2) (hx : a.eval x = .pointer (some ⟨b, p, none⟩)) (hK : K (a.put o.dst (.pointer (some ⟨b, p + 2, none⟩))) w) : o.wp Try.prog a w K Q := by
  unfold Oper.wp execOp
  simp only [ho, hx]
  go_simp
  exact hK
theorem box_24 {w : World} {a : Act} {K : Act → World → Prop} {Q : Exit → Act → World → Prop} {o : Oper} {x : Operand} {c0 : Value} (ho : o.op = .box 24 x) (hx : a.eval x = .agg #[c0]) (hK : K (a.put o.dst (.pointer (some ⟨w.heap.size, 0, none⟩))) (w.alloc (.cells #[c0] 24))) : o.wp Try.prog a w K Q := by
  unfold Oper.wp execOp
  simp only [ho, hx]
  go_simp
  exact hK
theorem alloc_32 {w : World} {a : Act} {K : Act → World → Prop} {Q : Exit → Act → World → Prop} {o : Oper} (ho : o.op = .alloc 32) (hK : K (a.put o.dst (.pointer (some ⟨w.heap.size, 0, none⟩))) (w.alloc (.cells #[.bool false, .int .i64 0, .slice none 0 0, .int .i64 0, .slice none 0 0] 32))) : o.wp Try.prog a w K Q := by
  unfold Oper.wp execOp
  simp only [ho]
  go_simp
  exact hK
theorem st_32 {w : World} {a : Act} {K : Act → World → Prop} {Q : Exit → Act → World → Prop} {o : Oper} {x y : Operand} {g p : Nat} {ty : TypeId} {cs : Array Value} {c0 c1 c2 c3 c4 : Value} (ho : o.op = .store 32 x y) (hx : a.eval x = .pointer (some ⟨g, p, none⟩)) (hy : a.eval y = .agg #[c0, c1, c2, c3, c4]) (k0 : c0.oneCell' = true) (k1 : c1.oneCell' = true) (k2 : c2.oneCell' = true) (k3 : c3.oneCell' = true) (k4 : c4.oneCell' = true) (hB : Blk w g ty cs) (hp : p + 4 < cs.size) (hK : ∀ v, K (a.put o.dst v) (((((w.setCell ⟨g, p, none⟩ c0).setCell ⟨g, p + 1, none⟩ c1).setCell ⟨g, p + 2, none⟩ c2).setCell ⟨g, p + 3, none⟩ c3).setCell ⟨g, p + 4, none⟩ c4)) : o.wp Try.prog a w K Q := by
  have h0 := (hB.cell (p)).trans (Array.getElem?_eq_getElem (by first | omega | (simp; omega)))
  have f0 := hB.frozen (p)
  have hB := hB.set_ (p) c0
  have h1 := (hB.cell (p + 1)).trans (Array.getElem?_eq_getElem (by first | omega | (simp; omega)))
  have f1 := hB.frozen (p + 1)
  have hB := hB.set_ (p + 1) c1
  have h2 := (hB.cell (p + 2)).trans (Array.getElem?_eq_getElem (by first | omega | (simp; omega)))
  have f2 := hB.frozen (p + 2)
  have hB := hB.set_ (p + 2) c2
  have h3 := (hB.cell (p + 3)).trans (Array.getElem?_eq_getElem (by first | omega | (simp; omega)))
  have f3 := hB.frozen (p + 3)
  have hB := hB.set_ (p + 3) c3
  have h4 := (hB.cell (p + 4)).trans (Array.getElem?_eq_getElem (by first | omega | (simp; omega)))
  have f4 := hB.frozen (p + 4)
  have s0 := fun w a m => run_store Try.prog w a c0 m k0
  have s1 := fun w a m => run_store Try.prog w a c1 m k1
  have s2 := fun w a m => run_store Try.prog w a c2 m k2
  have s3 := fun w a m => run_store Try.prog w a c3 m k3
  have s4 := fun w a m => run_store Try.prog w a c4 m k4
  clear hB
  unfold Oper.wp execOp
  simp only [ho, hx, hy]
  go_simp
  exact hK _
theorem ld_24 {w : World} {a : Act} {K : Act → World → Prop} {Q : Exit → Act → World → Prop} {o : Oper} {x : Operand} {b p : Nat} {c0 : Value} (ho : o.op = .load 24 x) (hx : a.eval x = .pointer (some ⟨b, p, none⟩)) (h0 : w.cell? ⟨b, p, none⟩ = some c0) (hK : K (a.put o.dst (.agg #[c0])) w) : o.wp Try.prog a w K Q := by
  unfold Oper.wp execOp
  simp only [ho, hx]
  go_simp
  exact hK
theorem neq_39 {w : World} {a : Act} {K : Act → World → Prop} {Q : Exit → Act → World → Prop} {o : Oper} {x y : Operand} {m n : Int} (ho : o.op = .binOp .neq 39 x y 39) (hx : a.eval x = .int .i64 m) (hy : a.eval y = .int .i64 n) (hK : K (a.put o.dst (.bool (m != n))) w) : o.wp Try.prog a w K Q := by
  unfold Oper.wp execOp
  simp only [ho, hx, hy]
  go_simp
  exact hK
theorem fld_24_0 {w : World} {a : Act} {K : Act → World → Prop} {Q : Exit → Act → World → Prop} {o : Oper} {x : Operand} {b p : Nat} (ho : o.op = .fieldAddr 24 x 0) (hx : a.eval x = .pointer (some ⟨b, p, none⟩)) (hK : K (a.put o.dst (.pointer (some ⟨b, p, none⟩))) w) : o.wp Try.prog a w K Q := by
  unfold Oper.wp execOp
  simp only [ho, hx]
  go_simp
  exact hK
theorem ld_22 {w : World} {a : Act} {K : Act → World → Prop} {Q : Exit → Act → World → Prop} {o : Oper} {x : Operand} {p : Addr} {v : Value} (ho : o.op = .load 22 x) (hx : a.eval x = .pointer (some p)) (hc : w.cell? p = some v) (hK : K (a.put o.dst (v)) w) : o.wp Try.prog a w K Q := by
  unfold Oper.wp execOp
  simp only [ho, hx]
  go_simp
  exact hK
theorem ix_22 {w : World} {a : Act} {K : Act → World → Prop} {Q : Exit → Act → World → Prop} {o : Oper} {x y : Operand} {r : Option Addr} {b p n c k : Nat} (ho : o.op = .indexAddr 22 x y) (hx : a.eval x = .slice r n c) (hr : r = some ⟨b, p, none⟩) (hy : a.eval y = .int .i64 (k : Int)) (hk : k < n) (hK : K (a.put o.dst (.pointer (some ⟨b, p + k * 3, none⟩))) w) : o.wp Try.prog a w K Q := by
  subst hr
  have h0 : (0 : Int) ≤ (k : Int) := by omega
  have h1 : (k : Int) < (n : Int) := by omega
  unfold Oper.wp execOp
  simp only [ho, hx, hy]
  go_simp
  exact hK
theorem fld_47_2 {w : World} {a : Act} {K : Act → World → Prop} {Q : Exit → Act → World → Prop} {o : Oper} {x : Operand} {b p : Nat} (ho : o.op = .fieldAddr 47 x 2) (hx : a.eval x = .pointer (some ⟨b, p, none⟩)) (hK : K (a.put o.dst (.pointer (some ⟨b, p + 2, none⟩))) w) : o.wp Try.prog a w K Q := by
  unfold Oper.wp execOp
  simp only [ho, hx]
  go_simp
  exact hK
theorem neq_4 {w : World} {a : Act} {K : Act → World → Prop} {Q : Exit → Act → World → Prop} {o : Oper} {x y : Operand} {m n : Bool} (ho : o.op = .binOp .neq 4 x y 4) (hx : a.eval x = .bool m) (hy : a.eval y = .bool n) (hK : K (a.put o.dst (.bool (m != n))) w) : o.wp Try.prog a w K Q := by
  unfold Oper.wp execOp
  simp only [ho, hx, hy]
  go_simp
  exact hK
theorem leq_3 {w : World} {a : Act} {K : Act → World → Prop} {Q : Exit → Act → World → Prop} {o : Oper} {x y : Operand} {m n : Int} (ho : o.op = .binOp .leq 3 x y 3) (hx : a.eval x = .int .i64 m) (hy : a.eval y = .int .i64 n) (hK : K (a.put o.dst (.bool (decide (m ≤ n)))) w) : o.wp Try.prog a w K Q := by
  unfold Oper.wp execOp
  simp only [ho, hx, hy]
  go_simp
  exact hK
theorem len_38 {w : World} {a : Act} {K : Act → World → Prop} {Q : Exit → Act → World → Prop} {o : Oper} {x : Operand} {r : Option Addr} {n c : Nat} (ho : o.op = .call { callee := .builtin .len, args := #[x], argTypes := #[38] }) (hx : a.eval x = .slice r n c) (hK : K (a.put o.dst (.int .i64 n)) w) : o.wp Try.prog a w K Q := by
  unfold Oper.wp execOp
  simp only [ho, resolve, List.map_toArray, List.map_cons, List.map_nil, hx]
  go_simp
  exact hK
theorem ix_38 {w : World} {a : Act} {K : Act → World → Prop} {Q : Exit → Act → World → Prop} {o : Oper} {x y : Operand} {r : Option Addr} {b p n c k : Nat} (ho : o.op = .indexAddr 38 x y) (hx : a.eval x = .slice r n c) (hr : r = some ⟨b, p, none⟩) (hy : a.eval y = .int .i64 (k : Int)) (hk : k < n) (hK : K (a.put o.dst (.pointer (some ⟨b, p + k, none⟩))) w) : o.wp Try.prog a w K Q := by
  subst hr
  have h0 : (0 : Int) ≤ (k : Int) := by omega
  have h1 : (k : Int) < (n : Int) := by omega
  unfold Oper.wp execOp
  simp only [ho, hx, hy]
  go_simp
  exact hK
theorem ld_37 {w : World} {a : Act} {K : Act → World → Prop} {Q : Exit → Act → World → Prop} {o : Oper} {x : Operand} {p : Addr} {v : Value} (ho : o.op = .load 37 x) (hx : a.eval x = .pointer (some p)) (hc : w.cell? p = some v) (hK : K (a.put o.dst (v)) w) : o.wp Try.prog a w K Q := by
  unfold Oper.wp execOp
  simp only [ho, hx]
  go_simp
  exact hK
theorem neq_48 {w : World} {a : Act} {K : Act → World → Prop} {Q : Exit → Act → World → Prop} {o : Oper} {x y : Operand} {m n : Int} (ho : o.op = .binOp .neq 48 x y 48) (hx : a.eval x = .int .i64 m) (hy : a.eval y = .int .i64 n) (hK : K (a.put o.dst (.bool (m != n))) w) : o.wp Try.prog a w K Q := by
  unfold Oper.wp execOp
  simp only [ho, hx, hy]
  go_simp
  exact hK
theorem row_37_1 {w : World} {a : Act} {K : Act → World → Prop} {Q : Exit → Act → World → Prop} {o : Oper} {x0 : Operand} {c0 c1 c2 c3 c4 : Value} (ho : o.op = .buildSlice 37 1 #[(0, x0)]) (h0 : a.eval x0 = .agg #[c0, c1, c2, c3, c4]) (hK : K (a.put o.dst (.slice (some ⟨w.heap.size, 0, none⟩) 1 1)) (w.alloc (.cells #[c0, c1, c2, c3, c4] 32))) : o.wp Try.prog a w K Q := by
  unfold Oper.wp execOp
  simp only [ho, List.map_toArray, List.map_cons, List.map_nil, h0]
  go_simp
  exact hK
theorem row_38_2 {w : World} {a : Act} {K : Act → World → Prop} {Q : Exit → Act → World → Prop} {o : Oper} {x0 x1 : Operand} {c0a : Option Addr} {c0n c0c : Nat} {c1a : Option Addr} {c1n c1c : Nat} (ho : o.op = .buildSlice 38 2 #[(0, x0), (1, x1)]) (h0 : a.eval x0 = .slice c0a c0n c0c) (h1 : a.eval x1 = .slice c1a c1n c1c) (hK : K (a.put o.dst (.slice (some ⟨w.heap.size, 0, none⟩) 2 2)) (w.alloc (.cells #[.slice c0a c0n c0c, .slice c1a c1n c1c] 37))) : o.wp Try.prog a w K Q := by
  unfold Oper.wp execOp
  simp only [ho, List.map_toArray, List.map_cons, List.map_nil, h0, h1]
  go_simp
  exact hK
theorem len_34 {w : World} {a : Act} {K : Act → World → Prop} {Q : Exit → Act → World → Prop} {o : Oper} {x : Operand} {r : Option Addr} {n c : Nat} (ho : o.op = .call { callee := .builtin .len, args := #[x], argTypes := #[34] }) (hx : a.eval x = .slice r n c) (hK : K (a.put o.dst (.int .i64 n)) w) : o.wp Try.prog a w K Q := by
  unfold Oper.wp execOp
  simp only [ho, resolve, List.map_toArray, List.map_cons, List.map_nil, hx]
  go_simp
  exact hK
theorem ix_34 {w : World} {a : Act} {K : Act → World → Prop} {Q : Exit → Act → World → Prop} {o : Oper} {x y : Operand} {r : Option Addr} {b p n c k : Nat} (ho : o.op = .indexAddr 34 x y) (hx : a.eval x = .slice r n c) (hr : r = some ⟨b, p, none⟩) (hy : a.eval y = .int .i64 (k : Int)) (hk : k < n) (hK : K (a.put o.dst (.pointer (some ⟨b, p + k * 3, none⟩))) w) : o.wp Try.prog a w K Q := by
  subst hr
  have h0 : (0 : Int) ≤ (k : Int) := by omega
  have h1 : (k : Int) < (n : Int) := by omega
  unfold Oper.wp execOp
  simp only [ho, hx, hy]
  go_simp
  exact hK
theorem fld_44_1 {w : World} {a : Act} {K : Act → World → Prop} {Q : Exit → Act → World → Prop} {o : Oper} {x : Operand} {b p : Nat} (ho : o.op = .fieldAddr 44 x 1) (hx : a.eval x = .pointer (some ⟨b, p, none⟩)) (hK : K (a.put o.dst (.pointer (some ⟨b, p + 1, none⟩))) w) : o.wp Try.prog a w K Q := by
  unfold Oper.wp execOp
  simp only [ho, hx]
  go_simp
  exact hK
end Go.Proofs.Ytmdpiafeiopimaa

/- What an order knows, whether a top stands in a term: the walks. -/
namespace Go.Proofs.Ytmdpiafeiopimaa
open Go.RowKit Go
set_option linter.unusedVariables false
set_option linter.unusedSimpArgs false
theorem all_take_t (p : T → Bool) (l : List T) (k : Nat) (h : k < l.length) : (l.take (k + 1)).all p = ((l.take k).all p && p (tget l k)) := by
 rw [List.take_succ_eq_append_getElem h, List.all_append, tget_lt h]; simp
theorem any_take_t (p : T → Bool) (l : List T) (k : Nat) (h : k < l.length) : (l.take (k + 1)).any p = ((l.take k).any p || p (tget l k)) := by
 rw [List.take_succ_eq_append_getElem h, List.any_append, tget_lt h]; simp
theorem lk1 {o : Od} {f : Int} {l : List T} (h : f < 0) : (((l.length : Nat) : Int) == (0 : Int)) = o.lknows (.mk f l) := by
 rw [Od.lknows, if_pos h]; cases l <;> simp; omega
theorem lk2 {o : Od} {f : Int} {l : List T} (h : ¬ f < 0) (h' : ((o.prec.length : Nat) : Int) ≤ f) : false = o.lknows (.mk f l) := by
 rw [Od.lknows, if_neg h]; simp; omega
theorem lk3 {o : Od} {f : Int} {l : List T} {k : Nat} (h : ¬ f < 0) (hk : k < l.length) (hx : ¬ o.lknows (tget l k) = true) : false = o.lknows (.mk f l) := by
 rw [Od.lknows, if_neg h, Od.lknowsL_all]
 have : l.all o.lknows = false := by rw [List.all_eq_false]; exact ⟨tget l k, tget_mem hk, hx⟩
 rw [this]; simp
theorem lk4 {o : Od} {f : Int} {l : List T} {k : Nat} (h : ¬ f < 0) (h' : ¬ ((o.prec.length : Nat) : Int) ≤ f) (hall : (l.take k).all o.lknows = true) (hk : ¬ k < l.length) : true = o.lknows (.mk f l) := by
 rw [Od.lknows, if_neg h, Od.lknowsL_all]
 rw [List.take_of_length_le (by omega)] at hall
 rw [hall]; simp; omega
theorem hs1 {f : Int} {l : List T} : true = T.has f (.mk f l) := by rw [T.has]; simp
theorem hs2 {f g : Int} {l : List T} {k : Nat} (hk : k < l.length) (hx : T.has f (tget l k) = true) : true = T.has f (.mk g l) := by
 rw [T.has, T.hasL_any, List.any_eq_true.2 ⟨_, tget_mem hk, hx⟩]; simp
theorem hs3 {f g : Int} {l : List T} {k : Nat} (hg : ¬ g = f) (h : (l.take k).any (T.has f) = false) (hk : ¬ k < l.length) : false = T.has f (.mk g l) := by
 rw [List.take_of_length_le (by omega)] at h
 rw [T.has, T.hasL_any, h]; simp [hg]
set_option maxRecDepth 100000 in
theorem lknows_any (o : Od) (t : T) : ∀ (w : World) (vo v : Value), IsOd w o vo → IsT w t v →
  Calls Try.prog 49 #[vo, v] w (Ret fun v' w' => v' = .bool (o.lknows t) ∧ Below w.heap.size w w') := by
 induction t using T.ind with
 | h f l ih =>
 intro w vo v ho hv
 have ho0 := ho
 have hv0 := hv
 obtain ⟨a1, a2, c1, c2, rfl, n1, n2, n3, n4, p1, p2, _⟩ := ho
 obtain ⟨hf, a, c, rfl, hc, hm, hl⟩ := hv
 unfold maxLen at hm n2 n4
 have hf1 := hf.1
 have hf2 := hf.2
 refine Calls.walk (l := [.agg #[.bool o.lpo, .slice a1 o.prec.length c1, .slice a2 o.weights.length c2, .int .i64 o.var], .agg #[.int .i64 f, .slice a l.length c]]) Try.func49 rfl (by kernel_rfl) ?_
 refine WC.sub (K' := [(0, .agg #[.bool o.lpo, .slice a1 o.prec.length c1, .slice a2 o.weights.length c2, .int .i64 o.var]), (1, .agg #[.int .i64 f, .slice a l.length c])]) ⟨rfl, rfl, trivial⟩ ?_
 refine WC.seq (WC.region ?_)
 refine WL.step (post := NewBlk w 27 #[.bool o.lpo, .slice a1 o.prec.length c1, .slice a2 o.weights.length c2, .int .i64 o.var]) rfl rfl rfl (fun za zC zh zk => box_27 rfl (zh.ev rfl) (zk _ _ (newBlk _ _ _))) ?_
 rintro _ w1 ⟨g2, rfl, hg3, hB4, hb5, hz6⟩
 have hl7 : w.heap.size ≤ g2 := by omega
 refine WL.step (post := NewBlk w1 30 #[.int .i64 f, .slice a l.length c]) rfl rfl rfl (fun za zC zh zk => box_30 rfl (zh.ev rfl) (zk _ _ (newBlk _ _ _))) ?_
 rintro _ w8 ⟨g9, rfl, hg10, hB11, hb12, hz13⟩
 have hl14 : g2 < g9 := by have z1 := hB4.lt; omega
 have hl15 : w.heap.size ≤ g9 := by have z2 := (hb5).size; omega
 refine WL.asg rfl rfl rfl rfl rfl (WL.nil (WE.next (WC.seq (WC.seq (WC.region ?_)))))
 refine WL.val _ rfl rfl rfl (fun za zC zh zk => fld_30_0 rfl (zh.ev rfl) zk) ?_
 refine WL.val _ rfl rfl rfl (fun za zC zh zk => ld_3 rfl (zh.ev rfl) ((hB11.cell 0).trans rfl) zk) ?_
 refine WL.val (.bool ((decide ((f : Int) < (0 : Int))))) rfl rfl rfl (fun za zC zh zk => lss_3 rfl (zh.ev rfl) (zh.ev rfl) zk) ?_
 refine WL.nil (WE.next ?_)
 refine WC.cond rfl (fun h16 => ?_) (fun h16 => ?_)
 ·have h16 : (f : Int) < (0 : Int) := by simpa using h16
  refine WC.seq (WC.region ?_)
  refine WL.val _ rfl rfl rfl (fun za zC zh zk => fld_30_1 rfl (zh.ev rfl) zk) ?_
  refine WL.val _ rfl rfl rfl (fun za zC zh zk => ld_28 rfl (zh.ev rfl) ((hB11.cell 1).trans rfl) zk) ?_
  refine WL.val (.int .i64 (((l.length : Nat) : Int))) rfl rfl rfl (fun za zC zh zk => len_28 rfl (zh.ev rfl) zk) ?_
  refine WL.val (.bool (((((l.length : Nat) : Int) : Int) == (0 : Int)))) rfl rfl rfl (fun za zC zh zk => eql_3 rfl (zh.ev rfl) (zh.ev rfl) zk) ?_
  refine WL.asg rfl rfl rfl rfl rfl (WL.nil (WE.next (WC.ret (WE.thenRet (WE.ret1 rfl rfl ?_)))))
  have hb17 : Below w.heap.size w w8 := (bstep hb5 hb12)
  exact ⟨_, rfl, congrArg Value.bool (by first | exact lk1 (by omega) | exact lk2 (by omega) (by omega) | exact lk3 (k := k) (by omega) (by omega) (by assumption) | exact lk4 (k := k) (by omega) (by omega) hall (by omega)), hb17⟩
 ·have h16 : ¬ ((f : Int) < (0 : Int)) := by simpa using h16
  refine WC.skip (WE.next (WC.seq (WC.seq (WC.region ?_))))
  refine WL.val _ rfl rfl rfl (fun za zC zh zk => fld_30_0 rfl (zh.ev rfl) zk) ?_
  refine WL.val _ rfl rfl rfl (fun za zC zh zk => ld_3 rfl (zh.ev rfl) ((hB11.cell 0).trans rfl) zk) ?_
  refine WL.val _ rfl rfl rfl (fun za zC zh zk => fld_27_1 rfl (zh.ev rfl) zk) ?_
  have hB18 := hB4.below hb12
  refine WL.val _ rfl rfl rfl (fun za zC zh zk => ld_25 rfl (zh.ev rfl) ((hB18.cell 1).trans rfl) zk) ?_
  refine WL.val (.int .i64 (((o.prec.length : Nat) : Int))) rfl rfl rfl (fun za zC zh zk => len_25 rfl (zh.ev rfl) zk) ?_
  refine WL.val (.bool ((decide ((((o.prec.length : Nat) : Int) : Int) ≤ (f : Int))))) rfl rfl rfl (fun za zC zh zk => geq_3 rfl (zh.ev rfl) (zh.ev rfl) zk) ?_
  refine WL.nil (WE.next ?_)
  refine WC.cond rfl (fun h19 => ?_) (fun h19 => ?_)
  ·have h19 : (((o.prec.length : Nat) : Int) : Int) ≤ (f : Int) := by simpa using h19
   refine WC.seq (WC.region (WL.asg rfl rfl rfl rfl rfl (WL.nil (WE.next (WC.ret (WE.thenRet (WE.ret1 rfl rfl ?_)))))))
   have hb20 : Below w.heap.size w w8 := (bstep hb5 hb12)
   exact ⟨_, rfl, congrArg Value.bool (by first | exact lk1 (by omega) | exact lk2 (by omega) (by omega) | exact lk3 (k := k) (by omega) (by omega) (by assumption) | exact lk4 (k := k) (by omega) (by omega) hall (by omega)), hb20⟩
  ·have h19 : ¬ ((((o.prec.length : Nat) : Int) : Int) ≤ (f : Int)) := by simpa using h19
   refine WC.skip (WE.next (WC.seq (WC.seq (WC.region ?_))))
   refine WL.val _ rfl rfl rfl (fun za zC zh zk => fld_30_1 rfl (zh.ev rfl) zk) ?_
   refine WL.val _ rfl rfl rfl (fun za zC zh zk => ld_28 rfl (zh.ev rfl) ((hB11.cell 1).trans rfl) zk) ?_
   refine WL.val (.int .i64 (((l.length : Nat) : Int))) rfl rfl rfl (fun za zC zh zk => len_28 rfl (zh.ev rfl) zk) ?_
   refine WL.mv rfl rfl rfl rfl rfl (WL.nil (WE.next (WC.block ?_)))
   refine WC.loop (X := Nat) (fun k => l.length - k) (fun k => [(0, .agg #[.bool o.lpo, .slice a1 o.prec.length c1, .slice a2 o.weights.length c2, .int .i64 o.var]), (1, .agg #[.int .i64 f, .slice a l.length c]), (2, .pointer (some ⟨g2, 0, none⟩)), (3, .pointer (some ⟨g9, 0, none⟩)), (9, .bool ((decide ((f : Int) < (0 : Int))))), (19, .bool ((decide ((((o.prec.length : Nat) : Int) : Int) ≤ (f : Int))))), (21, .slice a l.length c), (22, .int .i64 (((l.length : Nat) : Int))), (23, .int .i64 (((k : Nat) : Int)))]) (fun k w21 => k ≤ l.length ∧ (l.take k).all o.lknows = true ∧ Below w.heap.size w w21 ∧ Blk w21 g2 27 #[.bool o.lpo, .slice a1 o.prec.length c1, .slice a2 o.weights.length c2, .int .i64 o.var] ∧ Blk w21 g9 30 #[.int .i64 f, .slice a l.length c]) 0 ⟨rfl, rfl, rfl, rfl, rfl, rfl, rfl, rfl, rfl, trivial⟩ ?_ ?_
   ·have hb22 : Below w.heap.size w w8 := (bstep hb5 hb12)
    exact ⟨Nat.zero_le _, rfl, hb22, hB18, hB11⟩
   ·rintro k w21 ⟨hk, hall, hb23, hB24, hB25⟩
    refine WC.seq (WC.region ?_)
    refine WL.val (.bool ((decide ((((k : Nat) : Int) : Int) < (((l.length : Nat) : Int) : Int))))) rfl rfl rfl (fun za zC zh zk => lss_3 rfl (zh.ev rfl) (zh.ev rfl) zk) ?_
    refine WL.nil (WE.next (WC.seq ?_))
    refine WC.cond rfl (fun h26 => ?_) (fun h26 => ?_)
    ·have h26 : (((k : Nat) : Int) : Int) < (((l.length : Nat) : Int) : Int) := by simpa using h26
     refine WC.skip (WE.next (WC.seq (WC.block (WC.seq (WC.region ?_)))))
     obtain ⟨b27, o28, A29, C30, ha31, hc32⟩ := IsTs.open hl
     refine WL.val _ rfl rfl rfl (fun za zC zh zk => ix_28 (k := k) rfl (zh.ev rfl) (ha31 k (by first | omega | (simp; omega))) (zh.ev rfl) (by first | omega | (simp; omega)) zk) ?_
     refine WL.val _ rfl rfl rfl (fun za zC zh zk => ld_30 rfl (zh.ev rfl) (bkeeps hb23 _ _ (hc32 k (by first | omega | (simp; omega))).1) (bkeeps hb23 _ _ (hc32 k (by first | omega | (simp; omega))).2.1) zk) ?_
     refine WL.step (post := NewBlk w21 30 #[.int .i64 0, .slice none 0 0]) rfl rfl rfl (fun za zC zh zk => alloc_30 rfl (zk _ _ (newBlk _ _ _))) ?_
     rintro _ w33 ⟨g34, rfl, hg35, hB36, hb37, hz38⟩
     have hl39 : g2 < g34 := by have z1 := hB24.lt; omega
     have hl40 : g9 < g34 := by have z1 := hB25.lt; omega
     have hl41 : w.heap.size ≤ g34 := by have z2 := (hb23).size; omega
     refine WL.step (post := fun _ w' => Upd g34 w33 w' ∧ Blk w' g34 30 #[.int .i64 ((tget l k).f), .slice ((A29 k)) ((tget l k).args.length) ((C30 k))]) rfl rfl rfl (fun za zC zh zk => st_30 rfl (zh.ev rfl) (zh.ev rfl) rfl rfl hB36 (by first | decide | simp) (fun v => zk v _ ⟨(Upd.at_ _ _ _ _).trans (Upd.at_ _ _ _ _), (hB36.set_ 0 _).set_ 1 _⟩)) ?_
     rintro v45 w42 ⟨hu43, hB44⟩
     have hb46 : Below w.heap.size w w33 := (bstep hb23 hb37)
     have hb47 := upd_below hb46 hu43 (by omega)
     have hB48 := hB24.below hb37
     have hB49 := upd_blk hB48 hu43 (by omega)
     have hB50 := hB25.below hb37
     have hB51 := upd_blk hB50 hu43 (by omega)
     refine WL.nil (WE.next (WC.seq (WC.region ?_)))
     refine WL.val _ rfl rfl rfl (fun za zC zh zk => ld_27 rfl (zh.ev rfl) ((hB49.cell 0).trans rfl) ((hB49.cell 1).trans rfl) ((hB49.cell 2).trans rfl) ((hB49.cell 3).trans rfl) zk) ?_
     refine WL.val _ rfl rfl rfl (fun za zC zh zk => ld_30 rfl (zh.ev rfl) ((hB44.cell 0).trans rfl) ((hB44.cell 1).trans rfl) zk) ?_
     refine WL.call rfl rfl rfl (fun za zh zC => wp_call (by kernel_rfl) rfl (hv2 (zh.ev rfl) (zh.ev rfl))) (ih (tget l k) (tget_mem (by omega)) _ _ _ (ho0.below hb47) (IsT.below hb47 (hc32 k (by first | omega | (simp; omega))).2.2)) ?_
     rintro _ w52 ⟨rfl, hbc⟩
     refine WL.val (.bool ((!(o.lknows (tget l k))))) rfl rfl rfl (fun za zC zh zk => wp_not rfl (zh.ev rfl) zk) ?_
     refine WL.nil (WE.next ?_)
     refine WC.cond rfl (fun h53 => ?_) (fun h53 => ?_)
     ·have h53 : ¬ ((o.lknows (tget l k)) = true) := by simpa using h53
      refine WC.seq (WC.region (WL.asg rfl rfl rfl rfl rfl (WL.nil (WE.next (WC.ret (WE.blockRet (WE.thenRet (WE.thenRet (WE.blockRet (WE.thenRet (WE.ret1 rfl rfl ?_)))))))))))
      have hb54 : Below w.heap.size w w52 := (bstep hb47 hbc)
      exact ⟨_, rfl, congrArg Value.bool (by first | exact lk1 (by omega) | exact lk2 (by omega) (by omega) | exact lk3 (k := k) (by omega) (by omega) (by assumption) | exact lk4 (k := k) (by omega) (by omega) hall (by omega)), hb54⟩
     ·have h53 : ¬ (¬ ((o.lknows (tget l k)) = true)) := by simpa using h53
      refine WC.skip (WE.blockNormal (WE.next (WC.region ?_)))
      refine WL.val (.int .i64 ((((k + 1) : Nat) : Int))) rfl rfl rfl (fun za zC zh zk => addb_3 rfl (zh.ev rfl) (zh.ev rfl) (wrap_eq (by omega) (by omega) (by omega)) zk) ?_
      refine WL.mv rfl rfl rfl rfl rfl (WL.nil ?_)
      refine WE.round (k + 1) ⟨rfl, rfl, rfl, rfl, rfl, rfl, rfl, rfl, rfl, trivial⟩ ?_ ?_
      ·have hb55 : Below w.heap.size w w52 := (bstep hb47 hbc)
       have hB56 := hB49.below hbc
       have hB57 := hB51.below hbc
       exact ⟨by omega, by rw [all_take_t _ _ _ (by omega), hall]; simp_all, hb55, hB56, hB57⟩
      ·omega
    ·have h26 : ¬ ((((k : Nat) : Int) : Int) < (((l.length : Nat) : Int) : Int)) := by simpa using h26
     refine WC.exit (WE.thenExit (WE.thenExit (WE.blockIs rfl (WE.next (WC.seq (WC.region (WL.asg rfl rfl rfl rfl rfl (WL.nil (WE.next (WC.ret (WE.ret1 rfl rfl ?_)))))))))))
     exact ⟨_, rfl, congrArg Value.bool (by first | exact lk1 (by omega) | exact lk2 (by omega) (by omega) | exact lk3 (k := k) (by omega) (by omega) (by assumption) | exact lk4 (k := k) (by omega) (by omega) hall (by omega)), hb23⟩
end Go.Proofs.Ytmdpiafeiopimaa

/- The variables of a term, gathered by a function that is handed down: the walks. -/
namespace Go.Proofs.Ytmdpiafeiopimaa
open Go.RowKit Go
set_option linter.unusedVariables false
set_option linter.unusedSimpArgs false
def intV (n : Int) : Value := .int .i64 n
def newsF (f : Int) : List Int := if f < 0 then [-1 - f] else []
mutual
def varsT : T → List Int
 | .mk f l => newsF f ++ varsTL l
def varsTL : List T → List Int
 | [] => []
 | a :: r => varsT a ++ varsTL r
end
theorem varsTL_take {l : List T} {k : Nat} (h : k < l.length) : varsTL (l.take (k + 1)) = varsTL (l.take k) ++ varsT (tget l k) := by
 induction l generalizing k with
 | nil => simp at h
 | cons a r ih =>
  cases k with
  | zero => simp [varsTL, tget]
  | succ k =>
   have := ih (k := k) (by simpa using h)
   simp only [List.take_succ_cons, varsTL, List.append_assoc]
   rw [this]; rfl
mutual
theorem varsT_le : ∀ t : T, (varsT t).length ≤ t.size
 | .mk f l => by
  have := varsTL_le l
  rw [varsT, T.size, List.length_append]
  have : (newsF f).length ≤ 1 := by unfold newsF; split <;> simp
  omega
theorem varsTL_le : ∀ l : List T, (varsTL l).length ≤ T.sizeL l
 | [] => by simp [varsTL]
 | a :: r => by
  have := varsT_le a; have := varsTL_le r
  rw [varsTL, T.sizeL, List.length_append]; omega
end
mutual
theorem varsT_has (v : Int) (hv : v < 0) : ∀ t : T, (-1 - v) ∈ varsT t ↔ T.has v t = true
 | .mk f l => by
  rw [varsT, T.has, List.mem_append, varsTL_has v hv l, Bool.or_eq_true, decide_eq_true_eq]
  unfold newsF
  split
  ·simp; constructor
   ·rintro (h | h); exact .inl (by omega); exact .inr h
   ·rintro (h | h); exact .inl (by omega); exact .inr h
  ·simp; intro h; omega
theorem varsTL_has (v : Int) (hv : v < 0) : ∀ l : List T, (-1 - v) ∈ varsTL l ↔ T.hasL v l = true
 | [] => by simp [varsTL, T.hasL]
 | a :: r => by rw [varsTL, T.hasL, List.mem_append, varsT_has v hv a, varsTL_has v hv r, Bool.or_eq_true]
end
theorem ownI_len {w : World} {S : Nat → Prop} {ra : Option Addr} {rc n : Nat} {L : List Int} (h : Own w S 3 1 ra rc n (L.map intV)) : n = L.length := by
 have := h.1.1; simpa using this.symm
theorem size_tget {l : List T} {k : Nat} (h : k < l.length) : T.sizeL (l.take k) + (tget l k).size ≤ T.sizeL l := by
 have h1 := T.sizeL_take_succ l k h
 have h2 := T.sizeL_take_le l (k + 1)
 rw [tget_lt h]; omega
theorem each_len2 {L : List Int} {f : Int} {l : List T} {k : Nat} : (L ++ newsF f ++ varsTL (l.take k)).length ≤ L.length + 1 + T.sizeL l := by
 have h1 := varsTL_le (l.take k)
 have h2 := T.sizeL_take_le l k
 have h3 : (newsF f).length ≤ 1 := by unfold newsF; split <;> simp
 simp only [List.length_append]; omega
theorem each_len {L : List Int} {f : Int} {l : List T} {k N : Nat} (hz : L.length + (1 + T.sizeL l) ≤ N) (h : k < l.length) : (L ++ newsF f ++ varsTL (l.take k)).length + (tget l k).size ≤ N := by
 have h1 := varsTL_le (l.take k)
 have h2 := size_tget h
 have h3 : (newsF f).length ≤ 1 := by unfold newsF; split <;> simp
 simp only [List.length_append]; omega
/-- What gathering leaves. -/
def Gath (w : World) (base g : Nat) (L : List Int) (w' : World) : Prop :=
 ∃ ra rc n, Blk w' g 25 #[.slice ra n rc] ∧ Own w' (fun k => base ≤ k ∧ k ≠ g) 3 1 ra rc n (L.map intV) ∧ Chg (fun k => base ≤ k ∨ k = g) w w'
set_option maxRecDepth 100000 in
theorem vars1_any (f : Int) (hf : I64 f) (w0 w : World) (b o g base : Nat) (L : List Int) (ra : Option Addr) (rc n : Nat) (hb0 : Below w0.heap.size w0 w) (h0 : w0.cell? ⟨b, o, none⟩ = some (.int .i64 f)) (hB : Blk w g 25 #[.slice ra n rc]) (hO : Own w (fun k => base ≤ k ∧ k ≠ g) 3 1 ra rc n (L.map intV))
  (hbase : base ≤ w.heap.size) (hg : w0.heap.size ≤ g) (hbs : w0.heap.size ≤ base) (hz : L.length ≤ 4294967296) :
  Calls Try.prog 75 #[.pointer (some ⟨b, o, none⟩), .pointer (some ⟨g, 0, none⟩)] w (Ret fun v' w' => v' = .bool true ∧ Gath w base g (L ++ newsF f) w') := by
 obtain rfl := ownI_len hO
 have hf1 := hf.1
 have hf2 := hf.2
 have hgl := hB.lt
 have hbl : b < w0.heap.size := World.block_lt_of_cell? _ _ h0
 refine Calls.walk (l := [.pointer (some ⟨b, o, none⟩), .pointer (some ⟨g, 0, none⟩)]) Try.func75 rfl (by kernel_rfl) ?_
 refine WC.sub (K' := [(0, .pointer (some ⟨b, o, none⟩)), (1, .pointer (some ⟨g, 0, none⟩))]) ⟨rfl, rfl, trivial⟩ ?_
 refine WC.seq (WC.region (WL.asg rfl rfl rfl rfl rfl (WL.nil (WE.next (WC.seq (WC.seq (WC.region (WL.mv rfl rfl rfl rfl rfl ?_))))))))
 refine WL.val _ rfl rfl rfl (fun za zC zh zk => nilCheck_ rfl (zh.ev rfl) zk) ?_
 refine WL.val _ rfl rfl rfl (fun za zC zh zk => fld_30_0 rfl (zh.ev rfl) zk) ?_
 have hc1 := bkeeps hb0 _ _ h0
 refine WL.val _ rfl rfl rfl (fun za zC zh zk => ld_3 rfl (zh.ev rfl) hc1 zk) ?_
 refine WL.val (.bool ((decide ((f : Int) < (0 : Int))))) rfl rfl rfl (fun za zC zh zk => lss_3 rfl (zh.ev rfl) (zh.ev rfl) zk) ?_
 refine WL.nil (WE.next ?_)
 refine WC.cond rfl (fun h2 => ?_) (fun h2 => ?_)
 ·have h2 : (f : Int) < (0 : Int) := by simpa using h2
  refine WC.grow (S := (fun b => base ≤ b ∧ b ≠ g)) (e := 3) (size := 1) (ln := L.length) (xs := (L.map intV)) (g := g) (ty := 25) (cs := #[.slice ra L.length rc]) [(true, .slice ra L.length rc), (true, .pointer (some ⟨b, o, none⟩)), (true, .pointer (some ⟨b, o, none⟩)), (true, .pointer (some ⟨b, o, none⟩)), (true, .int .i64 f), (true, .int .i64 (((-1) - f))), (true, undef), (true, undef), (true, undef)] [(0, .pointer (some ⟨b, o, none⟩)), (1, .pointer (some ⟨g, 0, none⟩)), (3, .bool false), (8, .bool ((decide ((f : Int) < (0 : Int)))))] 0 1 [.int .i64 (((-1) - f))] 6 7 8 (by decide) (by kernel_rfl) (by (try dsimp only at *); omega) hO hB ⟨rfl, rfl, rfl, rfl, trivial⟩ (by kernel_rfl) (by kernel_rfl) (by kernel_rfl) ?_ ?_
  ·refine ⟨.inl ⟨true, by decide, by kernel_rfl, .none rfl, (fun gg b h => by cases h), (fun h => by cases h), fun zβ za zw zc => ?_⟩, ?_⟩
   ·exact ld_25 rfl (zc.kn.ev rfl) (chg_cell zc.chg (by (try dsimp only at *); omega) ((hB.cell 0).trans rfl)) ⟨_, rfl, rfl, optDef rfl rfl⟩
   refine ⟨.inl ⟨true, by decide, by kernel_rfl, .none rfl, (fun gg b h => by cases h), (fun h => by cases h), fun zβ za zw zc => ?_⟩, ?_⟩
   ·exact wp_move rfl (zc.kn.ev rfl) ⟨_, rfl, rfl, optDef rfl rfl⟩
   refine ⟨.inl ⟨true, by decide, by kernel_rfl, .none rfl, (fun gg b h => by cases h), (fun h => by cases h), fun zβ za zw zc => ?_⟩, ?_⟩
   ·exact nilCheck_ rfl ((evt za 10).trans (valVal (zc.dep 1 10 (by kernel_rfl) (by decide)) rfl rfl)) ⟨_, rfl, rfl, optDef rfl rfl⟩
   refine ⟨.inl ⟨true, by decide, by kernel_rfl, .none rfl, (fun gg b h => by cases h), (fun h => by cases h), fun zβ za zw zc => ?_⟩, ?_⟩
   ·exact fld_30_0 rfl ((evt za 11).trans (valVal (zc.dep 2 11 (by kernel_rfl) (by decide)) rfl rfl)) ⟨_, rfl, rfl, optDef rfl rfl⟩
   refine ⟨.inl ⟨true, by decide, by kernel_rfl, .none rfl, (fun gg b h => by cases h), (fun h => by cases h), fun zβ za zw zc => ?_⟩, ?_⟩
   ·exact ld_3 rfl ((evt za 12).trans (valVal (zc.dep 3 12 (by kernel_rfl) (by decide)) rfl rfl)) (chg_cell zc.chg (by (try dsimp only at *); omega) hc1) ⟨_, rfl, rfl, optDef rfl rfl⟩
   refine ⟨.inl ⟨true, by decide, by kernel_rfl, .none rfl, (fun gg b h => by cases h), (fun h => by cases h), fun zβ za zw zc => ?_⟩, ?_⟩
   ·exact subb_3 rfl (zc.kn.ev rfl) ((evt za 13).trans (valVal (zc.dep 4 13 (by kernel_rfl) (by decide)) rfl rfl)) (wrap_eq (by omega) (by omega) (by omega)) ⟨_, rfl, rfl, optDef rfl rfl⟩
   refine ⟨.inr (.inl ⟨rfl, rfl, by kernel_rfl, by kernel_rfl, fun za zw zc => ?_⟩), ?_⟩
   ·exact row_25_1 rfl ((evt za 14).trans (valVal (zc.dep 5 14 (by kernel_rfl) (by decide)) rfl rfl)) ⟨rfl, rfl⟩
   refine ⟨.inr (.inr (.inl ⟨rfl, rfl, by kernel_rfl, 15, by kernel_rfl, fun za zw g1 zc zo z1 zB => ?_⟩)), ?_⟩
   ·exact app_25 (S := (fun b => base ≤ b ∧ b ≠ g)) rfl ((evt za 9).trans (valVal (zc.dep 0 9 (by kernel_rfl) (by decide)) rfl rfl)) ((evt za 15).trans z1) zo (SrcIs.ofBlk zB) (by simp) (by simp [Value.oneCell']) (by omega) (by omega) (by have z2 := hbase; have z3 := zc.chg.size; have y0 := hB.lt; (try dsimp only at *); omega) (fun ra rc w' h1 h2 => ⟨ra, rc, rfl, h1, h2⟩)
   refine ⟨.inr (.inr (.inr ⟨rfl, rfl, 16, by kernel_rfl, by kernel_rfl, fun za zw ra rc zc z1 => ?_⟩)), ?_⟩
   ·exact st_25 rfl (zc.kn.ev rfl) ((evt za 16).trans z1) zc.blk (by first | decide | simp) (fun v => ⟨v, rfl, Upd.at_ _ _ _ _, zc.blk.set_ 0 _⟩)
   exact trivial
  ·intro za w3 ra4 rc5 zh hc6 hr7 hB8 zu
   have hb9 := chg_below hb0 hc6 (fun b hb => (by (try dsimp only at *); omega))
   clear zu
   refine WE.go zh ?_
   refine WE.next (WC.seq (WC.region (WL.asg rfl rfl rfl rfl rfl (WL.nil (WE.next (WC.ret (WE.ret1 rfl rfl ?_)))))))
   have hs10 : Chg ((fun k => base ≤ k ∨ k = g)) w w3 := (Chg.trans2 (Chg.refl ((fun k => base ≤ k ∨ k = g)) _) hc6 (fun i h1 h2 => by first | exact h2 | exact .inl ⟨h2, h1⟩ | exact .inl h2 | exact .inr h2 | exact .inr (.inl h2) | exact .inr (.inr h2) | ((try dsimp only at *); omega)))
   exact ⟨_, rfl, rfl, _, _, _, hB8, (by rw [show newsF f = [-1 - f] from if_pos (by omega), List.map_append]; exact hr7), hs10⟩
 ·have h2 : ¬ ((f : Int) < (0 : Int)) := by simpa using h2
  refine WC.skip (WE.next (WC.seq (WC.region (WL.asg rfl rfl rfl rfl rfl (WL.nil (WE.next (WC.ret (WE.ret1 rfl rfl ?_))))))))
  have hs11 : Chg ((fun k => base ≤ k ∨ k = g)) w w := (Chg.refl ((fun k => base ≤ k ∨ k = g)) _)
  exact ⟨_, rfl, rfl, ra, rc, _, hB, (by rw [show newsF f = [] from if_neg (by omega), List.append_nil]; exact hO), hs11⟩
theorem each_step {F : FuncId} {vs : Array Value} {w : World} {base g : Nat} {X : List Int} {l : List T} {k : Nat} (h : k < l.length) (H : Calls Try.prog F vs w (Ret fun v' w' => v' = .bool true ∧ Gath w base g (X ++ varsTL (l.take k) ++ varsT (tget l k)) w')) :
  Calls Try.prog F vs w (Ret fun v' w' => v' = .bool true ∧ Gath w base g (X ++ varsTL (l.take (k + 1))) w') := by
 rw [varsTL_take h, ← List.append_assoc]; exact H
set_option maxRecDepth 100000 in
theorem each_any (t : T) : ∀ (w0 w : World) (b o g base : Nat) (A : Option Addr) (C : Nat) (L : List Int) (ra : Option Addr) (rc n : Nat) (_ : Below w0.heap.size w0 w) (_ : w0.cell? ⟨b, o, none⟩ = some (.int .i64 t.f)) (_ : w0.cell? ⟨b, o + 1, none⟩ = some (.slice A t.args.length C)) (_ : IsT w0 t (.agg #[.int .i64 t.f, .slice A t.args.length C]))
  (_ : Blk w g 25 #[.slice ra n rc]) (_ : Own w (fun k => base ≤ k ∧ k ≠ g) 3 1 ra rc n (L.map intV)) (_ : base ≤ w.heap.size) (_ : w0.heap.size ≤ g) (_ : w0.heap.size ≤ base) (_ : L.length + t.size ≤ 4294967296),
  Calls Try.prog 74 #[.pointer (some ⟨b, o, none⟩), .func (.func 75) #[] #[.pointer (some ⟨g, 0, none⟩)]] w (Ret fun v' w' => v' = .bool true ∧ Gath w base g (L ++ varsT t) w') := by
 induction t using T.ind with
 | h f l ih =>
 intro w0 w b o g base A C L ra rc n hb0 h0 h1 hT hB hO hbase hg hbs hz
 obtain rfl := ownI_len hO
 simp only [T.f_mk, T.args_mk] at h0 h1 hT
 rw [T.size] at hz
 have hf := hT.form.1
 obtain ⟨_, hc, hm, hl⟩ := isT_row hT
 simp only [T.args_mk] at hc hl
 unfold maxLen at hm
 have hgl := hB.lt
 have hnl : (newsF f).length ≤ 1 := by unfold newsF; split <;> simp
 refine Calls.walk (l := [.pointer (some ⟨b, o, none⟩), .func (.func 75) #[] #[.pointer (some ⟨g, 0, none⟩)]]) Try.func74 rfl (by kernel_rfl) ?_
 refine WC.sub (K' := [(0, .pointer (some ⟨b, o, none⟩)), (1, .func (.func 75) #[] #[.pointer (some ⟨g, 0, none⟩)])]) ⟨rfl, rfl, trivial⟩ ?_
 refine WC.seq (WC.region (WL.asg rfl rfl rfl rfl rfl (WL.nil (WE.next (WC.seq (WC.seq (WC.region (WL.mv rfl rfl rfl rfl rfl (WL.mv rfl rfl rfl rfl rfl ?_)))))))))
 refine WL.call rfl rfl rfl (fun za zh zC => wp_callv (by kernel_rfl) rfl (zh.ev rfl) (hv1 (zh.ev rfl))) (vars1_any f hf w0 _ b o g base L _ _ _ hb0 h0 hB hO hbase hg hbs (by omega)) ?_
 rintro _ w8 ⟨rfl, ⟨ra21, rc22, n23, hB24, hO25, hC6⟩⟩
 have hb9 := chg_below hb0 hC6 (fun b hb => (by (try dsimp only at *); omega))
 obtain rfl := ownI_len hO25
 have hbs27 : base ≤ w8.heap.size := Nat.le_trans hbase hC6.size
 refine WL.val (.bool false) rfl rfl rfl (fun za zC zh zk => wp_not rfl (zh.ev rfl) zk) ?_
 refine WL.nil (WE.next ?_)
 refine WC.condF rfl rfl ?_
 refine WC.skip (WE.next (WC.seq (WC.seq (WC.region (WL.mv rfl rfl rfl rfl rfl ?_)))))
 refine WL.val _ rfl rfl rfl (fun za zC zh zk => nilCheck_ rfl (zh.ev rfl) zk) ?_
 refine WL.val _ rfl rfl rfl (fun za zC zh zk => fld_30_1 rfl (zh.ev rfl) zk) ?_
 have hc10 := bkeeps hb9 _ _ h1
 refine WL.val _ rfl rfl rfl (fun za zC zh zk => ld_28 rfl (zh.ev rfl) hc10 zk) ?_
 refine WL.val (.int .i64 (((l.length : Nat) : Int))) rfl rfl rfl (fun za zC zh zk => len_28 rfl (zh.ev rfl) zk) ?_
 refine WL.mv rfl rfl rfl rfl rfl (WL.nil (WE.next (WC.block ?_)))
 refine WC.loop (X := Option Addr × Nat × Nat) (fun x => l.length - x.2.2) (fun x => [(0, .pointer (some ⟨b, o, none⟩)), (1, .func (.func 75) #[] #[.pointer (some ⟨g, 0, none⟩)]), (9, .bool false), (14, .int .i64 (((l.length : Nat) : Int))), (15, .int .i64 (((x.2.2 : Nat) : Int)))]) (fun x w11 => x.2.2 ≤ l.length ∧ base ≤ (w11).heap.size ∧ Below w0.heap.size w0 w11 ∧ Blk w11 g 25 #[.slice x.1 ((L ++ newsF f ++ varsTL (l.take x.2.2)).length) x.2.1] ∧ base ≤ (w11).heap.size ∧ Own w11 (fun b => base ≤ b ∧ b ≠ g) 3 1 x.1 x.2.1 ((L ++ newsF f ++ varsTL (l.take x.2.2)).length) (((L ++ newsF f ++ varsTL (l.take x.2.2)).map intV)) ∧ Chg ((fun k => base ≤ k ∨ k = g)) w w11) ((ra21, rc22, 0)) ⟨rfl, rfl, rfl, rfl, rfl, trivial⟩ ?_ ?_
 ·have hs12 : Chg ((fun k => base ≤ k ∨ k = g)) w w8 := (Chg.trans2 (Chg.refl ((fun k => base ≤ k ∨ k = g)) _) hC6 (fun i h1 h2 => by first | exact h2 | exact .inl ⟨h2, h1⟩ | exact .inl h2 | exact .inr h2 | exact .inr (.inl h2) | exact .inr (.inr h2) | ((try dsimp only at *); omega)))
  exact ⟨Nat.zero_le _, hbs27, hb9, (by simpa [varsTL] using hB24), (by have z2 := hbs27; omega), (by simpa [varsTL] using hO25), hs12⟩
 ·rintro x w11 ⟨hk, hbw, hb13, hB14, hf16, hr15, hc17⟩
  have hlv := each_len2 (L := L) (f := f) (l := l) (k := x.2.2)
  refine WC.seq (WC.region ?_)
  refine WL.val (.bool ((decide ((((x.2.2 : Nat) : Int) : Int) < (((l.length : Nat) : Int) : Int))))) rfl rfl rfl (fun za zC zh zk => lss_3 rfl (zh.ev rfl) (zh.ev rfl) zk) ?_
  refine WL.nil (WE.next (WC.seq ?_))
  refine WC.cond rfl (fun h18 => ?_) (fun h18 => ?_)
  ·have h18 : (((x.2.2 : Nat) : Int) : Int) < (((l.length : Nat) : Int) : Int) := by simpa using h18
   refine WC.skip (WE.next (WC.seq (WC.block (WC.seq (WC.region (WL.mv rfl rfl rfl rfl rfl (WL.asg rfl rfl rfl rfl rfl (WL.nil (WE.next (WC.seq (WC.region (WL.mv rfl rfl rfl rfl rfl ?_))))))))))))
   refine WL.val _ rfl rfl rfl (fun za zC zh zk => nilCheck_ rfl (zh.ev rfl) zk) ?_
   refine WL.val _ rfl rfl rfl (fun za zC zh zk => fld_30_1 rfl (zh.ev rfl) zk) ?_
   have hc19 := bkeeps hb13 _ _ h1
   refine WL.val _ rfl rfl rfl (fun za zC zh zk => ld_28 rfl (zh.ev rfl) hc19 zk) ?_
   refine WL.mv rfl rfl rfl rfl rfl ?_
   obtain ⟨b20, o21, A22, C23, ha24, hc25⟩ := IsTs.open hl
   refine WL.val _ rfl rfl rfl (fun za zC zh zk => ix_28 (k := x.2.2) rfl (zh.ev rfl) (ha24 x.2.2 (by first | omega | (simp; omega))) (zh.ev rfl) (by first | omega | (simp; omega)) zk) ?_
   refine WL.mv rfl rfl rfl rfl rfl ?_
   refine WL.call rfl rfl rfl (fun za zh zC => wp_call (by kernel_rfl) rfl (hv2 (zh.ev rfl) (zh.ev rfl))) (each_step (by omega) (ih (tget l x.2.2) (tget_mem (by omega)) w0 _ _ _ g base _ _ _ _ _ _ hb13 (hc25 x.2.2 (by omega)).1 (hc25 x.2.2 (by omega)).2.1 (hc25 x.2.2 (by omega)).2.2 hB14 hr15 hbw hg hbs (each_len hz (by omega)))) ?_
   rintro _ w33 ⟨rfl, ⟨ra226, rc227, n228, hB229, hO230, hC31⟩⟩
   have hb34 := chg_below hb13 hC31 (fun b hb => (by (try dsimp only at *); omega))
   obtain rfl := ownI_len hO230
   have hbs232 : base ≤ w33.heap.size := Nat.le_trans hbw hC31.size
   refine WL.val (.bool false) rfl rfl rfl (fun za zC zh zk => wp_not rfl (zh.ev rfl) zk) ?_
   refine WL.nil (WE.next ?_)
   refine WC.condF rfl rfl ?_
   refine WC.skip (WE.blockNormal (WE.next (WC.region ?_)))
   refine WL.val (.int .i64 ((((x.2.2 + 1) : Nat) : Int))) rfl rfl rfl (fun za zC zh zk => addb_3 rfl (zh.ev rfl) (zh.ev rfl) (wrap_eq (by omega) (by omega) (by omega)) zk) ?_
   refine WL.mv rfl rfl rfl rfl rfl (WL.nil ?_)
   refine WE.round ((ra226, rc227, x.2.2 + 1)) ⟨rfl, rfl, rfl, rfl, rfl, trivial⟩ ?_ ?_
   ·have hs35 : Chg ((fun k => base ≤ k ∨ k = g)) w w33 := (Chg.trans2 (Chg.trans2 (Chg.refl ((fun k => base ≤ k ∨ k = g)) _) hc17 (fun i h1 h2 => by first | exact h2 | exact .inl ⟨h2, h1⟩ | exact .inl h2 | exact .inr h2 | exact .inr (.inl h2) | exact .inr (.inr h2) | ((try dsimp only at *); omega))) hC31 (fun i h1 h2 => by first | exact h2 | exact .inl ⟨h2, h1⟩ | exact .inl h2 | exact .inr h2 | exact .inr (.inl h2) | exact .inr (.inr h2) | ((try dsimp only at *); omega)))
    exact ⟨by dsimp only; omega, hbs232, hb34, (by dsimp only; exact hB229), (by have z2 := hbs232; omega), (by dsimp only; exact hO230), hs35⟩
   ·dsimp only; omega
  ·have h18 : ¬ ((((x.2.2 : Nat) : Int) : Int) < (((l.length : Nat) : Int) : Int)) := by simpa using h18
   refine WC.exit (WE.thenExit (WE.thenExit (WE.blockIs rfl (WE.next (WC.seq (WC.region (WL.asg rfl rfl rfl rfl rfl (WL.nil (WE.next (WC.ret (WE.ret1 rfl rfl ?_)))))))))))
   have hs36 : Chg ((fun k => base ≤ k ∨ k = g)) w w11 := (Chg.trans2 (Chg.refl ((fun k => base ≤ k ∨ k = g)) _) hc17 (fun i h1 h2 => by first | exact h2 | exact .inl ⟨h2, h1⟩ | exact .inl h2 | exact .inr h2 | exact .inr (.inl h2) | exact .inr (.inr h2) | ((try dsimp only at *); omega)))
   have e : varsT (.mk f l) = newsF f ++ varsTL (l.take x.2.2) := by rw [varsT, List.take_of_length_le (by omega)]
   rw [e, ← List.append_assoc]
   exact ⟨_, rfl, rfl, _, _, _, hB14, hr15, hs36⟩
end Go.Proofs.Ytmdpiafeiopimaa

/- The library's Sort, Compact and Contains of integers, as their contracts have it, at this program. -/
namespace Go.Proofs.Ytmdpiafeiopimaa
open Go.RowKit Go.Sort Go.Shelf Go
def Try.lSort_ren : Go.Shelf.Ren := ⟨fun | 5 => 76 | 8 => 79 | 7 => 78 | 19 => 89 | 20 => 90 | 10 => 80 | 11 => 81 | 12 => 82 | 13 => 83 | 14 => 84 | 15 => 85 | 16 => 86 | 17 => 87 | 18 => 88 | 30 => 91 | 31 => 92 | 32 => 93 | 33 => 94 | 34 => 95 | 35 => 96 | 40 => 97 | n => n, fun | 23 => 25 | 25 => 3 | 3 => 3 | 32 => 123 | 22 => 25 | 0 => 0 | 44 => 133 | 46 => 135 | 4 => 4 | 36 => 126 | 35 => 125 | 41 => 130 | 5 => 5 | 9 => 9 | 53 => 136 | 57 => 140 | 63 => 143 | 64 => 144 | n => n, fun | n => n⟩
theorem Try.lSort : Go.Proofs.SlLaysM.n5 Try.prog Try.lSort_ren := {
  mixed := by kernel_rfl,
  f5 := ⟨Try.f76.name, by decide, Try.func76.trans (congrArg some (by kernel_rfl))⟩,
  f7 := ⟨Try.f78.name, by decide, Try.func78.trans (congrArg some (by kernel_rfl))⟩,
  f8 := Try.func79.trans (congrArg some (by kernel_rfl)),
  f10 := ⟨Try.f80.name, by decide, Try.func80.trans (congrArg some (by kernel_rfl))⟩,
  f11 := ⟨Try.f81.name, by decide, Try.func81.trans (congrArg some (by kernel_rfl))⟩,
  f12 := ⟨Try.f82.name, by decide, Try.func82.trans (congrArg some (by kernel_rfl))⟩,
  f13 := ⟨Try.f83.name, by decide, Try.func83.trans (congrArg some (by kernel_rfl))⟩,
  f14 := ⟨Try.f84.name, by decide, Try.func84.trans (congrArg some (by kernel_rfl))⟩,
  f15 := ⟨Try.f85.name, by decide, Try.func85.trans (congrArg some (by kernel_rfl))⟩,
  f16 := ⟨Try.f86.name, by decide, Try.func86.trans (congrArg some (by kernel_rfl))⟩,
  f17 := ⟨Try.f87.name, by decide, Try.func87.trans (congrArg some (by kernel_rfl))⟩,
  f18 := ⟨Try.f88.name, by decide, Try.func88.trans (congrArg some (by kernel_rfl))⟩,
  f19 := Try.func89.trans (congrArg some (by kernel_rfl)),
  f20 := Try.func90.trans (congrArg some (by kernel_rfl)),
  f30 := ⟨Try.f91.name, by decide, Try.func91.trans (congrArg some (by kernel_rfl))⟩,
  f31 := Try.func92.trans (congrArg some (by kernel_rfl)),
  f32 := Try.func93.trans (congrArg some (by kernel_rfl)),
  f33 := ⟨Try.f94.name, by decide, Try.func94.trans (congrArg some (by kernel_rfl))⟩,
  f34 := ⟨Try.f95.name, by decide, Try.func95.trans (congrArg some (by kernel_rfl))⟩,
  f35 := ⟨Try.f96.name, by decide, Try.func96.trans (congrArg some (by kernel_rfl))⟩,
  f40 := ⟨Try.f97.name, by decide, Try.func97.trans (congrArg some (by kernel_rfl))⟩,
  t0 := Try.underlying0,
  a0 := Try.isAgg0,
  z0 := Try.sizeOf0,
  v0 := Try.zeroValue0,
  t3 := Try.underlying3,
  a3 := Try.isAgg3,
  z3 := Try.sizeOf3,
  v3 := Try.zeroValue3,
  t4 := Try.underlying4,
  a4 := Try.isAgg4,
  z4 := Try.sizeOf4,
  v4 := Try.zeroValue4,
  t5 := Try.underlying5,
  a5 := Try.isAgg5,
  z5 := Try.sizeOf5,
  v5 := Try.zeroValue5,
  t9 := Try.underlying9,
  a9 := Try.isAgg9,
  z9 := Try.sizeOf9,
  v9 := Try.zeroValue9,
  t22 := Try.underlying25,
  a22 := Try.isAgg25,
  z22 := Try.sizeOf25,
  v22 := Try.zeroValue25,
  t23 := Try.underlying25,
  a23 := Try.isAgg25,
  z23 := Try.sizeOf25,
  v23 := Try.zeroValue25,
  t25 := Try.underlying3,
  a25 := Try.isAgg3,
  z25 := Try.sizeOf3,
  v25 := Try.zeroValue3,
  t32 := Try.underlying123,
  a32 := Try.isAgg123,
  z32 := Try.sizeOf123,
  v32 := Try.zeroValue123,
  t35 := Try.underlying125,
  a35 := Try.isAgg125,
  z35 := Try.sizeOf125,
  v35 := Try.zeroValue125,
  t36 := Try.underlying126,
  a36 := Try.isAgg126,
  z36 := Try.sizeOf126,
  v36 := Try.zeroValue126,
  t41 := Try.underlying130,
  a41 := Try.isAgg130,
  z41 := Try.sizeOf130,
  v41 := Try.zeroValue130,
  t44 := Try.underlying133,
  a44 := Try.isAgg133,
  z44 := Try.sizeOf133,
  v44 := Try.zeroValue133,
  t46 := Try.underlying135,
  a46 := Try.isAgg135,
  z46 := Try.sizeOf135,
  v46 := Try.zeroValue135,
  t53 := Try.underlying136,
  a53 := Try.isAgg136,
  z53 := Try.sizeOf136,
  v53 := Try.zeroValue136,
  t57 := Try.underlying140,
  a57 := Try.isAgg140,
  z57 := Try.sizeOf140,
  v57 := Try.zeroValue140,
  t63 := Try.underlying143,
  a63 := Try.isAgg143,
  z63 := Try.sizeOf143,
  v63 := Try.zeroValue143,
  t64 := Try.underlying144,
  a64 := Try.isAgg144,
  z64 := Try.sizeOf144,
  v64 := Try.zeroValue144 }
def Try.lCompact_ren : Go.Shelf.Ren := ⟨fun | 20 => 77 | n => n, fun | 22 => 25 | 3 => 3 | 4 => 4 | 0 => 0 | n => n, fun | n => n⟩
theorem Try.lCompact : Go.Proofs.Lays2.n20 Try.prog Try.lCompact_ren := {
  mixed := by kernel_rfl,
  f20 := Try.func77.trans (congrArg some (by kernel_rfl)),
  t0 := Try.underlying0,
  a0 := Try.isAgg0,
  z0 := Try.sizeOf0,
  v0 := Try.zeroValue0,
  t3 := Try.underlying3,
  a3 := Try.isAgg3,
  z3 := Try.sizeOf3,
  v3 := Try.zeroValue3,
  t4 := Try.underlying4,
  a4 := Try.isAgg4,
  z4 := Try.sizeOf4,
  v4 := Try.zeroValue4,
  t22 := Try.underlying25,
  a22 := Try.isAgg25,
  z22 := Try.sizeOf25,
  v22 := Try.zeroValue25,
  i3 := by kernel_rfl }
def Try.lContains_ren : Go.Shelf.Ren := ⟨fun | 107 => 69 | 108 => 73 | n => n, fun | 28 => 25 | 3 => 3 | 4 => 4 | 0 => 0 | n => n, fun | n => n⟩
theorem Try.lContains : Go.Proofs.Lays.n107 Try.prog Try.lContains_ren := {
  mixed := by kernel_rfl,
  f107 := Try.func69.trans (congrArg some (by kernel_rfl)),
  f108 := Try.func73.trans (congrArg some (by kernel_rfl)),
  t0 := Try.underlying0,
  a0 := Try.isAgg0,
  z0 := Try.sizeOf0,
  v0 := Try.zeroValue0,
  t3 := Try.underlying3,
  a3 := Try.isAgg3,
  z3 := Try.sizeOf3,
  v3 := Try.zeroValue3,
  t4 := Try.underlying4,
  a4 := Try.isAgg4,
  z4 := Try.sizeOf4,
  v4 := Try.zeroValue4,
  t28 := Try.underlying25,
  a28 := Try.isAgg25,
  z28 := Try.sizeOf25,
  v28 := Try.zeroValue25 }
end Go.Proofs.Ytmdpiafeiopimaa

/- The library's Sort, Compact and Contains over rows of the call's own. -/
namespace Go.Proofs.Ytmdpiafeiopimaa
open Go.RowKit Go.Sort Go.Shelf Go
theorem compact_sub (d : Array Int) (m : Nat) (x : Int) (h : x ∈ Lib.compactUpTo d m) : ∃ j, j < m ∧ d[j]! = x := by
  unfold Lib.compactUpTo at h
  simp only [List.mem_map, List.mem_filter, List.mem_range] at h
  obtain ⟨j, ⟨h1, _⟩, h2⟩ := h
  exact ⟨j, h1, h2⟩
theorem compact_sup (d : Array Int) (m : Nat) : ∀ j, j < m → d[j]! ∈ Lib.compactUpTo d m := by
  intro j
  induction j using Nat.strongRecOn with
  | ind j ih =>
    intro hj
    unfold Lib.compactUpTo
    simp only [List.mem_map, List.mem_filter, List.mem_range]
    by_cases hk : Lib.keeps d j = true
    · exact ⟨j, ⟨hj, hk⟩, rfl⟩
    · have h0 : j ≠ 0 := by rintro rfl; exact hk (Lib.keeps_lt_one d 0 (by omega))
      have he : d[j]! = d[j - 1]! := by
        unfold Lib.keeps at hk
        simp only [decide_eq_true_eq, ne_eq] at hk
        by_cases e : d[j]! = d[j - 1]!
        · exact e
        · exact absurd (by first | exact .inr e | exact .inr (fun h => e h.symm) | exact .inr (Ne.symm e)) hk
      have := ih (j - 1) (by omega) (by omega)
      unfold Lib.compactUpTo at this
      simp only [List.mem_map, List.mem_filter, List.mem_range] at this
      rw [he]; exact this
theorem compact_mem (l : List Int) (x : Int) : x ∈ Lib.compact l ↔ x ∈ l := by
  unfold Lib.compact
  have e : ∀ j, j < l.length → l.toArray[j]! = l[j]! := fun j hj => by simp
  constructor
  · intro h
    obtain ⟨j, hj, rfl⟩ := compact_sub _ _ _ h
    rw [e j hj, getElem!_pos l j hj]; exact List.getElem_mem hj
  · intro h
    obtain ⟨j, hj, rfl⟩ := List.getElem_of_mem h
    have := compact_sup l.toArray l.length j hj
    rwa [e j hj, getElem!_pos l j hj] at this
theorem compact_le (l : List Int) : (Lib.compact l).length ≤ l.length := by
  unfold Lib.compact Lib.compactUpTo
  rw [List.length_map]
  exact Nat.le_trans (List.length_filter_le _ _) (by simp)
section
variable {w : World} {S : Nat → Prop} {ra : Option Addr} {rc n : Nat} {L : List Int}
theorem holds_own {g : Nat} (h : w.ownsRow 0 3 1 (.slice (some ⟨g, 0, none⟩) n rc) n (L.map (Value.int .i64))) : Holds (Value.int .i64) w g 0 L.toArray := by
  rcases h.2 with ⟨e, _⟩ | ⟨g', cap, cur, e, _, hb, hc, hm, hs, hx⟩
  · cases e
  · cases e
    have hl : L.length = n := by have := h.1; simpa using this
    intro j hj
    have hj' : j < L.length := by simpa using hj
    have hx' := congrArg (fun l => l[j]?) hx
    simp only [Nat.mul_one, List.getElem?_map] at hx'
    rw [List.getElem?_take_of_lt (by omega), Array.getElem?_toList, List.getElem?_eq_getElem hj'] at hx'
    refine ⟨?_, ?_⟩
    · simp only [World.cell?, hb, Nat.zero_add]
      simp [hx', hj']
    · simp [World.frozen?, hb]
theorem sort_own (h : Own w S 3 1 ra rc n (L.map (Value.int .i64))) (hz : n ≤ 4294967296) :
    Calls Try.prog 76 #[.slice ra n rc] w (Ret fun v' w' => ∃ L' : List Int, v' = .tuple #[] ∧ (∀ x, x ∈ L' ↔ x ∈ L) ∧ Own w' S 3 1 ra rc n (L'.map (Value.int .i64)) ∧ Chg S w w') := by
  have hl : L.length = n := by have := h.1.1; simpa using this
  have h0 := h
  rcases h.1.2 with ⟨e, h0⟩ | ⟨g, cap, cur, e, h1, hb, hc, hm, hs, hx⟩
  · simp only [Value.slice.injEq] at e
    obtain ⟨rfl, rfl, rfl⟩ := e
    refine (AnyM.slices_Sort_int_none Try.lSort none 0 w).mono ?_
    rintro e w' ⟨rfl, rfl⟩
    exact ⟨_, rfl, L, rfl, fun _ => Iff.rfl, h, .refl _ _⟩
  · simp only [Value.slice.injEq, true_and] at e
    obtain ⟨rfl, rfl⟩ := e
    subst hl
    have hg : g < w.heap.size := (Array.getElem?_eq_some_iff.1 hb).1
    refine (AnyM.slices_Sort_int Try.lSort g 0 rc L w (holds_own h.1) hg (by omega)).mono ?_
    rintro e w' ⟨rfl, m, os, rfl⟩
    have hS : S g := h.2 g rfl
    have hL : (L.mergeSort fun x y => decide (x ≤ y)).length = L.length := by simp
    refine ⟨_, rfl, L.mergeSort fun x y => decide (x ≤ y), rfl, fun x => List.mem_mergeSort, ⟨ownsRow_sortedI hL h1 hb hc hm hs, h.2⟩, ?_⟩
    have hG := grownBy_sortedI (w := w) (g := g) (n := m) (os := os) (L.mergeSort fun x y => decide (x ≤ y)).toArray
    exact ⟨hG.os, hG.tape, hG.output, hG.size, fun k hk hn => hG.block k hk (fun e => hn (Option.some.inj e ▸ hS))⟩
theorem compact_own (h : Own w S 3 1 ra rc n (L.map (Value.int .i64))) (hz : n ≤ 4294967296) (hw : ∀ x ∈ L, I64 x) :
    Calls Try.prog 77 #[.slice ra n rc] w (Ret fun v' w' => ∃ (l : List Int) (a : Option Addr) (c : Nat), v' = .slice a l.length c ∧ l.length ≤ c ∧ c ≤ maxLen ∧ IsInts w' l a ∧ (∀ x, x ∈ l ↔ x ∈ L) ∧ Chg S w w') := by
  have hl : L.length = n := by have := h.1.1; simpa using this
  rcases h.1.2 with ⟨e, h0⟩ | ⟨g, cap, cur, e, h1, hb, hc, hm, hs, hx⟩
  · simp only [Value.slice.injEq] at e
    obtain ⟨rfl, rfl, rfl⟩ := e
    refine (Any.slices_Compact_int_empty Try.lCompact none 0 w).mono ?_
    rintro e w' ⟨rfl, rfl⟩
    obtain rfl : L = [] := List.length_eq_zero_iff.1 hl
    exact ⟨_, rfl, [], none, 0, rfl, Nat.le_refl _, Nat.zero_le _, fun k hk => by simp at hk, fun _ => Iff.rfl, .refl _ _⟩
  · simp only [Value.slice.injEq, true_and] at e
    obtain ⟨rfl, rfl⟩ := e
    subst hl
    refine (Any.slices_Compact_int Try.lCompact g 0 rc L w (holds_own h.1) (by omega) hc).mono ?_
    rintro e w' ⟨rfl, m, rfl⟩
    have hle := compact_le L
    have hS : S g := h.2 g rfl
    have hlen : (Lib.compact L ++ List.replicate (L.length - (Lib.compact L).length) (0 : Int)).length = L.length := by simp; omega
    have hG := grownBy_sortedI (w := w) (g := g) (n := m) (os := #[]) (Lib.compact L ++ List.replicate (L.length - (Lib.compact L).length) 0).toArray
    have hO := ownsRow_sortedI (w := w) (n := m) (os := #[]) hlen h1 hb hc hm hs
    rw [grow_empty] at hG hO
    have hH := holds_own hO
    refine ⟨_, rfl, Lib.compact L, _, rc, rfl, by omega, hm, fun k hk => ⟨g, 0, [.int .i64 (Lib.compact L)[k]], rfl, rfl, fun j hj => ?_, rfl, hw _ ((compact_mem L _).1 (List.getElem_mem hk))⟩, fun x => compact_mem L x, ⟨hG.os, hG.tape, hG.output, hG.size, fun k hk hn => hG.block k hk (fun e => hn (Option.some.inj e ▸ hS))⟩⟩
    obtain rfl : j = 0 := by omega
    have := (hH k (by simp; omega)).1
    simp only [Nat.zero_add, Nat.mul_one, Nat.add_zero, List.getElem?_cons_zero] at this ⊢
    rw [this]
    simp [hk, List.getElem?_append_left hk]
theorem contains_any (l : List Int) (x : Int) (w : World) (a : Option Addr) (c : Nat) (hc : l.length ≤ c) (hm : c ≤ maxLen) (hl : IsInts w l a) :
    Calls Try.prog 69 #[.slice a l.length c, .int .i64 x] w (Ret fun v' w' => v' = .bool (decide (x ∈ l)) ∧ Below w.heap.size w w') := by
  unfold maxLen at hm
  rcases Nat.eq_zero_or_pos l.length with h0 | h0
  · obtain rfl : l = [] := List.length_eq_zero_iff.1 h0
    refine (Any.slices_Contains_int_empty Try.lContains a c x w).mono ?_
    rintro e w' ⟨rfl, rfl⟩
    exact ⟨_, rfl, by simp, Below.refl _ _⟩
  · obtain ⟨b, o, ha, hcell⟩ := hl.open
    obtain rfl := ha 0 h0
    refine (Any.slices_Contains_int Try.lContains b o l.length c l x w (Nat.le_refl _) (by omega) (fun j hj => hcell j hj)).mono ?_
    rintro e w' ⟨rfl, rfl⟩
    exact ⟨_, rfl, by rw [List.take_length]; simp, Below.refl _ _⟩
end
end Go.Proofs.Ytmdpiafeiopimaa

/- The variables of a term, sorted and each but once: the walk. -/
namespace Go.Proofs.Ytmdpiafeiopimaa
open Go.RowKit Go
set_option linter.unusedVariables false
set_option linter.unusedSimpArgs false
mutual
theorem varsT_i64 {w : World} : ∀ (t : T) (v : Value), IsT w t v → ∀ x ∈ varsT t, I64 x
 | .mk f l, v, ⟨hf, a, c, _, _, _, hl⟩, x, hx => by
  rw [varsT, List.mem_append] at hx
  rcases hx with hx | hx
  ·unfold newsF at hx
   split at hx
   ·obtain rfl : x = -1 - f := by simpa using hx
    unfold I64 at *; omega
   ·simp at hx
  ·exact varsTL_i64 l a 0 hl x hx
theorem varsTL_i64 {w : World} : ∀ (l : List T) (a : Option Addr) (i : Nat), IsTs w l a i → ∀ x ∈ varsTL l, I64 x
 | [], _, _, _, x, hx => by simp [varsTL] at hx
 | t :: r, a, i, ⟨⟨_, _, _, _, _, _, _, h1⟩, h2⟩, x, hx => by
  rw [varsTL, List.mem_append] at hx
  rcases hx with hx | hx
  ·exact varsT_i64 t _ h1 x hx
  ·exact varsTL_i64 r a (i + 1) h2 x hx
end
set_option maxRecDepth 100000 in
theorem vars_any (t : T) (w : World) (v : Value) (hz : t.size ≤ 4294967296) (hv : IsT w t v) :
  Calls Try.prog 70 #[v] w (Ret fun v' w' => ∃ (l : List Int) (a : Option Addr) (c : Nat), v' = .slice a l.length c ∧ l.length ≤ c ∧ c ≤ maxLen ∧ IsInts w' l a ∧ (∀ x, x ∈ l ↔ x ∈ varsT t) ∧ Below w.heap.size w w') := by
 have hvt := hv
 have hI := varsT_i64 t v hv
 have hle := varsT_le t
 obtain ⟨hf, a, c, rfl, hc, hm, hl⟩ := hv.form
 refine Calls.walk (l := [.agg #[.int .i64 t.f, .slice a t.args.length c]]) Try.func70 rfl (by kernel_rfl) ?_
 refine WC.sub (K' := [(0, .agg #[.int .i64 t.f, .slice a t.args.length c])]) ⟨rfl, trivial⟩ ?_
 refine WC.seq (WC.region ?_)
 refine WL.step (post := NewBlk w 30 #[.int .i64 t.f, .slice a t.args.length c]) rfl rfl rfl (fun za zC zh zk => box_30 rfl (zh.ev rfl) (zk _ _ (newBlk _ _ _))) ?_
 rintro _ w1 ⟨g2, rfl, hg3, hB4, hb5, hz6⟩
 have hl7 : w.heap.size ≤ g2 := by omega
 refine WL.asg rfl rfl rfl rfl rfl (WL.nil (WE.next (WC.seq (WC.region ?_))))
 refine WL.step (post := NewBlk w1 25 #[.slice none 0 0]) rfl rfl rfl (fun za zC zh zk => alloc_25 rfl (zk _ _ (newBlk _ _ _))) ?_
 rintro _ w8 ⟨g9, rfl, hg10, hB11, hb12, hz13⟩
 have hl14 : g2 < g9 := by have z1 := hB4.lt; omega
 have hl15 : w.heap.size ≤ g9 := by have z2 := (hb5).size; omega
 have hl16 : w1.heap.size ≤ g9 := by omega
 refine WL.nil (WE.next (WC.seq (WC.region ?_)))
 refine WL.val (.func (Fn.func 75) #[] #[.pointer (some ⟨g9, 0, none⟩)]) rfl rfl rfl (fun za zC zh zk => mkfn rfl (hv0) (hv1 (zh.ev rfl)) zk) ?_
 have hg24 : w1.heap.size ≤ g9 := by omega
 have hw25 : w.heap.size ≤ w8.heap.size := (Nat.le_trans hb5.size hb12.size)
 refine WL.call rfl rfl rfl (fun za zh zC => wp_call (by kernel_rfl) rfl (hv2 (zh.ev rfl) (zh.ev rfl))) (each_any t w1 _ g2 0 g9 w8.heap.size a c [] none 0 0 hb12 (hB4.cell 0) (hB4.cell 1) (hvt.below hb5) hB11 own_nil (Nat.le_refl _) hg24 hb12.size (by simpa using hz)) ?_
 rintro _ w26 ⟨rfl, ⟨ra217, rc218, n219, hB220, hO221, hC22⟩⟩
 have hb27 : Below w.heap.size w w8 := (bstep hb5 hb12)
 have hB28 := hB4.below hb12
 have hb29 := chg_below hb27 hC22 (fun b hb => (by (try dsimp only at *); omega))
 have hb30 := chg_below hb12 hC22 (fun b hb => (by (try dsimp only at *); omega))
 have hB31 := chg_blk hB28 hC22 (by (try dsimp only at *); omega)
 obtain rfl := ownI_len hO221
 have hbs223 : w8.heap.size ≤ w26.heap.size := hC22.size
 refine WL.nil (WE.next (WC.seq (WC.region ?_)))
 refine WL.val _ rfl rfl rfl (fun za zC zh zk => ld_25 rfl (zh.ev rfl) ((hB220.cell 0).trans rfl) zk) ?_
 refine WL.call rfl rfl rfl (fun za zh zC => wp_call (by kernel_rfl) rfl (hv1 (zh.ev rfl))) (sort_own hO221 (by simpa using Nat.le_trans hle hz)) ?_
 rintro _ w37 ⟨L32, rfl, hm33, hO34, hC35⟩
 have hb38 := chg_below hb29 hC35 (fun b hb => (by (try dsimp only at *); omega))
 have hb39 := chg_below hb30 hC35 (fun b hb => (by (try dsimp only at *); omega))
 have hB40 := chg_blk hB31 hC35 (by (try dsimp only at *); omega)
 have hB41 := chg_blk hB220 hC35 (by (try dsimp only at *); omega)
 have hb36 : w8.heap.size ≤ w37.heap.size := Nat.le_trans hbs223 hC35.size
 refine WL.nil (WE.next (WC.seq (WC.region ?_)))
 refine WL.val _ rfl rfl rfl (fun za zC zh zk => ld_25 rfl (zh.ev rfl) ((hB41.cell 0).trans rfl) zk) ?_
 refine WL.call rfl rfl rfl (fun za zh zC => wp_call (by kernel_rfl) rfl (hv1 (zh.ev rfl))) (compact_own hO34 (by simpa using Nat.le_trans hle hz) (fun x hx => hI x (by have := (hm33 x).1 hx; simpa using this))) ?_
 rintro _ w43 ⟨l2, a2, c2, rfl, q1, q2, q3, q4, hC42⟩
 have hb44 := chg_below hb38 hC42 (fun b hb => (by (try dsimp only at *); omega))
 have hb45 := chg_below hb39 hC42 (fun b hb => (by (try dsimp only at *); omega))
 have hB46 := chg_blk hB40 hC42 (by (try dsimp only at *); omega)
 have hB47 := chg_blk hB41 hC42 (by (try dsimp only at *); omega)
 refine WL.asg rfl rfl rfl rfl rfl (WL.nil (WE.next (WC.ret (WE.ret1 rfl rfl ?_))))
 exact ⟨_, rfl, l2, a2, c2, rfl, q1, q2, q3, (fun x => by rw [q4, hm33]; simp), hb44⟩
end Go.Proofs.Ytmdpiafeiopimaa

namespace Go.Proofs.Ytmdpiafeiopimaa
open Go.RowKit Go.Sort Go
theorem T.sameL_len : ∀ (l q : List T), l.length ≠ q.length → T.sameL l q = false
  | [], [], h => absurd rfl h
  | _ :: r, _ :: q, h => by rw [T.sameL, T.sameL_len r q (by simpa using h), Bool.and_false]
  | [], _ :: _, _ => rfl
  | _ :: _, [], _ => rfl
theorem T.sameL_drop (l q : List T) (k : Nat) (h : k < l.length) (h' : k < q.length) : T.sameL (l.drop k) (q.drop k) = (T.same l[k] q[k] && T.sameL (l.drop (k + 1)) (q.drop (k + 1))) := by
  rw [List.drop_eq_getElem_cons h, List.drop_eq_getElem_cons h', T.sameL]
theorem T.sameL_end (l q : List T) (h : l.length = q.length) : T.sameL (l.drop l.length) (q.drop l.length) = true := by
  rw [List.drop_eq_nil_of_le (Nat.le_refl _), List.drop_eq_nil_of_le (by omega), T.sameL]
theorem equalFunc_any (l q : List T) (ih : ∀ a ∈ l, ∀ (t : T) (w : World) (v u : Value), IsT w a v → IsT w t u →
      Calls Try.prog 50 #[v, u] w fun e w' => e = .returned (.bool (T.same a t)) ∧ Below w.heap.size w w')
    (w : World) (a a' : Option Addr) (c c' : Nat) (hc : l.length ≤ c) (_hc' : q.length ≤ c') (hm : c ≤ maxLen) (_hm' : c' ≤ maxLen) (hl : IsTs w l a 0) (hq : IsTs w q a' 0) :
    Calls Try.prog 56 #[.slice a l.length c, .slice a' q.length c', .func (.func 50) #[] #[]] w fun e w' => e = .returned (.bool (T.sameL l q)) ∧ Below w.heap.size w w' := by
  unfold maxLen at hm
  by_cases hlen : l.length = q.length
  · have hne : ((l.length : Int) != (q.length : Int)) = false := by simp [hlen]
    have HL := Lib.hid hlen
    go_enter Try.func56, Try.ntmps56
    clear hlen
    go_wp2_with fail
    go_loopw [17] (fun i wr => ∃ (k : Nat), k ≤ l.length ∧ i = .int .i64 k ∧ Hid (T.sameL l q = T.sameL (l.drop k) (q.drop k)) ∧ Below w.heap.size w wr) (fun i _ => l.length - (intOf i).toNat)
    case atStart => exact ⟨0, Nat.zero_le _, rfl, rfl, Below.refl _ _⟩
    case round =>
      obtain ⟨k, hk, rfl, hx, hw⟩ := hrel
      by_cases hlt : k < l.length
      · have hlq : k < q.length := by have := HL.out; omega
        obtain ⟨b1, o1, a1, c1, rfl, g1, g2, h3⟩ := hl.at_ hw k hlt
        obtain ⟨b2, o2, a2, c2, rfl, g3, g4, h4⟩ := hq.at_ hw k hlq
        have IH := fun w v u => ih l[k] (List.getElem_mem hlt) q[k] w v u
        have q5 := T.sameL_drop l q k hlt hlq
        have g3 := calloc g3
        have g4 := calloc g4
        cases hz : T.same l[k] q[k] with
        | true =>
          rw [hz] at IH
          have Hh3 := Lib.hid h3
          have Hh4 := Lib.hid h4
          have Hhw := Lib.hid hw
          have Hq5 := Lib.hid q5
          have Hhx := Lib.hid hx
          have Hhz := Lib.hid hz
          clear h3 h4 hw q5 hx hz
          clear ih hl hq
          go_wp2_with (go_at_call 50; refine (IH _ _ _ (Hh3.out.below (balloc2 _ _ _)) (Hh4.out.below (balloc2 _ _ _))).mono ?_; rintro e w' ⟨rfl, hb'⟩)
          go_roundw
          case rel => exact ⟨k + 1, by omega, by go_num, by unfold Hid; rw [Hhx.out, Hq5.out, Hhz.out, Bool.true_and], bstep (bstep Hhw.out (balloc2 _ _ _)) hb'⟩
          case measure => simp [intOf]; omega
        | false =>
          rw [hz] at IH
          have Hh3 := Lib.hid h3
          have Hh4 := Lib.hid h4
          have Hhw := Lib.hid hw
          have Hq5 := Lib.hid q5
          have Hhx := Lib.hid hx
          have Hhz := Lib.hid hz
          clear h3 h4 hw q5 hx hz
          clear ih hl hq
          go_wp2_with (go_at_call 50; refine (IH _ _ _ (Hh3.out.below (balloc2 _ _ _)) (Hh4.out.below (balloc2 _ _ _))).mono ?_; rintro e w' ⟨rfl, hb'⟩)
          go_ret
          exact ⟨rbool (by rw [Hhx.out, Hq5.out, Hhz.out, Bool.false_and]), bstep (bstep Hhw.out (balloc2 _ _ _)) hb'⟩
      · obtain rfl : k = l.length := by omega
        have Q := Lib.hid (T.sameL_end l q HL.out)
        have Hhw := Lib.hid hw
        have Hhx := Lib.hid hx
        clear hw hx
        clear ih hl hq
        go_wp2_with fail
        go_ret
        exact ⟨rbool (by rw [Hhx.out, Q.out]), Hhw.out⟩
  · have hne : ((l.length : Int) != (q.length : Int)) = true := by simpa using fun h => hlen (by omega)
    have E := Lib.hid (T.sameL_len l q hlen)
    clear ih hl hq hlen
    go_enter Try.func56, Try.ntmps56
    go_wp2_with fail
    go_ret
    exact ⟨rbool E.out, Below.refl _ _⟩
theorem same_any (s : T) : ∀ (t : T) (w : World) (v u : Value), IsT w s v → IsT w t u →
    Calls Try.prog 50 #[v, u] w fun e w' => e = .returned (.bool (T.same s t)) ∧ Below w.heap.size w w' := by
  induction s using T.ind with
  | h f l ih =>
  intro t w v u hv hu
  obtain ⟨g, q⟩ := t
  obtain ⟨_, a, c, rfl, hc, hm, hl⟩ := hv
  obtain ⟨_, a', c', rfl, hc', hm', hq⟩ := hu
  have EF := fun (w' : World) hb => equalFunc_any l q ih w' a a' c c' hc hc' hm hm' (IsTs.below (w := w) (w' := w') hb hl) (hq.below hb)
  clear ih hl hq
  by_cases hfg : f = g
  · have hne : (f == g) = true := by simpa using hfg
    have E := Lib.hid (show T.same (.mk f l) (.mk g q) = T.sameL l q by rw [T.same, hne, Bool.true_and])
    subst hfg
    go_enter Try.func50, Try.ntmps50
    go_wp2_with (go_at_call 56; refine (EF _ (balloc2 _ _ _)).mono ?_; rintro e w' ⟨rfl, hb'⟩)
    go_ret
    exact ⟨rbool E.out, bstep (balloc2 _ _ _) hb'⟩
  · have hne : (f == g) = false := by simpa using hfg
    have E := Lib.hid (show T.same (.mk f l) (.mk g q) = false by rw [T.same, hne, Bool.false_and])
    clear hfg
    go_enter Try.func50, Try.ntmps50
    go_wp2_with fail
    go_ret
    exact ⟨rbool E.out, balloc2 _ _ _⟩
end Go.Proofs.Ytmdpiafeiopimaa
