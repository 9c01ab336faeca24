/- Maps from pairs of numbers to truth values: what all their entries are. -/
import Derived.Test.YtlkiabgpnboicaaEng
import Derived.Test.YtlkiabgpnboicaaGrowR
import Derived.Sort.Walk0
namespace Go.Proofs.Ytlkiabgpnboicaa
open Go.RowKit Go.Sort Go

def prV (x : Nat × Nat) : Value := .agg #[.int .i64 x.1, .int .i64 x.2]

theorem eqPr (a b c d : Int) (w : World) : (binOp .eql 88 (.agg #[.int .i64 a, .int .i64 b]) (.agg #[.int .i64 c, .int .i64 d])).run Try.prog w = .ok (.bool (decide (a = c ∧ b = d))) w := by
  have hS : Try.prog.underlying 88 = some (.struct (Try.prog.fieldsOf 88)) := by kernel_rfl
  have hp : Try.prog.stoodInHeld 88 = false := by kernel_rfl
  have u2 := Try.underlying3
  rw [run_eql_struct, show (10000 : Nat) = 9999 + 1 from rfl, run_equalIn_agg w 9999 88 _ _ hS hp]
  simp only [Program.fieldsOf, Try.underlying88]
  go_simp
  by_cases h1 : a = c <;> by_cases h2 : b = d <;> simp_all

theorem run_equal_pr (x y : Nat × Nat) (w : World) : (Op.equal 88 (prV x) (prV y)).run Try.prog w = .ok (decide (x = y)) w := by
  have h := eqPr x.1 x.2 y.1 y.2 w
  have e : (binOp .eql 88 (prV x) (prV y)).run Try.prog w = ((Op.equal 88 (prV x) (prV y)).run Try.prog w).andThen fun b w' => .ok (.bool b) w' := by
    simp [binOp, prV]
  unfold prV at *
  rw [e] at h
  have hd : decide ((x.1 : Int) = y.1 ∧ (x.2 : Int) = y.2) = decide (x = y) := by
    rw [decide_eq_decide, Prod.ext_iff]; omega
  cases hr : (Op.equal 88 (.agg #[.int .i64 x.1, .int .i64 x.2]) (.agg #[.int .i64 y.1, .int .i64 y.2])).run Try.prog w with
  | ok b w' =>
    rw [hr] at h
    simp only [Result.andThen_ok, Result.ok.injEq, Value.bool.injEq] at h ⊢
    exact ⟨h.1.trans hd, h.2⟩
  | halt z w' => rw [hr] at h; simp [Result.andThen] at h

set_option maxRecDepth 20000 in
theorem run_checkKey_pr (b : Bool) (x : Nat × Nat) (w : World) : (Instr.checkKey b 10000 88 (prV x)).run Try.prog w = .ok () w := by
  have u0 := Try.underlying88
  have u2 := Try.underlying3
  rw [show (10000 : Nat) = 9998 + 1 + 1 from rfl]
  generalize (9998 : Nat) = n
  unfold prV
  simp [Instr.checkKey, run_underlying u0, run_underlying u2, go_sem]

theorem run_getObj_map (P : Program) (w : World) (r : Nat) (es : Array MapEntry) (clock : Nat) (h : w.heap[r]? = some (.map es clock)) : (getObj r).run P w = .ok (.map es clock) w := by
  simp [getObj, Sem.run, h]

/-- A map, of whose entries Q holds. -/
def PrMap (w : World) (r : Nat) (Q : Nat × Nat → Bool → Prop) : Prop := ∃ es clock, w.heap[r]? = some (.map es clock) ∧ ∀ e ∈ es.toList, ∃ x b, e.key = prV x ∧ e.val = .bool b ∧ Q x b

theorem run_findAsking_pr {Q : Nat × Nat → Bool → Prop} (x : Nat × Nat) : ∀ (es : List MapEntry) (i : Nat), (∀ e ∈ es, ∃ x b, e.key = prV x ∧ e.val = .bool b ∧ Q x b) →
    ∃ r, (∀ w, (Instr.findAsking 88 (prV x) es i).run Try.prog w = .ok r w) ∧ (r = none ∨ ∃ j b, r = some (j, .bool b) ∧ Q x b ∧ i ≤ j ∧ ∃ e, es[j - i]? = some e ∧ e.key = prV x)
  | [], i, _ => ⟨none, fun w => by simp [Instr.findAsking], .inl rfl⟩
  | e :: es, i, h => by
    obtain ⟨y, b, hk, hv, hq⟩ := h e (by simp)
    unfold Instr.findAsking
    simp only [Sem.run_bind, hk, run_equal_pr, Result.andThen_ok]
    by_cases hxy : x = y
    · subst hxy
      exact ⟨some (i, e.val), fun w => by simp, .inr ⟨i, b, by rw [hv], hq, Nat.le_refl _, e, by simp, hk⟩⟩
    · obtain ⟨r, h1, h2⟩ := run_findAsking_pr x es (i + 1) (fun e he => h e (by simp [he]))
      refine ⟨r, fun w => by simpa [hxy] using h1 w, ?_⟩
      rcases h2 with h2 | ⟨j, b, h2, h3, h4, e', h5, h6⟩
      · exact .inl h2
      · refine .inr ⟨j, b, h2, h3, by omega, e', ?_, h6⟩
        rw [show j - i = (j - (i + 1)) + 1 by omega]; simpa using h5

theorem run_findKey_pr {Q : Nat × Nat → Bool → Prop} (x : Nat × Nat) (es : List MapEntry) (h : ∀ e ∈ es, ∃ x b, e.key = prV x ∧ e.val = .bool b ∧ Q x b) :
    ∃ r, (∀ w, (Instr.findKey 88 (prV x) es).run Try.prog w = .ok r w) ∧ (r = none ∨ ∃ j b, r = some (j, .bool b) ∧ Q x b ∧ ∃ e, es[j]? = some e ∧ e.key = prV x) := by
  have u0 := Try.underlying88
  cases es with
  | nil => exact ⟨none, fun w => by simp [Instr.findKey, run_underlying u0, Instr.findNow], .inl rfl⟩
  | cons e es =>
    obtain ⟨r, h1, h2⟩ := run_findAsking_pr x (e :: es) 0 h
    refine ⟨r, fun w => ?_, ?_⟩
    · have hs : Instr.findNow (.struct (Try.prog.fieldsOf 88)) (prV x) (e :: es) 0 = none := by
        simp [Instr.findNow, Instr.sameNow]
      have hU : Try.prog.underlying 88 = some (.struct (Try.prog.fieldsOf 88)) := by kernel_rfl
      unfold Instr.findKey
      simp only [Sem.run_bind, run_underlying hU, Result.andThen_ok, hs]
      exact h1 w
    · rcases h2 with h2 | ⟨j, b, h2, h3, _, e', h5, h6⟩
      · exact .inl h2
      · exact .inr ⟨j, b, h2, h3, e', by simpa using h5, h6⟩

set_option maxRecDepth 20000 in
theorem stays_pr (x : Nat × Nat) (w : World) : (Instr.keyThatStays (prV x) (prV x)).run Try.prog w = .ok (prV x) w := by
  have h : Instr.sameBits 10000 (prV x) (prV x) = true := by
    rw [show (10000 : Nat) = 9998 + 1 + 1 from rfl]
    generalize (9998 : Nat) = n
    simp [Instr.sameBits, prV]
  unfold Instr.keyThatStays
  rw [if_pos h]; rfl

section
variable {w : World} {a : Act} {K : Act → World → Prop} {Q : Exit → Act → World → Prop} {o : Oper} {R : Nat × Nat → Bool → Prop}
set_option maxRecDepth 20000 in
theorem wp_lookup_pr {r : Nat} (s : Nat × Nat) (hM : PrMap w r R) : ∃ b f, (f = true → R s b) ∧ ∀ {w' : World} {a : Act} {K : Act → World → Prop} {Q : Exit → Act → World → Prop} {o : Oper} {x y : Operand}, w'.heap[r]? = w.heap[r]? →
    o.op = .lookup 73 x y true → a.eval x = .map (some r) → a.eval y = prV s → K (a.put o.dst (.tuple #[.bool b, .bool f])) w' → o.wp Try.prog a w' K Q := by
  obtain ⟨es, clock, h1, h2⟩ := hM
  obtain ⟨r0, h4, h5⟩ := run_findKey_pr s es.toList h2
  have um := Try.underlying73
  have hi : (Try.prog.info? 4).map (fun i => i.zero) = some (some (.bool false)) := by kernel_rfl
  have fin : ∀ b f, ((match r0 with | some (_, v) => v | none => .bool false) = .bool b ∧ r0.isSome = f) → ∀ {w' : World} {a : Act} {K : Act → World → Prop} {Q : Exit → Act → World → Prop} {o : Oper} {x y : Operand}, w'.heap[r]? = w.heap[r]? →
    o.op = .lookup 73 x y true → a.eval x = .map (some r) → a.eval y = prV s → K (a.put o.dst (.tuple #[.bool b, .bool f])) w' → o.wp Try.prog a w' K Q := by
    intro b f hbf w' a K Q o x y hw ho hx hy this
    have hg : (getObj r).run Try.prog w' = .ok (.map es clock) w' := by rw [run_getObj_map _ _ _ _ _ (hw.trans h1)]
    unfold Oper.wp execOp
    simp only [ho, hx, hy, Instr.lookup, Sem.run_bind, Sem.run_pure, run_underlying um, Result.andThen_ok, hg, run_checkKey_pr, h4]
    rcases h5 with rfl | ⟨j, b', rfl, hb, _⟩
    · obtain ⟨e1, e2⟩ := hbf
      simp only [Value.bool.injEq, Option.isSome_none] at e1 e2
      subst e1 e2
      go_simp
      exact this
    · obtain ⟨e1, e2⟩ := hbf
      simp only [Value.bool.injEq, Option.isSome_some] at e1 e2
      subst e1 e2
      simp
      exact this
  rcases h5 with rfl | ⟨j, b, rfl, hb, _⟩
  · exact ⟨false, false, (fun e => by cases e), fin false false ⟨rfl, rfl⟩⟩
  · exact ⟨b, true, (fun _ => hb), fin b true ⟨rfl, rfl⟩⟩

theorem wp_mapUpdate_pr {x y z : Operand} {r : Nat} {s : Nat × Nat} {b : Bool} (ho : o.op = .mapUpdate 73 x y z) (hx : a.eval x = .map (some r)) (hy : a.eval y = prV s) (hz : a.eval z = .bool b) (hM : PrMap w r R) (hs : R s b)
    (hK : ∀ w', PrMap w' r R → Upd r w w' → K (a.put o.dst undef) w') : o.wp Try.prog a w K Q := by
  obtain ⟨es, clock, h1, h2⟩ := hM
  obtain ⟨r0, h4, h5⟩ := run_findKey_pr s es.toList h2
  have um := Try.underlying73
  have hg := run_getObj_map Try.prog w r es clock h1
  have hlt : r < w.heap.size := (Array.getElem?_eq_some_iff.1 h1).1
  have hset : ∀ o', (setObj r o').run Try.prog w = .ok () { w with heap := w.heap.setIfInBounds r o' } := by
    intro o'; simp [setObj, Sem.run, h1]
  have fin : ∀ (es' : Array MapEntry) (c' : Nat), (∀ e ∈ es'.toList, ∃ x b, e.key = prV x ∧ e.val = .bool b ∧ R x b) → K (a.put o.dst undef) { w with heap := w.heap.setIfInBounds r (.map es' c') } := fun es' c' h =>
    hK _ ⟨es', c', by simp [hlt], h⟩ ⟨rfl, rfl, rfl, by simp, fun k hk => by simp [Ne.symm hk]⟩
  unfold Oper.wp execOp
  simp only [ho, hx, hy, hz, Instr.mapUpdate, Sem.run_bind, Sem.run_pure, run_underlying um, Result.andThen_ok, hg, run_checkKey_pr, h4]
  rcases h5 with rfl | ⟨j, b', rfl, hb, e, he, hk⟩
  · simp only [hset, Result.andThen_ok]
    refine fin _ _ (fun e he => ?_)
    simp only [Array.toList_push, List.mem_append, List.mem_singleton] at he
    rcases he with he | rfl
    · exact h2 e he
    · exact ⟨s, b, rfl, rfl, hs⟩
  · have hj : es[j]? = some e := by simpa using he
    simp only [hj, Option.map_some, Option.getD_some, hk, Sem.run_bind, stays_pr, Result.andThen_ok, hset]
    refine fin _ _ (fun e' he' => ?_)
    obtain ⟨i, hi, rfl⟩ := List.getElem_of_mem he'
    simp only [Array.getElem_toList, Array.getElem_modify]
    split
    · exact ⟨s, b, rfl, rfl, hs⟩
    · exact h2 _ (by simp)

/-- A new map. -/
def NewPrMap (R : Nat × Nat → Bool → Prop) (w : World) (v : Value) (w' : World) : Prop := ∃ g, v = .map (some g) ∧ w.heap.size = g ∧ PrMap w' g R ∧ Below w.heap.size w w' ∧ w'.heap.size = g + 1
theorem wp_makeMap_pr (ho : o.op = .makeMap 73 none) (hK : ∀ v w', NewPrMap R w v w' → K (a.put o.dst v) w') : o.wp Try.prog a w K Q := by
  have := hK (.map (some w.heap.size)) (w.alloc (.map #[] 0)) ⟨_, rfl, rfl, ⟨#[], 0, heap_alloc_new w _, fun e he => by simp at he⟩, balloc _ _, by simp⟩
  unfold Oper.wp execOp
  simp only [ho]
  go_simp
  exact this
end

section
variable {w w' : World} {r g : Nat} {R : Nat × Nat → Bool → Prop} {S : Nat → Prop}
theorem PrMap.lt (h : PrMap w r R) : r < w.heap.size := by
  obtain ⟨es, clock, h1, _⟩ := h
  exact (Array.getElem?_eq_some_iff.1 h1).1
theorem PrMap.chg (h : PrMap w r R) (hb : Chg S w w') (hr : ¬ S r) : PrMap w' r R := by
  obtain ⟨es, clock, h1, h2⟩ := h
  exact ⟨es, clock, (hb.block r (Array.getElem?_eq_some_iff.1 h1).1 hr).trans h1, h2⟩
theorem PrMap.below (h : PrMap w r R) (hb : Below w.heap.size w w') : PrMap w' r R := h.chg (S := fun _ => False) (.ofBelow hb) id
theorem PrMap.upd (h : PrMap w r R) (hu : Upd g w w') (hne : r ≠ g) : PrMap w' r R := h.chg (S := fun k => k = g) (.ofUpd hu rfl) hne
/-- What lies in cells lies in another block. -/
theorem PrMap.ne (h : PrMap w r R) {b o : Nat} {v : Value} (hc : w.cell? ⟨b, o, none⟩ = some v) : b ≠ r := by
  rintro rfl
  obtain ⟨es, clock, h1, _⟩ := h
  unfold World.cell? at hc
  simp only [h1] at hc
  cases hc
end

end Go.Proofs.Ytlkiabgpnboicaa
