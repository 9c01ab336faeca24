/- Maps keyed by symbols. -/
import Derived.Test.YtbnjppmmhhjjbaaDoorSigRows
import Derived.Test.YtbnjppmmhhjjbaaDoorSigWalk2
namespace Go.Proofs.YtbnjppmmhhjjbaaDoor
open Go.RowKit Go

theorem run_equal_sy (x y : Sy) (w : World) : (Op.equal 26 x.val y.val).run Tryd.prog w = .ok (decide (x = y)) w := by
  have h := eqSy x.name y.name x.ar y.ar x.pred y.pred w
  have e : (binOp .eql 26 x.val y.val).run Tryd.prog w = ((Op.equal 26 x.val y.val).run Tryd.prog w).andThen fun b w' => .ok (.bool b) w' := by
    simp [binOp, Sy.val]
  unfold Sy.val at *
  rw [e] at h
  cases hr : (Op.equal 26 (.agg #[.string x.name, .int .i64 x.ar, .bool x.pred]) (.agg #[.string y.name, .int .i64 y.ar, .bool y.pred])).run Tryd.prog w with
  | ok b w' =>
    rw [hr] at h
    simp only [Result.andThen_ok, Result.ok.injEq, Value.bool.injEq] at h ⊢
    exact h
  | halt z w' => rw [hr] at h; simp [Result.andThen] at h

set_option maxRecDepth 20000 in
theorem run_checkKey_sy (b : Bool) (x : Sy) (w : World) : (Instr.checkKey b 10000 26 x.val).run Tryd.prog w = .ok () w := by
  have u0 := Tryd.underlying26
  have u1 := Tryd.underlying9
  have u2 := Tryd.underlying3
  have u3 := Tryd.underlying4
  rw [show (10000 : Nat) = 9998 + 1 + 1 from rfl]
  generalize (9998 : Nat) = n
  unfold Sy.val
  simp [Instr.checkKey, run_underlying u0, run_underlying u1, run_underlying u2, run_underlying u3, go_sem]

theorem run_getObj_map (P : Program) (w : World) (r : Nat) (es : Array MapEntry) (clock : Nat) (h : w.heap[r]? = some (.map es clock)) : (getObj r).run P w = .ok (.map es clock) w := by
  simp [getObj, Sem.run, h]
/-- A map's keys are these symbols. -/
def MapSy (w : World) (r : Nat) (L : List Sy) : Prop := ∃ es clock, w.heap[r]? = some (.map es clock) ∧ es.toList.map (fun e => e.key) = L.map Sy.val ∧ ∀ e ∈ es.toList, ∃ n, e.val = .int .i64 n

theorem run_findAsking_sy (x : Sy) (w : World) : ∀ (es : List MapEntry) (L : List Sy) (i : Nat), es.map (fun e => e.key) = L.map Sy.val → (∀ e ∈ es, ∃ n, e.val = .int .i64 n) →
    ∃ r, (Instr.findAsking 26 x.val es i).run Tryd.prog w = .ok r w ∧ (x ∉ L → r = none) ∧ (x ∈ L → ∃ j n, r = some (j, .int .i64 n) ∧ i ≤ j ∧ ∃ e, es[j - i]? = some e ∧ e.key = x.val)
  | [], L, i, h, _ => by
    have : L = [] := by simpa using h.symm
    subst this
    exact ⟨none, by simp [Instr.findAsking], fun _ => rfl, fun h => by simp at h⟩
  | e :: es, [], i, h, _ => by simp at h
  | e :: es, y :: L, i, h, hv => by
    simp only [List.map_cons, List.cons.injEq] at h
    obtain ⟨hk, h⟩ := h
    unfold Instr.findAsking
    simp only [Sem.run_bind, hk, run_equal_sy, Result.andThen_ok]
    by_cases hxy : x = y
    · subst hxy
      obtain ⟨n, hn⟩ := hv e (by simp)
      refine ⟨some (i, e.val), by simp, fun h => by simp at h, fun _ => ⟨i, n, by rw [hn], Nat.le_refl _, e, by simp, hk⟩⟩
    · obtain ⟨r, h1, h2, h3⟩ := run_findAsking_sy x w es L (i + 1) h (fun e he => hv e (by simp [he]))
      refine ⟨r, by simpa [hxy] using h1, fun hx => h2 (fun hx' => hx (by simp [hx'])), fun hx => ?_⟩
      obtain ⟨j, n, h4, h5, e', h6, h7⟩ := h3 (by simpa [hxy] using hx)
      refine ⟨j, n, h4, by omega, e', ?_, h7⟩
      rw [show j - i = (j - (i + 1)) + 1 by omega]; simpa using h6

theorem run_findKey_sy (x : Sy) (w : World) (es : List MapEntry) (L : List Sy) (h : es.map (fun e => e.key) = L.map Sy.val) (hv : ∀ e ∈ es, ∃ n, e.val = .int .i64 n) :
    ∃ r, (Instr.findKey 26 x.val es).run Tryd.prog w = .ok r w ∧ (x ∉ L → r = none) ∧ (x ∈ L → ∃ j n, r = some (j, .int .i64 n) ∧ ∃ e, es[j]? = some e ∧ e.key = x.val) := by
  have u0 := Tryd.underlying26
  cases es with
  | nil =>
    have : L = [] := by simpa using h.symm
    subst this
    exact ⟨none, by simp [Instr.findKey, run_underlying u0, Instr.findNow], fun _ => rfl, fun h => by simp at h⟩
  | cons e es =>
    obtain ⟨r, h1, h2, h3⟩ := run_findAsking_sy x w (e :: es) L 0 h hv
    refine ⟨r, ?_, h2, fun hx => ?_⟩
    · have hs : Instr.findNow (.struct (Tryd.prog.fieldsOf 26)) x.val (e :: es) 0 = none := by
        simp [Instr.findNow, Instr.sameNow]
      have hU : Tryd.prog.underlying 26 = some (.struct (Tryd.prog.fieldsOf 26)) := by kernel_rfl
      unfold Instr.findKey
      simp only [Sem.run_bind, run_underlying hU, Result.andThen_ok, hs]
      exact h1
    · obtain ⟨j, n, h4, _, e', h5, h6⟩ := h3 hx
      exact ⟨j, n, h4, e', by simpa using h5, h6⟩

section
variable {w : World} {a : Act} {K : Act → World → Prop} {Q : Exit → Act → World → Prop} {o : Oper}
theorem wp_lookup_sy {x y : Operand} {r : Nat} {L : List Sy} {s : Sy} (ho : o.op = .lookup 54 x y true) (hx : a.eval x = .map (some r)) (hy : a.eval y = s.val) (hM : MapSy w r L)
    (hK : ∀ n, K (a.put o.dst (.tuple #[.int .i64 n, .bool (decide (s ∈ L))])) w) : o.wp Tryd.prog a w K Q := by
  obtain ⟨es, clock, h1, h2, h3⟩ := hM
  obtain ⟨r0, h4, h5, h6⟩ := run_findKey_sy s w es.toList L h2 h3
  have um := Tryd.underlying54
  have hg : (getObj r).run Tryd.prog w = .ok (.map es clock) w := by rw [run_getObj_map _ _ _ _ _ h1]
  have hi : (Tryd.prog.info? 3).map (fun i => i.zero) = some (some (.int .i64 0)) := by kernel_rfl
  unfold Oper.wp execOp
  simp only [ho, hx, hy, Instr.lookup, Sem.run_bind, Sem.run_pure, run_underlying um, Result.andThen_ok, hg, run_checkKey_sy, h4]
  by_cases hs : s ∈ L
  · obtain ⟨j, n, rfl, _⟩ := h6 hs
    have := hK n
    simp only [hs, decide_true] at this
    simp
    exact this
  · rw [h5 hs]
    have := hK 0
    simp only [hs, decide_false] at this
    go_simp
    exact this

theorem wp_mapUpdate_sy {x y z : Operand} {r : Nat} {L : List Sy} {s : Sy} {n : Int} (ho : o.op = .mapUpdate 54 x y z) (hx : a.eval x = .map (some r)) (hy : a.eval y = s.val) (hz : a.eval z = .int .i64 n) (hM : MapSy w r L) (hs : s ∉ L)
    (hK : ∀ v w', MapSy w' r (L ++ [s]) → Upd r w w' → K (a.put o.dst v) w') : o.wp Tryd.prog a w K Q := by
  obtain ⟨es, clock, h1, h2, h3⟩ := hM
  obtain ⟨r0, h4, h5, h6⟩ := run_findKey_sy s w es.toList L h2 h3
  have um := Tryd.underlying54
  have hg := run_getObj_map Tryd.prog w r es clock h1
  obtain rfl := h5 hs
  have hset : (setObj r (.map (es.push { key := s.val, val := .int .i64 n, born := clock }) (clock + 1))).run Tryd.prog w = .ok () { w with heap := w.heap.setIfInBounds r (.map (es.push { key := s.val, val := .int .i64 n, born := clock }) (clock + 1)) } := by
    simp [setObj, Sem.run, h1]
  have hlt : r < w.heap.size := (Array.getElem?_eq_some_iff.1 h1).1
  have := hK undef { w with heap := w.heap.setIfInBounds r (.map (es.push { key := s.val, val := .int .i64 n, born := clock }) (clock + 1)) } ⟨es.push { key := s.val, val := .int .i64 n, born := clock }, clock + 1, by simp [hlt], by simp [h2], fun e he => by
    simp only [Array.toList_push, List.mem_append, List.mem_singleton] at he
    rcases he with he | rfl
    · exact h3 e he
    · exact ⟨n, rfl⟩⟩ ⟨rfl, rfl, rfl, by simp, fun k hk => by simp [Ne.symm hk]⟩
  unfold Oper.wp execOp
  simp only [ho, hx, hy, hz, Instr.mapUpdate, Sem.run_bind, Sem.run_pure, run_underlying um, Result.andThen_ok, hg, run_checkKey_sy, h4, hset]
  exact this

/-- A new map. -/
def NewMapSy (w : World) (v : Value) (w' : World) : Prop := ∃ g, v = .map (some g) ∧ w.heap.size = g ∧ MapSy w' g [] ∧ Below w.heap.size w w' ∧ w'.heap.size = g + 1
theorem wp_makeMap_sy (ho : o.op = .makeMap 54 none) (hK : ∀ v w', NewMapSy w v w' → K (a.put o.dst v) w') : o.wp Tryd.prog a w K Q := by
  have := hK (.map (some w.heap.size)) (w.alloc (.map #[] 0)) ⟨_, rfl, rfl, ⟨#[], 0, heap_alloc_new w _, rfl, fun e he => by simp at he⟩, balloc _ _, by simp⟩
  unfold Oper.wp execOp
  simp only [ho]
  go_simp
  exact this
theorem wp_eql_sy {x y : Operand} {s t : Sy} (ho : o.op = .binOp .eql 26 x y 26) (hx : a.eval x = s.val) (hy : a.eval y = t.val) (hK : K (a.put o.dst (.bool (decide (s = t)))) w) : o.wp Tryd.prog a w K Q := by
  have h := eqSy s.name t.name s.ar t.ar s.pred t.pred w
  have hg := guardSy .eql x y #[.string s.name, .int .i64 s.ar, .bool s.pred] #[.string t.name, .int .i64 t.ar, .bool t.pred] w
  unfold Sy.val at *
  unfold Oper.wp execOp
  simp only [ho, hx, hy, Sem.run_bind, Sem.run_pure, hg, h, Result.andThen_ok]
  exact hK
theorem wp_neq_sy {x y : Operand} {s t : Sy} (ho : o.op = .binOp .neq 26 x y 26) (hx : a.eval x = s.val) (hy : a.eval y = t.val) (hK : K (a.put o.dst (.bool (!decide (s = t)))) w) : o.wp Tryd.prog a w K Q := by
  have h := neqSy s.name t.name s.ar t.ar s.pred t.pred w
  have hg := guardSy .neq x y #[.string s.name, .int .i64 s.ar, .bool s.pred] #[.string t.name, .int .i64 t.ar, .bool t.pred] w
  unfold Sy.val at *
  unfold Oper.wp execOp
  simp only [ho, hx, hy, Sem.run_bind, Sem.run_pure, hg, h, Result.andThen_ok]
  exact hK
end

theorem MapSy.lt {w : World} {r : Nat} {L : List Sy} (h : MapSy w r L) : r < w.heap.size := by
  obtain ⟨es, clock, h1, _⟩ := h
  exact (Array.getElem?_eq_some_iff.1 h1).1
theorem MapSy.chg {w w' : World} {r : Nat} {L : List Sy} {S : Nat → Prop} (h : MapSy w r L) (hb : Chg S w w') (hr : ¬ S r) : MapSy w' r L := by
  obtain ⟨es, clock, h1, h2, h3⟩ := h
  exact ⟨es, clock, (hb.block r (Array.getElem?_eq_some_iff.1 h1).1 hr).trans h1, h2, h3⟩
theorem MapSy.below {w w' : World} {r : Nat} {L : List Sy} (h : MapSy w r L) (hb : Below w.heap.size w w') : MapSy w' r L := by
  obtain ⟨es, clock, h1, h2, h3⟩ := h
  exact ⟨es, clock, (hb.block r (Array.getElem?_eq_some_iff.1 h1).1).trans h1, h2, h3⟩
theorem MapSy.upd {w w' : World} {r g : Nat} {L : List Sy} (h : MapSy w r L) (hu : Upd g w w') (hne : r ≠ g) : MapSy w' r L := by
  obtain ⟨es, clock, h1, h2, h3⟩ := h
  exact ⟨es, clock, (hu.block r hne).trans h1, h2, h3⟩

end Go.Proofs.YtbnjppmmhhjjbaaDoor
