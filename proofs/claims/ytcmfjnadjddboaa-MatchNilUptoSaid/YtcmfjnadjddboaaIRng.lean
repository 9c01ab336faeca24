/- Ranges over maps from integers: what is handed out, in whatever order. -/
import Derived.Test.YtcmfjnadjddboaaIMap
namespace Go.Proofs.Ytcmfjnadjddboaa
open Go.RowKit Go

/-- What a range has handed out, and what it has not. -/
structure ItE (es : Array MapEntry) (l : List (Int × Value)) (seen : Array Nat) (done rest : List (Int × Value)) : Prop where
  perm : (done ++ rest).Perm l
  left : (leftOf es seen).toList.map (fun e => (e.key, e.val)) = rest.map (fun x => (Value.int .i64 x.1, x.2))
/-- What was handed out last. -/
def CurE (es : Array MapEntry) (seen : Array Nat) (x : Int × Value) : Prop := ∃ e ∈ es.toList, ∃ s : Array Nat, seen = s.push e.born ∧ e.key = .int .i64 x.1 ∧ e.val = x.2
section
variable {P : Program} {w : World} {t k e : TypeId} {kd : IntKind} {r it : Nat} {es : Array MapEntry} {clock : Nat} {l done rest : List (Int × Value)} {seen : Array Nat}
theorem leftOf_nil : leftOf es #[] = es := by
  unfold leftOf
  rw [Array.filter_eq_self]
  intro e _; simp
theorem ItE.start (h : ImE es clock l) : ItE es l #[] [] l := ⟨List.Perm.refl _, by rw [leftOf_nil]; exact h.kv⟩
theorem run_next_im (ty : TypeId) (hM : ObjAt w r (.map es clock)) (hI : ObjAt w it (.mapIter (some r) clock seen clock)) (hE : ImE es clock l) :
    ((leftOf es seen).size = 0 ∧ (Instr.next (.pointer (some ⟨it, 0, none⟩)) false ty).run P w = .ok (.tuple #[.bool false]) w) ∨
    ∃ (j : Nat) (hj : j < (leftOf es seen).size) (w' : World), Upd it w w' ∧ ObjAt w' it (.mapIter (some r) clock (seen.push (leftOf es seen)[j].born) clock) ∧
      (Instr.next (.pointer (some ⟨it, 0, none⟩)) false ty).run P w = .ok (.tuple #[.bool true, (leftOf es seen)[j].key, (leftOf es seen)[j].val]) w' := by
  have hb : w.heap[r]? = some (.map es clock) := hM
  have hi : w.heap[it]? = some (.mapIter (some r) clock seen clock) := hI
  simp only [Instr.next, getObj, Sem.run_bind, Sem.run, hi, hb, Result.andThen, next_test_false seen es clock clock hE.lt (Nat.le_refl _), Bool.false_eq_true, if_false]
  have hmem : ∀ x ∈ (leftOf es seen).toList, x.born < clock := fun x hx => hE.lt x (mem_left hx).1
  have e0 : (Array.filter (fun e => !seen.contains e.born) es) = leftOf es seen := rfl
  rw [e0]
  generalize leftOf es seen = L at hmem ⊢
  have e1 : L.filter (fun x => decide (x.born < clock)) = L := Array.filter_eq_self.2 (fun x hx => by simpa using hmem x (by simpa using hx))
  have e2 : L.filter (fun x => decide (x.born ≥ clock)) = #[] := by
    rw [Array.filter_eq_empty_iff]
    intro x hx
    have := hmem x (by simpa using hx)
    simp; omega
  simp only [e1, e2, Array.append_empty]
  by_cases h0 : L.size = 0
  · left
    have : L = #[] := Array.eq_empty_of_size_eq_zero h0
    subst this
    refine ⟨rfl, ?_⟩
    simp [choose, Sem.run, Question.forced]
  · right
    have hne : L.isEmpty = false := by simp [Array.isEmpty, h0]
    simp only [hne, Bool.false_eq_true, if_false, Array.empty_append, Array.size_map]
    have hch : ∃ (j : Nat) (w1 : World), j < L.size ∧ w1.os = w.os ∧ w1.tape = w.tape ∧ w1.output = w.output ∧ w1.heap = w.heap ∧ (choose (Question.mapNext L.size)).run P w = .ok j w1 := by
      by_cases hf : L.size ≤ 1
      · exact ⟨0, w, by omega, rfl, rfl, rfl, rfl, by simp [choose, Sem.run, Question.forced, hf]⟩
      · exact ⟨_, w.drew, Nat.mod_lt _ (by omega), rfl, rfl, rfl, rfl, by
          simp only [choose, Sem.run, Question.forced, decide_eq_true_eq, hf, if_false, Question.cut]
          rfl⟩
    obtain ⟨j, w1, hj, h1, h2, h3, h4, hrun⟩ := hch
    have hi1 : w1.heap[it]? = some (.mapIter (some r) clock seen clock) := by rw [h4]; exact hi
    have hset : ∀ o' : Obj, (setObj it o').run P w1 = .ok () { w1 with heap := w1.heap.setIfInBounds it o' } := fun o' => by simp [setObj, Sem.run, hi1]
    have hlt : it < w1.heap.size := (Array.getElem?_eq_some_iff.1 hi1).1
    refine ⟨j, hj, { w1 with heap := w1.heap.setIfInBounds it (.mapIter (some r) clock (seen.push L[j].born) clock) }, ⟨h1, h2, h3, by simp [h4], fun k hk => by simp [Ne.symm hk, h4]⟩, by simp [ObjAt, hlt], ?_⟩
    simp only [hrun, Array.getElem?_map, Array.getElem?_eq_getElem hj, Option.map_some, Sem.run_bind, hset, Result.andThen]
    rfl
theorem filter_drop_one {α : Type} [DecidableEq Nat] (f : α → Nat) : ∀ (l : List α) (j : Nat) (hj : j < l.length), (l.map f).Nodup → l.filter (fun x => !(f x == f l[j])) = l.eraseIdx j
  | x :: l, 0, _, h => by
    rw [List.map_cons, List.nodup_cons] at h
    have : l.filter (fun y => !(f y == f x)) = l := by
      rw [List.filter_eq_self]
      intro y hy
      have : f y ≠ f x := fun e => h.1 (e ▸ List.mem_map_of_mem hy)
      simpa using this
    simp [this]
  | x :: l, j + 1, hj, h => by
    rw [List.map_cons, List.nodup_cons] at h
    have hj' : j < l.length := by simpa using hj
    have hx : f x ≠ f l[j] := fun e => h.1 (e ▸ List.mem_map_of_mem (List.getElem_mem hj'))
    have := filter_drop_one f l j hj' h.2
    simp [hx, this]
theorem leftOf_push (hE : ImE es clock l) (j : Nat) (hj : j < (leftOf es seen).size) : (leftOf es (seen.push (leftOf es seen)[j].born)).toList = (leftOf es seen).toList.eraseIdx j := by
  have hn : ((leftOf es seen).toList.map (·.born)).Nodup := by
    unfold leftOf
    rw [Array.toList_filter]
    exact (List.Sublist.map _ (List.filter_sublist)).nodup hE.nd
  rw [← filter_drop_one (·.born) (leftOf es seen).toList j (by simpa using hj) hn]
  have : leftOf es (seen.push (leftOf es seen)[j].born) = (leftOf es seen).filter (fun x => !(x.born == (leftOf es seen)[j].born)) := by
    generalize (leftOf es seen)[j].born = b
    unfold leftOf
    rw [Array.filter_filter]
    congr 1
    funext x
    rw [contains_push]
    cases seen.contains x.born <;> cases (x.born == b) <;> rfl
  rw [this, Array.toList_filter]
  simp
theorem perm_erase {α : Type} : ∀ (l : List α) (j : Nat) (hj : j < l.length), l.Perm (l[j] :: l.eraseIdx j)
  | x :: l, 0, _ => by simp
  | x :: l, j + 1, hj => by
    have := perm_erase l j (by simpa using hj)
    simp only [List.getElem_cons_succ, List.eraseIdx_cons_succ]
    exact (this.cons x).trans (List.Perm.swap _ _ _)
variable {a : Act} {K : Act → World → Prop} {Q : Exit → Act → World → Prop} {o : Oper}
theorem wp_next_im {x : Operand} (hM : ObjAt w r (.map es clock)) (hI : ObjAt w it (.mapIter (some r) clock seen clock)) (hE : ImE es clock l) (hR : ItE es l seen done rest)
    (ho : o.op = .next x false) (hx : a.eval x = .pointer (some ⟨it, 0, none⟩))
    (h0 : rest = [] → K (a.put o.dst (.tuple #[.bool false])) w)
    (h1 : ∀ y rest' seen' w', rest.Perm (y :: rest') → rest'.length < rest.length → ItE es l seen' (done ++ [y]) rest' → CurE es seen' y → ObjAt w' it (.mapIter (some r) clock seen' clock) → Upd it w w' → K (a.put o.dst (.tuple #[.bool true, .int .i64 y.1, y.2])) w') : o.wp P a w K Q := by
  have hlen : (leftOf es seen).size = rest.length := by
    have := congrArg List.length hR.left
    simpa using this
  unfold Oper.wp execOp
  simp only [ho, hx]
  rcases run_next_im (P := P) o.type hM hI hE with ⟨q0, q1⟩ | ⟨j, hj, w', q1, q2, q3⟩
  · simp only [Sem.run_bind, q1, Result.andThen_ok]
    exact h0 (List.length_eq_zero_iff.1 (by omega))
  · simp only [Sem.run_bind, q3, Result.andThen_ok]
    have hjr : j < rest.length := by omega
    have hel := congrArg (fun z => z[j]?) hR.left
    simp only [List.getElem?_map] at hel
    rw [List.getElem?_eq_getElem (by simpa using hj), List.getElem?_eq_getElem hjr] at hel
    simp only [Option.map_some, Option.some.injEq, Prod.mk.injEq, Array.getElem_toList] at hel
    rw [hel.1, hel.2]
    have hp := perm_erase rest j hjr
    refine h1 rest[j] (rest.eraseIdx j) _ w' hp (by rw [List.length_eraseIdx_of_lt hjr]; omega) ⟨?_, ?_⟩ ⟨(leftOf es seen)[j], (mem_left (seen := seen) (by simp)).1, seen, rfl, hel.1, hel.2⟩ q2 q1
    · rw [List.append_assoc]
      exact (List.Perm.append_left done hp.symm).trans hR.perm
    · rw [leftOf_push hE j hj, map_eraseIdx', hR.left, map_eraseIdx']
theorem wp_entry_im {x : Operand} {y : Int × Value} (hM : ObjAt w r (.map es clock)) (hI : ObjAt w it (.mapIter (some r) clock seen clock)) (hE : ImE es clock l) (hC : CurE es seen y)
    (ho : o.op = .entry x) (hx : a.eval x = .pointer (some ⟨it, 0, none⟩)) (hK : K (a.put o.dst (.tuple #[.int .i64 y.1, y.2])) w) : o.wp P a w K Q := by
  have hb : w.heap[r]? = some (.map es clock) := hM
  have hi : w.heap[it]? = some (.mapIter (some r) clock seen clock) := hI
  obtain ⟨e, he, s, rfl, h1, h2⟩ := hC
  have hf : es.find? (·.born == e.born) = some e := by rw [← Array.find?_toList]; exact find_born e es.toList hE.nd he
  have run : (Instr.entry (.pointer (some ⟨it, 0, none⟩))).run P w = .ok (.tuple #[e.key, e.val]) w := by
    simp only [Instr.entry, getObj, Sem.run_bind, Sem.run, hi, hb, Result.andThen, Array.back?_push, bne_self_eq_false, Bool.false_eq_true, if_false, hf]
    rfl
  unfold Oper.wp execOp
  simp only [ho, hx]
  simp only [Sem.run_bind, run, Result.andThen_ok, h1, h2]
  exact hK
/-- A new range. -/
def NewIt (w : World) (r clock : Nat) (v : Value) (w' : World) : Prop := ∃ g, v = .pointer (some ⟨g, 0, none⟩) ∧ w.heap.size = g ∧ ObjAt w' g (.mapIter (some r) clock #[] clock) ∧ Below w.heap.size w w' ∧ w'.heap.size = g + 1
theorem wp_range_im {x : Operand} (ht : P.underlying t = some (.map k e)) (hM : ObjAt w r (.map es clock)) (ho : o.op = .range t x) (hx : a.eval x = .map (some r)) (hK : ∀ v w', NewIt w r clock v w' → K (a.put o.dst v) w') : o.wp P a w K Q := by
  have := hK (.pointer (some ⟨w.heap.size, 0, none⟩)) (w.alloc (.mapIter (some r) clock #[] clock)) ⟨_, rfl, rfl, heap_alloc_new w _, balloc _ _, by simp⟩
  unfold Oper.wp execOp
  simp only [ho, hx]
  simp only [Sem.run_bind, run_range_map w t k e r es clock ht hM, Result.andThen_ok]
  exact this
end

end Go.Proofs.Ytcmfjnadjddboaa
