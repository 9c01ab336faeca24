/- Maps from integers: entries in the order in which they were laid, whatever the values are; ranges over them. -/
import Derived.Test.YtjhkoiggeepajaaEng
import Derived.Test.YtjhkoiggeepajaaGrowR
import Derived.Laws.IdiomRangeMap
namespace Go.Proofs.Ytjhkoiggeepajaa
open Go.RowKit Go
set_option linter.unusedVariables false
set_option linter.unusedSimpArgs false

/-- The entries of a map are the list. -/
structure ImE (es : Array MapEntry) (clock : Nat) (l : List (Int × Value)) : Prop where
  kv : es.toList.map (fun e => (e.key, e.val)) = l.map (fun x => (Value.int .i64 x.1, x.2))
  nd : (es.toList.map (·.born)).Nodup
  lt : ∀ e ∈ es.toList, e.born < clock
/-- What lies in a block. -/
def ObjAt (w : World) (b : Nat) (o : Obj) : Prop := w.heap[b]? = some o
section
variable {w w' : World} {b g : Nat} {o : Obj}
theorem ObjAt.lt (h : ObjAt w b o) : b < w.heap.size := (Array.getElem?_eq_some_iff.1 h).1
theorem ObjAt.chg {S : Nat → Prop} (h : ObjAt w b o) (hc : Chg S w w') (hb : ¬ S b) : ObjAt w' b o := (hc.block b h.lt hb).trans h
theorem ObjAt.below (h : ObjAt w b o) (hb : Below w.heap.size w w') : ObjAt w' b o := (hb.block b h.lt).trans h
theorem ObjAt.upd (h : ObjAt w b o) (hu : Upd g w w') (hne : b ≠ g) : ObjAt w' b o := (hu.block b hne).trans h
theorem ObjAt.neBlk {t : TypeId} {cs : Array Value} {es : Array MapEntry} {clock : Nat} (h : ObjAt w b (.map es clock)) (hB : Blk w g t cs) : g ≠ b := by
  rintro rfl; unfold ObjAt at h; unfold Blk at hB; rw [h] at hB; cases hB
end
theorem ImE.nil : ImE #[] 0 [] := ⟨rfl, List.Pairwise.nil, fun e h => by simp at h⟩
theorem ImE.size {es : Array MapEntry} {clock : Nat} {l : List (Int × Value)} (h : ImE es clock l) : es.size = l.length := by
  have := congrArg List.length h.kv
  simpa using this
def imFind : List (Int × Value) → Int → Nat → Option (Nat × Value)
  | [], _, _ => none
  | x :: l, k, i => if k = x.1 then some (i, x.2) else imFind l k (i + 1)
def imLook (l : List (Int × Value)) (k : Int) : Option Value := (imFind l k 0).map (·.2)
def imDel (l : List (Int × Value)) (k : Int) : List (Int × Value) := match imFind l k 0 with | some (i, _) => l.eraseIdx i | none => l
theorem imFind_none : ∀ {l : List (Int × Value)} {k : Int} {i : Nat}, imFind l k i = none ↔ ∀ x ∈ l, x.1 ≠ k
  | [], k, i => by simp [imFind]
  | x :: l, k, i => by
    rw [imFind]
    split
    · rename_i h; subst h; simp
    · rename_i h; rw [imFind_none]; simp; exact fun _ e => h e.symm
theorem imFind_shift : ∀ (l : List (Int × Value)) (k : Int) (i : Nat), imFind l k (i + 1) = (imFind l k i).map (fun x => (x.1 + 1, x.2))
  | [], k, i => rfl
  | x :: l, k, i => by
    rw [imFind, imFind]
    split
    · rfl
    · exact imFind_shift l k (i + 1)
theorem imFind_at {k : Int} : ∀ {l : List (Int × Value)} {i j : Nat} {v : Value}, imFind l k i = some (j, v) → i ≤ j ∧ l[j - i]? = some (k, v)
  | [], i, j, v, h => by cases h
  | x :: l, i, j, v, h => by
    rw [imFind] at h
    split at h
    · rename_i hk
      obtain ⟨rfl, rfl⟩ : i = j ∧ x.2 = v := by simpa using h
      subst hk
      simp
    · obtain ⟨h1, h2⟩ := imFind_at h
      refine ⟨by omega, ?_⟩
      rw [show j - i = (j - (i + 1)) + 1 by omega]
      simpa using h2
theorem findNow_im {kd : IntKind} (k : Int) : ∀ (es : List MapEntry) (l : List (Int × Value)) (i : Nat), es.map (fun e => (e.key, e.val)) = l.map (fun x => (Value.int .i64 x.1, x.2)) → Instr.findNow (.int kd) (.int .i64 k) es i = some (imFind l k i)
  | [], [], _, _ => rfl
  | [], _ :: _, _, h => by cases h
  | _ :: _, [], _, h => by cases h
  | e :: es, x :: l, i, h => by
    simp only [List.map_cons, List.cons.injEq, Prod.mk.injEq] at h
    obtain ⟨⟨h1, h2⟩, h3⟩ := h
    rw [Instr.findNow, h1, imFind]
    by_cases hk : k = x.1
    · subst hk; simp [Instr.sameNow, h2]
    · have := findNow_im (kd := kd) k es l (i + 1) h3
      have hb : (k == x.1) = false := by simpa using hk
      simp [Instr.sameNow, hk, hb, this]
section
variable {P : Program} {w : World} {t k e : TypeId} {kd : IntKind} {r : Nat} {es : Array MapEntry} {clock : Nat} {l : List (Int × Value)}
theorem run_findKey_im (hk : P.underlying k = some (.int kd)) (h : ImE es clock l) (x : Int) : (Instr.findKey k (.int .i64 x) es.toList).run P w = .ok (imFind l x 0) w := by
  unfold Instr.findKey
  simp [run_underlying hk, findNow_im x es.toList l 0 h.kv]
theorem run_checkKey_im (hk : P.underlying k = some (.int kd)) (b : Bool) (x : Int) : (Instr.checkKey b 10000 k (.int .i64 x)).run P w = .ok () w := by
  rw [show (10000 : Nat) = 9999 + 1 from rfl]
  generalize (9999 : Nat) = n
  simp [Instr.checkKey, run_underlying hk, go_sem]
theorem run_getObj_im (h : ObjAt w r (.map es clock)) : (getObj r).run P w = .ok (.map es clock) w := by
  unfold ObjAt at h; simp [getObj, Sem.run, h]
theorem run_setObj_im (h : ObjAt w r (.map es clock)) (o : Obj) : (setObj r o).run P w = .ok () { w with heap := w.heap.setIfInBounds r o } := by
  unfold ObjAt at h; simp [setObj, Sem.run, h]
theorem upd_setObj (h : ObjAt w r (.map es clock)) (o : Obj) : Upd r w { w with heap := w.heap.setIfInBounds r o } ∧ ObjAt { w with heap := w.heap.setIfInBounds r o } r o :=
  ⟨⟨rfl, rfl, rfl, by simp, fun k hk => by simp [Ne.symm hk]⟩, by have := h.lt; simp [ObjAt, this]⟩
variable {a : Act} {K : Act → World → Prop} {Q : Exit → Act → World → Prop} {o : Oper}
theorem wp_look_im {x y : Operand} {z : Value} {n : Int} (ht : P.underlying t = some (.map k e)) (hk : P.underlying k = some (.int kd)) (hz : (zeroValue e).run P w = .ok z w) (hM : ObjAt w r (.map es clock)) (h : ImE es clock l)
    (ho : o.op = .lookup t x y false) (hx : a.eval x = .map (some r)) (hy : a.eval y = .int .i64 n) (hK : K (a.put o.dst ((imLook l n).getD z)) w) : o.wp P a w K Q := by
  unfold Oper.wp execOp
  simp only [ho, hx, hy, Instr.lookup, Sem.run_bind, Sem.run_pure, run_underlying ht, Result.andThen_ok, run_getObj_im hM, run_checkKey_im hk, run_findKey_im hk h]
  unfold imLook at hK
  cases hf : imFind l n 0 with
  | none => rw [hf] at hK; simp [hz]; exact hK
  | some p => rw [hf] at hK; simp; exact hK
theorem wp_lookok_im {x y : Operand} {z : Value} {n : Int} (ht : P.underlying t = some (.map k e)) (hk : P.underlying k = some (.int kd)) (hz : (zeroValue e).run P w = .ok z w) (hM : ObjAt w r (.map es clock)) (h : ImE es clock l)
    (ho : o.op = .lookup t x y true) (hx : a.eval x = .map (some r)) (hy : a.eval y = .int .i64 n) (hK : K (a.put o.dst (.tuple #[(imLook l n).getD z, .bool (imLook l n).isSome])) w) : o.wp P a w K Q := by
  unfold Oper.wp execOp
  simp only [ho, hx, hy, Instr.lookup, Sem.run_bind, Sem.run_pure, run_underlying ht, Result.andThen_ok, run_getObj_im hM, run_checkKey_im hk, run_findKey_im hk h]
  unfold imLook at hK
  cases hf : imFind l n 0 with
  | none => rw [hf] at hK; simp [hz]; exact hK
  | some p => rw [hf] at hK; simp; exact hK
theorem ImE.push (h : ImE es clock l) (n : Int) (v : Value) : ImE (es.push { key := .int .i64 n, val := v, born := clock }) (clock + 1) (l ++ [(n, v)]) := by
  refine ⟨?_, ?_, fun e he => ?_⟩
  · simp [h.kv]
  · rw [Array.toList_push, List.map_append, List.map_singleton, List.nodup_append]
    refine ⟨h.nd, by simp, fun a ha b hb => ?_⟩
    obtain ⟨e, he, rfl⟩ := List.mem_map.1 ha
    have := h.lt e he
    simp at hb; omega
  · rw [Array.toList_push, List.mem_append] at he
    rcases he with he | he
    · have := h.lt e he; omega
    · simp at he; subst he; simp
/-- A new key is laid. -/
theorem wp_put_im {x y z : Operand} {n : Int} {v : Value} (ht : P.underlying t = some (.map k e)) (hk : P.underlying k = some (.int kd)) (hM : ObjAt w r (.map es clock)) (h : ImE es clock l)
    (ho : o.op = .mapUpdate t x y z) (hx : a.eval x = .map (some r)) (hy : a.eval y = .int .i64 n) (hz : a.eval z = v) (hn : ∀ x ∈ l, x.1 ≠ n)
    (hK : ∀ w' es' clock', ObjAt w' r (.map es' clock') → ImE es' clock' (l ++ [(n, v)]) → Upd r w w' → K (a.put o.dst undef) w') : o.wp P a w K Q := by
  have := hK _ _ _ (upd_setObj hM _).2 (h.push n v) (upd_setObj hM _).1
  unfold Oper.wp execOp
  simp only [ho, hx, hy, hz, Instr.mapUpdate, Sem.run_bind, Sem.run_pure, run_underlying ht, Result.andThen_ok, run_getObj_im hM, run_checkKey_im hk, run_findKey_im hk h, imFind_none.2 hn, run_setObj_im hM]
  exact this
theorem map_eraseIdx' {α β : Type} (f : α → β) : ∀ (l : List α) (i : Nat), (l.eraseIdx i).map f = (l.map f).eraseIdx i
  | [], _ => rfl
  | _ :: _, 0 => rfl
  | x :: l, i + 1 => by rw [List.eraseIdx_cons_succ, List.map_cons, List.map_cons, List.eraseIdx_cons_succ, map_eraseIdx' f l i]
theorem ImE.erase (h : ImE es clock l) (i : Nat) : ImE (es.eraseIdxIfInBounds i) clock (l.eraseIdx i) := by
  have e1 : (es.eraseIdxIfInBounds i).toList = es.toList.eraseIdx i := by
    rw [Array.toList_eraseIdxIfInBounds]
  refine ⟨?_, ?_, fun e he => ?_⟩
  · rw [e1, map_eraseIdx', h.kv, map_eraseIdx']
  · rw [e1, map_eraseIdx']; exact h.nd.sublist (List.eraseIdx_sublist _ _)
  · rw [e1] at he; exact h.lt e ((List.eraseIdx_sublist _ _).subset he)
theorem wp_del_im {x y : Operand} {n : Int} (ht : P.underlying t = some (.map k e)) (hk : P.underlying k = some (.int kd)) (hM : ObjAt w r (.map es clock)) (h : ImE es clock l)
    (ho : o.op = .call { callee := .builtin .delete, args := #[x, y], argTypes := #[t, k] }) (hx : a.eval x = .map (some r)) (hy : a.eval y = .int .i64 n)
    (hK : ∀ w' es' clock', ObjAt w' r (.map es' clock') → ImE es' clock' (imDel l n) → Upd r w w' → K (a.put o.dst (.tuple #[])) w') : o.wp P a w K Q := by
  unfold imDel at hK
  have run : (Builtin.delete_ #[t, k] o.type #[.map (some r), .int .i64 n]).run P w = (match imFind l n 0 with | some (i, _) => .ok (.tuple #[]) { w with heap := w.heap.setIfInBounds r (.map (es.eraseIdxIfInBounds i) clock) } | none => .ok (.tuple #[]) { w with heap := w.heap.setIfInBounds r (.map es clock) }) := by
    unfold Builtin.delete_
    simp only [List.getElem?_toArray, List.getElem?_cons_zero, List.getElem?_cons_succ, Sem.run_bind, run_underlying ht, Result.andThen_ok, run_getObj_im hM, run_checkKey_im hk, run_findKey_im hk h]
    cases hf : imFind l n 0 with
    | none => simp [run_setObj_im hM]
    | some p => simp [run_setObj_im hM]
  unfold Oper.wp execOp
  simp only [ho, resolve, invoke, builtin, Sem.run_bind, Sem.run_pure, Result.andThen_ok, List.map_toArray, List.map_cons, List.map_nil, hx, hy]
  rw [run]
  cases hf : imFind l n 0 with
  | none => rw [hf] at hK; exact hK _ _ _ (upd_setObj hM _).2 h (upd_setObj hM _).1
  | some p => rw [hf] at hK; exact hK _ _ _ (upd_setObj hM _).2 (h.erase p.1) (upd_setObj hM _).1
/-- A new map. -/
def NewMap (w : World) (v : Value) (w' : World) : Prop := ∃ g, v = .map (some g) ∧ w.heap.size = g ∧ ObjAt w' g (.map #[] 0) ∧ Below w.heap.size w w' ∧ w'.heap.size = g + 1
theorem wp_makeMap_im (ho : o.op = .makeMap t none) (hK : ∀ v w', NewMap w v w' → K (a.put o.dst v) w') : o.wp P a w K Q := by
  have := hK (.map (some w.heap.size)) (w.alloc (.map #[] 0)) ⟨_, rfl, rfl, heap_alloc_new w _, balloc _ _, by simp⟩
  unfold Oper.wp execOp
  simp only [ho]
  go_simp
  exact this
theorem wp_lenMap_im {x : Operand} (ht : P.underlying t = some (.map k e)) (hM : ObjAt w r (.map es clock)) (h : ImE es clock l) (ho : o.op = .call { callee := .builtin .len, args := #[x], argTypes := #[t] }) (hx : a.eval x = .map (some r)) (hK : K (a.put o.dst (.int .i64 (l.length : Nat))) w) : o.wp P a w K Q := by
  rw [← h.size] at hK
  have run : (Builtin.len_ #[t] o.type #[.map (some r)]).run P w = .ok (.int .i64 (es.size : Nat)) w := by
    unfold Builtin.len_
    simp [run_underlying ht, run_getObj_im hM, goInt]
  unfold Oper.wp execOp
  simp only [ho, resolve, invoke, builtin, Sem.run_bind, Sem.run_pure, Result.andThen_ok, List.map_toArray, List.map_cons, List.map_nil, hx]
  rw [run]
  exact hK
end

end Go.Proofs.Ytjhkoiggeepajaa
