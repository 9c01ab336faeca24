/- Operations, one law a kind and type. -/
import Derived.Test.YtgechlgdnnpoeaaNBa
import Derived.Laws.IdiomRangeMap
import Derived.Laws.IdiomCopy
import Derived.WalkKit

/- Substitutions: how they lie in memory. -/
namespace Go.Proofs.Ytgechlgdnnpoeaa
open Go.RowKit Go

structure Bd where
  var : Int
  t : T
instance : Inhabited Bd := ⟨⟨0, .mk 0 []⟩⟩

def eltB : Elt Bd where
  k := 3
  In := fun S w x cs => ∃ u v, cs = [.int .i64 x.var, u, v] ∧ I64 x.var ∧ InT S w x.t (.agg #[u, v])
  keep := fun hb ⟨u, v, e, h0, h⟩ => ⟨u, v, e, h0, h.keep hb⟩
  mono := fun hb ⟨u, v, e, h0, h⟩ => ⟨u, v, e, h0, h.mono hb⟩
  len := fun ⟨_, _, e, _⟩ => by rw [e]; rfl
  one := fun ⟨u, v, e, _, h⟩ x hx => by
    obtain ⟨_, a, c, e2, _⟩ := h.form
    simp only [Value.agg.injEq, Array.mk.injEq, List.cons.injEq, and_true] at e2
    rw [e] at hx
    simp only [List.mem_cons, List.not_mem_nil, or_false] at hx
    rcases hx with rfl | rfl | rfl
    · rfl
    · rw [e2.1]; rfl
    · rw [e2.2]; rfl

def dget (l : List Bd) (k : Nat) : Bd := l.getD k default
theorem dget_lt {l : List Bd} {k : Nat} (h : k < l.length) : dget l k = l[k] := by simp [dget, h]
theorem dget_mem {l : List Bd} {k : Nat} (h : k < l.length) : dget l k ∈ l := by rw [dget_lt h]; exact List.getElem_mem h

/-- A substitution that came in. -/
abbrev IsBs (w : World) (l : List Bd) (a : Option Addr) : Prop := InRow eltB (fun _ => True) w l a
theorem InRow.openB {S : Nat → Prop} {w : World} {l : List Bd} {a : Option Addr} (h : InRow eltB S w l a) : ∃ (b o : Nat) (A : Nat → Option Addr) (C : Nat → Nat), (∀ k, k < l.length → a = some ⟨b, o, none⟩) ∧
    ∀ k, k < l.length → w.cell? ⟨b, o + k * 3, none⟩ = some (.int .i64 (dget l k).var) ∧ w.cell? ⟨b, o + k * 3 + 1, none⟩ = some (.int .i64 (dget l k).t.f) ∧ w.cell? ⟨b, o + k * 3 + 2, none⟩ = some (.slice (A k) (dget l k).t.args.length (C k)) ∧
      InT S w (dget l k).t (.agg #[.int .i64 (dget l k).t.f, .slice (A k) (dget l k).t.args.length (C k)]) ∧ I64 (dget l k).var := by
  rcases Nat.eq_zero_or_pos l.length with h0 | h0
  · exact ⟨0, 0, fun _ => none, fun _ => 0, fun k hk => by omega, fun k hk => by omega⟩
  · obtain ⟨b, o, _, ha, _⟩ := h 0 h0
    have key : ∀ k, k < l.length → ∃ p : Option Addr × Nat, w.cell? ⟨b, o + k * 3, none⟩ = some (.int .i64 (dget l k).var) ∧ w.cell? ⟨b, o + k * 3 + 1, none⟩ = some (.int .i64 (dget l k).t.f) ∧ w.cell? ⟨b, o + k * 3 + 2, none⟩ = some (.slice p.1 (dget l k).t.args.length p.2) ∧
      InT S w (dget l k).t (.agg #[.int .i64 (dget l k).t.f, .slice p.1 (dget l k).t.args.length p.2]) ∧ I64 (dget l k).var := by
      intro k hk
      obtain ⟨b', o', cs, ha', _, ⟨u, v, rfl, h1, h2⟩, h3⟩ := h k hk
      rw [ha] at ha'
      simp only [Option.some.injEq, Addr.mk.injEq, and_true] at ha'
      obtain ⟨rfl, rfl⟩ := ha'
      obtain ⟨_, p, c, e, _, _, _⟩ := h2.form
      simp only [Value.agg.injEq, Array.mk.injEq, List.cons.injEq, and_true] at e
      obtain ⟨rfl, rfl⟩ := e
      rw [dget_lt hk]
      have c0 := h3 0 (by decide)
      have c1 := h3 1 (by decide)
      have c2 := h3 2 (by decide)
      exact ⟨(p, c), c0, c1, c2, h2, h1⟩
    have : Inhabited (Option Addr × Nat) := ⟨(none, 0)⟩
    obtain ⟨F, hF⟩ := Go.Deep.choose_lt key
    exact ⟨b, o, fun k => (F k).1, fun k => (F k).2, fun _ _ => ha, hF⟩

/-- A pointer to a term. -/
def IsTp (w : World) (t : T) (v : Value) : Prop := ∃ (b o : Nat) (a : Option Addr) (c : Nat), v = .pointer (some ⟨b, o, none⟩) ∧ w.cell? ⟨b, o, none⟩ = some (.int .i64 t.f) ∧ w.cell? ⟨b, o + 1, none⟩ = some (.slice a t.args.length c) ∧ IsT w t (.agg #[.int .i64 t.f, .slice a t.args.length c])
theorem IsTp.below {w w' : World} {t : T} {v : Value} (hb : Below w.heap.size w w') (h : IsTp w t v) : IsTp w' t v := by
  obtain ⟨b, o, a, c, e, h1, h2, h3⟩ := h
  exact ⟨b, o, a, c, e, bkeeps hb _ _ h1, bkeeps hb _ _ h2, IsT.below hb h3⟩
/-- A pointer to a term, or none. -/
def IsTo (w : World) (t : Option T) (v : Value) : Prop := match t with | none => v = .pointer none | some t => IsTp w t v
theorem IsTo.below {w w' : World} {t : Option T} {v : Value} (hb : Below w.heap.size w w') (h : IsTo w t v) : IsTo w' t v := by
  cases t with
  | none => exact h
  | some t => exact IsTp.below hb h

def Bd.itself (b : Bd) : Bool := decide (b.t.f = -1 - b.var) && decide (b.t.args.length = 0)
def subOk : Int → List Bd → Bool
  | _, [] => true
  | last, b :: r => if b.var ≤ last ∨ b.itself = true then false else subOk b.var r
def subCheck (l : List Bd) : Int := if subOk (-1) l then 0 else 2
def subFind (l : List Bd) (v : Int) : Option T := (l.find? fun b => decide (b.var = v)).map (·.t)

end Go.Proofs.Ytgechlgdnnpoeaa

/- Maps from integers: entries in the order in which they were laid, whatever the values are; ranges over them. -/
namespace Go.Proofs.Ytgechlgdnnpoeaa
open Go.RowKit Go
set_option linter.unusedVariables false
set_option linter.unusedSimpArgs false

/-- The entries of a map are the list. -/
structure ImE (es : Array MapEntry) (clock : Nat) (l : List (Int × Value)) : Prop where
  kv : es.toList.map (fun e => (e.key, e.val)) = l.map (fun x => (Value.int .i64 x.1, x.2))
  nd : (es.toList.map (·.born)).Nodup
  lt : ∀ e ∈ es.toList, e.born < clock
/-- What lies in a block. -/
def ObjAt (w : World) (b : Nat) (o : Obj) : Prop := w.heap[b]? = some o
section
variable {w w' : World} {b g : Nat} {o : Obj}
theorem ObjAt.lt (h : ObjAt w b o) : b < w.heap.size := (Array.getElem?_eq_some_iff.1 h).1
theorem ObjAt.chg {S : Nat → Prop} (h : ObjAt w b o) (hc : Chg S w w') (hb : ¬ S b) : ObjAt w' b o := (hc.block b h.lt hb).trans h
theorem ObjAt.below (h : ObjAt w b o) (hb : Below w.heap.size w w') : ObjAt w' b o := (hb.block b h.lt).trans h
theorem ObjAt.upd (h : ObjAt w b o) (hu : Upd g w w') (hne : b ≠ g) : ObjAt w' b o := (hu.block b hne).trans h
theorem ObjAt.neBlk {t : TypeId} {cs : Array Value} {es : Array MapEntry} {clock : Nat} (h : ObjAt w b (.map es clock)) (hB : Blk w g t cs) : g ≠ b := by
  rintro rfl; unfold ObjAt at h; unfold Blk at hB; rw [h] at hB; cases hB
end
theorem ImE.nil : ImE #[] 0 [] := ⟨rfl, List.Pairwise.nil, fun e h => by simp at h⟩
theorem ImE.size {es : Array MapEntry} {clock : Nat} {l : List (Int × Value)} (h : ImE es clock l) : es.size = l.length := by
  have := congrArg List.length h.kv
  simpa using this
def imFind : List (Int × Value) → Int → Nat → Option (Nat × Value)
  | [], _, _ => none
  | x :: l, k, i => if k = x.1 then some (i, x.2) else imFind l k (i + 1)
def imLook (l : List (Int × Value)) (k : Int) : Option Value := (imFind l k 0).map (·.2)
def imDel (l : List (Int × Value)) (k : Int) : List (Int × Value) := match imFind l k 0 with | some (i, _) => l.eraseIdx i | none => l
theorem imFind_none : ∀ {l : List (Int × Value)} {k : Int} {i : Nat}, imFind l k i = none ↔ ∀ x ∈ l, x.1 ≠ k
  | [], k, i => by simp [imFind]
  | x :: l, k, i => by
    rw [imFind]
    split
    · rename_i h; subst h; simp
    · rename_i h; rw [imFind_none]; simp; exact fun _ e => h e.symm
theorem imFind_shift : ∀ (l : List (Int × Value)) (k : Int) (i : Nat), imFind l k (i + 1) = (imFind l k i).map (fun x => (x.1 + 1, x.2))
  | [], k, i => rfl
  | x :: l, k, i => by
    rw [imFind, imFind]
    split
    · rfl
    · exact imFind_shift l k (i + 1)
theorem imFind_at {k : Int} : ∀ {l : List (Int × Value)} {i j : Nat} {v : Value}, imFind l k i = some (j, v) → i ≤ j ∧ l[j - i]? = some (k, v)
  | [], i, j, v, h => by cases h
  | x :: l, i, j, v, h => by
    rw [imFind] at h
    split at h
    · rename_i hk
      obtain ⟨rfl, rfl⟩ : i = j ∧ x.2 = v := by simpa using h
      subst hk
      simp
    · obtain ⟨h1, h2⟩ := imFind_at h
      refine ⟨by omega, ?_⟩
      rw [show j - i = (j - (i + 1)) + 1 by omega]
      simpa using h2
theorem findNow_im {kd : IntKind} (k : Int) : ∀ (es : List MapEntry) (l : List (Int × Value)) (i : Nat), es.map (fun e => (e.key, e.val)) = l.map (fun x => (Value.int .i64 x.1, x.2)) → Instr.findNow (.int kd) (.int .i64 k) es i = some (imFind l k i)
  | [], [], _, _ => rfl
  | [], _ :: _, _, h => by cases h
  | _ :: _, [], _, h => by cases h
  | e :: es, x :: l, i, h => by
    simp only [List.map_cons, List.cons.injEq, Prod.mk.injEq] at h
    obtain ⟨⟨h1, h2⟩, h3⟩ := h
    rw [Instr.findNow, h1, imFind]
    by_cases hk : k = x.1
    · subst hk; simp [Instr.sameNow, h2]
    · have := findNow_im (kd := kd) k es l (i + 1) h3
      have hb : (k == x.1) = false := by simpa using hk
      simp [Instr.sameNow, hk, hb, this]
section
variable {P : Program} {w : World} {t k e : TypeId} {kd : IntKind} {r : Nat} {es : Array MapEntry} {clock : Nat} {l : List (Int × Value)}
theorem run_findKey_im (hk : P.underlying k = some (.int kd)) (h : ImE es clock l) (x : Int) : (Instr.findKey k (.int .i64 x) es.toList).run P w = .ok (imFind l x 0) w := by
  unfold Instr.findKey
  simp [run_underlying hk, findNow_im x es.toList l 0 h.kv]
theorem run_checkKey_im (hk : P.underlying k = some (.int kd)) (b : Bool) (x : Int) : (Instr.checkKey b 10000 k (.int .i64 x)).run P w = .ok () w := by
  rw [show (10000 : Nat) = 9999 + 1 from rfl]
  generalize (9999 : Nat) = n
  simp [Instr.checkKey, run_underlying hk, go_sem]
theorem run_getObj_im (h : ObjAt w r (.map es clock)) : (getObj r).run P w = .ok (.map es clock) w := by
  unfold ObjAt at h; simp [getObj, Sem.run, h]
theorem run_setObj_im (h : ObjAt w r (.map es clock)) (o : Obj) : (setObj r o).run P w = .ok () { w with heap := w.heap.setIfInBounds r o } := by
  unfold ObjAt at h; simp [setObj, Sem.run, h]
theorem upd_setObj (h : ObjAt w r (.map es clock)) (o : Obj) : Upd r w { w with heap := w.heap.setIfInBounds r o } ∧ ObjAt { w with heap := w.heap.setIfInBounds r o } r o :=
  ⟨⟨rfl, rfl, rfl, by simp, fun k hk => by simp [Ne.symm hk]⟩, by have := h.lt; simp [ObjAt, this]⟩
variable {a : Act} {K : Act → World → Prop} {Q : Exit → Act → World → Prop} {o : Oper}
theorem wp_look_im {x y : Operand} {z : Value} {n : Int} (ht : P.underlying t = some (.map k e)) (hk : P.underlying k = some (.int kd)) (hz : (zeroValue e).run P w = .ok z w) (hM : ObjAt w r (.map es clock)) (h : ImE es clock l)
    (ho : o.op = .lookup t x y false) (hx : a.eval x = .map (some r)) (hy : a.eval y = .int .i64 n) (hK : K (a.put o.dst ((imLook l n).getD z)) w) : o.wp P a w K Q := by
  unfold Oper.wp execOp
  simp only [ho, hx, hy, Instr.lookup, Sem.run_bind, Sem.run_pure, run_underlying ht, Result.andThen_ok, run_getObj_im hM, run_checkKey_im hk, run_findKey_im hk h]
  unfold imLook at hK
  cases hf : imFind l n 0 with
  | none => rw [hf] at hK; simp [hz]; exact hK
  | some p => rw [hf] at hK; simp; exact hK
theorem wp_lookok_im {x y : Operand} {z : Value} {n : Int} (ht : P.underlying t = some (.map k e)) (hk : P.underlying k = some (.int kd)) (hz : (zeroValue e).run P w = .ok z w) (hM : ObjAt w r (.map es clock)) (h : ImE es clock l)
    (ho : o.op = .lookup t x y true) (hx : a.eval x = .map (some r)) (hy : a.eval y = .int .i64 n) (hK : K (a.put o.dst (.tuple #[(imLook l n).getD z, .bool (imLook l n).isSome])) w) : o.wp P a w K Q := by
  unfold Oper.wp execOp
  simp only [ho, hx, hy, Instr.lookup, Sem.run_bind, Sem.run_pure, run_underlying ht, Result.andThen_ok, run_getObj_im hM, run_checkKey_im hk, run_findKey_im hk h]
  unfold imLook at hK
  cases hf : imFind l n 0 with
  | none => rw [hf] at hK; simp [hz]; exact hK
  | some p => rw [hf] at hK; simp; exact hK
theorem ImE.push (h : ImE es clock l) (n : Int) (v : Value) : ImE (es.push { key := .int .i64 n, val := v, born := clock }) (clock + 1) (l ++ [(n, v)]) := by
  refine ⟨?_, ?_, fun e he => ?_⟩
  · simp [h.kv]
  · rw [Array.toList_push, List.map_append, List.map_singleton, List.nodup_append]
    refine ⟨h.nd, by simp, fun a ha b hb => ?_⟩
    obtain ⟨e, he, rfl⟩ := List.mem_map.1 ha
    have := h.lt e he
    simp at hb; omega
  · rw [Array.toList_push, List.mem_append] at he
    rcases he with he | he
    · have := h.lt e he; omega
    · simp at he; subst he; simp
/-- A new key is laid. -/
theorem wp_put_im {x y z : Operand} {n : Int} {v : Value} (ht : P.underlying t = some (.map k e)) (hk : P.underlying k = some (.int kd)) (hM : ObjAt w r (.map es clock)) (h : ImE es clock l)
    (ho : o.op = .mapUpdate t x y z) (hx : a.eval x = .map (some r)) (hy : a.eval y = .int .i64 n) (hz : a.eval z = v) (hn : ∀ x ∈ l, x.1 ≠ n)
    (hK : ∀ w' es' clock', ObjAt w' r (.map es' clock') → ImE es' clock' (l ++ [(n, v)]) → Upd r w w' → K (a.put o.dst undef) w') : o.wp P a w K Q := by
  have := hK _ _ _ (upd_setObj hM _).2 (h.push n v) (upd_setObj hM _).1
  unfold Oper.wp execOp
  simp only [ho, hx, hy, hz, Instr.mapUpdate, Sem.run_bind, Sem.run_pure, run_underlying ht, Result.andThen_ok, run_getObj_im hM, run_checkKey_im hk, run_findKey_im hk h, imFind_none.2 hn, run_setObj_im hM]
  exact this
theorem map_eraseIdx' {α β : Type} (f : α → β) : ∀ (l : List α) (i : Nat), (l.eraseIdx i).map f = (l.map f).eraseIdx i
  | [], _ => rfl
  | _ :: _, 0 => rfl
  | x :: l, i + 1 => by rw [List.eraseIdx_cons_succ, List.map_cons, List.map_cons, List.eraseIdx_cons_succ, map_eraseIdx' f l i]
theorem ImE.erase (h : ImE es clock l) (i : Nat) : ImE (es.eraseIdxIfInBounds i) clock (l.eraseIdx i) := by
  have e1 : (es.eraseIdxIfInBounds i).toList = es.toList.eraseIdx i := by
    rw [Array.toList_eraseIdxIfInBounds]
  refine ⟨?_, ?_, fun e he => ?_⟩
  · rw [e1, map_eraseIdx', h.kv, map_eraseIdx']
  · rw [e1, map_eraseIdx']; exact h.nd.sublist (List.eraseIdx_sublist _ _)
  · rw [e1] at he; exact h.lt e ((List.eraseIdx_sublist _ _).subset he)
theorem wp_del_im {x y : Operand} {n : Int} (ht : P.underlying t = some (.map k e)) (hk : P.underlying k = some (.int kd)) (hM : ObjAt w r (.map es clock)) (h : ImE es clock l)
    (ho : o.op = .call { callee := .builtin .delete, args := #[x, y], argTypes := #[t, k] }) (hx : a.eval x = .map (some r)) (hy : a.eval y = .int .i64 n)
    (hK : ∀ w' es' clock', ObjAt w' r (.map es' clock') → ImE es' clock' (imDel l n) → Upd r w w' → K (a.put o.dst (.tuple #[])) w') : o.wp P a w K Q := by
  unfold imDel at hK
  have run : (Builtin.delete_ #[t, k] o.type #[.map (some r), .int .i64 n]).run P w = (match imFind l n 0 with | some (i, _) => .ok (.tuple #[]) { w with heap := w.heap.setIfInBounds r (.map (es.eraseIdxIfInBounds i) clock) } | none => .ok (.tuple #[]) { w with heap := w.heap.setIfInBounds r (.map es clock) }) := by
    unfold Builtin.delete_
    simp only [List.getElem?_toArray, List.getElem?_cons_zero, List.getElem?_cons_succ, Sem.run_bind, run_underlying ht, Result.andThen_ok, run_getObj_im hM, run_checkKey_im hk, run_findKey_im hk h]
    cases hf : imFind l n 0 with
    | none => simp [run_setObj_im hM]
    | some p => simp [run_setObj_im hM]
  unfold Oper.wp execOp
  simp only [ho, resolve, invoke, builtin, Sem.run_bind, Sem.run_pure, Result.andThen_ok, List.map_toArray, List.map_cons, List.map_nil, hx, hy]
  rw [run]
  cases hf : imFind l n 0 with
  | none => rw [hf] at hK; exact hK _ _ _ (upd_setObj hM _).2 h (upd_setObj hM _).1
  | some p => rw [hf] at hK; exact hK _ _ _ (upd_setObj hM _).2 (h.erase p.1) (upd_setObj hM _).1
/-- A new map. -/
def NewMap (w : World) (v : Value) (w' : World) : Prop := ∃ g, v = .map (some g) ∧ w.heap.size = g ∧ ObjAt w' g (.map #[] 0) ∧ Below w.heap.size w w' ∧ w'.heap.size = g + 1
theorem wp_makeMap_im (ho : o.op = .makeMap t none) (hK : ∀ v w', NewMap w v w' → K (a.put o.dst v) w') : o.wp P a w K Q := by
  have := hK (.map (some w.heap.size)) (w.alloc (.map #[] 0)) ⟨_, rfl, rfl, heap_alloc_new w _, balloc _ _, by simp⟩
  unfold Oper.wp execOp
  simp only [ho]
  go_simp
  exact this
theorem wp_lenMap_im {x : Operand} (ht : P.underlying t = some (.map k e)) (hM : ObjAt w r (.map es clock)) (h : ImE es clock l) (ho : o.op = .call { callee := .builtin .len, args := #[x], argTypes := #[t] }) (hx : a.eval x = .map (some r)) (hK : K (a.put o.dst (.int .i64 (l.length : Nat))) w) : o.wp P a w K Q := by
  rw [← h.size] at hK
  have run : (Builtin.len_ #[t] o.type #[.map (some r)]).run P w = .ok (.int .i64 (es.size : Nat)) w := by
    unfold Builtin.len_
    simp [run_underlying ht, run_getObj_im hM, goInt]
  unfold Oper.wp execOp
  simp only [ho, resolve, invoke, builtin, Sem.run_bind, Sem.run_pure, Result.andThen_ok, List.map_toArray, List.map_cons, List.map_nil, hx]
  rw [run]
  exact hK
end

end Go.Proofs.Ytgechlgdnnpoeaa

/- Ranges over maps from integers: what is handed out, in whatever order. -/
namespace Go.Proofs.Ytgechlgdnnpoeaa
open Go.RowKit Go
set_option linter.unusedVariables false
set_option linter.unusedSimpArgs false

/-- What a range has handed out, and what it has not. -/
structure ItE (es : Array MapEntry) (l : List (Int × Value)) (seen : Array Nat) (done rest : List (Int × Value)) : Prop where
  perm : (done ++ rest).Perm l
  left : (leftOf es seen).toList.map (fun e => (e.key, e.val)) = rest.map (fun x => (Value.int .i64 x.1, x.2))
/-- What was handed out last. -/
def CurE (es : Array MapEntry) (seen : Array Nat) (x : Int × Value) : Prop := ∃ e ∈ es.toList, ∃ s : Array Nat, seen = s.push e.born ∧ e.key = .int .i64 x.1 ∧ e.val = x.2
section
variable {P : Program} {w : World} {t k e : TypeId} {kd : IntKind} {r it : Nat} {es : Array MapEntry} {clock : Nat} {l done rest : List (Int × Value)} {seen : Array Nat}
theorem leftOf_nil : leftOf es #[] = es := by
  unfold leftOf
  rw [Array.filter_eq_self]
  intro e _; simp
theorem ItE.start (h : ImE es clock l) : ItE es l #[] [] l := ⟨List.Perm.refl _, by rw [leftOf_nil]; exact h.kv⟩
theorem run_next_im (ty : TypeId) (hM : ObjAt w r (.map es clock)) (hI : ObjAt w it (.mapIter (some r) clock seen clock)) (hE : ImE es clock l) :
    ((leftOf es seen).size = 0 ∧ (Instr.next (.pointer (some ⟨it, 0, none⟩)) false ty).run P w = .ok (.tuple #[.bool false]) w) ∨
    ∃ (j : Nat) (hj : j < (leftOf es seen).size) (w' : World), Upd it w w' ∧ ObjAt w' it (.mapIter (some r) clock (seen.push (leftOf es seen)[j].born) clock) ∧
      (Instr.next (.pointer (some ⟨it, 0, none⟩)) false ty).run P w = .ok (.tuple #[.bool true, (leftOf es seen)[j].key, (leftOf es seen)[j].val]) w' := by
  have hb : w.heap[r]? = some (.map es clock) := hM
  have hi : w.heap[it]? = some (.mapIter (some r) clock seen clock) := hI
  simp only [Instr.next, getObj, Sem.run_bind, Sem.run, hi, hb, Result.andThen, next_test_false seen es clock clock hE.lt (Nat.le_refl _), Bool.false_eq_true, if_false]
  have hmem : ∀ x ∈ (leftOf es seen).toList, x.born < clock := fun x hx => hE.lt x (mem_left hx).1
  have e0 : (Array.filter (fun e => !seen.contains e.born) es) = leftOf es seen := rfl
  rw [e0]
  generalize leftOf es seen = L at hmem ⊢
  have e1 : L.filter (fun x => decide (x.born < clock)) = L := Array.filter_eq_self.2 (fun x hx => by simpa using hmem x (by simpa using hx))
  have e2 : L.filter (fun x => decide (x.born ≥ clock)) = #[] := by
    rw [Array.filter_eq_empty_iff]
    intro x hx
    have := hmem x (by simpa using hx)
    simp; omega
  simp only [e1, e2, Array.append_empty]
  by_cases h0 : L.size = 0
  · left
    have : L = #[] := Array.eq_empty_of_size_eq_zero h0
    subst this
    refine ⟨rfl, ?_⟩
    simp [choose, Sem.run, Question.forced]
  · right
    have hne : L.isEmpty = false := by simp [Array.isEmpty, h0]
    simp only [hne, Bool.false_eq_true, if_false, Array.empty_append, Array.size_map]
    have hch : ∃ (j : Nat) (w1 : World), j < L.size ∧ w1.os = w.os ∧ w1.tape = w.tape ∧ w1.output = w.output ∧ w1.heap = w.heap ∧ (choose (Question.mapNext L.size)).run P w = .ok j w1 := by
      by_cases hf : L.size ≤ 1
      · exact ⟨0, w, by omega, rfl, rfl, rfl, rfl, by simp [choose, Sem.run, Question.forced, hf]⟩
      · exact ⟨_, w.drew, Nat.mod_lt _ (by omega), rfl, rfl, rfl, rfl, by
          simp only [choose, Sem.run, Question.forced, decide_eq_true_eq, hf, if_false, Question.cut]
          rfl⟩
    obtain ⟨j, w1, hj, h1, h2, h3, h4, hrun⟩ := hch
    have hi1 : w1.heap[it]? = some (.mapIter (some r) clock seen clock) := by rw [h4]; exact hi
    have hset : ∀ o' : Obj, (setObj it o').run P w1 = .ok () { w1 with heap := w1.heap.setIfInBounds it o' } := fun o' => by simp [setObj, Sem.run, hi1]
    have hlt : it < w1.heap.size := (Array.getElem?_eq_some_iff.1 hi1).1
    refine ⟨j, hj, { w1 with heap := w1.heap.setIfInBounds it (.mapIter (some r) clock (seen.push L[j].born) clock) }, ⟨h1, h2, h3, by simp [h4], fun k hk => by simp [Ne.symm hk, h4]⟩, by simp [ObjAt, hlt], ?_⟩
    simp only [hrun, Array.getElem?_map, Array.getElem?_eq_getElem hj, Option.map_some, Sem.run_bind, hset, Result.andThen]
    rfl
theorem filter_drop_one {α : Type} [DecidableEq Nat] (f : α → Nat) : ∀ (l : List α) (j : Nat) (hj : j < l.length), (l.map f).Nodup → l.filter (fun x => !(f x == f l[j])) = l.eraseIdx j
  | x :: l, 0, _, h => by
    rw [List.map_cons, List.nodup_cons] at h
    have : l.filter (fun y => !(f y == f x)) = l := by
      rw [List.filter_eq_self]
      intro y hy
      have : f y ≠ f x := fun e => h.1 (e ▸ List.mem_map_of_mem hy)
      simpa using this
    simp [this]
  | x :: l, j + 1, hj, h => by
    rw [List.map_cons, List.nodup_cons] at h
    have hj' : j < l.length := by simpa using hj
    have hx : f x ≠ f l[j] := fun e => h.1 (e ▸ List.mem_map_of_mem (List.getElem_mem hj'))
    have := filter_drop_one f l j hj' h.2
    simp [hx, this]
theorem leftOf_push (hE : ImE es clock l) (j : Nat) (hj : j < (leftOf es seen).size) : (leftOf es (seen.push (leftOf es seen)[j].born)).toList = (leftOf es seen).toList.eraseIdx j := by
  have hn : ((leftOf es seen).toList.map (·.born)).Nodup := by
    unfold leftOf
    rw [Array.toList_filter]
    exact (List.Sublist.map _ (List.filter_sublist)).nodup hE.nd
  rw [← filter_drop_one (·.born) (leftOf es seen).toList j (by simpa using hj) hn]
  have : leftOf es (seen.push (leftOf es seen)[j].born) = (leftOf es seen).filter (fun x => !(x.born == (leftOf es seen)[j].born)) := by
    generalize (leftOf es seen)[j].born = b
    unfold leftOf
    rw [Array.filter_filter]
    congr 1
    funext x
    rw [contains_push]
    cases seen.contains x.born <;> cases (x.born == b) <;> rfl
  rw [this, Array.toList_filter]
  simp
theorem perm_erase {α : Type} : ∀ (l : List α) (j : Nat) (hj : j < l.length), l.Perm (l[j] :: l.eraseIdx j)
  | x :: l, 0, _ => by simp
  | x :: l, j + 1, hj => by
    have := perm_erase l j (by simpa using hj)
    simp only [List.getElem_cons_succ, List.eraseIdx_cons_succ]
    exact (this.cons x).trans (List.Perm.swap _ _ _)
variable {a : Act} {K : Act → World → Prop} {Q : Exit → Act → World → Prop} {o : Oper}
theorem wp_next_im {x : Operand} (hM : ObjAt w r (.map es clock)) (hI : ObjAt w it (.mapIter (some r) clock seen clock)) (hE : ImE es clock l) (hR : ItE es l seen done rest)
    (ho : o.op = .next x false) (hx : a.eval x = .pointer (some ⟨it, 0, none⟩))
    (h0 : rest = [] → K (a.put o.dst (.tuple #[.bool false])) w)
    (h1 : ∀ y rest' seen' w', rest.Perm (y :: rest') → rest'.length < rest.length → ItE es l seen' (done ++ [y]) rest' → CurE es seen' y → ObjAt w' it (.mapIter (some r) clock seen' clock) → Upd it w w' → K (a.put o.dst (.tuple #[.bool true, .int .i64 y.1, y.2])) w') : o.wp P a w K Q := by
  have hlen : (leftOf es seen).size = rest.length := by
    have := congrArg List.length hR.left
    simpa using this
  unfold Oper.wp execOp
  simp only [ho, hx]
  rcases run_next_im (P := P) o.type hM hI hE with ⟨q0, q1⟩ | ⟨j, hj, w', q1, q2, q3⟩
  · simp only [Sem.run_bind, q1, Result.andThen_ok]
    exact h0 (List.length_eq_zero_iff.1 (by omega))
  · simp only [Sem.run_bind, q3, Result.andThen_ok]
    have hjr : j < rest.length := by omega
    have hel := congrArg (fun z => z[j]?) hR.left
    simp only [List.getElem?_map] at hel
    rw [List.getElem?_eq_getElem (by simpa using hj), List.getElem?_eq_getElem hjr] at hel
    simp only [Option.map_some, Option.some.injEq, Prod.mk.injEq, Array.getElem_toList] at hel
    rw [hel.1, hel.2]
    have hp := perm_erase rest j hjr
    refine h1 rest[j] (rest.eraseIdx j) _ w' hp (by rw [List.length_eraseIdx_of_lt hjr]; omega) ⟨?_, ?_⟩ ⟨(leftOf es seen)[j], (mem_left (seen := seen) (by simp)).1, seen, rfl, hel.1, hel.2⟩ q2 q1
    · rw [List.append_assoc]
      exact (List.Perm.append_left done hp.symm).trans hR.perm
    · rw [leftOf_push hE j hj, map_eraseIdx', hR.left, map_eraseIdx']
theorem wp_entry_im {x : Operand} {y : Int × Value} (hM : ObjAt w r (.map es clock)) (hI : ObjAt w it (.mapIter (some r) clock seen clock)) (hE : ImE es clock l) (hC : CurE es seen y)
    (ho : o.op = .entry x) (hx : a.eval x = .pointer (some ⟨it, 0, none⟩)) (hK : K (a.put o.dst (.tuple #[.int .i64 y.1, y.2])) w) : o.wp P a w K Q := by
  have hb : w.heap[r]? = some (.map es clock) := hM
  have hi : w.heap[it]? = some (.mapIter (some r) clock seen clock) := hI
  obtain ⟨e, he, s, rfl, h1, h2⟩ := hC
  have hf : es.find? (·.born == e.born) = some e := by rw [← Array.find?_toList]; exact find_born e es.toList hE.nd he
  have run : (Instr.entry (.pointer (some ⟨it, 0, none⟩))).run P w = .ok (.tuple #[e.key, e.val]) w := by
    simp only [Instr.entry, getObj, Sem.run_bind, Sem.run, hi, hb, Result.andThen, Array.back?_push, bne_self_eq_false, Bool.false_eq_true, if_false, hf]
    rfl
  unfold Oper.wp execOp
  simp only [ho, hx]
  simp only [Sem.run_bind, run, Result.andThen_ok, h1, h2]
  exact hK
/-- A new range. -/
def NewIt (w : World) (r clock : Nat) (v : Value) (w' : World) : Prop := ∃ g, v = .pointer (some ⟨g, 0, none⟩) ∧ w.heap.size = g ∧ ObjAt w' g (.mapIter (some r) clock #[] clock) ∧ Below w.heap.size w w' ∧ w'.heap.size = g + 1
theorem wp_range_im {x : Operand} (ht : P.underlying t = some (.map k e)) (hM : ObjAt w r (.map es clock)) (ho : o.op = .range t x) (hx : a.eval x = .map (some r)) (hK : ∀ v w', NewIt w r clock v w' → K (a.put o.dst v) w') : o.wp P a w K Q := by
  have := hK (.pointer (some ⟨w.heap.size, 0, none⟩)) (w.alloc (.mapIter (some r) clock #[] clock)) ⟨_, rfl, rfl, heap_alloc_new w _, balloc _ _, by simp⟩
  unfold Oper.wp execOp
  simp only [ho, hx]
  simp only [Sem.run_bind, run_range_map w t k e r es clock ht hM, Result.andThen_ok]
  exact this
end

end Go.Proofs.Ytgechlgdnnpoeaa

/- Pointers to terms, in blocks that are told. -/
namespace Go.Proofs.Ytgechlgdnnpoeaa
open Go.RowKit Go
set_option linter.unusedVariables false
set_option linter.unusedSimpArgs false

/-- A pointer to a term, all in blocks of 'S'. -/
def InTp (S : Nat → Prop) (w : World) (t : T) (v : Value) : Prop := ∃ (b o : Nat) (a : Option Addr) (c : Nat), v = .pointer (some ⟨b, o, none⟩) ∧ S b ∧ w.cell? ⟨b, o, none⟩ = some (.int .i64 t.f) ∧ w.cell? ⟨b, o + 1, none⟩ = some (.slice a t.args.length c) ∧ InT S w t (.agg #[.int .i64 t.f, .slice a t.args.length c])
section
variable {S S' : Nat → Prop} {w w' : World} {t : T} {v : Value}
theorem InTp.isTp (h : InTp S w t v) : IsTp w t v := by
  obtain ⟨b, o, a, c, e, _, h1, h2, h3⟩ := h
  exact ⟨b, o, a, c, e, h1, h2, h3.isT⟩
theorem InTp.keep (hb : ∀ (p : Addr) (x : Value), S p.block → w.cell? p = some x → w'.cell? p = some x) (h : InTp S w t v) : InTp S w' t v := by
  obtain ⟨b, o, a, c, e, hs, h1, h2, h3⟩ := h
  exact ⟨b, o, a, c, e, hs, hb ⟨b, o, none⟩ _ hs h1, hb ⟨b, o + 1, none⟩ _ hs h2, h3.keep hb⟩
theorem InTp.mono (hb : ∀ b, S b → b < w.heap.size → S' b) (h : InTp S w t v) : InTp S' w t v := by
  obtain ⟨b, o, a, c, e, hs, h1, h2, h3⟩ := h
  exact ⟨b, o, a, c, e, hb b hs (World.block_lt_of_cell? _ _ h1), h1, h2, h3.mono hb⟩
theorem InTp.below (h : InTp S w t v) (hb : Below w.heap.size w w') : InTp S w' t v := h.keep fun p x _ hx => bkeeps hb p x hx
theorem InTp.chg {S2 : Nat → Prop} (h : InTp S w t v) (hc : Chg S2 w w') (hS : ∀ b, S b → ¬ S2 b) : InTp S w' t v := h.keep fun p x hp hx => by
  have hb := World.block_lt_of_cell? _ _ hx
  unfold World.cell? at hx ⊢
  rw [hc.block p.block hb (hS _ hp)]; exact hx
/-- An argument of a term that is pointed at. -/
theorem InTp.arg {b o : Nat} {a : Option Addr} {c : Nat} (h : InT S w t (.agg #[.int .i64 t.f, .slice a t.args.length c])) (k : Nat) (hk : k < t.args.length) : ∃ b o, a = some ⟨b, o, none⟩ ∧ InTp S w (tget t.args k) (.pointer (some ⟨b, o + k * 2, none⟩)) := by
  obtain ⟨_, a', c', e, _, _, h3⟩ := h.form
  simp only [Value.agg.injEq, Array.mk.injEq, List.cons.injEq, and_true, Value.slice.injEq, true_and] at e
  obtain ⟨rfl, rfl⟩ := e
  obtain ⟨b, o, u, v, rfl, h4, h5, h6, h7⟩ := h3.at_ k hk
  obtain ⟨_, a2, c2, e2, _⟩ := h7.form
  simp only [Value.agg.injEq, Array.mk.injEq, List.cons.injEq, and_true] at e2
  obtain ⟨rfl, rfl⟩ := e2
  rw [tget_lt hk]
  exact ⟨b, o, rfl, b, _, a2, c2, rfl, h4, h5, h6, h7⟩
/-- A box in which a term lies. -/
theorem InTp.box {g ty : Nat} {a : Option Addr} {c : Nat} (hB : Blk w g ty #[.int .i64 t.f, .slice a t.args.length c]) (hg : S g) (h : InT S w t (.agg #[.int .i64 t.f, .slice a t.args.length c])) : InTp S w t (.pointer (some ⟨g, 0, none⟩)) :=
  ⟨g, 0, a, c, rfl, hg, by rw [hB.cell]; rfl, by rw [hB.cell]; rfl, h⟩
end

/-- Values as they are, two of them. -/
def eltV2 : Elt (Addr × Addr) where
  k := 2
  In := fun _ _ x cs => cs = [.pointer (some x.1), .pointer (some x.2)]
  keep := fun _ h => h
  mono := fun _ h => h
  len := fun h => by rw [h]; rfl
  one := fun h v hv => by rw [h] at hv; simp at hv; rcases hv with rfl | rfl <;> rfl

section
variable {α β : Type} {E : Elt α} {E2 : Elt β} {w w' : World} {B B2 e e2 c c2 n n2 : Nat} {a a2 : Option Addr} {l : List α} {l2 : List β}
/-- Rows of different types lie in different blocks. -/
theorem RowE.ne (h : RowE E w B e a c n l) (h2 : RowE E2 w B2 e2 a2 c2 n2 l2) (he : e ≠ e2) : ∀ b, (Value.slice a n c).ownBlock = some b → (Value.slice a2 n2 c2).ownBlock ≠ some b := by
  intro b hb hb2
  obtain ⟨⟨xs, h1, _⟩, _⟩ := h
  obtain ⟨⟨ys, h3, _⟩, _⟩ := h2
  rcases h1.2 with ⟨e1, _⟩ | ⟨g, cap, cur, e1, _, r1, _⟩
  · rw [e1] at hb; cases hb
  · rcases h3.2 with ⟨f1, _⟩ | ⟨g', cap', cur', f1, _, r2, _⟩
    · rw [f1] at hb2; cases hb2
    · rw [e1] at hb; rw [f1] at hb2
      obtain rfl : g = b := by simpa [Value.ownBlock] using hb
      obtain rfl : g' = g := by simpa [Value.ownBlock] using hb2
      have := r1.symm.trans r2
      simp at this
      exact he this.2
theorem RowE.neBlk {g ty : Nat} {cs : Array Value} (h : RowE E w B e a c n l) (hB : Blk w g ty cs) (he : e ≠ ty) : (Value.slice a n c).ownBlock ≠ some g := by
  intro hb
  obtain ⟨⟨xs, h1, _⟩, _⟩ := h
  rcases h1.2 with ⟨e1, _⟩ | ⟨g', cap, cur, e1, _, r1, _⟩
  · rw [e1] at hb; cases hb
  · rw [e1] at hb
    obtain rfl : g' = g := by simpa [Value.ownBlock] using hb
    unfold Blk at hB
    have := r1.symm.trans hB
    simp at this
    exact he this.2
theorem RowE.neMap {g : Nat} {es : Array MapEntry} {clock : Nat} (h : RowE E w B e a c n l) (hB : ObjAt w g (.map es clock)) : (Value.slice a n c).ownBlock ≠ some g := by
  intro hb
  obtain ⟨⟨xs, h1, _⟩, _⟩ := h
  rcases h1.2 with ⟨e1, _⟩ | ⟨g', cap, cur, e1, _, r1, _⟩
  · rw [e1] at hb; cases hb
  · rw [e1] at hb
    obtain rfl : g' = g := by simpa [Value.ownBlock] using hb
    unfold ObjAt at hB
    have := r1.symm.trans hB
    simp at this
/-- What does not touch the row's block keeps it, if its elements hang on nothing. -/
theorem RowE.chgOwn {S : Nat → Prop} (hE : ∀ (S : Nat → Prop) w w' x cs, E.In S w x cs → E.In S w' x cs) (h : RowE E w B e a c n l) (hc : Chg S w w') (hS : ∀ b, (Value.slice a n c).ownBlock = some b → ¬ S b) : RowE E w' B e a c n l := by
  obtain ⟨⟨xs, h1, h2⟩, h3⟩ := h
  refine ⟨⟨xs, ⟨h1.1, h1.2.imp id ?_⟩, ?_⟩, h3⟩
  · rintro ⟨g, cap, cur, e1, e2, e3, r⟩
    refine ⟨g, cap, cur, e1, e2, ?_, r⟩
    rw [hc.block g (Array.getElem?_eq_some_iff.1 e3).1 (hS g (by rw [e1]; rfl))]; exact e3
  · clear h1
    revert h2
    generalize (fun b => B ≤ b ∧ (Value.slice a n c).ownBlock ≠ some b) = Z
    clear h3
    induction l generalizing xs with
    | nil => intro h2; exact h2
    | cons x l ih =>
      rintro ⟨cs, r, e, h3, h4⟩
      exact ⟨cs, r, e, hE _ _ _ _ _ h3, ih r h4⟩
/-- The first of a row. -/
theorem RowE.take (h : RowE E w B e a c n l) (k : Nat) (hk : k ≤ n) (hE : ∀ (S : Nat → Prop) w x cs, E.In S w x cs → ∀ S', E.In S' w x cs) : RowE E w B e a c k (l.take k) := by
  obtain ⟨⟨xs, h1, h2⟩, rfl⟩ := h
  have hel : ∀ (l : List α) (xs : List Value) (k : Nat) (Z Z' : Nat → Prop), Elts E Z w l xs → Elts E Z' w (l.take k) (xs.take (k * E.k)) := by
    intro l
    induction l with
    | nil => intro xs k Z Z' h; have : xs = [] := h; subst this; simp; exact rfl
    | cons x l ih =>
      rintro xs k Z Z' ⟨cs, r, rfl, h3, h4⟩
      cases k with
      | zero => simp; exact rfl
      | succ k =>
        refine ⟨cs, r.take (k * E.k), ?_, hE _ _ _ _ h3 _, ih r k Z Z' h4⟩
        rw [List.take_append, E.len h3, Nat.add_mul, Nat.one_mul, Nat.add_sub_cancel, List.take_of_length_le (by rw [E.len h3]; omega)]
  refine ⟨⟨xs.take (k * E.k), ⟨by rw [List.length_take, h1.1]; exact Nat.min_eq_left (Nat.mul_le_mul_right _ hk), ?_⟩, hel _ _ _ _ _ h2⟩, by simp; omega⟩
  rcases h1.2 with ⟨e1, h0⟩ | ⟨g, cap, cur, e1, e2, e3, e4, e5, e6, e7⟩
  · simp only [Value.slice.injEq] at e1
    obtain ⟨rfl, e, rfl⟩ := e1
    left
    have : k = 0 := by omega
    subst this
    exact ⟨rfl, by simp⟩
  · right
    simp only [Value.slice.injEq, true_and] at e1
    obtain ⟨rfl, rfl⟩ := e1
    exact ⟨g, _, cur, rfl, e2, e3, by omega, e5, e6, by rw [← e7, List.take_take, Nat.min_eq_left (Nat.mul_le_mul_right _ hk)]⟩
end

section
variable {α : Type} {E : Elt α} {P : Program} {w : World} {a : Act} {K : Act → World → Prop} {Q : Exit → Act → World → Prop} {o : Oper}
/-- One element more, by append: where the row lies then. -/
theorem wp_appE2 {s x : Operand} {t e B : Nat} {z : Value} {size bytes n rc g1 : Nat} {ra : Option Addr} {l : List α} {y : α} {cs : List Value} (hk : E.k = size) (ht : P.underlying t = some (.slice e)) (hinfo : (P.info? e).map (fun i => (i.zero, i.size, i.bytes)) = some (some z, size, bytes)) (hzs : z.cells.size = size) (hsz : 0 < size)
    (ho : o.op = .call { callee := .builtin .append, args := #[s, x], argTypes := #[t, t] }) (hs : a.eval s = .slice ra n rc) (hx : a.eval x = .slice (some ⟨g1, 0, none⟩) 1 1) (hrow : RowE E w B e ra rc n l) (hB : Blk w g1 e cs.toArray) (hin : E.In (fun b => B ≤ b ∧ (Value.slice ra n rc).ownBlock ≠ some b) w y cs)
    (hb : (n + 1) * bytes ≤ 140737488355328) (hn : n + 1 ≤ 9223372036854775807) (hbase : B ≤ w.heap.size) (hK : ∀ ra' rc' w', RowE E w' B e ra' rc' (n + 1) (l ++ [y]) → Chg (fun b => (Value.slice ra n rc).ownBlock = some b) w w' → KeepsFrom 0 w w' → (∀ b, (Value.slice ra' (n + 1) rc').ownBlock = some b → (Value.slice ra n rc).ownBlock = some b ∨ b = w.heap.size) → K (a.put o.dst (.slice ra' (n + 1) rc')) w') : o.wp P a w K Q := by
  subst hk
  obtain ⟨⟨xs, h1, h2⟩, rfl⟩ := hrow
  refine wp_app (m := 1) (news := cs) ht hinfo hzs hsz ho hs hx h1 (SrcIs.ofBlk hB) (by rw [E.len hin]; omega) (E.one hin) hb hn hbase (fun ra' rc' w' h => hK _ _ _ ?_ ⟨h.grow.os, h.grow.tape, h.grow.output, h.grow.size, fun k hk hSk => h.grow.block k hk (fun e => hSk e.symm)⟩ ?_ ?_)
  · have key : ∀ (p : Addr) (v : Value), (Value.slice ra l.length rc).ownBlock ≠ some p.block → w.cell? p = some v → w'.cell? p = some v := fun p v hp hv => h.grow.cell hv (Ne.symm hp)
    refine ⟨⟨xs ++ cs, h.own, ?_⟩, by simp⟩
    have far : ∀ b, (B ≤ b ∧ (Value.slice ra l.length rc).ownBlock ≠ some b) ∧ b < w.heap.size → B ≤ b ∧ (Value.slice ra' (l.length + 1) rc').ownBlock ≠ some b := fun b hb => ⟨hb.1.1, fun e => by
      rcases h.at_ with e2 | e2
      · exact hb.1.2 (e2 ▸ e)
      · rw [e2] at e; have := Option.some.inj e; omega⟩
    refine Elts.mono (fun b hb _ => far b hb) (Elts.keep (w := w) (fun p v hp hv => key p v hp.1.2 hv) ?_)
    exact Elts.snoc (E.mono (fun b hb hlt => ⟨hb, hlt⟩) hin) (Elts.mono (fun b hb hlt => ⟨hb, hlt⟩) h2)
  · refine ⟨h.grow.size, fun k o _ hk ho => (h.grow.block k (Array.getElem?_eq_some_iff.1 hk).1 (fun e => ?_)).trans hk⟩
    rcases h1.2 with ⟨e1, _⟩ | ⟨g, cap, cur, e1, _, e3, _⟩
    · rw [e1] at e; cases e
    · rw [e1] at e
      have : k = g := by simpa [Value.ownBlock] using e
      subst this
      rw [show w.heap[k]? = _ from e3] at hk
      obtain rfl := Option.some.inj hk
      cases ho
  · intro b hb
    rcases h.at_ with e2 | e2
    · exact .inl (e2 ▸ hb)
    · rw [e2] at hb; exact .inr (Option.some.inj hb).symm
end

end Go.Proofs.Ytgechlgdnnpoeaa

/- Rows of one's own whose elements lie in blocks that are told. -/
namespace Go.Proofs.Ytgechlgdnnpoeaa
open Go.RowKit Go
set_option linter.unusedVariables false
set_option linter.unusedSimpArgs false

section
variable {α β : Type} {E : Elt α} {E2 : Elt β} {S S' : Nat → Prop} {w w' : World} {e e2 c c2 n n2 : Nat} {a a2 : Option Addr} {l : List α} {l2 : List β}
/-- A row of one's own: its elements lie in blocks of 'S', none of which is the row's. -/
structure RowD (E : Elt α) (S : Nat → Prop) (w : World) (e : Nat) (a : Option Addr) (c n : Nat) (l : List α) : Prop where
  row : ∃ xs, w.ownsRow 0 e E.k (.slice a n c) n xs ∧ Elts E S w l xs
  len : n = l.length
  ne : ∀ b, S b → (Value.slice a n c).ownBlock ≠ some b
theorem RowD.nil : RowD E S w e none 0 0 ([] : List α) := ⟨⟨[], World.ownsRow_nil _ _ _ _, rfl⟩, rfl, fun _ _ h => (nomatch h)⟩
theorem RowD.rowE (h : RowD E S w e a c n l) : RowE E w 0 e a c n l := by
  obtain ⟨⟨xs, h1, h2⟩, h3, h4⟩ := h
  exact ⟨⟨xs, h1, Elts.mono (fun b hb _ => ⟨Nat.zero_le _, h4 b hb⟩) h2⟩, h3⟩
theorem RowD.lt (h : RowD E S w e a c n l) : ∀ b, (Value.slice a n c).ownBlock = some b → b < w.heap.size := fun b hb => (h.rowE.lt b hb).2
theorem RowD.mono (h : RowD E S w e a c n l) (hb : ∀ b, S b → b < w.heap.size → S' b) (hne : ∀ b, S' b → (Value.slice a n c).ownBlock ≠ some b) : RowD E S' w e a c n l := by
  obtain ⟨⟨xs, h1, h2⟩, h3, h4⟩ := h
  exact ⟨⟨xs, h1, Elts.mono hb h2⟩, h3, hne⟩
/-- Blocks of the row and of its elements are as they were. -/
theorem RowD.chg {Z : Nat → Prop} (h : RowD E S w e a c n l) (hc : Chg Z w w') (h1 : ∀ b, (Value.slice a n c).ownBlock = some b → ¬ Z b) (h2 : ∀ b, S b → ¬ Z b) : RowD E S w' e a c n l := by
  obtain ⟨⟨xs, k1, k2⟩, k3, k4⟩ := h
  refine ⟨⟨xs, ⟨k1.1, k1.2.imp id ?_⟩, Elts.keep (fun p v hp hv => ?_) k2⟩, k3, k4⟩
  · rintro ⟨g, cap, cur, e1, e2, e3, r⟩
    refine ⟨g, cap, cur, e1, e2, ?_, r⟩
    rw [hc.block g (Array.getElem?_eq_some_iff.1 e3).1 (h1 g (by rw [e1]; rfl))]; exact e3
  · have hb := World.block_lt_of_cell? _ _ hv
    unfold World.cell? at hv ⊢
    rw [hc.block p.block hb (h2 _ hp)]; exact hv
theorem RowD.below (h : RowD E S w e a c n l) (hb : Below w.heap.size w w') : RowD E S w' e a c n l := h.chg (Z := fun _ => False) (.ofBelow hb) (fun _ _ => id) (fun _ _ => id)
theorem RowD.inRow (h : RowD E S w e a c n l) : InRow E (fun _ => True) w l a ∧ n ≤ c ∧ c ≤ maxLen := by
  obtain ⟨h1, h2, h3, h4⟩ := h.rowE.inRow
  rcases Nat.eq_zero_or_pos E.k with hk | hk
  · exact ⟨fun i hi => by
      obtain ⟨b, o, cs, e1, _, e3, e4⟩ := h1 i hi
      exact ⟨b, o, cs, e1, trivial, E.mono (fun _ _ _ => trivial) e3, e4⟩, h3, h4⟩
  · exact ⟨h1.mono hk (fun _ _ _ => trivial), h3, h4⟩
theorem Elts.take : ∀ {l : List α} {xs : List Value} (k : Nat), Elts E S w l xs → Elts E S w (l.take k) (xs.take (k * E.k))
  | [], xs, k, h => by have : xs = [] := h; subst this; simp; exact rfl
  | x :: l, xs, 0, _ => by simp; exact rfl
  | x :: l, xs, k + 1, ⟨cs, r, e, h3, h4⟩ => by
    subst e
    refine ⟨cs, r.take (k * E.k), ?_, h3, Elts.take k h4⟩
    rw [List.take_append, E.len h3, Nat.add_mul, Nat.one_mul, Nat.add_sub_cancel, List.take_of_length_le (by rw [E.len h3]; omega)]
theorem RowD.take (h : RowD E S w e a c n l) (k : Nat) (hk : k ≤ n) : RowD E S w e a c k (l.take k) := by
  obtain ⟨⟨xs, h1, h2⟩, rfl, h4⟩ := h
  refine ⟨⟨xs.take (k * E.k), ⟨by rw [List.length_take, h1.1]; exact Nat.min_eq_left (Nat.mul_le_mul_right _ hk), ?_⟩, Elts.take k h2⟩, by simp; omega, fun b hb => by
    have := h4 b hb
    cases a <;> exact this⟩
  rcases h1.2 with ⟨e1, h0⟩ | ⟨g, cap, cur, e1, e2, e3, e4, e5, e6, e7⟩
  · simp only [Value.slice.injEq] at e1
    obtain ⟨rfl, e, rfl⟩ := e1
    left
    have : k = 0 := by omega
    subst this
    exact ⟨rfl, by simp⟩
  · right
    simp only [Value.slice.injEq, true_and] at e1
    obtain ⟨rfl, rfl⟩ := e1
    exact ⟨g, _, cur, rfl, e2, e3, by omega, e5, e6, by rw [← e7, List.take_take, Nat.min_eq_left (Nat.mul_le_mul_right _ hk)]⟩
theorem RowD.neBlk {g ty : Nat} {cs : Array Value} (h : RowD E S w e a c n l) (hB : Blk w g ty cs) (he : e ≠ ty) : (Value.slice a n c).ownBlock ≠ some g := h.rowE.neBlk hB he
end
section
variable {α : Type} {E : Elt α} {P : Program} {w : World} {a : Act} {K : Act → World → Prop} {Q : Exit → Act → World → Prop} {o : Oper} {S S2 : Nat → Prop}
/-- One element more, by append. -/
theorem wp_appD {s x : Operand} {t e : Nat} {z : Value} {size bytes n rc g1 : Nat} {ra : Option Addr} {l : List α} {y : α} {cs : List Value} (hk : E.k = size) (ht : P.underlying t = some (.slice e)) (hinfo : (P.info? e).map (fun i => (i.zero, i.size, i.bytes)) = some (some z, size, bytes)) (hzs : z.cells.size = size) (hsz : 0 < size)
    (ho : o.op = .call { callee := .builtin .append, args := #[s, x], argTypes := #[t, t] }) (hs : a.eval s = .slice ra n rc) (hx : a.eval x = .slice (some ⟨g1, 0, none⟩) 1 1) (hrow : RowD E S w e ra rc n l) (hB : Blk w g1 e cs.toArray) (hin : E.In S2 w y cs) (hS2 : ∀ b, S2 b → (Value.slice ra n rc).ownBlock ≠ some b)
    (hb : (n + 1) * bytes ≤ 140737488355328) (hn : n + 1 ≤ 9223372036854775807) (hK : ∀ ra' rc' w', RowD E (fun b => (S b ∨ S2 b) ∧ b < w.heap.size) w' e ra' rc' (n + 1) (l ++ [y]) → Chg (fun b => (Value.slice ra n rc).ownBlock = some b) w w' → (∀ b, (Value.slice ra' (n + 1) rc').ownBlock = some b → (Value.slice ra n rc).ownBlock = some b ∨ w.heap.size ≤ b) → K (a.put o.dst (.slice ra' (n + 1) rc')) w') : o.wp P a w K Q := by
  subst hk
  obtain ⟨⟨xs, h1, h2⟩, rfl, h4⟩ := hrow
  refine wp_app (m := 1) (news := cs) ht hinfo hzs hsz ho hs hx h1 (SrcIs.ofBlk hB) (by rw [E.len hin]; omega) (E.one hin) hb hn (Nat.zero_le _) (fun ra' rc' w' h => hK _ _ _ ?_ ⟨h.grow.os, h.grow.tape, h.grow.output, h.grow.size, fun k hk hSk => h.grow.block k hk (fun e => hSk e.symm)⟩ ?_)
  · have key : ∀ (p : Addr) (v : Value), (Value.slice ra l.length rc).ownBlock ≠ some p.block → w.cell? p = some v → w'.cell? p = some v := fun p v hp hv => h.grow.cell hv (Ne.symm hp)
    have ne2 : ∀ b, (S b ∨ S2 b) → (Value.slice ra l.length rc).ownBlock ≠ some b := fun b q => q.elim (h4 b) (hS2 b)
    refine ⟨⟨xs ++ cs, h.own, ?_⟩, by simp, fun b hb e => ?_⟩
    · refine Elts.keep (w := w) (fun p v hp hv => key p v (ne2 _ hp.1) hv) ?_
      exact Elts.snoc (E.mono (fun b hb hlt => ⟨.inr hb, hlt⟩) hin) (Elts.mono (fun b hb hlt => ⟨.inl hb, hlt⟩) h2)
    · rcases h.at_ with e2 | e2
      · exact ne2 b hb.1 (e2 ▸ e)
      · rw [e2] at e; have := Option.some.inj e; have := hb.2; omega
  · intro b hb
    rcases h.at_ with e2 | e2
    · exact .inl (e2 ▸ hb)
    · rw [e2] at hb; exact .inr (Nat.le_of_eq (Option.some.inj hb))
end

end Go.Proofs.Ytgechlgdnnpoeaa

/- Rows of bindings of the call's own: opened, written, cut. -/
namespace Go.Proofs.Ytgechlgdnnpoeaa
open Go.RowKit Go

abbrev BdV := Bd × Value × Value
def encB (x : BdV) : List Value := [.int .i64 x.1.var, x.2.1, x.2.2]
/-- What a row of bindings holds. -/
def BdOk (S : Nat → Prop) (w : World) (p : BdV) : Prop := I64 p.1.var ∧ InT S w p.1.t (.agg #[p.2.1, p.2.2])
theorem elts_bdv {S : Nat → Prop} {w : World} : ∀ {l : List Bd} {xs : List Value}, Elts eltB S w l xs → ∃ ds : List BdV, ds.map (·.1) = l ∧ xs = ds.flatMap encB ∧ ∀ p ∈ ds, BdOk S w p
  | [], _, h => ⟨[], rfl, h, fun p hp => nomatch hp⟩
  | x :: l, _, ⟨cs, r, e, ⟨u, v, e2, h0, h1⟩, h2⟩ => by
    obtain ⟨ds, h3, rfl, h5⟩ := elts_bdv h2
    refine ⟨(x, u, v) :: ds, by simp [h3], by rw [e, e2]; rfl, fun p hp => ?_⟩
    rcases List.mem_cons.1 hp with rfl | hp
    · exact ⟨h0, h1⟩
    · exact h5 p hp
theorem bdv_elts {S : Nat → Prop} {w : World} : ∀ {ds : List BdV}, (∀ p ∈ ds, BdOk S w p) → Elts eltB S w (ds.map (·.1)) (ds.flatMap encB)
  | [], _ => rfl
  | p :: ds, h => ⟨encB p, ds.flatMap encB, rfl, ⟨p.2.1, p.2.2, rfl, (h p (by simp)).1, (h p (by simp)).2⟩, bdv_elts fun q hq => h q (by simp [hq])⟩
theorem len_encB (ds : List BdV) : (ds.flatMap encB).length = ds.length * 3 := by
  induction ds with
  | nil => rfl
  | cons p r ih => rw [List.flatMap_cons, List.length_append, ih, List.length_cons]; show 3 + _ = _; omega

section
variable {w : World} {B e n rc g : Nat} {P : List Bd}
theorem own_some : (Value.slice (some ⟨g, 0, none⟩) n rc).ownBlock = some g := by simp [Value.ownBlock]
theorem RowE.open3 (h : RowE eltB w B e (some ⟨g, 0, none⟩) rc n P) : ∃ (cur : Array Value) (ds : List BdV), Blk w g e cur ∧ ds.map (·.1) = P ∧ (∀ p ∈ ds, BdOk (fun b => B ≤ b ∧ b ≠ g) w p) ∧ cur.toList.take (n * 3) = ds.flatMap encB ∧ n ≤ rc ∧ rc ≤ maxLen ∧ cur.size = rc * 3 ∧ B ≤ g ∧ n = P.length := by
  obtain ⟨⟨xs, h1, h2⟩, hl⟩ := h
  rcases h1.2 with ⟨e1, h0⟩ | ⟨b, cap, cur, e1, hB, hb, hcap, hm, hs, hx⟩
  · cases e1
  · simp only [Value.slice.injEq, true_and, Option.some.injEq, Addr.mk.injEq, and_true] at e1
    obtain ⟨rfl, rfl⟩ := e1
    obtain ⟨ds, h3, rfl, h5⟩ := elts_bdv h2
    have hk3 : eltB.k = 3 := rfl
    rw [hk3] at hs hx
    refine ⟨cur, ds, hb, h3, fun p hp => ⟨(h5 p hp).1, InT.mono (fun b hb _ => ⟨hb.1, fun e => hb.2 (by rw [own_some, e])⟩) (h5 p hp).2⟩, hx, hcap, hm, hs, hB, hl⟩
theorem RowE.mk3 {cur : Array Value} {ds : List BdV} (hb : Blk w g e cur) (hds : ∀ p ∈ ds, BdOk (fun b => B ≤ b ∧ b ≠ g) w p) (hx : cur.toList.take (n * 3) = ds.flatMap encB) (h1 : n ≤ rc) (h2 : rc ≤ maxLen) (h3 : cur.size = rc * 3) (hB : B ≤ g) (hn : n = ds.length) : RowE eltB w B e (some ⟨g, 0, none⟩) rc n (ds.map (·.1)) := by
  have hk3 : eltB.k = 3 := rfl
  refine ⟨⟨ds.flatMap encB, ⟨by rw [len_encB, hn, hk3], .inr ⟨g, rc, cur, rfl, hB, hb, h1, h2, by rw [hk3]; exact h3, by rw [hk3]; exact hx⟩⟩, bdv_elts fun p hp => ⟨(hds p hp).1, InT.mono (fun b hb _ => ⟨hb.1, fun e => hb.2 (by rw [own_some] at e; exact (Option.some.inj e).symm)⟩) (hds p hp).2⟩⟩, by simpa using hn⟩
theorem InRow.opts {S : Nat → Prop} (hg : ∀ k, k < n → ∃ p : Option Addr × Nat, w.cell? ⟨g, 0 + k * 3, none⟩ = some (.int .i64 (dget P k).var) ∧ w.cell? ⟨g, 0 + k * 3 + 1, none⟩ = some (.int .i64 (dget P k).t.f) ∧ w.cell? ⟨g, 0 + k * 3 + 2, none⟩ = some (.slice p.1 (dget P k).t.args.length p.2) ∧
      InT S w (dget P k).t (.agg #[.int .i64 (dget P k).t.f, .slice p.1 (dget P k).t.args.length p.2]) ∧ I64 (dget P k).var) : ∃ (A : Nat → Option Addr) (C : Nat → Nat), ∀ k, k < n → w.cell? ⟨g, 0 + k * 3, none⟩ = some (.int .i64 (dget P k).var) ∧ w.cell? ⟨g, 0 + k * 3 + 1, none⟩ = some (.int .i64 (dget P k).t.f) ∧ w.cell? ⟨g, 0 + k * 3 + 2, none⟩ = some (.slice (A k) (dget P k).t.args.length (C k)) ∧
      InT S w (dget P k).t (.agg #[.int .i64 (dget P k).t.f, .slice (A k) (dget P k).t.args.length (C k)]) ∧ I64 (dget P k).var := by
  have : Inhabited (Option Addr × Nat) := ⟨(none, 0)⟩
  obtain ⟨F, hF⟩ := Go.Deep.choose_lt hg
  exact ⟨fun k => (F k).1, fun k => (F k).2, hF⟩
theorem flat_at : ∀ (ds : List BdV) (k : Nat) (hk : k < ds.length) (j : Nat), j < 3 → (ds.flatMap encB)[k * 3 + j]? = (encB ds[k])[j]?
  | [], k, hk, _, _ => by simp at hk
  | p :: r, 0, _, j, hj => by rw [List.flatMap_cons, List.getElem?_append_left (by show 0 * 3 + j < 3; omega), Nat.zero_mul, Nat.zero_add]; rfl
  | p :: r, k + 1, hk, j, hj => by
    rw [List.flatMap_cons, List.getElem?_append_right (by show 3 ≤ _; omega)]
    show (r.flatMap encB)[(k + 1) * 3 + j - 3]? = _
    rw [show (k + 1) * 3 + j - 3 = k * 3 + j by omega, flat_at r k (by simpa using hk) j hj]; rfl
theorem RowE.cells (h : RowE eltB w B e (some ⟨g, 0, none⟩) rc n P) : ∃ (A : Nat → Option Addr) (C : Nat → Nat), ∀ k, k < n → w.cell? ⟨g, 0 + k * 3, none⟩ = some (.int .i64 (dget P k).var) ∧ w.cell? ⟨g, 0 + k * 3 + 1, none⟩ = some (.int .i64 (dget P k).t.f) ∧ w.cell? ⟨g, 0 + k * 3 + 2, none⟩ = some (.slice (A k) (dget P k).t.args.length (C k)) ∧
      InT (fun b => B ≤ b ∧ b ≠ g) w (dget P k).t (.agg #[.int .i64 (dget P k).t.f, .slice (A k) (dget P k).t.args.length (C k)]) ∧ I64 (dget P k).var := by
  obtain ⟨cur, ds, h1, rfl, h3, h4, h5, h6, h7, h8, h9⟩ := h.open3
  refine InRow.opts fun k hk => ?_
  have hkd : k < ds.length := by simpa [h9] using hk
  have hp := h3 ds[k] (List.getElem_mem hkd)
  have hd : dget (ds.map (·.1)) k = ds[k].1 := by rw [dget_lt (by simpa using hkd)]; simp
  obtain ⟨_, p, c, e, _, _, _⟩ := hp.2.form
  simp only [Value.agg.injEq, Array.mk.injEq, List.cons.injEq, and_true] at e
  have hc : ∀ j, j < 3 → w.cell? ⟨g, 0 + k * 3 + j, none⟩ = (encB ds[k])[j]? := fun j hj => by
    rw [h1.cell, ← flat_at ds k hkd j hj, ← h4, List.getElem?_take_of_lt (by omega), Array.getElem?_toList, Nat.zero_add]
  have c0 := hc 0 (by decide)
  have c1 := hc 1 (by decide)
  have c2 := hc 2 (by decide)
  simp only [encB] at c0 c1 c2
  rw [hd]
  refine ⟨(p, c), c0, c1.trans (by rw [← e.1]; rfl), c2.trans (by rw [← e.2]; rfl), ?_, hp.1⟩
  rw [← e.1, ← e.2]; exact hp.2
theorem flat_set : ∀ (ds : List BdV) (i : Nat) (x : BdV), i < ds.length → (((ds.flatMap encB).set (i * 3) (.int .i64 x.1.var)).set (i * 3 + 1) x.2.1).set (i * 3 + 2) x.2.2 = (ds.set i x).flatMap encB
  | [], i, x, h => by simp at h
  | p :: r, 0, x, _ => by simp [List.flatMap_cons, encB]
  | p :: r, i + 1, x, h => by
    have ih := flat_set r i x (by simpa using h)
    rw [List.set_cons_succ, List.flatMap_cons, List.flatMap_cons, ← ih]
    have e3 : ∀ k v, 3 ≤ k → ∀ l : List Value, (encB p ++ l).set k v = encB p ++ l.set (k - 3) v := fun k v hk l => by rw [List.set_append_right _ _ (show (encB p).length ≤ k from hk)]; rfl
    rw [e3 _ _ (by omega), e3 _ _ (by omega), e3 _ _ (by omega), show (i + 1) * 3 - 3 = i * 3 by omega, show (i + 1) * 3 + 1 - 3 = i * 3 + 1 by omega, show (i + 1) * 3 + 2 - 3 = i * 3 + 2 by omega]
theorem RowE.store3 (h : RowE eltB w B e (some ⟨g, 0, none⟩) rc n P) {i : Nat} (hi : i < n) {x : Bd} {u v : Value} (hx : I64 x.var) (hin : InT (fun b => B ≤ b ∧ b ≠ g) w x.t (.agg #[u, v])) :
    RowE eltB (((w.setCell ⟨g, 0 + i * 3, none⟩ (.int .i64 x.var)).setCell ⟨g, 0 + i * 3 + 1, none⟩ u).setCell ⟨g, 0 + i * 3 + 2, none⟩ v) B e (some ⟨g, 0, none⟩) rc n (P.set i x) := by
  obtain ⟨cur, ds, h1, rfl, h3, h4, h5, h6, h7, h8, h9⟩ := h.open3
  have hu : Upd g w (((w.setCell ⟨g, 0 + i * 3, none⟩ (.int .i64 x.var)).setCell ⟨g, 0 + i * 3 + 1, none⟩ u).setCell ⟨g, 0 + i * 3 + 2, none⟩ v) := ((Upd.at_ _ _ _ _).trans (Upd.at_ _ _ _ _)).trans (Upd.at_ _ _ _ _)
  have hk : ∀ (p : Addr) (v' : Value), (B ≤ p.block ∧ p.block ≠ g) → w.cell? p = some v' → (((w.setCell ⟨g, 0 + i * 3, none⟩ (.int .i64 x.var)).setCell ⟨g, 0 + i * 3 + 1, none⟩ u).setCell ⟨g, 0 + i * 3 + 2, none⟩ v).cell? p = some v' := fun p v' hp hv => by
    have e := hu.block p.block hp.2
    unfold World.cell? at hv ⊢
    rw [e]; exact hv
  have hil : i < ds.length := by simpa [h9] using hi
  have e1 : (ds.map (·.1)).set i x = (ds.set i (x, u, v)).map (·.1) := by rw [List.map_set]
  rw [e1]
  have hB3 := ((h1.set_ (0 + i * 3) (.int .i64 x.var)).set_ (0 + i * 3 + 1) u).set_ (0 + i * 3 + 2) v
  refine RowE.mk3 hB3 (fun p hp => ?_) ?_ h5 h6 (by simpa using h7) h8 (by simpa using h9)
  · rcases List.mem_or_eq_of_mem_set hp with hp | rfl
    · exact ⟨(h3 p hp).1, InT.keep hk (h3 p hp).2⟩
    · exact ⟨hx, InT.keep hk hin⟩
  · rw [← flat_set ds i (x, u, v) hil, ← h4]
    simp only [Array.toList_setIfInBounds, List.take_set, Nat.zero_add]

theorem setCells_up : ∀ (vs : List Value) (o : Nat) (w : World) (cs : Array Value), Blk w g e cs → ∃ cs', Blk (w.setCells g o vs) g e cs' ∧ cs'.size = cs.size ∧ (∀ k, k < o → cs'[k]? = cs[k]?) ∧ Upd g w (w.setCells g o vs)
  | [], _, _, cs, h => ⟨cs, h, rfl, fun _ _ => rfl, ⟨rfl, rfl, rfl, rfl, fun _ _ => rfl⟩⟩
  | v :: r, o, w, cs, h => by
    obtain ⟨cs', h1, h2, h3, h4⟩ := setCells_up r (o + 1) _ _ (h.set_ o v)
    refine ⟨cs', h1, by simpa using h2, fun k hk => ?_, (Upd.at_ _ _ _ _).trans h4⟩
    rw [h3 k (by omega), Array.getElem?_setIfInBounds_ne (by omega)]
theorem RowE.cut3 (h : RowE eltB w B e (some ⟨g, 0, none⟩) rc n P) {i : Nat} (hi : i ≤ n) (vs : List Value) : RowE eltB (w.setCells g (0 + i * 3) vs) B e (some ⟨g, 0, none⟩) rc i (P.take i) ∧ Upd g w (w.setCells g (0 + i * 3) vs) := by
  obtain ⟨cur, ds, h1, rfl, h3, h4, h5, h6, h7, h8, h9⟩ := h.open3
  obtain ⟨cs', k1, k2, k3, hu⟩ := setCells_up vs (0 + i * 3) w cur h1
  have hk : ∀ (p : Addr) (v' : Value), (B ≤ p.block ∧ p.block ≠ g) → w.cell? p = some v' → (w.setCells g (0 + i * 3) vs).cell? p = some v' := fun p v' hp hv => by
    have e := hu.block p.block hp.2
    unfold World.cell? at hv ⊢
    rw [e]; exact hv
  have hlen : ds.length = n := by simpa using h9.symm
  refine ⟨?_, hu⟩
  rw [← List.map_take]
  refine RowE.mk3 k1 (fun p hp => ⟨(h3 p (List.mem_of_mem_take hp)).1, InT.keep hk (h3 p (List.mem_of_mem_take hp)).2⟩) ?_ (by omega) h6 (by omega) h8 (by simp; omega)
  apply List.ext_getElem?
  intro k
  by_cases hlt : k < i * 3
  · rw [List.getElem?_take_of_lt hlt, Array.getElem?_toList, k3 k (by omega)]
    have this : (cur.toList.take (n * 3))[k]? = (ds.flatMap encB)[k]? := by rw [h4]
    rw [List.getElem?_take_of_lt (by omega), Array.getElem?_toList] at this
    rw [this]
    have hd := (List.take_append_drop i ds)
    conv => lhs; rw [← hd, List.flatMap_append]
    rw [List.getElem?_append_left (by rw [len_encB]; simp; omega)]
  · rw [List.getElem?_eq_none (by simp; omega), List.getElem?_eq_none (by rw [len_encB]; simp; omega)]
theorem RowE.nilOr {ra : Option Addr} (h : RowE eltB w B e ra rc n P) : (ra = none ∧ n = 0 ∧ rc = 0 ∧ P = []) ∨ ∃ g, ra = some ⟨g, 0, none⟩ := by
  obtain ⟨⟨xs, h1, h2⟩, hl⟩ := h
  rcases h1.2 with ⟨e1, h0⟩ | ⟨b, cap, cur, e1, _⟩
  · simp only [Value.slice.injEq] at e1
    obtain ⟨rfl, rfl, rfl⟩ := e1
    exact .inl ⟨rfl, rfl, rfl, List.length_eq_zero_iff.1 hl.symm⟩
  · simp only [Value.slice.injEq] at e1
    exact .inr ⟨b, e1.1⟩
end

end Go.Proofs.Ytgechlgdnnpoeaa

/- Variables named anew, in the order in which they come: plain; how what was named lies in memory. -/
namespace Go.Proofs.Ytgechlgdnnpoeaa
open Go.RowKit Go
set_option linter.unusedVariables false
set_option linter.unusedSimpArgs false

/-- The number of a variable: its place. -/
def nmIx : List Int → Int → Nat → Option Nat
  | [], _, _ => none
  | u :: r, v, k => if v = u then some k else nmIx r v (k + 1)
def nmL : List Int → Nat → List (Int × Value)
  | [], _ => []
  | u :: r, k => (u, .int .i64 (k : Nat)) :: nmL r (k + 1)
def nmB : List Int → Nat → List Bd
  | [], _ => []
  | u :: r, k => (if (k : Int) = u then [] else [⟨u, .mk (-1 - (k : Int)) []⟩]) ++ nmB r (k + 1)
/-- What is answered for a variable, and what is named then. -/
def nmTo (ns : List Int) (v : Int) : Nat × List Int := match nmIx ns v 0 with | some i => (i, ns) | none => (ns.length, ns ++ [v])
theorem nmL_len : ∀ (ns : List Int) (k : Nat), (nmL ns k).length = ns.length
  | [], _ => rfl
  | u :: r, k => by simp [nmL, nmL_len r]
theorem nmL_snoc : ∀ (ns : List Int) (v : Int) (k : Nat), nmL (ns ++ [v]) k = nmL ns k ++ [(v, .int .i64 ((k + ns.length : Nat) : Int))]
  | [], v, k => rfl
  | u :: r, v, k => by
    rw [List.cons_append, nmL, nmL, nmL_snoc r v (k + 1), List.cons_append, List.length_cons, show k + 1 + r.length = k + (r.length + 1) by omega]
theorem nmB_snoc : ∀ (ns : List Int) (v : Int) (k : Nat), nmB (ns ++ [v]) k = nmB ns k ++ (if ((k + ns.length : Nat) : Int) = v then [] else [⟨v, .mk (-1 - ((k + ns.length : Nat) : Int)) []⟩])
  | [], v, k => by simp [nmB]
  | u :: r, v, k => by
    rw [List.cons_append, nmB, nmB, nmB_snoc r v (k + 1), List.append_assoc, List.length_cons, show k + 1 + r.length = k + (r.length + 1) by omega]
theorem nmB_len : ∀ (ns : List Int) (k : Nat), (nmB ns k).length ≤ ns.length
  | [], _ => Nat.le_refl _
  | u :: r, k => by
    have := nmB_len r (k + 1)
    rw [nmB, List.length_append, List.length_cons]
    split <;> simp <;> omega
theorem nm_find : ∀ (ns : List Int) (v : Int) (k j : Nat), imFind (nmL ns k) v j = (nmIx ns v k).map (fun i => (j + (i - k), .int .i64 (i : Nat)))
  | [], v, k, j => rfl
  | u :: r, v, k, j => by
    rw [nmL, imFind, nmIx]
    by_cases h : v = u
    · rw [if_pos h, if_pos h]; simp
    · rw [if_neg h, if_neg h, nm_find r v (k + 1) (j + 1)]
      cases hx : nmIx r v (k + 1) with
      | none => rfl
      | some i =>
        have : k + 1 ≤ i := by
          clear h
          revert hx
          generalize k + 1 = m
          induction r generalizing m with
          | nil => intro hx; cases hx
          | cons a r ih =>
            intro hx
            rw [nmIx] at hx
            split at hx
            · cases hx; exact Nat.le_refl _
            · have := ih (m + 1) hx; omega
        simp; omega
theorem nm_look (ns : List Int) (v : Int) : imLook (nmL ns 0) v = (nmIx ns v 0).map (fun i => .int .i64 (i : Nat)) := by
  unfold imLook
  rw [nm_find]
  cases nmIx ns v 0 <;> rfl
theorem nm_none {ns : List Int} {v : Int} (h : nmIx ns v 0 = none) : ∀ x ∈ nmL ns 0, x.1 ≠ v := by
  have := nm_find ns v 0 0
  rw [h] at this
  exact imFind_none.1 this
theorem nmIx_lt : ∀ {ns : List Int} {v : Int} {k i : Nat}, nmIx ns v k = some i → i < k + ns.length
  | [], _, _, _, h => nomatch h
  | u :: r, v, k, i, h => by
    rw [nmIx] at h
    rw [List.length_cons]
    split at h
    · cases h; omega
    · have := nmIx_lt h; omega
theorem nmTo_len (ns : List Int) (v : Int) : ns.length ≤ (nmTo ns v).2.length ∧ (nmTo ns v).2.length ≤ ns.length + 1 ∧ (nmTo ns v).1 ≤ ns.length := by
  unfold nmTo
  cases h : nmIx ns v 0 with
  | none => simp
  | some i => have := nmIx_lt h; simp; omega
mutual
/-- A term, its variables named anew. -/
def T.rn : T → List Int → T × List Int
  | .mk f l, ns => if f < 0 then (.mk (-1 - ((nmTo ns (-1 - f)).1 : Int)) (T.rnL l (nmTo ns (-1 - f)).2).1, (T.rnL l (nmTo ns (-1 - f)).2).2) else (.mk f (T.rnL l ns).1, (T.rnL l ns).2)
def T.rnL : List T → List Int → List T × List Int
  | [], ns => ([], ns)
  | t :: r, ns => ((t.rn ns).1 :: (T.rnL r (t.rn ns).2).1, (T.rnL r (t.rn ns).2).2)
end
theorem rnL_len : ∀ (l : List T) (ns : List Int), (T.rnL l ns).1.length = l.length
  | [], _ => rfl
  | t :: r, ns => by rw [T.rnL, List.length_cons, List.length_cons, rnL_len r]
theorem rnL_snoc : ∀ (l : List T) (t : T) (ns : List Int), T.rnL (l ++ [t]) ns = ((T.rnL l ns).1 ++ [(t.rn (T.rnL l ns).2).1], (t.rn (T.rnL l ns).2).2)
  | [], t, ns => rfl
  | x :: l, t, ns => by rw [List.cons_append, T.rnL, T.rnL, rnL_snoc l t]; rfl
theorem rnL_take {l : List T} {k : Nat} (h : k < l.length) (ns : List Int) : T.rnL (l.take (k + 1)) ns = ((T.rnL (l.take k) ns).1 ++ [((tget l k).rn (T.rnL (l.take k) ns).2).1], ((tget l k).rn (T.rnL (l.take k) ns).2).2) := by
  rw [List.take_succ_eq_append_getElem h, rnL_snoc, tget_lt h]
mutual
theorem T.rn_len : ∀ (t : T) (ns : List Int), ns.length ≤ (t.rn ns).2.length ∧ (t.rn ns).2.length ≤ ns.length + t.size
  | .mk f l, ns => by
    rw [T.rn, T.size]
    split
    · have h1 := nmTo_len ns (-1 - f)
      have h2 := T.rnL_len' l (nmTo ns (-1 - f)).2
      simp only; omega
    · have h2 := T.rnL_len' l ns
      simp only; omega
theorem T.rnL_len' : ∀ (l : List T) (ns : List Int), ns.length ≤ (T.rnL l ns).2.length ∧ (T.rnL l ns).2.length ≤ ns.length + T.sizeL l
  | [], ns => by simp [T.rnL, T.sizeL]
  | t :: r, ns => by
    have h1 := T.rn_len t ns
    have h2 := T.rnL_len' r (t.rn ns).2
    rw [T.rnL, T.sizeL]
    simp only; omega
end
/-- What was named, in memory: the box of the map, the box of the bindings. -/
structure NmIn (w : World) (gn gs : Nat) (ns : List Int) (C : Nat → Prop) (mb : Nat) (es : Array MapEntry) (cl : Nat) (a : Option Addr) (c : Nat) : Prop where
  bn : Blk w gn 75 #[.map (some mb)]
  mp : ObjAt w mb (.map es cl)
  ent : ImE es cl (nmL ns 0)
  bs : Blk w gs 23 #[.slice a (nmB ns 0).length c]
  row : RowD eltB (fun _ => False) w 56 a c (nmB ns 0).length (nmB ns 0)
  ne : gn ≠ gs
  cn : C gn
  cs : C gs
  cm : C mb
  crow : ∀ b, (Value.slice a (nmB ns 0).length c).ownBlock = some b → C b
  clt : ∀ b, C b → b < w.heap.size
def NmAt (w : World) (gn gs : Nat) (ns : List Int) (C : Nat → Prop) : Prop := ∃ mb es cl a c, NmIn w gn gs ns C mb es cl a c
section
variable {w w' : World} {gn gs : Nat} {ns : List Int} {C S : Nat → Prop} {mb : Nat} {es : Array MapEntry} {cl : Nat} {a : Option Addr} {c : Nat}
theorem NmIn.chg (h : NmIn w gn gs ns C mb es cl a c) (hc : Chg S w w') (hS : ∀ b, C b → ¬ S b) : NmIn w' gn gs ns C mb es cl a c :=
  ⟨chg_blk h.bn hc (hS _ h.cn), h.mp.chg hc (hS _ h.cm), h.ent, chg_blk h.bs hc (hS _ h.cs), h.row.chg hc (fun b q => hS b (h.crow b q)) (fun _ q => q.elim), h.ne, h.cn, h.cs, h.cm, h.crow, fun b q => Nat.lt_of_lt_of_le (h.clt b q) hc.size⟩
theorem NmAt.chg (h : NmAt w gn gs ns C) (hc : Chg S w w') (hS : ∀ b, C b → ¬ S b) : NmAt w' gn gs ns C := by
  obtain ⟨mb, es, cl, a, c, h⟩ := h
  exact ⟨mb, es, cl, a, c, h.chg hc hS⟩
theorem NmAt.below (h : NmAt w gn gs ns C) (hb : Below w.heap.size w w') : NmAt w' gn gs ns C := h.chg (S := fun _ => False) (.ofBelow hb) (fun _ _ => id)
theorem NmAt.clt (h : NmAt w gn gs ns C) : ∀ b, C b → b < w.heap.size := by
  obtain ⟨mb, es, cl, a, c, h⟩ := h
  exact h.clt
theorem NmIn.rown (h : NmIn w gn gs ns C mb es cl a c) : (Value.slice a (nmB ns 0).length c).ownBlock ≠ some gn := h.row.neBlk h.bn (by decide)
theorem NmIn.rows (h : NmIn w gn gs ns C mb es cl a c) : (Value.slice a (nmB ns 0).length c).ownBlock ≠ some gs := h.row.neBlk h.bs (by decide)
theorem NmIn.rowm (h : NmIn w gn gs ns C mb es cl a c) : (Value.slice a (nmB ns 0).length c).ownBlock ≠ some mb := h.row.rowE.neMap h.mp
theorem NmIn.mn (h : NmIn w gn gs ns C mb es cl a c) : gn ≠ mb := h.mp.neBlk h.bn
theorem NmIn.ms (h : NmIn w gn gs ns C mb es cl a c) : gs ≠ mb := h.mp.neBlk h.bs
end

end Go.Proofs.Ytgechlgdnnpoeaa

/- Terms whose variables have no arguments. -/
namespace Go.Proofs.Ytgechlgdnnpoeaa
open Go.RowKit Go
set_option linter.unusedVariables false
set_option linter.unusedSimpArgs false

mutual
def T.plain : T → Bool
  | .mk f l => T.plainL l && (decide (0 ≤ f) || l.isEmpty)
def T.plainL : List T → Bool
  | [] => true
  | t :: r => t.plain && T.plainL r
end
theorem plainL_mem : ∀ {l : List T}, T.plainL l = true ↔ ∀ t ∈ l, t.plain = true
  | [] => by simp [T.plainL]
  | t :: r => by rw [T.plainL, Bool.and_eq_true, plainL_mem (l := r)]; simp
theorem plain_all {f : Int} {l : List T} (h : ∀ i, i < l.length → (tget l i).plain = true) : (T.mk f l).plain = (decide (0 ≤ f) || l.isEmpty) := by
  rw [T.plain, plainL_mem.2 (fun t ht => ?_), Bool.true_and]
  obtain ⟨i, hi, rfl⟩ := List.getElem_of_mem ht
  have := h i hi
  rwa [tget_lt hi] at this
theorem plain_no {f : Int} {l : List T} {k : Nat} (hk : k < l.length) (h : (tget l k).plain = false) : (T.mk f l).plain = false := by
  rw [T.plain]
  have : T.plainL l = false := by
    rw [Bool.eq_false_iff]; intro hp
    rw [plainL_mem.1 hp _ (tget_mem hk)] at h; cases h
  rw [this]; rfl
theorem plain_var {f : Int} {l : List T} (h1 : f < 0) (h2 : 0 < l.length) : (T.mk f l).plain = false := by
  rw [T.plain, decide_eq_false (by omega), Bool.false_or]
  have : l.isEmpty = false := by cases l with | nil => simp at h2 | cons _ _ => rfl
  rw [this, Bool.and_false]
theorem plain_yes {f : Int} {l : List T} (h0 : ¬ (f < 0 ∧ 0 < l.length)) (h : ∀ i, i < l.length → (tget l i).plain = true) : (T.mk f l).plain = true := by
  rw [plain_all h, Bool.or_eq_true, decide_eq_true_eq]
  rcases Int.lt_or_le f 0 with q | q
  · right
    have : l.length = 0 := by omega
    rw [List.length_eq_zero_iff.1 this]; rfl
  · exact .inl q
theorem plain_nil {f : Int} {l : List T} (h : (T.mk f l).plain = true) (hf : f < 0) : l = [] := by
  rw [T.plain, Bool.and_eq_true, decide_eq_false (by omega), Bool.false_or] at h
  exact List.isEmpty_iff.1 h.2
theorem plain_args {f : Int} {l : List T} (h : (T.mk f l).plain = true) : T.plainL l = true := by
  rw [T.plain, Bool.and_eq_true] at h; exact h.1
end Go.Proofs.Ytgechlgdnnpoeaa

/- Small terms: plain. -/
namespace Go.Proofs.Ytgechlgdnnpoeaa
open Go.RowKit Go
set_option linter.unusedVariables false
set_option linter.unusedSimpArgs false

mutual
def T.dep : T → Nat
  | .mk _ l => T.depL l + 1
def T.depL : List T → Nat
  | [] => 0
  | t :: r => max t.dep (T.depL r)
end
mutual
def T.low (m : Int) : T → Bool
  | .mk f l => if f < 0 then decide (-m ≤ f) && decide (l.length = 0) else T.lowL m l
def T.lowL (m : Int) : List T → Bool
  | [] => true
  | t :: r => t.low m && T.lowL m r
end
def T.small (m : Int) (t : T) : Bool := decide (t.size ≤ 300) && decide (t.dep ≤ 30) && t.low m
theorem depL_snoc : ∀ (l : List T) (t : T), T.depL (l ++ [t]) = max (T.depL l) t.dep
  | [], t => by simp [T.depL]
  | x :: l, t => by rw [List.cons_append, T.depL, T.depL, depL_snoc l t, Nat.max_assoc]
theorem depL_take {l : List T} {k : Nat} (h : k < l.length) : T.depL (l.take (k + 1)) = max (T.depL (l.take k)) (tget l k).dep := by
  rw [List.take_succ_eq_append_getElem h, depL_snoc, tget_lt h]
theorem sizeL_snoc : ∀ (l : List T) (t : T), T.sizeL (l ++ [t]) = T.sizeL l + t.size
  | [], t => by simp [T.sizeL]
  | x :: l, t => by rw [List.cons_append, T.sizeL, T.sizeL, sizeL_snoc l t, Nat.add_assoc]
theorem sizeL_take1 {l : List T} {k : Nat} (h : k < l.length) : T.sizeL (l.take (k + 1)) = T.sizeL (l.take k) + (tget l k).size := by
  rw [List.take_succ_eq_append_getElem h, sizeL_snoc, tget_lt h]
mutual
theorem T.dep_le : ∀ t : T, t.dep ≤ t.size
  | .mk f l => by rw [T.dep, T.size]; have := T.depL_le l; omega
theorem T.depL_le : ∀ l : List T, T.depL l ≤ T.sizeL l
  | [] => Nat.le_refl _
  | t :: r => by rw [T.depL, T.sizeL]; have := T.dep_le t; have := T.depL_le r; omega
end
theorem depL_take_le {l : List T} {k : Nat} : T.depL (l.take k) ≤ T.sizeL l := by
  have h1 := T.depL_le (l.take k)
  have h2 : T.sizeL (l.take k) ≤ T.sizeL l := T.sizeL_take_le l k
  omega
theorem lowL_mem {m : Int} : ∀ {l : List T}, T.lowL m l = true ↔ ∀ t ∈ l, t.low m = true
  | [] => by simp [T.lowL]
  | t :: r => by rw [T.lowL, Bool.and_eq_true, lowL_mem (l := r)]; simp
theorem low_yes {m f : Int} {l : List T} (hf : ¬ f < 0) (h : ∀ i, i < l.length → (tget l i).low m = true) : (T.mk f l).low m = true := by
  rw [T.low, if_neg hf]
  refine lowL_mem.2 fun t ht => ?_
  obtain ⟨i, hi, rfl⟩ := List.getElem_of_mem ht
  have := h i hi
  rwa [tget_lt hi] at this
theorem low_no {m f : Int} {l : List T} {k : Nat} (hf : ¬ f < 0) (hk : k < l.length) (h : ¬ (tget l k).low m = true) : (T.mk f l).low m = false := by
  rw [T.low, if_neg hf, Bool.eq_false_iff]
  intro e
  exact h (lowL_mem.1 e _ (tget_mem hk))
mutual
theorem T.low_plain {m : Int} : ∀ t : T, t.low m = true → t.plain = true
  | .mk f l, h => by
    rw [T.low] at h
    rw [T.plain]
    split at h
    · rw [Bool.and_eq_true, decide_eq_true_eq, decide_eq_true_eq] at h
      have : l = [] := List.length_eq_zero_iff.1 h.2
      subst this
      simp [T.plainL]
    · rename_i hf
      rw [T.lowL_plain l h, decide_eq_true (show 0 ≤ f by omega)]; rfl
theorem T.lowL_plain {m : Int} : ∀ l : List T, T.lowL m l = true → T.plainL l = true
  | [], _ => rfl
  | t :: r, h => by
    rw [T.lowL, Bool.and_eq_true] at h
    rw [T.plainL, T.low_plain t h.1, T.lowL_plain r h.2]; rfl
end
theorem small_plain {m : Int} {t : T} (h : t.small m = true) : t.plain = true := by
  unfold T.small at h
  rw [Bool.and_eq_true] at h
  exact T.low_plain t h.2
mutual
/-- The variables of a term. -/
def T.hasV (v : Int) : T → Prop
  | .mk f l => (f < 0 ∧ v = -1 - f) ∨ T.hasVL v l
def T.hasVL (v : Int) : List T → Prop
  | [] => False
  | t :: r => t.hasV v ∨ T.hasVL v r
end
theorem hasVL_mem {v : Int} : ∀ {l : List T}, T.hasVL v l ↔ ∃ t ∈ l, t.hasV v
  | [] => by simp [T.hasVL]
  | t :: r => by rw [T.hasVL, hasVL_mem (l := r)]; simp
/-- A row of variables of those that were there, or of terms. -/
def VarsOf (l0 : List Int) (q : Int → Prop) (l : List Int) : Prop := ∀ x ∈ l, x ∈ l0 ∨ q x

end Go.Proofs.Ytgechlgdnnpoeaa

/- A term that is made while variables are named. -/
namespace Go.Proofs.Ytgechlgdnnpoeaa
open Go.RowKit Go
set_option linter.unusedVariables false
set_option linter.unusedSimpArgs false

section
variable {α : Type} {E : Elt α} {S : Nat → Prop} {w : World} {e c n : Nat} {a : Option Addr} {l : List α}
theorem RowD.inRowS (h : RowD E S w e a c n l) : InRow E (fun b => S b ∨ (Value.slice a n c).ownBlock = some b) w l a := by
  obtain ⟨⟨xs, h1, h2⟩, rfl, h9⟩ := h
  rcases h1.2 with ⟨e1, h0⟩ | ⟨g, cap, cur, e1, hg, hb, hc, hm, _, _⟩
  · simp only [Value.slice.injEq] at e1
    exact fun i hi => by omega
  · have e1' := e1
    simp only [Value.slice.injEq, true_and] at e1'
    obtain ⟨rfl, rfl⟩ := e1'
    intro i hi
    obtain ⟨cs, h3, h4⟩ := h2.at_ i hi
    refine ⟨g, 0, cs, rfl, .inr (by simp [Value.ownBlock]), E.mono (fun b hb _ => .inl hb) h3, fun j hj => ?_⟩
    have hjl : j < cs.length := by rw [E.len h3]; exact hj
    have hx := h4 j hj
    rw [List.getElem?_eq_getElem hjl] at hx ⊢
    have := h1.cells (g := g) rfl _ _ hx
    rw [add_plain2] at this
    rwa [show 0 + i * E.k + j = 0 + (i * E.k + j) by omega]
theorem inT_row {S : Nat → Prop} {f : Int} {ts : List T} {ra : Option Addr} {n rc : Nat} {N : Nat → Prop} (hf : I64 f) (h : RowD eltT N w e ra rc n ts) (hN : ∀ b, N b → S b) (ho : ∀ b, (Value.slice ra n rc).ownBlock = some b → S b) : InT S w (.mk f ts) (.agg #[.int .i64 f, .slice ra n rc]) := by
  have hr := h.inRow
  have hl := h.len
  subst hl
  exact ⟨hf, ra, rc, rfl, hr.2.1, hr.2.2, (h.inRowS.mono (by decide) (fun b q _ => q.elim (hN b) (ho b))).ts⟩
end
/-- The state: what was named; the row of the arguments so far. 'C0': what the names owned at first, 'N': what is new. -/
def RnSt (C0 N : Nat → Prop) (gn gs : Nat) (ns : List Int) (L : List T) (ra : Option Addr) (rc n : Nat) (w : World) : Prop := ∃ C, NmAt w gn gs ns C ∧ (∀ b, C b → C0 b ∨ N b) ∧ RowD eltT (fun b => N b ∧ ¬ C b ∧ (Value.slice ra n rc).ownBlock ≠ some b) w 32 ra rc n L ∧ (∀ b, (Value.slice ra n rc).ownBlock = some b → N b ∧ ¬ C b)
section
variable {C0 N N' : Nat → Prop} {gn gs : Nat} {ns : List Int} {L : List T} {ra : Option Addr} {rc n : Nat} {w w' : World}
theorem RnSt.below (h : RnSt C0 N gn gs ns L ra rc n w) (hb : Below w.heap.size w w') : RnSt C0 N gn gs ns L ra rc n w' := by
  obtain ⟨C, h1, h2, h3, h4⟩ := h
  exact ⟨C, h1.below hb, h2, h3.below hb, h4⟩
theorem RnSt.mono (h : RnSt C0 N gn gs ns L ra rc n w) (hN : ∀ b, N b → b < w.heap.size → N' b) : RnSt C0 N' gn gs ns L ra rc n w := by
  obtain ⟨C, h1, h2, h3, h4⟩ := h
  exact ⟨C, h1, fun b q => (h2 b q).imp id (fun q2 => hN b q2 (h1.clt b q)), h3.mono (fun b q q2 => ⟨hN b q.1 q2, q.2⟩) (fun b q => q.2.2), fun b q => ⟨hN b (h4 b q).1 (h3.lt b q), (h4 b q).2⟩⟩
theorem RnSt.chg {S : Nat → Prop} (h : RnSt C0 N gn gs ns L ra rc n w) (hc : Chg S w w') (h0 : ∀ b, C0 b → ¬ S b) (h1 : ∀ b, N b → ¬ S b) : RnSt C0 N gn gs ns L ra rc n w' := by
  obtain ⟨C, k1, k2, k3, k4⟩ := h
  exact ⟨C, k1.chg hc (fun b q => (k2 b q).elim (h0 b) (h1 b)), k2, k3.chg hc (fun b q => h1 b (k4 b q).1) (fun b q => h1 b q.1), k4⟩
theorem RnSt.start {C : Nat → Prop} (h : NmAt w gn gs ns C) (hC : ∀ b, C b → C0 b ∨ N b) : RnSt C0 N gn gs ns [] none 0 0 w := ⟨C, h, hC, RowD.nil, fun b q => (nomatch q)⟩
/-- What the region finds: a term is made, a row of it alone, it is appended, it is stored. -/
theorem RnSt.join {C1 C2 Z : Nat → Prop} {w0 : World} {xk : T} {ra2 : Option Addr} {rc2 : Nat} {ns2 : List Int} (h2 : ∀ b, C1 b → C0 b ∨ N b) (h3 : ∀ b, (Value.slice ra n rc).ownBlock = some b → N b ∧ ¬ C1 b) (h3l : ∀ b, (Value.slice ra n rc).ownBlock = some b → b < w0.heap.size) (hN : ∀ b, w0.heap.size ≤ b → N b) (k1 : NmAt w' gn gs ns2 C2) (k2 : ∀ b, C2 b → C1 b ∨ w0.heap.size ≤ b)
    (k3 : RowD eltT Z w' 32 ra2 rc2 (n + 1) (L ++ [xk])) (k4 : ∀ b, Z b → (N b ∧ ¬ C1 b ∧ b < w0.heap.size) ∨ (w0.heap.size ≤ b ∧ ¬ C2 b)) (k5 : ∀ b, (Value.slice ra2 (n + 1) rc2).ownBlock = some b → (Value.slice ra n rc).ownBlock = some b ∨ (w0.heap.size ≤ b ∧ ¬ C2 b)) : RnSt C0 N gn gs ns2 (L ++ [xk]) ra2 rc2 (n + 1) w' := by
  refine ⟨C2, k1, fun b q => (k2 b q).elim (h2 b) (fun q => .inr (hN b q)), k3.mono (fun b q q2 => ⟨?_, ?_, k3.ne b q⟩) (fun b q => q.2.2), fun b q => ?_⟩
  · rcases k4 b q with q3 | q3
    · exact q3.1
    · exact hN b q3.1
  · rcases k4 b q with q3 | q3
    · intro q4
      rcases k2 b q4 with q5 | q5
      · exact q3.2.1 q5
      · omega
    · exact q3.2
  · rcases k5 b q with q3 | q3
    · refine ⟨(h3 b q3).1, fun q4 => ?_⟩
      rcases k2 b q4 with q5 | q5
      · exact (h3 b q3).2 q5
      · have := h3l b q3; omega
    · exact ⟨hN b q3.1, q3.2⟩
end
theorem InTp.at9 {S : Nat → Prop} {w : World} {t : T} {b o : Nat} (h : InTp S w t (.pointer (some ⟨b, o, none⟩))) : ∃ (a : Option Addr) (c : Nat), w.cell? ⟨b, o, none⟩ = some (.int .i64 t.f) ∧ w.cell? ⟨b, o + 1, none⟩ = some (.slice a t.args.length c) ∧ InT S w t (.agg #[.int .i64 t.f, .slice a t.args.length c]) := by
  obtain ⟨b', o', a, c, e, _, h1, h2, h3⟩ := h
  simp only [Value.pointer.injEq, Option.some.injEq, Addr.mk.injEq, and_true] at e
  obtain ⟨rfl, rfl⟩ := e
  exact ⟨a, c, h1, h2, h3⟩
def RnSpec (t : T) : Prop := ∀ (gn gs : Nat) (ns : List Int) (C A : Nat → Prop) (w : World) (v : Value), NmAt w gn gs ns C → InT A w t v → (∀ b, A b → ¬ C b) → t.size ≤ 4294967296 → ns.length + t.size ≤ 1099511627776 →
  Calls Try.prog 51 #[v, .func (.func 54) #[] #[.pointer (some ⟨gn, 0, none⟩), .pointer (some ⟨gs, 0, none⟩)]] w (Ret fun v' w' => (∃ C', NmAt w' gn gs (t.rn ns).2 C' ∧ (∀ b, C' b → C b ∨ w.heap.size ≤ b) ∧ InT (fun b => w.heap.size ≤ b ∧ ¬ C' b) w' (t.rn ns).1 v') ∧ Chg C w w')
theorem rn_eq {f : Int} {l : List T} {ns : List Int} : (T.mk f l).rn ns = if f < 0 then (.mk (-1 - ((nmTo ns (-1 - f)).1 : Int)) (T.rnL l (nmTo ns (-1 - f)).2).1, (T.rnL l (nmTo ns (-1 - f)).2).2) else (.mk f (T.rnL l ns).1, (T.rnL l ns).2) := by rw [T.rn]
end Go.Proofs.Ytgechlgdnnpoeaa

/- Literals, clauses: how they lie in memory. -/
namespace Go.Proofs.Ytgechlgdnnpoeaa
open Go.RowKit Go

/-- A literal. -/
structure Li where
  neg : Bool
  l : T
  r : T
instance : Inhabited Li := ⟨⟨false, .mk 0 [], .mk 0 []⟩⟩
def Li.size (x : Li) : Nat := x.l.size + x.r.size

theorem InT.parts {S : Nat → Prop} {w : World} {t : T} {u v : Value} (h : InT S w t (.agg #[u, v])) : ∃ (a : Option Addr) (c : Nat), u = .int .i64 t.f ∧ v = .slice a t.args.length c := by
  obtain ⟨_, a, c, e, _⟩ := h.form
  simp only [Value.agg.injEq, Array.mk.injEq, List.cons.injEq, and_true] at e
  exact ⟨a, c, e.1, e.2⟩
def eltL : Elt Li where
  k := 5
  In := fun S w x cs => ∃ u1 u2 u3 u4, cs = [.bool x.neg, u1, u2, u3, u4] ∧ InT S w x.l (.agg #[u1, u2]) ∧ InT S w x.r (.agg #[u3, u4])
  keep := fun hb ⟨u1, u2, u3, u4, e, h0, h⟩ => ⟨u1, u2, u3, u4, e, h0.keep hb, h.keep hb⟩
  mono := fun hb ⟨u1, u2, u3, u4, e, h0, h⟩ => ⟨u1, u2, u3, u4, e, h0.mono hb, h.mono hb⟩
  len := fun ⟨_, _, _, _, e, _⟩ => by rw [e]; rfl
  one := fun ⟨u1, u2, u3, u4, e, h0, h⟩ x hx => by
    obtain ⟨a1, c1, rfl, rfl⟩ := h0.parts
    obtain ⟨a2, c2, rfl, rfl⟩ := h.parts
    rw [e] at hx
    simp only [List.mem_cons, List.not_mem_nil, or_false] at hx
    rcases hx with rfl | rfl | rfl | rfl | rfl <;> rfl

def lget (l : List Li) (k : Nat) : Li := l.getD k default
theorem lget_lt {l : List Li} {k : Nat} (h : k < l.length) : lget l k = l[k] := by simp [lget, h]
theorem lget_mem {l : List Li} {k : Nat} (h : k < l.length) : lget l k ∈ l := by rw [lget_lt h]; exact List.getElem_mem h
theorem take_snocL {l : List Li} {k : Nat} (h : k < l.length) : l.take k ++ [lget l k] = l.take (k + 1) := by
  rw [List.take_succ_eq_append_getElem h, lget_lt h]
theorem take_mapL {β : Type} {f : Li → β} {l : List Li} {k : Nat} (h : k < l.length) : (l.take k).map f ++ [f (lget l k)] = (l.take (k + 1)).map f := by
  rw [List.take_succ_eq_append_getElem h, List.map_append, lget_lt h]; rfl

theorem InRow.openL {S : Nat → Prop} {w : World} {l : List Li} {a : Option Addr} (h : InRow eltL S w l a) : ∃ (b o : Nat) (A : Nat → Option Addr) (C : Nat → Nat) (A2 : Nat → Option Addr) (C2 : Nat → Nat), (∀ k, k < l.length → a = some ⟨b, o, none⟩) ∧
    ∀ k, k < l.length → w.cell? ⟨b, o + k * 5, none⟩ = some (.bool (lget l k).neg) ∧ w.cell? ⟨b, o + k * 5 + 1, none⟩ = some (.int .i64 (lget l k).l.f) ∧ w.cell? ⟨b, o + k * 5 + 2, none⟩ = some (.slice (A k) (lget l k).l.args.length (C k)) ∧
      w.cell? ⟨b, o + k * 5 + 3, none⟩ = some (.int .i64 (lget l k).r.f) ∧ w.cell? ⟨b, o + k * 5 + 4, none⟩ = some (.slice (A2 k) (lget l k).r.args.length (C2 k)) ∧
      InT S w (lget l k).l (.agg #[.int .i64 (lget l k).l.f, .slice (A k) (lget l k).l.args.length (C k)]) ∧ InT S w (lget l k).r (.agg #[.int .i64 (lget l k).r.f, .slice (A2 k) (lget l k).r.args.length (C2 k)]) := by
  rcases Nat.eq_zero_or_pos l.length with h0 | h0
  · exact ⟨0, 0, fun _ => none, fun _ => 0, fun _ => none, fun _ => 0, fun k hk => by omega, fun k hk => by omega⟩
  · obtain ⟨b, o, _, ha, _⟩ := h 0 h0
    have key : ∀ k, k < l.length → ∃ p : (Option Addr × Nat) × (Option Addr × Nat), w.cell? ⟨b, o + k * 5, none⟩ = some (.bool (lget l k).neg) ∧ w.cell? ⟨b, o + k * 5 + 1, none⟩ = some (.int .i64 (lget l k).l.f) ∧ w.cell? ⟨b, o + k * 5 + 2, none⟩ = some (.slice p.1.1 (lget l k).l.args.length p.1.2) ∧
      w.cell? ⟨b, o + k * 5 + 3, none⟩ = some (.int .i64 (lget l k).r.f) ∧ w.cell? ⟨b, o + k * 5 + 4, none⟩ = some (.slice p.2.1 (lget l k).r.args.length p.2.2) ∧
      InT S w (lget l k).l (.agg #[.int .i64 (lget l k).l.f, .slice p.1.1 (lget l k).l.args.length p.1.2]) ∧ InT S w (lget l k).r (.agg #[.int .i64 (lget l k).r.f, .slice p.2.1 (lget l k).r.args.length p.2.2]) := by
      intro k hk
      obtain ⟨b', o', cs, ha', _, ⟨u1, u2, u3, u4, rfl, h1, h2⟩, h3⟩ := h k hk
      rw [ha] at ha'
      simp only [Option.some.injEq, Addr.mk.injEq, and_true] at ha'
      obtain ⟨rfl, rfl⟩ := ha'
      obtain ⟨p1, q1, rfl, rfl⟩ := h1.parts
      obtain ⟨p2, q2, rfl, rfl⟩ := h2.parts
      rw [lget_lt hk]
      exact ⟨((p1, q1), (p2, q2)), h3 0 (by decide), h3 1 (by decide), h3 2 (by decide), h3 3 (by decide), h3 4 (by decide), h1, h2⟩
    have : Inhabited ((Option Addr × Nat) × (Option Addr × Nat)) := ⟨((none, 0), (none, 0))⟩
    obtain ⟨F, hF⟩ := Go.Deep.choose_lt key
    exact ⟨b, o, fun k => (F k).1.1, fun k => (F k).1.2, fun k => (F k).2.1, fun k => (F k).2.2, fun _ _ => ha, hF⟩

/-- A clause that came in. -/
abbrev IsLs (w : World) (l : List Li) (a : Option Addr) : Prop := InRow eltL (fun _ => True) w l a
/-- A clause that came in: it lies in memory, is no longer than that, its terms are no larger. -/
structure IsCl (w : World) (s : List Li) (a : Option Addr) (c : Nat) : Prop where
  rows : IsLs w s a
  len : s.length ≤ c
  cap : c ≤ maxLen
  small : s.length ≤ 4294967296
  partsL : ∀ b ∈ s, b.l.size ≤ 4294967296
  partsR : ∀ b ∈ s, b.r.size ≤ 4294967296
theorem IsCl.below {w w' : World} {s : List Li} {a : Option Addr} {c : Nat} (h : IsCl w s a c) (hb : Below w.heap.size w w') : IsCl w' s a c := ⟨h.rows.below hb, h.len, h.cap, h.small, h.partsL, h.partsR⟩
theorem IsCl.pl {w : World} {s : List Li} {a : Option Addr} {c k : Nat} (h : IsCl w s a c) (hk : k < s.length) : (lget s k).l.size ≤ 4294967296 := h.partsL _ (lget_mem hk)
theorem IsCl.pr {w : World} {s : List Li} {a : Option Addr} {c k : Nat} (h : IsCl w s a c) (hk : k < s.length) : (lget s k).r.size ≤ 4294967296 := h.partsR _ (lget_mem hk)

/-- A literal in memory. -/
def IsLi (w : World) (x : Li) (v : Value) : Prop := ∃ u1 u2 u3 u4, v = .agg #[.bool x.neg, u1, u2, u3, u4] ∧ IsT w x.l (.agg #[u1, u2]) ∧ IsT w x.r (.agg #[u3, u4])
theorem IsLi.below {w w' : World} {x : Li} {v : Value} (hb : Below w.heap.size w w') (h : IsLi w x v) : IsLi w' x v := by
  obtain ⟨u1, u2, u3, u4, e, h1, h2⟩ := h
  exact ⟨u1, u2, u3, u4, e, h1.below hb, h2.below hb⟩
theorem isLi_mk {w : World} {x : Li} {a1 a2 : Option Addr} {c1 c2 : Nat} (h1 : IsT w x.l (.agg #[.int .i64 x.l.f, .slice a1 x.l.args.length c1])) (h2 : IsT w x.r (.agg #[.int .i64 x.r.f, .slice a2 x.r.args.length c2])) : IsLi w x (.agg #[.bool x.neg, .int .i64 x.l.f, .slice a1 x.l.args.length c1, .int .i64 x.r.f, .slice a2 x.r.args.length c2]) := ⟨_, _, _, _, rfl, h1, h2⟩
theorem IsLi.form {w : World} {x : Li} {v : Value} (h : IsLi w x v) : ∃ (a1 a2 : Option Addr) (c1 c2 : Nat), v = .agg #[.bool x.neg, .int .i64 x.l.f, .slice a1 x.l.args.length c1, .int .i64 x.r.f, .slice a2 x.r.args.length c2] ∧
    IsT w x.l (.agg #[.int .i64 x.l.f, .slice a1 x.l.args.length c1]) ∧ IsT w x.r (.agg #[.int .i64 x.r.f, .slice a2 x.r.args.length c2]) := by
  obtain ⟨u1, u2, u3, u4, e, h1, h2⟩ := h
  obtain ⟨p1, q1, rfl, rfl⟩ := h1.cells
  obtain ⟨p2, q2, rfl, rfl⟩ := h2.cells
  exact ⟨p1, p2, q1, q2, e, h1, h2⟩
/-- A literal in memory, made since. -/
def NewL (w0 w : World) (x : Li) (v : Value) : Prop := ∃ u1 u2 u3 u4, v = .agg #[.bool x.neg, u1, u2, u3, u4] ∧ InT (fun b => w0.heap.size ≤ b) w x.l (.agg #[u1, u2]) ∧ InT (fun b => w0.heap.size ≤ b) w x.r (.agg #[u3, u4])
/-- A literal in memory, in blocks of 'S'. -/
def LiIn (S : Nat → Prop) (w : World) (x : Li) (v : Value) : Prop := ∃ u1 u2 u3 u4, v = .agg #[.bool x.neg, u1, u2, u3, u4] ∧ InT S w x.l (.agg #[u1, u2]) ∧ InT S w x.r (.agg #[u3, u4])
theorem LiIn.keep {S : Nat → Prop} {w w' : World} {x : Li} {v : Value} (hb : ∀ (p : Addr) (y : Value), S p.block → w.cell? p = some y → w'.cell? p = some y) (h : LiIn S w x v) : LiIn S w' x v := by
  obtain ⟨u1, u2, u3, u4, e, h1, h2⟩ := h
  exact ⟨u1, u2, u3, u4, e, h1.keep hb, h2.keep hb⟩
theorem LiIn.mono {S S' : Nat → Prop} {w : World} {x : Li} {v : Value} (hb : ∀ b, S b → b < w.heap.size → S' b) (h : LiIn S w x v) : LiIn S' w x v := by
  obtain ⟨u1, u2, u3, u4, e, h1, h2⟩ := h
  exact ⟨u1, u2, u3, u4, e, h1.mono hb, h2.mono hb⟩
theorem LiIn.parts {S : Nat → Prop} {w : World} {x : Li} {v : Value} (h : LiIn S w x v) : ∃ (a1 a2 : Option Addr) (c1 c2 : Nat), v = .agg #[.bool x.neg, .int .i64 x.l.f, .slice a1 x.l.args.length c1, .int .i64 x.r.f, .slice a2 x.r.args.length c2] := by
  obtain ⟨u1, u2, u3, u4, e, h1, h2⟩ := h
  obtain ⟨p1, q1, rfl, rfl⟩ := h1.parts
  obtain ⟨p2, q2, rfl, rfl⟩ := h2.parts
  exact ⟨p1, p2, q1, q2, e⟩
theorem LiIn.two {S : Nat → Prop} {w : World} {x : Li} {v0 v1 v2 v3 v4 : Value} (h : LiIn S w x (.agg #[v0, v1, v2, v3, v4])) : InT S w x.l (.agg #[v1, v2]) ∧ InT S w x.r (.agg #[v3, v4]) := by
  obtain ⟨u1, u2, u3, u4, e, h1, h2⟩ := h
  simp only [Value.agg.injEq, Array.mk.injEq, List.cons.injEq, and_true] at e
  obtain ⟨rfl, rfl, rfl, rfl, rfl⟩ := e
  exact ⟨h1, h2⟩
theorem NewL.isLi {w0 w : World} {x : Li} {v : Value} (h : NewL w0 w x v) : IsLi w x v := by
  obtain ⟨u1, u2, u3, u4, e, h1, h2⟩ := h
  exact ⟨u1, u2, u3, u4, e, h1.isT, h2.isT⟩
theorem NewL.below {w0 w w' : World} {x : Li} {v : Value} (h : NewL w0 w x v) (hb : Below w.heap.size w w') : NewL w0 w' x v := by
  obtain ⟨u1, u2, u3, u4, e, h1, h2⟩ := h
  exact ⟨u1, u2, u3, u4, e, h1.below hb, h2.below hb⟩
theorem NewL.chg {S : Nat → Prop} {w0 w w' : World} {x : Li} {v : Value} (h : NewL w0 w x v) (hc : Chg S w w') (hS : ∀ b, w0.heap.size ≤ b → ¬ S b) : NewL w0 w' x v := by
  obtain ⟨u1, u2, u3, u4, e, h1, h2⟩ := h
  exact ⟨u1, u2, u3, u4, e, h1.chg hc hS, h2.chg hc hS⟩
theorem NewL.older {w0 w1 w : World} {x : Li} {v : Value} (h : NewL w1 w x v) (hl : w0.heap.size ≤ w1.heap.size) : NewL w0 w x v := by
  obtain ⟨u1, u2, u3, u4, e, h1, h2⟩ := h
  exact ⟨u1, u2, u3, u4, e, h1.mono (fun b hb _ => Nat.le_trans hl hb), h2.mono (fun b hb _ => Nat.le_trans hl hb)⟩
theorem NewL.parts {w0 w : World} {x : Li} {v : Value} (h : NewL w0 w x v) : ∃ (a1 a2 : Option Addr) (c1 c2 : Nat), v = .agg #[.bool x.neg, .int .i64 x.l.f, .slice a1 x.l.args.length c1, .int .i64 x.r.f, .slice a2 x.r.args.length c2] := by
  obtain ⟨u1, u2, u3, u4, e, h1, h2⟩ := h
  obtain ⟨p1, q1, rfl, rfl⟩ := h1.parts
  obtain ⟨p2, q2, rfl, rfl⟩ := h2.parts
  exact ⟨p1, p2, q1, q2, e⟩
theorem NewL.elt {w0 w : World} {x : Li} {v0 v1 v2 v3 v4 : Value} (h : NewL w0 w x (.agg #[v0, v1, v2, v3, v4])) : eltL.In (fun b => w0.heap.size ≤ b) w x [v0, v1, v2, v3, v4] := by
  obtain ⟨u1, u2, u3, u4, e, h1, h2⟩ := h
  simp only [Value.agg.injEq, Array.mk.injEq, List.cons.injEq, and_true] at e
  obtain ⟨rfl, rfl, rfl, rfl, rfl⟩ := e
  exact ⟨_, _, _, _, rfl, h1, h2⟩
theorem newL_mk {w0 w : World} {x : Li} {u1 u2 u3 u4 : Value} (h1 : NewT w0 w x.l (.agg #[u1, u2])) (h2 : NewT w0 w x.r (.agg #[u3, u4])) : NewL w0 w x (.agg #[.bool x.neg, u1, u2, u3, u4]) := ⟨_, _, _, _, rfl, h1, h2⟩
/-- A box in which a new literal lies. -/
def LiBox (w0 w : World) (g ty : Nat) (x : Li) : Prop := ∃ (a1 a2 : Option Addr) (c1 c2 : Nat), Blk w g ty #[.bool x.neg, .int .i64 x.l.f, .slice a1 x.l.args.length c1, .int .i64 x.r.f, .slice a2 x.r.args.length c2] ∧ NewL w0 w x (.agg #[.bool x.neg, .int .i64 x.l.f, .slice a1 x.l.args.length c1, .int .i64 x.r.f, .slice a2 x.r.args.length c2])
theorem LiBox.below {w0 w w' : World} {g ty : Nat} {x : Li} (h : LiBox w0 w g ty x) (hb : Below w.heap.size w w') : LiBox w0 w' g ty x := by
  obtain ⟨a1, a2, c1, c2, h1, h2⟩ := h
  exact ⟨a1, a2, c1, c2, h1.below hb, h2.below hb⟩
/-- A clause in memory, made since. -/
def NewC (w0 w : World) (l : List Li) (a : Option Addr) (c : Nat) : Prop := InRow eltL (fun b => w0.heap.size ≤ b) w l a ∧ l.length ≤ c ∧ c ≤ maxLen
theorem NewC.below {w0 w w' : World} {l : List Li} {a : Option Addr} {c : Nat} (h : NewC w0 w l a c) (hb : Below w.heap.size w w') : NewC w0 w' l a c := ⟨h.1.below hb, h.2⟩
theorem NewC.isLs {w0 w : World} {l : List Li} {a : Option Addr} {c : Nat} (h : NewC w0 w l a c) : IsLs w l a := h.1.mono (by decide) (fun _ _ _ => trivial)
theorem newC_row {w0 w : World} {B e : Nat} {ra : Option Addr} {rc n : Nat} {l : List Li} (h : RowE eltL w B e ra rc n l) (hB : w0.heap.size ≤ B) : n = l.length ∧ NewC w0 w l ra rc := by
  obtain ⟨h1, h2, h3, h4⟩ := h.inRow
  exact ⟨h2, h1.mono (by decide) (fun b hb _ => Nat.le_trans hB hb), by omega, h4⟩

end Go.Proofs.Ytgechlgdnnpoeaa

/- A clause is named anew: plain, and its state. -/
namespace Go.Proofs.Ytgechlgdnnpoeaa
open Go.RowKit Go
set_option linter.unusedVariables false
set_option linter.unusedSimpArgs false

/-- A literal, a clause, named anew. -/
def Li.rn (x : Li) (ns : List Int) : Li × List Int := (⟨x.neg, (x.l.rn ns).1, (x.r.rn (x.l.rn ns).2).1⟩, (x.r.rn (x.l.rn ns).2).2)
def clRn : List Li → List Int → List Li × List Int
  | [], ns => ([], ns)
  | x :: r, ns => ((x.rn ns).1 :: (clRn r (x.rn ns).2).1, (clRn r (x.rn ns).2).2)
def clSz : List Li → Nat
  | [] => 0
  | x :: r => x.l.size + x.r.size + clSz r
theorem clRn_len : ∀ (l : List Li) (ns : List Int), (clRn l ns).1.length = l.length
  | [], _ => rfl
  | x :: r, ns => by rw [clRn, List.length_cons, List.length_cons, clRn_len r]
theorem clRn_snoc : ∀ (l : List Li) (x : Li) (ns : List Int), clRn (l ++ [x]) ns = ((clRn l ns).1 ++ [(x.rn (clRn l ns).2).1], (x.rn (clRn l ns).2).2)
  | [], x, ns => rfl
  | y :: l, x, ns => by rw [List.cons_append, clRn, clRn, clRn_snoc l x]; rfl
theorem clRn_take {l : List Li} {k : Nat} (h : k < l.length) (ns : List Int) : clRn (l.take (k + 1)) ns = ((clRn (l.take k) ns).1 ++ [((lget l k).rn (clRn (l.take k) ns).2).1], ((lget l k).rn (clRn (l.take k) ns).2).2) := by
  rw [List.take_succ_eq_append_getElem h, clRn_snoc, lget_lt h]
theorem clSz_snoc : ∀ (l : List Li) (x : Li), clSz (l ++ [x]) = clSz l + (x.l.size + x.r.size)
  | [], x => by simp [clSz]
  | y :: l, x => by rw [List.cons_append, clSz, clSz, clSz_snoc l x]; omega
theorem clSz_take {l : List Li} {k : Nat} (h : k < l.length) : clSz (l.take (k + 1)) = clSz (l.take k) + ((lget l k).l.size + (lget l k).r.size) := by
  rw [List.take_succ_eq_append_getElem h, clSz_snoc, lget_lt h]
theorem clSz_le : ∀ {l : List Li} {k : Nat}, clSz (l.take k) ≤ clSz l
  | [], k => by simp
  | x :: l, 0 => by simp [clSz]
  | x :: l, k + 1 => by have := clSz_le (l := l) (k := k); simp only [List.take_succ_cons, clSz]; omega
theorem clRn_names : ∀ (l : List Li) (ns : List Int), (clRn l ns).2.length ≤ ns.length + clSz l
  | [], ns => by simp [clRn, clSz]
  | x :: r, ns => by
    have h1 := (T.rn_len x.l ns).2
    have h2 := (T.rn_len x.r (x.l.rn ns).2).2
    have h3 := clRn_names r (x.rn ns).2
    rw [clRn, clSz]
    have e : (x.rn ns).2 = (x.r.rn (x.l.rn ns).2).2 := rfl
    rw [e] at h3
    simp only
    rw [e]
    omega
/-- The state: what was named; the row of the literals so far. 'C0': what the names owned at first, 'N': what is new. -/
def ClSt (C0 N : Nat → Prop) (gn gs : Nat) (ns : List Int) (L : List Li) (ra : Option Addr) (rc n : Nat) (w : World) : Prop := ∃ C, NmAt w gn gs ns C ∧ (∀ b, C b → C0 b ∨ N b) ∧ RowD eltL (fun b => N b ∧ ¬ C b ∧ (Value.slice ra n rc).ownBlock ≠ some b) w 44 ra rc n L ∧ (∀ b, (Value.slice ra n rc).ownBlock = some b → N b ∧ ¬ C b)
section
variable {C0 N N' : Nat → Prop} {gn gs : Nat} {ns : List Int} {L : List Li} {ra : Option Addr} {rc n : Nat} {w w' : World}
theorem ClSt.below (h : ClSt C0 N gn gs ns L ra rc n w) (hb : Below w.heap.size w w') : ClSt C0 N gn gs ns L ra rc n w' := by
  obtain ⟨C, h1, h2, h3, h4⟩ := h
  exact ⟨C, h1.below hb, h2, h3.below hb, h4⟩
theorem ClSt.mono (h : ClSt C0 N gn gs ns L ra rc n w) (hN : ∀ b, N b → b < w.heap.size → N' b) : ClSt C0 N' gn gs ns L ra rc n w := by
  obtain ⟨C, h1, h2, h3, h4⟩ := h
  exact ⟨C, h1, fun b q => (h2 b q).imp id (fun q2 => hN b q2 (h1.clt b q)), h3.mono (fun b q q2 => ⟨hN b q.1 q2, q.2⟩) (fun b q => q.2.2), fun b q => ⟨hN b (h4 b q).1 (h3.lt b q), (h4 b q).2⟩⟩
theorem ClSt.chg {S : Nat → Prop} (h : ClSt C0 N gn gs ns L ra rc n w) (hc : Chg S w w') (h0 : ∀ b, C0 b → ¬ S b) (h1 : ∀ b, N b → ¬ S b) : ClSt C0 N gn gs ns L ra rc n w' := by
  obtain ⟨C, k1, k2, k3, k4⟩ := h
  exact ⟨C, k1.chg hc (fun b q => (k2 b q).elim (h0 b) (h1 b)), k2, k3.chg hc (fun b q => h1 b (k4 b q).1) (fun b q => h1 b q.1), k4⟩
theorem ClSt.start {C : Nat → Prop} (h : NmAt w gn gs ns C) (hC : ∀ b, C b → C0 b ∨ N b) : ClSt C0 N gn gs ns [] none 0 0 w := ⟨C, h, hC, RowD.nil, fun b q => (nomatch q)⟩
/-- What the region finds: a term is made, a row of it alone, it is appended, it is stored. -/
theorem ClSt.join {C1 C2 Z : Nat → Prop} {w0 : World} {xk : Li} {ra2 : Option Addr} {rc2 : Nat} {ns2 : List Int} (h2 : ∀ b, C1 b → C0 b ∨ N b) (h3 : ∀ b, (Value.slice ra n rc).ownBlock = some b → N b ∧ ¬ C1 b) (h3l : ∀ b, (Value.slice ra n rc).ownBlock = some b → b < w0.heap.size) (hN : ∀ b, w0.heap.size ≤ b → N b) (k1 : NmAt w' gn gs ns2 C2) (k2 : ∀ b, C2 b → C1 b ∨ w0.heap.size ≤ b)
    (k3 : RowD eltL Z w' 44 ra2 rc2 (n + 1) (L ++ [xk])) (k4 : ∀ b, Z b → (N b ∧ ¬ C1 b ∧ b < w0.heap.size) ∨ (w0.heap.size ≤ b ∧ ¬ C2 b)) (k5 : ∀ b, (Value.slice ra2 (n + 1) rc2).ownBlock = some b → (Value.slice ra n rc).ownBlock = some b ∨ (w0.heap.size ≤ b ∧ ¬ C2 b)) : ClSt C0 N gn gs ns2 (L ++ [xk]) ra2 rc2 (n + 1) w' := by
  refine ⟨C2, k1, fun b q => (k2 b q).elim (h2 b) (fun q => .inr (hN b q)), k3.mono (fun b q q2 => ⟨?_, ?_, k3.ne b q⟩) (fun b q => q.2.2), fun b q => ?_⟩
  · rcases k4 b q with q3 | q3
    · exact q3.1
    · exact hN b q3.1
  · rcases k4 b q with q3 | q3
    · intro q4
      rcases k2 b q4 with q5 | q5
      · exact q3.2.1 q5
      · omega
    · exact q3.2
  · rcases k5 b q with q3 | q3
    · refine ⟨(h3 b q3).1, fun q4 => ?_⟩
      rcases k2 b q4 with q5 | q5
      · exact (h3 b q3).2 q5
      · have := h3l b q3; omega
    · exact ⟨hN b q3.1, q3.2⟩
end
end Go.Proofs.Ytgechlgdnnpoeaa

/- Names given in the order in which variables come: plain. -/
namespace Go.Proofs.Ytgechlgdnnpoeaa
open Go.RowKit Go
set_option linter.unusedVariables false
set_option linter.unusedSimpArgs false

theorem nmIx_spec : ∀ {ns : List Int} {v : Int} {k i : Nat}, nmIx ns v k = some i → k ≤ i ∧ ns[i - k]? = some v ∧ ∀ j, j < i - k → ns[j]? ≠ some v
  | [], _, _, _, h => nomatch h
  | u :: r, v, k, i, h => by
    rw [nmIx] at h
    split at h
    · rename_i e
      cases h
      refine ⟨Nat.le_refl _, by simp [e], fun j hj => by omega⟩
    · rename_i e
      obtain ⟨h1, h2, h3⟩ := nmIx_spec h
      obtain ⟨m, hm⟩ : ∃ m, i - k = m + 1 := ⟨i - k - 1, by omega⟩
      refine ⟨by omega, ?_, fun j hj => ?_⟩
      · rw [hm, List.getElem?_cons_succ]
        rw [show i - (k + 1) = m by omega] at h2
        exact h2
      · cases j with
        | zero => simp; exact fun q => e q.symm
        | succ j => rw [List.getElem?_cons_succ]; exact h3 j (by omega)
theorem nmIx_no : ∀ {ns : List Int} {v : Int} {k : Nat}, nmIx ns v k = none → ∀ (j : Nat), ns[j]? ≠ some v
  | [], _, _, _, j => by simp
  | u :: r, v, k, h, j => by
    rw [nmIx] at h
    split at h
    · cases h
    · rename_i e
      cases j with
      | zero => simp; exact fun q => e q.symm
      | succ j => rw [List.getElem?_cons_succ]; exact nmIx_no h j
theorem nmTo_get (ns : List Int) (v : Int) : (nmTo ns v).2[(nmTo ns v).1]? = some v := by
  unfold nmTo
  cases h : nmIx ns v 0 with
  | none => simp
  | some i => have := (nmIx_spec h).2.1; simpa using this
theorem nmTo_pre (ns : List Int) (v : Int) : ns <+: (nmTo ns v).2 := by
  unfold nmTo
  cases h : nmIx ns v 0 with
  | none => exact List.prefix_append _ _
  | some i => exact List.prefix_refl _
theorem nmTo_len2 (ns : List Int) (v : Int) : (nmTo ns v).2.length = if (nmTo ns v).1 < ns.length then ns.length else ns.length + 1 := by
  unfold nmTo
  cases h : nmIx ns v 0 with
  | none => simp
  | some i => have := nmIx_lt h; simp at this; simp [this]
mutual
theorem T.rn_pre : ∀ (t : T) (ns : List Int), ns <+: (t.rn ns).2
  | .mk f l, ns => by
    rw [T.rn]
    split
    · exact (nmTo_pre ns (-1 - f)).trans (T.rnL_pre l _)
    · exact T.rnL_pre l ns
theorem T.rnL_pre : ∀ (l : List T) (ns : List Int), ns <+: (T.rnL l ns).2
  | [], ns => by rw [T.rnL]; exact List.prefix_refl _
  | t :: r, ns => by rw [T.rnL]; exact (T.rn_pre t ns).trans (T.rnL_pre r _)
end
theorem nmTo_nd {ns : List Int} (v : Int) (h : ns.Nodup) : (nmTo ns v).2.Nodup := by
  unfold nmTo
  cases hx : nmIx ns v 0 with
  | some i => exact h
  | none =>
    have := nmIx_no hx
    rw [List.nodup_append]
    refine ⟨h, by simp, fun a ha b hb e => ?_⟩
    obtain ⟨j, hj, rfl⟩ := List.getElem_of_mem ha
    have hb' : b = v := by simpa using hb
    exact this j (by rw [List.getElem?_eq_getElem hj, e, hb'])
mutual
theorem T.rn_nd : ∀ (t : T) (ns : List Int), ns.Nodup → (t.rn ns).2.Nodup
  | .mk f l, ns, h => by
    rw [T.rn]
    split
    · exact T.rnL_nd l _ (nmTo_nd _ h)
    · exact T.rnL_nd l ns h
theorem T.rnL_nd : ∀ (l : List T) (ns : List Int), ns.Nodup → (T.rnL l ns).2.Nodup
  | [], ns, h => by rw [T.rnL]; exact h
  | t :: r, ns, h => by rw [T.rnL]; exact T.rnL_nd r _ (T.rn_nd t ns h)
end
mutual
/-- Terms alike but for their variables, which 'R' relates. -/
def T.rel (R : Int → Int → Prop) : T → T → Prop
  | .mk f l, t => if f < 0 then l = [] ∧ t.f < 0 ∧ t.args = [] ∧ R (-1 - f) (-1 - t.f) else f = t.f ∧ T.relL R l t.args
def T.relL (R : Int → Int → Prop) : List T → List T → Prop
  | [], ts => ts = []
  | p :: ps, ts => ∃ t r, ts = t :: r ∧ p.rel R t ∧ T.relL R ps r
end
def InvR (R : Int → Int → Prop) (A B : List Int) : Prop := A.length = B.length ∧ ∀ (i : Nat) v u, A[i]? = some v → B[i]? = some u → R v u
structure BiFun (R : Int → Int → Prop) : Prop where
  l : ∀ v u u', R v u → R v u' → u = u'
  r : ∀ v v' u, R v u → R v' u → v = v'
theorem inv_get {R : Int → Int → Prop} {A B : List Int} (h : InvR R A B) {i : Nat} {v : Int} (hv : A[i]? = some v) : ∃ u, B[i]? = some u ∧ R v u := by
  have h1 := (List.getElem?_eq_some_iff.1 hv).1
  have h2 : i < B.length := by have := h.1; omega
  exact ⟨B[i], List.getElem?_eq_getElem h2, h.2 i _ _ hv (List.getElem?_eq_getElem h2)⟩
theorem inv_get' {R : Int → Int → Prop} {A B : List Int} (h : InvR R A B) {i : Nat} {u : Int} (hu : B[i]? = some u) : ∃ v, A[i]? = some v ∧ R v u := by
  have h1 := (List.getElem?_eq_some_iff.1 hu).1
  have h2 : i < A.length := by have := h.1; omega
  exact ⟨A[i], List.getElem?_eq_getElem h2, h.2 i _ _ (List.getElem?_eq_getElem h2) hu⟩
theorem inv_step {R : Int → Int → Prop} (hR : BiFun R) {A B : List Int} (h : InvR R A B) {v u : Int} (hvu : R v u) : (nmTo A v).1 = (nmTo B u).1 ∧ InvR R (nmTo A v).2 (nmTo B u).2 := by
  cases ha : nmIx A v 0 with
  | some i =>
    obtain ⟨_, a2, a3⟩ := nmIx_spec ha
    rw [Nat.sub_zero] at a2 a3
    obtain ⟨u', b1, b2⟩ := inv_get h a2
    obtain rfl := hR.l _ _ _ hvu b2
    cases hb : nmIx B u 0 with
    | none => exact absurd b1 (nmIx_no hb i)
    | some j =>
      obtain ⟨_, c2, c3⟩ := nmIx_spec hb
      rw [Nat.sub_zero] at c2 c3
      obtain ⟨v', d1, d2⟩ := inv_get' h c2
      obtain rfl := hR.r _ _ _ hvu d2
      have : i = j := by
        rcases Nat.lt_trichotomy i j with q | q | q
        · exact absurd b1 (c3 i q)
        · exact q
        · exact absurd d1 (a3 j q)
      unfold nmTo
      rw [ha, hb]
      exact ⟨this, h⟩
  | none =>
    cases hb : nmIx B u 0 with
    | some j =>
      obtain ⟨_, c2, _⟩ := nmIx_spec hb
      rw [Nat.sub_zero] at c2
      obtain ⟨v', d1, d2⟩ := inv_get' h c2
      obtain rfl := hR.r _ _ _ hvu d2
      exact absurd d1 (nmIx_no ha j)
    | none =>
      unfold nmTo
      rw [ha, hb]
      refine ⟨h.1, by simp [h.1], fun i x y hx hy => ?_⟩
      rcases Nat.lt_or_ge i A.length with q | q
      · rw [List.getElem?_append_left q] at hx
        rw [List.getElem?_append_left (by have := h.1; omega)] at hy
        exact h.2 i x y hx hy
      · rw [List.getElem?_append_right q] at hx
        rw [List.getElem?_append_right (by have := h.1; omega)] at hy
        have h0 : i - A.length = 0 := by
          have := (List.getElem?_eq_some_iff.1 hx).1
          simp at this; exact this
        rw [h0] at hx
        rw [← h.1, h0] at hy
        simp at hx hy
        rw [← hx, ← hy]; exact hvu
mutual
theorem T.rel_rn {R : Int → Int → Prop} (hR : BiFun R) : ∀ (a b : T) (A B : List Int), a.rel R b → InvR R A B → (a.rn A).1 = (b.rn B).1 ∧ InvR R (a.rn A).2 (b.rn B).2
  | .mk f l, .mk g m, A, B, h, hi => by
    rw [T.rel] at h
    split at h
    · rename_i hf
      obtain ⟨rfl, hg, hm, hr⟩ := h
      have hg' : g < 0 := hg
      have hm' : m = [] := hm
      subst hm'
      obtain ⟨h1, h2⟩ := inv_step hR hi hr
      have h1' : (nmTo A (-1 - f)).1 = (nmTo B (-1 - g)).1 := h1
      rw [T.rn, T.rn, if_pos hf, if_pos hg', T.rnL, T.rnL]
      exact ⟨by simp only; rw [h1'], h2⟩
    · rename_i hf
      obtain ⟨he, hl⟩ := h
      have he' : f = g := he
      subst he'
      obtain ⟨h1, h2⟩ := T.relL_rn hR l m A B hl hi
      rw [T.rn, T.rn, if_neg hf, if_neg hf]
      exact ⟨by simp only; rw [h1], h2⟩
theorem T.relL_rn {R : Int → Int → Prop} (hR : BiFun R) : ∀ (l m : List T) (A B : List Int), T.relL R l m → InvR R A B → (T.rnL l A).1 = (T.rnL m B).1 ∧ InvR R (T.rnL l A).2 (T.rnL m B).2
  | [], m, A, B, h, hi => by
    have : m = [] := h
    subst this
    rw [T.rnL, T.rnL]; exact ⟨rfl, hi⟩
  | p :: ps, m, A, B, h, hi => by
    obtain ⟨t, r, rfl, h1, h2⟩ := h
    obtain ⟨k1, k2⟩ := T.rel_rn hR p t A B h1 hi
    obtain ⟨k3, k4⟩ := T.relL_rn hR ps r _ _ h2 k2
    rw [T.rnL, T.rnL]
    exact ⟨by simp only; rw [k1, k3], k4⟩
end
theorem inv_nil {R : Int → Int → Prop} : InvR R [] [] := ⟨rfl, fun i v u h => by simp at h⟩
theorem pre_get {l m : List Int} (h : l <+: m) {i : Nat} {v : Int} (hv : l[i]? = some v) : m[i]? = some v := by
  obtain ⟨r, rfl⟩ := h
  rw [List.getElem?_append_left (List.getElem?_eq_some_iff.1 hv).1]; exact hv
mutual
/-- A term and what it becomes are alike, by the list of what was named. -/
theorem T.rn_at {N : List Int} : ∀ (t : T) (ns : List Int), t.plain = true → (t.rn ns).2 <+: N → t.rel (fun v u => 0 ≤ u ∧ N[u.toNat]? = some v) (t.rn ns).1
  | .mk f l, ns, hp, h => by
    rw [T.rel]
    rw [T.rn] at h ⊢
    by_cases hf : f < 0
    · obtain rfl := plain_nil hp hf
      rw [if_pos hf] at h ⊢
      rw [if_pos hf]
      simp only [T.rnL] at h ⊢
      have e : -1 - (-1 - ((nmTo ns (-1 - f)).1 : Int)) = ((nmTo ns (-1 - f)).1 : Int) := by omega
      refine ⟨trivial, by show -1 - ((nmTo ns (-1 - f)).1 : Int) < 0; omega, rfl, ?_⟩
      show 0 ≤ -1 - (-1 - ((nmTo ns (-1 - f)).1 : Int)) ∧ N[(-1 - (-1 - ((nmTo ns (-1 - f)).1 : Int))).toNat]? = some (-1 - f)
      rw [e]
      exact ⟨by omega, pre_get h (nmTo_get ns _)⟩
    · rw [if_neg hf] at h ⊢
      rw [if_neg hf]
      exact ⟨rfl, T.rnL_at l ns (plain_args hp) h⟩
theorem T.rnL_at {N : List Int} : ∀ (l : List T) (ns : List Int), T.plainL l = true → (T.rnL l ns).2 <+: N → T.relL (fun v u => 0 ≤ u ∧ N[u.toNat]? = some v) l (T.rnL l ns).1
  | [], ns, _, _ => by rw [T.rnL]; exact rfl
  | t :: r, ns, hp, h => by
    rw [T.plainL, Bool.and_eq_true] at hp
    rw [T.rnL] at h ⊢
    exact ⟨_, _, rfl, T.rn_at t ns hp.1 ((T.rnL_pre r _).trans h), T.rnL_at r _ hp.2 h⟩
end
theorem nd_inj {l : List Int} (hn : l.Nodup) {i j : Nat} (hi : i < l.length) (hj : j < l.length) (h : l[i] = l[j]) : i = j := by
  have hp := List.pairwise_iff_getElem.1 hn
  rcases Nat.lt_trichotomy i j with q | q | q
  · exact absurd h (hp i j hi hj q)
  · exact q
  · exact absurd h.symm (hp j i hj hi q)
theorem at_bi {N : List Int} (hn : N.Nodup) : BiFun (fun v u => 0 ≤ u ∧ N[u.toNat]? = some v) := by
  refine ⟨fun v u u' h h' => ?_, fun v v' u h h' => Option.some.inj (h.2.symm.trans h'.2)⟩
  have h1 := (List.getElem?_eq_some_iff.1 h.2)
  have h2 := (List.getElem?_eq_some_iff.1 h'.2)
  obtain ⟨q1, e1⟩ := h1
  obtain ⟨q2, e2⟩ := h2
  have := nd_inj hn q1 q2 (e1.trans e2.symm)
  omega
mutual
theorem T.rn_size : ∀ (t : T) (ns : List Int), (t.rn ns).1.size = t.size
  | .mk f l, ns => by
    rw [T.rn]
    split <;> rw [T.size, T.size, T.rnL_size]
theorem T.rnL_size : ∀ (l : List T) (ns : List Int), T.sizeL (T.rnL l ns).1 = T.sizeL l
  | [], ns => by rw [T.rnL]
  | t :: r, ns => by rw [T.rnL, T.sizeL, T.sizeL, T.rn_size t, T.rnL_size r]
end
/-- What was named: its own numbers, then nothing is to be put in. -/
theorem nmB_id : ∀ (B : List Int) (k : Nat), (∀ (i : Nat) u, B[i]? = some u → u = ((k + i : Nat) : Int)) → nmB B k = []
  | [], _, _ => rfl
  | u :: r, k, h => by
    have h0 := h 0 u (by simp)
    rw [nmB, if_pos (by rw [h0]; simp), nmB_id r (k + 1) (fun i x hx => by have := h (i + 1) x (by rw [List.getElem?_cons_succ]; exact hx); omega)]; rfl
theorem inv_id {N B : List Int} (hn : N.Nodup) (h : InvR (fun v u => 0 ≤ u ∧ N[u.toNat]? = some v) N B) : nmB B 0 = [] := by
  refine nmB_id B 0 fun i u hu => ?_
  obtain ⟨v, h1, h2, h3⟩ := inv_get' h hu
  obtain ⟨q1, e1⟩ := List.getElem?_eq_some_iff.1 h1
  obtain ⟨q2, e2⟩ := List.getElem?_eq_some_iff.1 h3
  have := nd_inj hn q1 q2 (e1.trans e2.symm)
  omega
end Go.Proofs.Ytgechlgdnnpoeaa

namespace Go.Proofs.Ytgechlgdnnpoeaa
open Go.RowKit Go
set_option maxRecDepth 100000

theorem box_32 {w : World} {a : Act} {K : Act → World → Prop} {Q : Exit → Act → World → Prop} {o : Oper} {x : Operand} {c0 c1 : Value} (ho : o.op = .box 32 x) (hx : a.eval x = .agg #[c0, c1]) (hK : K (a.put o.dst (.pointer (some ⟨w.heap.size, 0, none⟩))) (w.alloc (.cells #[c0, c1] 32))) : o.wp Try.prog a w K Q := by
  unfold Oper.wp execOp
  simp only [ho, hx]
  go_simp
  exact hK
theorem alloc_32 {w : World} {a : Act} {K : Act → World → Prop} {Q : Exit → Act → World → Prop} {o : Oper} (ho : o.op = .alloc 32) (hK : K (a.put o.dst (.pointer (some ⟨w.heap.size, 0, none⟩))) (w.alloc (.cells #[.int .i64 0, .slice none 0 0] 32))) : o.wp Try.prog a w K Q := by
  unfold Oper.wp execOp
  simp only [ho]
  go_simp
  exact hK
theorem fld_32_0 {w : World} {a : Act} {K : Act → World → Prop} {Q : Exit → Act → World → Prop} {o : Oper} {x : Operand} {b p : Nat} (ho : o.op = .fieldAddr 32 x 0) (hx : a.eval x = .pointer (some ⟨b, p, none⟩)) (hK : K (a.put o.dst (.pointer (some ⟨b, p, none⟩))) w) : o.wp Try.prog a w K Q := by
  unfold Oper.wp execOp
  simp only [ho, hx]
  go_simp
  exact hK
theorem ld_3 {w : World} {a : Act} {K : Act → World → Prop} {Q : Exit → Act → World → Prop} {o : Oper} {x : Operand} {p : Addr} {v : Value} (ho : o.op = .load 3 x) (hx : a.eval x = .pointer (some p)) (hc : w.cell? p = some v) (hK : K (a.put o.dst (v)) w) : o.wp Try.prog a w K Q := by
  unfold Oper.wp execOp
  simp only [ho, hx]
  go_simp
  exact hK
theorem build_32_0 {w : World} {a : Act} {K : Act → World → Prop} {Q : Exit → Act → World → Prop} {o : Oper} {x0 : Operand} {c0 : Int} (ho : o.op = .build 32 #[(0, x0)]) (h0 : a.eval x0 = .int .i64 c0) (hK : K (a.put o.dst (.agg #[.int .i64 c0, .slice none 0 0])) w) : o.wp Try.prog a w K Q := by
  unfold Oper.wp execOp
  simp only [ho, List.map_toArray, List.map_cons, List.map_nil, h0]
  go_simp
  exact hK
theorem st_32 {w : World} {a : Act} {K : Act → World → Prop} {Q : Exit → Act → World → Prop} {o : Oper} {x y : Operand} {g p : Nat} {ty : TypeId} {cs : Array Value} {c0 c1 : Value} (ho : o.op = .store 32 x y) (hx : a.eval x = .pointer (some ⟨g, p, none⟩)) (hy : a.eval y = .agg #[c0, c1]) (k0 : c0.oneCell' = true) (k1 : c1.oneCell' = true) (hB : Blk w g ty cs) (hp : p + 1 < cs.size) (hK : ∀ v, K (a.put o.dst v) ((w.setCell ⟨g, p, none⟩ c0).setCell ⟨g, p + 1, none⟩ c1)) : o.wp Try.prog a w K Q := by
  have h0 := (hB.cell (p)).trans (Array.getElem?_eq_getElem (by first | omega | (simp; omega)))
  have f0 := hB.frozen (p)
  have hB := hB.set_ (p) c0
  have h1 := (hB.cell (p + 1)).trans (Array.getElem?_eq_getElem (by first | omega | (simp; omega)))
  have f1 := hB.frozen (p + 1)
  have s0 := fun w a m => run_store Try.prog w a c0 m k0
  have s1 := fun w a m => run_store Try.prog w a c1 m k1
  clear hB
  unfold Oper.wp execOp
  simp only [ho, hx, hy]
  go_simp
  exact hK _
theorem fld_32_1 {w : World} {a : Act} {K : Act → World → Prop} {Q : Exit → Act → World → Prop} {o : Oper} {x : Operand} {b p : Nat} (ho : o.op = .fieldAddr 32 x 1) (hx : a.eval x = .pointer (some ⟨b, p, none⟩)) (hK : K (a.put o.dst (.pointer (some ⟨b, p + 1, none⟩))) w) : o.wp Try.prog a w K Q := by
  unfold Oper.wp execOp
  simp only [ho, hx]
  go_simp
  exact hK
theorem ld_30 {w : World} {a : Act} {K : Act → World → Prop} {Q : Exit → Act → World → Prop} {o : Oper} {x : Operand} {p : Addr} {v : Value} (ho : o.op = .load 30 x) (hx : a.eval x = .pointer (some p)) (hc : w.cell? p = some v) (hK : K (a.put o.dst (v)) w) : o.wp Try.prog a w K Q := by
  unfold Oper.wp execOp
  simp only [ho, hx]
  go_simp
  exact hK
theorem len_30 {w : World} {a : Act} {K : Act → World → Prop} {Q : Exit → Act → World → Prop} {o : Oper} {x : Operand} {r : Option Addr} {n c : Nat} (ho : o.op = .call { callee := .builtin .len, args := #[x], argTypes := #[30] }) (hx : a.eval x = .slice r n c) (hK : K (a.put o.dst (.int .i64 n)) w) : o.wp Try.prog a w K Q := by
  unfold Oper.wp execOp
  simp only [ho, resolve, List.map_toArray, List.map_cons, List.map_nil, hx]
  go_simp
  exact hK
theorem gtr_3 {w : World} {a : Act} {K : Act → World → Prop} {Q : Exit → Act → World → Prop} {o : Oper} {x y : Operand} {m n : Int} (ho : o.op = .binOp .gtr 3 x y 3) (hx : a.eval x = .int .i64 m) (hy : a.eval y = .int .i64 n) (hK : K (a.put o.dst (.bool (decide (n < m)))) w) : o.wp Try.prog a w K Q := by
  unfold Oper.wp execOp
  simp only [ho, hx, hy]
  go_simp
  exact hK
theorem st_30 {w : World} {a : Act} {K : Act → World → Prop} {Q : Exit → Act → World → Prop} {o : Oper} {x y : Operand} {g p : Nat} {ty : TypeId} {cs : Array Value} {c0a : Option Addr} {c0n c0c : Nat} (ho : o.op = .store 30 x y) (hx : a.eval x = .pointer (some ⟨g, p, none⟩)) (hy : a.eval y = .slice c0a c0n c0c) (hB : Blk w g ty cs) (hp : p + 0 < cs.size) (hK : ∀ v, K (a.put o.dst v) (w.setCell ⟨g, p, none⟩ (.slice c0a c0n c0c))) : o.wp Try.prog a w K Q := by
  have h0 := (hB.cell (p)).trans (Array.getElem?_eq_getElem (by first | omega | (simp; omega)))
  have f0 := hB.frozen (p)
  clear hB
  unfold Oper.wp execOp
  simp only [ho, hx, hy]
  go_simp
  exact hK _
theorem lss_3 {w : World} {a : Act} {K : Act → World → Prop} {Q : Exit → Act → World → Prop} {o : Oper} {x y : Operand} {m n : Int} (ho : o.op = .binOp .lss 3 x y 3) (hx : a.eval x = .int .i64 m) (hy : a.eval y = .int .i64 n) (hK : K (a.put o.dst (.bool (decide (m < n)))) w) : o.wp Try.prog a w K Q := by
  unfold Oper.wp execOp
  simp only [ho, hx, hy]
  go_simp
  exact hK
theorem ix_30 {w : World} {a : Act} {K : Act → World → Prop} {Q : Exit → Act → World → Prop} {o : Oper} {x y : Operand} {r : Option Addr} {b p n c k : Nat} (ho : o.op = .indexAddr 30 x y) (hx : a.eval x = .slice r n c) (hr : r = some ⟨b, p, none⟩) (hy : a.eval y = .int .i64 (k : Int)) (hk : k < n) (hK : K (a.put o.dst (.pointer (some ⟨b, p + k * 2, none⟩))) w) : o.wp Try.prog a w K Q := by
  subst hr
  have h0 : (0 : Int) ≤ (k : Int) := by omega
  have h1 : (k : Int) < (n : Int) := by omega
  unfold Oper.wp execOp
  simp only [ho, hx, hy]
  go_simp
  exact hK
theorem ld_32 {w : World} {a : Act} {K : Act → World → Prop} {Q : Exit → Act → World → Prop} {o : Oper} {x : Operand} {b p : Nat} {c0 c1 : Value} (ho : o.op = .load 32 x) (hx : a.eval x = .pointer (some ⟨b, p, none⟩)) (h0 : w.cell? ⟨b, p, none⟩ = some c0) (h1 : w.cell? ⟨b, p + 1, none⟩ = some c1) (hK : K (a.put o.dst (.agg #[c0, c1])) w) : o.wp Try.prog a w K Q := by
  unfold Oper.wp execOp
  simp only [ho, hx]
  go_simp
  exact hK
theorem add_3 {w : World} {a : Act} {K : Act → World → Prop} {Q : Exit → Act → World → Prop} {o : Oper} {x y : Operand} {m n : Int} (ho : o.op = .binOp .add 3 x y 3) (hx : a.eval x = .int .i64 m) (hy : a.eval y = .int .i64 n) (hK : K (a.put o.dst (.int .i64 (IntKind.i64.wrap (m + n)))) w) : o.wp Try.prog a w K Q := by
  unfold Oper.wp execOp
  simp only [ho, hx, hy]
  go_simp
  exact hK
theorem addb_3 {w : World} {a : Act} {K : Act → World → Prop} {Q : Exit → Act → World → Prop} {o : Oper} {x y : Operand} {m n r : Int} (ho : o.op = .binOp .add 3 x y 3) (hx : a.eval x = .int .i64 m) (hy : a.eval y = .int .i64 n) (hr : IntKind.i64.wrap (m + n) = r) (hK : K (a.put o.dst (.int .i64 r)) w) : o.wp Try.prog a w K Q := by
  subst hr
  unfold Oper.wp execOp
  simp only [ho, hx, hy]
  go_simp
  exact hK
theorem row_30_1 {w : World} {a : Act} {K : Act → World → Prop} {Q : Exit → Act → World → Prop} {o : Oper} {x0 : Operand} {c0 c1 : Value} (ho : o.op = .buildSlice 30 1 #[(0, x0)]) (h0 : a.eval x0 = .agg #[c0, c1]) (hK : K (a.put o.dst (.slice (some ⟨w.heap.size, 0, none⟩) 1 1)) (w.alloc (.cells #[c0, c1] 32))) : o.wp Try.prog a w K Q := by
  unfold Oper.wp execOp
  simp only [ho, List.map_toArray, List.map_cons, List.map_nil, h0]
  go_simp
  exact hK
theorem app_30 {w : World} {a : Act} {K : Act → World → Prop} {Q : Exit → Act → World → Prop} {o : Oper} {s x : Operand} {n m rc : Nat} {S : Nat → Prop} {ra : Option Addr} {y : Value} {xs news : List Value} (ho : o.op = .call { callee := .builtin .append, args := #[s, x], argTypes := #[30, 30] }) (hs : a.eval s = .slice ra n rc) (hx : a.eval x = y) (hown : Own w S 32 2 ra rc n xs) (hsrc : SrcIs w y m news) (hl : news.length = m * 2) (h1 : ∀ u ∈ news, u.oneCell' = true)
    (hb : (n + m) * 32 ≤ 140737488355328) (hn : n + m ≤ 9223372036854775807) (hS : S w.heap.size) (hK : ∀ ra rc w', Own w' S 32 2 ra rc (n + m) (xs ++ news) → Chg S w w' → K (a.put o.dst (.slice ra (n + m) rc)) w') : o.wp Try.prog a w K Q :=
  wp_own Try.underlying30 (z := .agg #[.int .i64 0, .slice none 0 0]) (size := 2) (bytes := 32) (by kernel_rfl) rfl (by decide) ho hs hx hown hsrc hl h1 hb hn hS hK
theorem eql_3 {w : World} {a : Act} {K : Act → World → Prop} {Q : Exit → Act → World → Prop} {o : Oper} {x y : Operand} {m n : Int} (ho : o.op = .binOp .eql 3 x y 3) (hx : a.eval x = .int .i64 m) (hy : a.eval y = .int .i64 n) (hK : K (a.put o.dst (.bool (m == n))) w) : o.wp Try.prog a w K Q := by
  unfold Oper.wp execOp
  simp only [ho, hx, hy]
  go_simp
  exact hK
theorem box_56 {w : World} {a : Act} {K : Act → World → Prop} {Q : Exit → Act → World → Prop} {o : Oper} {x : Operand} {c0 c1 c2 : Value} (ho : o.op = .box 56 x) (hx : a.eval x = .agg #[c0, c1, c2]) (hK : K (a.put o.dst (.pointer (some ⟨w.heap.size, 0, none⟩))) (w.alloc (.cells #[c0, c1, c2] 56))) : o.wp Try.prog a w K Q := by
  unfold Oper.wp execOp
  simp only [ho, hx]
  go_simp
  exact hK
theorem fld_56_1 {w : World} {a : Act} {K : Act → World → Prop} {Q : Exit → Act → World → Prop} {o : Oper} {x : Operand} {b p : Nat} (ho : o.op = .fieldAddr 56 x 1) (hx : a.eval x = .pointer (some ⟨b, p, none⟩)) (hK : K (a.put o.dst (.pointer (some ⟨b, p + 1, none⟩))) w) : o.wp Try.prog a w K Q := by
  unfold Oper.wp execOp
  simp only [ho, hx]
  go_simp
  exact hK
theorem fld_56_0 {w : World} {a : Act} {K : Act → World → Prop} {Q : Exit → Act → World → Prop} {o : Oper} {x : Operand} {b p : Nat} (ho : o.op = .fieldAddr 56 x 0) (hx : a.eval x = .pointer (some ⟨b, p, none⟩)) (hK : K (a.put o.dst (.pointer (some ⟨b, p, none⟩))) w) : o.wp Try.prog a w K Q := by
  unfold Oper.wp execOp
  simp only [ho, hx]
  go_simp
  exact hK
theorem sub_3 {w : World} {a : Act} {K : Act → World → Prop} {Q : Exit → Act → World → Prop} {o : Oper} {x y : Operand} {m n : Int} (ho : o.op = .binOp .sub 3 x y 3) (hx : a.eval x = .int .i64 m) (hy : a.eval y = .int .i64 n) (hK : K (a.put o.dst (.int .i64 (IntKind.i64.wrap (m - n)))) w) : o.wp Try.prog a w K Q := by
  unfold Oper.wp execOp
  simp only [ho, hx, hy]
  go_simp
  exact hK
theorem subb_3 {w : World} {a : Act} {K : Act → World → Prop} {Q : Exit → Act → World → Prop} {o : Oper} {x y : Operand} {m n r : Int} (ho : o.op = .binOp .sub 3 x y 3) (hx : a.eval x = .int .i64 m) (hy : a.eval y = .int .i64 n) (hr : IntKind.i64.wrap (m - n) = r) (hK : K (a.put o.dst (.int .i64 r)) w) : o.wp Try.prog a w K Q := by
  subst hr
  unfold Oper.wp execOp
  simp only [ho, hx, hy]
  go_simp
  exact hK
theorem len_23 {w : World} {a : Act} {K : Act → World → Prop} {Q : Exit → Act → World → Prop} {o : Oper} {x : Operand} {r : Option Addr} {n c : Nat} (ho : o.op = .call { callee := .builtin .len, args := #[x], argTypes := #[23] }) (hx : a.eval x = .slice r n c) (hK : K (a.put o.dst (.int .i64 n)) w) : o.wp Try.prog a w K Q := by
  unfold Oper.wp execOp
  simp only [ho, resolve, List.map_toArray, List.map_cons, List.map_nil, hx]
  go_simp
  exact hK
theorem ix_23 {w : World} {a : Act} {K : Act → World → Prop} {Q : Exit → Act → World → Prop} {o : Oper} {x y : Operand} {r : Option Addr} {b p n c k : Nat} (ho : o.op = .indexAddr 23 x y) (hx : a.eval x = .slice r n c) (hr : r = some ⟨b, p, none⟩) (hy : a.eval y = .int .i64 (k : Int)) (hk : k < n) (hK : K (a.put o.dst (.pointer (some ⟨b, p + k * 3, none⟩))) w) : o.wp Try.prog a w K Q := by
  subst hr
  have h0 : (0 : Int) ≤ (k : Int) := by omega
  have h1 : (k : Int) < (n : Int) := by omega
  unfold Oper.wp execOp
  simp only [ho, hx, hy]
  go_simp
  exact hK
theorem ld_56 {w : World} {a : Act} {K : Act → World → Prop} {Q : Exit → Act → World → Prop} {o : Oper} {x : Operand} {b p : Nat} {c0 c1 c2 : Value} (ho : o.op = .load 56 x) (hx : a.eval x = .pointer (some ⟨b, p, none⟩)) (h0 : w.cell? ⟨b, p, none⟩ = some c0) (h1 : w.cell? ⟨b, p + 1, none⟩ = some c1) (h2 : w.cell? ⟨b, p + 2, none⟩ = some c2) (hK : K (a.put o.dst (.agg #[c0, c1, c2])) w) : o.wp Try.prog a w K Q := by
  unfold Oper.wp execOp
  simp only [ho, hx]
  go_simp
  exact hK
theorem alloc_56 {w : World} {a : Act} {K : Act → World → Prop} {Q : Exit → Act → World → Prop} {o : Oper} (ho : o.op = .alloc 56) (hK : K (a.put o.dst (.pointer (some ⟨w.heap.size, 0, none⟩))) (w.alloc (.cells #[.int .i64 0, .int .i64 0, .slice none 0 0] 56))) : o.wp Try.prog a w K Q := by
  unfold Oper.wp execOp
  simp only [ho]
  go_simp
  exact hK
theorem st_56 {w : World} {a : Act} {K : Act → World → Prop} {Q : Exit → Act → World → Prop} {o : Oper} {x y : Operand} {g p : Nat} {ty : TypeId} {cs : Array Value} {c0 c1 c2 : Value} (ho : o.op = .store 56 x y) (hx : a.eval x = .pointer (some ⟨g, p, none⟩)) (hy : a.eval y = .agg #[c0, c1, c2]) (k0 : c0.oneCell' = true) (k1 : c1.oneCell' = true) (k2 : c2.oneCell' = true) (hB : Blk w g ty cs) (hp : p + 2 < cs.size) (hK : ∀ v, K (a.put o.dst v) (((w.setCell ⟨g, p, none⟩ c0).setCell ⟨g, p + 1, none⟩ c1).setCell ⟨g, p + 2, none⟩ c2)) : o.wp Try.prog a w K Q := by
  have h0 := (hB.cell (p)).trans (Array.getElem?_eq_getElem (by first | omega | (simp; omega)))
  have f0 := hB.frozen (p)
  have hB := hB.set_ (p) c0
  have h1 := (hB.cell (p + 1)).trans (Array.getElem?_eq_getElem (by first | omega | (simp; omega)))
  have f1 := hB.frozen (p + 1)
  have hB := hB.set_ (p + 1) c1
  have h2 := (hB.cell (p + 2)).trans (Array.getElem?_eq_getElem (by first | omega | (simp; omega)))
  have f2 := hB.frozen (p + 2)
  have s0 := fun w a m => run_store Try.prog w a c0 m k0
  have s1 := fun w a m => run_store Try.prog w a c1 m k1
  have s2 := fun w a m => run_store Try.prog w a c2 m k2
  clear hB
  unfold Oper.wp execOp
  simp only [ho, hx, hy]
  go_simp
  exact hK _
theorem leq_3 {w : World} {a : Act} {K : Act → World → Prop} {Q : Exit → Act → World → Prop} {o : Oper} {x y : Operand} {m n : Int} (ho : o.op = .binOp .leq 3 x y 3) (hx : a.eval x = .int .i64 m) (hy : a.eval y = .int .i64 n) (hK : K (a.put o.dst (.bool (decide (m ≤ n)))) w) : o.wp Try.prog a w K Q := by
  unfold Oper.wp execOp
  simp only [ho, hx, hy]
  go_simp
  exact hK
theorem box_3 {w : World} {a : Act} {K : Act → World → Prop} {Q : Exit → Act → World → Prop} {o : Oper} {x : Operand} {c0 : Int} (ho : o.op = .box 3 x) (hx : a.eval x = .int .i64 c0) (hK : K (a.put o.dst (.pointer (some ⟨w.heap.size, 0, none⟩))) (w.alloc (.cells #[.int .i64 c0] 3))) : o.wp Try.prog a w K Q := by
  unfold Oper.wp execOp
  simp only [ho, hx]
  go_simp
  exact hK
theorem eql_26 {w : World} {a : Act} {K : Act → World → Prop} {Q : Exit → Act → World → Prop} {o : Oper} {x y : Operand} {m n : Int} (ho : o.op = .binOp .eql 26 x y 26) (hx : a.eval x = .int .i64 m) (hy : a.eval y = .int .i64 n) (hK : K (a.put o.dst (.bool (m == n))) w) : o.wp Try.prog a w K Q := by
  unfold Oper.wp execOp
  simp only [ho, hx, hy]
  go_simp
  exact hK
theorem ext2_0 {w : World} {a : Act} {K : Act → World → Prop} {Q : Exit → Act → World → Prop} {o : Oper} {x : Operand} {v0 v1 : Value} (ho : o.op = .extract x 0) (hx : a.eval x = .tuple #[v0, v1]) (hK : K (a.put o.dst (v0)) w) : o.wp Try.prog a w K Q := by
  unfold Oper.wp execOp
  simp only [ho, hx]
  go_simp
  exact hK
theorem ext3_0 {w : World} {a : Act} {K : Act → World → Prop} {Q : Exit → Act → World → Prop} {o : Oper} {x : Operand} {v0 v1 v2 : Value} (ho : o.op = .extract x 0) (hx : a.eval x = .tuple #[v0, v1, v2]) (hK : K (a.put o.dst (v0)) w) : o.wp Try.prog a w K Q := by
  unfold Oper.wp execOp
  simp only [ho, hx]
  go_simp
  exact hK
theorem ext2_1 {w : World} {a : Act} {K : Act → World → Prop} {Q : Exit → Act → World → Prop} {o : Oper} {x : Operand} {v0 v1 : Value} (ho : o.op = .extract x 1) (hx : a.eval x = .tuple #[v0, v1]) (hK : K (a.put o.dst (v1)) w) : o.wp Try.prog a w K Q := by
  unfold Oper.wp execOp
  simp only [ho, hx]
  go_simp
  exact hK
theorem ext3_1 {w : World} {a : Act} {K : Act → World → Prop} {Q : Exit → Act → World → Prop} {o : Oper} {x : Operand} {v0 v1 v2 : Value} (ho : o.op = .extract x 1) (hx : a.eval x = .tuple #[v0, v1, v2]) (hK : K (a.put o.dst (v1)) w) : o.wp Try.prog a w K Q := by
  unfold Oper.wp execOp
  simp only [ho, hx]
  go_simp
  exact hK
theorem neqp_57 {w : World} {a : Act} {K : Act → World → Prop} {Q : Exit → Act → World → Prop} {o : Oper} {x y : Operand} {p : Addr} (ho : o.op = .binOp .neq 57 x y 57) (hx : a.eval x = .pointer (some p)) (hy : a.eval y = .pointer none) (hK : K (a.put o.dst (.bool true)) w) : o.wp Try.prog a w K Q := by
  unfold Oper.wp execOp
  simp only [ho, hx, hy]
  go_simp
  exact hK
theorem neqn_57 {w : World} {a : Act} {K : Act → World → Prop} {Q : Exit → Act → World → Prop} {o : Oper} {x y : Operand} (ho : o.op = .binOp .neq 57 x y 57) (hx : a.eval x = .pointer none) (hy : a.eval y = .pointer none) (hK : K (a.put o.dst (.bool false)) w) : o.wp Try.prog a w K Q := by
  unfold Oper.wp execOp
  simp only [ho, hx, hy]
  go_simp
  exact hK
theorem nilCheck_ {w : World} {a : Act} {K : Act → World → Prop} {Q : Exit → Act → World → Prop} {o : Oper} {x : Operand} {p : Addr} (ho : o.op = .nilCheck x) (hx : a.eval x = .pointer (some p)) (hK : K (a.put o.dst (.pointer (some p))) w) : o.wp Try.prog a w K Q := by
  unfold Oper.wp execOp
  simp only [ho, hx]
  go_simp
  exact hK
theorem build_32_ {w : World} {a : Act} {K : Act → World → Prop} {Q : Exit → Act → World → Prop} {o : Oper}   (ho : o.op = .build 32 #[])  (hK : K (a.put o.dst (.agg #[.int .i64 0, .slice none 0 0])) w) : o.wp Try.prog a w K Q := by
  unfold Oper.wp execOp
  simp only [ho, List.map_toArray, List.map_cons, List.map_nil, ]
  go_simp
  exact hK
theorem box_23 {w : World} {a : Act} {K : Act → World → Prop} {Q : Exit → Act → World → Prop} {o : Oper} {x : Operand} {c0a : Option Addr} {c0n c0c : Nat} (ho : o.op = .box 23 x) (hx : a.eval x = .slice c0a c0n c0c) (hK : K (a.put o.dst (.pointer (some ⟨w.heap.size, 0, none⟩))) (w.alloc (.cells #[.slice c0a c0n c0c] 23))) : o.wp Try.prog a w K Q := by
  unfold Oper.wp execOp
  simp only [ho, hx]
  go_simp
  exact hK
theorem ld_23 {w : World} {a : Act} {K : Act → World → Prop} {Q : Exit → Act → World → Prop} {o : Oper} {x : Operand} {p : Addr} {v : Value} (ho : o.op = .load 23 x) (hx : a.eval x = .pointer (some p)) (hc : w.cell? p = some v) (hK : K (a.put o.dst (v)) w) : o.wp Try.prog a w K Q := by
  unfold Oper.wp execOp
  simp only [ho, hx]
  go_simp
  exact hK
theorem box_44 {w : World} {a : Act} {K : Act → World → Prop} {Q : Exit → Act → World → Prop} {o : Oper} {x : Operand} {c0 c1 c2 c3 c4 : Value} (ho : o.op = .box 44 x) (hx : a.eval x = .agg #[c0, c1, c2, c3, c4]) (hK : K (a.put o.dst (.pointer (some ⟨w.heap.size, 0, none⟩))) (w.alloc (.cells #[c0, c1, c2, c3, c4] 44))) : o.wp Try.prog a w K Q := by
  unfold Oper.wp execOp
  simp only [ho, hx]
  go_simp
  exact hK
theorem alloc_44 {w : World} {a : Act} {K : Act → World → Prop} {Q : Exit → Act → World → Prop} {o : Oper} (ho : o.op = .alloc 44) (hK : K (a.put o.dst (.pointer (some ⟨w.heap.size, 0, none⟩))) (w.alloc (.cells #[.bool false, .int .i64 0, .slice none 0 0, .int .i64 0, .slice none 0 0] 44))) : o.wp Try.prog a w K Q := by
  unfold Oper.wp execOp
  simp only [ho]
  go_simp
  exact hK
theorem fld_44_0 {w : World} {a : Act} {K : Act → World → Prop} {Q : Exit → Act → World → Prop} {o : Oper} {x : Operand} {b p : Nat} (ho : o.op = .fieldAddr 44 x 0) (hx : a.eval x = .pointer (some ⟨b, p, none⟩)) (hK : K (a.put o.dst (.pointer (some ⟨b, p, none⟩))) w) : o.wp Try.prog a w K Q := by
  unfold Oper.wp execOp
  simp only [ho, hx]
  go_simp
  exact hK
theorem ld_4 {w : World} {a : Act} {K : Act → World → Prop} {Q : Exit → Act → World → Prop} {o : Oper} {x : Operand} {p : Addr} {v : Value} (ho : o.op = .load 4 x) (hx : a.eval x = .pointer (some p)) (hc : w.cell? p = some v) (hK : K (a.put o.dst (v)) w) : o.wp Try.prog a w K Q := by
  unfold Oper.wp execOp
  simp only [ho, hx]
  go_simp
  exact hK
theorem fld_44_1 {w : World} {a : Act} {K : Act → World → Prop} {Q : Exit → Act → World → Prop} {o : Oper} {x : Operand} {b p : Nat} (ho : o.op = .fieldAddr 44 x 1) (hx : a.eval x = .pointer (some ⟨b, p, none⟩)) (hK : K (a.put o.dst (.pointer (some ⟨b, p + 1, none⟩))) w) : o.wp Try.prog a w K Q := by
  unfold Oper.wp execOp
  simp only [ho, hx]
  go_simp
  exact hK
theorem fld_44_2 {w : World} {a : Act} {K : Act → World → Prop} {Q : Exit → Act → World → Prop} {o : Oper} {x : Operand} {b p : Nat} (ho : o.op = .fieldAddr 44 x 2) (hx : a.eval x = .pointer (some ⟨b, p, none⟩)) (hK : K (a.put o.dst (.pointer (some ⟨b, p + 3, none⟩))) w) : o.wp Try.prog a w K Q := by
  unfold Oper.wp execOp
  simp only [ho, hx]
  go_simp
  exact hK
theorem build_44_0_1_2 {w : World} {a : Act} {K : Act → World → Prop} {Q : Exit → Act → World → Prop} {o : Oper} {x0 x1 x2 : Operand} {c0 : Bool} {c1 c2 : Value} {c3 c4 : Value} (ho : o.op = .build 44 #[(0, x0), (1, x1), (2, x2)]) (h0 : a.eval x0 = .bool c0) (h1 : a.eval x1 = .agg #[c1, c2]) (h2 : a.eval x2 = .agg #[c3, c4]) (hK : K (a.put o.dst (.agg #[.bool c0, c1, c2, c3, c4])) w) : o.wp Try.prog a w K Q := by
  unfold Oper.wp execOp
  simp only [ho, List.map_toArray, List.map_cons, List.map_nil, h0, h1, h2]
  go_simp
  exact hK
theorem st_44 {w : World} {a : Act} {K : Act → World → Prop} {Q : Exit → Act → World → Prop} {o : Oper} {x y : Operand} {g p : Nat} {ty : TypeId} {cs : Array Value} {c0 c1 c2 c3 c4 : Value} (ho : o.op = .store 44 x y) (hx : a.eval x = .pointer (some ⟨g, p, none⟩)) (hy : a.eval y = .agg #[c0, c1, c2, c3, c4]) (k0 : c0.oneCell' = true) (k1 : c1.oneCell' = true) (k2 : c2.oneCell' = true) (k3 : c3.oneCell' = true) (k4 : c4.oneCell' = true) (hB : Blk w g ty cs) (hp : p + 4 < cs.size) (hK : ∀ v, K (a.put o.dst v) (((((w.setCell ⟨g, p, none⟩ c0).setCell ⟨g, p + 1, none⟩ c1).setCell ⟨g, p + 2, none⟩ c2).setCell ⟨g, p + 3, none⟩ c3).setCell ⟨g, p + 4, none⟩ c4)) : o.wp Try.prog a w K Q := by
  have h0 := (hB.cell (p)).trans (Array.getElem?_eq_getElem (by first | omega | (simp; omega)))
  have f0 := hB.frozen (p)
  have hB := hB.set_ (p) c0
  have h1 := (hB.cell (p + 1)).trans (Array.getElem?_eq_getElem (by first | omega | (simp; omega)))
  have f1 := hB.frozen (p + 1)
  have hB := hB.set_ (p + 1) c1
  have h2 := (hB.cell (p + 2)).trans (Array.getElem?_eq_getElem (by first | omega | (simp; omega)))
  have f2 := hB.frozen (p + 2)
  have hB := hB.set_ (p + 2) c2
  have h3 := (hB.cell (p + 3)).trans (Array.getElem?_eq_getElem (by first | omega | (simp; omega)))
  have f3 := hB.frozen (p + 3)
  have hB := hB.set_ (p + 3) c3
  have h4 := (hB.cell (p + 4)).trans (Array.getElem?_eq_getElem (by first | omega | (simp; omega)))
  have f4 := hB.frozen (p + 4)
  have s0 := fun w a m => run_store Try.prog w a c0 m k0
  have s1 := fun w a m => run_store Try.prog w a c1 m k1
  have s2 := fun w a m => run_store Try.prog w a c2 m k2
  have s3 := fun w a m => run_store Try.prog w a c3 m k3
  have s4 := fun w a m => run_store Try.prog w a c4 m k4
  clear hB
  unfold Oper.wp execOp
  simp only [ho, hx, hy]
  go_simp
  exact hK _
theorem len_42 {w : World} {a : Act} {K : Act → World → Prop} {Q : Exit → Act → World → Prop} {o : Oper} {x : Operand} {r : Option Addr} {n c : Nat} (ho : o.op = .call { callee := .builtin .len, args := #[x], argTypes := #[42] }) (hx : a.eval x = .slice r n c) (hK : K (a.put o.dst (.int .i64 n)) w) : o.wp Try.prog a w K Q := by
  unfold Oper.wp execOp
  simp only [ho, resolve, List.map_toArray, List.map_cons, List.map_nil, hx]
  go_simp
  exact hK
theorem ix_42 {w : World} {a : Act} {K : Act → World → Prop} {Q : Exit → Act → World → Prop} {o : Oper} {x y : Operand} {r : Option Addr} {b p n c k : Nat} (ho : o.op = .indexAddr 42 x y) (hx : a.eval x = .slice r n c) (hr : r = some ⟨b, p, none⟩) (hy : a.eval y = .int .i64 (k : Int)) (hk : k < n) (hK : K (a.put o.dst (.pointer (some ⟨b, p + k * 5, none⟩))) w) : o.wp Try.prog a w K Q := by
  subst hr
  have h0 : (0 : Int) ≤ (k : Int) := by omega
  have h1 : (k : Int) < (n : Int) := by omega
  unfold Oper.wp execOp
  simp only [ho, hx, hy]
  go_simp
  exact hK
theorem ld_44 {w : World} {a : Act} {K : Act → World → Prop} {Q : Exit → Act → World → Prop} {o : Oper} {x : Operand} {b p : Nat} {c0 c1 c2 c3 c4 : Value} (ho : o.op = .load 44 x) (hx : a.eval x = .pointer (some ⟨b, p, none⟩)) (h0 : w.cell? ⟨b, p, none⟩ = some c0) (h1 : w.cell? ⟨b, p + 1, none⟩ = some c1) (h2 : w.cell? ⟨b, p + 2, none⟩ = some c2) (h3 : w.cell? ⟨b, p + 3, none⟩ = some c3) (h4 : w.cell? ⟨b, p + 4, none⟩ = some c4) (hK : K (a.put o.dst (.agg #[c0, c1, c2, c3, c4])) w) : o.wp Try.prog a w K Q := by
  unfold Oper.wp execOp
  simp only [ho, hx]
  go_simp
  exact hK
theorem row_42_1 {w : World} {a : Act} {K : Act → World → Prop} {Q : Exit → Act → World → Prop} {o : Oper} {x0 : Operand} {c0 c1 c2 c3 c4 : Value} (ho : o.op = .buildSlice 42 1 #[(0, x0)]) (h0 : a.eval x0 = .agg #[c0, c1, c2, c3, c4]) (hK : K (a.put o.dst (.slice (some ⟨w.heap.size, 0, none⟩) 1 1)) (w.alloc (.cells #[c0, c1, c2, c3, c4] 44))) : o.wp Try.prog a w K Q := by
  unfold Oper.wp execOp
  simp only [ho, List.map_toArray, List.map_cons, List.map_nil, h0]
  go_simp
  exact hK
theorem app_42 {w : World} {a : Act} {K : Act → World → Prop} {Q : Exit → Act → World → Prop} {o : Oper} {s x : Operand} {n m rc : Nat} {S : Nat → Prop} {ra : Option Addr} {y : Value} {xs news : List Value} (ho : o.op = .call { callee := .builtin .append, args := #[s, x], argTypes := #[42, 42] }) (hs : a.eval s = .slice ra n rc) (hx : a.eval x = y) (hown : Own w S 44 5 ra rc n xs) (hsrc : SrcIs w y m news) (hl : news.length = m * 5) (h1 : ∀ u ∈ news, u.oneCell' = true)
    (hb : (n + m) * 72 ≤ 140737488355328) (hn : n + m ≤ 9223372036854775807) (hS : S w.heap.size) (hK : ∀ ra rc w', Own w' S 44 5 ra rc (n + m) (xs ++ news) → Chg S w w' → K (a.put o.dst (.slice ra (n + m) rc)) w') : o.wp Try.prog a w K Q :=
  wp_own Try.underlying42 (z := .agg #[.bool false, .int .i64 0, .slice none 0 0, .int .i64 0, .slice none 0 0]) (size := 5) (bytes := 72) (by kernel_rfl) rfl (by decide) ho hs hx hown hsrc hl h1 hb hn hS hK
theorem st_3 {w : World} {a : Act} {K : Act → World → Prop} {Q : Exit → Act → World → Prop} {o : Oper} {x y : Operand} {g p : Nat} {ty : TypeId} {cs : Array Value} {c0 : Int} (ho : o.op = .store 3 x y) (hx : a.eval x = .pointer (some ⟨g, p, none⟩)) (hy : a.eval y = .int .i64 c0) (hB : Blk w g ty cs) (hp : p + 0 < cs.size) (hK : ∀ v, K (a.put o.dst v) (w.setCell ⟨g, p, none⟩ (.int .i64 c0))) : o.wp Try.prog a w K Q := by
  have h0 := (hB.cell (p)).trans (Array.getElem?_eq_getElem (by first | omega | (simp; omega)))
  have f0 := hB.frozen (p)
  clear hB
  unfold Oper.wp execOp
  simp only [ho, hx, hy]
  go_simp
  exact hK _
theorem geq_3 {w : World} {a : Act} {K : Act → World → Prop} {Q : Exit → Act → World → Prop} {o : Oper} {x y : Operand} {m n : Int} (ho : o.op = .binOp .geq 3 x y 3) (hx : a.eval x = .int .i64 m) (hy : a.eval y = .int .i64 n) (hK : K (a.put o.dst (.bool (decide (n ≤ m)))) w) : o.wp Try.prog a w K Q := by
  unfold Oper.wp execOp
  simp only [ho, hx, hy]
  go_simp
  exact hK
theorem neq_3 {w : World} {a : Act} {K : Act → World → Prop} {Q : Exit → Act → World → Prop} {o : Oper} {x y : Operand} {m n : Int} (ho : o.op = .binOp .neq 3 x y 3) (hx : a.eval x = .int .i64 m) (hy : a.eval y = .int .i64 n) (hK : K (a.put o.dst (.bool (m != n))) w) : o.wp Try.prog a w K Q := by
  unfold Oper.wp execOp
  simp only [ho, hx, hy]
  go_simp
  exact hK
theorem neq_26 {w : World} {a : Act} {K : Act → World → Prop} {Q : Exit → Act → World → Prop} {o : Oper} {x y : Operand} {m n : Int} (ho : o.op = .binOp .neq 26 x y 26) (hx : a.eval x = .int .i64 m) (hy : a.eval y = .int .i64 n) (hK : K (a.put o.dst (.bool (m != n))) w) : o.wp Try.prog a w K Q := by
  unfold Oper.wp execOp
  simp only [ho, hx, hy]
  go_simp
  exact hK
theorem neq_4 {w : World} {a : Act} {K : Act → World → Prop} {Q : Exit → Act → World → Prop} {o : Oper} {x y : Operand} {m n : Bool} (ho : o.op = .binOp .neq 4 x y 4) (hx : a.eval x = .bool m) (hy : a.eval y = .bool n) (hK : K (a.put o.dst (.bool (m != n))) w) : o.wp Try.prog a w K Q := by
  unfold Oper.wp execOp
  simp only [ho, hx, hy]
  go_simp
  exact hK
theorem build_56_0_1 {w : World} {a : Act} {K : Act → World → Prop} {Q : Exit → Act → World → Prop} {o : Oper} {x0 x1 : Operand} {c0 : Int} {c1 c2 : Value} (ho : o.op = .build 56 #[(0, x0), (1, x1)]) (h0 : a.eval x0 = .int .i64 c0) (h1 : a.eval x1 = .agg #[c1, c2]) (hK : K (a.put o.dst (.agg #[.int .i64 c0, c1, c2])) w) : o.wp Try.prog a w K Q := by
  unfold Oper.wp execOp
  simp only [ho, List.map_toArray, List.map_cons, List.map_nil, h0, h1]
  go_simp
  exact hK
theorem row_23_1 {w : World} {a : Act} {K : Act → World → Prop} {Q : Exit → Act → World → Prop} {o : Oper} {x0 : Operand} {c0 c1 c2 : Value} (ho : o.op = .buildSlice 23 1 #[(0, x0)]) (h0 : a.eval x0 = .agg #[c0, c1, c2]) (hK : K (a.put o.dst (.slice (some ⟨w.heap.size, 0, none⟩) 1 1)) (w.alloc (.cells #[c0, c1, c2] 56))) : o.wp Try.prog a w K Q := by
  unfold Oper.wp execOp
  simp only [ho, List.map_toArray, List.map_cons, List.map_nil, h0]
  go_simp
  exact hK
theorem part_32_0 {w : World} {a : Act} {K : Act → World → Prop} {Q : Exit → Act → World → Prop} {o : Oper} {x : Operand} {c0 c1 : Value} (ho : o.op = .field 32 x 0) (hx : a.eval x = .agg #[c0, c1]) (hK : K (a.put o.dst (c0)) w) : o.wp Try.prog a w K Q := by
  unfold Oper.wp execOp
  simp only [ho, hx]
  go_simp
  exact hK
theorem app_23 {w : World} {a : Act} {K : Act → World → Prop} {Q : Exit → Act → World → Prop} {o : Oper} {s x : Operand} {n m rc : Nat} {S : Nat → Prop} {ra : Option Addr} {y : Value} {xs news : List Value} (ho : o.op = .call { callee := .builtin .append, args := #[s, x], argTypes := #[23, 23] }) (hs : a.eval s = .slice ra n rc) (hx : a.eval x = y) (hown : Own w S 56 3 ra rc n xs) (hsrc : SrcIs w y m news) (hl : news.length = m * 3) (h1 : ∀ u ∈ news, u.oneCell' = true)
    (hb : (n + m) * 40 ≤ 140737488355328) (hn : n + m ≤ 9223372036854775807) (hS : S w.heap.size) (hK : ∀ ra rc w', Own w' S 56 3 ra rc (n + m) (xs ++ news) → Chg S w w' → K (a.put o.dst (.slice ra (n + m) rc)) w') : o.wp Try.prog a w K Q :=
  wp_own Try.underlying23 (z := .agg #[.int .i64 0, .int .i64 0, .slice none 0 0]) (size := 3) (bytes := 40) (by kernel_rfl) rfl (by decide) ho hs hx hown hsrc hl h1 hb hn hS hK
theorem eqlp_57 {w : World} {a : Act} {K : Act → World → Prop} {Q : Exit → Act → World → Prop} {o : Oper} {x y : Operand} {p : Addr} (ho : o.op = .binOp .eql 57 x y 57) (hx : a.eval x = .pointer (some p)) (hy : a.eval y = .pointer none) (hK : K (a.put o.dst (.bool false)) w) : o.wp Try.prog a w K Q := by
  unfold Oper.wp execOp
  simp only [ho, hx, hy]
  go_simp
  exact hK
theorem eqln_57 {w : World} {a : Act} {K : Act → World → Prop} {Q : Exit → Act → World → Prop} {o : Oper} {x y : Operand} (ho : o.op = .binOp .eql 57 x y 57) (hx : a.eval x = .pointer none) (hy : a.eval y = .pointer none) (hK : K (a.put o.dst (.bool true)) w) : o.wp Try.prog a w K Q := by
  unfold Oper.wp execOp
  simp only [ho, hx, hy]
  go_simp
  exact hK
theorem build_56_ {w : World} {a : Act} {K : Act → World → Prop} {Q : Exit → Act → World → Prop} {o : Oper}   (ho : o.op = .build 56 #[])  (hK : K (a.put o.dst (.agg #[.int .i64 0, .int .i64 0, .slice none 0 0])) w) : o.wp Try.prog a w K Q := by
  unfold Oper.wp execOp
  simp only [ho, List.map_toArray, List.map_cons, List.map_nil, ]
  go_simp
  exact hK
theorem len_22 {w : World} {a : Act} {K : Act → World → Prop} {Q : Exit → Act → World → Prop} {o : Oper} {x : Operand} {r : Option Addr} {n c : Nat} (ho : o.op = .call { callee := .builtin .len, args := #[x], argTypes := #[22] }) (hx : a.eval x = .slice r n c) (hK : K (a.put o.dst (.int .i64 n)) w) : o.wp Try.prog a w K Q := by
  unfold Oper.wp execOp
  simp only [ho, resolve, List.map_toArray, List.map_cons, List.map_nil, hx]
  go_simp
  exact hK
theorem quo_3 {w : World} {a : Act} {K : Act → World → Prop} {Q : Exit → Act → World → Prop} {o : Oper} {x y : Operand} {m n : Int} (ho : o.op = .binOp .quo 3 x y 3) (hx : a.eval x = .int .i64 m) (hy : a.eval y = .int .i64 n) (h0 : ¬ n = 0) (hK : K (a.put o.dst (.int .i64 (IntKind.i64.wrap (m.tdiv n)))) w) : o.wp Try.prog a w K Q := by
  unfold Oper.wp execOp
  simp only [ho, hx, hy]
  go_simp
  exact hK
theorem quob_3 {w : World} {a : Act} {K : Act → World → Prop} {Q : Exit → Act → World → Prop} {o : Oper} {x y : Operand} {m n r : Int} (ho : o.op = .binOp .quo 3 x y 3) (hx : a.eval x = .int .i64 m) (hy : a.eval y = .int .i64 n) (h0 : ¬ n = 0) (hr : IntKind.i64.wrap (m.tdiv n) = r) (hK : K (a.put o.dst (.int .i64 r)) w) : o.wp Try.prog a w K Q := by
  subst hr
  unfold Oper.wp execOp
  simp only [ho, hx, hy]
  go_simp
  exact hK
theorem ix_22 {w : World} {a : Act} {K : Act → World → Prop} {Q : Exit → Act → World → Prop} {o : Oper} {x y : Operand} {r : Option Addr} {b p n c k : Nat} (ho : o.op = .indexAddr 22 x y) (hx : a.eval x = .slice r n c) (hr : r = some ⟨b, p, none⟩) (hy : a.eval y = .int .i64 (k : Int)) (hk : k < n) (hK : K (a.put o.dst (.pointer (some ⟨b, p + k * 3, none⟩))) w) : o.wp Try.prog a w K Q := by
  subst hr
  have h0 : (0 : Int) ≤ (k : Int) := by omega
  have h1 : (k : Int) < (n : Int) := by omega
  unfold Oper.wp execOp
  simp only [ho, hx, hy]
  go_simp
  exact hK

end Go.Proofs.Ytgechlgdnnpoeaa
