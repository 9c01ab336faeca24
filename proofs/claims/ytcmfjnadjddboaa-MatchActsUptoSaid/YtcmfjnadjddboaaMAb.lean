/- Operations, one law a kind and type. -/
import Derived.Test.YtcmfjnadjddboaaMAa
import Derived.Laws.IdiomRangeMap
import Derived.WalkKit

/- Substitutions: how they lie in memory. -/
namespace Go.Proofs.Ytcmfjnadjddboaa
open Go.RowKit Go
set_option linter.unusedVariables false
set_option linter.unusedSimpArgs false

structure Bd where
  var : Int
  t : T
instance : Inhabited Bd := ⟨⟨0, .mk 0 []⟩⟩

def eltB : Elt Bd where
  k := 3
  In := fun S w x cs => ∃ u v, cs = [.int .i64 x.var, u, v] ∧ I64 x.var ∧ InT S w x.t (.agg #[u, v])
  keep := fun hb ⟨u, v, e, h0, h⟩ => ⟨u, v, e, h0, h.keep hb⟩
  mono := fun hb ⟨u, v, e, h0, h⟩ => ⟨u, v, e, h0, h.mono hb⟩
  len := fun ⟨_, _, e, _⟩ => by rw [e]; rfl
  one := fun ⟨u, v, e, _, h⟩ x hx => by
    obtain ⟨_, a, c, e2, _⟩ := h.form
    simp only [Value.agg.injEq, Array.mk.injEq, List.cons.injEq, and_true] at e2
    rw [e] at hx
    simp only [List.mem_cons, List.not_mem_nil, or_false] at hx
    rcases hx with rfl | rfl | rfl
    · rfl
    · rw [e2.1]; rfl
    · rw [e2.2]; rfl

def dget (l : List Bd) (k : Nat) : Bd := l.getD k default
theorem dget_lt {l : List Bd} {k : Nat} (h : k < l.length) : dget l k = l[k] := by simp [dget, h]
theorem dget_mem {l : List Bd} {k : Nat} (h : k < l.length) : dget l k ∈ l := by rw [dget_lt h]; exact List.getElem_mem h

/-- A substitution that came in. -/
abbrev IsBs (w : World) (l : List Bd) (a : Option Addr) : Prop := InRow eltB (fun _ => True) w l a
theorem InRow.openB {S : Nat → Prop} {w : World} {l : List Bd} {a : Option Addr} (h : InRow eltB S w l a) : ∃ (b o : Nat) (A : Nat → Option Addr) (C : Nat → Nat), (∀ k, k < l.length → a = some ⟨b, o, none⟩) ∧
    ∀ k, k < l.length → w.cell? ⟨b, o + k * 3, none⟩ = some (.int .i64 (dget l k).var) ∧ w.cell? ⟨b, o + k * 3 + 1, none⟩ = some (.int .i64 (dget l k).t.f) ∧ w.cell? ⟨b, o + k * 3 + 2, none⟩ = some (.slice (A k) (dget l k).t.args.length (C k)) ∧
      InT S w (dget l k).t (.agg #[.int .i64 (dget l k).t.f, .slice (A k) (dget l k).t.args.length (C k)]) ∧ I64 (dget l k).var := by
  rcases Nat.eq_zero_or_pos l.length with h0 | h0
  · exact ⟨0, 0, fun _ => none, fun _ => 0, fun k hk => by omega, fun k hk => by omega⟩
  · obtain ⟨b, o, _, ha, _⟩ := h 0 h0
    have key : ∀ k, k < l.length → ∃ p : Option Addr × Nat, w.cell? ⟨b, o + k * 3, none⟩ = some (.int .i64 (dget l k).var) ∧ w.cell? ⟨b, o + k * 3 + 1, none⟩ = some (.int .i64 (dget l k).t.f) ∧ w.cell? ⟨b, o + k * 3 + 2, none⟩ = some (.slice p.1 (dget l k).t.args.length p.2) ∧
      InT S w (dget l k).t (.agg #[.int .i64 (dget l k).t.f, .slice p.1 (dget l k).t.args.length p.2]) ∧ I64 (dget l k).var := by
      intro k hk
      obtain ⟨b', o', cs, ha', _, ⟨u, v, rfl, h1, h2⟩, h3⟩ := h k hk
      rw [ha] at ha'
      simp only [Option.some.injEq, Addr.mk.injEq, and_true] at ha'
      obtain ⟨rfl, rfl⟩ := ha'
      obtain ⟨_, p, c, e, _, _, _⟩ := h2.form
      simp only [Value.agg.injEq, Array.mk.injEq, List.cons.injEq, and_true] at e
      obtain ⟨rfl, rfl⟩ := e
      rw [dget_lt hk]
      have c0 := h3 0 (by decide)
      have c1 := h3 1 (by decide)
      have c2 := h3 2 (by decide)
      exact ⟨(p, c), c0, c1, c2, h2, h1⟩
    have : Inhabited (Option Addr × Nat) := ⟨(none, 0)⟩
    obtain ⟨F, hF⟩ := Go.Deep.choose_lt key
    exact ⟨b, o, fun k => (F k).1, fun k => (F k).2, fun _ _ => ha, hF⟩

/-- A pointer to a term. -/
def IsTp (w : World) (t : T) (v : Value) : Prop := ∃ (b o : Nat) (a : Option Addr) (c : Nat), v = .pointer (some ⟨b, o, none⟩) ∧ w.cell? ⟨b, o, none⟩ = some (.int .i64 t.f) ∧ w.cell? ⟨b, o + 1, none⟩ = some (.slice a t.args.length c) ∧ IsT w t (.agg #[.int .i64 t.f, .slice a t.args.length c])
theorem IsTp.below {w w' : World} {t : T} {v : Value} (hb : Below w.heap.size w w') (h : IsTp w t v) : IsTp w' t v := by
  obtain ⟨b, o, a, c, e, h1, h2, h3⟩ := h
  exact ⟨b, o, a, c, e, bkeeps hb _ _ h1, bkeeps hb _ _ h2, IsT.below hb h3⟩
/-- A pointer to a term, or none. -/
def IsTo (w : World) (t : Option T) (v : Value) : Prop := match t with | none => v = .pointer none | some t => IsTp w t v
theorem IsTo.below {w w' : World} {t : Option T} {v : Value} (hb : Below w.heap.size w w') (h : IsTo w t v) : IsTo w' t v := by
  cases t with
  | none => exact h
  | some t => exact IsTp.below hb h

def Bd.itself (b : Bd) : Bool := decide (b.t.f = -1 - b.var) && decide (b.t.args.length = 0)
def subOk : Int → List Bd → Bool
  | _, [] => true
  | last, b :: r => if b.var ≤ last ∨ b.itself = true then false else subOk b.var r
def subCheck (l : List Bd) : Int := if subOk (-1) l then 0 else 2
def subFind (l : List Bd) (v : Int) : Option T := (l.find? fun b => decide (b.var = v)).map (·.t)

end Go.Proofs.Ytcmfjnadjddboaa

/- Maps from integers: entries in the order in which they were laid, whatever the values are; ranges over them. -/
namespace Go.Proofs.Ytcmfjnadjddboaa
open Go.RowKit Go
set_option linter.unusedVariables false
set_option linter.unusedSimpArgs false

/-- The entries of a map are the list. -/
structure ImE (es : Array MapEntry) (clock : Nat) (l : List (Int × Value)) : Prop where
  kv : es.toList.map (fun e => (e.key, e.val)) = l.map (fun x => (Value.int .i64 x.1, x.2))
  nd : (es.toList.map (·.born)).Nodup
  lt : ∀ e ∈ es.toList, e.born < clock
/-- What lies in a block. -/
def ObjAt (w : World) (b : Nat) (o : Obj) : Prop := w.heap[b]? = some o
section
variable {w w' : World} {b g : Nat} {o : Obj}
theorem ObjAt.lt (h : ObjAt w b o) : b < w.heap.size := (Array.getElem?_eq_some_iff.1 h).1
theorem ObjAt.chg {S : Nat → Prop} (h : ObjAt w b o) (hc : Chg S w w') (hb : ¬ S b) : ObjAt w' b o := (hc.block b h.lt hb).trans h
theorem ObjAt.below (h : ObjAt w b o) (hb : Below w.heap.size w w') : ObjAt w' b o := (hb.block b h.lt).trans h
theorem ObjAt.upd (h : ObjAt w b o) (hu : Upd g w w') (hne : b ≠ g) : ObjAt w' b o := (hu.block b hne).trans h
theorem ObjAt.neBlk {t : TypeId} {cs : Array Value} {es : Array MapEntry} {clock : Nat} (h : ObjAt w b (.map es clock)) (hB : Blk w g t cs) : g ≠ b := by
  rintro rfl; unfold ObjAt at h; unfold Blk at hB; rw [h] at hB; cases hB
end
theorem ImE.nil : ImE #[] 0 [] := ⟨rfl, List.Pairwise.nil, fun e h => by simp at h⟩
theorem ImE.size {es : Array MapEntry} {clock : Nat} {l : List (Int × Value)} (h : ImE es clock l) : es.size = l.length := by
  have := congrArg List.length h.kv
  simpa using this
def imFind : List (Int × Value) → Int → Nat → Option (Nat × Value)
  | [], _, _ => none
  | x :: l, k, i => if k = x.1 then some (i, x.2) else imFind l k (i + 1)
def imLook (l : List (Int × Value)) (k : Int) : Option Value := (imFind l k 0).map (·.2)
def imDel (l : List (Int × Value)) (k : Int) : List (Int × Value) := match imFind l k 0 with | some (i, _) => l.eraseIdx i | none => l
theorem imFind_none : ∀ {l : List (Int × Value)} {k : Int} {i : Nat}, imFind l k i = none ↔ ∀ x ∈ l, x.1 ≠ k
  | [], k, i => by simp [imFind]
  | x :: l, k, i => by
    rw [imFind]
    split
    · rename_i h; subst h; simp
    · rename_i h; rw [imFind_none]; simp; exact fun _ e => h e.symm
theorem imFind_shift : ∀ (l : List (Int × Value)) (k : Int) (i : Nat), imFind l k (i + 1) = (imFind l k i).map (fun x => (x.1 + 1, x.2))
  | [], k, i => rfl
  | x :: l, k, i => by
    rw [imFind, imFind]
    split
    · rfl
    · exact imFind_shift l k (i + 1)
theorem imFind_at {k : Int} : ∀ {l : List (Int × Value)} {i j : Nat} {v : Value}, imFind l k i = some (j, v) → i ≤ j ∧ l[j - i]? = some (k, v)
  | [], i, j, v, h => by cases h
  | x :: l, i, j, v, h => by
    rw [imFind] at h
    split at h
    · rename_i hk
      obtain ⟨rfl, rfl⟩ : i = j ∧ x.2 = v := by simpa using h
      subst hk
      simp
    · obtain ⟨h1, h2⟩ := imFind_at h
      refine ⟨by omega, ?_⟩
      rw [show j - i = (j - (i + 1)) + 1 by omega]
      simpa using h2
theorem findNow_im {kd : IntKind} (k : Int) : ∀ (es : List MapEntry) (l : List (Int × Value)) (i : Nat), es.map (fun e => (e.key, e.val)) = l.map (fun x => (Value.int .i64 x.1, x.2)) → Instr.findNow (.int kd) (.int .i64 k) es i = some (imFind l k i)
  | [], [], _, _ => rfl
  | [], _ :: _, _, h => by cases h
  | _ :: _, [], _, h => by cases h
  | e :: es, x :: l, i, h => by
    simp only [List.map_cons, List.cons.injEq, Prod.mk.injEq] at h
    obtain ⟨⟨h1, h2⟩, h3⟩ := h
    rw [Instr.findNow, h1, imFind]
    by_cases hk : k = x.1
    · subst hk; simp [Instr.sameNow, h2]
    · have := findNow_im (kd := kd) k es l (i + 1) h3
      have hb : (k == x.1) = false := by simpa using hk
      simp [Instr.sameNow, hk, hb, this]
section
variable {P : Program} {w : World} {t k e : TypeId} {kd : IntKind} {r : Nat} {es : Array MapEntry} {clock : Nat} {l : List (Int × Value)}
theorem run_findKey_im (hk : P.underlying k = some (.int kd)) (h : ImE es clock l) (x : Int) : (Instr.findKey k (.int .i64 x) es.toList).run P w = .ok (imFind l x 0) w := by
  unfold Instr.findKey
  simp [run_underlying hk, findNow_im x es.toList l 0 h.kv]
theorem run_checkKey_im (hk : P.underlying k = some (.int kd)) (b : Bool) (x : Int) : (Instr.checkKey b 10000 k (.int .i64 x)).run P w = .ok () w := by
  rw [show (10000 : Nat) = 9999 + 1 from rfl]
  generalize (9999 : Nat) = n
  simp [Instr.checkKey, run_underlying hk, go_sem]
theorem run_getObj_im (h : ObjAt w r (.map es clock)) : (getObj r).run P w = .ok (.map es clock) w := by
  unfold ObjAt at h; simp [getObj, Sem.run, h]
theorem run_setObj_im (h : ObjAt w r (.map es clock)) (o : Obj) : (setObj r o).run P w = .ok () { w with heap := w.heap.setIfInBounds r o } := by
  unfold ObjAt at h; simp [setObj, Sem.run, h]
theorem upd_setObj (h : ObjAt w r (.map es clock)) (o : Obj) : Upd r w { w with heap := w.heap.setIfInBounds r o } ∧ ObjAt { w with heap := w.heap.setIfInBounds r o } r o :=
  ⟨⟨rfl, rfl, rfl, by simp, fun k hk => by simp [Ne.symm hk]⟩, by have := h.lt; simp [ObjAt, this]⟩
variable {a : Act} {K : Act → World → Prop} {Q : Exit → Act → World → Prop} {o : Oper}
theorem wp_look_im {x y : Operand} {z : Value} {n : Int} (ht : P.underlying t = some (.map k e)) (hk : P.underlying k = some (.int kd)) (hz : (zeroValue e).run P w = .ok z w) (hM : ObjAt w r (.map es clock)) (h : ImE es clock l)
    (ho : o.op = .lookup t x y false) (hx : a.eval x = .map (some r)) (hy : a.eval y = .int .i64 n) (hK : K (a.put o.dst ((imLook l n).getD z)) w) : o.wp P a w K Q := by
  unfold Oper.wp execOp
  simp only [ho, hx, hy, Instr.lookup, Sem.run_bind, Sem.run_pure, run_underlying ht, Result.andThen_ok, run_getObj_im hM, run_checkKey_im hk, run_findKey_im hk h]
  unfold imLook at hK
  cases hf : imFind l n 0 with
  | none => rw [hf] at hK; simp [hz]; exact hK
  | some p => rw [hf] at hK; simp; exact hK
theorem wp_lookok_im {x y : Operand} {z : Value} {n : Int} (ht : P.underlying t = some (.map k e)) (hk : P.underlying k = some (.int kd)) (hz : (zeroValue e).run P w = .ok z w) (hM : ObjAt w r (.map es clock)) (h : ImE es clock l)
    (ho : o.op = .lookup t x y true) (hx : a.eval x = .map (some r)) (hy : a.eval y = .int .i64 n) (hK : K (a.put o.dst (.tuple #[(imLook l n).getD z, .bool (imLook l n).isSome])) w) : o.wp P a w K Q := by
  unfold Oper.wp execOp
  simp only [ho, hx, hy, Instr.lookup, Sem.run_bind, Sem.run_pure, run_underlying ht, Result.andThen_ok, run_getObj_im hM, run_checkKey_im hk, run_findKey_im hk h]
  unfold imLook at hK
  cases hf : imFind l n 0 with
  | none => rw [hf] at hK; simp [hz]; exact hK
  | some p => rw [hf] at hK; simp; exact hK
theorem ImE.push (h : ImE es clock l) (n : Int) (v : Value) : ImE (es.push { key := .int .i64 n, val := v, born := clock }) (clock + 1) (l ++ [(n, v)]) := by
  refine ⟨?_, ?_, fun e he => ?_⟩
  · simp [h.kv]
  · rw [Array.toList_push, List.map_append, List.map_singleton, List.nodup_append]
    refine ⟨h.nd, by simp, fun a ha b hb => ?_⟩
    obtain ⟨e, he, rfl⟩ := List.mem_map.1 ha
    have := h.lt e he
    simp at hb; omega
  · rw [Array.toList_push, List.mem_append] at he
    rcases he with he | he
    · have := h.lt e he; omega
    · simp at he; subst he; simp
/-- A new key is laid. -/
theorem wp_put_im {x y z : Operand} {n : Int} {v : Value} (ht : P.underlying t = some (.map k e)) (hk : P.underlying k = some (.int kd)) (hM : ObjAt w r (.map es clock)) (h : ImE es clock l)
    (ho : o.op = .mapUpdate t x y z) (hx : a.eval x = .map (some r)) (hy : a.eval y = .int .i64 n) (hz : a.eval z = v) (hn : ∀ x ∈ l, x.1 ≠ n)
    (hK : ∀ w' es' clock', ObjAt w' r (.map es' clock') → ImE es' clock' (l ++ [(n, v)]) → Upd r w w' → K (a.put o.dst undef) w') : o.wp P a w K Q := by
  have := hK _ _ _ (upd_setObj hM _).2 (h.push n v) (upd_setObj hM _).1
  unfold Oper.wp execOp
  simp only [ho, hx, hy, hz, Instr.mapUpdate, Sem.run_bind, Sem.run_pure, run_underlying ht, Result.andThen_ok, run_getObj_im hM, run_checkKey_im hk, run_findKey_im hk h, imFind_none.2 hn, run_setObj_im hM]
  exact this
theorem map_eraseIdx' {α β : Type} (f : α → β) : ∀ (l : List α) (i : Nat), (l.eraseIdx i).map f = (l.map f).eraseIdx i
  | [], _ => rfl
  | _ :: _, 0 => rfl
  | x :: l, i + 1 => by rw [List.eraseIdx_cons_succ, List.map_cons, List.map_cons, List.eraseIdx_cons_succ, map_eraseIdx' f l i]
theorem ImE.erase (h : ImE es clock l) (i : Nat) : ImE (es.eraseIdxIfInBounds i) clock (l.eraseIdx i) := by
  have e1 : (es.eraseIdxIfInBounds i).toList = es.toList.eraseIdx i := by
    rw [Array.toList_eraseIdxIfInBounds]
  refine ⟨?_, ?_, fun e he => ?_⟩
  · rw [e1, map_eraseIdx', h.kv, map_eraseIdx']
  · rw [e1, map_eraseIdx']; exact h.nd.sublist (List.eraseIdx_sublist _ _)
  · rw [e1] at he; exact h.lt e ((List.eraseIdx_sublist _ _).subset he)
theorem wp_del_im {x y : Operand} {n : Int} (ht : P.underlying t = some (.map k e)) (hk : P.underlying k = some (.int kd)) (hM : ObjAt w r (.map es clock)) (h : ImE es clock l)
    (ho : o.op = .call { callee := .builtin .delete, args := #[x, y], argTypes := #[t, k] }) (hx : a.eval x = .map (some r)) (hy : a.eval y = .int .i64 n)
    (hK : ∀ w' es' clock', ObjAt w' r (.map es' clock') → ImE es' clock' (imDel l n) → Upd r w w' → K (a.put o.dst (.tuple #[])) w') : o.wp P a w K Q := by
  unfold imDel at hK
  have run : (Builtin.delete_ #[t, k] o.type #[.map (some r), .int .i64 n]).run P w = (match imFind l n 0 with | some (i, _) => .ok (.tuple #[]) { w with heap := w.heap.setIfInBounds r (.map (es.eraseIdxIfInBounds i) clock) } | none => .ok (.tuple #[]) { w with heap := w.heap.setIfInBounds r (.map es clock) }) := by
    unfold Builtin.delete_
    simp only [List.getElem?_toArray, List.getElem?_cons_zero, List.getElem?_cons_succ, Sem.run_bind, run_underlying ht, Result.andThen_ok, run_getObj_im hM, run_checkKey_im hk, run_findKey_im hk h]
    cases hf : imFind l n 0 with
    | none => simp [run_setObj_im hM]
    | some p => simp [run_setObj_im hM]
  unfold Oper.wp execOp
  simp only [ho, resolve, invoke, builtin, Sem.run_bind, Sem.run_pure, Result.andThen_ok, List.map_toArray, List.map_cons, List.map_nil, hx, hy]
  rw [run]
  cases hf : imFind l n 0 with
  | none => rw [hf] at hK; exact hK _ _ _ (upd_setObj hM _).2 h (upd_setObj hM _).1
  | some p => rw [hf] at hK; exact hK _ _ _ (upd_setObj hM _).2 (h.erase p.1) (upd_setObj hM _).1
/-- A new map. -/
def NewMap (w : World) (v : Value) (w' : World) : Prop := ∃ g, v = .map (some g) ∧ w.heap.size = g ∧ ObjAt w' g (.map #[] 0) ∧ Below w.heap.size w w' ∧ w'.heap.size = g + 1
theorem wp_makeMap_im (ho : o.op = .makeMap t none) (hK : ∀ v w', NewMap w v w' → K (a.put o.dst v) w') : o.wp P a w K Q := by
  have := hK (.map (some w.heap.size)) (w.alloc (.map #[] 0)) ⟨_, rfl, rfl, heap_alloc_new w _, balloc _ _, by simp⟩
  unfold Oper.wp execOp
  simp only [ho]
  go_simp
  exact this
theorem wp_lenMap_im {x : Operand} (ht : P.underlying t = some (.map k e)) (hM : ObjAt w r (.map es clock)) (h : ImE es clock l) (ho : o.op = .call { callee := .builtin .len, args := #[x], argTypes := #[t] }) (hx : a.eval x = .map (some r)) (hK : K (a.put o.dst (.int .i64 (l.length : Nat))) w) : o.wp P a w K Q := by
  rw [← h.size] at hK
  have run : (Builtin.len_ #[t] o.type #[.map (some r)]).run P w = .ok (.int .i64 (es.size : Nat)) w := by
    unfold Builtin.len_
    simp [run_underlying ht, run_getObj_im hM, goInt]
  unfold Oper.wp execOp
  simp only [ho, resolve, invoke, builtin, Sem.run_bind, Sem.run_pure, Result.andThen_ok, List.map_toArray, List.map_cons, List.map_nil, hx]
  rw [run]
  exact hK
end

end Go.Proofs.Ytcmfjnadjddboaa

/- Ranges over maps from integers: what is handed out, in whatever order. -/
namespace Go.Proofs.Ytcmfjnadjddboaa
open Go.RowKit Go
set_option linter.unusedVariables false
set_option linter.unusedSimpArgs false

/-- What a range has handed out, and what it has not. -/
structure ItE (es : Array MapEntry) (l : List (Int × Value)) (seen : Array Nat) (done rest : List (Int × Value)) : Prop where
  perm : (done ++ rest).Perm l
  left : (leftOf es seen).toList.map (fun e => (e.key, e.val)) = rest.map (fun x => (Value.int .i64 x.1, x.2))
/-- What was handed out last. -/
def CurE (es : Array MapEntry) (seen : Array Nat) (x : Int × Value) : Prop := ∃ e ∈ es.toList, ∃ s : Array Nat, seen = s.push e.born ∧ e.key = .int .i64 x.1 ∧ e.val = x.2
section
variable {P : Program} {w : World} {t k e : TypeId} {kd : IntKind} {r it : Nat} {es : Array MapEntry} {clock : Nat} {l done rest : List (Int × Value)} {seen : Array Nat}
theorem leftOf_nil : leftOf es #[] = es := by
  unfold leftOf
  rw [Array.filter_eq_self]
  intro e _; simp
theorem ItE.start (h : ImE es clock l) : ItE es l #[] [] l := ⟨List.Perm.refl _, by rw [leftOf_nil]; exact h.kv⟩
theorem run_next_im (ty : TypeId) (hM : ObjAt w r (.map es clock)) (hI : ObjAt w it (.mapIter (some r) clock seen clock)) (hE : ImE es clock l) :
    ((leftOf es seen).size = 0 ∧ (Instr.next (.pointer (some ⟨it, 0, none⟩)) false ty).run P w = .ok (.tuple #[.bool false]) w) ∨
    ∃ (j : Nat) (hj : j < (leftOf es seen).size) (w' : World), Upd it w w' ∧ ObjAt w' it (.mapIter (some r) clock (seen.push (leftOf es seen)[j].born) clock) ∧
      (Instr.next (.pointer (some ⟨it, 0, none⟩)) false ty).run P w = .ok (.tuple #[.bool true, (leftOf es seen)[j].key, (leftOf es seen)[j].val]) w' := by
  have hb : w.heap[r]? = some (.map es clock) := hM
  have hi : w.heap[it]? = some (.mapIter (some r) clock seen clock) := hI
  simp only [Instr.next, getObj, Sem.run_bind, Sem.run, hi, hb, Result.andThen, next_test_false seen es clock clock hE.lt (Nat.le_refl _), Bool.false_eq_true, if_false]
  have hmem : ∀ x ∈ (leftOf es seen).toList, x.born < clock := fun x hx => hE.lt x (mem_left hx).1
  have e0 : (Array.filter (fun e => !seen.contains e.born) es) = leftOf es seen := rfl
  rw [e0]
  generalize leftOf es seen = L at hmem ⊢
  have e1 : L.filter (fun x => decide (x.born < clock)) = L := Array.filter_eq_self.2 (fun x hx => by simpa using hmem x (by simpa using hx))
  have e2 : L.filter (fun x => decide (x.born ≥ clock)) = #[] := by
    rw [Array.filter_eq_empty_iff]
    intro x hx
    have := hmem x (by simpa using hx)
    simp; omega
  simp only [e1, e2, Array.append_empty]
  by_cases h0 : L.size = 0
  · left
    have : L = #[] := Array.eq_empty_of_size_eq_zero h0
    subst this
    refine ⟨rfl, ?_⟩
    simp [choose, Sem.run, Question.forced]
  · right
    have hne : L.isEmpty = false := by simp [Array.isEmpty, h0]
    simp only [hne, Bool.false_eq_true, if_false, Array.empty_append, Array.size_map]
    have hch : ∃ (j : Nat) (w1 : World), j < L.size ∧ w1.os = w.os ∧ w1.tape = w.tape ∧ w1.output = w.output ∧ w1.heap = w.heap ∧ (choose (Question.mapNext L.size)).run P w = .ok j w1 := by
      by_cases hf : L.size ≤ 1
      · exact ⟨0, w, by omega, rfl, rfl, rfl, rfl, by simp [choose, Sem.run, Question.forced, hf]⟩
      · exact ⟨_, w.drew, Nat.mod_lt _ (by omega), rfl, rfl, rfl, rfl, by
          simp only [choose, Sem.run, Question.forced, decide_eq_true_eq, hf, if_false, Question.cut]
          rfl⟩
    obtain ⟨j, w1, hj, h1, h2, h3, h4, hrun⟩ := hch
    have hi1 : w1.heap[it]? = some (.mapIter (some r) clock seen clock) := by rw [h4]; exact hi
    have hset : ∀ o' : Obj, (setObj it o').run P w1 = .ok () { w1 with heap := w1.heap.setIfInBounds it o' } := fun o' => by simp [setObj, Sem.run, hi1]
    have hlt : it < w1.heap.size := (Array.getElem?_eq_some_iff.1 hi1).1
    refine ⟨j, hj, { w1 with heap := w1.heap.setIfInBounds it (.mapIter (some r) clock (seen.push L[j].born) clock) }, ⟨h1, h2, h3, by simp [h4], fun k hk => by simp [Ne.symm hk, h4]⟩, by simp [ObjAt, hlt], ?_⟩
    simp only [hrun, Array.getElem?_map, Array.getElem?_eq_getElem hj, Option.map_some, Sem.run_bind, hset, Result.andThen]
    rfl
theorem filter_drop_one {α : Type} [DecidableEq Nat] (f : α → Nat) : ∀ (l : List α) (j : Nat) (hj : j < l.length), (l.map f).Nodup → l.filter (fun x => !(f x == f l[j])) = l.eraseIdx j
  | x :: l, 0, _, h => by
    rw [List.map_cons, List.nodup_cons] at h
    have : l.filter (fun y => !(f y == f x)) = l := by
      rw [List.filter_eq_self]
      intro y hy
      have : f y ≠ f x := fun e => h.1 (e ▸ List.mem_map_of_mem hy)
      simpa using this
    simp [this]
  | x :: l, j + 1, hj, h => by
    rw [List.map_cons, List.nodup_cons] at h
    have hj' : j < l.length := by simpa using hj
    have hx : f x ≠ f l[j] := fun e => h.1 (e ▸ List.mem_map_of_mem (List.getElem_mem hj'))
    have := filter_drop_one f l j hj' h.2
    simp [hx, this]
theorem leftOf_push (hE : ImE es clock l) (j : Nat) (hj : j < (leftOf es seen).size) : (leftOf es (seen.push (leftOf es seen)[j].born)).toList = (leftOf es seen).toList.eraseIdx j := by
  have hn : ((leftOf es seen).toList.map (·.born)).Nodup := by
    unfold leftOf
    rw [Array.toList_filter]
    exact (List.Sublist.map _ (List.filter_sublist)).nodup hE.nd
  rw [← filter_drop_one (·.born) (leftOf es seen).toList j (by simpa using hj) hn]
  have : leftOf es (seen.push (leftOf es seen)[j].born) = (leftOf es seen).filter (fun x => !(x.born == (leftOf es seen)[j].born)) := by
    generalize (leftOf es seen)[j].born = b
    unfold leftOf
    rw [Array.filter_filter]
    congr 1
    funext x
    rw [contains_push]
    cases seen.contains x.born <;> cases (x.born == b) <;> rfl
  rw [this, Array.toList_filter]
  simp
theorem perm_erase {α : Type} : ∀ (l : List α) (j : Nat) (hj : j < l.length), l.Perm (l[j] :: l.eraseIdx j)
  | x :: l, 0, _ => by simp
  | x :: l, j + 1, hj => by
    have := perm_erase l j (by simpa using hj)
    simp only [List.getElem_cons_succ, List.eraseIdx_cons_succ]
    exact (this.cons x).trans (List.Perm.swap _ _ _)
variable {a : Act} {K : Act → World → Prop} {Q : Exit → Act → World → Prop} {o : Oper}
theorem wp_next_im {x : Operand} (hM : ObjAt w r (.map es clock)) (hI : ObjAt w it (.mapIter (some r) clock seen clock)) (hE : ImE es clock l) (hR : ItE es l seen done rest)
    (ho : o.op = .next x false) (hx : a.eval x = .pointer (some ⟨it, 0, none⟩))
    (h0 : rest = [] → K (a.put o.dst (.tuple #[.bool false])) w)
    (h1 : ∀ y rest' seen' w', rest.Perm (y :: rest') → rest'.length < rest.length → ItE es l seen' (done ++ [y]) rest' → CurE es seen' y → ObjAt w' it (.mapIter (some r) clock seen' clock) → Upd it w w' → K (a.put o.dst (.tuple #[.bool true, .int .i64 y.1, y.2])) w') : o.wp P a w K Q := by
  have hlen : (leftOf es seen).size = rest.length := by
    have := congrArg List.length hR.left
    simpa using this
  unfold Oper.wp execOp
  simp only [ho, hx]
  rcases run_next_im (P := P) o.type hM hI hE with ⟨q0, q1⟩ | ⟨j, hj, w', q1, q2, q3⟩
  · simp only [Sem.run_bind, q1, Result.andThen_ok]
    exact h0 (List.length_eq_zero_iff.1 (by omega))
  · simp only [Sem.run_bind, q3, Result.andThen_ok]
    have hjr : j < rest.length := by omega
    have hel := congrArg (fun z => z[j]?) hR.left
    simp only [List.getElem?_map] at hel
    rw [List.getElem?_eq_getElem (by simpa using hj), List.getElem?_eq_getElem hjr] at hel
    simp only [Option.map_some, Option.some.injEq, Prod.mk.injEq, Array.getElem_toList] at hel
    rw [hel.1, hel.2]
    have hp := perm_erase rest j hjr
    refine h1 rest[j] (rest.eraseIdx j) _ w' hp (by rw [List.length_eraseIdx_of_lt hjr]; omega) ⟨?_, ?_⟩ ⟨(leftOf es seen)[j], (mem_left (seen := seen) (by simp)).1, seen, rfl, hel.1, hel.2⟩ q2 q1
    · rw [List.append_assoc]
      exact (List.Perm.append_left done hp.symm).trans hR.perm
    · rw [leftOf_push hE j hj, map_eraseIdx', hR.left, map_eraseIdx']
theorem wp_entry_im {x : Operand} {y : Int × Value} (hM : ObjAt w r (.map es clock)) (hI : ObjAt w it (.mapIter (some r) clock seen clock)) (hE : ImE es clock l) (hC : CurE es seen y)
    (ho : o.op = .entry x) (hx : a.eval x = .pointer (some ⟨it, 0, none⟩)) (hK : K (a.put o.dst (.tuple #[.int .i64 y.1, y.2])) w) : o.wp P a w K Q := by
  have hb : w.heap[r]? = some (.map es clock) := hM
  have hi : w.heap[it]? = some (.mapIter (some r) clock seen clock) := hI
  obtain ⟨e, he, s, rfl, h1, h2⟩ := hC
  have hf : es.find? (·.born == e.born) = some e := by rw [← Array.find?_toList]; exact find_born e es.toList hE.nd he
  have run : (Instr.entry (.pointer (some ⟨it, 0, none⟩))).run P w = .ok (.tuple #[e.key, e.val]) w := by
    simp only [Instr.entry, getObj, Sem.run_bind, Sem.run, hi, hb, Result.andThen, Array.back?_push, bne_self_eq_false, Bool.false_eq_true, if_false, hf]
    rfl
  unfold Oper.wp execOp
  simp only [ho, hx]
  simp only [Sem.run_bind, run, Result.andThen_ok, h1, h2]
  exact hK
/-- A new range. -/
def NewIt (w : World) (r clock : Nat) (v : Value) (w' : World) : Prop := ∃ g, v = .pointer (some ⟨g, 0, none⟩) ∧ w.heap.size = g ∧ ObjAt w' g (.mapIter (some r) clock #[] clock) ∧ Below w.heap.size w w' ∧ w'.heap.size = g + 1
theorem wp_range_im {x : Operand} (ht : P.underlying t = some (.map k e)) (hM : ObjAt w r (.map es clock)) (ho : o.op = .range t x) (hx : a.eval x = .map (some r)) (hK : ∀ v w', NewIt w r clock v w' → K (a.put o.dst v) w') : o.wp P a w K Q := by
  have := hK (.pointer (some ⟨w.heap.size, 0, none⟩)) (w.alloc (.mapIter (some r) clock #[] clock)) ⟨_, rfl, rfl, heap_alloc_new w _, balloc _ _, by simp⟩
  unfold Oper.wp execOp
  simp only [ho, hx]
  simp only [Sem.run_bind, run_range_map w t k e r es clock ht hM, Result.andThen_ok]
  exact this
end

end Go.Proofs.Ytcmfjnadjddboaa

/- Pointers to terms, in blocks that are told. -/
namespace Go.Proofs.Ytcmfjnadjddboaa
open Go.RowKit Go
set_option linter.unusedVariables false
set_option linter.unusedSimpArgs false

/-- A pointer to a term, all in blocks of 'S'. -/
def InTp (S : Nat → Prop) (w : World) (t : T) (v : Value) : Prop := ∃ (b o : Nat) (a : Option Addr) (c : Nat), v = .pointer (some ⟨b, o, none⟩) ∧ S b ∧ w.cell? ⟨b, o, none⟩ = some (.int .i64 t.f) ∧ w.cell? ⟨b, o + 1, none⟩ = some (.slice a t.args.length c) ∧ InT S w t (.agg #[.int .i64 t.f, .slice a t.args.length c])
section
variable {S S' : Nat → Prop} {w w' : World} {t : T} {v : Value}
theorem InTp.isTp (h : InTp S w t v) : IsTp w t v := by
  obtain ⟨b, o, a, c, e, _, h1, h2, h3⟩ := h
  exact ⟨b, o, a, c, e, h1, h2, h3.isT⟩
theorem InTp.keep (hb : ∀ (p : Addr) (x : Value), S p.block → w.cell? p = some x → w'.cell? p = some x) (h : InTp S w t v) : InTp S w' t v := by
  obtain ⟨b, o, a, c, e, hs, h1, h2, h3⟩ := h
  exact ⟨b, o, a, c, e, hs, hb ⟨b, o, none⟩ _ hs h1, hb ⟨b, o + 1, none⟩ _ hs h2, h3.keep hb⟩
theorem InTp.mono (hb : ∀ b, S b → b < w.heap.size → S' b) (h : InTp S w t v) : InTp S' w t v := by
  obtain ⟨b, o, a, c, e, hs, h1, h2, h3⟩ := h
  exact ⟨b, o, a, c, e, hb b hs (World.block_lt_of_cell? _ _ h1), h1, h2, h3.mono hb⟩
theorem InTp.below (h : InTp S w t v) (hb : Below w.heap.size w w') : InTp S w' t v := h.keep fun p x _ hx => bkeeps hb p x hx
theorem InTp.chg {S2 : Nat → Prop} (h : InTp S w t v) (hc : Chg S2 w w') (hS : ∀ b, S b → ¬ S2 b) : InTp S w' t v := h.keep fun p x hp hx => by
  have hb := World.block_lt_of_cell? _ _ hx
  unfold World.cell? at hx ⊢
  rw [hc.block p.block hb (hS _ hp)]; exact hx
/-- An argument of a term that is pointed at. -/
theorem InTp.arg {b o : Nat} {a : Option Addr} {c : Nat} (h : InT S w t (.agg #[.int .i64 t.f, .slice a t.args.length c])) (k : Nat) (hk : k < t.args.length) : ∃ b o, a = some ⟨b, o, none⟩ ∧ InTp S w (tget t.args k) (.pointer (some ⟨b, o + k * 2, none⟩)) := by
  obtain ⟨_, a', c', e, _, _, h3⟩ := h.form
  simp only [Value.agg.injEq, Array.mk.injEq, List.cons.injEq, and_true, Value.slice.injEq, true_and] at e
  obtain ⟨rfl, rfl⟩ := e
  obtain ⟨b, o, u, v, rfl, h4, h5, h6, h7⟩ := h3.at_ k hk
  obtain ⟨_, a2, c2, e2, _⟩ := h7.form
  simp only [Value.agg.injEq, Array.mk.injEq, List.cons.injEq, and_true] at e2
  obtain ⟨rfl, rfl⟩ := e2
  rw [tget_lt hk]
  exact ⟨b, o, rfl, b, _, a2, c2, rfl, h4, h5, h6, h7⟩
/-- A box in which a term lies. -/
theorem InTp.box {g ty : Nat} {a : Option Addr} {c : Nat} (hB : Blk w g ty #[.int .i64 t.f, .slice a t.args.length c]) (hg : S g) (h : InT S w t (.agg #[.int .i64 t.f, .slice a t.args.length c])) : InTp S w t (.pointer (some ⟨g, 0, none⟩)) :=
  ⟨g, 0, a, c, rfl, hg, by rw [hB.cell]; rfl, by rw [hB.cell]; rfl, h⟩
end

/-- Values as they are, two of them. -/
def eltV2 : Elt (Addr × Addr) where
  k := 2
  In := fun _ _ x cs => cs = [.pointer (some x.1), .pointer (some x.2)]
  keep := fun _ h => h
  mono := fun _ h => h
  len := fun h => by rw [h]; rfl
  one := fun h v hv => by rw [h] at hv; simp at hv; rcases hv with rfl | rfl <;> rfl

section
variable {α β : Type} {E : Elt α} {E2 : Elt β} {w w' : World} {B B2 e e2 c c2 n n2 : Nat} {a a2 : Option Addr} {l : List α} {l2 : List β}
/-- Rows of different types lie in different blocks. -/
theorem RowE.ne (h : RowE E w B e a c n l) (h2 : RowE E2 w B2 e2 a2 c2 n2 l2) (he : e ≠ e2) : ∀ b, (Value.slice a n c).ownBlock = some b → (Value.slice a2 n2 c2).ownBlock ≠ some b := by
  intro b hb hb2
  obtain ⟨⟨xs, h1, _⟩, _⟩ := h
  obtain ⟨⟨ys, h3, _⟩, _⟩ := h2
  rcases h1.2 with ⟨e1, _⟩ | ⟨g, cap, cur, e1, _, r1, _⟩
  · rw [e1] at hb; cases hb
  · rcases h3.2 with ⟨f1, _⟩ | ⟨g', cap', cur', f1, _, r2, _⟩
    · rw [f1] at hb2; cases hb2
    · rw [e1] at hb; rw [f1] at hb2
      obtain rfl : g = b := by simpa [Value.ownBlock] using hb
      obtain rfl : g' = g := by simpa [Value.ownBlock] using hb2
      have := r1.symm.trans r2
      simp at this
      exact he this.2
theorem RowE.neBlk {g ty : Nat} {cs : Array Value} (h : RowE E w B e a c n l) (hB : Blk w g ty cs) (he : e ≠ ty) : (Value.slice a n c).ownBlock ≠ some g := by
  intro hb
  obtain ⟨⟨xs, h1, _⟩, _⟩ := h
  rcases h1.2 with ⟨e1, _⟩ | ⟨g', cap, cur, e1, _, r1, _⟩
  · rw [e1] at hb; cases hb
  · rw [e1] at hb
    obtain rfl : g' = g := by simpa [Value.ownBlock] using hb
    unfold Blk at hB
    have := r1.symm.trans hB
    simp at this
    exact he this.2
theorem RowE.neMap {g : Nat} {es : Array MapEntry} {clock : Nat} (h : RowE E w B e a c n l) (hB : ObjAt w g (.map es clock)) : (Value.slice a n c).ownBlock ≠ some g := by
  intro hb
  obtain ⟨⟨xs, h1, _⟩, _⟩ := h
  rcases h1.2 with ⟨e1, _⟩ | ⟨g', cap, cur, e1, _, r1, _⟩
  · rw [e1] at hb; cases hb
  · rw [e1] at hb
    obtain rfl : g' = g := by simpa [Value.ownBlock] using hb
    unfold ObjAt at hB
    have := r1.symm.trans hB
    simp at this
/-- What does not touch the row's block keeps it, if its elements hang on nothing. -/
theorem RowE.chgOwn {S : Nat → Prop} (hE : ∀ (S : Nat → Prop) w w' x cs, E.In S w x cs → E.In S w' x cs) (h : RowE E w B e a c n l) (hc : Chg S w w') (hS : ∀ b, (Value.slice a n c).ownBlock = some b → ¬ S b) : RowE E w' B e a c n l := by
  obtain ⟨⟨xs, h1, h2⟩, h3⟩ := h
  refine ⟨⟨xs, ⟨h1.1, h1.2.imp id ?_⟩, ?_⟩, h3⟩
  · rintro ⟨g, cap, cur, e1, e2, e3, r⟩
    refine ⟨g, cap, cur, e1, e2, ?_, r⟩
    rw [hc.block g (Array.getElem?_eq_some_iff.1 e3).1 (hS g (by rw [e1]; rfl))]; exact e3
  · clear h1
    revert h2
    generalize (fun b => B ≤ b ∧ (Value.slice a n c).ownBlock ≠ some b) = Z
    clear h3
    induction l generalizing xs with
    | nil => intro h2; exact h2
    | cons x l ih =>
      rintro ⟨cs, r, e, h3, h4⟩
      exact ⟨cs, r, e, hE _ _ _ _ _ h3, ih r h4⟩
/-- The first of a row. -/
theorem RowE.take (h : RowE E w B e a c n l) (k : Nat) (hk : k ≤ n) (hE : ∀ (S : Nat → Prop) w x cs, E.In S w x cs → ∀ S', E.In S' w x cs) : RowE E w B e a c k (l.take k) := by
  obtain ⟨⟨xs, h1, h2⟩, rfl⟩ := h
  have hel : ∀ (l : List α) (xs : List Value) (k : Nat) (Z Z' : Nat → Prop), Elts E Z w l xs → Elts E Z' w (l.take k) (xs.take (k * E.k)) := by
    intro l
    induction l with
    | nil => intro xs k Z Z' h; have : xs = [] := h; subst this; simp; exact rfl
    | cons x l ih =>
      rintro xs k Z Z' ⟨cs, r, rfl, h3, h4⟩
      cases k with
      | zero => simp; exact rfl
      | succ k =>
        refine ⟨cs, r.take (k * E.k), ?_, hE _ _ _ _ h3 _, ih r k Z Z' h4⟩
        rw [List.take_append, E.len h3, Nat.add_mul, Nat.one_mul, Nat.add_sub_cancel, List.take_of_length_le (by rw [E.len h3]; omega)]
  refine ⟨⟨xs.take (k * E.k), ⟨by rw [List.length_take, h1.1]; exact Nat.min_eq_left (Nat.mul_le_mul_right _ hk), ?_⟩, hel _ _ _ _ _ h2⟩, by simp; omega⟩
  rcases h1.2 with ⟨e1, h0⟩ | ⟨g, cap, cur, e1, e2, e3, e4, e5, e6, e7⟩
  · simp only [Value.slice.injEq] at e1
    obtain ⟨rfl, e, rfl⟩ := e1
    left
    have : k = 0 := by omega
    subst this
    exact ⟨rfl, by simp⟩
  · right
    simp only [Value.slice.injEq, true_and] at e1
    obtain ⟨rfl, rfl⟩ := e1
    exact ⟨g, _, cur, rfl, e2, e3, by omega, e5, e6, by rw [← e7, List.take_take, Nat.min_eq_left (Nat.mul_le_mul_right _ hk)]⟩
end

section
variable {α : Type} {E : Elt α} {P : Program} {w : World} {a : Act} {K : Act → World → Prop} {Q : Exit → Act → World → Prop} {o : Oper}
/-- One element more, by append: where the row lies then. -/
theorem wp_appE2 {s x : Operand} {t e B : Nat} {z : Value} {size bytes n rc g1 : Nat} {ra : Option Addr} {l : List α} {y : α} {cs : List Value} (hk : E.k = size) (ht : P.underlying t = some (.slice e)) (hinfo : (P.info? e).map (fun i => (i.zero, i.size, i.bytes)) = some (some z, size, bytes)) (hzs : z.cells.size = size) (hsz : 0 < size)
    (ho : o.op = .call { callee := .builtin .append, args := #[s, x], argTypes := #[t, t] }) (hs : a.eval s = .slice ra n rc) (hx : a.eval x = .slice (some ⟨g1, 0, none⟩) 1 1) (hrow : RowE E w B e ra rc n l) (hB : Blk w g1 e cs.toArray) (hin : E.In (fun b => B ≤ b ∧ (Value.slice ra n rc).ownBlock ≠ some b) w y cs)
    (hb : (n + 1) * bytes ≤ 140737488355328) (hn : n + 1 ≤ 9223372036854775807) (hbase : B ≤ w.heap.size) (hK : ∀ ra' rc' w', RowE E w' B e ra' rc' (n + 1) (l ++ [y]) → Chg (fun b => (Value.slice ra n rc).ownBlock = some b) w w' → KeepsFrom 0 w w' → (∀ b, (Value.slice ra' (n + 1) rc').ownBlock = some b → (Value.slice ra n rc).ownBlock = some b ∨ b = w.heap.size) → K (a.put o.dst (.slice ra' (n + 1) rc')) w') : o.wp P a w K Q := by
  subst hk
  obtain ⟨⟨xs, h1, h2⟩, rfl⟩ := hrow
  refine wp_app (m := 1) (news := cs) ht hinfo hzs hsz ho hs hx h1 (SrcIs.ofBlk hB) (by rw [E.len hin]; omega) (E.one hin) hb hn hbase (fun ra' rc' w' h => hK _ _ _ ?_ ⟨h.grow.os, h.grow.tape, h.grow.output, h.grow.size, fun k hk hSk => h.grow.block k hk (fun e => hSk e.symm)⟩ ?_ ?_)
  · have key : ∀ (p : Addr) (v : Value), (Value.slice ra l.length rc).ownBlock ≠ some p.block → w.cell? p = some v → w'.cell? p = some v := fun p v hp hv => h.grow.cell hv (Ne.symm hp)
    refine ⟨⟨xs ++ cs, h.own, ?_⟩, by simp⟩
    have far : ∀ b, (B ≤ b ∧ (Value.slice ra l.length rc).ownBlock ≠ some b) ∧ b < w.heap.size → B ≤ b ∧ (Value.slice ra' (l.length + 1) rc').ownBlock ≠ some b := fun b hb => ⟨hb.1.1, fun e => by
      rcases h.at_ with e2 | e2
      · exact hb.1.2 (e2 ▸ e)
      · rw [e2] at e; have := Option.some.inj e; omega⟩
    refine Elts.mono (fun b hb _ => far b hb) (Elts.keep (w := w) (fun p v hp hv => key p v hp.1.2 hv) ?_)
    exact Elts.snoc (E.mono (fun b hb hlt => ⟨hb, hlt⟩) hin) (Elts.mono (fun b hb hlt => ⟨hb, hlt⟩) h2)
  · refine ⟨h.grow.size, fun k o _ hk ho => (h.grow.block k (Array.getElem?_eq_some_iff.1 hk).1 (fun e => ?_)).trans hk⟩
    rcases h1.2 with ⟨e1, _⟩ | ⟨g, cap, cur, e1, _, e3, _⟩
    · rw [e1] at e; cases e
    · rw [e1] at e
      have : k = g := by simpa [Value.ownBlock] using e
      subst this
      rw [show w.heap[k]? = _ from e3] at hk
      obtain rfl := Option.some.inj hk
      cases ho
  · intro b hb
    rcases h.at_ with e2 | e2
    · exact .inl (e2 ▸ hb)
    · rw [e2] at hb; exact .inr (Option.some.inj hb).symm
end

end Go.Proofs.Ytcmfjnadjddboaa

/- The matcher: how it lies in memory. -/
namespace Go.Proofs.Ytcmfjnadjddboaa
open Go.RowKit Go
set_option linter.unusedVariables false
set_option linter.unusedSimpArgs false

theorem eltI_any (S S' : Nat → Prop) (w w' : World) (x : Int) (cs : List Value) (h : eltI.In S w x cs) : eltI.In S' w' x cs := h
theorem InRow.openI {S : Nat → Prop} {w : World} {l : List Int} {a : Option Addr} (h : InRow eltI S w l a) : ∃ b o : Nat, (∀ k, k < l.length → a = some ⟨b, o, none⟩) ∧ ∀ k, k < l.length → w.cell? ⟨b, o + k, none⟩ = some (.int .i64 (l.getD k 0)) := by
  rcases Nat.eq_zero_or_pos l.length with h0 | h0
  · exact ⟨0, 0, fun k hk => by omega, fun k hk => by omega⟩
  · obtain ⟨b, o, _, ha, _⟩ := h 0 h0
    refine ⟨b, o, fun _ _ => ha, fun k hk => ?_⟩
    obtain ⟨b', o', cs, ha', _, h1, h2⟩ := h k hk
    rw [ha] at ha'
    simp only [Option.some.injEq, Addr.mk.injEq, and_true] at ha'
    obtain ⟨rfl, rfl⟩ := ha'
    have h1' : cs = [.int .i64 l[k]] := h1
    subst h1'
    have := h2 0 (by decide)
    simpa [eltI, hk] using this
theorem InRow.dropI {S : Nat → Prop} {w : World} {l : List Int} {a : Option Addr} {k c : Nat} (h : InRow eltI S w l a) (hk : k ≤ l.length) (hc : l.length ≤ c) : InRow eltI S w (l.drop k) (slA a k 1 c) := fun i hi => by
  rw [List.length_drop] at hi
  obtain ⟨b, o, cs, ha, hs, h1, h2⟩ := h (k + i) (by omega)
  subst ha
  refine ⟨b, o + k, cs, by rw [slA_some (by omega), Nat.mul_one], hs, by rw [List.getElem_drop]; exact h1, fun j hj => ?_⟩
  rw [← h2 j hj, Nat.add_mul]
  have e : eltI.k = 1 := rfl
  simp only [e, Nat.mul_one, Nat.add_assoc]

/-- The matcher at the block 'g': what is bound, in the order in which it was; 'C': the blocks of its own. -/
structure MatIn (w : World) (g : Nat) (st : List Bd) (C : Nat → Prop) (mb : Nat) (es : Array MapEntry) (cl : Nat) (a : Option Addr) (c : Nat) (ps : List Value) : Prop where
  blk : Blk w g 64 #[.map (some mb), .slice a st.length c]
  map : ObjAt w mb (.map es cl)
  ent : ImE es cl ((st.map (·.var)).zip ps)
  nd : (st.map (·.var)).Nodup
  row : RowE eltI w 0 3 a c st.length (st.map (·.var))
  len : ps.length = st.length
  ptr : ∀ i, i < st.length → InTp (fun b => C b ∧ b ≠ g ∧ b ≠ mb ∧ (Value.slice a st.length c).ownBlock ≠ some b) w (dget st i).t (ps.getD i undef)
  i64 : ∀ x ∈ st, I64 x.var
  sz : ∀ x ∈ st, x.t.size ≤ 4294967296
  cg : C g
  cmb : C mb
  crow : ∀ b, (Value.slice a st.length c).ownBlock = some b → C b
  clt : ∀ b, C b → b < w.heap.size
def MatAt (w : World) (g : Nat) (st : List Bd) (C : Nat → Prop) : Prop := ∃ mb es cl a c ps, MatIn w g st C mb es cl a c ps

section
variable {w w' : World} {g : Nat} {st : List Bd} {C S : Nat → Prop} {mb : Nat} {es : Array MapEntry} {cl : Nat} {a : Option Addr} {c : Nat} {ps : List Value}
theorem MatIn.gmb (h : MatIn w g st C mb es cl a c ps) : g ≠ mb := h.map.neBlk h.blk
theorem MatIn.rowg (h : MatIn w g st C mb es cl a c ps) : (Value.slice a st.length c).ownBlock ≠ some g := h.row.neBlk h.blk (by decide)
theorem MatIn.rowmb (h : MatIn w g st C mb es cl a c ps) : (Value.slice a st.length c).ownBlock ≠ some mb := h.row.neMap h.map
theorem MatIn.cap (h : MatIn w g st C mb es cl a c ps) : st.length ≤ c ∧ c ≤ maxLen := ⟨h.row.inRow.2.2.1, h.row.inRow.2.2.2⟩
theorem MatIn.chg (h : MatIn w g st C mb es cl a c ps) (hc : Chg S w w') (hS : ∀ b, C b → ¬ S b) : MatIn w' g st C mb es cl a c ps where
  blk := chg_blk h.blk hc (hS _ h.cg)
  map := h.map.chg hc (hS _ h.cmb)
  ent := h.ent
  nd := h.nd
  row := h.row.chgOwn (fun S w w' x cs q => eltI_any S S w w' x cs q) hc (fun b q => hS b (h.crow b q))
  len := h.len
  ptr := fun i hi => (h.ptr i hi).chg hc (fun b q => hS b q.1)
  i64 := h.i64
  sz := h.sz
  cg := h.cg
  cmb := h.cmb
  crow := h.crow
  clt := fun b q => Nat.lt_of_lt_of_le (h.clt b q) hc.size
theorem MatAt.chg (h : MatAt w g st C) (hc : Chg S w w') (hS : ∀ b, C b → ¬ S b) : MatAt w' g st C := by
  obtain ⟨mb, es, cl, a, c, ps, h⟩ := h
  exact ⟨mb, es, cl, a, c, ps, h.chg hc hS⟩
theorem MatAt.below (h : MatAt w g st C) (hb : Below w.heap.size w w') : MatAt w' g st C := h.chg (S := fun _ => False) (.ofBelow hb) (fun _ _ => id)
theorem MatAt.clt (h : MatAt w g st C) : ∀ b, C b → b < w.heap.size := by
  obtain ⟨mb, es, cl, a, c, ps, h⟩ := h
  exact h.clt
theorem MatAt.lt (h : MatAt w g st C) : g < w.heap.size := by
  obtain ⟨mb, es, cl, a, c, ps, h⟩ := h
  exact h.blk.lt
theorem MatAt.nd (h : MatAt w g st C) : (st.map (·.var)).Nodup := by
  obtain ⟨mb, es, cl, a, c, ps, h⟩ := h
  exact h.nd
end
theorem imDel_mid {Z : List (Int × Value)} {m k : Nat} {v : Int} (hn : (Z.map (·.1)).Nodup) (h : m + k < Z.length) (hv : v = Z[m + k].1) : imDel (Z.take m ++ Z.drop (m + k)) v = Z.take m ++ Z.drop (m + (k + 1)) := by
  have hd : Z.drop (m + k) = Z[m + k] :: Z.drop (m + k + 1) := List.drop_eq_getElem_cons h
  have hne : ∀ x ∈ Z.take m, x.1 ≠ v := by
    intro x hx e
    obtain ⟨i, hi, rfl⟩ := List.getElem_of_mem hx
    rw [List.length_take] at hi
    rw [List.getElem_take] at e
    have := List.pairwise_iff_getElem.1 hn i (m + k) (by simp; omega) (by simp; omega) (by omega)
    rw [List.getElem_map, List.getElem_map] at this
    exact this (e.trans hv)
  have hf : ∀ (l r : List (Int × Value)) (i : Nat), (∀ x ∈ l, x.1 ≠ v) → imFind (l ++ (v, Z[m + k].2) :: r) v i = some (i + l.length, Z[m + k].2) := by
    intro l r
    induction l with
    | nil => intro i _; simp [imFind]
    | cons x l ih =>
      intro i hx
      rw [List.cons_append, imFind, if_neg (fun e => hx x (by simp) e.symm), ih (i + 1) (fun y hy => hx y (by simp [hy]))]
      simp; omega
  have e : Z[m + k] = (v, Z[m + k].2) := by rw [hv]
  unfold imDel
  rw [hd, e, hf _ _ 0 hne]
  simp only [List.length_take, Nat.zero_add]
  rw [List.eraseIdx_append_of_length_le (by rw [List.length_take]; exact Nat.le_refl _)]
  rw [List.length_take, Nat.sub_self, List.eraseIdx_cons_zero, Nat.add_assoc]
theorem zip_take {α β : Type} : ∀ (l : List α) (r : List β) (k : Nat), (l.zip r).take k = (l.take k).zip (r.take k)
  | [], _, k => by simp
  | _ :: _, [], k => by simp
  | x :: l, y :: r, 0 => by simp
  | x :: l, y :: r, k + 1 => by simp [zip_take l r k]
theorem getD_take {ps : List Value} {m i : Nat} (h : i < m) : (ps.take m).getD i undef = ps.getD i undef := by
  simp [List.getD_eq_getElem?_getD, List.getElem?_take, h]
theorem dget_take {st : List Bd} {m i : Nat} (h : i < m) : dget (st.take m) i = dget st i := by
  unfold dget
  simp [List.getD_eq_getElem?_getD, List.getElem?_take, h]
/-- Back to the first 'm'. -/
theorem MatIn.back {w w' : World} {g : Nat} {st : List Bd} {C : Nat → Prop} {mb : Nat} {es es' : Array MapEntry} {cl cl' : Nat} {a : Option Addr} {c : Nat} {ps : List Value} {m : Nat} (h : MatIn w g st C mb es cl a c ps) (hm : m ≤ st.length)
    (hB : Blk w' g 64 #[.map (some mb), .slice a m c]) (hM : ObjAt w' mb (.map es' cl')) (hE : ImE es' cl' (((st.map (·.var)).zip ps).take m)) (hc : Chg (fun b => b = g ∨ b = mb) w w') : MatIn w' g (st.take m) C mb es' cl' a c (ps.take m) where
  blk := by rw [List.length_take, Nat.min_eq_left hm]; exact hB
  map := hM
  ent := by rw [List.map_take, ← zip_take]; exact hE
  nd := by rw [List.map_take]; exact (List.take_sublist _ _).nodup h.nd
  row := by
    have h1 := h.row.chgOwn (fun S w w' x cs q => eltI_any S S w w' x cs q) hc (fun b q => by
      rintro (rfl | rfl)
      · exact h.rowg q
      · exact h.rowmb q)
    have h2 := h1.take m hm (fun S w x cs q S' => q)
    rw [List.length_take, Nat.min_eq_left hm, List.map_take]; exact h2
  len := by rw [List.length_take, List.length_take, h.len]
  ptr := fun i hi => by
    rw [List.length_take] at hi
    rw [dget_take (by omega), getD_take (by omega)]
    refine ((h.ptr i (by omega)).chg hc (fun b q => ?_)).mono (fun b q _ => ⟨q.1, q.2.1, q.2.2.1, ?_⟩)
    · rintro (e | e)
      · exact q.2.1 e
      · exact q.2.2.1 e
    · intro e
      apply q.2.2.2
      cases a with
      | none => cases e
      | some p => exact e
  i64 := fun x hx => h.i64 x (List.mem_of_mem_take hx)
  sz := fun x hx => h.sz x (List.mem_of_mem_take hx)
  cg := h.cg
  cmb := h.cmb
  crow := fun b q => h.crow b (by cases a with
    | none => cases q
    | some p => exact q)
  clt := fun b q => Nat.lt_of_lt_of_le (h.clt b q) hc.size

end Go.Proofs.Ytcmfjnadjddboaa

/- What a matcher tells of what is bound: plain. -/
namespace Go.Proofs.Ytcmfjnadjddboaa
open Go.RowKit Go
set_option linter.unusedVariables false
set_option linter.unusedSimpArgs false

/-- What is told: in order, and what is itself is left out. -/
structure SubOf (st R : List Bd) : Prop where
  sorted : R.Pairwise fun x y => x.var < y.var
  mem : ∀ x, x ∈ R ↔ x ∈ st ∧ x.itself = false
theorem bds_ext : ∀ {l l' : List Bd}, l.Pairwise (fun x y => x.var < y.var) → l'.Pairwise (fun x y => x.var < y.var) → (∀ x, x ∈ l ↔ x ∈ l') → l = l'
  | [], [], _, _, _ => rfl
  | [], y :: r, _, _, h => absurd ((h y).2 (by simp)) (by simp)
  | x :: r, [], _, _, h => absurd ((h x).1 (by simp)) (by simp)
  | x :: r, y :: q, h1, h2, h => by
    obtain ⟨h3, h4⟩ := List.pairwise_cons.1 h1
    obtain ⟨h5, h6⟩ := List.pairwise_cons.1 h2
    have e : x = y := by
      rcases List.mem_cons.1 ((h x).1 (by simp)) with e | hx
      · exact e
      · rcases List.mem_cons.1 ((h y).2 (by simp)) with e | hy
        · exact e.symm
        · have := h5 x hx; have := h3 y hy; omega
    subst e
    congr 1
    refine bds_ext h4 h6 fun z => ?_
    constructor
    · intro hz
      rcases List.mem_cons.1 ((h z).1 (by simp [hz])) with e | hz'
      · subst e; have := h3 z hz; omega
      · exact hz'
    · intro hz
      rcases List.mem_cons.1 ((h z).2 (by simp [hz])) with e | hz'
      · subst e; have := h5 z hz; omega
      · exact hz'
theorem SubOf.unique {st R R' : List Bd} (h : SubOf st R) (h' : SubOf st R') : R = R' := bds_ext h.sorted h'.sorted fun x => (h.mem x).trans (h'.mem x).symm
theorem subOf_sorted {st L : List Bd} (hn : (st.map (·.var)).Nodup) (hp : L.Perm (st.filter fun x => !x.itself)) (hs : L.Pairwise fun x y => x.var ≤ y.var) : SubOf st L := by
  have hd : (st.filter fun x => !x.itself).Pairwise fun x y => x.var ≠ y.var := by
    unfold List.Nodup at hn
    rw [List.pairwise_map] at hn
    exact hn.filter _
  have hd' : L.Pairwise fun x y => x.var ≠ y.var := (hp.pairwise_iff fun h e => h e.symm).2 hd
  refine ⟨(hs.and hd').imp fun ⟨h1, h2⟩ => by omega, fun x => ?_⟩
  rw [hp.mem_iff, List.mem_filter]; simp
theorem nodup_len : ∀ {R st : List Bd}, R.Nodup → (∀ x ∈ R, x ∈ st) → R.length ≤ st.length
  | [], _, _, _ => Nat.zero_le _
  | x :: R, st, hn, h => by
    obtain ⟨h1, h2⟩ := List.nodup_cons.1 hn
    obtain ⟨s, t, rfl⟩ := List.append_of_mem (h x (by simp))
    have := nodup_len (R := R) (st := s ++ t) h2 fun y hy => by
      have hy2 := h y (by simp [hy])
      simp only [List.mem_append, List.mem_cons] at hy2 ⊢
      rcases hy2 with q | rfl | q
      · exact .inl q
      · exact absurd hy h1
      · exact .inr q
    simp only [List.length_append, List.length_cons] at this ⊢
    omega
theorem SubOf.length_le {st R : List Bd} (h : SubOf st R) : R.length ≤ st.length := by
  have hn : R.Nodup := h.sorted.imp fun h e => by rw [e] at h; omega
  exact nodup_len hn fun x hx => ((h.mem x).1 hx).1

/-- An entry of the map, as a binding. -/
def bdOf (st : List Bd) (y : Int × Value) : Bd := ⟨y.1, (subFind st y.1).getD (.mk 0 [])⟩
theorem subFind_dget : ∀ {st : List Bd} {i : Nat}, (st.map (·.var)).Nodup → i < st.length → subFind st (dget st i).var = some (dget st i).t
  | b :: st, 0, _, _ => by simp [subFind, dget]
  | b :: st, i + 1, hn, hi => by
    rw [List.map_cons, List.nodup_cons] at hn
    have hi' : i < st.length := by simpa using hi
    have e : dget (b :: st) (i + 1) = dget st i := by simp [dget]
    have hne : ¬ b.var = (dget st i).var := fun q => hn.1 (q ▸ List.mem_map_of_mem (dget_mem hi'))
    have := subFind_dget (st := st) hn.2 hi'
    rw [e]
    simpa [subFind, hne] using this
theorem bdOf_at {st : List Bd} {y : Int × Value} {i : Nat} (hn : (st.map (·.var)).Nodup) (hi : i < st.length) (hy : y.1 = (dget st i).var) : bdOf st y = dget st i := by
  unfold bdOf; rw [hy, subFind_dget hn hi]; rfl
theorem zip_at {st : List Bd} {ps : List Value} {y : Int × Value} (hl : ps.length = st.length) (hy : y ∈ (st.map (·.var)).zip ps) : ∃ i, i < st.length ∧ y.1 = (dget st i).var ∧ y.2 = ps.getD i undef := by
  obtain ⟨i, hi, rfl⟩ := List.getElem_of_mem hy
  have h1 : i < st.length := by simp at hi; omega
  refine ⟨i, h1, ?_, ?_⟩
  · rw [List.getElem_zip, dget_lt h1]; simp
  · rw [List.getElem_zip, List.getD_eq_getElem?_getD, List.getElem?_eq_getElem (by omega)]; rfl
theorem map_bdOf {st : List Bd} {ps : List Value} (hn : (st.map (·.var)).Nodup) (hl : ps.length = st.length) : ((st.map (·.var)).zip ps).map (bdOf st) = st := by
  apply List.ext_getElem (by simp [hl])
  intro i h1 h2
  rw [List.getElem_map, bdOf_at hn h2 (by rw [List.getElem_zip, dget_lt h2]; simp), dget_lt h2]
/-- The bindings of the entries that were handed out. -/
def told (st : List Bd) (done : List (Int × Value)) : List Bd := (done.map (bdOf st)).filter fun x => !x.itself
structure SX where
  done : List (Int × Value)
  rest : List (Int × Value)
  seen : Array Nat
  a : Option Addr
  c : Nat
  n : Nat
section
variable {st : List Bd} {ps : List Value} {es : Array MapEntry} {seen : Array Nat} {done rest : List (Int × Value)}
theorem told_new {y : Int × Value} {b : Bd} (h : bdOf st y = b) (hi : ¬ b.itself = true) : told st (done ++ [y]) = told st done ++ [b] := by
  unfold told; rw [List.map_append, List.filter_append]; simp [h, hi]
theorem told_self {y : Int × Value} {b : Bd} (h : bdOf st y = b) (hi : b.itself = true) : told st (done ++ [y]) = told st done := by
  unfold told; rw [List.map_append, List.filter_append]; simp [h, hi]
theorem told_le (hl : ps.length = st.length) (h : ItE es ((st.map (·.var)).zip ps) seen done rest) : (told st done).length ≤ st.length := by
  have h1 := h.perm.length_eq
  have h2 : (told st done).length ≤ (done.map (bdOf st)).length := List.length_filter_le _ _
  simp at h1 h2; omega
theorem told_lt (hl : ps.length = st.length) (h : ItE es ((st.map (·.var)).zip ps) seen done rest) (hr : 0 < rest.length) : (told st done).length < st.length := by
  have h1 := h.perm.length_eq
  have h2 : (told st done).length ≤ (done.map (bdOf st)).length := List.length_filter_le _ _
  simp at h1 h2; omega
theorem told_all (hn : (st.map (·.var)).Nodup) (hl : ps.length = st.length) (h : ItE es ((st.map (·.var)).zip ps) seen done []) : (told st done).Perm (st.filter fun x => !x.itself) := by
  have h1 := h.perm
  rw [List.append_nil] at h1
  have h2 := (h1.map (bdOf st)).filter (fun x => !x.itself)
  rwa [map_bdOf hn hl] at h2
theorem it_mem {y : Int × Value} {rest' : List (Int × Value)} (h : ItE es ((st.map (·.var)).zip ps) seen done rest) (hp : rest.Perm (y :: rest')) : y ∈ (st.map (·.var)).zip ps := by
  rw [← h.perm.mem_iff, List.mem_append]
  exact .inr (hp.mem_iff.2 (by simp))
end
theorem itself_iff {b : Bd} : b.itself = true ↔ b.t.f = -1 - b.var ∧ b.t.args.length = 0 := by unfold Bd.itself; simp
theorem ext1_0 {P : Program} {w : World} {a : Act} {K : Act → World → Prop} {Q : Exit → Act → World → Prop} {o : Oper} {x : Operand} {v0 : Value} (ho : o.op = .extract x 0) (hx : a.eval x = .tuple #[v0]) (hK : K (a.put o.dst (v0)) w) : o.wp P a w K Q := by
  unfold Oper.wp execOp
  simp only [ho, hx]
  go_simp
  exact hK
def BdNew (w0 w : World) (x : Bd) (v : Value) : Prop := ∃ u v', v = .agg #[.int .i64 x.var, u, v'] ∧ I64 x.var ∧ NewT w0 w x.t (.agg #[u, v'])
theorem BdNew.chg {w0 w w' : World} {x : Bd} {v : Value} {S : Nat → Prop} (h : BdNew w0 w x v) (hc : Chg S w w') (hS : ∀ b, S b → b < w0.heap.size) : BdNew w0 w' x v := by
  obtain ⟨u, v', e, h0, h1⟩ := h
  exact ⟨u, v', e, h0, InT.chg h1 hc (fun b hb hs => by have := hS b hs; omega)⟩
/-- A row of bindings that was made since. -/
def NewBs (w0 w : World) (R : List Bd) (a : Option Addr) (c : Nat) : Prop := InRow eltB (fun b => w0.heap.size ≤ b) w R a ∧ R.length ≤ c ∧ c ≤ maxLen
theorem NewBs.below {w0 w w' : World} {R : List Bd} {a : Option Addr} {c : Nat} (h : NewBs w0 w R a c) (hb : Below w.heap.size w w') : NewBs w0 w' R a c := ⟨h.1.below hb, h.2⟩

end Go.Proofs.Ytcmfjnadjddboaa

/- Terms whose variables have no arguments. -/
namespace Go.Proofs.Ytcmfjnadjddboaa
open Go.RowKit Go
set_option linter.unusedVariables false
set_option linter.unusedSimpArgs false

mutual
def T.plain : T → Bool
  | .mk f l => T.plainL l && (decide (0 ≤ f) || l.isEmpty)
def T.plainL : List T → Bool
  | [] => true
  | t :: r => t.plain && T.plainL r
end
theorem plainL_mem : ∀ {l : List T}, T.plainL l = true ↔ ∀ t ∈ l, t.plain = true
  | [] => by simp [T.plainL]
  | t :: r => by rw [T.plainL, Bool.and_eq_true, plainL_mem (l := r)]; simp
theorem plain_all {f : Int} {l : List T} (h : ∀ i, i < l.length → (tget l i).plain = true) : (T.mk f l).plain = (decide (0 ≤ f) || l.isEmpty) := by
  rw [T.plain, plainL_mem.2 (fun t ht => ?_), Bool.true_and]
  obtain ⟨i, hi, rfl⟩ := List.getElem_of_mem ht
  have := h i hi
  rwa [tget_lt hi] at this
theorem plain_no {f : Int} {l : List T} {k : Nat} (hk : k < l.length) (h : (tget l k).plain = false) : (T.mk f l).plain = false := by
  rw [T.plain]
  have : T.plainL l = false := by
    rw [Bool.eq_false_iff]; intro hp
    rw [plainL_mem.1 hp _ (tget_mem hk)] at h; cases h
  rw [this]; rfl
theorem plain_var {f : Int} {l : List T} (h1 : f < 0) (h2 : 0 < l.length) : (T.mk f l).plain = false := by
  rw [T.plain, decide_eq_false (by omega), Bool.false_or]
  have : l.isEmpty = false := by cases l with | nil => simp at h2 | cons _ _ => rfl
  rw [this, Bool.and_false]
theorem plain_yes {f : Int} {l : List T} (h0 : ¬ (f < 0 ∧ 0 < l.length)) (h : ∀ i, i < l.length → (tget l i).plain = true) : (T.mk f l).plain = true := by
  rw [plain_all h, Bool.or_eq_true, decide_eq_true_eq]
  rcases Int.lt_or_le f 0 with q | q
  · right
    have : l.length = 0 := by omega
    rw [List.length_eq_zero_iff.1 this]; rfl
  · exact .inl q
end Go.Proofs.Ytcmfjnadjddboaa

namespace Go.Proofs.Ytcmfjnadjddboaa
open Go.RowKit Go
set_option linter.unusedVariables false
set_option linter.unusedSimpArgs false
set_option maxRecDepth 100000

theorem box_24 {w : World} {a : Act} {K : Act → World → Prop} {Q : Exit → Act → World → Prop} {o : Oper} {x : Operand} {c0 c1 : Value} (ho : o.op = .box 24 x) (hx : a.eval x = .agg #[c0, c1]) (hK : K (a.put o.dst (.pointer (some ⟨w.heap.size, 0, none⟩))) (w.alloc (.cells #[c0, c1] 24))) : o.wp Try.prog a w K Q := by
  unfold Oper.wp execOp
  simp only [ho, hx]
  go_simp
  exact hK
theorem eqlp_33 {w : World} {a : Act} {K : Act → World → Prop} {Q : Exit → Act → World → Prop} {o : Oper} {x y : Operand} {p : Addr} (ho : o.op = .binOp .eql 33 x y 33) (hx : a.eval x = .pointer (some p)) (hy : a.eval y = .pointer none) (hK : K (a.put o.dst (.bool false)) w) : o.wp Try.prog a w K Q := by
  unfold Oper.wp execOp
  simp only [ho, hx, hy]
  go_simp
  exact hK
theorem eqln_33 {w : World} {a : Act} {K : Act → World → Prop} {Q : Exit → Act → World → Prop} {o : Oper} {x y : Operand} (ho : o.op = .binOp .eql 33 x y 33) (hx : a.eval x = .pointer none) (hy : a.eval y = .pointer none) (hK : K (a.put o.dst (.bool true)) w) : o.wp Try.prog a w K Q := by
  unfold Oper.wp execOp
  simp only [ho, hx, hy]
  go_simp
  exact hK
theorem ld_24 {w : World} {a : Act} {K : Act → World → Prop} {Q : Exit → Act → World → Prop} {o : Oper} {x : Operand} {b p : Nat} {c0 c1 : Value} (ho : o.op = .load 24 x) (hx : a.eval x = .pointer (some ⟨b, p, none⟩)) (h0 : w.cell? ⟨b, p, none⟩ = some c0) (h1 : w.cell? ⟨b, p + 1, none⟩ = some c1) (hK : K (a.put o.dst (.agg #[c0, c1])) w) : o.wp Try.prog a w K Q := by
  unfold Oper.wp execOp
  simp only [ho, hx]
  go_simp
  exact hK
theorem alloc_24 {w : World} {a : Act} {K : Act → World → Prop} {Q : Exit → Act → World → Prop} {o : Oper} (ho : o.op = .alloc 24) (hK : K (a.put o.dst (.pointer (some ⟨w.heap.size, 0, none⟩))) (w.alloc (.cells #[.int .i64 0, .slice none 0 0] 24))) : o.wp Try.prog a w K Q := by
  unfold Oper.wp execOp
  simp only [ho]
  go_simp
  exact hK
theorem st_24 {w : World} {a : Act} {K : Act → World → Prop} {Q : Exit → Act → World → Prop} {o : Oper} {x y : Operand} {g p : Nat} {ty : TypeId} {cs : Array Value} {c0 c1 : Value} (ho : o.op = .store 24 x y) (hx : a.eval x = .pointer (some ⟨g, p, none⟩)) (hy : a.eval y = .agg #[c0, c1]) (k0 : c0.oneCell' = true) (k1 : c1.oneCell' = true) (hB : Blk w g ty cs) (hp : p + 1 < cs.size) (hK : ∀ v, K (a.put o.dst v) ((w.setCell ⟨g, p, none⟩ c0).setCell ⟨g, p + 1, none⟩ c1)) : o.wp Try.prog a w K Q := by
  have h0 := (hB.cell (p)).trans (Array.getElem?_eq_getElem (by first | omega | (simp; omega)))
  have f0 := hB.frozen (p)
  have hB := hB.set_ (p) c0
  have h1 := (hB.cell (p + 1)).trans (Array.getElem?_eq_getElem (by first | omega | (simp; omega)))
  have f1 := hB.frozen (p + 1)
  have s0 := fun w a m => run_store Try.prog w a c0 m k0
  have s1 := fun w a m => run_store Try.prog w a c1 m k1
  clear hB
  unfold Oper.wp execOp
  simp only [ho, hx, hy]
  go_simp
  exact hK _
theorem build_69_0_1 {w : World} {a : Act} {K : Act → World → Prop} {Q : Exit → Act → World → Prop} {o : Oper} {x0 x1 : Operand} {c0 : Option Addr} {c1 : Option Addr} (ho : o.op = .build 69 #[(0, x0), (1, x1)]) (h0 : a.eval x0 = .pointer c0) (h1 : a.eval x1 = .pointer c1) (hK : K (a.put o.dst (.agg #[.pointer c0, .pointer c1])) w) : o.wp Try.prog a w K Q := by
  unfold Oper.wp execOp
  simp only [ho, List.map_toArray, List.map_cons, List.map_nil, h0, h1]
  go_simp
  exact hK
theorem row_70_1 {w : World} {a : Act} {K : Act → World → Prop} {Q : Exit → Act → World → Prop} {o : Oper} {x0 : Operand} {c0 c1 : Value} (ho : o.op = .buildSlice 70 1 #[(0, x0)]) (h0 : a.eval x0 = .agg #[c0, c1]) (hK : K (a.put o.dst (.slice (some ⟨w.heap.size, 0, none⟩) 1 1)) (w.alloc (.cells #[c0, c1] 69))) : o.wp Try.prog a w K Q := by
  unfold Oper.wp execOp
  simp only [ho, List.map_toArray, List.map_cons, List.map_nil, h0]
  go_simp
  exact hK
theorem len_70 {w : World} {a : Act} {K : Act → World → Prop} {Q : Exit → Act → World → Prop} {o : Oper} {x : Operand} {r : Option Addr} {n c : Nat} (ho : o.op = .call { callee := .builtin .len, args := #[x], argTypes := #[70] }) (hx : a.eval x = .slice r n c) (hK : K (a.put o.dst (.int .i64 n)) w) : o.wp Try.prog a w K Q := by
  unfold Oper.wp execOp
  simp only [ho, resolve, List.map_toArray, List.map_cons, List.map_nil, hx]
  go_simp
  exact hK
theorem gtr_3 {w : World} {a : Act} {K : Act → World → Prop} {Q : Exit → Act → World → Prop} {o : Oper} {x y : Operand} {m n : Int} (ho : o.op = .binOp .gtr 3 x y 3) (hx : a.eval x = .int .i64 m) (hy : a.eval y = .int .i64 n) (hK : K (a.put o.dst (.bool (decide (n < m)))) w) : o.wp Try.prog a w K Q := by
  unfold Oper.wp execOp
  simp only [ho, hx, hy]
  go_simp
  exact hK
theorem sub_3 {w : World} {a : Act} {K : Act → World → Prop} {Q : Exit → Act → World → Prop} {o : Oper} {x y : Operand} {m n : Int} (ho : o.op = .binOp .sub 3 x y 3) (hx : a.eval x = .int .i64 m) (hy : a.eval y = .int .i64 n) (hK : K (a.put o.dst (.int .i64 (IntKind.i64.wrap (m - n)))) w) : o.wp Try.prog a w K Q := by
  unfold Oper.wp execOp
  simp only [ho, hx, hy]
  go_simp
  exact hK
theorem subb_3 {w : World} {a : Act} {K : Act → World → Prop} {Q : Exit → Act → World → Prop} {o : Oper} {x y : Operand} {m n r : Int} (ho : o.op = .binOp .sub 3 x y 3) (hx : a.eval x = .int .i64 m) (hy : a.eval y = .int .i64 n) (hr : IntKind.i64.wrap (m - n) = r) (hK : K (a.put o.dst (.int .i64 r)) w) : o.wp Try.prog a w K Q := by
  subst hr
  unfold Oper.wp execOp
  simp only [ho, hx, hy]
  go_simp
  exact hK
theorem ix_70 {w : World} {a : Act} {K : Act → World → Prop} {Q : Exit → Act → World → Prop} {o : Oper} {x y : Operand} {r : Option Addr} {b p n c k : Nat} (ho : o.op = .indexAddr 70 x y) (hx : a.eval x = .slice r n c) (hr : r = some ⟨b, p, none⟩) (hy : a.eval y = .int .i64 (k : Int)) (hk : k < n) (hK : K (a.put o.dst (.pointer (some ⟨b, p + k * 2, none⟩))) w) : o.wp Try.prog a w K Q := by
  subst hr
  have h0 : (0 : Int) ≤ (k : Int) := by omega
  have h1 : (k : Int) < (n : Int) := by omega
  unfold Oper.wp execOp
  simp only [ho, hx, hy]
  go_simp
  exact hK
theorem ld_69 {w : World} {a : Act} {K : Act → World → Prop} {Q : Exit → Act → World → Prop} {o : Oper} {x : Operand} {b p : Nat} {c0 c1 : Value} (ho : o.op = .load 69 x) (hx : a.eval x = .pointer (some ⟨b, p, none⟩)) (h0 : w.cell? ⟨b, p, none⟩ = some c0) (h1 : w.cell? ⟨b, p + 1, none⟩ = some c1) (hK : K (a.put o.dst (.agg #[c0, c1])) w) : o.wp Try.prog a w K Q := by
  unfold Oper.wp execOp
  simp only [ho, hx]
  go_simp
  exact hK
theorem alloc_69 {w : World} {a : Act} {K : Act → World → Prop} {Q : Exit → Act → World → Prop} {o : Oper} (ho : o.op = .alloc 69) (hK : K (a.put o.dst (.pointer (some ⟨w.heap.size, 0, none⟩))) (w.alloc (.cells #[.pointer none, .pointer none] 69))) : o.wp Try.prog a w K Q := by
  unfold Oper.wp execOp
  simp only [ho]
  go_simp
  exact hK
theorem st_69 {w : World} {a : Act} {K : Act → World → Prop} {Q : Exit → Act → World → Prop} {o : Oper} {x y : Operand} {g p : Nat} {ty : TypeId} {cs : Array Value} {c0 c1 : Value} (ho : o.op = .store 69 x y) (hx : a.eval x = .pointer (some ⟨g, p, none⟩)) (hy : a.eval y = .agg #[c0, c1]) (k0 : c0.oneCell' = true) (k1 : c1.oneCell' = true) (hB : Blk w g ty cs) (hp : p + 1 < cs.size) (hK : ∀ v, K (a.put o.dst v) ((w.setCell ⟨g, p, none⟩ c0).setCell ⟨g, p + 1, none⟩ c1)) : o.wp Try.prog a w K Q := by
  have h0 := (hB.cell (p)).trans (Array.getElem?_eq_getElem (by first | omega | (simp; omega)))
  have f0 := hB.frozen (p)
  have hB := hB.set_ (p) c0
  have h1 := (hB.cell (p + 1)).trans (Array.getElem?_eq_getElem (by first | omega | (simp; omega)))
  have f1 := hB.frozen (p + 1)
  have s0 := fun w a m => run_store Try.prog w a c0 m k0
  have s1 := fun w a m => run_store Try.prog w a c1 m k1
  clear hB
  unfold Oper.wp execOp
  simp only [ho, hx, hy]
  go_simp
  exact hK _
theorem shi_70 {w : World} {a : Act} {K : Act → World → Prop} {Q : Exit → Act → World → Prop} {o : Oper} {x hi : Operand} {r : Option Addr} {n c k : Nat} (ho : o.op = .slice 70 x none (some hi) none) (hx : a.eval x = .slice r n c) (hl : a.eval hi = .int .i64 (k : Int)) (hk : k ≤ c) (hK : K (a.put o.dst (.slice r k c)) w) : o.wp Try.prog a w K Q := by
  have h0 : (0 : Int) ≤ (k : Int) := by omega
  have h1 : (k : Int) ≤ (c : Int) := by omega
  unfold Oper.wp execOp
  simp only [ho, hx, hl, Option.map_some, Option.map_none]
  go_simp
  exact hK
theorem fld_69_0 {w : World} {a : Act} {K : Act → World → Prop} {Q : Exit → Act → World → Prop} {o : Oper} {x : Operand} {b p : Nat} (ho : o.op = .fieldAddr 69 x 0) (hx : a.eval x = .pointer (some ⟨b, p, none⟩)) (hK : K (a.put o.dst (.pointer (some ⟨b, p, none⟩))) w) : o.wp Try.prog a w K Q := by
  unfold Oper.wp execOp
  simp only [ho, hx]
  go_simp
  exact hK
theorem ld_66 {w : World} {a : Act} {K : Act → World → Prop} {Q : Exit → Act → World → Prop} {o : Oper} {x : Operand} {p : Addr} {v : Value} (ho : o.op = .load 66 x) (hx : a.eval x = .pointer (some p)) (hc : w.cell? p = some v) (hK : K (a.put o.dst (v)) w) : o.wp Try.prog a w K Q := by
  unfold Oper.wp execOp
  simp only [ho, hx]
  go_simp
  exact hK
theorem nilCheck_ {w : World} {a : Act} {K : Act → World → Prop} {Q : Exit → Act → World → Prop} {o : Oper} {x : Operand} {p : Addr} (ho : o.op = .nilCheck x) (hx : a.eval x = .pointer (some p)) (hK : K (a.put o.dst (.pointer (some p))) w) : o.wp Try.prog a w K Q := by
  unfold Oper.wp execOp
  simp only [ho, hx]
  go_simp
  exact hK
theorem fld_24_0 {w : World} {a : Act} {K : Act → World → Prop} {Q : Exit → Act → World → Prop} {o : Oper} {x : Operand} {b p : Nat} (ho : o.op = .fieldAddr 24 x 0) (hx : a.eval x = .pointer (some ⟨b, p, none⟩)) (hK : K (a.put o.dst (.pointer (some ⟨b, p, none⟩))) w) : o.wp Try.prog a w K Q := by
  unfold Oper.wp execOp
  simp only [ho, hx]
  go_simp
  exact hK
theorem ld_3 {w : World} {a : Act} {K : Act → World → Prop} {Q : Exit → Act → World → Prop} {o : Oper} {x : Operand} {p : Addr} {v : Value} (ho : o.op = .load 3 x) (hx : a.eval x = .pointer (some p)) (hc : w.cell? p = some v) (hK : K (a.put o.dst (v)) w) : o.wp Try.prog a w K Q := by
  unfold Oper.wp execOp
  simp only [ho, hx]
  go_simp
  exact hK
theorem lss_3 {w : World} {a : Act} {K : Act → World → Prop} {Q : Exit → Act → World → Prop} {o : Oper} {x y : Operand} {m n : Int} (ho : o.op = .binOp .lss 3 x y 3) (hx : a.eval x = .int .i64 m) (hy : a.eval y = .int .i64 n) (hK : K (a.put o.dst (.bool (decide (m < n)))) w) : o.wp Try.prog a w K Q := by
  unfold Oper.wp execOp
  simp only [ho, hx, hy]
  go_simp
  exact hK
theorem fld_64_0 {w : World} {a : Act} {K : Act → World → Prop} {Q : Exit → Act → World → Prop} {o : Oper} {x : Operand} {b p : Nat} (ho : o.op = .fieldAddr 64 x 0) (hx : a.eval x = .pointer (some ⟨b, p, none⟩)) (hK : K (a.put o.dst (.pointer (some ⟨b, p, none⟩))) w) : o.wp Try.prog a w K Q := by
  unfold Oper.wp execOp
  simp only [ho, hx]
  go_simp
  exact hK
theorem ld_62 {w : World} {a : Act} {K : Act → World → Prop} {Q : Exit → Act → World → Prop} {o : Oper} {x : Operand} {p : Addr} {v : Value} (ho : o.op = .load 62 x) (hx : a.eval x = .pointer (some p)) (hc : w.cell? p = some v) (hK : K (a.put o.dst (v)) w) : o.wp Try.prog a w K Q := by
  unfold Oper.wp execOp
  simp only [ho, hx]
  go_simp
  exact hK
theorem eqlp_66 {w : World} {a : Act} {K : Act → World → Prop} {Q : Exit → Act → World → Prop} {o : Oper} {x y : Operand} {p : Addr} (ho : o.op = .binOp .eql 66 x y 66) (hx : a.eval x = .pointer (some p)) (hy : a.eval y = .pointer none) (hK : K (a.put o.dst (.bool false)) w) : o.wp Try.prog a w K Q := by
  unfold Oper.wp execOp
  simp only [ho, hx, hy]
  go_simp
  exact hK
theorem eqln_66 {w : World} {a : Act} {K : Act → World → Prop} {Q : Exit → Act → World → Prop} {o : Oper} {x y : Operand} (ho : o.op = .binOp .eql 66 x y 66) (hx : a.eval x = .pointer none) (hy : a.eval y = .pointer none) (hK : K (a.put o.dst (.bool true)) w) : o.wp Try.prog a w K Q := by
  unfold Oper.wp execOp
  simp only [ho, hx, hy]
  go_simp
  exact hK
theorem fld_69_1 {w : World} {a : Act} {K : Act → World → Prop} {Q : Exit → Act → World → Prop} {o : Oper} {x : Operand} {b p : Nat} (ho : o.op = .fieldAddr 69 x 1) (hx : a.eval x = .pointer (some ⟨b, p, none⟩)) (hK : K (a.put o.dst (.pointer (some ⟨b, p + 1, none⟩))) w) : o.wp Try.prog a w K Q := by
  unfold Oper.wp execOp
  simp only [ho, hx]
  go_simp
  exact hK
theorem fld_64_1 {w : World} {a : Act} {K : Act → World → Prop} {Q : Exit → Act → World → Prop} {o : Oper} {x : Operand} {b p : Nat} (ho : o.op = .fieldAddr 64 x 1) (hx : a.eval x = .pointer (some ⟨b, p, none⟩)) (hK : K (a.put o.dst (.pointer (some ⟨b, p + 1, none⟩))) w) : o.wp Try.prog a w K Q := by
  unfold Oper.wp execOp
  simp only [ho, hx]
  go_simp
  exact hK
theorem ld_59 {w : World} {a : Act} {K : Act → World → Prop} {Q : Exit → Act → World → Prop} {o : Oper} {x : Operand} {p : Addr} {v : Value} (ho : o.op = .load 59 x) (hx : a.eval x = .pointer (some p)) (hc : w.cell? p = some v) (hK : K (a.put o.dst (v)) w) : o.wp Try.prog a w K Q := by
  unfold Oper.wp execOp
  simp only [ho, hx]
  go_simp
  exact hK
theorem row_59_1 {w : World} {a : Act} {K : Act → World → Prop} {Q : Exit → Act → World → Prop} {o : Oper} {x0 : Operand} {c0 : Int} (ho : o.op = .buildSlice 59 1 #[(0, x0)]) (h0 : a.eval x0 = .int .i64 c0) (hK : K (a.put o.dst (.slice (some ⟨w.heap.size, 0, none⟩) 1 1)) (w.alloc (.cells #[.int .i64 c0] 3))) : o.wp Try.prog a w K Q := by
  unfold Oper.wp execOp
  simp only [ho, List.map_toArray, List.map_cons, List.map_nil, h0]
  go_simp
  exact hK
theorem app_59 {w : World} {a : Act} {K : Act → World → Prop} {Q : Exit → Act → World → Prop} {o : Oper} {s x : Operand} {n m rc : Nat} {S : Nat → Prop} {ra : Option Addr} {y : Value} {xs news : List Value} (ho : o.op = .call { callee := .builtin .append, args := #[s, x], argTypes := #[59, 59] }) (hs : a.eval s = .slice ra n rc) (hx : a.eval x = y) (hown : Own w S 3 1 ra rc n xs) (hsrc : SrcIs w y m news) (hl : news.length = m * 1) (h1 : ∀ u ∈ news, u.oneCell' = true)
    (hb : (n + m) * 8 ≤ 140737488355328) (hn : n + m ≤ 9223372036854775807) (hS : S w.heap.size) (hK : ∀ ra rc w', Own w' S 3 1 ra rc (n + m) (xs ++ news) → Chg S w w' → K (a.put o.dst (.slice ra (n + m) rc)) w') : o.wp Try.prog a w K Q :=
  wp_own Try.underlying59 (z := .int .i64 0) (size := 1) (bytes := 8) (by kernel_rfl) rfl (by decide) ho hs hx hown hsrc hl h1 hb hn hS hK
theorem st_59 {w : World} {a : Act} {K : Act → World → Prop} {Q : Exit → Act → World → Prop} {o : Oper} {x y : Operand} {g p : Nat} {ty : TypeId} {cs : Array Value} {c0a : Option Addr} {c0n c0c : Nat} (ho : o.op = .store 59 x y) (hx : a.eval x = .pointer (some ⟨g, p, none⟩)) (hy : a.eval y = .slice c0a c0n c0c) (hB : Blk w g ty cs) (hp : p + 0 < cs.size) (hK : ∀ v, K (a.put o.dst v) (w.setCell ⟨g, p, none⟩ (.slice c0a c0n c0c))) : o.wp Try.prog a w K Q := by
  have h0 := (hB.cell (p)).trans (Array.getElem?_eq_getElem (by first | omega | (simp; omega)))
  have f0 := hB.frozen (p)
  clear hB
  unfold Oper.wp execOp
  simp only [ho, hx, hy]
  go_simp
  exact hK _
theorem neq_3 {w : World} {a : Act} {K : Act → World → Prop} {Q : Exit → Act → World → Prop} {o : Oper} {x y : Operand} {m n : Int} (ho : o.op = .binOp .neq 3 x y 3) (hx : a.eval x = .int .i64 m) (hy : a.eval y = .int .i64 n) (hK : K (a.put o.dst (.bool (m != n))) w) : o.wp Try.prog a w K Q := by
  unfold Oper.wp execOp
  simp only [ho, hx, hy]
  go_simp
  exact hK
theorem fld_24_1 {w : World} {a : Act} {K : Act → World → Prop} {Q : Exit → Act → World → Prop} {o : Oper} {x : Operand} {b p : Nat} (ho : o.op = .fieldAddr 24 x 1) (hx : a.eval x = .pointer (some ⟨b, p, none⟩)) (hK : K (a.put o.dst (.pointer (some ⟨b, p + 1, none⟩))) w) : o.wp Try.prog a w K Q := by
  unfold Oper.wp execOp
  simp only [ho, hx]
  go_simp
  exact hK
theorem ld_22 {w : World} {a : Act} {K : Act → World → Prop} {Q : Exit → Act → World → Prop} {o : Oper} {x : Operand} {p : Addr} {v : Value} (ho : o.op = .load 22 x) (hx : a.eval x = .pointer (some p)) (hc : w.cell? p = some v) (hK : K (a.put o.dst (v)) w) : o.wp Try.prog a w K Q := by
  unfold Oper.wp execOp
  simp only [ho, hx]
  go_simp
  exact hK
theorem len_22 {w : World} {a : Act} {K : Act → World → Prop} {Q : Exit → Act → World → Prop} {o : Oper} {x : Operand} {r : Option Addr} {n c : Nat} (ho : o.op = .call { callee := .builtin .len, args := #[x], argTypes := #[22] }) (hx : a.eval x = .slice r n c) (hK : K (a.put o.dst (.int .i64 n)) w) : o.wp Try.prog a w K Q := by
  unfold Oper.wp execOp
  simp only [ho, resolve, List.map_toArray, List.map_cons, List.map_nil, hx]
  go_simp
  exact hK
theorem geq_3 {w : World} {a : Act} {K : Act → World → Prop} {Q : Exit → Act → World → Prop} {o : Oper} {x y : Operand} {m n : Int} (ho : o.op = .binOp .geq 3 x y 3) (hx : a.eval x = .int .i64 m) (hy : a.eval y = .int .i64 n) (hK : K (a.put o.dst (.bool (decide (n ≤ m)))) w) : o.wp Try.prog a w K Q := by
  unfold Oper.wp execOp
  simp only [ho, hx, hy]
  go_simp
  exact hK
theorem ix_22 {w : World} {a : Act} {K : Act → World → Prop} {Q : Exit → Act → World → Prop} {o : Oper} {x y : Operand} {r : Option Addr} {b p n c k : Nat} (ho : o.op = .indexAddr 22 x y) (hx : a.eval x = .slice r n c) (hr : r = some ⟨b, p, none⟩) (hy : a.eval y = .int .i64 (k : Int)) (hk : k < n) (hK : K (a.put o.dst (.pointer (some ⟨b, p + k * 2, none⟩))) w) : o.wp Try.prog a w K Q := by
  subst hr
  have h0 : (0 : Int) ≤ (k : Int) := by omega
  have h1 : (k : Int) < (n : Int) := by omega
  unfold Oper.wp execOp
  simp only [ho, hx, hy]
  go_simp
  exact hK
theorem app_70 {w : World} {a : Act} {K : Act → World → Prop} {Q : Exit → Act → World → Prop} {o : Oper} {s x : Operand} {n m rc : Nat} {S : Nat → Prop} {ra : Option Addr} {y : Value} {xs news : List Value} (ho : o.op = .call { callee := .builtin .append, args := #[s, x], argTypes := #[70, 70] }) (hs : a.eval s = .slice ra n rc) (hx : a.eval x = y) (hown : Own w S 69 2 ra rc n xs) (hsrc : SrcIs w y m news) (hl : news.length = m * 2) (h1 : ∀ u ∈ news, u.oneCell' = true)
    (hb : (n + m) * 16 ≤ 140737488355328) (hn : n + m ≤ 9223372036854775807) (hS : S w.heap.size) (hK : ∀ ra rc w', Own w' S 69 2 ra rc (n + m) (xs ++ news) → Chg S w w' → K (a.put o.dst (.slice ra (n + m) rc)) w') : o.wp Try.prog a w K Q :=
  wp_own Try.underlying70 (z := .agg #[.pointer none, .pointer none]) (size := 2) (bytes := 16) (by kernel_rfl) rfl (by decide) ho hs hx hown hsrc hl h1 hb hn hS hK
theorem len_59 {w : World} {a : Act} {K : Act → World → Prop} {Q : Exit → Act → World → Prop} {o : Oper} {x : Operand} {r : Option Addr} {n c : Nat} (ho : o.op = .call { callee := .builtin .len, args := #[x], argTypes := #[59] }) (hx : a.eval x = .slice r n c) (hK : K (a.put o.dst (.int .i64 n)) w) : o.wp Try.prog a w K Q := by
  unfold Oper.wp execOp
  simp only [ho, resolve, List.map_toArray, List.map_cons, List.map_nil, hx]
  go_simp
  exact hK
theorem slo_59 {w : World} {a : Act} {K : Act → World → Prop} {Q : Exit → Act → World → Prop} {o : Oper} {x lo : Operand} {r : Option Addr} {n c k : Nat} (ho : o.op = .slice 59 x (some lo) none none) (hx : a.eval x = .slice r n c) (hl : a.eval lo = .int .i64 (k : Int)) (hk : k ≤ n) (hc : n ≤ c) (hK : K (a.put o.dst (.slice (slA r k 1 c) (n - k) (c - k))) w) : o.wp Try.prog a w K Q := by
  have h0 : (0 : Int) ≤ (k : Int) := by omega
  have h1 : (k : Int) ≤ (n : Int) := by omega
  unfold slA at hK
  simp only [Nat.mul_one] at hK
  unfold Oper.wp execOp
  simp only [ho, hx, hl, Option.map_some, Option.map_none]
  go_simp
  exact hK
theorem ix_59 {w : World} {a : Act} {K : Act → World → Prop} {Q : Exit → Act → World → Prop} {o : Oper} {x y : Operand} {r : Option Addr} {b p n c k : Nat} (ho : o.op = .indexAddr 59 x y) (hx : a.eval x = .slice r n c) (hr : r = some ⟨b, p, none⟩) (hy : a.eval y = .int .i64 (k : Int)) (hk : k < n) (hK : K (a.put o.dst (.pointer (some ⟨b, p + k, none⟩))) w) : o.wp Try.prog a w K Q := by
  subst hr
  have h0 : (0 : Int) ≤ (k : Int) := by omega
  have h1 : (k : Int) < (n : Int) := by omega
  unfold Oper.wp execOp
  simp only [ho, hx, hy]
  go_simp
  exact hK
theorem add_3 {w : World} {a : Act} {K : Act → World → Prop} {Q : Exit → Act → World → Prop} {o : Oper} {x y : Operand} {m n : Int} (ho : o.op = .binOp .add 3 x y 3) (hx : a.eval x = .int .i64 m) (hy : a.eval y = .int .i64 n) (hK : K (a.put o.dst (.int .i64 (IntKind.i64.wrap (m + n)))) w) : o.wp Try.prog a w K Q := by
  unfold Oper.wp execOp
  simp only [ho, hx, hy]
  go_simp
  exact hK
theorem addb_3 {w : World} {a : Act} {K : Act → World → Prop} {Q : Exit → Act → World → Prop} {o : Oper} {x y : Operand} {m n r : Int} (ho : o.op = .binOp .add 3 x y 3) (hx : a.eval x = .int .i64 m) (hy : a.eval y = .int .i64 n) (hr : IntKind.i64.wrap (m + n) = r) (hK : K (a.put o.dst (.int .i64 r)) w) : o.wp Try.prog a w K Q := by
  subst hr
  unfold Oper.wp execOp
  simp only [ho, hx, hy]
  go_simp
  exact hK
theorem shi_59 {w : World} {a : Act} {K : Act → World → Prop} {Q : Exit → Act → World → Prop} {o : Oper} {x hi : Operand} {r : Option Addr} {n c k : Nat} (ho : o.op = .slice 59 x none (some hi) none) (hx : a.eval x = .slice r n c) (hl : a.eval hi = .int .i64 (k : Int)) (hk : k ≤ c) (hK : K (a.put o.dst (.slice r k c)) w) : o.wp Try.prog a w K Q := by
  have h0 : (0 : Int) ≤ (k : Int) := by omega
  have h1 : (k : Int) ≤ (c : Int) := by omega
  unfold Oper.wp execOp
  simp only [ho, hx, hl, Option.map_some, Option.map_none]
  go_simp
  exact hK
theorem ext2_0 {w : World} {a : Act} {K : Act → World → Prop} {Q : Exit → Act → World → Prop} {o : Oper} {x : Operand} {v0 v1 : Value} (ho : o.op = .extract x 0) (hx : a.eval x = .tuple #[v0, v1]) (hK : K (a.put o.dst (v0)) w) : o.wp Try.prog a w K Q := by
  unfold Oper.wp execOp
  simp only [ho, hx]
  go_simp
  exact hK
theorem ext3_0 {w : World} {a : Act} {K : Act → World → Prop} {Q : Exit → Act → World → Prop} {o : Oper} {x : Operand} {v0 v1 v2 : Value} (ho : o.op = .extract x 0) (hx : a.eval x = .tuple #[v0, v1, v2]) (hK : K (a.put o.dst (v0)) w) : o.wp Try.prog a w K Q := by
  unfold Oper.wp execOp
  simp only [ho, hx]
  go_simp
  exact hK
theorem ext2_1 {w : World} {a : Act} {K : Act → World → Prop} {Q : Exit → Act → World → Prop} {o : Oper} {x : Operand} {v0 v1 : Value} (ho : o.op = .extract x 1) (hx : a.eval x = .tuple #[v0, v1]) (hK : K (a.put o.dst (v1)) w) : o.wp Try.prog a w K Q := by
  unfold Oper.wp execOp
  simp only [ho, hx]
  go_simp
  exact hK
theorem ext3_1 {w : World} {a : Act} {K : Act → World → Prop} {Q : Exit → Act → World → Prop} {o : Oper} {x : Operand} {v0 v1 v2 : Value} (ho : o.op = .extract x 1) (hx : a.eval x = .tuple #[v0, v1, v2]) (hK : K (a.put o.dst (v1)) w) : o.wp Try.prog a w K Q := by
  unfold Oper.wp execOp
  simp only [ho, hx]
  go_simp
  exact hK
theorem build_57_0_1 {w : World} {a : Act} {K : Act → World → Prop} {Q : Exit → Act → World → Prop} {o : Oper} {x0 x1 : Operand} {c0 : Int} {c1 c2 : Value} (ho : o.op = .build 57 #[(0, x0), (1, x1)]) (h0 : a.eval x0 = .int .i64 c0) (h1 : a.eval x1 = .agg #[c1, c2]) (hK : K (a.put o.dst (.agg #[.int .i64 c0, c1, c2])) w) : o.wp Try.prog a w K Q := by
  unfold Oper.wp execOp
  simp only [ho, List.map_toArray, List.map_cons, List.map_nil, h0, h1]
  go_simp
  exact hK
theorem row_26_1 {w : World} {a : Act} {K : Act → World → Prop} {Q : Exit → Act → World → Prop} {o : Oper} {x0 : Operand} {c0 c1 c2 : Value} (ho : o.op = .buildSlice 26 1 #[(0, x0)]) (h0 : a.eval x0 = .agg #[c0, c1, c2]) (hK : K (a.put o.dst (.slice (some ⟨w.heap.size, 0, none⟩) 1 1)) (w.alloc (.cells #[c0, c1, c2] 57))) : o.wp Try.prog a w K Q := by
  unfold Oper.wp execOp
  simp only [ho, List.map_toArray, List.map_cons, List.map_nil, h0]
  go_simp
  exact hK
theorem app_26 {w : World} {a : Act} {K : Act → World → Prop} {Q : Exit → Act → World → Prop} {o : Oper} {s x : Operand} {n m rc : Nat} {S : Nat → Prop} {ra : Option Addr} {y : Value} {xs news : List Value} (ho : o.op = .call { callee := .builtin .append, args := #[s, x], argTypes := #[26, 26] }) (hs : a.eval s = .slice ra n rc) (hx : a.eval x = y) (hown : Own w S 57 3 ra rc n xs) (hsrc : SrcIs w y m news) (hl : news.length = m * 3) (h1 : ∀ u ∈ news, u.oneCell' = true)
    (hb : (n + m) * 40 ≤ 140737488355328) (hn : n + m ≤ 9223372036854775807) (hS : S w.heap.size) (hK : ∀ ra rc w', Own w' S 57 3 ra rc (n + m) (xs ++ news) → Chg S w w' → K (a.put o.dst (.slice ra (n + m) rc)) w') : o.wp Try.prog a w K Q :=
  wp_own Try.underlying26 (z := .agg #[.int .i64 0, .int .i64 0, .slice none 0 0]) (size := 3) (bytes := 40) (by kernel_rfl) rfl (by decide) ho hs hx hown hsrc hl h1 hb hn hS hK
theorem box_41 {w : World} {a : Act} {K : Act → World → Prop} {Q : Exit → Act → World → Prop} {o : Oper} {x : Operand} {c0 c1 c2 c3 c4 : Value} (ho : o.op = .box 41 x) (hx : a.eval x = .agg #[c0, c1, c2, c3, c4]) (hK : K (a.put o.dst (.pointer (some ⟨w.heap.size, 0, none⟩))) (w.alloc (.cells #[c0, c1, c2, c3, c4] 41))) : o.wp Try.prog a w K Q := by
  unfold Oper.wp execOp
  simp only [ho, hx]
  go_simp
  exact hK
theorem neqp_33 {w : World} {a : Act} {K : Act → World → Prop} {Q : Exit → Act → World → Prop} {o : Oper} {x y : Operand} {p : Addr} (ho : o.op = .binOp .neq 33 x y 33) (hx : a.eval x = .pointer (some p)) (hy : a.eval y = .pointer none) (hK : K (a.put o.dst (.bool true)) w) : o.wp Try.prog a w K Q := by
  unfold Oper.wp execOp
  simp only [ho, hx, hy]
  go_simp
  exact hK
theorem neqn_33 {w : World} {a : Act} {K : Act → World → Prop} {Q : Exit → Act → World → Prop} {o : Oper} {x y : Operand} (ho : o.op = .binOp .neq 33 x y 33) (hx : a.eval x = .pointer none) (hy : a.eval y = .pointer none) (hK : K (a.put o.dst (.bool false)) w) : o.wp Try.prog a w K Q := by
  unfold Oper.wp execOp
  simp only [ho, hx, hy]
  go_simp
  exact hK
theorem ld_41 {w : World} {a : Act} {K : Act → World → Prop} {Q : Exit → Act → World → Prop} {o : Oper} {x : Operand} {b p : Nat} {c0 c1 c2 c3 c4 : Value} (ho : o.op = .load 41 x) (hx : a.eval x = .pointer (some ⟨b, p, none⟩)) (h0 : w.cell? ⟨b, p, none⟩ = some c0) (h1 : w.cell? ⟨b, p + 1, none⟩ = some c1) (h2 : w.cell? ⟨b, p + 2, none⟩ = some c2) (h3 : w.cell? ⟨b, p + 3, none⟩ = some c3) (h4 : w.cell? ⟨b, p + 4, none⟩ = some c4) (hK : K (a.put o.dst (.agg #[c0, c1, c2, c3, c4])) w) : o.wp Try.prog a w K Q := by
  unfold Oper.wp execOp
  simp only [ho, hx]
  go_simp
  exact hK
theorem fld_41_0 {w : World} {a : Act} {K : Act → World → Prop} {Q : Exit → Act → World → Prop} {o : Oper} {x : Operand} {b p : Nat} (ho : o.op = .fieldAddr 41 x 0) (hx : a.eval x = .pointer (some ⟨b, p, none⟩)) (hK : K (a.put o.dst (.pointer (some ⟨b, p, none⟩))) w) : o.wp Try.prog a w K Q := by
  unfold Oper.wp execOp
  simp only [ho, hx]
  go_simp
  exact hK
theorem ld_4 {w : World} {a : Act} {K : Act → World → Prop} {Q : Exit → Act → World → Prop} {o : Oper} {x : Operand} {p : Addr} {v : Value} (ho : o.op = .load 4 x) (hx : a.eval x = .pointer (some p)) (hc : w.cell? p = some v) (hK : K (a.put o.dst (v)) w) : o.wp Try.prog a w K Q := by
  unfold Oper.wp execOp
  simp only [ho, hx]
  go_simp
  exact hK
theorem neq_4 {w : World} {a : Act} {K : Act → World → Prop} {Q : Exit → Act → World → Prop} {o : Oper} {x y : Operand} {m n : Bool} (ho : o.op = .binOp .neq 4 x y 4) (hx : a.eval x = .bool m) (hy : a.eval y = .bool n) (hK : K (a.put o.dst (.bool (m != n))) w) : o.wp Try.prog a w K Q := by
  unfold Oper.wp execOp
  simp only [ho, hx, hy]
  go_simp
  exact hK
theorem fld_41_2 {w : World} {a : Act} {K : Act → World → Prop} {Q : Exit → Act → World → Prop} {o : Oper} {x : Operand} {b p : Nat} (ho : o.op = .fieldAddr 41 x 2) (hx : a.eval x = .pointer (some ⟨b, p, none⟩)) (hK : K (a.put o.dst (.pointer (some ⟨b, p + 3, none⟩))) w) : o.wp Try.prog a w K Q := by
  unfold Oper.wp execOp
  simp only [ho, hx]
  go_simp
  exact hK
theorem fld_41_1 {w : World} {a : Act} {K : Act → World → Prop} {Q : Exit → Act → World → Prop} {o : Oper} {x : Operand} {b p : Nat} (ho : o.op = .fieldAddr 41 x 1) (hx : a.eval x = .pointer (some ⟨b, p, none⟩)) (hK : K (a.put o.dst (.pointer (some ⟨b, p + 1, none⟩))) w) : o.wp Try.prog a w K Q := by
  unfold Oper.wp execOp
  simp only [ho, hx]
  go_simp
  exact hK
theorem build_64_0 {w : World} {a : Act} {K : Act → World → Prop} {Q : Exit → Act → World → Prop} {o : Oper} {x0 : Operand} {c0 : Option Nat} (ho : o.op = .build 64 #[(0, x0)]) (h0 : a.eval x0 = .map c0) (hK : K (a.put o.dst (.agg #[.map c0, .slice none 0 0])) w) : o.wp Try.prog a w K Q := by
  unfold Oper.wp execOp
  simp only [ho, List.map_toArray, List.map_cons, List.map_nil, h0]
  go_simp
  exact hK
theorem box_64 {w : World} {a : Act} {K : Act → World → Prop} {Q : Exit → Act → World → Prop} {o : Oper} {x : Operand} {c0 c1 : Value} (ho : o.op = .box 64 x) (hx : a.eval x = .agg #[c0, c1]) (hK : K (a.put o.dst (.pointer (some ⟨w.heap.size, 0, none⟩))) (w.alloc (.cells #[c0, c1] 64))) : o.wp Try.prog a w K Q := by
  unfold Oper.wp execOp
  simp only [ho, hx]
  go_simp
  exact hK
theorem eql_3 {w : World} {a : Act} {K : Act → World → Prop} {Q : Exit → Act → World → Prop} {o : Oper} {x y : Operand} {m n : Int} (ho : o.op = .binOp .eql 3 x y 3) (hx : a.eval x = .int .i64 m) (hy : a.eval y = .int .i64 n) (hK : K (a.put o.dst (.bool (m == n))) w) : o.wp Try.prog a w K Q := by
  unfold Oper.wp execOp
  simp only [ho, hx, hy]
  go_simp
  exact hK
theorem build_24_0 {w : World} {a : Act} {K : Act → World → Prop} {Q : Exit → Act → World → Prop} {o : Oper} {x0 : Operand} {c0 : Int} (ho : o.op = .build 24 #[(0, x0)]) (h0 : a.eval x0 = .int .i64 c0) (hK : K (a.put o.dst (.agg #[.int .i64 c0, .slice none 0 0])) w) : o.wp Try.prog a w K Q := by
  unfold Oper.wp execOp
  simp only [ho, List.map_toArray, List.map_cons, List.map_nil, h0]
  go_simp
  exact hK
theorem st_22 {w : World} {a : Act} {K : Act → World → Prop} {Q : Exit → Act → World → Prop} {o : Oper} {x y : Operand} {g p : Nat} {ty : TypeId} {cs : Array Value} {c0a : Option Addr} {c0n c0c : Nat} (ho : o.op = .store 22 x y) (hx : a.eval x = .pointer (some ⟨g, p, none⟩)) (hy : a.eval y = .slice c0a c0n c0c) (hB : Blk w g ty cs) (hp : p + 0 < cs.size) (hK : ∀ v, K (a.put o.dst v) (w.setCell ⟨g, p, none⟩ (.slice c0a c0n c0c))) : o.wp Try.prog a w K Q := by
  have h0 := (hB.cell (p)).trans (Array.getElem?_eq_getElem (by first | omega | (simp; omega)))
  have f0 := hB.frozen (p)
  clear hB
  unfold Oper.wp execOp
  simp only [ho, hx, hy]
  go_simp
  exact hK _
theorem row_22_1 {w : World} {a : Act} {K : Act → World → Prop} {Q : Exit → Act → World → Prop} {o : Oper} {x0 : Operand} {c0 c1 : Value} (ho : o.op = .buildSlice 22 1 #[(0, x0)]) (h0 : a.eval x0 = .agg #[c0, c1]) (hK : K (a.put o.dst (.slice (some ⟨w.heap.size, 0, none⟩) 1 1)) (w.alloc (.cells #[c0, c1] 24))) : o.wp Try.prog a w K Q := by
  unfold Oper.wp execOp
  simp only [ho, List.map_toArray, List.map_cons, List.map_nil, h0]
  go_simp
  exact hK
theorem app_22 {w : World} {a : Act} {K : Act → World → Prop} {Q : Exit → Act → World → Prop} {o : Oper} {s x : Operand} {n m rc : Nat} {S : Nat → Prop} {ra : Option Addr} {y : Value} {xs news : List Value} (ho : o.op = .call { callee := .builtin .append, args := #[s, x], argTypes := #[22, 22] }) (hs : a.eval s = .slice ra n rc) (hx : a.eval x = y) (hown : Own w S 24 2 ra rc n xs) (hsrc : SrcIs w y m news) (hl : news.length = m * 2) (h1 : ∀ u ∈ news, u.oneCell' = true)
    (hb : (n + m) * 32 ≤ 140737488355328) (hn : n + m ≤ 9223372036854775807) (hS : S w.heap.size) (hK : ∀ ra rc w', Own w' S 24 2 ra rc (n + m) (xs ++ news) → Chg S w w' → K (a.put o.dst (.slice ra (n + m) rc)) w') : o.wp Try.prog a w K Q :=
  wp_own Try.underlying22 (z := .agg #[.int .i64 0, .slice none 0 0]) (size := 2) (bytes := 32) (by kernel_rfl) rfl (by decide) ho hs hx hown hsrc hl h1 hb hn hS hK
theorem fld_37_0 {w : World} {a : Act} {K : Act → World → Prop} {Q : Exit → Act → World → Prop} {o : Oper} {x : Operand} {b p : Nat} (ho : o.op = .fieldAddr 37 x 0) (hx : a.eval x = .pointer (some ⟨b, p, none⟩)) (hK : K (a.put o.dst (.pointer (some ⟨b, p, none⟩))) w) : o.wp Try.prog a w K Q := by
  unfold Oper.wp execOp
  simp only [ho, hx]
  go_simp
  exact hK
theorem ld_25 {w : World} {a : Act} {K : Act → World → Prop} {Q : Exit → Act → World → Prop} {o : Oper} {x : Operand} {p : Addr} {v : Value} (ho : o.op = .load 25 x) (hx : a.eval x = .pointer (some p)) (hc : w.cell? p = some v) (hK : K (a.put o.dst (v)) w) : o.wp Try.prog a w K Q := by
  unfold Oper.wp execOp
  simp only [ho, hx]
  go_simp
  exact hK
theorem len_25 {w : World} {a : Act} {K : Act → World → Prop} {Q : Exit → Act → World → Prop} {o : Oper} {x : Operand} {r : Option Addr} {n c : Nat} (ho : o.op = .call { callee := .builtin .len, args := #[x], argTypes := #[25] }) (hx : a.eval x = .slice r n c) (hK : K (a.put o.dst (.int .i64 n)) w) : o.wp Try.prog a w K Q := by
  unfold Oper.wp execOp
  simp only [ho, resolve, List.map_toArray, List.map_cons, List.map_nil, hx]
  go_simp
  exact hK
theorem ix_25 {w : World} {a : Act} {K : Act → World → Prop} {Q : Exit → Act → World → Prop} {o : Oper} {x y : Operand} {r : Option Addr} {b p n c k : Nat} (ho : o.op = .indexAddr 25 x y) (hx : a.eval x = .slice r n c) (hr : r = some ⟨b, p, none⟩) (hy : a.eval y = .int .i64 (k : Int)) (hk : k < n) (hK : K (a.put o.dst (.pointer (some ⟨b, p + k * 3, none⟩))) w) : o.wp Try.prog a w K Q := by
  subst hr
  have h0 : (0 : Int) ≤ (k : Int) := by omega
  have h1 : (k : Int) < (n : Int) := by omega
  unfold Oper.wp execOp
  simp only [ho, hx, hy]
  go_simp
  exact hK
theorem fld_57_0 {w : World} {a : Act} {K : Act → World → Prop} {Q : Exit → Act → World → Prop} {o : Oper} {x : Operand} {b p : Nat} (ho : o.op = .fieldAddr 57 x 0) (hx : a.eval x = .pointer (some ⟨b, p, none⟩)) (hK : K (a.put o.dst (.pointer (some ⟨b, p, none⟩))) w) : o.wp Try.prog a w K Q := by
  unfold Oper.wp execOp
  simp only [ho, hx]
  go_simp
  exact hK
theorem fld_57_1 {w : World} {a : Act} {K : Act → World → Prop} {Q : Exit → Act → World → Prop} {o : Oper} {x : Operand} {b p : Nat} (ho : o.op = .fieldAddr 57 x 1) (hx : a.eval x = .pointer (some ⟨b, p, none⟩)) (hK : K (a.put o.dst (.pointer (some ⟨b, p + 1, none⟩))) w) : o.wp Try.prog a w K Q := by
  unfold Oper.wp execOp
  simp only [ho, hx]
  go_simp
  exact hK
theorem build_24_ {w : World} {a : Act} {K : Act → World → Prop} {Q : Exit → Act → World → Prop} {o : Oper}   (ho : o.op = .build 24 #[])  (hK : K (a.put o.dst (.agg #[.int .i64 0, .slice none 0 0])) w) : o.wp Try.prog a w K Q := by
  unfold Oper.wp execOp
  simp only [ho, List.map_toArray, List.map_cons, List.map_nil, ]
  go_simp
  exact hK
theorem row_25_1 {w : World} {a : Act} {K : Act → World → Prop} {Q : Exit → Act → World → Prop} {o : Oper} {x0 : Operand} {c0 c1 c2 : Value} (ho : o.op = .buildSlice 25 1 #[(0, x0)]) (h0 : a.eval x0 = .agg #[c0, c1, c2]) (hK : K (a.put o.dst (.slice (some ⟨w.heap.size, 0, none⟩) 1 1)) (w.alloc (.cells #[c0, c1, c2] 57))) : o.wp Try.prog a w K Q := by
  unfold Oper.wp execOp
  simp only [ho, List.map_toArray, List.map_cons, List.map_nil, h0]
  go_simp
  exact hK
theorem app_25 {w : World} {a : Act} {K : Act → World → Prop} {Q : Exit → Act → World → Prop} {o : Oper} {s x : Operand} {n m rc : Nat} {S : Nat → Prop} {ra : Option Addr} {y : Value} {xs news : List Value} (ho : o.op = .call { callee := .builtin .append, args := #[s, x], argTypes := #[25, 25] }) (hs : a.eval s = .slice ra n rc) (hx : a.eval x = y) (hown : Own w S 57 3 ra rc n xs) (hsrc : SrcIs w y m news) (hl : news.length = m * 3) (h1 : ∀ u ∈ news, u.oneCell' = true)
    (hb : (n + m) * 40 ≤ 140737488355328) (hn : n + m ≤ 9223372036854775807) (hS : S w.heap.size) (hK : ∀ ra rc w', Own w' S 57 3 ra rc (n + m) (xs ++ news) → Chg S w w' → K (a.put o.dst (.slice ra (n + m) rc)) w') : o.wp Try.prog a w K Q :=
  wp_own Try.underlying25 (z := .agg #[.int .i64 0, .int .i64 0, .slice none 0 0]) (size := 3) (bytes := 40) (by kernel_rfl) rfl (by decide) ho hs hx hown hsrc hl h1 hb hn hS hK
theorem st_25 {w : World} {a : Act} {K : Act → World → Prop} {Q : Exit → Act → World → Prop} {o : Oper} {x y : Operand} {g p : Nat} {ty : TypeId} {cs : Array Value} {c0a : Option Addr} {c0n c0c : Nat} (ho : o.op = .store 25 x y) (hx : a.eval x = .pointer (some ⟨g, p, none⟩)) (hy : a.eval y = .slice c0a c0n c0c) (hB : Blk w g ty cs) (hp : p + 0 < cs.size) (hK : ∀ v, K (a.put o.dst v) (w.setCell ⟨g, p, none⟩ (.slice c0a c0n c0c))) : o.wp Try.prog a w K Q := by
  have h0 := (hB.cell (p)).trans (Array.getElem?_eq_getElem (by first | omega | (simp; omega)))
  have f0 := hB.frozen (p)
  clear hB
  unfold Oper.wp execOp
  simp only [ho, hx, hy]
  go_simp
  exact hK _
theorem shi_25 {w : World} {a : Act} {K : Act → World → Prop} {Q : Exit → Act → World → Prop} {o : Oper} {x hi : Operand} {r : Option Addr} {n c k : Nat} (ho : o.op = .slice 25 x none (some hi) none) (hx : a.eval x = .slice r n c) (hl : a.eval hi = .int .i64 (k : Int)) (hk : k ≤ c) (hK : K (a.put o.dst (.slice r k c)) w) : o.wp Try.prog a w K Q := by
  have h0 : (0 : Int) ≤ (k : Int) := by omega
  have h1 : (k : Int) ≤ (c : Int) := by omega
  unfold Oper.wp execOp
  simp only [ho, hx, hl, Option.map_some, Option.map_none]
  go_simp
  exact hK
theorem build_41_0_1_2 {w : World} {a : Act} {K : Act → World → Prop} {Q : Exit → Act → World → Prop} {o : Oper} {x0 x1 x2 : Operand} {c0 : Bool} {c1 c2 : Value} {c3 c4 : Value} (ho : o.op = .build 41 #[(0, x0), (1, x1), (2, x2)]) (h0 : a.eval x0 = .bool c0) (h1 : a.eval x1 = .agg #[c1, c2]) (h2 : a.eval x2 = .agg #[c3, c4]) (hK : K (a.put o.dst (.agg #[.bool c0, c1, c2, c3, c4])) w) : o.wp Try.prog a w K Q := by
  unfold Oper.wp execOp
  simp only [ho, List.map_toArray, List.map_cons, List.map_nil, h0, h1, h2]
  go_simp
  exact hK
theorem st_41 {w : World} {a : Act} {K : Act → World → Prop} {Q : Exit → Act → World → Prop} {o : Oper} {x y : Operand} {g p : Nat} {ty : TypeId} {cs : Array Value} {c0 c1 c2 c3 c4 : Value} (ho : o.op = .store 41 x y) (hx : a.eval x = .pointer (some ⟨g, p, none⟩)) (hy : a.eval y = .agg #[c0, c1, c2, c3, c4]) (k0 : c0.oneCell' = true) (k1 : c1.oneCell' = true) (k2 : c2.oneCell' = true) (k3 : c3.oneCell' = true) (k4 : c4.oneCell' = true) (hB : Blk w g ty cs) (hp : p + 4 < cs.size) (hK : ∀ v, K (a.put o.dst v) (((((w.setCell ⟨g, p, none⟩ c0).setCell ⟨g, p + 1, none⟩ c1).setCell ⟨g, p + 2, none⟩ c2).setCell ⟨g, p + 3, none⟩ c3).setCell ⟨g, p + 4, none⟩ c4)) : o.wp Try.prog a w K Q := by
  have h0 := (hB.cell (p)).trans (Array.getElem?_eq_getElem (by first | omega | (simp; omega)))
  have f0 := hB.frozen (p)
  have hB := hB.set_ (p) c0
  have h1 := (hB.cell (p + 1)).trans (Array.getElem?_eq_getElem (by first | omega | (simp; omega)))
  have f1 := hB.frozen (p + 1)
  have hB := hB.set_ (p + 1) c1
  have h2 := (hB.cell (p + 2)).trans (Array.getElem?_eq_getElem (by first | omega | (simp; omega)))
  have f2 := hB.frozen (p + 2)
  have hB := hB.set_ (p + 2) c2
  have h3 := (hB.cell (p + 3)).trans (Array.getElem?_eq_getElem (by first | omega | (simp; omega)))
  have f3 := hB.frozen (p + 3)
  have hB := hB.set_ (p + 3) c3
  have h4 := (hB.cell (p + 4)).trans (Array.getElem?_eq_getElem (by first | omega | (simp; omega)))
  have f4 := hB.frozen (p + 4)
  have s0 := fun w a m => run_store Try.prog w a c0 m k0
  have s1 := fun w a m => run_store Try.prog w a c1 m k1
  have s2 := fun w a m => run_store Try.prog w a c2 m k2
  have s3 := fun w a m => run_store Try.prog w a c3 m k3
  have s4 := fun w a m => run_store Try.prog w a c4 m k4
  clear hB
  unfold Oper.wp execOp
  simp only [ho, hx, hy]
  go_simp
  exact hK _
theorem leq_3 {w : World} {a : Act} {K : Act → World → Prop} {Q : Exit → Act → World → Prop} {o : Oper} {x y : Operand} {m n : Int} (ho : o.op = .binOp .leq 3 x y 3) (hx : a.eval x = .int .i64 m) (hy : a.eval y = .int .i64 n) (hK : K (a.put o.dst (.bool (decide (m ≤ n)))) w) : o.wp Try.prog a w K Q := by
  unfold Oper.wp execOp
  simp only [ho, hx, hy]
  go_simp
  exact hK
theorem len_26 {w : World} {a : Act} {K : Act → World → Prop} {Q : Exit → Act → World → Prop} {o : Oper} {x : Operand} {r : Option Addr} {n c : Nat} (ho : o.op = .call { callee := .builtin .len, args := #[x], argTypes := #[26] }) (hx : a.eval x = .slice r n c) (hK : K (a.put o.dst (.int .i64 n)) w) : o.wp Try.prog a w K Q := by
  unfold Oper.wp execOp
  simp only [ho, resolve, List.map_toArray, List.map_cons, List.map_nil, hx]
  go_simp
  exact hK
theorem ix_26 {w : World} {a : Act} {K : Act → World → Prop} {Q : Exit → Act → World → Prop} {o : Oper} {x y : Operand} {r : Option Addr} {b p n c k : Nat} (ho : o.op = .indexAddr 26 x y) (hx : a.eval x = .slice r n c) (hr : r = some ⟨b, p, none⟩) (hy : a.eval y = .int .i64 (k : Int)) (hk : k < n) (hK : K (a.put o.dst (.pointer (some ⟨b, p + k * 3, none⟩))) w) : o.wp Try.prog a w K Q := by
  subst hr
  have h0 : (0 : Int) ≤ (k : Int) := by omega
  have h1 : (k : Int) < (n : Int) := by omega
  unfold Oper.wp execOp
  simp only [ho, hx, hy]
  go_simp
  exact hK
theorem ld_57 {w : World} {a : Act} {K : Act → World → Prop} {Q : Exit → Act → World → Prop} {o : Oper} {x : Operand} {b p : Nat} {c0 c1 c2 : Value} (ho : o.op = .load 57 x) (hx : a.eval x = .pointer (some ⟨b, p, none⟩)) (h0 : w.cell? ⟨b, p, none⟩ = some c0) (h1 : w.cell? ⟨b, p + 1, none⟩ = some c1) (h2 : w.cell? ⟨b, p + 2, none⟩ = some c2) (hK : K (a.put o.dst (.agg #[c0, c1, c2])) w) : o.wp Try.prog a w K Q := by
  unfold Oper.wp execOp
  simp only [ho, hx]
  go_simp
  exact hK
theorem alloc_57 {w : World} {a : Act} {K : Act → World → Prop} {Q : Exit → Act → World → Prop} {o : Oper} (ho : o.op = .alloc 57) (hK : K (a.put o.dst (.pointer (some ⟨w.heap.size, 0, none⟩))) (w.alloc (.cells #[.int .i64 0, .int .i64 0, .slice none 0 0] 57))) : o.wp Try.prog a w K Q := by
  unfold Oper.wp execOp
  simp only [ho]
  go_simp
  exact hK
theorem st_57 {w : World} {a : Act} {K : Act → World → Prop} {Q : Exit → Act → World → Prop} {o : Oper} {x y : Operand} {g p : Nat} {ty : TypeId} {cs : Array Value} {c0 c1 c2 : Value} (ho : o.op = .store 57 x y) (hx : a.eval x = .pointer (some ⟨g, p, none⟩)) (hy : a.eval y = .agg #[c0, c1, c2]) (k0 : c0.oneCell' = true) (k1 : c1.oneCell' = true) (k2 : c2.oneCell' = true) (hB : Blk w g ty cs) (hp : p + 2 < cs.size) (hK : ∀ v, K (a.put o.dst v) (((w.setCell ⟨g, p, none⟩ c0).setCell ⟨g, p + 1, none⟩ c1).setCell ⟨g, p + 2, none⟩ c2)) : o.wp Try.prog a w K Q := by
  have h0 := (hB.cell (p)).trans (Array.getElem?_eq_getElem (by first | omega | (simp; omega)))
  have f0 := hB.frozen (p)
  have hB := hB.set_ (p) c0
  have h1 := (hB.cell (p + 1)).trans (Array.getElem?_eq_getElem (by first | omega | (simp; omega)))
  have f1 := hB.frozen (p + 1)
  have hB := hB.set_ (p + 1) c1
  have h2 := (hB.cell (p + 2)).trans (Array.getElem?_eq_getElem (by first | omega | (simp; omega)))
  have f2 := hB.frozen (p + 2)
  have s0 := fun w a m => run_store Try.prog w a c0 m k0
  have s1 := fun w a m => run_store Try.prog w a c1 m k1
  have s2 := fun w a m => run_store Try.prog w a c2 m k2
  clear hB
  unfold Oper.wp execOp
  simp only [ho, hx, hy]
  go_simp
  exact hK _
theorem build_37_ {w : World} {a : Act} {K : Act → World → Prop} {Q : Exit → Act → World → Prop} {o : Oper}   (ho : o.op = .build 37 #[])  (hK : K (a.put o.dst (.agg #[.slice none 0 0])) w) : o.wp Try.prog a w K Q := by
  unfold Oper.wp execOp
  simp only [ho, List.map_toArray, List.map_cons, List.map_nil, ]
  go_simp
  exact hK
theorem box_37 {w : World} {a : Act} {K : Act → World → Prop} {Q : Exit → Act → World → Prop} {o : Oper} {x : Operand} {c0 : Value} (ho : o.op = .box 37 x) (hx : a.eval x = .agg #[c0]) (hK : K (a.put o.dst (.pointer (some ⟨w.heap.size, 0, none⟩))) (w.alloc (.cells #[c0] 37))) : o.wp Try.prog a w K Q := by
  unfold Oper.wp execOp
  simp only [ho, hx]
  go_simp
  exact hK
theorem eql_4 {w : World} {a : Act} {K : Act → World → Prop} {Q : Exit → Act → World → Prop} {o : Oper} {x y : Operand} {m n : Bool} (ho : o.op = .binOp .eql 4 x y 4) (hx : a.eval x = .bool m) (hy : a.eval y = .bool n) (hK : K (a.put o.dst (.bool (m == n))) w) : o.wp Try.prog a w K Q := by
  unfold Oper.wp execOp
  simp only [ho, hx, hy]
  go_simp
  exact hK
theorem len_32 {w : World} {a : Act} {K : Act → World → Prop} {Q : Exit → Act → World → Prop} {o : Oper} {x : Operand} {r : Option Addr} {n c : Nat} (ho : o.op = .call { callee := .builtin .len, args := #[x], argTypes := #[32] }) (hx : a.eval x = .slice r n c) (hK : K (a.put o.dst (.int .i64 n)) w) : o.wp Try.prog a w K Q := by
  unfold Oper.wp execOp
  simp only [ho, resolve, List.map_toArray, List.map_cons, List.map_nil, hx]
  go_simp
  exact hK
theorem ix_32 {w : World} {a : Act} {K : Act → World → Prop} {Q : Exit → Act → World → Prop} {o : Oper} {x y : Operand} {r : Option Addr} {b p n c k : Nat} (ho : o.op = .indexAddr 32 x y) (hx : a.eval x = .slice r n c) (hr : r = some ⟨b, p, none⟩) (hy : a.eval y = .int .i64 (k : Int)) (hk : k < n) (hK : K (a.put o.dst (.pointer (some ⟨b, p + k * 12, none⟩))) w) : o.wp Try.prog a w K Q := by
  subst hr
  have h0 : (0 : Int) ≤ (k : Int) := by omega
  have h1 : (k : Int) < (n : Int) := by omega
  unfold Oper.wp execOp
  simp only [ho, hx, hy]
  go_simp
  exact hK
theorem ld_39 {w : World} {a : Act} {K : Act → World → Prop} {Q : Exit → Act → World → Prop} {o : Oper} {x : Operand} {b p : Nat} {c0 c1 c2 c3 c4 c5 c6 c7 c8 c9 c10 c11 : Value} (ho : o.op = .load 39 x) (hx : a.eval x = .pointer (some ⟨b, p, none⟩)) (h0 : w.cell? ⟨b, p, none⟩ = some c0) (h1 : w.cell? ⟨b, p + 1, none⟩ = some c1) (h2 : w.cell? ⟨b, p + 2, none⟩ = some c2) (h3 : w.cell? ⟨b, p + 3, none⟩ = some c3) (h4 : w.cell? ⟨b, p + 4, none⟩ = some c4) (h5 : w.cell? ⟨b, p + 5, none⟩ = some c5) (h6 : w.cell? ⟨b, p + 6, none⟩ = some c6) (h7 : w.cell? ⟨b, p + 7, none⟩ = some c7) (h8 : w.cell? ⟨b, p + 8, none⟩ = some c8) (h9 : w.cell? ⟨b, p + 9, none⟩ = some c9) (h10 : w.cell? ⟨b, p + 10, none⟩ = some c10) (h11 : w.cell? ⟨b, p + 11, none⟩ = some c11) (hK : K (a.put o.dst (.agg #[c0, c1, c2, c3, c4, c5, c6, c7, c8, c9, c10, c11])) w) : o.wp Try.prog a w K Q := by
  unfold Oper.wp execOp
  simp only [ho, hx]
  go_simp
  exact hK
theorem alloc_39 {w : World} {a : Act} {K : Act → World → Prop} {Q : Exit → Act → World → Prop} {o : Oper} (ho : o.op = .alloc 39) (hK : K (a.put o.dst (.pointer (some ⟨w.heap.size, 0, none⟩))) (w.alloc (.cells #[.int .i64 0, .int .i64 0, .slice none 0 0, .int .i64 0, .slice none 0 0, .int .i64 0, .slice none 0 0, .int .i64 0, .slice none 0 0, .bool false, .bool false, .int .i64 0] 39))) : o.wp Try.prog a w K Q := by
  unfold Oper.wp execOp
  simp only [ho]
  go_simp
  exact hK
theorem st_39 {w : World} {a : Act} {K : Act → World → Prop} {Q : Exit → Act → World → Prop} {o : Oper} {x y : Operand} {g p : Nat} {ty : TypeId} {cs : Array Value} {c0 c1 c2 c3 c4 c5 c6 c7 c8 c9 c10 c11 : Value} (ho : o.op = .store 39 x y) (hx : a.eval x = .pointer (some ⟨g, p, none⟩)) (hy : a.eval y = .agg #[c0, c1, c2, c3, c4, c5, c6, c7, c8, c9, c10, c11]) (k0 : c0.oneCell' = true) (k1 : c1.oneCell' = true) (k2 : c2.oneCell' = true) (k3 : c3.oneCell' = true) (k4 : c4.oneCell' = true) (k5 : c5.oneCell' = true) (k6 : c6.oneCell' = true) (k7 : c7.oneCell' = true) (k8 : c8.oneCell' = true) (k9 : c9.oneCell' = true) (k10 : c10.oneCell' = true) (k11 : c11.oneCell' = true) (hB : Blk w g ty cs) (hp : p + 11 < cs.size) (hK : ∀ v, K (a.put o.dst v) ((((((((((((w.setCell ⟨g, p, none⟩ c0).setCell ⟨g, p + 1, none⟩ c1).setCell ⟨g, p + 2, none⟩ c2).setCell ⟨g, p + 3, none⟩ c3).setCell ⟨g, p + 4, none⟩ c4).setCell ⟨g, p + 5, none⟩ c5).setCell ⟨g, p + 6, none⟩ c6).setCell ⟨g, p + 7, none⟩ c7).setCell ⟨g, p + 8, none⟩ c8).setCell ⟨g, p + 9, none⟩ c9).setCell ⟨g, p + 10, none⟩ c10).setCell ⟨g, p + 11, none⟩ c11)) : o.wp Try.prog a w K Q := by
  have h0 := (hB.cell (p)).trans (Array.getElem?_eq_getElem (by first | omega | (simp; omega)))
  have f0 := hB.frozen (p)
  have hB := hB.set_ (p) c0
  have h1 := (hB.cell (p + 1)).trans (Array.getElem?_eq_getElem (by first | omega | (simp; omega)))
  have f1 := hB.frozen (p + 1)
  have hB := hB.set_ (p + 1) c1
  have h2 := (hB.cell (p + 2)).trans (Array.getElem?_eq_getElem (by first | omega | (simp; omega)))
  have f2 := hB.frozen (p + 2)
  have hB := hB.set_ (p + 2) c2
  have h3 := (hB.cell (p + 3)).trans (Array.getElem?_eq_getElem (by first | omega | (simp; omega)))
  have f3 := hB.frozen (p + 3)
  have hB := hB.set_ (p + 3) c3
  have h4 := (hB.cell (p + 4)).trans (Array.getElem?_eq_getElem (by first | omega | (simp; omega)))
  have f4 := hB.frozen (p + 4)
  have hB := hB.set_ (p + 4) c4
  have h5 := (hB.cell (p + 5)).trans (Array.getElem?_eq_getElem (by first | omega | (simp; omega)))
  have f5 := hB.frozen (p + 5)
  have hB := hB.set_ (p + 5) c5
  have h6 := (hB.cell (p + 6)).trans (Array.getElem?_eq_getElem (by first | omega | (simp; omega)))
  have f6 := hB.frozen (p + 6)
  have hB := hB.set_ (p + 6) c6
  have h7 := (hB.cell (p + 7)).trans (Array.getElem?_eq_getElem (by first | omega | (simp; omega)))
  have f7 := hB.frozen (p + 7)
  have hB := hB.set_ (p + 7) c7
  have h8 := (hB.cell (p + 8)).trans (Array.getElem?_eq_getElem (by first | omega | (simp; omega)))
  have f8 := hB.frozen (p + 8)
  have hB := hB.set_ (p + 8) c8
  have h9 := (hB.cell (p + 9)).trans (Array.getElem?_eq_getElem (by first | omega | (simp; omega)))
  have f9 := hB.frozen (p + 9)
  have hB := hB.set_ (p + 9) c9
  have h10 := (hB.cell (p + 10)).trans (Array.getElem?_eq_getElem (by first | omega | (simp; omega)))
  have f10 := hB.frozen (p + 10)
  have hB := hB.set_ (p + 10) c10
  have h11 := (hB.cell (p + 11)).trans (Array.getElem?_eq_getElem (by first | omega | (simp; omega)))
  have f11 := hB.frozen (p + 11)
  have s0 := fun w a m => run_store Try.prog w a c0 m k0
  have s1 := fun w a m => run_store Try.prog w a c1 m k1
  have s2 := fun w a m => run_store Try.prog w a c2 m k2
  have s3 := fun w a m => run_store Try.prog w a c3 m k3
  have s4 := fun w a m => run_store Try.prog w a c4 m k4
  have s5 := fun w a m => run_store Try.prog w a c5 m k5
  have s6 := fun w a m => run_store Try.prog w a c6 m k6
  have s7 := fun w a m => run_store Try.prog w a c7 m k7
  have s8 := fun w a m => run_store Try.prog w a c8 m k8
  have s9 := fun w a m => run_store Try.prog w a c9 m k9
  have s10 := fun w a m => run_store Try.prog w a c10 m k10
  have s11 := fun w a m => run_store Try.prog w a c11 m k11
  clear hB
  unfold Oper.wp execOp
  simp only [ho, hx, hy]
  go_simp
  exact hK _
theorem fld_39_5 {w : World} {a : Act} {K : Act → World → Prop} {Q : Exit → Act → World → Prop} {o : Oper} {x : Operand} {b p : Nat} (ho : o.op = .fieldAddr 39 x 5) (hx : a.eval x = .pointer (some ⟨b, p, none⟩)) (hK : K (a.put o.dst (.pointer (some ⟨b, p + 9, none⟩))) w) : o.wp Try.prog a w K Q := by
  unfold Oper.wp execOp
  simp only [ho, hx]
  go_simp
  exact hK
theorem fld_39_1 {w : World} {a : Act} {K : Act → World → Prop} {Q : Exit → Act → World → Prop} {o : Oper} {x : Operand} {b p : Nat} (ho : o.op = .fieldAddr 39 x 1) (hx : a.eval x = .pointer (some ⟨b, p, none⟩)) (hK : K (a.put o.dst (.pointer (some ⟨b, p + 1, none⟩))) w) : o.wp Try.prog a w K Q := by
  unfold Oper.wp execOp
  simp only [ho, hx]
  go_simp
  exact hK
theorem fld_39_3 {w : World} {a : Act} {K : Act → World → Prop} {Q : Exit → Act → World → Prop} {o : Oper} {x : Operand} {b p : Nat} (ho : o.op = .fieldAddr 39 x 3) (hx : a.eval x = .pointer (some ⟨b, p, none⟩)) (hK : K (a.put o.dst (.pointer (some ⟨b, p + 5, none⟩))) w) : o.wp Try.prog a w K Q := by
  unfold Oper.wp execOp
  simp only [ho, hx]
  go_simp
  exact hK
theorem fld_39_6 {w : World} {a : Act} {K : Act → World → Prop} {Q : Exit → Act → World → Prop} {o : Oper} {x : Operand} {b p : Nat} (ho : o.op = .fieldAddr 39 x 6) (hx : a.eval x = .pointer (some ⟨b, p, none⟩)) (hK : K (a.put o.dst (.pointer (some ⟨b, p + 10, none⟩))) w) : o.wp Try.prog a w K Q := by
  unfold Oper.wp execOp
  simp only [ho, hx]
  go_simp
  exact hK
theorem fld_39_2 {w : World} {a : Act} {K : Act → World → Prop} {Q : Exit → Act → World → Prop} {o : Oper} {x : Operand} {b p : Nat} (ho : o.op = .fieldAddr 39 x 2) (hx : a.eval x = .pointer (some ⟨b, p, none⟩)) (hK : K (a.put o.dst (.pointer (some ⟨b, p + 3, none⟩))) w) : o.wp Try.prog a w K Q := by
  unfold Oper.wp execOp
  simp only [ho, hx]
  go_simp
  exact hK
theorem fld_39_4 {w : World} {a : Act} {K : Act → World → Prop} {Q : Exit → Act → World → Prop} {o : Oper} {x : Operand} {b p : Nat} (ho : o.op = .fieldAddr 39 x 4) (hx : a.eval x = .pointer (some ⟨b, p, none⟩)) (hK : K (a.put o.dst (.pointer (some ⟨b, p + 7, none⟩))) w) : o.wp Try.prog a w K Q := by
  unfold Oper.wp execOp
  simp only [ho, hx]
  go_simp
  exact hK
theorem alloc_41 {w : World} {a : Act} {K : Act → World → Prop} {Q : Exit → Act → World → Prop} {o : Oper} (ho : o.op = .alloc 41) (hK : K (a.put o.dst (.pointer (some ⟨w.heap.size, 0, none⟩))) (w.alloc (.cells #[.bool false, .int .i64 0, .slice none 0 0, .int .i64 0, .slice none 0 0] 41))) : o.wp Try.prog a w K Q := by
  unfold Oper.wp execOp
  simp only [ho]
  go_simp
  exact hK
theorem fld_39_0 {w : World} {a : Act} {K : Act → World → Prop} {Q : Exit → Act → World → Prop} {o : Oper} {x : Operand} {b p : Nat} (ho : o.op = .fieldAddr 39 x 0) (hx : a.eval x = .pointer (some ⟨b, p, none⟩)) (hK : K (a.put o.dst (.pointer (some ⟨b, p, none⟩))) w) : o.wp Try.prog a w K Q := by
  unfold Oper.wp execOp
  simp only [ho, hx]
  go_simp
  exact hK
theorem fld_39_7 {w : World} {a : Act} {K : Act → World → Prop} {Q : Exit → Act → World → Prop} {o : Oper} {x : Operand} {b p : Nat} (ho : o.op = .fieldAddr 39 x 7) (hx : a.eval x = .pointer (some ⟨b, p, none⟩)) (hK : K (a.put o.dst (.pointer (some ⟨b, p + 11, none⟩))) w) : o.wp Try.prog a w K Q := by
  unfold Oper.wp execOp
  simp only [ho, hx]
  go_simp
  exact hK
theorem build_41_1 {w : World} {a : Act} {K : Act → World → Prop} {Q : Exit → Act → World → Prop} {o : Oper} {x0 : Operand} {c1 c2 : Value} (ho : o.op = .build 41 #[(1, x0)]) (h0 : a.eval x0 = .agg #[c1, c2]) (hK : K (a.put o.dst (.agg #[.bool false, c1, c2, .int .i64 0, .slice none 0 0])) w) : o.wp Try.prog a w K Q := by
  unfold Oper.wp execOp
  simp only [ho, List.map_toArray, List.map_cons, List.map_nil, h0]
  go_simp
  exact hK
theorem row_22_2 {w : World} {a : Act} {K : Act → World → Prop} {Q : Exit → Act → World → Prop} {o : Oper} {x0 x1 : Operand} {c0 c1 : Value} {c2 c3 : Value} (ho : o.op = .buildSlice 22 2 #[(0, x0), (1, x1)]) (h0 : a.eval x0 = .agg #[c0, c1]) (h1 : a.eval x1 = .agg #[c2, c3]) (hK : K (a.put o.dst (.slice (some ⟨w.heap.size, 0, none⟩) 2 2)) (w.alloc (.cells #[c0, c1, c2, c3] 24))) : o.wp Try.prog a w K Q := by
  unfold Oper.wp execOp
  simp only [ho, List.map_toArray, List.map_cons, List.map_nil, h0, h1]
  go_simp
  exact hK
theorem build_24_0_1 {w : World} {a : Act} {K : Act → World → Prop} {Q : Exit → Act → World → Prop} {o : Oper} {x0 x1 : Operand} {c0 : Int} {c1a : Option Addr} {c1n c1c : Nat} (ho : o.op = .build 24 #[(0, x0), (1, x1)]) (h0 : a.eval x0 = .int .i64 c0) (h1 : a.eval x1 = .slice c1a c1n c1c) (hK : K (a.put o.dst (.agg #[.int .i64 c0, .slice c1a c1n c1c])) w) : o.wp Try.prog a w K Q := by
  unfold Oper.wp execOp
  simp only [ho, List.map_toArray, List.map_cons, List.map_nil, h0, h1]
  go_simp
  exact hK
theorem box_57 {w : World} {a : Act} {K : Act → World → Prop} {Q : Exit → Act → World → Prop} {o : Oper} {x : Operand} {c0 c1 c2 : Value} (ho : o.op = .box 57 x) (hx : a.eval x = .agg #[c0, c1, c2]) (hK : K (a.put o.dst (.pointer (some ⟨w.heap.size, 0, none⟩))) (w.alloc (.cells #[c0, c1, c2] 57))) : o.wp Try.prog a w K Q := by
  unfold Oper.wp execOp
  simp only [ho, hx]
  go_simp
  exact hK

end Go.Proofs.Ytcmfjnadjddboaa
