/- The kinds of operations of a region whose operations make terms. -/
import Derived.Test.YtjkpecjlpgcalaaRel
import Derived.Test.YtjkpecjlpgcalaaOrd
import Derived.WalkKit
namespace Go.Proofs.Ytjkpecjlpgcalaa
open Go.RowKit Go

/-- What is known of an operation's value. -/
inductive Spec where
  | any
  | val (v : Value)
  | term (t : T)
  | terms (l : List T)
  | order (o : Od)

def Spec.holds : Spec → Value → World → Prop
  | .any, _, _ => True
  | .val x, v, _ => v = x
  | .term t, v, w => IsT w t v
  | .terms l, v, w => ∃ (a : Option Addr) (c : Nat), v = .slice a l.length c ∧ l.length ≤ c ∧ c ≤ maxLen ∧ IsTs w l a 0
  | .order o, v, w => IsOd w o v

theorem Spec.keep (s : Spec) {v : Value} {w w' : World} (h : s.holds v w) (hb : Below w.heap.size w w') : s.holds v w' := by
  cases s with
  | any => trivial
  | val x => exact h
  | term t => exact IsT.below hb h
  | terms l => obtain ⟨a, c, h1, h2, h3, h4⟩ := h; exact ⟨a, c, h1, h2, h3, h4.below hb⟩
  | order o => exact IsOd.below hb h

def specR (l : List Spec) (i : Nat) : Value → World → Prop := (l.getD i .any).holds

section
variable {w : World} {a : Act} {K : Act → World → Prop} {Q : Exit → Act → World → Prop} {o : Oper}

def callB (P : Program) (F : FuncId) : Bool := match P.funcs[F]? with | some fn => !(fn.name == "runtime.NumGoroutine") && !fn.body.isNone | none => false

theorem wp_call {P : Program} {F : FuncId} {xs : Array Operand} {tys : Array TypeId} {vs : Array Value} {R : Value → World → Prop} (hF : callB P F = true) (ho : o.op = .call { callee := .value (.func F), args := xs, argTypes := tys }) (hv : xs.map a.eval = vs)
    (h : Calls P F vs w fun e w' => ∃ v, e = .returned v ∧ R v w') (hK : ∀ v w', R v w' → K (a.put o.dst v) w') : o.wp P a w K Q := by
  unfold callB at hF
  split at hF
  · rename_i fn hfn
    simp only [Bool.and_eq_true, Bool.not_eq_true'] at hF
    have hp : (Sem.run P program w) = .ok P w := rfl
    unfold Oper.wp execOp
    simp only [ho, resolve, hv, Act.eval, Deferred.ofValue, invoke, callFunc, Sem.run_bind, Sem.run_pure, Result.andThen_ok, Array.empty_append, Array.append_empty, hp, hfn, hF.1, hF.2, Bool.false_eq_true, if_false]
    refine h.mono ?_
    rintro e w' ⟨v, rfl, hR⟩
    exact hK v w' hR
  · simp at hF

theorem wp_load4 {x : Operand} {b : Nat} {x0 x1 x2 x3 : Value} (ho : o.op = .load 24 x) (hx : a.eval x = .pointer (some ⟨b, 0, none⟩)) (hB : Box w b [x0, x1, x2, x3]) (hK : K (a.put o.dst (.agg #[x0, x1, x2, x3])) w) : o.wp Try.prog a w K Q := by
  obtain ⟨h0, h1, h2, h3⟩ := hB.four
  unfold Oper.wp execOp
  simp only [ho, hx]
  go_simp
  exact hK

theorem wp_load2 {x : Operand} {b : Nat} {x0 x1 : Value} (ho : o.op = .load 27 x) (hx : a.eval x = .pointer (some ⟨b, 0, none⟩)) (hB : Box w b [x0, x1]) (hK : K (a.put o.dst (.agg #[x0, x1])) w) : o.wp Try.prog a w K Q := by
  obtain ⟨h0, h1⟩ := hB.two
  unfold Oper.wp execOp
  simp only [ho, hx]
  go_simp
  exact hK

theorem terms1 {t : T} {u v : Value} (hu : IsT w t (.agg #[u, v])) : Below w.heap.size w (w.alloc (.cells #[u, v] 27)) ∧ (Spec.terms [t]).holds (.slice (some ⟨w.heap.size, 0, none⟩) 1 1) (w.alloc (.cells #[u, v] 27)) := by
  have hb := balloc w (.cells #[u, v] 27)
  exact ⟨hb, _, _, rfl, Nat.le_refl _, by unfold maxLen; simp, ⟨⟨_, 0, _, _, rfl, by simp, by simp, hu.below hb⟩, trivial⟩⟩

theorem terms2 {t s : T} {u v x y : Value} (hu : IsT w t (.agg #[u, v])) (hx : IsT w s (.agg #[x, y])) : Below w.heap.size w (w.alloc (.cells #[u, v, x, y] 27)) ∧ (Spec.terms [t, s]).holds (.slice (some ⟨w.heap.size, 0, none⟩) 2 2) (w.alloc (.cells #[u, v, x, y] 27)) := by
  have hb := balloc w (.cells #[u, v, x, y] 27)
  exact ⟨hb, _, _, rfl, Nat.le_refl _, by unfold maxLen; simp, ⟨⟨_, 0, _, _, rfl, by simp, by simp, hu.below hb⟩, ⟨_, 0, _, _, rfl, by simp, by simp, hx.below hb⟩, trivial⟩⟩

theorem wp_row1 {x : Operand} {t : T} {u : Value} (ho : o.op = .buildSlice 25 1 #[(0, x)]) (hx : a.eval x = u) (hu : IsT w t u) (hK : ∀ v w', Below w.heap.size w w' ∧ (Spec.terms [t]).holds v w' → K (a.put o.dst v) w') : o.wp Try.prog a w K Q := by
  obtain ⟨_, a1, c1, rfl, _, _, _⟩ := id hu.form
  unfold Oper.wp execOp
  simp only [ho, hx, List.map_toArray, List.map_cons, List.map_nil]
  go_simp
  exact hK _ _ (terms1 hu)

theorem wp_row2 {x y : Operand} {t s : T} {u v : Value} (ho : o.op = .buildSlice 25 2 #[(0, x), (1, y)]) (hx : a.eval x = u) (hy : a.eval y = v) (hu : IsT w t u) (hv : IsT w s v) (hK : ∀ v w', Below w.heap.size w w' ∧ (Spec.terms [t, s]).holds v w' → K (a.put o.dst v) w') : o.wp Try.prog a w K Q := by
  obtain ⟨_, a1, c1, rfl, _, _, _⟩ := id hu.form
  obtain ⟨_, a2, c2, rfl, _, _, _⟩ := id hv.form
  unfold Oper.wp execOp
  simp only [ho, hx, hy, List.map_toArray, List.map_cons, List.map_nil]
  go_simp
  exact hK _ _ (terms2 hu hv)

theorem wp_eql {x : Operand} {k : Int} {ty : TypeId} (ho : o.op = .binOp .eql ty x (.const (.int .i64 k)) ty) (hx : a.eval x = .int .i64 k) (hK : K (a.put o.dst (.bool true)) w) : o.wp Try.prog a w K Q := by
  have hc : a.eval (.const (.int .i64 k)) = .int .i64 k := rfl
  unfold Oper.wp execOp
  simp only [ho, hx, hc]
  go_simp
  exact hK

theorem wp_eqi {x y : Operand} {m n : Int} {b : Bool} {ty : TypeId} (ho : o.op = .binOp .eql ty x y ty) (hx : a.eval x = .int .i64 m) (hy : a.eval y = .int .i64 n) (hb : (m == n) = b) (hK : K (a.put o.dst (.bool b)) w) : o.wp Try.prog a w K Q := by
  subst hb
  unfold Oper.wp execOp
  simp only [ho, hx, hy]
  go_simp
  exact hK

theorem wp_eqb {x y : Operand} {m n b : Bool} (ho : o.op = .binOp .eql 4 x y 4) (hx : a.eval x = .bool m) (hy : a.eval y = .bool n) (hb : (m == n) = b) (hK : K (a.put o.dst (.bool b)) w) : o.wp Try.prog a w K Q := by
  subst hb
  unfold Oper.wp execOp
  simp only [ho, hx, hy]
  go_simp
  exact hK

theorem wp_move {P : Program} {x : Operand} {v : Value} (ho : o.op = .move x) (hx : a.eval x = v) (hK : K (a.put o.dst v) w) : o.wp P a w K Q := by
  unfold Oper.wp execOp
  simp only [ho, hx]
  exact hK
theorem wp_assign {P : Program} {x : Operand} {v : Value} (ho : o.op = .assign x) (hx : a.eval x = v) (hK : K (a.put o.dst v) w) : o.wp P a w K Q := by
  unfold Oper.wp execOp
  simp only [ho, hx]
  exact hK
theorem wp_pick {P : Program} {x y z : Operand} {v : Value} (ho : o.op = .pick x y z) (hx : a.eval x = .bool true) (hy : a.eval y = v) (hK : K (a.put o.dst v) w) : o.wp P a w K Q := by
  unfold Oper.wp execOp
  simp only [ho, hx, hy]
  exact hK

theorem hv0 {g : Operand → Value} : #[].map g = #[] := by simp
theorem hv2 {g : Operand → Value} {x y : Operand} {u v : Value} (h1 : g x = u) (h2 : g y = v) : #[x, y].map g = #[u, v] := by simp [h1, h2]
theorem hv3 {g : Operand → Value} {x y z : Operand} {u v r : Value} (h1 : g x = u) (h2 : g y = v) (h3 : g z = r) : #[x, y, z].map g = #[u, v, r] := by simp [h1, h2, h3]

theorem fin_first {ds : List Nat} (u : Nat → Value) {x v : Value} {l r : List Value} (h : ds.contains 0 = true) (hu : u 0 = v) (hl : l = x :: r) : ∃ r', fin ds u 0 l = v :: r' := by
  subst hl hu
  exact ⟨_, by rw [fin, if_pos h]⟩

theorem fin_slot {ds : List Nat} (u : Nat → Value) {l : List Value} {j : Nat} {v : Value} (h : ds.contains j = true) (hj : Nat.blt j l.length = true) (hu : u j = v) : (fin ds u 0 l)[j]? = some v := by
  rw [fin_at _ _ _ _ _ (by simpa [Nat.blt_eq] using hj), Nat.zero_add, if_pos h, hu]

theorem spec_of {P : Program} {F : FuncId} {vs : Array Value} {v : Value} (h : Calls P F vs w fun e w' => e = .returned v ∧ Below w.heap.size w w') :
    Calls P F vs w fun e w' => ∃ v', e = .returned v' ∧ (Below w.heap.size w w' ∧ (Spec.val v).holds v' w') :=
  h.mono (by rintro e w' ⟨rfl, hb⟩; exact ⟨_, rfl, hb, rfl⟩)

theorem rel_eval {f : Nat → Value} {n d : Nat} {df : List Deferred} (h : Nat.blt d n = true) : Act.eval ⟨((List.range n).map f).toArray, df⟩ (.tmp d) = f d := by
  have : d < n := by simpa [Nat.blt_eq] using h
  simp [Act.eval, this]

end
end Go.Proofs.Ytjkpecjlpgcalaa
