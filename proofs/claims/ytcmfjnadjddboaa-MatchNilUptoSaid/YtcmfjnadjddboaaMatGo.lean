/- A call through an interface; literals under a matcher: plain. -/
import Derived.Test.YtcmfjnadjddboaaMatTermWalk
namespace Go.Proofs.Ytcmfjnadjddboaa
open Go.RowKit Go

/-- A call of a method whose receiver's type is known. -/
theorem wp_invk {P : Program} {w : World} {a : Act} {K : Act → World → Prop} {Q : Exit → Act → World → Prop} {o : Oper} {F : FuncId} {x : Operand} {name : String} {xs : Array Operand} {tys : Array TypeId} {vs : Array Value} {R : Value → World → Prop} {t : TypeId} {v : Value} (hF : callB P F = true)
    (hm : (method (P.types.size + Made.depth) t v name).run P w = .ok (F, v) w) (ho : o.op = .call { callee := .invoke x name, args := xs, argTypes := tys }) (hx : a.eval x = .iface t v) (hv : xs.map a.eval = vs)
    (h : Calls P F (#[v] ++ vs) w fun e w' => ∃ v, e = .returned v ∧ R v w') (hK : ∀ v w', R v w' → K (a.put o.dst v) w') : o.wp P a w K Q := by
  unfold callB at hF
  split at hF
  · rename_i fn hfn
    simp only [Bool.and_eq_true, Bool.not_eq_true'] at hF
    have hp : (Sem.run P program w) = .ok P w := rfl
    have e1 : (#[Value.iface t v] ++ vs)[0]? = some (.iface t v) := by rw [Array.getElem?_append_left (show 0 < 1 from Nat.zero_lt_one)]; rfl
    have e2 : (#[Value.iface t v] ++ vs).extract 1 (#[Value.iface t v] ++ vs).size = vs := by
      apply Array.ext'
      rw [Array.toList_extract]
      simp
      exact List.take_of_length_le (by simp)
    unfold Oper.wp execOp
    simp only [ho, resolve, hv, hx, invoke, callMethod, callFunc, Sem.run_bind, Sem.run_pure, Result.andThen_ok, hp, hfn, hF.1, hF.2, Bool.false_eq_true, if_false, e1, e2, hm]
    refine h.mono ?_
    rintro e w' ⟨v, rfl, hR⟩
    exact hK v w' hR
  · simp at hF

/-- A matcher that has gone on since 'w0': what it has changed and what its own is lies in 'C' or is new. -/
def Since (w0 : World) (C : Nat → Prop) : Nat → Prop := fun b => C b ∨ w0.heap.size ≤ b
def MatGo (w0 : World) (C : Nat → Prop) (g : Nat) (st : List Bd) (w : World) : Prop := (∃ C', MatAt w g st C' ∧ ∀ b, C' b → Since w0 C b) ∧ w0.heap.size ≤ w.heap.size
section
variable {w0 w w' : World} {g : Nat} {st st' : List Bd} {C S : Nat → Prop}
theorem MatGo.start (h : MatAt w g st C) : MatGo w C g st w := ⟨⟨C, h, fun _ => .inl⟩, Nat.le_refl _⟩
theorem MatGo.below (h : MatGo w0 C g st w) (hb : Below w.heap.size w w') : MatGo w0 C g st w' := by
  obtain ⟨⟨C', h, h1⟩, h2⟩ := h
  exact ⟨⟨C', h.below hb, h1⟩, Nat.le_trans h2 hb.size⟩
set_option linter.unusedVariables false in
theorem go_of {F : FuncId} {xs : Array Value} {r : Value} (h : MatGo w0 C g st w) (hany : ∀ C', MatAt w g st C' → (∀ b, C' b → Since w0 C b) → Calls Try.prog F xs w (Ret fun v' w' => (∃ C'', v' = r ∧ MatAt w' g st' C'' ∧ ∀ b, C'' b → C' b ∨ w.heap.size ≤ b) ∧ Chg C' w w')) :
    Calls Try.prog F xs w (Ret fun v' w' => (v' = r ∧ MatGo w0 C g st' w') ∧ Chg (Since w0 C) w w') := by
  obtain ⟨⟨C', h, h1⟩, h2⟩ := h
  refine (hany C' h h1).mono ?_
  rintro e w' ⟨v, rfl, ⟨C'', rfl, h3, h4⟩, h5⟩
  refine ⟨_, rfl, ⟨rfl, ⟨C'', h3, fun b q => ?_⟩, Nat.le_trans h2 h5.size⟩, h5.mono h1⟩
  rcases h4 b q with q | q
  · exact h1 b q
  · exact .inr (Nat.le_trans h2 q)
theorem term_go {A : Nat → Prop} (p t : T) {u v : Value} (h : MatGo w0 C g st w) (hp : InT A w p u) (ht : IsT w t v) (hA : ∀ b, A b → ¬ Since w0 C b) (hzp : p.size ≤ 4294967296) (hzt : t.size ≤ 4294967296) (hn : st.length + p.size ≤ 1099511627776) :
    Calls Try.prog 15 #[.pointer (some ⟨g, 0, none⟩), u, v] w (Ret fun v' w' => (v' = .bool (mOk p t st) ∧ MatGo w0 C g (mTo p t st) w') ∧ Chg (Since w0 C) w w') :=
  go_of h fun C' h' h1 => term_any p t w u v h' hp ht (fun b q q2 => hA b q (h1 b q2)) hzp hzt hn
theorem back_go (m : Int) (h : MatGo w0 C g st w) : Calls Try.prog 19 #[.pointer (some ⟨g, 0, none⟩), .int .i64 m] w (Ret fun _ w' => MatGo w0 C g (backTo st m) w' ∧ Chg (Since w0 C) w w') := by
  obtain ⟨⟨C', h, h1⟩, h2⟩ := h
  refine (back_any m w h).mono ?_
  rintro e w' ⟨v, rfl, h3, h4⟩
  exact ⟨_, rfl, ⟨⟨C', h3, h1⟩, Nat.le_trans h2 h4.size⟩, h4.mono h1⟩
theorem mark_go (h : MatGo w0 C g st w) : Calls Try.prog 21 #[.pointer (some ⟨g, 0, none⟩)] w (Ret fun v' w' => v' = .int .i64 (st.length : Nat) ∧ Below w.heap.size w w') := by
  obtain ⟨⟨C', h, _⟩, _⟩ := h
  exact mark_any w h
end
/-- Literals. -/
def Li.turn (x : Li) (b : Bool) : Li := if b = true then ⟨x.neg, x.r, x.l⟩ else x
def lOk (p l : Li) (b : Bool) (st : List Bd) : Bool := decide (p.neg = l.neg) && decide (p.atom = l.atom) && mOk p.l (l.turn b).l st && mOk p.r (l.turn b).r (mTo p.l (l.turn b).l st)
def lTo (p l : Li) (b : Bool) (st : List Bd) : List Bd := if lOk p l b st = true then mTo p.r (l.turn b).r (mTo p.l (l.turn b).l st) else st
theorem mTo_no {p t : T} {st : List Bd} (h : ¬ mOk p t st = true) : mTo p t st = st := by
  unfold mOk at h; unfold mTo
  split
  · rename_i q
    rw [q, Bool.true_and, Option.isSome_iff_ne_none, Classical.not_not] at h
    rw [h]; rfl
  · rfl
mutual
theorem T.mt_pre : ∀ (p : T) (st : List Bd) (t : T) (s : List Bd), p.mt st t = some s → ∃ q, s = st ++ q ∧ q.length ≤ p.size
  | .mk f l, st, t, s, h => by
    rw [T.mt] at h
    split at h
    · split at h
      · cases h; exact ⟨_, rfl, by rw [T.size]; simp⟩
      · split at h
        · cases h; exact ⟨[], by simp, Nat.zero_le _⟩
        · cases h
    · split at h
      · obtain ⟨q, e, hq⟩ := T.mtL_pre l st t.args s h
        exact ⟨q, e, by rw [T.size]; omega⟩
      · cases h
theorem T.mtL_pre : ∀ (l : List T) (st : List Bd) (ts : List T) (s : List Bd), T.mtL l st ts = some s → ∃ q, s = st ++ q ∧ q.length ≤ T.sizeL l
  | [], st, _, s, h => by rw [T.mtL] at h; cases h; exact ⟨[], by simp, Nat.zero_le _⟩
  | _ :: _, st, [], s, h => by rw [T.mtL] at h; cases h; exact ⟨[], by simp, Nat.zero_le _⟩
  | p :: ps, st, t :: ts, s, h => by
    rw [T.mtL] at h
    split at h
    · cases h
    · rename_i s1 h1
      obtain ⟨q1, rfl, k1⟩ := T.mt_pre p st t s1 h1
      obtain ⟨q2, e, k2⟩ := T.mtL_pre ps _ ts s h
      exact ⟨q1 ++ q2, by rw [e, List.append_assoc], by rw [T.sizeL, List.length_append]; omega⟩
end
theorem mTo_pre (p t : T) (st : List Bd) : ∃ q, mTo p t st = st ++ q ∧ q.length ≤ p.size := by
  unfold mTo
  split
  · cases h : p.mt st t with
    | none => exact ⟨[], by simp, Nat.zero_le _⟩
    | some s => exact T.mt_pre p st t s h
  · exact ⟨[], by simp, Nat.zero_le _⟩
theorem mTo_take (p t : T) (st : List Bd) : st.length ≤ (mTo p t st).length ∧ (mTo p t st).length ≤ st.length + p.size ∧ (mTo p t st).take st.length = st := by
  obtain ⟨q, e, h⟩ := mTo_pre p t st
  rw [e]; simp [h]
theorem lOk_no1 {p l : Li} {b : Bool} {st : List Bd} (h : ¬ (p.neg = l.neg ∧ p.atom = l.atom)) : lOk p l b st = false ∧ lTo p l b st = st := by
  have : lOk p l b st = false := by unfold lOk; rw [Bool.eq_false_iff]; intro e; simp at e; exact h ⟨e.1.1.1, e.1.1.2⟩
  exact ⟨this, by unfold lTo; rw [this]; rfl⟩
theorem lOk_no2 {p l : Li} {b : Bool} {st : List Bd} (h : ¬ mOk p.l (l.turn b).l st = true) : lOk p l b st = false ∧ lTo p l b st = st := by
  have : lOk p l b st = false := by unfold lOk; rw [Bool.eq_false_iff]; intro e; simp at e; exact h e.1.2
  exact ⟨this, by unfold lTo; rw [this]; rfl⟩
theorem lOk_no3 {p l : Li} {b : Bool} {st : List Bd} (h : ¬ mOk p.r (l.turn b).r (mTo p.l (l.turn b).l st) = true) : lOk p l b st = false ∧ lTo p l b st = st := by
  have : lOk p l b st = false := by unfold lOk; rw [Bool.eq_false_iff]; intro e; simp at e; exact h e.2
  exact ⟨this, by unfold lTo; rw [this]; rfl⟩
theorem lOk_yes {p l : Li} {b : Bool} {st : List Bd} (h : p.neg = l.neg ∧ p.atom = l.atom) (h1 : mOk p.l (l.turn b).l st = true) (h2 : mOk p.r (l.turn b).r (mTo p.l (l.turn b).l st) = true) : lOk p l b st = true ∧ lTo p l b st = mTo p.r (l.turn b).r (mTo p.l (l.turn b).l st) := by
  have : lOk p l b st = true := by unfold lOk; simp [h, h1, h2]
  exact ⟨this, by unfold lTo; rw [this]; rfl⟩
/-- What was done, by what was done since a later point. -/
theorem MatGo.done {w w1 w' : World} {g : Nat} {st : List Bd} {C : Nat → Prop} (h : MatGo w1 C g st w') (hb : w.heap.size ≤ w1.heap.size) : ∃ C', MatAt w' g st C' ∧ ∀ b, C' b → C b ∨ w.heap.size ≤ b := by
  obtain ⟨⟨C', h, h1⟩, _⟩ := h
  exact ⟨C', h, fun b q => (h1 b q).imp id (fun q => Nat.le_trans hb q)⟩
theorem chg_since {w w1 w' : World} {C : Nat → Prop} (hb : Below w.heap.size w w1) (hc : Chg (Since w1 C) w1 w') : Chg C w w' := (Chg.refl C w).trans2 (.ofBelow (S := fun _ => False) hb) (fun _ _ q => q.elim) |>.trans2 hc (fun b hl q => q.elim id (fun q => by have := hb.size; omega))

end Go.Proofs.Ytcmfjnadjddboaa
