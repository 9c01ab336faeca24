/- How code is walked: what is known of a frame, slot by slot; a region in whatever order its edges allow. -/
import Derived.Test.YtnblndmjjokepaaBase
import Derived.Deep.Quiet
import Derived.RangeFuncNested
import Derived.RangeFuncLeaves
import Derived.OrdersIn
import Derived.TacticsIn
namespace Go.Proofs.Ytnblndmjjokepaa
open Go.RowKit Go

/-- Where code is walked: in a function's own frame, or in a round of a loop over a function. -/
def fen : Option Nat → Fence
  | none => Fence.wide
  | some l => Fence.wide.inRound l
theorem fen_fn (r : Option Nat) (f : FuncId) : (fen r).fn f := by cases r <;> exact trivial
theorem fen_round (r : Option Nat) : (fen r).round = r := by cases r <;> rfl
theorem fen_depth (r : Option Nat) : (fen r).depth = none := by cases r <;> rfl
theorem fen_room (r : Option Nat) (n : Nat) : (fen r).room n := fun d h => by rw [fen_depth] at h; cases h
/-- A frame: its slots, the marks on its deferred calls, the round that it is in. -/
structure Fr where
  n : Nat
  ds : List Deferred
  r : Option Nat

section
variable {P : Program}
theorem comesIn_fen {r : Option Nat} {m m' : Machine} {e : Ending} (h : Comes P m m' e) : ComesIn (Machine.fenced P (fen r)) P m m' e := by
  cases r with
  | none => exact comesIn_wide.2 h
  | some l => exact (comesIn_wide (P := P)).2 h
theorem callsIn_fen {r : Option Nat} {n : Nat} {f : FuncId} {args : Array Value} {w : World} {R : Ending → World → Prop} (h : Calls P f args w R) : CallsIn (fen r) n P f args w R :=
  ⟨fen_fn r f, fun cs _ => let ⟨e, w', fr, q, s, x⟩ := h cs; ⟨e, w', fr, q, comesIn_fen s, x⟩⟩
theorem stepsIn_fen {r : Option Nat} {m m' : Machine} (h : Steps P m m') : StepsIn (Machine.fenced P (fen r)) P m m' := by
  cases r with
  | none => exact stepsIn_wide.2 h
  | some l => exact (stepsIn_wide (P := P)).2 h
theorem uponIn_of {r : Option Nat} {o : Oper} {a : Act} {K : Act → World → Prop} {Q : Exit → Act → World → Prop} {x : Result Next} (h : o.upon P a K Q x) : o.uponIn (fen r) 0 P a K Q x := by
  have hd : (fen r).depth.isSome = true → 1 ≤ 0 := fun e => by rw [fen_depth] at e; cases e
  cases x with
  | ok n w' =>
    cases n with
    | value v => exact h
    | skip => exact h
    | defer d => exact h
    | enter f args => exact ⟨hd, callsIn_fen h⟩
    | row row args => exact ⟨hd, fun c cs _ => let ⟨v, w2, q, s⟩ := h c cs; ⟨v, w2, q, stepsIn_fen s⟩⟩
    | _ => exact h.elim
  | halt y w' => cases y <;> first | exact h | exact h.elim
theorem wpIn_of {r : Option Nat} {o : Oper} {a : Act} {w : World} {K : Act → World → Prop} {Q : Exit → Act → World → Prop} (h : o.wp P a w K Q) (hK : ∀ a' w', K a' w' → a'.defers = a.defers) : o.wpIn (fen r) 0 P a w K Q := by
  refine ⟨fun f _ => fen_fn r f, ?_⟩
  rw [fen_round]
  unfold Oper.wp at h
  by_cases hd : ∃ c, o.op = .defer c
  · obtain ⟨c, hc⟩ := hd
    cases r with
    | none => exact uponIn_of h
    | some l =>
      unfold Oper.semAt
      unfold execOp at h
      simp only [hc, Sem.run_bind] at h ⊢
      generalize (resolve a.eval c o.type).run P w = x at h ⊢
      cases x with
      | ok d w' =>
        simp only [Result.andThen, Sem.run_pure, Oper.upon] at h
        have := congrArg List.length (hK _ _ h)
        cases ho : o.dst <;> simp [Act.put, ho] at this
      | halt y w' => cases y <;> first | exact h | exact h.elim
  · rw [Oper.semAt_eq _ _ _ (fun c hc => hd ⟨c, hc⟩)]
    exact uponIn_of h
theorem put_defers (a : Act) (d : Option Nat) (v : Value) : (Act.put a d v).defers = a.defers := by cases d <;> rfl
end

section
variable {P : Program} {ops : Array Oper}

def depB (ops : Array Oper) (o : Oper) (j d : Nat) : Bool := o.after.any (fun e => e.on == j && Region.binds .any e) && ((ops[j]?).bind (·.dst) == some d)
def dstsOf (ops : Array Oper) : List Nat := ops.toList.filterMap (·.dst)
def opsB (ops : Array Oper) (n : Nat) : Bool :=
  (List.range ops.size).all (fun i => match ops[i]? with
    | none => false
    | some o => o.after.all (fun e => Nat.blt e.on i || !Region.binds .any e) &&
      (match o.guard with | none => true | some (g, _) => o.after.any (fun e => e.on == g && Region.binds .any e) && ((ops[g]?).bind (·.dst)).isSome) &&
      (match o.dst with | none => true | some d => Nat.blt d n && (List.range ops.size).all fun j => i == j || !((ops[j]?).bind (·.dst) == some d)))

structure OpOk (ops : Array Oper) (n i : Nat) (o : Oper) : Prop where
  after : ∀ e ∈ o.after, Region.binds .any e = true → e.on < i
  guard : ∀ g b, o.guard = some (g, b) → (∃ e ∈ o.after, e.on = g ∧ Region.binds .any e = true) ∧ ∃ d, (ops[g]?).bind (·.dst) = some d
  lt : ∀ d, o.dst = some d → d < n
  own : ∀ d j, o.dst = some d → j < ops.size → (ops[j]?).bind (·.dst) = some d → i = j

theorem opsB_spec {n : Nat} (h : opsB ops n = true) {i : Nat} {o : Oper} (ho : ops[i]? = some o) : OpOk ops n i o := by
  have hi : i < ops.size := by
    rcases Nat.lt_or_ge i ops.size with h | h
    · exact h
    · simp [Array.getElem?_eq_none h] at ho
  have := List.all_eq_true.1 h i (by simpa using hi)
  simp only [ho, Bool.and_eq_true] at this
  obtain ⟨⟨h1, h2⟩, h3⟩ := this
  refine ⟨fun e he hbe => ?_, fun g b hg => ?_, fun d hd => ?_, fun d j hd hj hjd => ?_⟩
  · have := Array.all_eq_true_iff_forall_mem.1 h1 e he
    simpa [Nat.blt_eq, hbe] using this
  · rw [hg] at h2
    simp only [Bool.and_eq_true, Array.any_eq_true, Option.isSome_iff_exists, beq_iff_eq] at h2
    obtain ⟨⟨k, hk, h5, h6⟩, h7⟩ := h2
    exact ⟨⟨_, Array.getElem_mem hk, h5, h6⟩, h7⟩
  · rw [hd] at h3
    simp only [Bool.and_eq_true, Nat.blt_eq] at h3
    exact h3.1
  · rw [hd] at h3
    simp only [Bool.and_eq_true] at h3
    have := List.all_eq_true.1 h3.2 j (by simpa using hj)
    rw [hjd] at this
    simpa using this

theorem count_set {l : Array Bool} {i : Nat} (hi : i < l.size) (h : l.getD i true = false) {n : Nat} (hc : l.toList.count false ≤ n + 1) : (l.setIfInBounds i true).toList.count false ≤ n := by
  rw [Array.toList_setIfInBounds, List.count_set (by simpa using hi)]
  have : l.toList[i]'(by simpa using hi) = false := by simpa [Array.getD, hi] using h
  rw [this, if_pos (by rfl : (false == false) = true), if_neg (by decide : ¬ (true == false) = true)]
  omega

theorem count_zero {l : Array Bool} (hc : l.toList.count false ≤ 0) (i : Nat) : l.getD i true = true := by
  rcases Nat.lt_or_ge i l.size with h | h
  · have h0 : l.toList.count false = 0 := by omega
    have := (List.count_eq_zero (a := false)).1 h0
    have hm : l[i] ∈ l.toList := by simp
    simp only [Array.getD, h, dif_pos]
    cases hb : l[i] with
    | true => simpa using hb
    | false => rw [hb] at hm; exact absurd hm this
  · simp [Array.getD, Nat.not_lt.2 h]

theorem ready_nil {n : Nat} (hB : opsB ops n = true) {listed : Array Bool} (hs : listed.size = ops.size) (h : Region.ready .any ops listed = []) (i : Nat) (hi : i < ops.size) : listed.getD i true = true := by
  induction i using Nat.strongRecOn with
  | _ i ih =>
    cases hc : listed.getD i true with
    | true => rfl
    | false =>
      obtain ⟨o, ho⟩ : ∃ o, ops[i]? = some o := ⟨ops[i], by simp [hi]⟩
      have := mem_ready (md := .any) (ops := ops) (j := i) (listed := listed) |>.2 ⟨hc, o, ho, fun e he hbe => by
        have hl := (opsB_spec hB ho).after e he hbe
        have := ih e.on hl (by omega)
        simpa [Array.getD, show e.on < listed.size by omega] using this⟩
      rw [h] at this
      simp at this

theorem mem_dsts {i : Nat} {o : Oper} {d : Nat} (ho : ops[i]? = some o) (hd : o.dst = some d) : (dstsOf ops).contains d = true := by
  simp only [dstsOf, List.contains_iff_mem, List.mem_filterMap]
  exact ⟨o, by have := Array.mem_of_getElem? ho; simpa using this, hd⟩

/-- Whether the operation is wanted, by what is known of its guard. -/
inductive GuardIs (R : Nat → Value → World → Prop) (o : Oper) : Bool → Prop where
  | none (h : o.guard = none) : GuardIs R o true
  | yes {g : Nat} {c d : Bool} (h : o.guard = some (g, true)) (hv : ∀ v w, R g v w → (d = true → v = .bool c) ∧ (d = false → v = undef)) : GuardIs R o (d && c)
  | no {g : Nat} {c d : Bool} (h : o.guard = some (g, false)) (hv : ∀ v w, R g v w → (d = true → v = .bool c) ∧ (d = false → v = undef)) : GuardIs R o (d && !c)

theorem any_list {q : Option Nat} {n : Nat} (hB : opsB ops n = true) {Q : Exit → Act → World → Prop} : ∀ (l : List Oper) (k fuel : Nat) (listed : Array Bool) (a : Act) (w : World), (∀ j, l[j]? = ops[k + j]?) → listed.size = ops.size → (∀ j, j < ops.size → (listed.getD j true = true ↔ j < k)) → l.length ≤ fuel →
    wpAnyIn (fen q) 0 P .any ops Q fuel listed a w → wpListIn (fen q) 0 P ops Q l a w
  | [], k, fuel, listed, a, w, hl, hs, hk, _, h => by
    have hge : ops.size ≤ k := by
      have := hl 0
      simp only [List.getElem?_nil, Nat.add_zero] at this
      rcases Nat.lt_or_ge k ops.size with h | h
      · simp [h] at this
      · exact h
    have hr : Region.ready .any ops listed = [] := by
      cases hr : Region.ready .any ops listed with
      | nil => rfl
      | cons i r =>
        obtain ⟨h1, o, ho, _⟩ := (mem_ready (md := .any) (ops := ops) (j := i) (listed := listed)).1 (by rw [hr]; simp)
        have hi : i < ops.size := by
          rcases Nat.lt_or_ge i ops.size with h | h
          · exact h
          · simp [Array.getElem?_eq_none h] at ho
        rw [(hk i hi).2 (by omega)] at h1
        cases h1
    cases fuel with
    | zero => exact h.2
    | succ fuel => exact h.1 hr
  | o :: r, k, fuel, listed, a, w, hl, hs, hk, hf, h => by
    have ho : ops[k]? = some o := by simpa using (hl 0).symm
    have hkl : k < ops.size := by
      rcases Nat.lt_or_ge k ops.size with h | h
      · exact h
      · simp [Array.getElem?_eq_none h] at ho
    cases fuel with
    | zero => simp at hf
    | succ fuel =>
      have hready : k ∈ Region.ready .any ops listed := mem_ready.2 ⟨by
        cases hc : listed.getD k true with
        | false => rfl
        | true => exact absurd ((hk k hkl).1 hc) (by omega), o, ho, fun e he hbe => by
          have := (opsB_spec hB ho).after e he hbe
          have h2 := (hk e.on (by omega)).2 this
          simpa [Array.getD, show e.on < listed.size by omega] using h2⟩
      have h2 := h.2 k hready
      unfold wpOpIn at h2
      simp only [ho] at h2
      have ih := fun a w => any_list (q := q) hB (Q := Q) r (k + 1) fuel (listed.setIfInBounds k true) a w (fun j => by have := hl (j + 1); simpa [Nat.add_assoc, Nat.add_comm 1 j] using this) (by simpa using hs) (fun j hj => by
        by_cases hjk : j = k
        · subst hjk; simp [Array.getD, hs, hj]
        · rw [getD_set_ne true (Ne.symm hjk), hk j hj]; omega) (by simpa using hf)
      rw [wpListIn]
      split
      · rename_i hw
        rw [if_pos hw] at h2
        exact Oper.wpIn_mono (fun a w h => ih a w h) h2
      · rename_i hw
        rw [if_neg hw] at h2
        exact ⟨fun f _ => fen_fn q f, ih _ _ h2.2⟩
theorem any_start {q : Option Nat} {n : Nat} (hB : opsB ops n = true) {Q : Exit → Act → World → Prop} {id : Nat} {a : Act} {w : World} (h : wpAnyIn (fen q) 0 P .any ops Q ops.size (Array.replicate ops.size false) a w) : (Code.region id ops false).wpIn (fen q) 0 P Q a w :=
  wpIn_region_list (any_list hB ops.toList 0 ops.size _ a w (by simp) (by simp) (fun j hj => by simp [Array.getD, hj]) (by simp) h)

def afterB (ops : Array Oper) (c i : Nat) : Bool := match ops[c]? with | some o => o.after.any (fun e => e.on == i && Region.binds .any e) | none => false
/-- What must have come ahead of the operation 'c'. -/
def ancL (ops : Array Oper) (c : Nat) : List Nat := (List.range c).reverse.foldl (fun acc j => bif acc.any (fun m => afterB ops m j) then j :: acc else acc) [c]
theorem anc_listed {ops : Array Oper} {listed : Array Bool} (closed : ∀ i o, ops[i]? = some o → listed.getD i false = true → ∀ e ∈ o.after, Region.binds .any e = true → listed.getD e.on false = true) {c : Nat} (hc : listed.getD c false = true) : ∀ m ∈ ancL ops c, listed.getD m false = true := by
  have key : ∀ (js acc : List Nat), (∀ m ∈ acc, listed.getD m false = true) → ∀ m ∈ js.foldl (fun acc j => bif acc.any (fun m => afterB ops m j) then j :: acc else acc) acc, listed.getD m false = true := by
    intro js
    induction js with
    | nil => exact fun acc h => h
    | cons j r ih =>
      intro acc h
      refine ih _ ?_
      show ∀ m ∈ (bif acc.any (fun m => afterB ops m j) then j :: acc else acc), listed.getD m false = true
      cases hb : acc.any (fun m => afterB ops m j) with
      | false => exact h
      | true =>
        intro m hm
        rw [cond_true] at hm
        rcases List.mem_cons.1 hm with rfl | hm
        · obtain ⟨k, hk, ha⟩ := List.any_eq_true.1 hb
          unfold afterB at ha
          split at ha
          · rename_i o ho
            simp only [Array.any_eq_true, Bool.and_eq_true, beq_iff_eq] at ha
            obtain ⟨q, hq, h1, h2⟩ := ha
            have := closed k o ho (h k hk) _ (Array.getElem_mem hq) h2
            rwa [h1] at this
          · cases ha
        · exact h m hm
  exact key _ _ (by intro m hm; rw [List.mem_singleton.1 hm]; exact hc)
theorem getD_false_of {l : Array Bool} {i : Nat} (h : l.getD i true = false) : l.getD i false = false := by
  by_cases hi : i < l.size
  · simpa [Array.getD, hi] using h
  · simp [Array.getD, hi]

theorem getD_set_eq {l : Array Bool} {i : Nat} (h : i < l.size) : (l.setIfInBounds i true).getD i false = true := by simp [Array.getD, h]

end

inductive Sp where
  | val (x : Value)
  | mem (p : Value → World → Prop) (h : ∀ v w w', Below w.heap.size w w' → p v w → p v w')

def Sp.holds : Sp → Value → World → Prop
  | .val x, v, _ => v = x
  | .mem p _, v, w => p v w

def optR (l : List (Bool × Sp)) (i : Nat) (v : Value) (w : World) : Prop := ((l.getD i (true, .val undef)).1 = true → (l.getD i (true, .val undef)).2.holds v w) ∧ ((l.getD i (true, .val undef)).1 = false → v = undef)

theorem optKeep (l : List (Bool × Sp)) (i : Nat) (v : Value) (w w' : World) (h : optR l i v w) (hb : Below w.heap.size w w') : optR l i v w' := by
  refine ⟨fun e => ?_, h.2⟩
  have := h.1 e
  generalize (l.getD i (true, .val undef)).2 = s at *
  cases s with
  | val x => exact this
  | mem p hp => exact hp _ _ _ hb this

theorem optVal {l : List (Bool × Sp)} {i : Nat} {v x : Value} {w : World} {β : Bool} (h : optR l i v w) (e : l.getD i (true, .val undef) = (β, .val x)) (hβ : β = true) : v = x := by
  have := h.1 (by rw [e]; exact hβ)
  rw [e] at this
  exact this
theorem optMem {l : List (Bool × Sp)} {i : Nat} {v : Value} {w : World} {β : Bool} {p : Value → World → Prop} {hp : ∀ v w w', Below w.heap.size w w' → p v w → p v w'} (h : optR l i v w) (e : l.getD i (true, .val undef) = (β, .mem p hp)) (hβ : β = true) : p v w := by
  have := h.1 (by rw [e]; exact hβ)
  rw [e] at this
  exact this
theorem hv1 {g : Operand → Value} {x : Operand} {u : Value} (h1 : g x = u) : #[x].map g = #[u] := by simp [h1]
theorem optUndef {A : Prop} {β : Bool} (h : β = false) : (β = true → A) ∧ (β = false → undef = undef) := ⟨fun e => (by rw [h] at e; cases e), fun _ => rfl⟩
theorem optDef {A B : Prop} {β : Bool} (hβ : β = true) (h : A) : (β = true → A) ∧ (β = false → B) := ⟨fun _ => h, fun e => (by rw [hβ] at e; cases e)⟩
theorem bAnd {a b : Bool} (h : (a && b) = true) : a = true := by cases a <;> simp_all
theorem bMk {a b : Bool} (h : a = true) (h' : b = true) : (a && b) = true := by simp [h, h']
theorem bMkN {a b : Bool} (h : a = true) (h' : b = false) : (a && !b) = true := by simp [h, h']


section
variable {w : World} {a : Act} {K : Act → World → Prop} {Q : Exit → Act → World → Prop} {o : Oper}
def callB (P : Program) (F : FuncId) : Bool := match P.funcs[F]? with | some fn => !(fn.name == "runtime.NumGoroutine") && !fn.body.isNone | none => false

theorem wp_call {P : Program} {F : FuncId} {xs : Array Operand} {tys : Array TypeId} {vs : Array Value} {R : Value → World → Prop} (hF : callB P F = true) (ho : o.op = .call { callee := .value (.func F), args := xs, argTypes := tys }) (hv : xs.map a.eval = vs)
    (h : Calls P F vs w fun e w' => ∃ v, e = .returned v ∧ R v w') (hK : ∀ v w', R v w' → K (a.put o.dst v) w') : o.wp P a w K Q := by
  unfold callB at hF
  split at hF
  · rename_i fn hfn
    simp only [Bool.and_eq_true, Bool.not_eq_true'] at hF
    have hp : (Sem.run P program w) = .ok P w := rfl
    unfold Oper.wp execOp
    simp only [ho, resolve, hv, Act.eval, Deferred.ofValue, invoke, callFunc, Sem.run_bind, Sem.run_pure, Result.andThen_ok, Array.empty_append, Array.append_empty, hp, hfn, hF.1, hF.2, Bool.false_eq_true, if_false]
    refine h.mono ?_
    rintro e w' ⟨v, rfl, hR⟩
    exact hK v w' hR
  · simp at hF

theorem wp_move {P : Program} {x : Operand} {v : Value} (ho : o.op = .move x) (hx : a.eval x = v) (hK : K (a.put o.dst v) w) : o.wp P a w K Q := by
  unfold Oper.wp execOp
  simp only [ho, hx]
  exact hK
theorem wp_assign {P : Program} {x : Operand} {v : Value} (ho : o.op = .assign x) (hx : a.eval x = v) (hK : K (a.put o.dst v) w) : o.wp P a w K Q := by
  unfold Oper.wp execOp
  simp only [ho, hx]
  exact hK
theorem hv0 {g : Operand → Value} : #[].map g = #[] := by simp
theorem hv2 {g : Operand → Value} {x y : Operand} {u v : Value} (h1 : g x = u) (h2 : g y = v) : #[x, y].map g = #[u, v] := by simp [h1, h2]
theorem hv3 {g : Operand → Value} {x y z : Operand} {u v r : Value} (h1 : g x = u) (h2 : g y = v) (h3 : g z = r) : #[x, y, z].map g = #[u, v, r] := by simp [h1, h2, h3]

theorem wp_not {x : Operand} {b : Bool} {ty : TypeId} (ho : o.op = .unOp .not ty x) (hx : a.eval x = .bool b) (hK : K (a.put o.dst (.bool (!b))) w) : o.wp Try.prog a w K Q := by
  unfold Oper.wp execOp
  simp only [ho, hx]
  go_simp
  exact hK
theorem wp_or {x z : Operand} {p q : Bool} (ho : o.op = .pick x (.const (.bool true)) z) (hx : a.eval x = .bool p) (hz : p = false → a.eval z = .bool q) (hK : K (a.put o.dst (.bool (p || q))) w) : o.wp Try.prog a w K Q := by
  have hc : a.eval (.const (.bool true)) = .bool true := rfl
  unfold Oper.wp execOp
  cases p with
  | true => simp only [ho, hx, hc]; exact hK
  | false => simp only [ho, hx, hz rfl]; exact hK
theorem wp_and {x z : Operand} {p q : Bool} (ho : o.op = .pick x z (.const (.bool false))) (hx : a.eval x = .bool p) (hz : p = true → a.eval z = .bool q) (hK : K (a.put o.dst (.bool (p && q))) w) : o.wp Try.prog a w K Q := by
  have hc : a.eval (.const (.bool false)) = .bool false := rfl
  unfold Oper.wp execOp
  cases p with
  | true => simp only [ho, hx, hz rfl]; exact hK
  | false => simp only [ho, hx, hc]; exact hK
end


abbrev Known := List (Nat × Value)
def look : Known → Nat → Option Value
  | [], _ => none
  | (k, v) :: r, d => bif Nat.beq k d then some v else look r d

/-- The frame has 'n' slots, defers nothing, and holds what is known. -/
structure Kn (n : Fr) (K : Known) (a : Act) : Prop where
  size : a.tmps.size = n.n
  defers : a.defers = n.ds
  knows : ∀ d v, look K d = some v → a.tmps.getD d undef = v

def ev (K : Known) : Operand → Option Value
  | .tmp t => look K t
  | .const v => some v
  | .global g => some (.pointer (some ⟨g, 0, none⟩))
  | .func f => some (.func (.func f) #[] #[])

def subK : Known → Known → Prop
  | [], _ => True
  | (d, v) :: r, K => look K d = some v ∧ subK r K

theorem subK_look {K : Known} : ∀ {K' : Known}, subK K' K → ∀ d v, look K' d = some v → look K d = some v
  | [], _, _, _, h => by simp [look] at h
  | (k, x) :: r, hs, d, v, h => by
    unfold look at h
    cases hb : Nat.beq k d with
    | true =>
      rw [hb] at h
      obtain rfl := Nat.eq_of_beq_eq_true hb
      rw [← h]
      exact hs.1
    | false =>
      rw [hb] at h
      exact subK_look hs.2 d v h

section
variable {P : Program} {n : Fr} {K K' : Known} {a : Act} {w : World}

theorem Kn.ev (h : Kn n K a) {x : Operand} {v : Value} (e : ev K x = some v) : a.eval x = v := by
  cases x with
  | tmp t => exact h.knows t v e
  | const c => exact Option.some.inj e
  | global g => exact Option.some.inj e
  | func f => exact Option.some.inj e

theorem Kn.sub (h : Kn n K a) (hs : subK K' K) : Kn n K' a := ⟨h.size, h.defers, fun d v e => h.knows d v (subK_look hs d v e)⟩

theorem Kn.put (h : Kn n K a) {d : Nat} (hd : Nat.blt d n.n = true) (v : Value) : Kn n ((d, v) :: K) (a.put (some d) v) := by
  have hlt : d < a.tmps.size := by rw [h.size]; simpa [Nat.blt_eq] using hd
  refine ⟨by simpa [Act.put] using h.size, h.defers, fun k x e => ?_⟩
  unfold look at e
  cases hb : Nat.beq d k with
  | true =>
    rw [hb] at e
    obtain rfl := Nat.eq_of_beq_eq_true hb
    simp only [cond_true, Option.some.injEq] at e
    simp [Act.put, hlt, e]
  | false =>
    rw [hb] at e
    have hne : d ≠ k := by rintro rfl; rw [Nat.beq_refl] at hb; cases hb
    have := h.knows k x e
    simp only [Act.put, Array.getD_eq_getD_getElem?, Array.getElem?_setIfInBounds, hne, if_false] at this ⊢
    exact this

theorem Kn.cons (h : Kn n K a) {d : Nat} {v : Value} (e : a.tmps.getD d undef = v) : Kn n ((d, v) :: K) a := by
  refine ⟨h.size, h.defers, fun k x hk => ?_⟩
  unfold look at hk
  cases hb : Nat.beq d k with
  | true =>
    rw [hb] at hk
    obtain rfl := Nat.eq_of_beq_eq_true hb
    simp only [cond_true, Option.some.injEq] at hk
    rw [e, hk]
  | false =>
    rw [hb] at hk
    exact h.knows k x hk

def putK (K : Known) : Option Nat → Value → Known
  | some d, v => (d, v) :: K
  | none, _ => K
def dstB (n : Nat) : Option Nat → Bool
  | some d => Nat.blt d n
  | none => true
theorem Kn.puts (h : Kn n K a) {d : Option Nat} (hd : dstB n.n d = true) (v : Value) : Kn n (putK K d v) (a.put d v) := by
  cases d with
  | none => exact h
  | some d => exact h.put hd v

/-- From whatever frame of which that much is known the code comes to 'Q'. -/
def WC (P : Program) (n : Fr) (K : Known) (w : World) (c : Code) (Q : Exit → Act → World → Prop) : Prop := ∀ a, Kn n K a → c.wpIn (fen n.r) 0 P Q a w
def WE (n : Fr) (K : Known) (w : World) (Q : Exit → Act → World → Prop) (e : Exit) : Prop := ∀ a, Kn n K a → Q e a w
def WL (P : Program) (ops : Array Oper) (n : Fr) (K : Known) (w : World) (l : List Oper) (Q : Exit → Act → World → Prop) : Prop := ∀ a, Kn n K a → wpListIn (fen n.r) 0 P ops Q l a w

variable {Q : Exit → Act → World → Prop} {c x y : Code} {ops : Array Oper} {o : Oper} {rest : List Oper}

theorem WC.sub (hs : subK K' K) (h : WC P n K' w c Q) : WC P n K w c Q := fun a ha => h a (ha.sub hs)
theorem WE.sub {e : Exit} (hs : subK K' K) (h : WE n K' w Q e) : WE n K w Q e := fun a ha => h a (ha.sub hs)
theorem WC.seq (h : WC P n K w x (Exit.then (fun a w => y.wpIn (fen n.r) 0 P Q a w) Q)) : WC P n K w (.seq x y) Q := fun a ha => wpIn_seq (h a ha)
theorem WC.skip (h : WE n K w Q .normal) : WC P n K w .skip Q := fun a ha => wpIn_skip (h a ha)
theorem WC.ret (h : WE n K w Q .ret) : WC P n K w .ret Q := fun a ha => wpIn_ret (h a ha)
theorem WC.exit {id : Nat} (h : WE n K w Q (.exit id)) : WC P n K w (.exit id) Q := fun a ha => wpIn_exit (h a ha)
theorem WC.label {l : Nat} (h : WE n K w Q .normal) : WC P n K w (.label l) Q := fun a ha => wpIn_label (h a ha)
theorem WC.block {id : Nat} (h : WC P n K w c (Exit.inBlock id Q)) : WC P n K w (.block id c) Q := fun a ha => wpIn_block (h a ha)
theorem WC.cond {t : Operand} {b : Bool} (e : ev K t = some (.bool b)) (ht : b = true → WC P n K w x Q) (hf : b = false → WC P n K w y Q) : WC P n K w (.cond t x y) Q :=
  fun a ha => wpIn_cond_split (ha.ev e) (fun h => ht h a ha) (fun h => hf h a ha)
theorem WC.condT {t : Operand} {b : Bool} (e : ev K t = some (.bool b)) (hb : b = true) (ht : WC P n K w x Q) : WC P n K w (.cond t x y) Q :=
  WC.cond e (fun _ => ht) (fun h => by rw [hb] at h; cases h)
theorem WC.condF {t : Operand} {b : Bool} (e : ev K t = some (.bool b)) (hb : b = false) (hf : WC P n K w y Q) : WC P n K w (.cond t x y) Q :=
  WC.cond e (fun h => by rw [hb] at h; cases h) (fun _ => hf)

theorem WE.next {Q' : Exit → Act → World → Prop} (h : WC P n K w y Q) : WE n K w (Exit.then (fun a w => y.wpIn (fen n.r) 0 P Q a w) Q') .normal := h
theorem WE.thenRet {N : Act → World → Prop} (h : WE n K w Q .ret) : WE n K w (Exit.then N Q) .ret := h
theorem WE.thenExit {N : Act → World → Prop} {id : Nat} (h : WE n K w Q (.exit id)) : WE n K w (Exit.then N Q) (.exit id) := h
theorem WE.blockNormal {id : Nat} (h : WE n K w Q .normal) : WE n K w (Exit.inBlock id Q) .normal := h
theorem WE.blockRet {id : Nat} (h : WE n K w Q .ret) : WE n K w (Exit.inBlock id Q) .ret := h
theorem WE.blockIs {id id' : Nat} (e : Nat.beq id' id = true) (h : WE n K w Q .normal) : WE n K w (Exit.inBlock id Q) (.exit id') := fun a ha => by
  show (if id' = id then Q .normal a w else Q (.exit id') a w)
  rw [if_pos (Nat.eq_of_beq_eq_true e)]; exact h a ha
theorem WE.blockNot {id id' : Nat} (e : Nat.beq id' id = false) (h : WE n K w Q (.exit id')) : WE n K w (Exit.inBlock id Q) (.exit id') := fun a ha => by
  show (if id' = id then Q .normal a w else Q (.exit id') a w)
  rw [if_neg (by rintro rfl; rw [Nat.beq_refl] at e; cases e)]; exact h a ha

/-- Ways that meet: what holds where they meet. -/
theorem WC.meet (M : Act → World → Prop) (h1 : WC P n K w x (Exit.then M Q)) (h2 : ∀ a w, M a w → y.wpIn (fen n.r) 0 P Q a w) : WC P n K w (.seq x y) Q :=
  fun a ha => wpIn_seq (wpIn_mono (h1 a ha) (fun e a w h => by cases e <;> first | exact h2 _ _ h | exact h))
theorem WE.met {X : Type} {KI : X → Known} {J : X → World → Prop} (x : X) (hs : subK (KI x) K) (hJ : J x w) : WE n K w (Exit.then (fun a' w' => ∃ x, Kn n (KI x) a' ∧ J x w') Q) .normal :=
  fun _ ha => ⟨x, ha.sub hs, hJ⟩

theorem wp_loop_ghost {q : Option Nat} {X : Type} (I : X → Act → World → Prop) (μ : X → Nat) {x0 : X} {a : Act} (h0 : I x0 a w)
    (round : ∀ x a w, I x a w → c.wpIn (fen q) 0 P (Exit.then (fun a' w' => ∃ x', I x' a' w' ∧ μ x' < μ x) Q) a w) : (Code.loop c).wpIn (fen q) 0 P Q a w := by
  intro b k cs hro hb hr
  have key : ∀ m x a w, μ x = m → I x a w →
      ∃ e a' w', Q e a' w' ∧ ArrivesIn (Machine.fenced P (fen q)) P (lone (b.atR a (.code c :: .inLoop c :: k)) cs w) b k cs e a' w' := by
    intro m
    induction m using Nat.strongRecOn with
    | _ m ih =>
      intro x a w hn hI
      obtain ⟨e, a₁, w₁, hq, harr⟩ := round x a w hI b (.inLoop c :: k) cs hro hb hr
      cases e with
      | normal =>
        obtain ⟨x', hI₁, hlt⟩ := hq
        obtain ⟨e₂, a₂, w₂, hq₂, harr₂⟩ := ih (μ x') (hn ▸ hlt) x' a₁ w₁ rfl hI₁
        exact ⟨e₂, a₂, w₂, hq₂, .of_steps (StepsIn.trans harr (.one (fenced_calm hb hr rfl) stepR_inLoop)) harr₂⟩
      | exit id => exact ⟨_, a₁, w₁, hq, .pass (x := .inLoop c) rfl (fun _ _ => .inl (by simp)) harr⟩
      | goto l => exact ⟨_, a₁, w₁, hq, .pass (x := .inLoop c) rfl (fun _ _ => .inl (by simp)) harr⟩
      | ret => exact ⟨_, a₁, w₁, hq, .pass (x := .inLoop c) rfl (fun _ _ => .inl (by simp)) harr⟩
      | panic ch => exact ⟨_, a₁, w₁, hq, .pass (x := .inLoop c) rfl (fun _ _ => .inl (by simp)) harr⟩
      | outgrown => exact ⟨_, a₁, w₁, hq, .pass (x := .inLoop c) rfl (fun _ _ => .inl (by simp)) harr⟩
  obtain ⟨e, a', w', hq, harr⟩ := key _ x0 a w rfl h0
  exact ⟨e, a', w', hq, .of_steps (.one (fenced_calm hb hr rfl) stepR_loop) harr⟩

/-- A loop: a ghost 'x' tells the frame (KI x), of the memory holds (J x), each round lowers the measure. -/
theorem WC.loop {X : Type} (μ : X → Nat) (KI : X → Known) (J : X → World → Prop) (x0 : X) (hs : subK (KI x0) K) (h0 : J x0 w)
    (round : ∀ x w, J x w → WC P n (KI x) w c (Exit.then (fun a' w' => ∃ x', (Kn n (KI x') a' ∧ J x' w') ∧ μ x' < μ x) Q)) : WC P n K w (.loop c) Q :=
  fun _ ha => wp_loop_ghost (fun x a w => Kn n (KI x) a ∧ J x w) μ (x0 := x0) ⟨ha.sub hs, h0⟩ (fun x a w h => round x w h.2 a h.1)
theorem WE.round {X : Type} {μ : X → Nat} {KI : X → Known} {J : X → World → Prop} {x : X} (x' : X) (hs : subK (KI x') K) (hJ : J x' w) (hm : μ x' < μ x) :
    WE n K w (Exit.then (fun a' w' => ∃ x', (Kn n (KI x') a' ∧ J x' w') ∧ μ x' < μ x) Q) .normal := fun _ ha => ⟨x', ⟨ha.sub hs, hJ⟩, hm⟩

/-! ### A region in the order of the text -/

theorem WC.region {id : Nat} {l : List Oper} (h : WL P l.toArray n K w l Q) : WC P n K w (.region id l.toArray false) Q := fun a ha => wpIn_region_lit (h a ha)
theorem WL.nil (h : WE n K w Q .normal) : WL P ops n K w [] Q := h
theorem WL.stepIn {d : Option Nat} {post : Value → World → Prop} (hd : o.dst = d) (hlt : dstB n.n d = true) (hg : o.guard = none)
    (h : ∀ a, Kn n K a → o.wpIn (fen n.r) 0 P a w (fun a' w' => ∃ v, a' = a.put o.dst v ∧ post v w') Q)
    (k : ∀ v w', post v w' → WL P ops n (putK K d v) w' rest Q) : WL P ops n K w (o :: rest) Q := fun a ha =>
  wpListIn_plain hg (fun _ hC => Oper.wpIn_mono (by rintro a' w' ⟨v, rfl, hp⟩; exact hC _ _ (by rw [hd]; exact k v w' hp _ (ha.puts hlt v))) (h a ha))
theorem WL.step {d : Option Nat} {post : Value → World → Prop} (hd : o.dst = d) (hlt : dstB n.n d = true) (hg : o.guard = none)
    (h : ∀ a C, Kn n K a → (∀ v w', post v w' → C (a.put o.dst v) w') → o.wp P a w C Q)
    (k : ∀ v w', post v w' → WL P ops n (putK K d v) w' rest Q) : WL P ops n K w (o :: rest) Q :=
  WL.stepIn hd hlt hg (fun a ha => wpIn_of (h a _ ha (fun v _ hp => ⟨v, rfl, hp⟩)) (by rintro a' w' ⟨v, rfl, _⟩; exact put_defers _ _ _)) k
/-- .. one that yields 'v' and leaves the memory alone. -/
theorem WL.val {d : Nat} (v : Value) (hd : o.dst = some d) (hlt : Nat.blt d n.n = true) (hg : o.guard = none)
    (h : ∀ a C, Kn n K a → C (a.put o.dst v) w → o.wp P a w C Q) (k : WL P ops n ((d, v) :: K) w rest Q) : WL P ops n K w (o :: rest) Q :=
  WL.step (d := some d) (post := fun v' w' => v' = v ∧ w' = w) hd hlt hg (fun a C ha hC => h a C ha (hC _ _ ⟨rfl, rfl⟩)) (by rintro _ _ ⟨rfl, rfl⟩; exact k)
/-- .. one that leads to the memory 'w1'. -/
theorem WL.to {d : Option Nat} (v : Value) (w1 : World) (hd : o.dst = d) (hlt : dstB n.n d = true) (hg : o.guard = none)
    (h : ∀ a C, Kn n K a → C (a.put o.dst v) w1 → o.wp P a w C Q) (k : WL P ops n (putK K d v) w1 rest Q) : WL P ops n K w (o :: rest) Q :=
  WL.step (post := fun v' w' => v' = v ∧ w' = w1) hd hlt hg (fun a C ha hC => h a C ha (hC _ _ ⟨rfl, rfl⟩)) (by rintro _ _ ⟨rfl, rfl⟩; exact k)

/-! ### Entering and leaving a function -/

def paramsK : Nat → List Value → Known
  | _, [] => []
  | k, v :: r => (k, v) :: paramsK (k + 1) r
theorem look_params : ∀ (l : List Value) (k d : Nat) (v : Value), look (paramsK k l) d = some v → k ≤ d ∧ l[d - k]? = some v
  | [], _, _, _, h => by simp [paramsK, look] at h
  | x :: r, k, d, v, h => by
    unfold paramsK look at h
    cases hb : Nat.beq k d with
    | true =>
      rw [hb] at h
      obtain rfl := Nat.eq_of_beq_eq_true hb
      simp only [cond_true, Option.some.injEq] at h
      simp [h]
    | false =>
      rw [hb] at h
      obtain ⟨h1, h2⟩ := look_params r (k + 1) d v h
      refine ⟨by omega, ?_⟩
      rw [show d - k = (d - (k + 1)) + 1 by omega, List.getElem?_cons_succ, h2]
theorem Kn.enter {l : List Value} {n : Nat} (hl : l.length ≤ n) : Kn ⟨n, [], none⟩ (paramsK 0 l) { tmps := l.toArray ++ Array.replicate (n - l.toArray.size) undef, defers := [] } := by
  refine ⟨by simp; omega, rfl, fun d v h => ?_⟩
  obtain ⟨_, h2⟩ := look_params l 0 d v h
  have hd : d < l.length := (List.getElem?_eq_some_iff.1 h2).1
  have : l[d] = v := by simpa [hd] using h2
  simp [Array.getD_eq_getD_getElem?, Array.getElem?_append, hd, this]

abbrev bodyPostW (P : Program) (fn : Func) (R : Ending → World → Prop) := bodyPostM Fence.wide 0 P fn R
theorem Calls.walk {f : FuncId} {fn : Func} {c : Code} {l : List Value} {R : Ending → World → Prop} (hf : P.funcs[f]? = some fn) (hb : fn.body = some c) (hl : Nat.ble l.length fn.ntmps = true)
    (h : WC P ⟨fn.ntmps, [], none⟩ (paramsK 0 l) w c (bodyPostW P fn R)) : Calls P f l.toArray w R :=
  callsIn_wide.1 (callsIn_of_wp_marks (n := 0) hf hb trivial (h _ (Kn.enter (Nat.le_of_ble_eq_true hl))))

variable {fn : Func} {R : Ending → World → Prop}
/-- What lies behind the marks of the loops over functions that the call has gone through. -/
inductive Shut : List Deferred → World → World → Prop
  | nil (w : World) : Shut [] w w
  | cons {ds : List Deferred} {w w' : World} (D : Nat) (h : w.heap[D]? = some (.deferred (some []))) (k : Shut ds (w.putObj D (.deferred none)) w') : Shut ({ target := .collected D, args := #[] } :: ds) w w'
theorem leaves_shut {tmps : Array Value} {v : Value} {ds : List Deferred} {w w' : World} (hs : Shut ds w w') (hr : (results fn tmps).run P w' = .ok v w') (hR : R (.returned v) w') : LeavesInM Fence.wide 0 P fn tmps R ds .returning w := by
  induction hs with
  | nil w => exact ⟨v, hr, hR⟩
  | cons D h k ih => exact ⟨by simp, .inl ⟨D, _, rfl, run_takeDeferred h, ih hr hR⟩⟩
variable {N : Nat} {r : Option Nat} {ds : List Deferred} {w' : World}
theorem WE.ret0 (hr : fn.results = #[]) (hR : R (.returned (.tuple #[])) w) : WE ⟨N, [], r⟩ K w (bodyPostW P fn R) .ret := fun a ha => by
  show LeavesInM _ _ _ _ _ _ a.defers _ _
  rw [ha.defers]; exact ⟨_, results_none hr a.tmps P w, hR⟩
theorem WE.end0 (hr : fn.results = #[]) (hR : R (.returned (.tuple #[])) w) : WE ⟨N, [], r⟩ K w (bodyPostW P fn R) .normal := fun a ha => by
  show LeavesInM _ _ _ _ _ _ a.defers _ _
  rw [ha.defers]; exact ⟨_, results_none hr a.tmps P w, hR⟩
theorem WE.ret1 {t : Tmp} {v : Value} (hr : fn.results = #[.tmp t]) (hv : look K t = some v) (hR : R (.returned v) w) : WE ⟨N, [], r⟩ K w (bodyPostW P fn R) .ret := fun a ha => by
  show LeavesInM _ _ _ _ _ _ a.defers _ _
  rw [ha.defers]; exact ⟨_, results_tmp hr a.tmps P w, by rw [ha.knows t v hv]; exact hR⟩
theorem WE.ret2 {t u : Tmp} {v x : Value} (hr : fn.results = #[.tmp t, .tmp u]) (hv : look K t = some v) (hx : look K u = some x) (hR : R (.returned (.tuple #[v, x])) w) : WE ⟨N, [], r⟩ K w (bodyPostW P fn R) .ret := fun a ha => by
  show LeavesInM _ _ _ _ _ _ a.defers _ _
  rw [ha.defers]; exact ⟨_, results_tmp2 hr a.tmps P w, by rw [ha.knows t v hv, ha.knows u x hx]; exact hR⟩
theorem WE.retS1 {t : Tmp} {v : Value} (hr : fn.results = #[.tmp t]) (hv : look K t = some v) (hs : Shut ds w w') (hR : R (.returned v) w') : WE ⟨N, ds, r⟩ K w (bodyPostW P fn R) .ret := fun a ha => by
  show LeavesInM _ _ _ _ _ _ a.defers _ _
  rw [ha.defers]; exact leaves_shut hs (results_tmp hr a.tmps P w') (by rw [ha.knows t v hv]; exact hR)
theorem WE.retS2 {t u : Tmp} {v x : Value} (hr : fn.results = #[.tmp t, .tmp u]) (hv : look K t = some v) (hx : look K u = some x) (hs : Shut ds w w') (hR : R (.returned (.tuple #[v, x])) w') : WE ⟨N, ds, r⟩ K w (bodyPostW P fn R) .ret := fun a ha => by
  show LeavesInM _ _ _ _ _ _ a.defers _ _
  rw [ha.defers]; exact leaves_shut hs (results_tmp2 hr a.tmps P w') (by rw [ha.knows t v hv, ha.knows u x hx]; exact hR)
/-- Results that lie in memory: what is read is said for whatever frame. -/
theorem WE.retAny {v : Value} (hr : ∀ a, Kn ⟨N, [], r⟩ K a → (results fn a.tmps).run P w = .ok v w) (hR : R (.returned v) w) : WE ⟨N, [], r⟩ K w (bodyPostW P fn R) .ret := fun a ha => by
  show LeavesInM _ _ _ _ _ _ a.defers _ _
  rw [ha.defers]; exact ⟨v, hr a ha, hR⟩
end



section
variable {P : Program} {ops : Array Oper}

structure CtxG (ops : Array Oper) (chain : List Nat) (R : Nat → Value → World → Prop) (G : List (Option Value) → World → Prop) (n : Fr) (K : Known) (i : Nat) (o : Oper) (a : Act) (w : World) (vs : List (Option Value)) : Prop where
  now : G vs w
  kn : Kn n K a
  dep : ∀ j d, depB ops o j d = true → chain.contains j = false → R j (a.tmps.getD d undef) w
  len : vs.length = chain.length
  link : ∀ (p c d : Nat), chain[p]? = some c → depB ops o c d = true → vs[p]? = some (some (a.tmps.getD d undef))
  done : ∀ (p c : Nat), chain[p]? = some c → o.after.any (fun e => e.on == c && Region.binds .any e) = true → ∃ v, vs[p]? = some (some v)
  most : ∀ (p c : Nat), chain[p]? = some c → afterB ops c i = true → vs[p]? = some none
  mostT : ∀ (p c : Nat), chain[p]? = some c → (ancL ops c).contains i = true → vs[p]? = some none

def SoundG (P : Program) (ops : Array Oper) (Q : Exit → Act → World → Prop) (chain : List Nat) (R : Nat → Value → World → Prop) (Le : World → World → Prop) (G : List (Option Value) → World → Prop) (n : Fr) (K : Known) (i : Nat) (o : Oper) : Prop :=
  (chain.contains i = false ∧ ∃ β, GuardIs R o β ∧ (∀ g b, o.guard = some (g, b) → chain.contains g = false) ∧ (β = false → ∀ w, R i undef w) ∧
    (β = true → ∀ (a : Act) (w : World) (vs : List (Option Value)), CtxG ops chain R G n K i o a w vs →
      o.wpIn (fen n.r) 0 P a w (fun a' w' => ∃ v, a' = Act.put a o.dst v ∧ Le w w' ∧ G vs w' ∧ R i v w') Q)) ∨
  (∃ p, chain[p]? = some i ∧ o.guard = none ∧ ∀ (a : Act) (w : World) (vs : List (Option Value)), CtxG ops chain R G n K i o a w vs → vs[p]? = some none →
      o.wpIn (fen n.r) 0 P a w (fun a' w' => ∃ v, a' = Act.put a o.dst v ∧ Le w w' ∧ G (vs.set p (some v)) w') Q)

def SoundFromG (P : Program) (ops : Array Oper) (Q : Exit → Act → World → Prop) (chain : List Nat) (R : Nat → Value → World → Prop) (Le : World → World → Prop) (G : List (Option Value) → World → Prop) (n : Fr) (K : Known) : Nat → List Oper → Prop
  | _, [] => True
  | k, o :: r => SoundG P ops Q chain R Le G n K k o ∧ SoundFromG P ops Q chain R Le G n K (k + 1) r

theorem SoundFromG.at_ {Q : Exit → Act → World → Prop} {chain : List Nat} {R : Nat → Value → World → Prop} {Le : World → World → Prop} {G : List (Option Value) → World → Prop} {n : Fr} {K : Known} : ∀ {l : List Oper} {k : Nat}, SoundFromG P ops Q chain R Le G n K k l → ∀ i o, l[i]? = some o → SoundG P ops Q chain R Le G n K (k + i) o
  | [], _, _, i, o, h => by simp at h
  | x :: r, k, h, 0, o, ho => by simp at ho; subst ho; exact h.1
  | x :: r, k, h, i + 1, o, ho => by
    have := h.2.at_ i o (by simpa using ho)
    rwa [show k + 1 + i = k + (i + 1) by omega] at this

structure AtG (ops : Array Oper) (chain : List Nat) (R : Nat → Value → World → Prop) (G : List (Option Value) → World → Prop) (n : Fr) (K : Known) (listed : Array Bool) (a : Act) (vs : List (Option Value)) (w : World) : Prop where
  size : listed.size = ops.size
  kn : Kn n K a
  plain : ∀ i d, chain.contains i = false → listed.getD i false = true → (ops[i]?).bind (·.dst) = some d → R i (a.tmps.getD d undef) w
  link : ∀ p c : Nat, chain[p]? = some c → (listed.getD c false = true ↔ ∃ v, vs[p]? = some (some v))
  vals : ∀ (p c d : Nat), chain[p]? = some c → listed.getD c false = true → (ops[c]?).bind (·.dst) = some d → vs[p]? = some (some (a.tmps.getD d undef))
  len : vs.length = chain.length
  closed : ∀ i o, ops[i]? = some o → listed.getD i false = true → ∀ e ∈ o.after, Region.binds .any e = true → listed.getD e.on false = true
  now : G vs w

def clearB (ops : Array Oper) (K : Known) : Bool := K.all fun p => !((dstsOf ops).contains p.1)
theorem clearB_look {K : Known} (h : clearB ops K = true) {d : Nat} (hd : (dstsOf ops).contains d = true) : look K d = none := by
  induction K with
  | nil => rfl
  | cons p r ih =>
    obtain ⟨k, v⟩ := p
    simp only [clearB, List.all_cons, Bool.and_eq_true, Bool.not_eq_true'] at h
    unfold look
    cases hb : Nat.beq k d with
    | true =>
      obtain rfl := Nat.eq_of_beq_eq_true hb
      rw [hd] at h; cases h.1
    | false => exact ih (by simpa only [clearB] using h.2)

theorem act_put_other {a : Act} {d : Option Nat} {v : Value} {k : Nat} (h : d ≠ some k) : (Act.put a d v).tmps.getD k undef = a.tmps.getD k undef := by
  cases d with
  | none => rfl
  | some d =>
    have : d ≠ k := fun e => h (by rw [e])
    simp [Act.put, Array.getD_eq_getD_getElem?, this]
theorem act_put_self {a : Act} {v : Value} {k : Nat} (h : k < a.tmps.size) : (Act.put a (some k) v).tmps.getD k undef = v := by
  simp [Act.put, h]
theorem Kn.put_clear {n : Fr} {K : Known} {a : Act} (h : Kn n K a) {d : Option Nat} (hd : ∀ k, d = some k → look K k = none) (v : Value) : Kn n K (a.put d v) := by
  refine ⟨?_, ?_, fun k x e => ?_⟩
  · cases d <;> simpa [Act.put] using h.size
  · cases d <;> exact h.defers
  · rw [act_put_other (fun e' => by rw [hd k e'] at e; cases e)]
    exact h.knows k x e

theorem wp_any_gen {Q : Exit → Act → World → Prop} {n : Fr} {K : Known} (chain : List Nat) (R : Nat → Value → World → Prop) (Le : World → World → Prop) (G : List (Option Value) → World → Prop)
    (hB : opsB ops n.n = true) (hnd : chain.Nodup) (hin : (chain.all fun c => Nat.blt c ops.size) = true) (hclear : clearB ops K = true)
    (hR : ∀ i v w w', R i v w → Le w w' → R i v w')
    (h : SoundFromG P ops Q chain R Le G n K 0 ops.toList)
    (hQ : ∀ (a : Act) (w : World) (vs : List (Option Value)), Kn n K a → vs.length = chain.length → (∀ p, p < chain.length → ∃ v, vs[p]? = some (some v)) → G vs w → (∀ i d, (ops[i]?).bind (·.dst) = some d → chain.contains i = false → R i (a.tmps.getD d undef) w) → (∀ (p c d : Nat), chain[p]? = some c → (ops[c]?).bind (·.dst) = some d → vs[p]? = some (some (a.tmps.getD d undef))) → Q .normal a w) :
    ∀ (a0 : Act) (w0 : World), Kn n K a0 → G (List.replicate chain.length none) w0 → wpAnyIn (fen n.r) 0 P .any ops Q ops.size (Array.replicate ops.size false) a0 w0 := by
  have main : ∀ (fuel : Nat) (listed : Array Bool) (a : Act) (vs : List (Option Value)) (w : World), listed.toList.count false ≤ fuel → AtG ops chain R G n K listed a vs w →
      wpAnyIn (fen n.r) 0 P .any ops Q fuel listed a w := by
    intro fuel
    have done : ∀ (listed : Array Bool) (a : Act) (vs : List (Option Value)) (w : World), Region.ready .any ops listed = [] → AtG ops chain R G n K listed a vs w → Q .normal a w := by
      intro listed a vs w hr H
      have all : ∀ i, i < ops.size → listed.getD i false = true := fun i hi => by
        have := ready_nil hB H.size hr i hi
        have hs := H.size
        simpa [Array.getD, show i < listed.size by omega] using this
      have hin' : ∀ p c, chain[p]? = some c → c < ops.size := fun p c hc => by
        have := List.all_eq_true.1 hin _ (List.mem_of_getElem? hc)
        simpa [Nat.blt_eq] using this
      have lt_of : ∀ i d, (ops[i]?).bind (·.dst) = some d → i < ops.size := fun i d hd => by
        rcases Nat.lt_or_ge i ops.size with h | h
        · exact h
        · simp [Array.getElem?_eq_none h] at hd
      exact hQ a w vs H.kn H.len (fun p hp => (H.link p chain[p] (by simp [hp])).1 (all _ (hin' p _ (by simp [hp])))) H.now (fun i d hd hc => H.plain i d hc (all i (lt_of i d hd)) hd) (fun p c d hc hd => H.vals p c d hc (all c (hin' p c hc)) hd)
    induction fuel with
    | zero =>
      intro listed a vs w hc H
      have hr : Region.ready .any ops listed = [] := by
        cases hr : Region.ready .any ops listed with
        | nil => rfl
        | cons i r =>
          have := (mem_ready (md := .any) (ops := ops) (j := i) (listed := listed)).1 (by rw [hr]; simp)
          rw [count_zero hc i] at this
          simp at this
      exact ⟨hr, done listed a vs w hr H⟩
    | succ fuel ih =>
      intro listed a vs w hc H
      refine ⟨fun hr => done listed a vs w hr H, fun i hi => ?_⟩
      obtain ⟨hun, o, ho, haf⟩ := mem_ready.1 hi
      have hilt : i < ops.size := by
        rcases Nat.lt_or_ge i ops.size with h | h
        · exact h
        · simp [Array.getElem?_eq_none h] at ho
      have hils : i < listed.size := by have := H.size; omega
      have hun' := getD_false_of hun
      have ok := opsB_spec hB ho
      have hs2 := h.at_ i o (by simpa using ho)
      rw [Nat.zero_add] at hs2
      have after_of : ∀ j d, depB ops o j d = true → listed.getD j false = true ∧ (ops[j]?).bind (·.dst) = some d := by
        intro j d hj
        simp only [depB, Bool.and_eq_true, Array.any_eq_true, beq_iff_eq] at hj
        obtain ⟨⟨k, hk, h1, h2⟩, h3⟩ := hj
        exact ⟨h1 ▸ haf _ (Array.getElem_mem hk) h2, h3⟩
      have ctx : CtxG ops chain R G n K i o a w vs := by
        have opt : ∀ p c, chain[p]? = some c → listed.getD c false = false → vs[p]? = some none := fun p c hc hl => by
          have hp : p < vs.length := by rw [H.len]; exact (List.getElem?_eq_some_iff.1 hc).1
          rw [List.getElem?_eq_getElem hp]
          cases hx : vs[p] with
          | none => rfl
          | some v =>
            have := (H.link p c hc).2 ⟨v, by rw [List.getElem?_eq_getElem hp, hx]⟩
            rw [hl] at this; cases this
        refine ⟨H.now, H.kn, fun j d hj hc => H.plain j d hc (after_of j d hj).1 (after_of j d hj).2, H.len, fun p c d hc hj => H.vals p c d hc (after_of c d hj).1 (after_of c d hj).2, fun p c hc ha => ?_, fun p c hc ha => opt p c hc ?_, fun p c hc ha => opt p c hc ?_⟩
        · simp only [Array.any_eq_true, Bool.and_eq_true, beq_iff_eq] at ha
          obtain ⟨k, hk, h1, h2⟩ := ha
          exact (H.link p c hc).1 (h1 ▸ haf _ (Array.getElem_mem hk) h2)
        · cases hl : listed.getD c false with
          | false => rfl
          | true =>
            exfalso
            unfold afterB at ha
            split at ha
            · rename_i oc hoc
              simp only [Array.any_eq_true, Bool.and_eq_true, beq_iff_eq] at ha
              obtain ⟨k, hk, h1, h2⟩ := ha
              have := H.closed c oc hoc hl _ (Array.getElem_mem hk) h2
              rw [h1, hun'] at this
              cases this
            · cases ha
        · cases hl : listed.getD c false with
          | false => rfl
          | true =>
            exfalso
            have := anc_listed H.closed hl i (by simpa using ha)
            rw [hun'] at this
            cases this
      unfold wpOpIn
      simp only [ho]
      -- what is behind a step
      have step : ∀ (v : Value) (vs' : List (Option Value)) (w' : World), (∀ j u, R j u w → R j u w') → G vs' w' → (∀ d, o.dst = some d → chain.contains i = false → R i v w') →
          ((chain.contains i = false ∧ vs' = vs) ∨ (∃ p, chain[p]? = some i ∧ vs' = vs.set p (some v))) →
          wpAnyIn (fen n.r) 0 P .any ops Q fuel (listed.setIfInBounds i true) (Act.put a o.dst v) w' := by
        intro v vs' w' hle hG hRi hvs
        have hc' := count_set (l := listed) hils hun hc
        have hset : ∀ j, (listed.setIfInBounds i true).getD j false = true ↔ j = i ∨ listed.getD j false = true := by
          intro j
          by_cases hj : j = i
          · subst hj; simp [getD_set_eq hils]
          · rw [getD_set_ne false (Ne.symm hj)]; simp [hj]
        have hother : ∀ j k, j ≠ i → (ops[j]?).bind (·.dst) = some k → (Act.put a o.dst v).tmps.getD k undef = a.tmps.getD k undef := by
          intro j k hji hjk
          refine act_put_other (fun hd => ?_)
          have hjlt : j < ops.size := by
            rcases Nat.lt_or_ge j ops.size with h | h
            · exact h
            · simp [Array.getElem?_eq_none h] at hjk
          exact hji (ok.own k j hd hjlt hjk).symm
        have hself : ∀ d, (ops[i]?).bind (·.dst) = some d → (Act.put a o.dst v).tmps.getD d undef = v := by
          intro d hd
          rw [ho] at hd
          simp only [Option.bind_some] at hd
          rw [hd]
          exact act_put_self (by rw [H.kn.size]; exact ok.lt d hd)
        refine ih _ _ vs' w' hc' ⟨by simpa using H.size, H.kn.put_clear (fun k hk => clearB_look hclear (mem_dsts ho hk)) v, fun j d hjc hj hjd => ?_, fun p c hpc => ?_, fun p c d hpc hp hcd => ?_, ?_, fun j oj hoj hj e he hb => ?_, hG⟩
        · by_cases hji : j = i
          · subst hji
            rw [hself d hjd]
            rw [ho] at hjd
            exact hRi d hjd hjc
          · rw [hother j d hji hjd]
            exact hle _ _ (H.plain j d hjc (((hset j).1 hj).resolve_left hji) hjd)
        · rw [hset]
          rcases hvs with ⟨hci, rfl⟩ | ⟨q, hq, rfl⟩
          · have : c ≠ i := by
              rintro rfl
              have := List.mem_of_getElem? hpc
              simp [this] at hci
            exact ⟨fun h => (H.link p c hpc).1 (h.resolve_left this), fun h => .inr ((H.link p c hpc).2 h)⟩
          · have hpl : q < vs.length := by rw [H.len]; exact (List.getElem?_eq_some_iff.1 hq).1
            by_cases hpq : p = q
            · subst hpq
              rw [hq] at hpc
              simp only [Option.some.injEq] at hpc
              subst hpc
              exact ⟨fun _ => ⟨v, by rw [List.getElem?_set_self hpl]⟩, fun _ => .inl rfl⟩
            · have hci : c ≠ i := by
                rintro rfl
                exact hpq ((List.getElem?_inj (List.getElem?_eq_some_iff.1 hpc).1 hnd).1 (hpc.trans hq.symm))
              rw [List.getElem?_set_ne (Ne.symm hpq)]
              exact ⟨fun h => (H.link p c hpc).1 (h.resolve_left hci), fun h => .inr ((H.link p c hpc).2 h)⟩
        · rcases hvs with ⟨hci, rfl⟩ | ⟨q, hq, rfl⟩
          · have hne : c ≠ i := by
              rintro rfl
              have := List.mem_of_getElem? hpc
              simp [this] at hci
            rw [hother c d hne hcd]
            exact H.vals p c d hpc (((hset c).1 hp).resolve_left hne) hcd
          · have hpl : q < vs.length := by rw [H.len]; exact (List.getElem?_eq_some_iff.1 hq).1
            by_cases hpq : p = q
            · subst hpq
              rw [hq] at hpc
              simp only [Option.some.injEq] at hpc
              subst hpc
              rw [hself d hcd, List.getElem?_set_self hpl]
            · have hne : c ≠ i := by
                rintro rfl
                exact hpq ((List.getElem?_inj (List.getElem?_eq_some_iff.1 hpc).1 hnd).1 (hpc.trans hq.symm))
              rw [hother c d hne hcd, List.getElem?_set_ne (Ne.symm hpq)]
              exact H.vals p c d hpc (((hset c).1 hp).resolve_left hne) hcd
        · rcases hvs with ⟨hci, rfl⟩ | ⟨q, hq, rfl⟩
          · exact H.len
          · rw [List.length_set]; exact H.len
        · rw [hset]
          by_cases hji : j = i
          · subst hji
            rw [ho] at hoj
            simp only [Option.some.injEq] at hoj
            subst hoj
            exact .inr (haf e he hb)
          · exact .inr (H.closed j oj hoj (((hset j).1 hj).resolve_left hji) e he hb)
      rcases hs2 with ⟨hci, β, hg, hgc, hs1, hs2⟩ | ⟨p, hp, hgn, hs2⟩
      · have hwant : Region.wanted o (yielded ops a.tmps) = β := by
          have known : ∀ g c d b, o.guard = some (g, b) → (∀ v w, R g v w → (d = true → v = .bool c) ∧ (d = false → v = undef)) → yielded ops a.tmps g = if d then some c else none := by
            intro g c dd b hgb hv
            obtain ⟨⟨e, he, h1, h2⟩, d, hd⟩ := ok.guard g b hgb
            have hv := hv (a.tmps.getD d undef) w (H.plain g d (hgc g b hgb) (h1 ▸ haf e he h2) hd)
            have hdlt : d < a.tmps.size := by
              obtain ⟨og, hog, hgd⟩ := Option.bind_eq_some_iff.1 hd
              rw [H.kn.size]
              exact (opsB_spec hB hog).lt d hgd
            unfold yielded
            rw [hd]
            simp only [Array.getD_eq_getD_getElem?, Array.getElem?_eq_getElem hdlt, Option.getD_some] at hv
            cases dd with
            | true => simp [hdlt, hv.1 rfl]
            | false => simp [hdlt, hv.2 rfl, undef]
          cases hg with
          | none h => unfold Region.wanted; rw [h]
          | @yes g c d h hv => have := known _ _ _ _ h hv; unfold Region.wanted; rw [h]; simp only [this]; cases d <;> simp
          | @no g c d h hv => have := known _ _ _ _ h hv; unfold Region.wanted; rw [h]; simp only [this]; cases d <;> cases c <;> simp
        cases hβ : β with
        | false =>
          rw [hβ] at hwant
          simp only [hwant, Bool.false_eq_true, if_false]
          refine ⟨fun f _ => fen_fn _ f, ?_⟩
          exact step undef vs w (fun _ _ h => h) H.now (fun _ _ _ => hs1 hβ w) (.inl ⟨hci, rfl⟩)
        | true =>
          rw [hβ] at hwant
          simp only [hwant, if_true]
          refine Oper.wpIn_mono ?_ (hs2 hβ a w vs ctx)
          rintro a' w' ⟨v, rfl, hle, hG, hRi⟩
          exact step v vs w' (fun j u hj => hR j u _ _ hj hle) hG (fun _ _ _ => hRi) (.inl ⟨hci, rfl⟩)
      · have hwant : Region.wanted o (yielded ops a.tmps) = true := by unfold Region.wanted; rw [hgn]
        have hnone : vs[p]? = some none := by
          have hp' : p < vs.length := by rw [H.len]; exact (List.getElem?_eq_some_iff.1 hp).1
          rw [List.getElem?_eq_getElem hp']
          cases hx : vs[p] with
          | none => rfl
          | some v =>
            have := (H.link p i hp).2 ⟨v, by rw [List.getElem?_eq_getElem hp', hx]⟩
            rw [hun'] at this; cases this
        simp only [hwant, if_true]
        refine Oper.wpIn_mono ?_ (hs2 a w vs ctx hnone)
        rintro a' w' ⟨v, rfl, hle, hG⟩
        have hcc : chain.contains i = true := by
          have := List.mem_of_getElem? hp
          simpa using this
        exact step v (vs.set p (some v)) w' (fun j u hj => hR j u _ _ hj hle) hG (fun _ _ h => by rw [hcc] at h; cases h) (.inr ⟨p, hp, rfl⟩)
  intro a0 w0 hk0 h0
  have nothing' : ∀ i, (Array.replicate ops.size false).getD i false = false := fun i => by
    by_cases h : i < ops.size <;> simp [Array.getD, h]
  refine main _ _ _ (List.replicate chain.length none) _ (by simp) ⟨by simp, hk0, fun i d _ hi => ?_, fun p c hpc => ?_, fun p c d _ hp => ?_, by simp, fun i o _ hi => ?_, h0⟩
  · rw [nothing'] at hi; cases hi
  · rw [nothing']
    refine ⟨fun h => (by cases h), fun ⟨v, hv⟩ => ?_⟩
    have hp := (List.getElem?_eq_some_iff.1 hpc).1
    simp [hp] at hv
  · rw [nothing'] at hp; cases hp
  · rw [nothing'] at hi; cases hi

/-- The law: of what is known of the frame 'K0' is what the region does not write. -/
theorem WC.gen {id : Nat} {dr : Bool} {Q : Exit → Act → World → Prop} {n : Fr} {K : Known} {w : World} (chain : List Nat) (R : Nat → Value → World → Prop) (Le : World → World → Prop) (G : List (Option Value) → World → Prop) (K0 : Known)
    (hs : subK K0 K) (hclear : clearB ops K0 = true) (hm : P.follows .mixedOrders = true) (hB : opsB ops n.n = true) (hnd : chain.Nodup) (hin : (chain.all fun c => Nat.blt c ops.size) = true)
    (hR : ∀ i v w w', R i v w → Le w w' → R i v w') (h0 : G (List.replicate chain.length none) (bif dr then w.drew else w))
    (h : SoundFromG P ops Q chain R Le G n K0 0 ops.toList)
    (hQ : ∀ (a : Act) (w : World) (vs : List (Option Value)), Kn n K0 a → vs.length = chain.length → (∀ p, p < chain.length → ∃ v, vs[p]? = some (some v)) → G vs w → (∀ i d, (ops[i]?).bind (·.dst) = some d → chain.contains i = false → R i (a.tmps.getD d undef) w) → (∀ (p c d : Nat), chain[p]? = some c → (ops[c]?).bind (·.dst) = some d → vs[p]? = some (some (a.tmps.getD d undef))) → Q .normal a w) :
    WC P n K w (.region id ops dr) Q := by
  intro a ha
  have main := wp_any_gen chain R Le G hB hnd hin hclear hR h hQ a
  cases dr with
  | true => exact wpIn_region_any hm (main _ (ha.sub hs) h0)
  | false => exact any_start hB (main _ (ha.sub hs) h0)

/-! ### Where no operation changes what was there -/

/-- An operation of such a region. -/
structure CtxO (ops : Array Oper) (S : List (Bool × Sp)) (n : Fr) (K : Known) (w0 : World) (o : Oper) (a : Act) (w : World) : Prop where
  below : Below w0.heap.size w0 w
  kn : Kn n K a
  dep : ∀ j d, depB ops o j d = true → optR S j (a.tmps.getD d undef) w

def SoundO (P : Program) (ops : Array Oper) (Q : Exit → Act → World → Prop) (S : List (Bool × Sp)) (n : Fr) (K : Known) (w0 : World) : Nat → List Oper → Prop
  | _, [] => True
  | i, o :: r => (∃ β, GuardIs (optR S) o β ∧ (β = false → ∀ w, optR S i undef w) ∧
    (β = true → ∀ a w, CtxO ops S n K w0 o a w → o.wp P a w (fun a' w' => ∃ v, a' = Act.put a o.dst v ∧ Below w.heap.size w w' ∧ optR S i v w') Q)) ∧ SoundO P ops Q S n K w0 (i + 1) r

theorem SoundO.gen {Q : Exit → Act → World → Prop} {S : List (Bool × Sp)} {n : Fr} {K : Known} {w0 : World} : ∀ {l : List Oper} {i : Nat}, SoundO P ops Q S n K w0 i l →
    SoundFromG P ops Q [] (optR S) (fun w w' => Below w.heap.size w w') (fun _ w => Below w0.heap.size w0 w) n K i l
  | [], _, _ => trivial
  | o :: r, i, ⟨⟨β, h1, h2, h3⟩, h4⟩ => by
    refine ⟨.inl ⟨rfl, β, h1, fun _ _ _ => rfl, h2, fun hβ a w vs C => ?_⟩, h4.gen⟩
    refine Oper.wpIn_mono ?_ (wpIn_of (h3 hβ a w ⟨C.now, C.kn, fun j d hj => C.dep j d hj rfl⟩) (by rintro a' w' ⟨v, rfl, _⟩; exact put_defers _ _ _))
    rintro a' w' ⟨v, rfl, hb, hR⟩
    exact ⟨v, rfl, hb, bstep C.now hb, hR⟩

theorem WC.opt {id : Nat} {dr : Bool} {Q : Exit → Act → World → Prop} {n : Fr} {K : Known} {w : World} (S : List (Bool × Sp)) (K0 : Known)
    (hs : subK K0 K) (hclear : clearB ops K0 = true) (hm : P.follows .mixedOrders = true) (hB : opsB ops n.n = true)
    (h : SoundO P ops Q S n K0 w 0 ops.toList)
    (hQ : ∀ (a : Act) (w' : World), Kn n K0 a → Below w.heap.size w w' → (∀ i d, (ops[i]?).bind (·.dst) = some d → optR S i (a.tmps.getD d undef) w') → Q .normal a w') :
    WC P n K w (.region id ops dr) Q := by
  refine WC.gen [] (optR S) (fun w w' => Below w.heap.size w w') (fun _ w' => Below w.heap.size w w') K0 hs hclear hm hB List.nodup_nil rfl (optKeep S) ?_ h.gen (fun a w' vs hk _ _ hG hu _ => hQ a w' hk hG (fun i d hd => hu i d hd rfl))
  cases dr with
  | true => exact (Below.refl _ _).drew
  | false => exact Below.refl _ _
end


end Go.Proofs.Ytnblndmjjokepaa
