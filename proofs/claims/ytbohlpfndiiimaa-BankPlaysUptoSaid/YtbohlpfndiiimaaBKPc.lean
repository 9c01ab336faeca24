/- A term is put into a bank: the program. -/
import Derived.Test.YtbohlpfndiiimaaBKPa
import Derived.Test.YtbohlpfndiiimaaBKPb

/- Loops over functions, and functions that hand out one thing after the other. -/
namespace Go.Proofs.Ytbohlpfndiiimaa
open Go.RowKit Go
set_option linter.unusedVariables false
set_option linter.unusedSimpArgs false
section
variable {P : Program}
theorem wpIn_n {r : Option Nat} {n m : Nat} {c : Code} {Q : Exit → Act → World → Prop} {a : Act} {w : World} (h : c.wpIn (fen r) n P Q a w) : c.wpIn (fen r) m P Q a w := fun b k cs hro hb _ => h b k cs hro hb (fen_room _ _)
theorem callB_enters {F : FuncId} (hF : callB P F = true) (args : Array Value) (w : World) : (callFunc F args).run P w = .ok (.enter F args) w := by
  unfold callB at hF
  split at hF
  · rename_i fn hfn
    simp only [Bool.and_eq_true, Bool.not_eq_true'] at hF
    have hp : (Sem.run P program w) = .ok P w := rfl
    simp only [callFunc, Sem.run_bind, Sem.run_pure, Result.andThen_ok, hp, hfn, hF.1, hF.2, Bool.false_eq_true, if_false]
  · simp at hF
end
/-! ### Operations behind guards, one after the other -/
section
variable {P : Program} {n : Fr} {K K' : Known} {w : World} {ops : Array Oper} {o : Oper} {rest : List Oper} {Q : Exit → Act → World → Prop}
theorem bool_split {X : Prop} (b : Bool) (ht : b = true → X) (hf : b = false → X) : X := by
  cases b
  · exact hf rfl
  · exact ht rfl
theorem wp_pickT {a : Act} {C : Act → World → Prop} {x y z : Operand} {v : Value} (ho : o.op = .pick x y z) (hx : a.eval x = .bool true) (hy : a.eval y = v) (hK : C (a.put o.dst v) w) : o.wp P a w C Q := by
  unfold Oper.wp execOp
  simp only [ho, hx, hy]
  exact hK
theorem wp_pickF {a : Act} {C : Act → World → Prop} {x y z : Operand} {v : Value} (ho : o.op = .pick x y z) (hx : a.eval x = .bool false) (hz : a.eval z = v) (hK : C (a.put o.dst v) w) : o.wp P a w C Q := by
  unfold Oper.wp execOp
  simp only [ho, hx, hz]
  exact hK
theorem yielded_known {a : Act} {g d : Nat} {c : Bool} (ha : Kn n K a) (hd : (ops[g]?).bind (·.dst) = some d) (hk : look K d = some (.bool c)) : yielded ops a.tmps g = some c := by
  have := ha.knows d _ hk
  unfold yielded
  rw [hd]
  rcases Nat.lt_or_ge d a.tmps.size with h | h
  · simp only [Array.getD_eq_getD_getElem?, Array.getElem?_eq_getElem h, Option.getD_some] at this
    simp [h, this]
  · simp [Array.getD, Nat.not_lt.2 h, undef] at this
theorem WL.want {g d : Nat} {b : Bool} (hg : o.guard = some (g, b)) (hd : (ops[g]?).bind (·.dst) = some d) (hk : look K d = some (.bool b)) (h : WL P ops n K w ({ o with guard := none } :: rest) Q) : WL P ops n K w (o :: rest) Q := fun a ha => by
  have := h a ha
  unfold wpListIn at this ⊢
  have e1 : Region.wanted o (yielded ops a.tmps) = true := by unfold Region.wanted; rw [hg]; simp only [yielded_known ha hd hk]; cases b <;> rfl
  rw [if_pos e1]
  have e2 : Region.wanted { o with guard := none } (yielded ops a.tmps) = true := rfl
  rw [if_pos e2] at this
  exact this
theorem WL.skip {g d : Nat} {b c : Bool} (hg : o.guard = some (g, b)) (hd : (ops[g]?).bind (·.dst) = some d) (hk : look K d = some (.bool c)) (hne : (c == b) = false) (hlt : dstB n.n o.dst = true) (h : WL P ops n (putK K o.dst undef) w rest Q) : WL P ops n K w (o :: rest) Q := fun a ha => by
  unfold wpListIn
  have e1 : Region.wanted o (yielded ops a.tmps) = false := by unfold Region.wanted; rw [hg]; simp only [yielded_known ha hd hk]; simpa using hne
  rw [if_neg (by rw [e1]; decide)]
  exact ⟨fun f _ => fen_fn _ f, h _ (ha.puts hlt undef)⟩
end
section
variable {P : Program} {n : Fr} {K : Known} {w : World} {ops : Array Oper} {o : Oper} {rest : List Oper} {Q : Exit → Act → World → Prop}
end
/-- What is no cells may have been turned, from the block 'B' on. -/
structure Turn (B : Nat) (w w' : World) : Prop where
  os : w'.os = w.os
  tape : w'.tape = w.tape
  output : w'.output = w.output
  size : w.heap.size ≤ w'.heap.size
  block : ∀ (k : Nat) (o : Obj), w.heap[k]? = some o → (o.isCells = true ∨ k < B) → w'.heap[k]? = some o
theorem Turn.of {B : Nat} {w w' : World} {row : Option Nat} (h : w.grownBy w' row) (hr : ∀ r, row = some r → B ≤ r ∧ ∃ o : Obj, w.heap[r]? = some o ∧ o.isCells = false) : Turn B w w' :=
  ⟨h.os, h.tape, h.output, h.size, fun k o hk ho => (h.block k (Array.getElem?_eq_some_iff.1 hk).1 (fun e => by
    obtain ⟨h1, o', h2, h3⟩ := hr k e.symm
    rw [hk] at h2; obtain rfl := Option.some.inj h2
    rcases ho with ho | ho
    · rw [h3] at ho; cases ho
    · omega)).trans hk⟩
theorem below_turn {B : Nat} {w0 w w' : World} (h : Below w0.heap.size w0 w) (t : Turn B w w') (hB : w0.heap.size ≤ B) : Below w0.heap.size w0 w' :=
  ⟨t.os.trans h.os, t.tape.trans h.tape, t.output.trans h.output, Nat.le_trans h.size t.size, fun k hk => by
    have := h.block k hk
    rw [Array.getElem?_eq_getElem hk] at this ⊢
    exact t.block k _ this (.inr (by omega))⟩
theorem blk_turn {B b : Nat} {ty : TypeId} {cs : Array Value} {w w' : World} (h : Blk w b ty cs) (t : Turn B w w') : Blk w' b ty cs := t.block b _ h (.inl rfl)
/-- A walk through what a loop's round does keeps what is no cells. -/
theorem keepsFrom_below {B : Nat} {w w' : World} (h : Below w.heap.size w w') : KeepsFrom B w w' :=
  ⟨h.size, fun k o _ hk _ => (h.block k (Array.getElem?_eq_some_iff.1 hk).1).trans hk⟩
theorem keepsFrom_upd {B g : Nat} {t : TypeId} {cs : Array Value} {w w' : World} (h : Upd g w w') (hb : Blk w g t cs) : KeepsFrom B w w' :=
  ⟨Nat.le_of_eq h.size.symm, fun k o _ hk ho => (h.block k (fun e => by subst e; rw [show w.heap[k]? = _ from hb] at hk; obtain rfl := Option.some.inj hk; cases ho)).trans hk⟩
theorem keepsFrom_chg {B : Nat} {S : Nat → Prop} {w w' : World} (h : Chg S w w') (hb : ∀ (k : Nat) (o : Obj), B ≤ k → w.heap[k]? = some o → o.isCells = false → ¬ S k) : KeepsFrom B w w' :=
  ⟨h.size, fun k o hB hk ho => (h.block k (Array.getElem?_eq_some_iff.1 hk).1 (hb k o hB hk ho)).trans hk⟩
abbrev markOf (D : Nat) : Deferred := { target := .collected D, args := #[] }
/-! ### Leaving behind such loops -/
/-- The mark of such a loop. -/
def Mk (w : World) (D : Nat) : Prop := w.heap[D]? = some (.deferred (some []))
theorem shut_all : ∀ (Ds : List Nat) (w : World), (∀ D ∈ Ds, Mk w D) → Ds.Nodup → ∃ w', Shut (Ds.map markOf) w w' ∧ Chg (fun b => b ∈ Ds) w w' ∧ (∀ (k : Nat) (o : Obj), w.heap[k]? = some o → o.isCells = true → w'.heap[k]? = some o)
  | [], w, _, _ => ⟨w, .nil w, ⟨rfl, rfl, rfl, Nat.le_refl _, fun _ _ _ => rfl⟩, fun _ _ h _ => h⟩
  | D :: r, w, h, hn => by
    have hD := h D (by simp)
    have hlt := (Array.getElem?_eq_some_iff.1 hD).1
    have hg := grownBy_putObj' w D (.deferred none)
    obtain ⟨w', h1, h2, h3⟩ := shut_all r (w.putObj D (.deferred none)) (fun D' hD' => by
      have hne : D ≠ D' := by rintro rfl; exact (List.nodup_cons.1 hn).1 hD'
      exact (World.putObj_heap_other (Ne.symm hne)).trans (h D' (by simp [hD']))) (List.nodup_cons.1 hn).2
    refine ⟨w', .cons D hD h1, ⟨h2.os.trans hg.os, h2.tape.trans hg.tape, h2.output.trans hg.output, Nat.le_trans hg.size h2.size, fun k hk hS => ?_⟩, fun k o hk ho => ?_⟩
    · have hne : some k ≠ some D := fun e => hS (by rw [Option.some.inj e]; simp)
      exact (h2.block k (Nat.lt_of_lt_of_le hk hg.size) (fun hm => hS (by simp [hm]))).trans (hg.block k hk hne)
    · have hne : some k ≠ some D := fun e => by rw [Option.some.inj e, show w.heap[D]? = _ from hD] at hk; obtain rfl := Option.some.inj hk; cases ho
      exact h3 k o ((hg.block k (Array.getElem?_eq_some_iff.1 hk).1 hne).trans hk) ho
section
variable {P : Program} {N : Nat} {r : Option Nat} {ds : List Deferred} {K : Known} {w w' : World} {fn : Func} {R : Ending → World → Prop}
end
section
variable {P : Program} {N : Nat} {ds : List Deferred}
theorem Kn.sets {K : Known} {a : Act} (h : Kn ⟨N, ds, none⟩ K a) : ∀ {ps : List Nat} {vs : List Value}, (ps.all fun p => Nat.blt p N) = true → Kn ⟨N, ds, none⟩ ((ps.zip vs).foldl (fun K p => (p.1, p.2) :: K) K) ⟨(ps.zip vs).foldl (fun t p => t.setIfInBounds p.1 p.2) a.tmps, a.defers⟩ := by
  intro ps
  induction ps generalizing K a with
  | nil => intro vs _; exact h
  | cons p r ih =>
    intro vs hp
    cases vs with
    | nil => exact h
    | cons v vs =>
      simp only [List.all_cons, Bool.and_eq_true] at hp
      exact ih (a := a.put (some p) v) (h.put hp.1 v) hp.2
/-- The law of a loop over a function: of 'x' it hands out 'encs x' into the slots 'ps'; a round changes blocks of 'S' alone. -/
theorem WC.range {α γ : Type} {g : Operand} {ps : List Nat} {assign body : Code} {Q : Exit → Act → World → Prop} {K : Known} {w : World} (S : Nat → Prop) {gf : Nat} {lb : Array Value} (hg : ev K g = some (.func (.func gf) #[] lb)) (hF : callB P gf = true) (hp : (ps.all fun p => Nat.blt p N) = true)
    {encs : α → List Value} {Sx Sp : List α → Prop} {M : Nat} {w0 : World} (hseq : SeqStopsK Fence.wide 0 P gf lb (fun x => (encs x).toArray) (Chg S) Sx Sp M w0)
    (hS : ∀ l, w.heap.size ≤ l → S l) (hb0 : Below w0.heap.size w0 w) (hps : ∀ x, (encs x).length = ps.length)
    (KB : α → γ → Known) (AW : α → γ → World → Prop) (I : List α → World → Prop) (Ix : Code → List α → World → Prop) (hI : ∀ s W W', Turn w.heap.size W W' → I s W → I s W') (hIx : ∀ c s W W', Turn w.heap.size W W' → Ix c s W → Ix c s W')
    (hAW : ∀ x y W W', Turn w.heap.size W W' → AW x y W → AW x y W') (h0 : I [] w)
    (hassign : ∀ (l : Nat) (pre : List α) (x : α) (W : World), I pre W → WC P ⟨N, [], some l⟩ ((ps.zip (encs x)).foldl (fun K p => (p.1, p.2) :: K) K) W assign (Exit.then (fun a' W' => Below W.heap.size W W' ∧ ∃ y, Kn ⟨N, [], some l⟩ (KB x y) a' ∧ AW x y W') (fun _ _ _ => False)))
    (hbody : ∀ (l : Nat) (pre : List α) (x : α) (y : γ) (W : World), I pre W → AW x y W → pre.length < M → WC P ⟨N, [], some l⟩ (KB x y) W body (ownPostG w.heap.size (Chg S) I Ix (pre ++ [x]) W))
    (hdone : ∀ (D : Nat) (xs : List α) (W : World), w.heap.size ≤ D → Sx xs → I xs W → Mk W D → WE ⟨N, markOf D :: ds, none⟩ K W Q .normal)
    (hstop : ∀ (D : Nat) (c : Code) (pre : List α) (W : World), w.heap.size ≤ D → Sp pre → Ix c pre W → Mk W D → WC P ⟨N, markOf D :: ds, none⟩ K W c Q) :
    WC P ⟨N, ds, none⟩ K w (.rangeFunc g ps.toArray assign body) Q := by
  intro a ha
  have turn : ∀ {W W' : World} {row : Option Nat}, W.grownBy W' row → (∀ r, row = some r → w.heap.size ≤ r ∧ ∃ o : Obj, W.heap[r]? = some o ∧ o.isCells = false) → Turn w.heap.size W W' := fun h hr => Turn.of h hr
  refine wpIn_n (r := none) (n := 1) (wpIn_rangeFunc_ownH (F := Fence.wide) (n := 1) rfl (Nat.le_refl _) (ha.ev hg) trivial (callB_enters hF) (encs := fun x => (encs x).toArray) hseq (fun h k => h.trans k) (fun W l o o' hl h _ _ => ?_) hb0 (fun x => by simpa using hps x)
    I Ix (fun s W W' row h hg hr => hI s W W' (turn hg hr) h) (fun c s W W' row h hg hr => hIx c s W W' (turn hg hr) h) h0 (fun x a' W => ∃ y, Kn ⟨N, [], none⟩ (KB x y) a' ∧ AW x y W) (fun x a' s W W' row h hg hr => by
      obtain ⟨y, h1, h2⟩ := h
      exact ⟨y, h1, hAW x y W W' (turn hg hr) h2⟩) ?_ ?_ ?_ ?_)
  · have hg := grownBy_putObj' W l o'
    exact ⟨hg.os, hg.tape, hg.output, hg.size, fun k hk hn => hg.block k hk (fun e => hn (by rw [Option.some.inj e]; exact hS l hl))⟩
  · intro l pre x W C hi hC
    have ha' : Kn ⟨N, [], some l⟩ ((ps.zip (encs x)).foldl (fun K p => (p.1, p.2) :: K) K) ⟨(ps.zip (encs x)).foldl (fun t p => t.setIfInBounds p.1 p.2) a.tmps, []⟩ := by
      have h1 : Kn ⟨N, [], none⟩ K ⟨a.tmps, []⟩ := ⟨ha.size, rfl, ha.knows⟩
      have h2 := h1.sets (vs := encs x) hp
      exact ⟨h2.size, rfl, h2.knows⟩
    have e : ((ps.toArray.zip (encs x).toArray).foldl (fun t (p, v) => t.setIfInBounds p v) a.tmps) = (ps.zip (encs x)).foldl (fun t p => t.setIfInBounds p.1 p.2) a.tmps := by simp
    rw [e]
    refine wpIn_mono (hassign l pre x W hi _ ha') ?_
    intro e a1 W1 h
    cases e with
    | normal =>
      obtain ⟨hb, y, hk, hA⟩ := h
      exact hC a1 W1 (keepsFrom_below hb) (.ofBelow hb) (hI _ _ _ ⟨hb.os, hb.tape, hb.output, hb.size, fun k o hk _ => (hb.block k (Array.getElem?_eq_some_iff.1 hk).1).trans hk⟩ hi) ⟨y, ⟨hk.size, hk.defers, hk.knows⟩, hA⟩
    | _ => exact h
  · rintro l pre x a' W _ _ hi ⟨y, hk, hA⟩ hlen
    exact hbody l pre x y W hi hA hlen a' ⟨hk.size, hk.defers, hk.knows⟩
  · intro D xs W hD hs hi hw
    exact hdone D xs W hD hs hi hw _ ⟨ha.size, by rw [ha.defers], ha.knows⟩
  · intro D c pre W hD hs hi hw
    exact wpIn_n (r := none) (hstop D c pre W hD hs hi hw _ ⟨ha.size, by rw [ha.defers], ha.knows⟩)
end
/-! ### The other side: a function that hands out -/
/-- What has been handed out, as the loop knows it. -/
structure Had {β : Type} (B : Nat) (J : List β → World → Prop) (pre : List β) (w : World) : Prop where
  abide : AbidesFrom B J
  now : J pre w
/-- What a loop's round owes the function that hands out. -/
def Round {β : Type} (P : Program) (l : Nat) (encs : β → List Value) (Kp : World → World → Prop) (M : Nat) (J Jx : List β → World → Prop) : Prop :=
  ∀ pre x W1, J pre W1 → pre.length < M → YieldAt Fence.wide 0 P l (encs x).toArray W1 fun e W' =>
    (e = .returned (.bool true) ∧ J (pre ++ [x]) W' ∧ Kp W1 W') ∨ (e = .returned (.bool false) ∧ Jx (pre ++ [x]) W')
section
variable {P : Program} {w : World} {a : Act} {Q : Exit → Act → World → Prop} {o : Oper}
theorem roundIn_fen {r : Option Nat} {n m l : Nat} {f : FuncId} {tmps : Array Value} {assign body : Code} {R : Ending → World → Prop} (h : RoundIn Fence.wide n P l f tmps assign body w R) : RoundIn (fen r) m P l f tmps assign body w R := by
  refine ⟨fen_fn _ _, fun c cs _ => ?_⟩
  obtain ⟨e, w', q, s⟩ := h.2 c cs (room_wide _)
  refine ⟨e, w', q, ?_⟩
  cases r with
  | none => exact s
  | some k => exact s
/-- The call of what a loop hands in. -/
theorem wp_yield {r : Option Nat} {l : Nat} {f : Operand} {xs : Array Operand} {tys : Array TypeId} {vs : Array Value} {R : Ending → World → Prop} {K : Act → World → Prop} (ho : o.op = .call { callee := .value f, args := xs, argTypes := tys }) (hf : a.eval f = .func (.yield l) #[] #[]) (hv : xs.map a.eval = vs)
    (h : YieldAt Fence.wide 0 P l vs w R) (hK : ∀ e w', R e w' → ∃ v, e = .returned v ∧ K (a.put o.dst v) w') : o.wpIn (fen r) 0 P a w K Q := by
  obtain ⟨fn, tmps, assign, body, hy, hr⟩ := h
  refine ⟨fun f _ => fen_fn r f, ?_⟩
  rw [fen_round, Oper.semAt_eq _ _ _ (fun c hc => by rw [ho] at hc; cases hc)]
  unfold execOp
  simp only [ho, resolve, hv, hf, Deferred.ofValue, invoke, Sem.run_bind, Sem.run_pure, Result.andThen_ok, Array.empty_append, Array.append_empty, hy]
  refine ⟨fun e => (by rw [fen_depth] at e; cases e), (roundIn_fen hr).mono ?_⟩
  intro e w' hR
  obtain ⟨v, rfl, hk⟩ := hK e w' hR
  exact hk
end
/-- The contract of a function that hands out, out of its walk. -/
theorem seq_walk {P : Program} {β : Type} {gf : Nat} {fn : Func} {c : Code} {lb : List Value} {encs : β → List Value} {Kp : World → World → Prop} {S Sp : List β → Prop} {M : Nat} {w0 : World} (hf : P.funcs[gf]? = some fn) (hb : fn.body = some c) (hl : Nat.ble (lb.length + 1) fn.ntmps = true)
    (h : ∀ (l : Nat) (J Jx : List β → World → Prop) (w : World), Below w0.heap.size w0 w → Round P l encs Kp M J Jx → Had w.heap.size J [] w → AbidesFrom w.heap.size Jx →
      WC P ⟨fn.ntmps, [], none⟩ (paramsK 0 (.func (.yield l) #[] #[] :: lb)) w c (bodyPostW P fn fun e W' => (∃ v, e = .returned v) ∧ ((∃ xs, S xs ∧ J xs W') ∨ (∃ pre, Sp pre ∧ Jx pre W')))) :
    SeqStopsK Fence.wide 0 P gf lb.toArray (fun x => (encs x).toArray) Kp S Sp M w0 := by
  intro l J Jx W hW hJ hJx hY h0
  have := h l J Jx W hW hY ⟨hJ, h0⟩ hJx
  have e : #[.func (.yield l) #[] #[]] ++ lb.toArray = (.func (.yield l) #[] #[] :: lb).toArray := by simp
  rw [e]
  exact callsIn_of_wp_marks (n := 0) hf hb trivial (this _ (Kn.enter (Nat.le_of_ble_eq_true (by simpa using hl))))
end Go.Proofs.Ytbohlpfndiiimaa

/- Loops over functions that lay boxes of their own: a round leaves all cells outside 'S' as they are. -/
namespace Go.Proofs.Ytbohlpfndiiimaa
open Go.RowKit Go
set_option linter.unusedVariables false
set_option linter.unusedSimpArgs false
section
variable {S : Nat → Prop} {B : Nat} {w w' w'' : World}
end
section
variable {P : Program} {N : Nat} {ds : List Deferred}
end
section
variable {B : Nat} {w w' : World} {l : List Nat}
end
section
variable {P : Program} {n : Fr} {K : Known} {w : World} {c : Code} {Q : Exit → Act → World → Prop}
end
end Go.Proofs.Ytbohlpfndiiimaa

/- A row of terms whose blocks are told, opened once. -/
namespace Go.Proofs.Ytbohlpfndiiimaa
open Go.RowKit Go
set_option linter.unusedVariables false
set_option linter.unusedSimpArgs false
theorem InTs.open {S : Nat → Prop} {w : World} {l : List T} {a : Option Addr} (h : InTs S w l a 0) : ∃ (b o : Nat) (A : Nat → Option Addr) (C : Nat → Nat), (∀ k, k < l.length → a = some ⟨b, o, none⟩) ∧
    ∀ k, k < l.length → w.cell? ⟨b, o + k * 2, none⟩ = some (.int .i64 (tget l k).f) ∧ w.cell? ⟨b, o + k * 2 + 1, none⟩ = some (.slice (A k) (tget l k).args.length (C k)) ∧ InT S w (tget l k) (.agg #[.int .i64 (tget l k).f, .slice (A k) (tget l k).args.length (C k)]) := by
  have key : ∀ k, k < l.length → ∃ (b o : Nat) (A : Option Addr) (C : Nat), a = some ⟨b, o, none⟩ ∧ w.cell? ⟨b, o + k * 2, none⟩ = some (.int .i64 (tget l k).f) ∧ w.cell? ⟨b, o + k * 2 + 1, none⟩ = some (.slice A (tget l k).args.length C) ∧ InT S w (tget l k) (.agg #[.int .i64 (tget l k).f, .slice A (tget l k).args.length C]) := by
    intro k hk
    obtain ⟨b, o, u, v, e, _, h1, h2, h3⟩ := h.at0 k hk
    rw [tget_lt hk]
    obtain ⟨_, A, C, e2, _⟩ := h3.form
    simp only [Value.agg.injEq, Array.mk.injEq, List.cons.injEq, and_true] at e2
    obtain ⟨rfl, rfl⟩ := e2
    rw [Nat.zero_add] at h1 h2
    exact ⟨b, o, A, C, e, h1, h2, h3⟩
  rcases Nat.eq_zero_or_pos l.length with h0 | h0
  · exact ⟨0, 0, fun _ => none, fun _ => 0, fun k hk => by omega, fun k hk => by omega⟩
  · obtain ⟨b, o, _, _, e, _⟩ := key 0 h0
    have key2 : ∀ k, ∃ (A : Option Addr) (C : Nat), k < l.length → w.cell? ⟨b, o + k * 2, none⟩ = some (.int .i64 (tget l k).f) ∧ w.cell? ⟨b, o + k * 2 + 1, none⟩ = some (.slice A (tget l k).args.length C) ∧ InT S w (tget l k) (.agg #[.int .i64 (tget l k).f, .slice A (tget l k).args.length C]) := by
      intro k
      by_cases hk : k < l.length
      · obtain ⟨b', o', A, C, e', h1, h2, h3⟩ := key k hk
        rw [e] at e'
        simp only [Option.some.injEq, Addr.mk.injEq, and_true] at e'
        obtain ⟨rfl, rfl⟩ := e'
        exact ⟨A, C, fun _ => ⟨h1, h2, h3⟩⟩
      · exact ⟨none, 0, fun h => absurd h hk⟩
    refine ⟨b, o, fun k => Classical.choose (key2 k), fun k => Classical.choose (Classical.choose_spec (key2 k)), fun _ _ => e, fun k hk => Classical.choose_spec (Classical.choose_spec (key2 k)) hk⟩
end Go.Proofs.Ytbohlpfndiiimaa

/- Literals, clauses: how they lie in memory. -/
namespace Go.Proofs.Ytbohlpfndiiimaa
open Go.RowKit Go
set_option linter.unusedVariables false
set_option linter.unusedSimpArgs false
/-- A literal. -/
structure Li where
  neg : Bool
  l : T
  r : T
instance : Inhabited Li := ⟨⟨false, .mk 0 [], .mk 0 []⟩⟩
end Go.Proofs.Ytbohlpfndiiimaa

/- Terms, literals, clauses that are built in a region: what is known of each. -/
namespace Go.Proofs.Ytbohlpfndiiimaa
open Go.RowKit Go
set_option linter.unusedVariables false
set_option linter.unusedSimpArgs false
end Go.Proofs.Ytbohlpfndiiimaa

/- Regions in whatever order: a call that makes something, calls that read it, a new box into which one value is stored. -/
namespace Go.Proofs.Ytbohlpfndiiimaa
open Go.RowKit Go
set_option linter.unusedVariables false
def ycells : Value → Array Value
  | .agg cs => cs
  | v => #[v]
section
variable {w0 w w' : World} {t g : Nat} {z : Array Value} {y : Value} {x va vp : Option Value} {P1 : World → Value → Prop}
end
section
variable {P : Program} {ops : Array Oper} {P1 : World → Value → Prop}
def valR1 (l : List (Bool × Value)) (i : Nat) (v : Value) : Prop := (l.getD i (true, undef)).1 = true → v = (l.getD i (true, undef)).2
theorem valVal1 {l : List (Bool × Value)} {i : Nat} {v x : Value} {β : Bool} (h : valR1 l i v) (e : l.getD i (true, undef) = (β, x)) (hβ : β = true) : v = x := by
  have := h (by rw [e]; exact hβ)
  rw [e] at this; exact this
end
end Go.Proofs.Ytbohlpfndiiimaa

/- Regions in whatever order: a call whose outcome is one of many, and operations that hand its outcome on. -/
namespace Go.Proofs.Ytbohlpfndiiimaa
open Go.RowKit Go
set_option linter.unusedVariables false
section
variable {X : Type} {w0 w w' : World} {F : X → Nat → Value} {Px : X → World → Prop} {vs : List (Option Value)}
end
section
variable {P : Program} {ops : Array Oper} {X : Type} {F : X → Nat → Value} {Px : X → World → Prop}
end
end Go.Proofs.Ytbohlpfndiiimaa

/- Copies of terms: the program and the document. -/
namespace Go.Proofs.Ytbohlpfndiiimaa
open Go.RowKit Go
set_option linter.unusedVariables false
set_option linter.unusedSimpArgs false
theorem len_le_sizeL (l : List T) : l.length ≤ T.sizeL l := by
  induction l with
  | nil => simp [T.sizeL]
  | cons t r ih => simp only [List.length_cons, T.sizeL]; have : 1 ≤ t.size := by rw [T.size_eq]; omega
                   omega
theorem take_snocT {l : List T} {k : Nat} (h : k < l.length) : l.take k ++ [tget l k] = l.take (k + 1) := by
  rw [List.take_succ_eq_append_getElem h, tget_lt h]
theorem size_at {l : List T} {k N : Nat} {f : Int} (h : k < l.length) (hz : (T.mk f l).size ≤ N) : (tget l k).size ≤ N := by
  have h1 := T.size_le_sizeL (tget_mem h)
  simp only [T.size] at hz
  omega
set_option maxRecDepth 100000 in
theorem rcopy_any : ∀ (t : T) (w : World) (v : Value), t.size ≤ 4294967296 → IsT w t v → Calls Try.prog 20 #[v] w (Ret fun v' w' => NewT w w' t v' ∧ Below w.heap.size w w') := by
  refine T.ind (fun f l ih => ?_)
  intro w v hz hv
  have hlen := len_le_sizeL l
  have hz' := hz
  simp only [T.size] at hz'
  obtain ⟨hf, a, c, rfl, hc, hm, hl⟩ := hv
  refine Calls.walk (l := [.agg #[.int .i64 f, .slice a l.length c]]) Try.func20 rfl (by kernel_rfl) ?_
  refine WC.sub (K' := [(0, .agg #[.int .i64 f, .slice a l.length c])]) ⟨rfl, trivial⟩ ?_
  refine WC.seq ?_
  refine WC.region ?_
  refine WL.step (post := NewBlk w 35 #[.int .i64 f, .slice a l.length c]) rfl rfl rfl (fun za zC zh zk => box_35 rfl (zh.ev rfl) (zk _ _ (newBlk _ _ _))) ?_
  rintro _ w1 ⟨g2, rfl, hg3, hB4, hb5, hz6⟩
  have hl7 : w.heap.size ≤ g2 := by omega
  refine WL.step (post := NewBlk w1 35 #[.int .i64 0, .slice none 0 0]) rfl rfl rfl (fun za zC zh zk => alloc_35 rfl (zk _ _ (newBlk _ _ _))) ?_
  rintro _ w8 ⟨g9, rfl, hg10, hB11, hb12, hz13⟩
  have hl14 : g2 < g9 := by have z1 := hB4.lt; omega
  have hl15 : w.heap.size ≤ g9 := by have z2 := (hb5).size; omega
  refine WL.nil ?_
  refine WE.next ?_
  refine WC.seq ?_
  refine WC.region ?_
  refine WL.val _ rfl rfl rfl (fun za zC zh zk => fld_35_0 rfl (zh.ev rfl) zk) ?_
  have hB16 := hB4.below hb12
  refine WL.val _ rfl rfl rfl (fun za zC zh zk => ld_3 rfl (zh.ev rfl) ((hB16.cell 0).trans rfl) zk) ?_
  refine WL.val (.agg #[.int .i64 f, .slice none 0 0]) rfl rfl rfl (fun za zC zh zk => build_35_0 rfl (zh.ev rfl) zk) ?_
  refine WL.step (post := NewBlk w8 35 #[.int .i64 0, .slice none 0 0]) rfl rfl rfl (fun za zC zh zk => alloc_35 rfl (zk _ _ (newBlk _ _ _))) ?_
  rintro _ w17 ⟨g18, rfl, hg19, hB20, hb21, hz22⟩
  have hl23 : g2 < g18 := by have z1 := hB16.lt; omega
  have hl24 : g9 < g18 := by have z1 := hB11.lt; omega
  have hb25 : Below w.heap.size w w8 := (bstep hb5 hb12)
  have hl26 : w.heap.size ≤ g18 := by have z2 := (hb25).size; omega
  refine WL.step (post := fun _ w' => Upd g18 w17 w' ∧ Blk w' g18 35 #[.int .i64 f, .slice none 0 0]) rfl rfl rfl (fun za zC zh zk => st_35 rfl (zh.ev rfl) (zh.ev rfl) rfl rfl hB20 (by first | decide | simp) (fun v => zk v _ ⟨(Upd.at_ _ _ _ _).trans (Upd.at_ _ _ _ _), (hB20.set_ 0 _).set_ 1 _⟩)) ?_
  rintro v30 w27 ⟨hu28, hB29⟩
  have hb31 : Below w.heap.size w w17 := (bstep hb25 hb21)
  have hb32 := upd_below hb31 hu28 (by omega)
  have hB33 := hB16.below hb21
  have hB34 := upd_blk hB33 hu28 (by omega)
  have hB35 := hB11.below hb21
  have hB36 := upd_blk hB35 hu28 (by omega)
  refine WL.nil ?_
  refine WE.next ?_
  refine WC.seq ?_
  refine WC.seq ?_
  refine WC.region ?_
  refine WL.asg rfl rfl rfl rfl rfl ?_
  refine WL.nil ?_
  refine WE.next ?_
  refine WC.block ?_
  have hl37 : g2 < w27.heap.size := by have z1 := hB34.lt; omega
  have hl38 : g9 < w27.heap.size := by have z1 := hB36.lt; omega
  have hl39 : g18 < w27.heap.size := by have z1 := hB29.lt; omega
  have hl40 : w.heap.size ≤ w27.heap.size := (hb32).size
  have hR41 : RowE eltT w27 w27.heap.size 35 none 0 0 [] := RowE.nil
  refine WC.loop (X := Option Addr × Nat × Nat) (fun x => l.length - x.2.2) (fun x => [(0, .agg #[.int .i64 f, .slice a l.length c]), (1, .pointer (some ⟨g2, 0, none⟩)), (2, .pointer (some ⟨g9, 0, none⟩)), (3, .pointer (some ⟨g18, 0, none⟩)), (4, .int .i64 (((x.2.2 : Nat) : Int)))]) (fun x w42 => x.2.2 ≤ l.length ∧ w27.heap.size ≤ (w42).heap.size ∧ Below w.heap.size w w42 ∧ Blk w42 g2 35 #[.int .i64 f, .slice a l.length c] ∧ Blk w42 g9 35 #[.int .i64 0, .slice none 0 0] ∧ Blk w42 g18 35 #[.int .i64 f, .slice x.1 x.2.2 x.2.1] ∧ RowE eltT (w42) w27.heap.size 35 x.1 x.2.1 x.2.2 (l.take x.2.2)) ((none, 0, 0)) ⟨rfl, rfl, rfl, rfl, rfl, trivial⟩ ?_ ?_
  · exact ⟨Nat.zero_le _, Nat.le_refl _, hb32, hB34, hB36, hB29, (by simpa using hR41)⟩
  · rintro x w42 ⟨hk, hBw, hb43, hB44, hB45, hB46, ho47⟩
    skip
    refine WC.seq ?_
    refine WC.seq ?_
    refine WC.region ?_
    refine WL.mv rfl rfl rfl rfl rfl ?_
    refine WL.val _ rfl rfl rfl (fun za zC zh zk => fld_35_1 rfl (zh.ev rfl) zk) ?_
    refine WL.val _ rfl rfl rfl (fun za zC zh zk => ld_25 rfl (zh.ev rfl) ((hB44.cell 1).trans rfl) zk) ?_
    refine WL.val (.int .i64 (((l.length : Nat) : Int))) rfl rfl rfl (fun za zC zh zk => len_25 rfl (zh.ev rfl) zk) ?_
    refine WL.val (.bool ((decide ((((x.2.2 : Nat) : Int) : Int) < (((l.length : Nat) : Int) : Int))))) rfl rfl rfl (fun za zC zh zk => lss_3 rfl (zh.ev rfl) (zh.ev rfl) zk) ?_
    refine WL.nil ?_
    refine WE.next ?_
    refine WC.cond rfl (fun h48 => ?_) (fun h48 => ?_)
    · have h48 : (((x.2.2 : Nat) : Int) : Int) < (((l.length : Nat) : Int) : Int) := by simpa using h48
      refine WC.skip ?_
      refine WE.next ?_
      refine WC.seq ?_
      refine WC.block ?_
      obtain ⟨b49, o50, A51, C52, ha53, hc54⟩ := IsTs.open hl
      have hSlt : ∀ b, (fun b => b = g18 ∨ (Value.slice x.1 x.2.2 x.2.1).ownBlock = some b) b → b < w42.heap.size := fun b h => h.elim (fun e => e ▸ hB46.lt) (fun h => (ho47.lt b h).2)
      have hSlo : ∀ b, (fun b => b = g18 ∨ (Value.slice x.1 x.2.2 x.2.1).ownBlock = some b) b → b = g18 ∨ (w27.heap.size ≤ b ∧ b < w42.heap.size) := fun b h => h.imp id (fun h => ho47.lt b h)
      have hBW : w27.heap.size ≤ w42.heap.size := by have z1 := hBw; omega
      have hlL : x.2.2 = ((l.take x.2.2)).length := ho47.len
      refine WC.tail2 (S := ((fun b => b = g18 ∨ (Value.slice x.1 x.2.2 x.2.1).ownBlock = some b))) [(true, .val (.pointer (some ⟨g18, 1, none⟩))), (true, .val (.slice x.1 x.2.2 x.2.1)), (true, .val (.pointer (some ⟨g2, 1, none⟩))), (true, .val (.slice a l.length c)), (true, .val (.int .i64 (((x.2.2 : Nat) : Int)))), (true, .val (.pointer (some ⟨b49, o50 + x.2.2 * 2, none⟩))), (true, .val (.agg #[.int .i64 ((tget l x.2.2).f), .slice ((A51 x.2.2)) ((tget l x.2.2).args.length) ((C52 x.2.2))])), (true, .mem (fun v w' => NewT w42 w' ((tget l x.2.2)) v) (fun v w w' hc h => InT.chg h hc (fun b hb hs => by have z := hSlt b hs; omega))), (true, .mem (fun v w' => OneRow eltT w42 35 ((tget l x.2.2)) v w') (fun v w w' hc h => h.chg hc hSlt)), (true, .val undef), (true, .val (.pointer (some ⟨g18, 1, none⟩))), (true, .val undef)] [(0, .agg #[.int .i64 f, .slice a l.length c]), (1, .pointer (some ⟨g2, 0, none⟩)), (2, .pointer (some ⟨g9, 0, none⟩)), (3, .pointer (some ⟨g18, 0, none⟩)), (4, .int .i64 (((x.2.2 : Nat) : Int))), (12, .bool ((decide ((((x.2.2 : Nat) : Int) : Int) < (((l.length : Nat) : Int) : Int)))))] 9 11 ((x.2.2 + 1)) 24 (fun ra rc wz => RowE eltT wz w27.heap.size 35 ra rc (x.2.2 + 1) ((l.take x.2.2 ++ [tget l x.2.2])) ∧ Blk wz g18 35 #[.int .i64 f, .slice x.1 x.2.2 x.2.1]) (fun ra rc wz => RowE eltT wz w27.heap.size 35 ra rc (x.2.2 + 1) ((l.take x.2.2 ++ [tget l x.2.2])) ∧ Blk wz g18 35 #[.int .i64 f, .slice ra ((x.2.2 + 1)) rc]) (by decide) (fun ra rc w w' hb h => ⟨h.1.below hb, h.2.below hb⟩) (fun ra rc w w' hb h => ⟨h.1.below hb, h.2.below hb⟩) ⟨rfl, rfl, rfl, rfl, rfl, rfl, trivial⟩ (by kernel_rfl) (by kernel_rfl) (by kernel_rfl) (by kernel_rfl) (by kernel_rfl) ?_ ?_
      · refine ⟨.inl ⟨rfl, true, .none rfl, (fun gg b h => by cases h), fun h w => optUndef h, fun zβ za zw zc => ?_⟩, ?_⟩
        · exact fld_35_1 rfl (zc.kn.ev rfl) ⟨_, rfl, Below.refl _ _, optDef zβ rfl⟩
        refine ⟨.inl ⟨rfl, true, .none rfl, (fun gg b h => by cases h), fun h w => optUndef h, fun zβ za zw zc => ?_⟩, ?_⟩
        · exact ld_25 rfl ((evt za 15).trans (optSVal (zc.dep 0 15 (by kernel_rfl) (by decide)) rfl rfl)) (bkeeps (zc.early (by kernel_rfl)) _ _ ((hB46.cell 1).trans rfl)) ⟨_, rfl, Below.refl _ _, optDef zβ rfl⟩
        refine ⟨.inl ⟨rfl, true, .none rfl, (fun gg b h => by cases h), fun h w => optUndef h, fun zβ za zw zc => ?_⟩, ?_⟩
        · exact fld_35_1 rfl (zc.kn.ev rfl) ⟨_, rfl, Below.refl _ _, optDef zβ rfl⟩
        refine ⟨.inl ⟨rfl, true, .none rfl, (fun gg b h => by cases h), fun h w => optUndef h, fun zβ za zw zc => ?_⟩, ?_⟩
        · exact ld_25 rfl ((evt za 17).trans (optSVal (zc.dep 2 17 (by kernel_rfl) (by decide)) rfl rfl)) (bkeeps (zc.early (by kernel_rfl)) _ _ ((hB44.cell 1).trans rfl)) ⟨_, rfl, Below.refl _ _, optDef zβ rfl⟩
        refine ⟨.inl ⟨rfl, true, .none rfl, (fun gg b h => by cases h), fun h w => optUndef h, fun zβ za zw zc => ?_⟩, ?_⟩
        · exact wp_move rfl (zc.kn.ev rfl) ⟨_, rfl, Below.refl _ _, optDef zβ rfl⟩
        refine ⟨.inl ⟨rfl, true, .none rfl, (fun gg b h => by cases h), fun h w => optUndef h, fun zβ za zw zc => ?_⟩, ?_⟩
        · exact ix_25 (k := x.2.2) rfl ((evt za 18).trans (optSVal (zc.dep 3 18 (by kernel_rfl) (by decide)) rfl rfl)) (ha53 x.2.2 (by first | omega | (simp; omega))) ((evt za 19).trans (optSVal (zc.dep 4 19 (by kernel_rfl) (by decide)) rfl rfl)) (by first | omega | (simp; omega)) ⟨_, rfl, Below.refl _ _, optDef zβ rfl⟩
        refine ⟨.inl ⟨rfl, true, .none rfl, (fun gg b h => by cases h), fun h w => optUndef h, fun zβ za zw zc => ?_⟩, ?_⟩
        · exact ld_35 rfl ((evt za 20).trans (optSVal (zc.dep 5 20 (by kernel_rfl) (by decide)) rfl rfl)) (bkeeps (bstep hb43 (zc.early (by kernel_rfl))) _ _ (hc54 x.2.2 (by first | omega | (simp; omega))).1) (bkeeps (bstep hb43 (zc.early (by kernel_rfl))) _ _ (hc54 x.2.2 (by first | omega | (simp; omega))).2.1) ⟨_, rfl, Below.refl _ _, optDef zβ rfl⟩
        refine ⟨.inl ⟨rfl, true, .none rfl, (fun gg b h => by cases h), fun h w => optUndef h, fun zβ za zw zc => ?_⟩, ?_⟩
        · exact wp_call (by kernel_rfl) rfl (hv1 ((evt za 21).trans (optSVal (zc.dep 6 21 (by kernel_rfl) (by decide)) rfl rfl))) (ih _ (tget_mem (by omega)) _ _ (size_at (by omega) hz) (IsT.below (bstep hb43 (zc.early (by kernel_rfl))) (hc54 x.2.2 (by first | omega | (simp; omega))).2.2)) (fun v w' h => ⟨v, rfl, h.2, optDef zβ (InT.mono (fun b hb _ => Nat.le_trans (zc.early (by kernel_rfl)).size hb) h.1)⟩)
        refine ⟨.inl ⟨rfl, true, .none rfl, (fun gg b h => by cases h), fun h w => optUndef h, fun zβ za zw zc => ?_⟩, ?_⟩
        · have zv := (optSMem (zc.dep 7 22 (by kernel_rfl) (by decide)) rfl rfl)
          obtain ⟨_, a1, c1, e1, _⟩ := zv.form
          rw [e1] at zv
          exact row_25_1 rfl ((evt za 22).trans e1) ⟨_, rfl, balloc _ _, optDef zβ ⟨_, _, rfl, zc.chg.size, Blk.new' rfl, _, _, rfl, zv.below (balloc _ _)⟩⟩
        refine ⟨.inr (.inl ⟨rfl, rfl, fun za zw zc => ?_⟩), ?_⟩
        · obtain ⟨g1, cs, e1, hg1, hB1, hin⟩ := (optSMem (zc.dep 8 23 (by kernel_rfl) (by decide)) rfl rfl)
          exact wp_appE (E := eltT) (size := 2) (bytes := 32) (z := .agg #[.int .i64 0, .slice none 0 0]) rfl Try.underlying25 (by kernel_rfl) rfl (by decide) rfl ((evt za 16).trans (optSVal (zc.dep 1 16 (by kernel_rfl) (by decide)) rfl rfl)) ((evt za 23).trans e1) (ho47.below zc.below) hB1 (eltT.mono (fun b hb _ => ⟨by omega, fun e => by have z := (ho47.lt b e).2; omega⟩) hin) (by omega) (by omega) (by have z := zc.below.size; omega) (fun ra rc w' h1 h2 _ => ⟨ra, rc, rfl, ⟨h1, chg_blk (hB46.below zc.below) h2 (fun e => by have z := (ho47.lt _ e).1; omega)⟩, h2.mono (fun b hb => .inr hb)⟩)
        refine ⟨.inl ⟨rfl, true, .none rfl, (fun gg b h => by cases h), fun h w => optUndef h, fun zβ za zw zc => ?_⟩, ?_⟩
        · exact fld_35_1 rfl (zc.kn.ev rfl) ⟨_, rfl, Below.refl _ _, optDef zβ rfl⟩
        refine ⟨.inr (.inr ⟨rfl, rfl, 24, by kernel_rfl, fun za zw ra rc zk zd zv zg => ?_⟩), ?_⟩
        · exact st_25 rfl ((evt za 25).trans (optSVal (zd 10 25 (by kernel_rfl) (by decide)) rfl rfl)) ((evt za 24).trans zv) zg.2 (by first | decide | simp) (fun v => ⟨v, rfl, ⟨zg.1.upd (Upd.at_ _ _ _ _) (by omega), zg.2.set_ 1 _⟩, .ofUpd (Upd.at_ _ _ _ _) (.inl rfl)⟩)
        exact trivial
      · intro za w55 ra58 rc59 zh zv hG56 hc57 zu
        have hb60 := chg_below hb43 hc57 (fun b hb => (fun h => by rcases hSlo _ h with h | h <;> omega))
        have hB61 := chg_blk hB44 hc57 (fun h => by rcases hSlo _ h with h | h <;> omega)
        have hB62 := chg_blk hB45 hc57 (fun h => by rcases hSlo _ h with h | h <;> omega)
        clear zu
        refine WE.go zh ?_
        refine WE.blockNormal ?_
        refine WE.next ?_
        refine WC.region ?_
        refine WL.mv rfl rfl rfl rfl rfl ?_
        refine WL.val (.int .i64 ((((x.2.2 + 1) : Nat) : Int))) rfl rfl rfl (fun za zC zh zk => addb_3 rfl (zh.ev rfl) (zh.ev rfl) (wrap_eq (by omega) (by omega) (by omega)) zk) ?_
        refine WL.asg rfl rfl rfl rfl rfl ?_
        refine WL.nil ?_
        refine WE.round ((ra58, rc59, x.2.2 + 1)) ⟨rfl, rfl, rfl, rfl, rfl, trivial⟩ ?_ ?_
        · exact ⟨by (try dsimp only at *); omega, (Nat.le_trans hBw hc57.size), hb60, hB61, hB62, hG56.2, (by rw [← take_snocT (by omega)]; exact hG56.1)⟩
        · dsimp only; omega
    · have h48 : ¬ ((((x.2.2 : Nat) : Int) : Int) < (((l.length : Nat) : Int) : Int)) := by simpa using h48
      refine WC.exit ?_
      refine WE.thenExit ?_
      refine WE.thenExit ?_
      refine WE.blockIs rfl ?_
      refine WE.next ?_
      refine WC.seq ?_
      refine WC.region ?_
      refine WL.val _ rfl rfl rfl (fun za zC zh zk => ld_35 rfl (zh.ev rfl) ((hB46.cell 0).trans rfl) ((hB46.cell 1).trans rfl) zk) ?_
      refine WL.step (post := fun _ w' => Upd g9 w42 w' ∧ Blk w' g9 35 #[.int .i64 f, .slice x.1 x.2.2 x.2.1]) rfl rfl rfl (fun za zC zh zk => st_35 rfl (zh.ev rfl) (zh.ev rfl) rfl rfl hB45 (by first | decide | simp) (fun v => zk v _ ⟨(Upd.at_ _ _ _ _).trans (Upd.at_ _ _ _ _), (hB45.set_ 0 _).set_ 1 _⟩)) ?_
      rintro v66 w63 ⟨hu64, hB65⟩
      have hb67 := upd_below hb43 hu64 (by omega)
      have hB68 := upd_blk hB44 hu64 (by omega)
      have hB69 := upd_blk hB46 hu64 (by omega)
      have ho70 := ho47.upd hu64 (by omega)
      refine WL.nil ?_
      refine WE.next ?_
      refine WC.ret ?_
      refine WE.retAny (v := .agg #[.int .i64 f, .slice x.1 x.2.2 x.2.1]) (fun za zh => ?_) ?_
      · have z0 : za.tmps[2]?.getD undef = .pointer (some ⟨g9, 0, none⟩) := by rw [← Array.getD_eq_getD_getElem?]; exact zh.knows 2 _ rfl
        have y0 : w63.cell? ⟨g9, 0, none⟩ = some (.int .i64 f) := ((hB65.cell 0).trans rfl)
        have y1 : w63.cell? ⟨g9, 1, none⟩ = some (.slice x.1 x.2.2 x.2.1) := ((hB65.cell 1).trans rfl)
        simp [results, Try.results20, z0, y0, y1, go_sem]
      · refine ⟨_, rfl, ?_, hb67⟩
        have z := ho70
        rw [List.take_of_length_le (by omega)] at z
        exact newT_row hf z (by omega)
set_option maxRecDepth 100000 in
theorem copy_any : ∀ (t : T) (w : World) (v : Value), t.size ≤ 4294967296 → IsT w t v → Calls Try.prog 63 #[v] w (Ret fun v' w' => NewT w w' t v' ∧ Below w.heap.size w w') := by
  refine T.ind (fun f l ih => ?_)
  intro w v hz hv
  have hlen := len_le_sizeL l
  have hz' := hz
  simp only [T.size] at hz'
  obtain ⟨hf, a, c, rfl, hc, hm, hl⟩ := hv
  refine Calls.walk (l := [.agg #[.int .i64 f, .slice a l.length c]]) Try.func63 rfl (by kernel_rfl) ?_
  refine WC.sub (K' := [(0, .agg #[.int .i64 f, .slice a l.length c])]) ⟨rfl, trivial⟩ ?_
  refine WC.seq ?_
  refine WC.region ?_
  refine WL.step (post := NewBlk w 35 #[.int .i64 f, .slice a l.length c]) rfl rfl rfl (fun za zC zh zk => box_35 rfl (zh.ev rfl) (zk _ _ (newBlk _ _ _))) ?_
  rintro _ w1 ⟨g2, rfl, hg3, hB4, hb5, hz6⟩
  have hl7 : w.heap.size ≤ g2 := by omega
  refine WL.step (post := NewBlk w1 35 #[.int .i64 0, .slice none 0 0]) rfl rfl rfl (fun za zC zh zk => alloc_35 rfl (zk _ _ (newBlk _ _ _))) ?_
  rintro _ w8 ⟨g9, rfl, hg10, hB11, hb12, hz13⟩
  have hl14 : g2 < g9 := by have z1 := hB4.lt; omega
  have hl15 : w.heap.size ≤ g9 := by have z2 := (hb5).size; omega
  refine WL.nil ?_
  refine WE.next ?_
  refine WC.seq ?_
  refine WC.region ?_
  refine WL.val _ rfl rfl rfl (fun za zC zh zk => fld_35_0 rfl (zh.ev rfl) zk) ?_
  have hB16 := hB4.below hb12
  refine WL.val _ rfl rfl rfl (fun za zC zh zk => ld_3 rfl (zh.ev rfl) ((hB16.cell 0).trans rfl) zk) ?_
  refine WL.val (.agg #[.int .i64 f, .slice none 0 0]) rfl rfl rfl (fun za zC zh zk => build_35_0 rfl (zh.ev rfl) zk) ?_
  refine WL.step (post := NewBlk w8 35 #[.int .i64 0, .slice none 0 0]) rfl rfl rfl (fun za zC zh zk => alloc_35 rfl (zk _ _ (newBlk _ _ _))) ?_
  rintro _ w17 ⟨g18, rfl, hg19, hB20, hb21, hz22⟩
  have hl23 : g2 < g18 := by have z1 := hB16.lt; omega
  have hl24 : g9 < g18 := by have z1 := hB11.lt; omega
  have hb25 : Below w.heap.size w w8 := (bstep hb5 hb12)
  have hl26 : w.heap.size ≤ g18 := by have z2 := (hb25).size; omega
  refine WL.step (post := fun _ w' => Upd g18 w17 w' ∧ Blk w' g18 35 #[.int .i64 f, .slice none 0 0]) rfl rfl rfl (fun za zC zh zk => st_35 rfl (zh.ev rfl) (zh.ev rfl) rfl rfl hB20 (by first | decide | simp) (fun v => zk v _ ⟨(Upd.at_ _ _ _ _).trans (Upd.at_ _ _ _ _), (hB20.set_ 0 _).set_ 1 _⟩)) ?_
  rintro v30 w27 ⟨hu28, hB29⟩
  have hb31 : Below w.heap.size w w17 := (bstep hb25 hb21)
  have hb32 := upd_below hb31 hu28 (by omega)
  have hB33 := hB16.below hb21
  have hB34 := upd_blk hB33 hu28 (by omega)
  have hB35 := hB11.below hb21
  have hB36 := upd_blk hB35 hu28 (by omega)
  refine WL.nil ?_
  refine WE.next ?_
  refine WC.seq ?_
  refine WC.seq ?_
  refine WC.region ?_
  refine WL.val _ rfl rfl rfl (fun za zC zh zk => fld_35_1 rfl (zh.ev rfl) zk) ?_
  refine WL.val _ rfl rfl rfl (fun za zC zh zk => ld_25 rfl (zh.ev rfl) ((hB34.cell 1).trans rfl) zk) ?_
  refine WL.val (.int .i64 (((l.length : Nat) : Int))) rfl rfl rfl (fun za zC zh zk => len_25 rfl (zh.ev rfl) zk) ?_
  refine WL.val (.bool ((decide ((0 : Int) < (((l.length : Nat) : Int) : Int))))) rfl rfl rfl (fun za zC zh zk => gtr_3 rfl (zh.ev rfl) (zh.ev rfl) zk) ?_
  refine WL.nil ?_
  refine WE.next ?_
  refine WC.cond rfl (fun h37 => ?_) (fun h37 => ?_)
  · have h37 : (0 : Int) < (((l.length : Nat) : Int) : Int) := by simpa using h37
    refine WC.region ?_
    refine WL.val _ rfl rfl rfl (fun za zC zh zk => fld_35_1 rfl (zh.ev rfl) zk) ?_
    refine WL.val _ rfl rfl rfl (fun za zC zh zk => ld_25 rfl (zh.ev rfl) ((hB34.cell 1).trans rfl) zk) ?_
    refine WL.val (.int .i64 (((l.length : Nat) : Int))) rfl rfl rfl (fun za zC zh zk => len_25 rfl (zh.ev rfl) zk) ?_
    refine WL.step (post := fun v w' => ∃ g, v = .slice (some ⟨g, 0, none⟩) l.length l.length ∧ w27.heap.size = g ∧ Blk w' g 35 (madeCells (Value.cells (.agg #[.int .i64 0, .slice none 0 0])) (l.length * 2)) ∧ Below w27.heap.size w27 w') rfl rfl rfl (fun za zC zh zk => wp_mkE (z := .agg #[.int .i64 0, .slice none 0 0]) (size := 2) (bytes := 32) Try.underlying25 (by kernel_rfl) (by decide) rfl (zh.ev rfl) (zh.ev rfl) (by omega) (zk _ _ ⟨_, rfl, rfl, Blk.new' rfl, balloc _ _⟩)) ?_
    rintro _ w38 ⟨g39, rfl, hg40, hB41, hb42⟩
    have hl44 : g2 < g39 := by have z1 := hB34.lt; omega
    have hl45 : g9 < g39 := by have z1 := hB36.lt; omega
    have hl46 : g18 < g39 := by have z1 := hB29.lt; omega
    have hl47 : w.heap.size ≤ g39 := by have z2 := (hb32).size; omega
    have hM43 : MRow eltT w38 g39 g39 35 l.length (madeCells (Value.cells (.agg #[.int .i64 0, .slice none 0 0])) (l.length * 2)).toList [] := MRow.startT hB41 (Nat.le_refl _)
    refine WL.val _ rfl rfl rfl (fun za zC zh zk => fld_35_1 rfl (zh.ev rfl) zk) ?_
    have hB48 := hB29.below hb42
    refine WL.step (post := fun _ w' => Upd g18 w38 w' ∧ Blk w' g18 35 #[.int .i64 f, .slice ((some ⟨g39, 0, none⟩)) l.length l.length]) rfl rfl rfl (fun za zC zh zk => st_25 rfl (zh.ev rfl) (zh.ev rfl) hB48 (by first | decide | simp) (fun v => zk v _ ⟨Upd.at_ _ _ _ _, hB48.set_ 1 _⟩)) ?_
    rintro v52 w49 ⟨hu50, hB51⟩
    have hb53 : Below w.heap.size w w38 := (bstep hb32 hb42)
    have hb54 := upd_below hb53 hu50 (by omega)
    have hB55 := hB34.below hb42
    have hB56 := upd_blk hB55 hu50 (by omega)
    have hB57 := hB36.below hb42
    have hB58 := upd_blk hB57 hu50 (by omega)
    have ho59 := hM43.upd hu50 (by omega)
    refine WL.nil ?_
    refine WE.next ?_
    refine WC.seq ?_
    refine WC.seq ?_
    refine WC.region ?_
    refine WL.val _ rfl rfl rfl (fun za zC zh zk => fld_35_1 rfl (zh.ev rfl) zk) ?_
    refine WL.val _ rfl rfl rfl (fun za zC zh zk => ld_25 rfl (zh.ev rfl) ((hB56.cell 1).trans rfl) zk) ?_
    refine WL.val (.int .i64 (((l.length : Nat) : Int))) rfl rfl rfl (fun za zC zh zk => len_25 rfl (zh.ev rfl) zk) ?_
    refine WL.mv rfl rfl rfl rfl rfl ?_
    refine WL.nil ?_
    refine WE.next ?_
    refine WC.block ?_
    refine WC.loop (X := Nat) (fun k => l.length - k) (fun k => [(0, .agg #[.int .i64 f, .slice a l.length c]), (1, .pointer (some ⟨g2, 0, none⟩)), (2, .pointer (some ⟨g9, 0, none⟩)), (3, .pointer (some ⟨g18, 0, none⟩)), (12, .bool ((decide ((0 : Int) < (((l.length : Nat) : Int) : Int))))), (19, .slice a l.length c), (20, .int .i64 (((l.length : Nat) : Int))), (21, .int .i64 (((k : Nat) : Int)))]) (fun k w60 => k ≤ l.length ∧ Below w.heap.size w w60 ∧ Blk w60 g2 35 #[.int .i64 f, .slice a l.length c] ∧ Blk w60 g9 35 #[.int .i64 0, .slice none 0 0] ∧ Blk w60 g18 35 #[.int .i64 f, .slice ((some ⟨g39, 0, none⟩)) l.length l.length] ∧ MRow eltT (w60) g39 g39 35 l.length (madeCells (Value.cells (.agg #[.int .i64 0, .slice none 0 0])) (l.length * 2)).toList (l.take k)) 0 ⟨rfl, rfl, rfl, rfl, rfl, rfl, rfl, rfl, trivial⟩ ?_ ?_
    · exact ⟨Nat.zero_le _, hb54, hB56, hB58, hB51, ho59⟩
    · rintro k w60 ⟨hk, hb61, hB62, hB63, hB64, ho65⟩
      have hgl := ho65.lt
      refine WC.seq ?_
      refine WC.region ?_
      refine WL.val (.bool ((decide ((((k : Nat) : Int) : Int) < (((l.length : Nat) : Int) : Int))))) rfl rfl rfl (fun za zC zh zk => lss_3 rfl (zh.ev rfl) (zh.ev rfl) zk) ?_
      refine WL.nil ?_
      refine WE.next ?_
      refine WC.seq ?_
      refine WC.cond rfl (fun h66 => ?_) (fun h66 => ?_)
      · have h66 : (((k : Nat) : Int) : Int) < (((l.length : Nat) : Int) : Int) := by simpa using h66
        refine WC.skip ?_
        refine WE.next ?_
        refine WC.seq ?_
        refine WC.block ?_
        refine WC.seq ?_
        refine WC.region ?_
        refine WL.mv rfl rfl rfl rfl rfl ?_
        obtain ⟨b67, o68, A69, C70, ha71, hc72⟩ := IsTs.open hl
        refine WL.val _ rfl rfl rfl (fun za zC zh zk => ix_25 (k := k) rfl (zh.ev rfl) (ha71 k (by first | omega | (simp; omega))) (zh.ev rfl) (by first | omega | (simp; omega)) zk) ?_
        refine WL.val _ rfl rfl rfl (fun za zC zh zk => ld_35 rfl (zh.ev rfl) (bkeeps hb61 _ _ (hc72 k (by first | omega | (simp; omega))).1) (bkeeps hb61 _ _ (hc72 k (by first | omega | (simp; omega))).2.1) zk) ?_
        refine WL.step (post := NewBlk w60 35 #[.int .i64 0, .slice none 0 0]) rfl rfl rfl (fun za zC zh zk => alloc_35 rfl (zk _ _ (newBlk _ _ _))) ?_
        rintro _ w73 ⟨g74, rfl, hg75, hB76, hb77, hz78⟩
        have hl79 : g2 < g74 := by have z1 := hB62.lt; omega
        have hl80 : g9 < g74 := by have z1 := hB63.lt; omega
        have hl81 : g18 < g74 := by have z1 := hB64.lt; omega
        have hl82 : w.heap.size ≤ g74 := by have z2 := (hb61).size; omega
        have hl83 : w60.heap.size ≤ g74 := by omega
        refine WL.asg rfl rfl rfl rfl rfl ?_
        refine WL.step (post := fun _ w' => Upd g74 w73 w' ∧ Blk w' g74 35 #[.int .i64 ((tget l k).f), .slice ((A69 k)) ((tget l k).args.length) ((C70 k))]) rfl rfl rfl (fun za zC zh zk => st_35 rfl (zh.ev rfl) (zh.ev rfl) rfl rfl hB76 (by first | decide | simp) (fun v => zk v _ ⟨(Upd.at_ _ _ _ _).trans (Upd.at_ _ _ _ _), (hB76.set_ 0 _).set_ 1 _⟩)) ?_
        rintro v87 w84 ⟨hu85, hB86⟩
        have hb88 : Below w.heap.size w w73 := (bstep hb61 hb77)
        have hb89 := upd_below hb88 hu85 (by omega)
        have hb90 := upd_below hb77 hu85 (by omega)
        have hB91 := hB62.below hb77
        have hB92 := upd_blk hB91 hu85 (by omega)
        have hB93 := hB63.below hb77
        have hB94 := upd_blk hB93 hu85 (by omega)
        have hB95 := hB64.below hb77
        have hB96 := upd_blk hB95 hu85 (by omega)
        refine WL.nil ?_
        refine WE.next ?_
        have ho97 := ho65.below hb90
        have hSlt : ∀ b, (fun b => b = g39) b → b < w84.heap.size := fun b e => e ▸ ho97.lt
        have hgl : g39 < w84.heap.size := ho97.lt
        refine WC.tail1 (S := ((fun b => b = g39))) [(true, .val (.pointer (some ⟨g18, 1, none⟩))), (true, .val (.slice ((some ⟨g39, 0, none⟩)) l.length l.length)), (true, .val (.int .i64 (((k : Nat) : Int)))), (true, .val (.agg #[.int .i64 ((tget l k).f), .slice ((A69 k)) ((tget l k).args.length) ((C70 k))])), (true, .mem (fun v w' => NewT w84 w' ((tget l k)) v) (fun v w w' hc h => InT.chg h hc (fun b hb hs => by have z := hSlt b hs; omega))), (true, .val (.pointer (some ⟨g39, 0 + k * 2, none⟩))), (true, .val undef)] [(0, .agg #[.int .i64 f, .slice a l.length c]), (1, .pointer (some ⟨g2, 0, none⟩)), (2, .pointer (some ⟨g9, 0, none⟩)), (3, .pointer (some ⟨g18, 0, none⟩)), (4, .int .i64 (((k : Nat) : Int))), (5, .pointer (some ⟨g74, 0, none⟩)), (12, .bool ((decide ((0 : Int) < (((l.length : Nat) : Int) : Int))))), (19, .slice a l.length c), (20, .int .i64 (((l.length : Nat) : Int))), (21, .int .i64 (((k : Nat) : Int))), (22, .bool ((decide ((((k : Nat) : Int) : Int) < (((l.length : Nat) : Int) : Int)))))] 6 (fun wz => MRow eltT wz g39 g39 35 l.length (madeCells (Value.cells (.agg #[.int .i64 0, .slice none 0 0])) (l.length * 2)).toList ((l.take k ++ [tget l k]))) (fun w w' hb h => h.below hb) ⟨rfl, rfl, rfl, rfl, rfl, rfl, rfl, rfl, rfl, rfl, rfl, trivial⟩ (by kernel_rfl) (by kernel_rfl) (by kernel_rfl) (by kernel_rfl) ?_ ?_
        · refine ⟨.inl ⟨rfl, true, .none rfl, (fun gg b h => by cases h), fun h w => optUndef h, fun zβ za zw zc => ?_⟩, ?_⟩
          · exact fld_35_1 rfl (zc.kn.ev rfl) ⟨_, rfl, Below.refl _ _, optDef zβ rfl⟩
          refine ⟨.inl ⟨rfl, true, .none rfl, (fun gg b h => by cases h), fun h w => optUndef h, fun zβ za zw zc => ?_⟩, ?_⟩
          · exact ld_25 rfl ((evt za 26).trans (optSVal (zc.dep 0 26 (by kernel_rfl) (by decide)) rfl rfl)) (bkeeps (zc.early (by kernel_rfl)) _ _ ((hB96.cell 1).trans rfl)) ⟨_, rfl, Below.refl _ _, optDef zβ rfl⟩
          refine ⟨.inl ⟨rfl, true, .none rfl, (fun gg b h => by cases h), fun h w => optUndef h, fun zβ za zw zc => ?_⟩, ?_⟩
          · exact wp_move rfl (zc.kn.ev rfl) ⟨_, rfl, Below.refl _ _, optDef zβ rfl⟩
          refine ⟨.inl ⟨rfl, true, .none rfl, (fun gg b h => by cases h), fun h w => optUndef h, fun zβ za zw zc => ?_⟩, ?_⟩
          · exact ld_35 rfl (zc.kn.ev rfl) (bkeeps (zc.early (by kernel_rfl)) _ _ ((hB86.cell 0).trans rfl)) (bkeeps (zc.early (by kernel_rfl)) _ _ ((hB86.cell 1).trans rfl)) ⟨_, rfl, Below.refl _ _, optDef zβ rfl⟩
          refine ⟨.inl ⟨rfl, true, .none rfl, (fun gg b h => by cases h), fun h w => optUndef h, fun zβ za zw zc => ?_⟩, ?_⟩
          · exact wp_call (by kernel_rfl) rfl (hv1 ((evt za 29).trans (optSVal (zc.dep 3 29 (by kernel_rfl) (by decide)) rfl rfl))) (ih _ (tget_mem (by omega)) _ _ (size_at (by omega) hz) (IsT.below (bstep hb89 (zc.early (by kernel_rfl))) (hc72 k (by first | omega | (simp; omega))).2.2)) (fun v w' h => ⟨v, rfl, h.2, optDef zβ (InT.mono (fun b hb _ => Nat.le_trans (zc.early (by kernel_rfl)).size hb) h.1)⟩)
          refine ⟨.inl ⟨rfl, true, .none rfl, (fun gg b h => by cases h), fun h w => optUndef h, fun zβ za zw zc => ?_⟩, ?_⟩
          · exact ix_25 (k := k) rfl ((evt za 27).trans (optSVal (zc.dep 1 27 (by kernel_rfl) (by decide)) rfl rfl)) rfl ((evt za 28).trans (optSVal (zc.dep 2 28 (by kernel_rfl) (by decide)) rfl rfl)) (by first | omega | (simp; omega)) ⟨_, rfl, Below.refl _ _, optDef zβ rfl⟩
          refine ⟨.inr ⟨rfl, rfl, fun za zw zc => ?_⟩, ?_⟩
          · have zv := (optSMem (zc.dep 4 30 (by kernel_rfl) (by decide)) rfl rfl)
            obtain ⟨_, a1, c1, e1, _⟩ := zv.form
            rw [e1] at zv
            have zm := ho97.below zc.below
            obtain ⟨cs, hB, hsz⟩ := zm.blkT (k := k) (by simp; omega) (by omega)
            exact st_35 rfl ((evt za 31).trans (optSVal (zc.dep 5 31 (by kernel_rfl) (by decide)) rfl rfl)) ((evt za 30).trans e1) rfl rfl hB hsz (fun v => ⟨v, rfl, zm.storeT (k := k) (by simp; omega) (by omega) (zv.mono (fun b hb _ => by (try dsimp only at *); omega)), .ofUpd ((Upd.at_ _ _ _ _).trans (Upd.at_ _ _ _ _)) rfl⟩)
          exact trivial
        · intro za w98 zh hG99 hc100 zu
          have hb101 := chg_below hb89 hc100 (fun b hb => (by (try dsimp only at *); omega))
          have hB102 := chg_blk hB92 hc100 (by (try dsimp only at *); omega)
          have hB103 := chg_blk hB94 hc100 (by (try dsimp only at *); omega)
          have hB104 := chg_blk hB96 hc100 (by (try dsimp only at *); omega)
          have hB105 := chg_blk hB86 hc100 (by (try dsimp only at *); omega)
          clear zu
          refine WE.go zh ?_
          refine WE.blockNormal ?_
          refine WE.next ?_
          refine WC.region ?_
          refine WL.val (.int .i64 ((((k + 1) : Nat) : Int))) rfl rfl rfl (fun za zC zh zk => addb_3 rfl (zh.ev rfl) (zh.ev rfl) (wrap_eq (by omega) (by omega) (by omega)) zk) ?_
          refine WL.mv rfl rfl rfl rfl rfl ?_
          refine WL.nil ?_
          refine WE.round (k + 1) ⟨rfl, rfl, rfl, rfl, rfl, rfl, rfl, rfl, trivial⟩ ?_ ?_
          · exact ⟨by omega, hb101, hB102, hB103, hB104, (by rw [← take_snocT (by omega)]; exact hG99)⟩
          · omega
      · have h66 : ¬ ((((k : Nat) : Int) : Int) < (((l.length : Nat) : Int) : Int)) := by simpa using h66
        refine WC.exit ?_
        refine WE.thenExit ?_
        refine WE.thenExit ?_
        refine WE.blockIs rfl ?_
        refine WE.next ?_
        refine WC.seq ?_
        refine WC.region ?_
        refine WL.val _ rfl rfl rfl (fun za zC zh zk => ld_35 rfl (zh.ev rfl) ((hB64.cell 0).trans rfl) ((hB64.cell 1).trans rfl) zk) ?_
        refine WL.step (post := fun _ w' => Upd g9 w60 w' ∧ Blk w' g9 35 #[.int .i64 f, .slice ((some ⟨g39, 0, none⟩)) l.length l.length]) rfl rfl rfl (fun za zC zh zk => st_35 rfl (zh.ev rfl) (zh.ev rfl) rfl rfl hB63 (by first | decide | simp) (fun v => zk v _ ⟨(Upd.at_ _ _ _ _).trans (Upd.at_ _ _ _ _), (hB63.set_ 0 _).set_ 1 _⟩)) ?_
        rintro v109 w106 ⟨hu107, hB108⟩
        have hb110 := upd_below hb61 hu107 (by omega)
        have hB111 := upd_blk hB62 hu107 (by omega)
        have hB112 := upd_blk hB64 hu107 (by omega)
        have ho113 := ho65.upd hu107 (by omega)
        refine WL.nil ?_
        refine WE.next ?_
        refine WC.ret ?_
        refine WE.retAny (v := .agg #[.int .i64 f, .slice ((some ⟨g39, 0, none⟩)) l.length l.length]) (fun za zh => ?_) ?_
        · have z0 : za.tmps[2]?.getD undef = .pointer (some ⟨g9, 0, none⟩) := by rw [← Array.getD_eq_getD_getElem?]; exact zh.knows 2 _ rfl
          have y0 : w106.cell? ⟨g9, 0, none⟩ = some (.int .i64 f) := ((hB108.cell 0).trans rfl)
          have y1 : w106.cell? ⟨g9, 1, none⟩ = some (.slice ((some ⟨g39, 0, none⟩)) l.length l.length) := ((hB108.cell 1).trans rfl)
          simp [results, Try.results63, z0, y0, y1, go_sem]
        · have z := ho113
          rw [List.take_of_length_le (by omega)] at z
          have hgz := (hb110).size
          exact ⟨_, rfl, newT_mk hf rfl (Nat.le_refl _) (by unfold maxLen; omega) (z.inRow.mono (by decide) (fun b hb _ => by omega)), hb110⟩
  · have h37 : ¬ ((0 : Int) < (((l.length : Nat) : Int) : Int)) := by simpa using h37
    refine WC.skip ?_
    refine WE.next ?_
    refine WC.seq ?_
    refine WC.seq ?_
    refine WC.region ?_
    refine WL.val _ rfl rfl rfl (fun za zC zh zk => fld_35_1 rfl (zh.ev rfl) zk) ?_
    refine WL.val _ rfl rfl rfl (fun za zC zh zk => ld_25 rfl (zh.ev rfl) ((hB34.cell 1).trans rfl) zk) ?_
    refine WL.val (.int .i64 (((l.length : Nat) : Int))) rfl rfl rfl (fun za zC zh zk => len_25 rfl (zh.ev rfl) zk) ?_
    refine WL.mv rfl rfl rfl rfl rfl ?_
    refine WL.nil ?_
    refine WE.next ?_
    refine WC.block ?_
    refine WC.loop (X := Unit) (fun _ => 0) (fun _ => [(0, .agg #[.int .i64 f, .slice a l.length c]), (1, .pointer (some ⟨g2, 0, none⟩)), (2, .pointer (some ⟨g9, 0, none⟩)), (3, .pointer (some ⟨g18, 0, none⟩)), (12, .bool ((decide ((0 : Int) < (((l.length : Nat) : Int) : Int))))), (19, .slice a l.length c), (20, .int .i64 (((l.length : Nat) : Int))), (21, .int .i64 0)]) (fun _ w114 => True ∧ Below w.heap.size w w114 ∧ Blk w114 g2 35 #[.int .i64 f, .slice a l.length c] ∧ Blk w114 g9 35 #[.int .i64 0, .slice none 0 0] ∧ Blk w114 g18 35 #[.int .i64 f, .slice none 0 0]) (()) ⟨rfl, rfl, rfl, rfl, rfl, rfl, rfl, rfl, trivial⟩ ?_ ?_
    · exact ⟨trivial, hb32, hB34, hB36, hB29⟩
    · rintro _ w114 ⟨_, hb115, hB116, hB117, hB118⟩
      refine WC.seq ?_
      refine WC.region ?_
      refine WL.val (.bool ((decide ((0 : Int) < (((l.length : Nat) : Int) : Int))))) rfl rfl rfl (fun za zC zh zk => lss_3 rfl (zh.ev rfl) (zh.ev rfl) zk) ?_
      refine WL.nil ?_
      refine WE.next ?_
      refine WC.seq ?_
      refine WC.condF rfl (decide_eq_false (by omega)) ?_
      refine WC.exit ?_
      refine WE.thenExit ?_
      refine WE.thenExit ?_
      refine WE.blockIs rfl ?_
      refine WE.next ?_
      refine WC.seq ?_
      refine WC.region ?_
      refine WL.val _ rfl rfl rfl (fun za zC zh zk => ld_35 rfl (zh.ev rfl) ((hB118.cell 0).trans rfl) ((hB118.cell 1).trans rfl) zk) ?_
      refine WL.step (post := fun _ w' => Upd g9 w114 w' ∧ Blk w' g9 35 #[.int .i64 f, .slice none 0 0]) rfl rfl rfl (fun za zC zh zk => st_35 rfl (zh.ev rfl) (zh.ev rfl) rfl rfl hB117 (by first | decide | simp) (fun v => zk v _ ⟨(Upd.at_ _ _ _ _).trans (Upd.at_ _ _ _ _), (hB117.set_ 0 _).set_ 1 _⟩)) ?_
      rintro v122 w119 ⟨hu120, hB121⟩
      have hb123 := upd_below hb115 hu120 (by omega)
      have hB124 := upd_blk hB116 hu120 (by omega)
      have hB125 := upd_blk hB118 hu120 (by omega)
      refine WL.nil ?_
      refine WE.next ?_
      refine WC.ret ?_
      refine WE.retAny (v := .agg #[.int .i64 f, .slice none 0 0]) (fun za zh => ?_) ?_
      · have z0 : za.tmps[2]?.getD undef = .pointer (some ⟨g9, 0, none⟩) := by rw [← Array.getD_eq_getD_getElem?]; exact zh.knows 2 _ rfl
        have y0 : w119.cell? ⟨g9, 0, none⟩ = some (.int .i64 f) := ((hB121.cell 0).trans rfl)
        have y1 : w119.cell? ⟨g9, 1, none⟩ = some (.slice none 0 0) := ((hB121.cell 1).trans rfl)
        simp [results, Try.results63, z0, y0, y1, go_sem]
      · have e : l = [] := List.length_eq_zero_iff.1 (by omega)
        subst e
        exact ⟨_, rfl, newT_leaf hf, hb123⟩
end Go.Proofs.Ytbohlpfndiiimaa

namespace Go.Proofs.Ytbohlpfndiiimaa
open Go.RowKit Go
set_option linter.unusedVariables false
set_option linter.unusedSimpArgs false
theorem bputL_take {l : List T} {k : Nat} {N : List En} (h : k < l.length) : T.bputL (l.take (k + 1)) N = (((tget l k).bput (T.bputL (l.take k) N).1).1, (T.bputL (l.take k) N).2 ++ [((tget l k).bput (T.bputL (l.take k) N).1).2]) := by
 rw [List.take_succ_eq_append_getElem h, bputL_snoc, tget_lt h]
theorem bputL_len : ∀ (l : List T) (N : List En), (T.bputL l N).2.length = l.length
 | [], N => by rw [T.bputL]; rfl
 | t :: r, N => by rw [T.bputL]; simp [bputL_len r]
set_option maxRecDepth 100000 in
theorem bwalk_any (g : Nat) (sg : Value) (gw gb : Nat) : ∀ (t : T) (N : List En) (Z A : Nat → Prop) (w : World) (v : Value), t.size ≤ 4294967296 → N.length + t.size ≤ 1048576 → BkIs w g sg Z N → Blk w gw 73 #[.func (.func 55) #[] #[.pointer (some ⟨gw, 0, none⟩), .pointer (some ⟨gb, 0, none⟩)]] → Blk w gb 26 #[.pointer (some ⟨g, 0, none⟩)] → ¬ Z gw → ¬ Z gb → InT A w t v → (∀ b, A b → ¬ Z b ∧ b < w.heap.size) →
  Calls Try.prog 55 #[v, .pointer (some ⟨gw, 0, none⟩), .pointer (some ⟨gb, 0, none⟩)] w (Ret fun v' w' => v' = .int .i64 (((t.bput N).2 : Nat) : Int) ∧ (∃ Z', BkIs w' g sg Z' (t.bput N).1 ∧ ∀ b, Z' b → Z b ∨ w.heap.size ≤ b) ∧ Chg Z w w') := by
 refine T.ind (fun f l ih => ?_)
 intro N Z A w v hsz hNl hK hBW hBB hzw hzb ht hA
 obtain ⟨hf, a, c, rfl, hlc, hcm, hts⟩ := ht.form
 simp only [T.f_mk, T.args_mk] at hf hlc hts ⊢
 unfold maxLen at hcm
 have hsz' := hsz
 rw [T.size] at hsz'
 have hNl' := hNl
 rw [T.size] at hNl'
 have hlen := len_le_sizeL l
 have hgw := hBW.lt
 have hgb := hBB.lt
 have hZl := hK.lt
 have hC0 := Chg.refl Z w
 refine Calls.walk (l := [.agg #[.int .i64 f, .slice a l.length c], .pointer (some ⟨gw, 0, none⟩), .pointer (some ⟨gb, 0, none⟩)]) Try.func55 rfl (by kernel_rfl) ?_
 refine WC.sub (K' := [(0, .agg #[.int .i64 f, .slice a l.length c]), (1, .pointer (some ⟨gw, 0, none⟩)), (2, .pointer (some ⟨gb, 0, none⟩))]) ⟨rfl, rfl, rfl, trivial⟩ ?_
 refine WC.seq (WC.region ?_)
 refine WL.step (post := NewBlk w 35 #[.int .i64 f, .slice a l.length c]) rfl rfl rfl (fun za zC zh zk => box_35 rfl (zh.ev rfl) (zk _ _ (newBlk _ _ _))) ?_
 rintro _ w1 ⟨g2, rfl, hg3, hB4, hb5, hz6⟩
 have hl7 : gw < g2 := by have z1 := hBW.lt; omega
 have hl8 : gb < g2 := by have z1 := hBB.lt; omega
 have hl9 : w.heap.size ≤ g2 := by omega
 refine WL.asg rfl rfl rfl rfl rfl (WL.nil (WE.next (WC.seq (WC.region (WL.asg rfl rfl rfl rfl rfl (WL.nil (WE.next (WC.seq (WC.region ?_)))))))))
 refine WL.val _ rfl rfl rfl (fun za zC zh zk => fld_35_0 rfl (zh.ev rfl) zk) ?_
 refine WL.val _ rfl rfl rfl (fun za zC zh zk => ld_3 rfl (zh.ev rfl) ((hB4.cell 0).trans rfl) zk) ?_
 refine WL.val (.bool ((decide ((0 : Int) ≤ (f : Int))))) rfl rfl rfl (fun za zC zh zk => geq_3 rfl (zh.ev rfl) (zh.ev rfl) zk) ?_
 refine WL.val (.agg #[.int .i64 1, .bool ((decide ((0 : Int) ≤ (f : Int))))]) rfl rfl rfl (fun za zC zh zk => build_81_0_1 rfl (zh.ev rfl) (zh.ev rfl) zk) ?_
 refine WL.step (post := NewBlk w1 81 #[.int .i64 0, .bool false]) rfl rfl rfl (fun za zC zh zk => alloc_81 rfl (zk _ _ (newBlk _ _ _))) ?_
 rintro _ w10 ⟨g11, rfl, hg12, hB13, hb14, hz15⟩
 have hl16 : gw < g11 := by have z1 := hBW.lt; have z2 := (hb5).size; omega
 have hl17 : gb < g11 := by have z1 := hBB.lt; have z2 := (hb5).size; omega
 have hl18 : g2 < g11 := by have z1 := hB4.lt; omega
 have hl19 : w.heap.size ≤ g11 := by have z2 := (hb5).size; omega
 refine WL.step (post := fun _ w' => Upd g11 w10 w' ∧ Blk w' g11 81 #[.int .i64 1, .bool ((decide ((0 : Int) ≤ (f : Int))))]) rfl rfl rfl (fun za zC zh zk => st_81 rfl (zh.ev rfl) (zh.ev rfl) rfl rfl hB13 (by first | decide | simp) (fun v => zk v _ ⟨(Upd.at_ _ _ _ _).trans (Upd.at_ _ _ _ _), (hB13.set_ 0 _).set_ 1 _⟩)) ?_
 rintro v23 w20 ⟨hu21, hB22⟩
 have hb24 : Below w.heap.size w w10 := (bstep hb5 hb14)
 have hb25 := upd_below hb24 hu21 (by omega)
 have hB26 := hBW.below hb24
 have hB27 := upd_blk hB26 hu21 (by omega)
 have hB28 := hBB.below hb24
 have hB29 := upd_blk hB28 hu21 (by omega)
 have hB30 := hB4.below hb14
 have hB31 := upd_blk hB30 hu21 (by omega)
 refine WL.nil (WE.next (WC.seq (WC.seq (WC.region ?_))))
 refine WL.val _ rfl rfl rfl (fun za zC zh zk => fld_35_1 rfl (zh.ev rfl) zk) ?_
 refine WL.val _ rfl rfl rfl (fun za zC zh zk => ld_25 rfl (zh.ev rfl) ((hB31.cell 1).trans rfl) zk) ?_
 refine WL.val (.int .i64 (((l.length : Nat) : Int))) rfl rfl rfl (fun za zC zh zk => len_25 rfl (zh.ev rfl) zk) ?_
 refine WL.mv rfl rfl rfl rfl rfl (WL.nil (WE.next (WC.block ?_)))
 have hbW := (hb25).size
 have hg3w : w.heap.size ≤ g2 := by omega
 have hg6w : w.heap.size ≤ g11 := by omega
 have hg36 : g2 ≠ g11 := by omega
 have hj0 : BkJ w20 w.heap.size Z g sg ((T.bputL (l.take 0) N).1) (fun b => b = g2 ∨ b = g11 ∨ b = gw ∨ b = gb ∨ A b ∨ obk none 0 0 = some b) := ⟨Z, hK.below hb25, fun b q => .inl q, fun b q k => by
  have z := hZl b k
  rcases q with q | q | q | q | q | q
  ·omega
  ·omega
  ·rw [q] at k; exact hzw k
  ·rw [q] at k; exact hzb k
  ·exact (hA b q).1 k
  ·cases q⟩
 have hr0 : RowD eltN (fun _ => False) w20 3 none 0 0 ((T.bputL (l.take 0) N).2) := RowD.nil
 have ht0 : InT A w20 (.mk f l) (.agg #[.int .i64 f, .slice a l.length c]) := ht.below hb25
 have hC32 := Chg.trans hC0 (.ofBelow hb25)
 refine WC.loop (X := Nat × Option Addr × Nat) (fun x => l.length - x.1) (fun x => [(0, .agg #[.int .i64 f, .slice a l.length c]), (1, .pointer (some ⟨gw, 0, none⟩)), (2, .pointer (some ⟨gb, 0, none⟩)), (3, .pointer (some ⟨g2, 0, none⟩)), (4, .int .i64 0), (5, .slice x.2.1 x.1 x.2.2), (6, .pointer (some ⟨g11, 0, none⟩)), (21, .slice a l.length c), (22, .int .i64 (((l.length : Nat) : Int))), (23, .int .i64 (((x.1 : Nat) : Int)))]) (fun x w33 => x.1 ≤ l.length ∧ Chg Z w w33 ∧ (∀ b, obk x.2.1 x.1 x.2.2 = some b → w.heap.size ≤ b) ∧ Blk w33 gw 73 #[.func (.func 55) #[] #[.pointer (some ⟨gw, 0, none⟩), .pointer (some ⟨gb, 0, none⟩)]] ∧ Blk w33 gb 26 #[.pointer (some ⟨g, 0, none⟩)] ∧ Blk w33 g2 35 #[.int .i64 f, .slice a l.length c] ∧ Blk w33 g11 81 #[.int .i64 ((((1 + T.sizeL (l.take x.1)) : Nat) : Int)), .bool ((decide (0 ≤ f) && T.gndL (l.take x.1)))] ∧ BkJ (w33) w.heap.size Z g sg ((T.bputL (l.take x.1) N).1) (fun b => b = g2 ∨ b = g11 ∨ b = gw ∨ b = gb ∨ A b ∨ obk x.2.1 x.1 x.2.2 = some b) ∧ RowD eltN (fun _ => False) (w33) 3 x.2.1 x.2.2 x.1 ((T.bputL (l.take x.1) N).2) ∧ InT A (w33) (.mk f l) (.agg #[.int .i64 f, .slice a l.length c])) ((0, none, 0)) ⟨rfl, rfl, rfl, rfl, rfl, rfl, rfl, rfl, rfl, rfl, trivial⟩ ?_ ?_
 ·exact ⟨Nat.zero_le _, hC32, (fun b e => nomatch e), hB27, hB29, hB31, (by simpa [T.sizeL, T.gndL] using hB22), hj0, hr0, ht0⟩
 ·rintro x w33 ⟨hkx, hCx, hownx, hB34, hB35, hB36, hB37, ho38, ho39, ho40⟩
  have hlk : (T.bputL (l.take x.1) N).2.length = x.1 := by rw [bputL_len, List.length_take]; omega
  have hpo := bputL_ok (l.take x.1) N hK.ok
  have htk := T.sizeL_take_le l x.1
  have hle9 := hpo.1.le
  obtain ⟨Z9, hK9, hZ9, hX9⟩ := ho38
  have hZ9l := hK9.lt
  have hwx := hCx.size
  have hrl := ho39.lt
  obtain ⟨_, a_, c_, e_, _, _, hts9⟩ := ho40.form
  simp only [T.f_mk, T.args_mk, Value.agg.injEq, Array.mk.injEq, List.cons.injEq, and_true, true_and, Value.slice.injEq] at e_ hts9
  obtain ⟨rfl, rfl⟩ := e_
  refine WC.seq (WC.region ?_)
  refine WL.val (.bool ((decide ((((x.1 : Nat) : Int) : Int) < (((l.length : Nat) : Int) : Int))))) rfl rfl rfl (fun za zC zh zk => lss_3 rfl (zh.ev rfl) (zh.ev rfl) zk) ?_
  refine WL.nil (WE.next (WC.seq ?_))
  refine WC.cond rfl (fun h41 => ?_) (fun h41 => ?_)
  ·have h41 : (((x.1 : Nat) : Int) : Int) < (((l.length : Nat) : Int) : Int) := by simpa using h41
   refine WC.skip (WE.next (WC.seq (WC.block (WC.seq (WC.region ?_)))))
   obtain ⟨b42, o43, A44, C45, ha46, hc47⟩ := InTs.open hts9
   refine WL.val _ rfl rfl rfl (fun za zC zh zk => ix_25 (k := x.1) rfl (zh.ev rfl) (ha46 x.1 (by first | omega | (simp; omega))) (zh.ev rfl) (by first | omega | (simp; omega)) zk) ?_
   refine WL.val _ rfl rfl rfl (fun za zC zh zk => ld_35 rfl (zh.ev rfl) (hc47 x.1 (by first | omega | (simp; omega))).1 (hc47 x.1 (by first | omega | (simp; omega))).2.1 zk) ?_
   refine WL.step (post := NewBlk w33 35 #[.int .i64 0, .slice none 0 0]) rfl rfl rfl (fun za zC zh zk => alloc_35 rfl (zk _ _ (newBlk _ _ _))) ?_
   rintro _ w48 ⟨g49, rfl, hg50, hB51, hb52, hz53⟩
   have hl54 : gw < g49 := by have z1 := hB34.lt; omega
   have hl55 : gb < g49 := by have z1 := hB35.lt; omega
   have hl56 : g2 < g49 := by have z1 := hB36.lt; omega
   have hl57 : g11 < g49 := by have z1 := hB37.lt; omega
   have hl58 : w33.heap.size ≤ g49 := by omega
   refine WL.step (post := fun _ w' => Upd g49 w48 w' ∧ Blk w' g49 35 #[.int .i64 ((tget l x.1).f), .slice ((A44 x.1)) ((tget l x.1).args.length) ((C45 x.1))]) rfl rfl rfl (fun za zC zh zk => st_35 rfl (zh.ev rfl) (zh.ev rfl) rfl rfl hB51 (by first | decide | simp) (fun v => zk v _ ⟨(Upd.at_ _ _ _ _).trans (Upd.at_ _ _ _ _), (hB51.set_ 0 _).set_ 1 _⟩)) ?_
   rintro v62 w59 ⟨hu60, hB61⟩
   have hb63 := upd_below hb52 hu60 (by omega)
   have hB64 := hB34.below hb52
   have hB65 := upd_blk hB64 hu60 (by omega)
   have hB66 := hB35.below hb52
   have hB67 := upd_blk hB66 hu60 (by omega)
   have hB68 := hB36.below hb52
   have hB69 := upd_blk hB68 hu60 (by omega)
   have hB70 := hB37.below hb52
   have hB71 := upd_blk hB70 hu60 (by omega)
   refine WL.nil (WE.next (WC.seq (WC.region ?_)))
   refine WL.val _ rfl rfl rfl (fun za zC zh zk => ld_73 rfl (zh.ev rfl) ((hB65.cell 0).trans rfl) zk) ?_
   refine WL.val _ rfl rfl rfl (fun za zC zh zk => ld_35 rfl (zh.ev rfl) ((hB61.cell 0).trans rfl) ((hB61.cell 1).trans rfl) zk) ?_
   have ho72 := hK9.below hb63
   have ho73 := ho39.below hb63
   have ho74 := ho40.below hb63
   have hg3c := hB69.lt
   have hg6c := hB71.lt
   have hmem9 : tget l x.1 ∈ l := tget_mem (by omega)
   have hsz9 := T.sizeL_take_succ l x.1 (by omega)
   have htg9 := tget_lt (show x.1 < l.length by omega)
   rw [← htg9] at hsz9
   have hst9 := T.sizeL_take_le l (x.1 + 1)
   have hWL9 : w33.heap.size ≤ w59.heap.size := hb63.size
   have hg8Z : ¬ Z9 g49 := fun q => by have z := hZ9l _ q; omega
   have hC80 := Chg.trans hCx (.ofBelow hb63)
   refine WL.call rfl rfl rfl (fun za zh zC => wp_callv (by kernel_rfl) rfl (zh.ev rfl) (hv1 (zh.ev rfl))) (ih _ hmem9 (T.bputL (l.take x.1) N).1 Z9 A _ _ (by omega) (by omega) ho72 hB65 hB67 (fun k => hX9 _ (.inr (.inr (.inl rfl))) k) (fun k => hX9 _ (.inr (.inr (.inr (.inl rfl)))) k) (InT.below hb63 (hc47 x.1 (by first | omega | (simp; omega))).2.2) (fun b q => ⟨fun k => hX9 b (.inr (.inr (.inr (.inr (.inl q))))) k, by have z := (hA b q).2; omega⟩)) ?_
   rintro _ w81 ⟨rfl, ⟨Z75, hK76, hZ77⟩, hc78⟩
   have hC82 := chg_fresh hC80 hc78 (fun b q => hZ9 b q)
   have hr83 := ho73.chg hc78 (fun b q k => hX9 b (.inr (.inr (.inr (.inr (.inr q))))) k) (fun b q => q.elim)
   have ht84 := ho74.chg hc78 (fun b q k => hX9 b (.inr (.inr (.inr (.inr (.inl q))))) k)
   have hB85 := chg_blk hB65 hc78 (fun k => hX9 _ (.inr (.inr (.inl rfl))) k)
   have hB86 := chg_blk hB67 hc78 (fun k => hX9 _ (.inr (.inr (.inr (.inl rfl)))) k)
   have hB87 := chg_blk hB69 hc78 (fun k => hX9 _ (.inl rfl) k)
   have hB88 := chg_blk hB71 hc78 (fun k => hX9 _ (.inr (.inl rfl)) k)
   have hB89 := chg_blk hB61 hc78 (hg8Z)
   have hpn9 := bput_ok (tget l x.1) (T.bputL (l.take x.1) N).1 hK9.ok
   have hK8l := hK76.lt
   refine WL.asg rfl rfl rfl rfl rfl (WL.nil (WE.next (WC.seq (WC.region (WL.mv rfl rfl rfl rfl rfl (WL.mv rfl rfl rfl rfl rfl ?_))))))
   refine WL.step (post := NewRow w81 3 #[.int .i64 (((((tget l x.1).bput (T.bputL (l.take x.1) N).1).2 : Nat) : Int))] 1) rfl rfl rfl (fun za zC zh zk => row_31_1 rfl (zh.ev rfl) (zk _ _ (newRow _ _ _ _))) ?_
   rintro _ w90 ⟨g91, rfl, hg92, hB93, hb94, hz95⟩
   have hl96 : gw < g91 := by have z1 := hB85.lt; omega
   have hl97 : gb < g91 := by have z1 := hB86.lt; omega
   have hl98 : g2 < g91 := by have z1 := hB87.lt; omega
   have hl99 : g11 < g91 := by have z1 := hB88.lt; omega
   have hl100 : g49 < g91 := by have z1 := hB89.lt; omega
   have hl101 : w81.heap.size ≤ g91 := by omega
   have ho102 := hr83.below hb94
   have ho103 := ht84.below hb94
   have ho104 := hK76.below hb94
   have hB105 := hB85.below hb94
   have hB106 := hB86.below hb94
   have hB107 := hB87.below hb94
   have hB108 := hB88.below hb94
   have hB109 := hB89.below hb94
   have hrl7 := ho102.lt
   have hq7l := ho104.lt
   have hK8x : ∀ b, obk x.2.1 x.1 x.2.2 = some b → ¬ Z75 b := fun b q k => by rcases hZ77 b k with z | z; exact hX9 b (.inr (.inr (.inr (.inr (.inr q))))) z; (have z2 := hrl b q; omega)
   have hWR : w59.heap.size ≤ w90.heap.size := (Nat.le_trans hc78.size hb94.size)
   have hWc : w81.heap.size ≤ w90.heap.size := hb94.size
   refine WL.step (post := fun v w' => ∃ ra rc, v = .slice ra (x.1 + 1) rc ∧ RowD eltN (fun _ => False) w' 3 ra rc ((x.1 + 1)) (((T.bputL (l.take x.1) N).2 ++ [((tget l x.1).bput (T.bputL (l.take x.1) N).1).2])) ∧ Chg (fun b => obk x.2.1 x.1 x.2.2 = some b) w90 w' ∧ ∀ b, obk ra ((x.1 + 1)) rc = some b → obk x.2.1 x.1 x.2.2 = some b ∨ w90.heap.size ≤ b) rfl rfl rfl (fun za zC zh zk => wp_appD (E := eltN) (S2 := fun _ => False) (y := ((tget l x.1).bput (T.bputL (l.take x.1) N).1).2) (size := 1) (bytes := 8) (z := .int .i64 0) rfl Try.underlying31 (by kernel_rfl) rfl (by decide) rfl (zh.ev rfl) (zh.ev rfl) ho102 hB93 rfl (fun b q => q.elim) (by omega) (by omega) (fun ra rc w' h1 h2 h3 => zk _ _ ⟨ra, rc, rfl, h1.mono (fun b q _ => by rcases q.1 with q | q <;> exact q) (fun b q => q.elim), h2, h3⟩)) ?_
   rintro _ w110 ⟨ra111, rc112, rfl, hr113, hc114, ho115⟩
   have hC116 := Chg.trans hC82 (.ofBelow hb94)
   have hC117 := chg_fresh hC116 hc114 (fun b q => .inr (hownx b q))
   have ht118 := ho103.chg hc114 (fun b q k => by have z := (hA b q).2; have z2 := hownx b k; omega)
   have hK119 := ho104.chg hc114 (fun b q k => hK8x b k q)
   have hB120 := chg_blk hB105 hc114 (fun k => by have z := hownx _ k; omega)
   have hB121 := chg_blk hB106 hc114 (fun k => by have z := hownx _ k; omega)
   have hB122 := chg_blk hB107 hc114 (fun k => (RowD.neBlk ho102 hB107 (by decide)) k)
   have hB123 := chg_blk hB108 hc114 (fun k => (RowD.neBlk ho102 hB108 (by decide)) k)
   refine WL.asg rfl rfl rfl rfl rfl (WL.nil (WE.next (WC.seq ?_)))
   obtain ⟨So124, mo124, lao124, lco124, Lo124, Ro124, hbo124, hwo124, hzo124, hlo124⟩ := id hK119
   have hno124 := hwo124.len
   obtain ⟨bo124, Ao124, Co124, eo124, hoo124, hco124⟩ := hbo124.opn (by omega)
   have hK8g : ¬ Z75 g11 := fun q => by rcases hZ77 _ q with z | z; exact hX9 _ (.inr (.inl rfl)) z; omega
   have hid9 := hpn9.2.1
   have htl9 := hwo124.tell ((tget l x.1).bput (T.bputL (l.take x.1) N).1).2 (by omega)
   have htm9 : tmE ((tget l x.1).bput (T.bputL (l.take x.1) N).1).1 ((tget l x.1).bput (T.bputL (l.take x.1) N).1).2 = tget l x.1 := hpn9.2.2.1
   rw [htm9] at htl9
   have hSlt : ∀ b, b = g11 → b < w110.heap.size := fun b e => e ▸ hB123.lt
   refine WC.tail1 (S := ((fun b => b = g11))) [(true, .val (.pointer (some ⟨g11, 0, none⟩))), (true, .val (.int .i64 ((((1 + T.sizeL (l.take x.1)) : Nat) : Int)))), (true, .val (.pointer (some ⟨g, 0, none⟩))), (true, .val (.pointer (some ⟨g, 0, none⟩))), (true, .val (.pointer (some ⟨g, 1, none⟩))), (true, .val (.slice lao124 Lo124.length lco124)), (true, .val (.int .i64 (((((tget l x.1).bput (T.bputL (l.take x.1) N).1).2 : Nat) : Int)))), (true, .val (.pointer (some ⟨bo124, 0 + (((tget l x.1).bput (T.bputL (l.take x.1) N).1).2) * 5, none⟩))), (true, .val (.pointer (some ⟨bo124, 0 + (((tget l x.1).bput (T.bputL (l.take x.1) N).1).2) * 5, none⟩))), (true, .val (.pointer (some ⟨bo124, 0 + (((tget l x.1).bput (T.bputL (l.take x.1) N).1).2) * 5, none⟩))), (true, .val (.int .i64 ((((xget Lo124 (((tget l x.1).bput (T.bputL (l.take x.1) N).1).2)).sz : Nat) : Int)))), (true, .val (.int .i64 ((((1 + T.sizeL (l.take (x.1 + 1))) : Nat) : Int)))), (true, .val (.pointer (some ⟨g11, 0, none⟩))), (true, .val undef)] [(0, .agg #[.int .i64 f, .slice a l.length c]), (1, .pointer (some ⟨gw, 0, none⟩)), (2, .pointer (some ⟨gb, 0, none⟩)), (3, .pointer (some ⟨g2, 0, none⟩)), (4, .int .i64 0), (5, .slice ra111 ((x.1 + 1)) rc112), (6, .pointer (some ⟨g11, 0, none⟩)), (8, .pointer (some ⟨g49, 0, none⟩)), (9, .int .i64 (((((tget l x.1).bput (T.bputL (l.take x.1) N).1).2 : Nat) : Int))), (21, .slice a l.length c), (22, .int .i64 (((l.length : Nat) : Int))), (23, .int .i64 (((x.1 : Nat) : Int))), (24, .bool ((decide ((((x.1 : Nat) : Int) : Int) < (((l.length : Nat) : Int) : Int)))))] 13 (fun wz => Blk wz g11 81 #[.int .i64 ((((1 + T.sizeL (l.take (x.1 + 1))) : Nat) : Int)), .bool ((decide (0 ≤ f) && T.gndL (l.take x.1)))]) (fun w1 w2 hb h => h.below hb) ⟨rfl, rfl, rfl, rfl, rfl, rfl, rfl, rfl, rfl, rfl, rfl, rfl, rfl, trivial⟩ (by kernel_rfl) (by kernel_rfl) (by kernel_rfl) (by kernel_rfl) ?_ ?_
   ·refine ⟨.inl ⟨rfl, true, .none rfl, (fun gg b h => by cases h), fun h w => optUndef h, fun zβ za zw zc => ?_⟩, ?_⟩
    ·exact fld_81_0 rfl (zc.kn.ev rfl) ⟨_, rfl, Below.refl _ _, optDef zβ rfl⟩
    refine ⟨.inl ⟨rfl, true, .none rfl, (fun gg b h => by cases h), fun h w => optUndef h, fun zβ za zw zc => ?_⟩, ?_⟩
    ·exact ld_3 rfl ((evt za 34).trans (optSVal (zc.dep 0 34 (by kernel_rfl) (by decide)) rfl rfl)) (bkeeps (zc.early (by kernel_rfl)) _ _ ((hB123.cell 0).trans rfl)) ⟨_, rfl, Below.refl _ _, optDef zβ rfl⟩
    refine ⟨.inl ⟨rfl, true, .none rfl, (fun gg b h => by cases h), fun h w => optUndef h, fun zβ za zw zc => ?_⟩, ?_⟩
    ·exact ld_26 rfl (zc.kn.ev rfl) (bkeeps (zc.early (by kernel_rfl)) _ _ ((hB121.cell 0).trans rfl)) ⟨_, rfl, Below.refl _ _, optDef zβ rfl⟩
    refine ⟨.inl ⟨rfl, true, .none rfl, (fun gg b h => by cases h), fun h w => optUndef h, fun zβ za zw zc => ?_⟩, ?_⟩
    ·exact nilCheck_ rfl ((evt za 36).trans (optSVal (zc.dep 2 36 (by kernel_rfl) (by decide)) rfl rfl)) ⟨_, rfl, Below.refl _ _, optDef zβ rfl⟩
    refine ⟨.inl ⟨rfl, true, .none rfl, (fun gg b h => by cases h), fun h w => optUndef h, fun zβ za zw zc => ?_⟩, ?_⟩
    ·exact fld_70_1 rfl ((evt za 37).trans (optSVal (zc.dep 3 37 (by kernel_rfl) (by decide)) rfl rfl)) ⟨_, rfl, Below.refl _ _, optDef zβ rfl⟩
    refine ⟨.inl ⟨rfl, true, .none rfl, (fun gg b h => by cases h), fun h w => optUndef h, fun zβ za zw zc => ?_⟩, ?_⟩
    ·exact ld_68 rfl ((evt za 38).trans (optSVal (zc.dep 4 38 (by kernel_rfl) (by decide)) rfl rfl)) (bkeeps (zc.early (by kernel_rfl)) _ _ hbo124.c1) ⟨_, rfl, Below.refl _ _, optDef zβ rfl⟩
    refine ⟨.inl ⟨rfl, true, .none rfl, (fun gg b h => by cases h), fun h w => optUndef h, fun zβ za zw zc => ?_⟩, ?_⟩
    ·exact wp_move rfl (zc.kn.ev rfl) ⟨_, rfl, Below.refl _ _, optDef zβ rfl⟩
    refine ⟨.inl ⟨rfl, true, .none rfl, (fun gg b h => by cases h), fun h w => optUndef h, fun zβ za zw zc => ?_⟩, ?_⟩
    ·exact ix_68 (k := ((tget l x.1).bput (T.bputL (l.take x.1) N).1).2) rfl ((evt za 39).trans (optSVal (zc.dep 5 39 (by kernel_rfl) (by decide)) rfl rfl)) eo124 ((evt za 40).trans (optSVal (zc.dep 6 40 (by kernel_rfl) (by decide)) rfl rfl)) (by first | omega | (simp; omega)) ⟨_, rfl, Below.refl _ _, optDef zβ rfl⟩
    refine ⟨.inl ⟨rfl, true, .none rfl, (fun gg b h => by cases h), fun h w => optUndef h, fun zβ za zw zc => ?_⟩, ?_⟩
    ·exact fld_83_0 rfl ((evt za 41).trans (optSVal (zc.dep 7 41 (by kernel_rfl) (by decide)) rfl rfl)) ⟨_, rfl, Below.refl _ _, optDef zβ rfl⟩
    refine ⟨.inl ⟨rfl, true, .none rfl, (fun gg b h => by cases h), fun h w => optUndef h, fun zβ za zw zc => ?_⟩, ?_⟩
    ·exact fld_81_0 rfl ((evt za 42).trans (optSVal (zc.dep 8 42 (by kernel_rfl) (by decide)) rfl rfl)) ⟨_, rfl, Below.refl _ _, optDef zβ rfl⟩
    refine ⟨.inl ⟨rfl, true, .none rfl, (fun gg b h => by cases h), fun h w => optUndef h, fun zβ za zw zc => ?_⟩, ?_⟩
    ·exact ld_3 rfl ((evt za 43).trans (optSVal (zc.dep 9 43 (by kernel_rfl) (by decide)) rfl rfl)) (bkeeps (zc.early (by kernel_rfl)) _ _ (hco124 (((tget l x.1).bput (T.bputL (l.take x.1) N).1).2) (by first | omega | (simp; omega))).1) ⟨_, rfl, Below.refl _ _, optDef zβ rfl⟩
    refine ⟨.inl ⟨rfl, true, .none rfl, (fun gg b h => by cases h), fun h w => optUndef h, fun zβ za zw zc => ?_⟩, ?_⟩
    ·exact addb_3 rfl ((evt za 35).trans (optSVal (zc.dep 1 35 (by kernel_rfl) (by decide)) rfl rfl)) ((evt za 44).trans (optSVal (zc.dep 10 44 (by kernel_rfl) (by decide)) rfl rfl)) (wrap_eq (by omega) (by omega) (by omega)) ⟨_, rfl, Below.refl _ _, optDef zβ rfl⟩
    refine ⟨.inl ⟨rfl, true, .none rfl, (fun gg b h => by cases h), fun h w => optUndef h, fun zβ za zw zc => ?_⟩, ?_⟩
    ·exact fld_81_0 rfl (zc.kn.ev rfl) ⟨_, rfl, Below.refl _ _, optDef zβ rfl⟩
    refine ⟨.inr ⟨rfl, rfl, fun za zw zc => ?_⟩, ?_⟩
    ·exact st_3 rfl ((evt za 46).trans (optSVal (zc.dep 12 46 (by kernel_rfl) (by decide)) rfl rfl)) ((evt za 45).trans (optSVal (zc.dep 11 45 (by kernel_rfl) (by decide)) rfl rfl)) (hB123.below zc.below) (by first | decide | simp) (fun v => ⟨v, rfl, (hB123.below zc.below).set_ 0 _, .ofUpd (Upd.at_ _ _ _ _) rfl⟩)
    exact trivial
   ·intro za w125 zh hG126 hc127 zu
    have hC128 := chg_fresh hC117 hc127 (fun b e => .inr (by rw [show b = g11 from e]; exact hg6w))
    have hr129 := hr113.chg hc127 (fun b q k => (RowD.neBlk hr113 hB123 (by decide)) ((show b = g11 from k) ▸ q)) (fun b q => q.elim)
    have ht130 := ht118.chg hc127 (fun b q k => by have z := (hA b q).2; have z2 : b = g11 := k; omega)
    have hK131 := hK119.chg hc127 (fun b q k => by have z2 : b = g11 := k; rw [z2] at q; exact hK8g q)
    have hB132 := chg_blk hB120 hc127 (fun k => by have z2 : gw = g11 := k; omega)
    have hB133 := chg_blk hB121 hc127 (fun k => by have z2 : gb = g11 := k; omega)
    have hB134 := chg_blk hB122 hc127 (fun k => hg36 k)
    clear zu
    refine WE.go zh ?_
    refine WE.next ?_
    obtain ⟨So135, mo135, lao135, lco135, Lo135, Ro135, hbo135, hwo135, hzo135, hlo135⟩ := id hK131
    have hno135 := hwo135.len
    obtain ⟨bo135, Ao135, Co135, eo135, hoo135, hco135⟩ := hbo135.opn (by omega)
    have hid9 := hpn9.2.1
    have htl9 := hwo135.tell ((tget l x.1).bput (T.bputL (l.take x.1) N).1).2 (by omega)
    have htm9 : tmE ((tget l x.1).bput (T.bputL (l.take x.1) N).1).1 ((tget l x.1).bput (T.bputL (l.take x.1) N).1).2 = tget l x.1 := hpn9.2.2.1
    rw [htm9] at htl9
    have hSlt : ∀ b, b = g11 → b < w125.heap.size := fun b e => e ▸ hG126.lt
    refine WC.tail1 (S := ((fun b => b = g11))) [(true, .val (.pointer (some ⟨g11, 1, none⟩))), (true, .val (.bool ((decide (0 ≤ f) && T.gndL (l.take x.1))))), (true, .val (.bool ((decide (0 ≤ f) && T.gndL (l.take x.1))))), ((true && (decide (0 ≤ f) && T.gndL (l.take x.1))), .val (.pointer (some ⟨g, 0, none⟩))), ((true && (decide (0 ≤ f) && T.gndL (l.take x.1))), .val (.pointer (some ⟨g, 0, none⟩))), ((true && (decide (0 ≤ f) && T.gndL (l.take x.1))), .val (.pointer (some ⟨g, 1, none⟩))), ((true && (decide (0 ≤ f) && T.gndL (l.take x.1))), .val (.slice lao135 Lo135.length lco135)), ((true && (decide (0 ≤ f) && T.gndL (l.take x.1))), .val (.int .i64 (((((tget l x.1).bput (T.bputL (l.take x.1) N).1).2 : Nat) : Int)))), ((true && (decide (0 ≤ f) && T.gndL (l.take x.1))), .val (.pointer (some ⟨bo135, 0 + (((tget l x.1).bput (T.bputL (l.take x.1) N).1).2) * 5, none⟩))), ((true && (decide (0 ≤ f) && T.gndL (l.take x.1))), .val (.pointer (some ⟨bo135, 0 + (((tget l x.1).bput (T.bputL (l.take x.1) N).1).2) * 5, none⟩))), ((true && (decide (0 ≤ f) && T.gndL (l.take x.1))), .val (.pointer (some ⟨bo135, 0 + (((tget l x.1).bput (T.bputL (l.take x.1) N).1).2) * 5 + 1, none⟩))), ((true && (decide (0 ≤ f) && T.gndL (l.take x.1))), .val (.bool ((xget Lo135 (((tget l x.1).bput (T.bputL (l.take x.1) N).1).2)).gr))), (true, .val (.bool (((decide (0 ≤ f) && T.gndL (l.take x.1)) && (xget Lo135 (((tget l x.1).bput (T.bputL (l.take x.1) N).1).2)).gr)))), (true, .val (.pointer (some ⟨g11, 1, none⟩))), (true, .val undef)] [(0, .agg #[.int .i64 f, .slice a l.length c]), (1, .pointer (some ⟨gw, 0, none⟩)), (2, .pointer (some ⟨gb, 0, none⟩)), (3, .pointer (some ⟨g2, 0, none⟩)), (4, .int .i64 0), (5, .slice ra111 ((x.1 + 1)) rc112), (6, .pointer (some ⟨g11, 0, none⟩)), (8, .pointer (some ⟨g49, 0, none⟩)), (9, .int .i64 (((((tget l x.1).bput (T.bputL (l.take x.1) N).1).2 : Nat) : Int))), (21, .slice a l.length c), (22, .int .i64 (((l.length : Nat) : Int))), (23, .int .i64 (((x.1 : Nat) : Int))), (24, .bool ((decide ((((x.1 : Nat) : Int) : Int) < (((l.length : Nat) : Int) : Int)))))] 14 (fun wz => Blk wz g11 81 #[.int .i64 ((((1 + T.sizeL (l.take (x.1 + 1))) : Nat) : Int)), .bool (((decide (0 ≤ f) && T.gndL (l.take x.1)) && (xget Lo135 ((tget l x.1).bput (T.bputL (l.take x.1) N).1).2).gr))]) (fun w1 w2 hb h => h.below hb) ⟨rfl, rfl, rfl, rfl, rfl, rfl, rfl, rfl, rfl, rfl, rfl, rfl, rfl, trivial⟩ (by kernel_rfl) (by kernel_rfl) (by kernel_rfl) (by kernel_rfl) ?_ ?_
    ·refine ⟨.inl ⟨rfl, true, .none rfl, (fun gg b h => by cases h), fun h w => optUndef h, fun zβ za zw zc => ?_⟩, ?_⟩
     ·exact fld_81_1 rfl (zc.kn.ev rfl) ⟨_, rfl, Below.refl _ _, optDef zβ rfl⟩
     refine ⟨.inl ⟨rfl, true, .none rfl, (fun gg b h => by cases h), fun h w => optUndef h, fun zβ za zw zc => ?_⟩, ?_⟩
     ·exact ld_4 rfl ((evt za 47).trans (optSVal (zc.dep 0 47 (by kernel_rfl) (by decide)) rfl rfl)) (bkeeps (zc.early (by kernel_rfl)) _ _ ((hG126.cell 1).trans rfl)) ⟨_, rfl, Below.refl _ _, optDef zβ rfl⟩
     refine ⟨.inl ⟨rfl, true, .none rfl, (fun gg b h => by cases h), fun h w => optUndef h, fun zβ za zw zc => ?_⟩, ?_⟩
     ·exact wp_move rfl ((evt za 48).trans (optSVal (zc.dep 1 48 (by kernel_rfl) (by decide)) rfl rfl)) ⟨_, rfl, Below.refl _ _, optDef zβ rfl⟩
     refine ⟨.inl ⟨rfl, (true && (decide (0 ≤ f) && T.gndL (l.take x.1))), .yes (d := true) rfl (fun v w h => h), (fun gg b h => by cases h; rfl), fun h w => optUndef h, fun zβ za zw zc => ?_⟩, ?_⟩
     ·exact ld_26 rfl (zc.kn.ev rfl) (bkeeps (zc.early (by kernel_rfl)) _ _ ((hB133.cell 0).trans rfl)) ⟨_, rfl, Below.refl _ _, optDef zβ rfl⟩
     refine ⟨.inl ⟨rfl, (true && (decide (0 ≤ f) && T.gndL (l.take x.1))), .yes (d := true) rfl (fun v w h => h), (fun gg b h => by cases h; rfl), fun h w => optUndef h, fun zβ za zw zc => ?_⟩, ?_⟩
     ·exact nilCheck_ rfl ((evt za 50).trans (optSVal (zc.dep 3 50 (by kernel_rfl) (by decide)) rfl zβ)) ⟨_, rfl, Below.refl _ _, optDef zβ rfl⟩
     refine ⟨.inl ⟨rfl, (true && (decide (0 ≤ f) && T.gndL (l.take x.1))), .yes (d := true) rfl (fun v w h => h), (fun gg b h => by cases h; rfl), fun h w => optUndef h, fun zβ za zw zc => ?_⟩, ?_⟩
     ·exact fld_70_1 rfl ((evt za 51).trans (optSVal (zc.dep 4 51 (by kernel_rfl) (by decide)) rfl zβ)) ⟨_, rfl, Below.refl _ _, optDef zβ rfl⟩
     refine ⟨.inl ⟨rfl, (true && (decide (0 ≤ f) && T.gndL (l.take x.1))), .yes (d := true) rfl (fun v w h => h), (fun gg b h => by cases h; rfl), fun h w => optUndef h, fun zβ za zw zc => ?_⟩, ?_⟩
     ·exact ld_68 rfl ((evt za 52).trans (optSVal (zc.dep 5 52 (by kernel_rfl) (by decide)) rfl zβ)) (bkeeps (zc.early (by kernel_rfl)) _ _ hbo135.c1) ⟨_, rfl, Below.refl _ _, optDef zβ rfl⟩
     refine ⟨.inl ⟨rfl, (true && (decide (0 ≤ f) && T.gndL (l.take x.1))), .yes (d := true) rfl (fun v w h => h), (fun gg b h => by cases h; rfl), fun h w => optUndef h, fun zβ za zw zc => ?_⟩, ?_⟩
     ·exact wp_move rfl (zc.kn.ev rfl) ⟨_, rfl, Below.refl _ _, optDef zβ rfl⟩
     refine ⟨.inl ⟨rfl, (true && (decide (0 ≤ f) && T.gndL (l.take x.1))), .yes (d := true) rfl (fun v w h => h), (fun gg b h => by cases h; rfl), fun h w => optUndef h, fun zβ za zw zc => ?_⟩, ?_⟩
     ·exact ix_68 (k := ((tget l x.1).bput (T.bputL (l.take x.1) N).1).2) rfl ((evt za 53).trans (optSVal (zc.dep 6 53 (by kernel_rfl) (by decide)) rfl zβ)) eo135 ((evt za 54).trans (optSVal (zc.dep 7 54 (by kernel_rfl) (by decide)) rfl zβ)) (by first | omega | (have zz := zβ; simp only [Bool.and_eq_true, Bool.or_eq_true, Bool.true_and, Bool.not_eq_true', Bool.or_eq_false_iff, Bool.and_eq_false_iff, beq_eq_false_iff_ne, ne_eq, beq_iff_eq, decide_eq_true_eq, decide_eq_false_iff_not, bne_iff_ne, bne_eq_false_iff_eq] at zz; omega)) ⟨_, rfl, Below.refl _ _, optDef zβ rfl⟩
     refine ⟨.inl ⟨rfl, (true && (decide (0 ≤ f) && T.gndL (l.take x.1))), .yes (d := true) rfl (fun v w h => h), (fun gg b h => by cases h; rfl), fun h w => optUndef h, fun zβ za zw zc => ?_⟩, ?_⟩
     ·exact fld_83_0 rfl ((evt za 55).trans (optSVal (zc.dep 8 55 (by kernel_rfl) (by decide)) rfl zβ)) ⟨_, rfl, Below.refl _ _, optDef zβ rfl⟩
     refine ⟨.inl ⟨rfl, (true && (decide (0 ≤ f) && T.gndL (l.take x.1))), .yes (d := true) rfl (fun v w h => h), (fun gg b h => by cases h; rfl), fun h w => optUndef h, fun zβ za zw zc => ?_⟩, ?_⟩
     ·exact fld_81_1 rfl ((evt za 56).trans (optSVal (zc.dep 9 56 (by kernel_rfl) (by decide)) rfl zβ)) ⟨_, rfl, Below.refl _ _, optDef zβ rfl⟩
     refine ⟨.inl ⟨rfl, (true && (decide (0 ≤ f) && T.gndL (l.take x.1))), .yes (d := true) rfl (fun v w h => h), (fun gg b h => by cases h; rfl), fun h w => optUndef h, fun zβ za zw zc => ?_⟩, ?_⟩
     ·exact ld_4 rfl ((evt za 57).trans (optSVal (zc.dep 10 57 (by kernel_rfl) (by decide)) rfl zβ)) (bkeeps (zc.early (by kernel_rfl)) _ _ (hco135 (((tget l x.1).bput (T.bputL (l.take x.1) N).1).2) (by first | omega | (have zz := zβ; simp only [Bool.and_eq_true, Bool.or_eq_true, Bool.true_and, Bool.not_eq_true', Bool.or_eq_false_iff, Bool.and_eq_false_iff, beq_eq_false_iff_ne, ne_eq, beq_iff_eq, decide_eq_true_eq, decide_eq_false_iff_not, bne_iff_ne, bne_eq_false_iff_eq] at zz; omega))).2.1) ⟨_, rfl, Below.refl _ _, optDef zβ rfl⟩
     refine ⟨.inl ⟨rfl, true, .none rfl, (fun gg b h => by cases h), fun h w => optUndef h, fun zβ za zw zc => ?_⟩, ?_⟩
     ·exact wp_and rfl ((evt za 49).trans (optSVal (zc.dep 2 49 (by kernel_rfl) (by decide)) rfl rfl)) (fun hp => ((evt za 58).trans (optSVal (zc.dep 11 58 (by kernel_rfl) (by decide)) rfl (bMk rfl hp)))) ⟨_, rfl, Below.refl _ _, optDef zβ rfl⟩
     refine ⟨.inl ⟨rfl, true, .none rfl, (fun gg b h => by cases h), fun h w => optUndef h, fun zβ za zw zc => ?_⟩, ?_⟩
     ·exact fld_81_1 rfl (zc.kn.ev rfl) ⟨_, rfl, Below.refl _ _, optDef zβ rfl⟩
     refine ⟨.inr ⟨rfl, rfl, fun za zw zc => ?_⟩, ?_⟩
     ·exact st_4 rfl ((evt za 60).trans (optSVal (zc.dep 13 60 (by kernel_rfl) (by decide)) rfl rfl)) ((evt za 59).trans (optSVal (zc.dep 12 59 (by kernel_rfl) (by decide)) rfl rfl)) (hG126.below zc.below) (by first | decide | simp) (fun v => ⟨v, rfl, (hG126.below zc.below).set_ 1 _, .ofUpd (Upd.at_ _ _ _ _) rfl⟩)
     exact trivial
    ·intro za w136 zh hG137 hc138 zu
     have hC139 := chg_fresh hC128 hc138 (fun b e => .inr (by rw [show b = g11 from e]; exact hg6w))
     have hr140 := hr129.chg hc138 (fun b q k => (RowD.neBlk hr129 hG126 (by decide)) ((show b = g11 from k) ▸ q)) (fun b q => q.elim)
     have ht141 := ht130.chg hc138 (fun b q k => by have z := (hA b q).2; have z2 : b = g11 := k; omega)
     have hK142 := hK131.chg hc138 (fun b q k => by have z2 : b = g11 := k; rw [z2] at q; exact hK8g q)
     have hB143 := chg_blk hB132 hc138 (fun k => by have z2 : gw = g11 := k; omega)
     have hB144 := chg_blk hB133 hc138 (fun k => by have z2 : gb = g11 := k; omega)
     have hB145 := chg_blk hB134 hc138 (fun k => hg36 k)
     have hB146 : Blk w136 g11 81 #[.int .i64 ((((1 + T.sizeL (l.take (x.1 + 1))) : Nat) : Int)), .bool ((decide (0 ≤ f) && T.gndL (l.take (x.1 + 1))))] := by
      have e : (decide (0 ≤ f) && T.gndL (l.take (x.1 + 1))) = ((decide (0 ≤ f) && T.gndL (l.take x.1)) && (xget Lo135 ((tget l x.1).bput (T.bputL (l.take x.1) N).1).2).gr) := by rw [htl9.2, List.take_succ_eq_append_getElem (by omega), ← tget_lt (show x.1 < l.length by omega), gndL_snoc, Bool.and_assoc]
      rw [e]; exact hG137
     clear zu
     refine WE.go zh ?_
     refine WE.blockNormal (WE.next (WC.region ?_))
     refine WL.val (.int .i64 ((((x.1 + 1) : Nat) : Int))) rfl rfl rfl (fun za zC zh zk => addb_3 rfl (zh.ev rfl) (zh.ev rfl) (wrap_eq (by omega) (by omega) (by omega)) zk) ?_
     refine WL.mv rfl rfl rfl rfl rfl ?_
     refine WL.nil (WE.sub (K' := [(0, .agg #[.int .i64 f, .slice a l.length c]), (1, .pointer (some ⟨gw, 0, none⟩)), (2, .pointer (some ⟨gb, 0, none⟩)), (3, .pointer (some ⟨g2, 0, none⟩)), (4, .int .i64 0), (5, .slice ra111 ((x.1 + 1)) rc112), (6, .pointer (some ⟨g11, 0, none⟩)), (8, .pointer (some ⟨g49, 0, none⟩)), (9, .int .i64 (((((tget l x.1).bput (T.bputL (l.take x.1) N).1).2 : Nat) : Int))), (21, .slice a l.length c), (22, .int .i64 (((l.length : Nat) : Int))), (23, .int .i64 ((((x.1 + 1) : Nat) : Int))), (24, .bool ((decide ((((x.1 : Nat) : Int) : Int) < (((l.length : Nat) : Int) : Int)))))]) ⟨rfl, rfl, rfl, rfl, rfl, rfl, rfl, rfl, rfl, rfl, rfl, rfl, rfl, trivial⟩ ?_)
     refine WE.round ((x.1 + 1, ra111, rc112)) ⟨rfl, rfl, rfl, rfl, rfl, rfl, rfl, rfl, rfl, rfl, trivial⟩ ?_ ?_
     ·have hZW9 := hWR
      have hZa9 : w59.heap.size ≤ w90.heap.size := hWR
      have hj147 : BkJ w136 w.heap.size Z g sg ((T.bputL (l.take (x.1 + 1)) N).1) (fun b => b = g2 ∨ b = g11 ∨ b = gw ∨ b = gb ∨ A b ∨ obk ra111 ((x.1 + 1)) rc112 = some b) := by
       rw [bputL_take (by omega)]
       exact ⟨Z75, hK142, fun b q => by rcases hZ77 b q with z | z; exact hZ9 b z; (right; omega), fun b q k => by
        rcases hZ77 b k with z | z
        ·rcases q with q | q | q | q | q | q
         ·exact hX9 b (.inl q) z
         ·exact hX9 b (.inr (.inl q)) z
         ·exact hX9 b (.inr (.inr (.inl q))) z
         ·exact hX9 b (.inr (.inr (.inr (.inl q)))) z
         ·exact hX9 b (.inr (.inr (.inr (.inr (.inl q))))) z
         ·rcases ho115 b q with y | y
          ·exact hX9 b (.inr (.inr (.inr (.inr (.inr y))))) z
          ·have z3 := hZ9l b z; omega
        ·rcases q with q | q | q | q | q | q
         ·omega
         ·omega
         ·omega
         ·omega
         ·have z3 := (hA b q).2; omega
         ·rcases ho115 b q with y | y
          ·have z3 := hrl b y; omega
          ·have z3 := hq7l b k; omega⟩
      exact ⟨(by (try dsimp only); omega), hC139, (fun b e => by rcases ho115 b e with z | z; exact hownx b z; omega), hB143, hB144, hB145, hB146, hj147, (by (try dsimp only); rw [bputL_take (by omega)]; exact hr140), ht141⟩
     ·(try dsimp only); omega
  ·have h41 : ¬ ((((x.1 : Nat) : Int) : Int) < (((l.length : Nat) : Int) : Int)) := by simpa using h41
   refine WC.exit (WE.thenExit (WE.thenExit (WE.blockIs rfl (WE.next (WC.seq ?_)))))
   have hx1 : x.1 = l.length := by omega
   have hxb : ∀ q ∈ (T.bputL (l.take x.1) N).2, q < (T.bputL (l.take x.1) N).1.length := hpo.2.1
   have hNb := hpo.2.2.2
   have hxq : ∀ q ∈ (T.bputL (l.take x.1) N).2, q < 1048577 := fun q hq => by have z := hxb q hq; omega
   have hzo : EnOk (⟨f, (T.bputL (l.take x.1) N).2⟩ : En) := fun q hq => Nat.lt_trans (hxq q hq) (by decide)
   have hko := keyOf_any f (T.bputL (l.take x.1) N).2 (by omega) (fun q hq => Nat.lt_trans (hxq q hq) (by decide)) _ _ _ x.2.2 (RowD.inRowOwn ho39)
   rw [hlk] at hko
   have hcap17 := (RowD.inRow ho39).2.1
   have hbp : (T.mk f l).bput N = addE (T.bputL (l.take x.1) N).1 (⟨f, (T.bputL (l.take x.1) N).2⟩ : En) := by rw [hx1, List.take_length, T.bput]
   refine WC.region ?_
   refine WL.val _ rfl rfl rfl (fun za zC zh zk => fld_35_0 rfl (zh.ev rfl) zk) ?_
   refine WL.val _ rfl rfl rfl (fun za zC zh zk => ld_3 rfl (zh.ev rfl) ((hB36.cell 0).trans rfl) zk) ?_
   refine WL.mv rfl rfl rfl rfl rfl ?_
   refine WL.call rfl rfl rfl (fun za zh zC => wp_call (by kernel_rfl) rfl (hv2 (zh.ev rfl) (zh.ev rfl))) hko ?_
   rintro _ w148 ⟨rfl, hbk⟩
   refine WL.step (post := NewBlk w148 77 #[.int .i64 0, .string (⟨#[]⟩)]) rfl rfl rfl (fun za zC zh zk => alloc_77 rfl (zk _ _ (newBlk _ _ _))) ?_
   rintro _ w149 ⟨g150, rfl, hg151, hB152, hb153, hz154⟩
   have hl155 : gw < g150 := by have z1 := hB34.lt; have z2 := (hbk).size; omega
   have hl156 : gb < g150 := by have z1 := hB35.lt; have z2 := (hbk).size; omega
   have hl157 : g2 < g150 := by have z1 := hB36.lt; have z2 := (hbk).size; omega
   have hl158 : g11 < g150 := by have z1 := hB37.lt; have z2 := (hbk).size; omega
   have hl159 : w33.heap.size ≤ g150 := by have z2 := (hbk).size; omega
   refine WL.step (post := fun _ w' => Upd g150 w149 w' ∧ Blk w' g150 77 #[.int .i64 f, .string ((kba (T.bputL (l.take x.1) N).2))]) rfl rfl rfl (fun za zC zh zk => st_77 rfl (zh.ev rfl) (zh.ev rfl) rfl rfl hB152 (by first | decide | simp) (fun v => zk v _ ⟨(Upd.at_ _ _ _ _).trans (Upd.at_ _ _ _ _), (hB152.set_ 0 _).set_ 1 _⟩)) ?_
   rintro v163 w160 ⟨hu161, hB162⟩
   have hb164 : Below w33.heap.size w33 w149 := (bstep hbk hb153)
   have hb165 := upd_below hb164 hu161 (by omega)
   have hB166 := hB34.below hb164
   have hB167 := upd_blk hB166 hu161 (by omega)
   have hB168 := hB35.below hb164
   have hB169 := upd_blk hB168 hu161 (by omega)
   have hB170 := hB36.below hb164
   have hB171 := upd_blk hB170 hu161 (by omega)
   have hB172 := hB37.below hb164
   have hB173 := upd_blk hB172 hu161 (by omega)
   refine WL.nil (WE.next (WC.seq (WC.seq ?_)))
   have hs12 : w33.heap.size ≤ w148.heap.size := hbk.size
   have hg10Z : ¬ Z9 g150 := fun q => by have z := hZ9l _ q; omega
   have ho174 := hK9.below hb165
   obtain ⟨So175, mo175, lao175, lco175, Lo175, Ro175, hbo175, hwo175, hzo175, hlo175⟩ := id ho174
   have hno175 := hwo175.len
   have hc1o175 : w160.cell? ⟨g, 1, none⟩ = some (.slice lao175 (T.bputL (l.take x.1) N).1.length lco175) := by rw [← hno175]; exact hbo175.c1
   refine WC.opt [(true, .val (.pointer (some ⟨g, 0, none⟩))), (true, .val (.pointer (some ⟨g, 0, none⟩))), (true, .val (.pointer (some ⟨g, 2, none⟩))), (true, .val (.map ((some mo175)))), (true, .val (.agg #[.int .i64 f, .string ((kba (T.bputL (l.take x.1) N).2))])), (true, .val (.tuple #[.int .i64 (((((idxE (T.bputL (l.take x.1) N).1 (⟨f, (T.bputL (l.take x.1) N).2⟩ : En)).getD 0) : Nat) : Int)), .bool ((idxE (T.bputL (l.take x.1) N).1 (⟨f, (T.bputL (l.take x.1) N).2⟩ : En)).isSome)])), (true, .val (.tuple #[.int .i64 (((((idxE (T.bputL (l.take x.1) N).1 (⟨f, (T.bputL (l.take x.1) N).2⟩ : En)).getD 0) : Nat) : Int)), .bool ((idxE (T.bputL (l.take x.1) N).1 (⟨f, (T.bputL (l.take x.1) N).2⟩ : En)).isSome)])), (true, .val (.int .i64 (((((idxE (T.bputL (l.take x.1) N).1 (⟨f, (T.bputL (l.take x.1) N).2⟩ : En)).getD 0) : Nat) : Int)))), (true, .val (.bool ((idxE (T.bputL (l.take x.1) N).1 (⟨f, (T.bputL (l.take x.1) N).2⟩ : En)).isSome))), (true, .val (.int .i64 (((((idxE (T.bputL (l.take x.1) N).1 (⟨f, (T.bputL (l.take x.1) N).2⟩ : En)).getD 0) : Nat) : Int)))), (true, .val (.bool ((idxE (T.bputL (l.take x.1) N).1 (⟨f, (T.bputL (l.take x.1) N).2⟩ : En)).isSome)))] [(0, .agg #[.int .i64 f, .slice a l.length c]), (1, .pointer (some ⟨gw, 0, none⟩)), (2, .pointer (some ⟨gb, 0, none⟩)), (3, .pointer (some ⟨g2, 0, none⟩)), (4, .int .i64 0), (5, .slice x.2.1 x.1 x.2.2), (6, .pointer (some ⟨g11, 0, none⟩)), (10, .pointer (some ⟨g150, 0, none⟩)), (21, .slice a l.length c), (22, .int .i64 (((l.length : Nat) : Int))), (23, .int .i64 (((x.1 : Nat) : Int))), (24, .bool ((decide ((((x.1 : Nat) : Int) : Int) < (((l.length : Nat) : Int) : Int)))))] ⟨rfl, rfl, rfl, rfl, rfl, rfl, rfl, rfl, rfl, rfl, rfl, rfl, trivial⟩ (by kernel_rfl) (by kernel_rfl) (by kernel_rfl) ?_ ?_
   ·refine ⟨⟨true, .none rfl, fun h w => optUndef h, fun zβ za zw zc => ?_⟩, ?_⟩
    ·exact ld_26 rfl (zc.kn.ev rfl) (bkeeps zc.below _ _ ((hB169.cell 0).trans rfl)) ⟨_, rfl, Below.refl _ _, optDef zβ rfl⟩
    refine ⟨⟨true, .none rfl, fun h w => optUndef h, fun zβ za zw zc => ?_⟩, ?_⟩
    ·exact nilCheck_ rfl ((evt za 67).trans (optVal (zc.dep 0 67 (by kernel_rfl)) rfl rfl)) ⟨_, rfl, Below.refl _ _, optDef zβ rfl⟩
    refine ⟨⟨true, .none rfl, fun h w => optUndef h, fun zβ za zw zc => ?_⟩, ?_⟩
    ·exact fld_70_2 rfl ((evt za 68).trans (optVal (zc.dep 1 68 (by kernel_rfl)) rfl rfl)) ⟨_, rfl, Below.refl _ _, optDef zβ rfl⟩
    refine ⟨⟨true, .none rfl, fun h w => optUndef h, fun zβ za zw zc => ?_⟩, ?_⟩
    ·exact ld_67 rfl ((evt za 69).trans (optVal (zc.dep 2 69 (by kernel_rfl)) rfl rfl)) (bkeeps zc.below _ _ hbo175.c2) ⟨_, rfl, Below.refl _ _, optDef zβ rfl⟩
    refine ⟨⟨true, .none rfl, fun h w => optUndef h, fun zβ za zw zc => ?_⟩, ?_⟩
    ·exact ld_77 rfl (zc.kn.ev rfl) (bkeeps zc.below _ _ ((hB162.cell 0).trans rfl)) (bkeeps zc.below _ _ ((hB162.cell 1).trans rfl)) ⟨_, rfl, Below.refl _ _, optDef zβ rfl⟩
    refine ⟨⟨true, .none rfl, fun h w => optUndef h, fun zβ za zw zc => ?_⟩, ?_⟩
    ·exact wp_lookup_key (z := (⟨f, (T.bputL (l.take x.1) N).2⟩ : En)) hzo rfl ((evt za 70).trans (optVal (zc.dep 3 70 (by kernel_rfl)) rfl rfl)) ((evt za 71).trans (optVal (zc.dep 4 71 (by kernel_rfl)) rfl rfl)) (hbo175.map.below zc.below) ⟨_, rfl, Below.refl _ _, optDef zβ rfl⟩
    refine ⟨⟨true, .none rfl, fun h w => optUndef h, fun zβ za zw zc => ?_⟩, ?_⟩
    ·exact wp_move rfl ((evt za 72).trans (optVal (zc.dep 5 72 (by kernel_rfl)) rfl rfl)) ⟨_, rfl, Below.refl _ _, optDef zβ rfl⟩
    refine ⟨⟨true, .none rfl, fun h w => optUndef h, fun zβ za zw zc => ?_⟩, ?_⟩
    ·exact ext2_0 rfl ((evt za 66).trans (optVal (zc.dep 6 66 (by kernel_rfl)) rfl rfl)) ⟨_, rfl, Below.refl _ _, optDef zβ rfl⟩
    refine ⟨⟨true, .none rfl, fun h w => optUndef h, fun zβ za zw zc => ?_⟩, ?_⟩
    ·exact ext2_1 rfl ((evt za 66).trans (optVal (zc.dep 6 66 (by kernel_rfl)) rfl rfl)) ⟨_, rfl, Below.refl _ _, optDef zβ rfl⟩
    refine ⟨⟨true, .none rfl, fun h w => optUndef h, fun zβ za zw zc => ?_⟩, ?_⟩
    ·exact wp_assign rfl ((evt za 73).trans (optVal (zc.dep 7 73 (by kernel_rfl)) rfl rfl)) ⟨_, rfl, Below.refl _ _, optDef zβ rfl⟩
    refine ⟨⟨true, .none rfl, fun h w => optUndef h, fun zβ za zw zc => ?_⟩, ?_⟩
    ·exact wp_assign rfl ((evt za 74).trans (optVal (zc.dep 8 74 (by kernel_rfl)) rfl rfl)) ⟨_, rfl, Below.refl _ _, optDef zβ rfl⟩
    exact trivial
   ·intro za w176 zh hb177 zu
    have zh := zh.cons (d := 11) (v := .int .i64 (((((idxE (T.bputL (l.take x.1) N).1 (⟨f, (T.bputL (l.take x.1) N).2⟩ : En)).getD 0) : Nat) : Int))) (optVal (zu 9 11 (by kernel_rfl)) rfl rfl)
    have zh := zh.cons (d := 12) (v := .bool ((idxE (T.bputL (l.take x.1) N).1 (⟨f, (T.bputL (l.take x.1) N).2⟩ : En)).isSome)) (optVal (zu 10 12 (by kernel_rfl)) rfl rfl)
    clear zu
    refine WE.go zh ?_
    refine WE.next (WC.seq (WC.region (WL.mv rfl rfl rfl rfl rfl (WL.nil (WE.next ?_)))))
    refine WC.cond rfl (fun h178 => ?_) (fun h178 => ?_)
    ·skip
     obtain ⟨n0, hn0⟩ := Option.isSome_iff_exists.1 h178
     refine WC.seq (WC.region (WL.mv rfl rfl rfl rfl rfl (WL.asg rfl rfl rfl rfl rfl (WL.nil (WE.next (WC.ret (WE.thenRet (WE.ret1 rfl rfl ?_))))))))
     have ho179 := ho174.below hb177
     have hb181 : Below w33.heap.size w33 w176 := (bstep hb165 hb177)
     have hC180 := Chg.trans hCx (.ofBelow hb181)
     rw [hbp, show addE (T.bputL (l.take x.1) N).1 (⟨f, (T.bputL (l.take x.1) N).2⟩ : En) = ((T.bputL (l.take x.1) N).1, n0) from by unfold addE; rw [hn0]]
     exact ⟨_, rfl, by rw [hn0]; rfl, ⟨Z9, ho179, hZ9⟩, hC180⟩
    ·skip
     have hno : idxE (T.bputL (l.take x.1) N).1 (⟨f, (T.bputL (l.take x.1) N).2⟩ : En) = none := by cases hq : idxE (T.bputL (l.take x.1) N).1 (⟨f, (T.bputL (l.take x.1) N).2⟩ : En) with | none => rfl | some q => rw [hq] at h178; simp at h178
     refine WC.skip (WE.next (WC.seq ?_))
     have ho182 := ho174.below hb177
     obtain ⟨So183, mo183, lao183, lco183, Lo183, Ro183, hbo183, hwo183, hzo183, hlo183⟩ := id ho182
     have hno183 := hwo183.len
     have hc1o183 : w176.cell? ⟨g, 1, none⟩ = some (.slice lao183 (T.bputL (l.take x.1) N).1.length lco183) := by rw [← hno183]; exact hbo183.c1
     refine WC.region ?_
     have hB184 := hB169.below hb177
     refine WL.val _ rfl rfl rfl (fun za zC zh zk => ld_26 rfl (zh.ev rfl) ((hB184.cell 0).trans rfl) zk) ?_
     refine WL.val _ rfl rfl rfl (fun za zC zh zk => nilCheck_ rfl (zh.ev rfl) zk) ?_
     refine WL.val _ rfl rfl rfl (fun za zC zh zk => fld_70_1 rfl (zh.ev rfl) zk) ?_
     refine WL.val _ rfl rfl rfl (fun za zC zh zk => ld_68 rfl (zh.ev rfl) hc1o183 zk) ?_
     refine WL.val (.int .i64 ((((T.bputL (l.take x.1) N).1.length : Nat) : Int))) rfl rfl rfl (fun za zC zh zk => len_68 rfl (zh.ev rfl) zk) ?_
     refine WL.asg rfl rfl rfl rfl rfl (WL.nil (WE.next (WC.seq ?_)))
     have hb186 : Below w33.heap.size w33 w176 := (bstep hb165 hb177)
     have ho185 := ho39.below hb186
     have ho187 := ho40.below hb186
     have hB188 := hB171.below hb177
     have hB189 := hB173.below hb177
     have hB190 := hB162.below hb177
     have hmZ : Z9 mo183 := hzo183 mo183 (.inr (.inl rfl))
     have hb16 := BK.below hbo183 (Below.refl _ _)
     have hSlt : ∀ b, b = mo183 → b < w176.heap.size := fun b e => e ▸ hb16.map.lt
     refine WC.tail1 (S := ((fun b => b = mo183))) [(true, .val (.pointer (some ⟨g, 0, none⟩))), (true, .val (.pointer (some ⟨g, 0, none⟩))), (true, .val (.pointer (some ⟨g, 2, none⟩))), (true, .val (.map ((some mo183)))), (true, .val (.agg #[.int .i64 f, .string ((kba (T.bputL (l.take x.1) N).2))])), (true, .val (.int .i64 ((((T.bputL (l.take x.1) N).1.length : Nat) : Int)))), (true, .val undef)] [(0, .agg #[.int .i64 f, .slice a l.length c]), (1, .pointer (some ⟨gw, 0, none⟩)), (2, .pointer (some ⟨gb, 0, none⟩)), (3, .pointer (some ⟨g2, 0, none⟩)), (4, .int .i64 0), (5, .slice x.2.1 x.1 x.2.2), (6, .pointer (some ⟨g11, 0, none⟩)), (10, .pointer (some ⟨g150, 0, none⟩)), (11, .int .i64 (((((idxE (T.bputL (l.take x.1) N).1 (⟨f, (T.bputL (l.take x.1) N).2⟩ : En)).getD 0) : Nat) : Int))), (12, .bool ((idxE (T.bputL (l.take x.1) N).1 (⟨f, (T.bputL (l.take x.1) N).2⟩ : En)).isSome)), (13, .int .i64 ((((T.bputL (l.take x.1) N).1.length : Nat) : Int))), (21, .slice a l.length c), (22, .int .i64 (((l.length : Nat) : Int))), (23, .int .i64 (((x.1 : Nat) : Int))), (24, .bool ((decide ((((x.1 : Nat) : Int) : Int) < (((l.length : Nat) : Int) : Int))))), (75, .bool ((idxE (T.bputL (l.take x.1) N).1 (⟨f, (T.bputL (l.take x.1) N).2⟩ : En)).isSome))] 6 (fun wz => MapK wz mo183 ((T.bputL (l.take x.1) N).1 ++ [(⟨f, (T.bputL (l.take x.1) N).2⟩ : En)]) ∧ BK wz g sg So183 mo183 (lao183, Lo183.length, lco183) lao183 lco183 Lo183 ((T.bputL (l.take x.1) N).1 ++ [(⟨f, (T.bputL (l.take x.1) N).2⟩ : En)]) Ro183 (usersE (T.bputL (l.take x.1) N).1)) (fun w1 w2 hb h => ⟨h.1.below hb, h.2.below hb⟩) ⟨rfl, rfl, rfl, rfl, rfl, rfl, rfl, rfl, rfl, rfl, rfl, rfl, rfl, rfl, rfl, rfl, trivial⟩ (by kernel_rfl) (by kernel_rfl) (by kernel_rfl) (by kernel_rfl) ?_ ?_
     ·refine ⟨.inl ⟨rfl, true, .none rfl, (fun gg b h => by cases h), fun h w => optUndef h, fun zβ za zw zc => ?_⟩, ?_⟩
      ·exact ld_26 rfl (zc.kn.ev rfl) (bkeeps (zc.early (by kernel_rfl)) _ _ ((hB184.cell 0).trans rfl)) ⟨_, rfl, Below.refl _ _, optDef zβ rfl⟩
      refine ⟨.inl ⟨rfl, true, .none rfl, (fun gg b h => by cases h), fun h w => optUndef h, fun zβ za zw zc => ?_⟩, ?_⟩
      ·exact nilCheck_ rfl ((evt za 82).trans (optSVal (zc.dep 0 82 (by kernel_rfl) (by decide)) rfl rfl)) ⟨_, rfl, Below.refl _ _, optDef zβ rfl⟩
      refine ⟨.inl ⟨rfl, true, .none rfl, (fun gg b h => by cases h), fun h w => optUndef h, fun zβ za zw zc => ?_⟩, ?_⟩
      ·exact fld_70_2 rfl ((evt za 83).trans (optSVal (zc.dep 1 83 (by kernel_rfl) (by decide)) rfl rfl)) ⟨_, rfl, Below.refl _ _, optDef zβ rfl⟩
      refine ⟨.inl ⟨rfl, true, .none rfl, (fun gg b h => by cases h), fun h w => optUndef h, fun zβ za zw zc => ?_⟩, ?_⟩
      ·exact ld_67 rfl ((evt za 84).trans (optSVal (zc.dep 2 84 (by kernel_rfl) (by decide)) rfl rfl)) (bkeeps (zc.early (by kernel_rfl)) _ _ hbo183.c2) ⟨_, rfl, Below.refl _ _, optDef zβ rfl⟩
      refine ⟨.inl ⟨rfl, true, .none rfl, (fun gg b h => by cases h), fun h w => optUndef h, fun zβ za zw zc => ?_⟩, ?_⟩
      ·exact ld_77 rfl (zc.kn.ev rfl) (bkeeps (zc.early (by kernel_rfl)) _ _ ((hB190.cell 0).trans rfl)) (bkeeps (zc.early (by kernel_rfl)) _ _ ((hB190.cell 1).trans rfl)) ⟨_, rfl, Below.refl _ _, optDef zβ rfl⟩
      refine ⟨.inl ⟨rfl, true, .none rfl, (fun gg b h => by cases h), fun h w => optUndef h, fun zβ za zw zc => ?_⟩, ?_⟩
      ·exact wp_move rfl (zc.kn.ev rfl) ⟨_, rfl, Below.refl _ _, optDef zβ rfl⟩
      refine ⟨.inr ⟨rfl, rfl, fun za zw zc => ?_⟩, ?_⟩
      ·exact wp_mapUpdate_key (z := (⟨f, (T.bputL (l.take x.1) N).2⟩ : En)) hzo rfl ((evt za 85).trans (optSVal (zc.dep 3 85 (by kernel_rfl) (by decide)) rfl rfl)) ((evt za 86).trans (optSVal (zc.dep 4 86 (by kernel_rfl) (by decide)) rfl rfl)) ((evt za 87).trans (optSVal (zc.dep 5 87 (by kernel_rfl) (by decide)) rfl rfl)) (hb16.map.below zc.below) hno (fun u w' h1 h2 => ⟨u, rfl, ⟨h1, hb16.setM' zc.below h1 h2⟩, .ofUpd h2 rfl⟩)
      exact trivial
     ·intro za w191 zh hG192 hc193 zu
      have hC194 := Chg.trans hCx (.ofBelow hb186)
      have hC195 := chg_fresh hC194 hc193 (fun b e => hZ9 b (by rw [show b = mo183 from e]; exact hmZ))
      have hr196 := RowD.chg ho185 hc193 (fun b q k => hX9 b (.inr (.inr (.inr (.inr (.inr q))))) (by rw [show b = mo183 from k]; exact hmZ)) (fun b q => q.elim)
      have hB197 := chg_blk hB184 hc193 (fun k => hX9 _ (.inr (.inr (.inr (.inl rfl)))) (by rw [show _ = mo183 from k]; exact hmZ))
      have hB198 := chg_blk hB188 hc193 (fun k => hX9 _ (.inl rfl) (by rw [show _ = mo183 from k]; exact hmZ))
      have hB199 := chg_blk hB189 hc193 (fun k => hX9 _ (.inr (.inl rfl)) (by rw [show _ = mo183 from k]; exact hmZ))
      have hB200 := chg_blk hB190 hc193 (fun k => hg10Z (by rw [show _ = mo183 from k]; exact hmZ))
      clear zu
      refine WE.go zh ?_
      refine WE.next (WC.seq ?_)
      have hW17 := (hC195).size
      have hgZ : Z9 g := hzo183 g (.inl rfl)
      have hSlt : ∀ b, (fun b => b = g ∨ obk lao183 Lo183.length lco183 = some b) b → b < w191.heap.size := fun b q => q.elim (fun e => e ▸ hG192.2.blk.lt) (fun e => hG192.2.row.lt b e)
      have hLn : Lo183.length = (T.bputL (l.take x.1) N).1.length := hno183
      have hSZ : ∀ b, (fun b => b = g ∨ obk lao183 Lo183.length lco183 = some b) b → Z9 b := fun b q => q.elim (fun e => e ▸ hgZ) (fun e => hzo183 b (.inr (.inr (.inr (.inl e)))))
      have hin17 : eltX.In (fun b => obk x.2.1 x.1 x.2.2 = some b) w191 (⟨(⟨f, (T.bputL (l.take x.1) N).2⟩ : En), (1 + T.sizeL (l.take x.1)), (decide (0 ≤ f) && T.gndL (l.take x.1)), none, 0, 0⟩ : Ex) [.int .i64 ((((1 + T.sizeL (l.take x.1)) : Nat) : Int)), .bool ((decide (0 ≤ f) && T.gndL (l.take x.1))), .int .i64 f, .slice x.2.1 x.1 x.2.2, .slice none 0 0] := ⟨x.2.1, x.2.2, by rw [show ((⟨(⟨f, (T.bputL (l.take x.1) N).2⟩ : En), (1 + T.sizeL (l.take x.1)), (decide (0 ≤ f) && T.gndL (l.take x.1)), none, 0, 0⟩ : Ex) : Ex).en.args.length = x.1 from hlk], RowD.inRowOwn hr196⟩
      have hOA : ∀ b, obk x.2.1 x.1 x.2.2 = some b → ¬ Z9 b := fun b q => hX9 b (.inr (.inr (.inr (.inr (.inr q)))))
      have hOAl : ∀ b, obk x.2.1 x.1 x.2.2 = some b → b < w191.heap.size := hr196.lt
      refine WC.tail2 (S := ((fun b => b = g ∨ obk lao183 Lo183.length lco183 = some b))) [(true, .val (.pointer (some ⟨g, 0, none⟩))), (true, .val (.pointer (some ⟨g, 0, none⟩))), (true, .val (.pointer (some ⟨g, 0, none⟩))), (true, .val (.pointer (some ⟨g, 1, none⟩))), (true, .val (.slice lao183 ((T.bputL (l.take x.1) N).1.length) lco183)), (true, .val (.agg #[.int .i64 ((((1 + T.sizeL (l.take x.1)) : Nat) : Int)), .bool ((decide (0 ≤ f) && T.gndL (l.take x.1)))])), (true, .val (.pointer (some ⟨g2, 0, none⟩))), (true, .val (.int .i64 f)), (true, .val (.slice x.2.1 x.1 x.2.2)), (true, .val (.agg #[.int .i64 ((((1 + T.sizeL (l.take x.1)) : Nat) : Int)), .bool ((decide (0 ≤ f) && T.gndL (l.take x.1))), .int .i64 f, .slice x.2.1 x.1 x.2.2, .slice none 0 0])), (true, .mem (fun v w' => ∃ g, v = .slice (some ⟨g, 0, none⟩) 1 1 ∧ w191.heap.size ≤ g ∧ Blk w' g 83 #[.int .i64 ((((1 + T.sizeL (l.take x.1)) : Nat) : Int)), .bool ((decide (0 ≤ f) && T.gndL (l.take x.1))), .int .i64 f, .slice x.2.1 x.1 x.2.2, .slice none 0 0]) (fun v w1 w2 hc h => by obtain ⟨g, e, h1, h2⟩ := h; exact ⟨g, e, h1, chg_blk h2 hc (fun q => by have z := hSlt _ q; omega)⟩)), (true, .val undef), (true, .val (.pointer (some ⟨g, 0, none⟩))), (true, .val (.pointer (some ⟨g, 1, none⟩))), (true, .val undef)] [(0, .agg #[.int .i64 f, .slice a l.length c]), (1, .pointer (some ⟨gw, 0, none⟩)), (2, .pointer (some ⟨gb, 0, none⟩)), (3, .pointer (some ⟨g2, 0, none⟩)), (4, .int .i64 0), (5, .slice x.2.1 x.1 x.2.2), (6, .pointer (some ⟨g11, 0, none⟩)), (10, .pointer (some ⟨g150, 0, none⟩)), (11, .int .i64 (((((idxE (T.bputL (l.take x.1) N).1 (⟨f, (T.bputL (l.take x.1) N).2⟩ : En)).getD 0) : Nat) : Int))), (12, .bool ((idxE (T.bputL (l.take x.1) N).1 (⟨f, (T.bputL (l.take x.1) N).2⟩ : En)).isSome)), (13, .int .i64 ((((T.bputL (l.take x.1) N).1.length : Nat) : Int))), (21, .slice a l.length c), (22, .int .i64 (((l.length : Nat) : Int))), (23, .int .i64 (((x.1 : Nat) : Int))), (24, .bool ((decide ((((x.1 : Nat) : Int) : Int) < (((l.length : Nat) : Int) : Int))))), (75, .bool ((idxE (T.bputL (l.take x.1) N).1 (⟨f, (T.bputL (l.take x.1) N).2⟩ : En)).isSome))] 11 14 (((T.bputL (l.take x.1) N).1.length + 1)) 99 (fun ra rc wz => (BK wz g sg (fun b => So183 b ∨ obk x.2.1 x.1 x.2.2 = some b) mo183 (lao183, Lo183.length, lco183) ra rc ((Lo183 ++ [(⟨(⟨f, (T.bputL (l.take x.1) N).2⟩ : En), (1 + T.sizeL (l.take x.1)), (decide (0 ≤ f) && T.gndL (l.take x.1)), none, 0, 0⟩ : Ex)])) ((T.bputL (l.take x.1) N).1 ++ [(⟨f, (T.bputL (l.take x.1) N).2⟩ : En)]) Ro183 (usersE (T.bputL (l.take x.1) N).1)) ∧ ∀ b, obk ra ((Lo183.length + 1)) rc = some b → Z b ∨ w.heap.size ≤ b) (fun ra rc wz => (BK wz g sg (fun b => So183 b ∨ obk x.2.1 x.1 x.2.2 = some b) mo183 (ra, Lo183.length + 1, rc) ra rc ((Lo183 ++ [(⟨(⟨f, (T.bputL (l.take x.1) N).2⟩ : En), (1 + T.sizeL (l.take x.1)), (decide (0 ≤ f) && T.gndL (l.take x.1)), none, 0, 0⟩ : Ex)])) ((T.bputL (l.take x.1) N).1 ++ [(⟨f, (T.bputL (l.take x.1) N).2⟩ : En)]) Ro183 (usersE (T.bputL (l.take x.1) N).1)) ∧ ∀ b, obk ra ((Lo183.length + 1)) rc = some b → Z b ∨ w.heap.size ≤ b) (by decide) (fun ra rc w1 w2 hb h => ⟨h.1.below hb, h.2⟩) (fun ra rc w1 w2 hb h => ⟨h.1.below hb, h.2⟩) ⟨rfl, rfl, rfl, rfl, rfl, rfl, rfl, rfl, rfl, rfl, rfl, rfl, rfl, rfl, rfl, rfl, trivial⟩ (by kernel_rfl) (by kernel_rfl) (by kernel_rfl) (by kernel_rfl) (by kernel_rfl) ?_ ?_
      ·refine ⟨.inl ⟨rfl, true, .none rfl, (fun gg b h => by cases h), fun h w => optUndef h, fun zβ za zw zc => ?_⟩, ?_⟩
       ·exact ld_26 rfl (zc.kn.ev rfl) (((chg_blk hB197 zc.chg (fun k => hX9 _ (.inr (.inr (.inr (.inl rfl)))) (hSZ _ k))).cell 0).trans rfl) ⟨_, rfl, Below.refl _ _, optDef zβ rfl⟩
       refine ⟨.inl ⟨rfl, true, .none rfl, (fun gg b h => by cases h), fun h w => optUndef h, fun zβ za zw zc => ?_⟩, ?_⟩
       ·exact ld_26 rfl (zc.kn.ev rfl) (bkeeps (zc.early (by kernel_rfl)) _ _ ((hB197.cell 0).trans rfl)) ⟨_, rfl, Below.refl _ _, optDef zβ rfl⟩
       refine ⟨.inl ⟨rfl, true, .none rfl, (fun gg b h => by cases h), fun h w => optUndef h, fun zβ za zw zc => ?_⟩, ?_⟩
       ·exact nilCheck_ rfl ((evt za 89).trans (optSVal (zc.dep 1 89 (by kernel_rfl) (by decide)) rfl rfl)) ⟨_, rfl, Below.refl _ _, optDef zβ rfl⟩
       refine ⟨.inl ⟨rfl, true, .none rfl, (fun gg b h => by cases h), fun h w => optUndef h, fun zβ za zw zc => ?_⟩, ?_⟩
       ·exact fld_70_1 rfl ((evt za 90).trans (optSVal (zc.dep 2 90 (by kernel_rfl) (by decide)) rfl rfl)) ⟨_, rfl, Below.refl _ _, optDef zβ rfl⟩
       refine ⟨.inl ⟨rfl, true, .none rfl, (fun gg b h => by cases h), fun h w => optUndef h, fun zβ za zw zc => ?_⟩, ?_⟩
       ·exact ld_68 rfl ((evt za 91).trans (optSVal (zc.dep 3 91 (by kernel_rfl) (by decide)) rfl rfl)) (bkeeps (zc.early (by kernel_rfl)) _ _ (by rw [← hno183]; exact hG192.2.c1)) ⟨_, rfl, Below.refl _ _, optDef zβ rfl⟩
       refine ⟨.inl ⟨rfl, true, .none rfl, (fun gg b h => by cases h), fun h w => optUndef h, fun zβ za zw zc => ?_⟩, ?_⟩
       ·exact ld_81 rfl (zc.kn.ev rfl) (bkeeps (zc.early (by kernel_rfl)) _ _ ((hB199.cell 0).trans rfl)) (bkeeps (zc.early (by kernel_rfl)) _ _ ((hB199.cell 1).trans rfl)) ⟨_, rfl, Below.refl _ _, optDef zβ rfl⟩
       refine ⟨.inl ⟨rfl, true, .none rfl, (fun gg b h => by cases h), fun h w => optUndef h, fun zβ za zw zc => ?_⟩, ?_⟩
       ·exact fld_35_0 rfl (zc.kn.ev rfl) ⟨_, rfl, Below.refl _ _, optDef zβ rfl⟩
       refine ⟨.inl ⟨rfl, true, .none rfl, (fun gg b h => by cases h), fun h w => optUndef h, fun zβ za zw zc => ?_⟩, ?_⟩
       ·exact ld_3 rfl ((evt za 94).trans (optSVal (zc.dep 6 94 (by kernel_rfl) (by decide)) rfl rfl)) (bkeeps (zc.early (by kernel_rfl)) _ _ ((hB198.cell 0).trans rfl)) ⟨_, rfl, Below.refl _ _, optDef zβ rfl⟩
       refine ⟨.inl ⟨rfl, true, .none rfl, (fun gg b h => by cases h), fun h w => optUndef h, fun zβ za zw zc => ?_⟩, ?_⟩
       ·exact wp_move rfl (zc.kn.ev rfl) ⟨_, rfl, Below.refl _ _, optDef zβ rfl⟩
       refine ⟨.inl ⟨rfl, true, .none rfl, (fun gg b h => by cases h), fun h w => optUndef h, fun zβ za zw zc => ?_⟩, ?_⟩
       ·exact build_83_0_1_2_3 rfl ((evt za 93).trans (optSVal (zc.dep 5 93 (by kernel_rfl) (by decide)) rfl rfl)) ((evt za 95).trans (optSVal (zc.dep 7 95 (by kernel_rfl) (by decide)) rfl rfl)) ((evt za 96).trans (optSVal (zc.dep 8 96 (by kernel_rfl) (by decide)) rfl rfl)) (zc.kn.ev rfl) ⟨_, rfl, Below.refl _ _, optDef zβ rfl⟩
       refine ⟨.inl ⟨rfl, true, .none rfl, (fun gg b h => by cases h), fun h w => optUndef h, fun zβ za zw zc => ?_⟩, ?_⟩
       ·exact row_68_1 rfl ((evt za 97).trans (optSVal (zc.dep 9 97 (by kernel_rfl) (by decide)) rfl rfl)) ⟨_, rfl, balloc _ _, optDef zβ ⟨_, rfl, zc.chg.size, Blk.new' rfl⟩⟩
       refine ⟨.inr (.inl ⟨rfl, rfl, fun za zw zc => ?_⟩), ?_⟩
       ·obtain ⟨g1, e1, hg1, hB1⟩ := (optSMem (zc.dep 10 98 (by kernel_rfl) (by decide)) rfl rfl)
        have hb17 := hG192.2.below zc.below
        exact wp_appD (E := eltX) (S2 := fun b => obk x.2.1 x.1 x.2.2 = some b) (y := (⟨(⟨f, (T.bputL (l.take x.1) N).2⟩ : En), (1 + T.sizeL (l.take x.1)), (decide (0 ≤ f) && T.gndL (l.take x.1)), none, 0, 0⟩ : Ex)) (cs := [.int .i64 ((((1 + T.sizeL (l.take x.1)) : Nat) : Int)), .bool ((decide (0 ≤ f) && T.gndL (l.take x.1))), .int .i64 f, .slice x.2.1 x.1 x.2.2, .slice none 0 0]) (size := 5) (bytes := 72) (z := .agg #[.int .i64 0, .bool false, .int .i64 0, .slice none 0 0, .slice none 0 0]) rfl Try.underlying68 (by kernel_rfl) rfl (by decide) rfl ((evt za 92).trans (optSVal (zc.dep 4 92 (by kernel_rfl) (by decide)) rfl rfl)) ((evt za 98).trans e1) (by have z := hb17.row; rw [hLn] at z; exact z) hB1 (Elt.below hin17 zc.below) (fun b q e => hOA b q (hzo183 b (.inr (.inr (.inr (.inl (by rw [hLn]; exact e))))))) (by omega) (by omega) (fun ra rc w' h1 h2 h3 => by
          rw [← hLn] at h1 h2 h3
          exact ⟨ra, rc, rfl, ⟨hb17.growL2 ⟨rfl, rfl, rfl⟩ (fun b q => ⟨fun e => hOA b q (e ▸ hgZ), fun e => hOA b q (hzo183 b (.inr (.inl e))), by have z := hOAl b q; have z2 := zc.below.size; omega, fun i hi e => hOA b q (hzo183 b (.inr (.inr (.inr (.inr ⟨i, hi, e⟩)))))⟩) hwo183.no (fun i hi => usersE_ge hwo183.ok (by omega)) h1 h2 h3, fun b q => by rcases h3 b q with z | z; exact hZ9 b (hzo183 b (.inr (.inr (.inr (.inl z))))); (right; have z2 := zc.below.size; omega)⟩, h2.mono (fun b q => .inr q)⟩)
       refine ⟨.inl ⟨rfl, true, .none rfl, (fun gg b h => by cases h), fun h w => optUndef h, fun zβ za zw zc => ?_⟩, ?_⟩
       ·exact nilCheck_ rfl ((evt za 88).trans (optSVal (zc.dep 0 88 (by kernel_rfl) (by decide)) rfl rfl)) ⟨_, rfl, Below.refl _ _, optDef zβ rfl⟩
       refine ⟨.inl ⟨rfl, true, .none rfl, (fun gg b h => by cases h), fun h w => optUndef h, fun zβ za zw zc => ?_⟩, ?_⟩
       ·exact fld_70_1 rfl ((evt za 100).trans (optSVal (zc.dep 12 100 (by kernel_rfl) (by decide)) rfl rfl)) ⟨_, rfl, Below.refl _ _, optDef zβ rfl⟩
       refine ⟨.inr (.inr ⟨rfl, rfl, 99, by kernel_rfl, fun za zw ra rc zk zd zv zg => ?_⟩), ?_⟩
       ·exact st_68 rfl ((evt za 101).trans (optSVal (zd 13 101 (by kernel_rfl) (by decide)) rfl rfl)) ((evt za 99).trans zv) zg.1.blk (by first | decide | simp) (fun v => ⟨v, rfl, ⟨by rw [← hLn]; exact zg.1.storeL2, zg.2⟩, .ofUpd (Upd.at_ _ _ _ _) (.inl rfl)⟩)
       exact trivial
      ·intro za w201 ra204 rc205 zh zv hG202 hc203 zu
       have hC206 := chg_fresh hC195 hc203 (fun b q => hZ9 b (hSZ b q))
       have hr207 := (RowD.inRowOwn hr196).chgS hc203 (fun b q e => hOA b q (hSZ b e))
       have hB208 := chg_blk hB197 hc203 (fun k => hX9 _ (.inr (.inr (.inr (.inl rfl)))) (hSZ _ k))
       clear zu
       refine (show WE _ [(0, .agg #[.int .i64 f, .slice a l.length c]), (1, .pointer (some ⟨gw, 0, none⟩)), (2, .pointer (some ⟨gb, 0, none⟩)), (3, .pointer (some ⟨g2, 0, none⟩)), (4, .int .i64 0), (5, .slice x.2.1 x.1 x.2.2), (6, .pointer (some ⟨g11, 0, none⟩)), (10, .pointer (some ⟨g150, 0, none⟩)), (11, .int .i64 (((((idxE (T.bputL (l.take x.1) N).1 (⟨f, (T.bputL (l.take x.1) N).2⟩ : En)).getD 0) : Nat) : Int))), (12, .bool ((idxE (T.bputL (l.take x.1) N).1 (⟨f, (T.bputL (l.take x.1) N).2⟩ : En)).isSome)), (13, .int .i64 ((((T.bputL (l.take x.1) N).1.length : Nat) : Int))), (21, .slice a l.length c), (22, .int .i64 (((l.length : Nat) : Int))), (23, .int .i64 (((x.1 : Nat) : Int))), (24, .bool ((decide ((((x.1 : Nat) : Int) : Int) < (((l.length : Nat) : Int) : Int))))), (75, .bool ((idxE (T.bputL (l.take x.1) N).1 (⟨f, (T.bputL (l.take x.1) N).2⟩ : En)).isSome))] w201 _ .normal from ?_) za (zh.sub ⟨rfl, rfl, rfl, rfl, rfl, rfl, rfl, rfl, rfl, rfl, rfl, rfl, rfl, rfl, rfl, rfl, trivial⟩)
       refine WE.next (WC.seq (WC.seq (WC.region (WL.mv rfl rfl rfl rfl rfl ?_))))
       refine WL.val (.int .i64 (((x.1 : Nat) : Int))) rfl rfl rfl (fun za zC zh zk => len_31 rfl (zh.ev rfl) zk) ?_
       refine WL.mv rfl rfl rfl rfl rfl (WL.nil (WE.next (WC.block ?_)))
       have hte := bput_ok (.mk f l) N hK.ok
       rw [hbp, show addE (T.bputL (l.take x.1) N).1 (⟨f, (T.bputL (l.take x.1) N).2⟩ : En) = (((T.bputL (l.take x.1) N).1 ++ [(⟨f, (T.bputL (l.take x.1) N).2⟩ : En)]), (T.bputL (l.take x.1) N).1.length) from by unfold addE; rw [hno]] at hte
       have hbw : BW (Lo183 ++ [(⟨(⟨f, (T.bputL (l.take x.1) N).2⟩ : En), (1 + T.sizeL (l.take x.1)), (decide (0 ≤ f) && T.gndL (l.take x.1)), none, 0, 0⟩ : Ex)]) ((T.bputL (l.take x.1) N).1 ++ [(⟨f, (T.bputL (l.take x.1) N).2⟩ : En)]) Ro183 := hwo183.grow hte.1.ok ⟨rfl, rfl, rfl⟩ (by
        have z := hte.2.2.1
        refine ⟨?_, ?_⟩
        ·show (1 + T.sizeL (l.take x.1)) = (tmE ((T.bputL (l.take x.1) N).1 ++ [(⟨f, (T.bputL (l.take x.1) N).2⟩ : En)]) (T.bputL (l.take x.1) N).1.length).size
         rw [z, hx1, List.take_length, T.size]
        ·show (decide (0 ≤ f) && T.gndL (l.take x.1)) = (tmE ((T.bputL (l.take x.1) N).1 ++ [(⟨f, (T.bputL (l.take x.1) N).2⟩ : En)]) (T.bputL (l.take x.1) N).1.length).gnd
         rw [z, hx1, List.take_length, T.gnd])
       have huj : UJ w201 w Z g sg (fun b => So183 b ∨ obk x.2.1 x.1 x.2.2 = some b) mo183 ra204 rc205 ((T.bputL (l.take x.1) N).1 ++ [(⟨f, (T.bputL (l.take x.1) N).2⟩ : En)]) (T.bputL (l.take x.1) N).1 (T.bputL (l.take x.1) N).2 0 := ⟨(Lo183 ++ [(⟨(⟨f, (T.bputL (l.take x.1) N).2⟩ : En), (1 + T.sizeL (l.take x.1)), (decide (0 ≤ f) && T.gndL (l.take x.1)), none, 0, 0⟩ : Ex)]), Ro183, by rw [usK0, show ((Lo183 ++ [(⟨(⟨f, (T.bputL (l.take x.1) N).2⟩ : En), (1 + T.sizeL (l.take x.1)), (decide (0 ≤ f) && T.gndL (l.take x.1)), none, 0, 0⟩ : Ex)])).length = Lo183.length + 1 from by simp]; exact hG202.1, hbw, fun b k => by
        rw [show ((Lo183 ++ [(⟨(⟨f, (T.bputL (l.take x.1) N).2⟩ : En), (1 + T.sizeL (l.take x.1)), (decide (0 ≤ f) && T.gndL (l.take x.1)), none, 0, 0⟩ : Ex)])).length = Lo183.length + 1 from by simp] at k
        rcases k with k | k | k | k | ⟨i, hi, k⟩
        ·exact hZ9 b (k ▸ hgZ)
        ·exact hZ9 b (k ▸ hmZ)
        ·rcases k with k | k
         ·exact hZ9 b (hzo183 b (.inr (.inr (.inl k))))
         ·exact .inr (hownx b k)
        ·exact hG202.2 b k
        ·by_cases c : i < Lo183.length
         ·exact hZ9 b (hzo183 b (.inr (.inr (.inr (.inr ⟨i, c, k⟩)))))
         ·rw [hwo183.no i (by omega)] at k; cases k⟩
       refine WC.loop (X := Nat) (fun y => x.1 - y) (fun y => [(0, .agg #[.int .i64 f, .slice a l.length c]), (1, .pointer (some ⟨gw, 0, none⟩)), (2, .pointer (some ⟨gb, 0, none⟩)), (3, .pointer (some ⟨g2, 0, none⟩)), (4, .int .i64 0), (5, .slice x.2.1 x.1 x.2.2), (6, .pointer (some ⟨g11, 0, none⟩)), (10, .pointer (some ⟨g150, 0, none⟩)), (11, .int .i64 (((((idxE (T.bputL (l.take x.1) N).1 (⟨f, (T.bputL (l.take x.1) N).2⟩ : En)).getD 0) : Nat) : Int))), (12, .bool ((idxE (T.bputL (l.take x.1) N).1 (⟨f, (T.bputL (l.take x.1) N).2⟩ : En)).isSome)), (13, .int .i64 ((((T.bputL (l.take x.1) N).1.length : Nat) : Int))), (21, .slice a l.length c), (22, .int .i64 (((l.length : Nat) : Int))), (23, .int .i64 (((x.1 : Nat) : Int))), (24, .bool ((decide ((((x.1 : Nat) : Int) : Int) < (((l.length : Nat) : Int) : Int))))), (75, .bool ((idxE (T.bputL (l.take x.1) N).1 (⟨f, (T.bputL (l.take x.1) N).2⟩ : En)).isSome)), (102, .slice x.2.1 x.1 x.2.2), (103, .int .i64 (((x.1 : Nat) : Int))), (104, .int .i64 (((y : Nat) : Int)))]) (fun y w209 => y ≤ x.1 ∧ Chg Z w w209 ∧ Blk w209 gb 26 #[.pointer (some ⟨g, 0, none⟩)] ∧ InRow eltN (fun b => obk x.2.1 x.1 x.2.2 = some b) (w209) (T.bputL (l.take x.1) N).2 x.2.1 ∧ UJ (w209) w Z g sg (fun b => So183 b ∨ obk x.2.1 x.1 x.2.2 = some b) mo183 ra204 rc205 ((T.bputL (l.take x.1) N).1 ++ [(⟨f, (T.bputL (l.take x.1) N).2⟩ : En)]) (T.bputL (l.take x.1) N).1 (T.bputL (l.take x.1) N).2 y) 0 ⟨rfl, rfl, rfl, rfl, rfl, rfl, rfl, rfl, rfl, rfl, rfl, rfl, rfl, rfl, rfl, rfl, rfl, rfl, rfl, trivial⟩ ?_ ?_
       ·exact ⟨Nat.zero_le _, hC206, hB208, hr207, huj⟩
       ·rintro y w209 ⟨hky, hCy, hB210, ho211, ho212⟩
        refine WC.seq (WC.region ?_)
        refine WL.val (.bool ((decide ((((y : Nat) : Int) : Int) < (((x.1 : Nat) : Int) : Int))))) rfl rfl rfl (fun za zC zh zk => lss_3 rfl (zh.ev rfl) (zh.ev rfl) zk) ?_
        refine WL.nil (WE.next (WC.seq ?_))
        refine WC.cond rfl (fun h213 => ?_) (fun h213 => ?_)
        ·have h213 : (((y : Nat) : Int) : Int) < (((x.1 : Nat) : Int) : Int) := by simpa using h213
         refine WC.skip (WE.next (WC.seq (WC.block (WC.seq (WC.region (WL.mv rfl rfl rfl rfl rfl ?_))))))
         obtain ⟨b214, o215, ha216, hc217⟩ := InRow.openN ho211
         refine WL.val _ rfl rfl rfl (fun za zC zh zk => ix_31 (k := y) rfl (zh.ev rfl) (ha216 y (by omega)) (zh.ev rfl) (by first | omega | (simp; omega)) zk) ?_
         refine WL.val _ rfl rfl rfl (fun za zC zh zk => ld_3 rfl (zh.ev rfl) (hc217 y (by omega)) zk) ?_
         refine WL.asg rfl rfl rfl rfl rfl (WL.asg rfl rfl rfl rfl rfl (WL.nil (WE.next (WC.seq (WC.region (WL.mv rfl rfl rfl rfl rfl (WL.mv rfl rfl rfl rfl rfl ?_)))))))
         refine WL.val (.slice x.2.1 y x.2.2) rfl rfl rfl (fun za zC zh zk => shi_31 (k := y) rfl (zh.ev rfl) (zh.ev rfl) (by omega) zk) ?_
         refine WL.mv rfl rfl rfl rfl rfl ?_
         refine WL.call rfl rfl rfl (fun za zh zC => wp_call (by kernel_rfl) rfl (hv2 (zh.ev rfl) (zh.ev rfl))) (ncontT_any (T.bputL (l.take x.1) N).2 (aget (T.bputL (l.take x.1) N).2 y) y _ _ _ x.2.2 ho211 (by omega) (by omega)) ?_
         rintro _ w219 ⟨rfl, hq218⟩
         refine WL.val (.bool ((!(decide ((aget (T.bputL (l.take x.1) N).2 y) ∈ (T.bputL (l.take x.1) N).2.take y))))) rfl rfl rfl (fun za zC zh zk => wp_not rfl (zh.ev rfl) zk) ?_
         refine WL.nil (WE.next ?_)
         refine WC.cond rfl (fun h220 => ?_) (fun h220 => ?_)
         ·have h220 : ¬ ((aget (T.bputL (l.take x.1) N).2 y) ∈ (T.bputL (l.take x.1) N).2.take y) := by simpa using h220
          have ho221 := ho212.below hq218
          have hyl : y < (T.bputL (l.take x.1) N).2.length := by omega
          have hxa := hxb (aget (T.bputL (l.take x.1) N).2 y) (aget_mem hyl)
          have hnm : (aget (T.bputL (l.take x.1) N).2 y) ∉ (T.bputL (l.take x.1) N).2.take y := by simpa using h220
          obtain ⟨L9, R9, hb9, hw9, hz9⟩ := id ho221
          have hL9 := hw9.len
          have hM9 : ((T.bputL (l.take x.1) N).1 ++ [(⟨f, (T.bputL (l.take x.1) N).2⟩ : En)]).length = (T.bputL (l.take x.1) N).1.length + 1 := by simp
          obtain ⟨b9, A9, C9, e9, ho9, hc9⟩ := hb9.opn (by omega)
          have ho222 := ho211.below hq218
          have hB223 := hB210.below hq218
          have hus9 := hw9.us (aget (T.bputL (l.take x.1) N).2 y) (by omega)
          have hRa : (R9 (aget (T.bputL (l.take x.1) N).2 y)).1 = (xget L9 (aget (T.bputL (l.take x.1) N).2 y)).ua ∧ (R9 (aget (T.bputL (l.take x.1) N).2 y)).2.1 = (xget L9 (aget (T.bputL (l.take x.1) N).2 y)).un ∧ (R9 (aget (T.bputL (l.take x.1) N).2 y)).2.2 = (xget L9 (aget (T.bputL (l.take x.1) N).2 y)).uc := by rw [hus9]; exact ⟨rfl, rfl, rfl⟩
          have hro9 : RowD eltN (fun _ => False) w219 3 (xget L9 (aget (T.bputL (l.take x.1) N).2 y)).ua (xget L9 (aget (T.bputL (l.take x.1) N).2 y)).uc (xget L9 (aget (T.bputL (l.take x.1) N).2 y)).un (UsK (T.bputL (l.take x.1) N).1 (T.bputL (l.take x.1) N).2 y (aget (T.bputL (l.take x.1) N).2 y)) := by have z := hb9.us (aget (T.bputL (l.take x.1) N).2 y) (by omega); rw [hRa.1, hRa.2.1, hRa.2.2] at z; exact z
          have hSlt : ∀ b, (fun b => obk ((xget L9 (aget (T.bputL (l.take x.1) N).2 y)).ua) ((xget L9 (aget (T.bputL (l.take x.1) N).2 y)).un) ((xget L9 (aget (T.bputL (l.take x.1) N).2 y)).uc) = some b ∨ b = b9) b → b < w219.heap.size := fun b q => q.elim (fun e => hro9.lt b e) (fun e => hb9.row.lt b (by rw [show b = b9 from e]; exact ho9))
          have hSZ : ∀ b, (fun b => obk ((xget L9 (aget (T.bputL (l.take x.1) N).2 y)).ua) ((xget L9 (aget (T.bputL (l.take x.1) N).2 y)).un) ((xget L9 (aget (T.bputL (l.take x.1) N).2 y)).uc) = some b ∨ b = b9) b → Z b ∨ w.heap.size ≤ b := fun b q => q.elim (fun e => hz9 b (.inr (.inr (.inr (.inr ⟨(aget (T.bputL (l.take x.1) N).2 y), by omega, by rw [hRa.1, hRa.2.1, hRa.2.2]; exact e⟩))))) (fun e => hz9 b (.inr (.inr (.inr (.inl (by rw [show b = b9 from e]; exact ho9))))))
          have hUn : (xget L9 (aget (T.bputL (l.take x.1) N).2 y)).un ≤ 1048576 := by have z := hro9.len; rw [z]; exact usK_le (by omega)
          refine WC.tail2 (S := ((fun b => obk ((xget L9 (aget (T.bputL (l.take x.1) N).2 y)).ua) ((xget L9 (aget (T.bputL (l.take x.1) N).2 y)).un) ((xget L9 (aget (T.bputL (l.take x.1) N).2 y)).uc) = some b ∨ b = b9))) [(true, .val (.pointer (some ⟨g, 0, none⟩))), (true, .val (.pointer (some ⟨g, 0, none⟩))), (true, .val (.pointer (some ⟨g, 1, none⟩))), (true, .val (.slice ra204 L9.length rc205)), (true, .val (.int .i64 ((((aget (T.bputL (l.take x.1) N).2 y) : Nat) : Int)))), (true, .val (.pointer (some ⟨g, 0, none⟩))), (true, .val (.pointer (some ⟨g, 0, none⟩))), (true, .val (.pointer (some ⟨g, 1, none⟩))), (true, .val (.slice ra204 L9.length rc205)), (true, .val (.int .i64 ((((aget (T.bputL (l.take x.1) N).2 y) : Nat) : Int)))), (true, .val (.pointer (some ⟨b9, 0 + ((aget (T.bputL (l.take x.1) N).2 y)) * 5, none⟩))), (true, .val (.pointer (some ⟨b9, 0 + ((aget (T.bputL (l.take x.1) N).2 y)) * 5 + 4, none⟩))), (true, .val (.slice ((xget L9 ((aget (T.bputL (l.take x.1) N).2 y))).ua) ((xget L9 ((aget (T.bputL (l.take x.1) N).2 y))).un) ((xget L9 ((aget (T.bputL (l.take x.1) N).2 y))).uc))), (true, .val (.int .i64 ((((T.bputL (l.take x.1) N).1.length : Nat) : Int)))), (true, .mem (fun v w' => ∃ g, v = .slice (some ⟨g, 0, none⟩) 1 1 ∧ w219.heap.size ≤ g ∧ Blk w' g 3 #[.int .i64 (((T.bputL (l.take x.1) N).1.length : Nat) : Int)]) (fun v w1 w2 hc h => by obtain ⟨g, e, h1, h2⟩ := h; exact ⟨g, e, h1, chg_blk h2 hc (fun q => by have z := hSlt _ q; omega)⟩)), (true, .val undef), (true, .val (.pointer (some ⟨b9, 0 + ((aget (T.bputL (l.take x.1) N).2 y)) * 5, none⟩))), (true, .val (.pointer (some ⟨b9, 0 + ((aget (T.bputL (l.take x.1) N).2 y)) * 5 + 4, none⟩))), (true, .val undef)] [(0, .agg #[.int .i64 f, .slice a l.length c]), (1, .pointer (some ⟨gw, 0, none⟩)), (2, .pointer (some ⟨gb, 0, none⟩)), (3, .pointer (some ⟨g2, 0, none⟩)), (4, .int .i64 0), (5, .slice x.2.1 x.1 x.2.2), (6, .pointer (some ⟨g11, 0, none⟩)), (10, .pointer (some ⟨g150, 0, none⟩)), (11, .int .i64 (((((idxE (T.bputL (l.take x.1) N).1 (⟨f, (T.bputL (l.take x.1) N).2⟩ : En)).getD 0) : Nat) : Int))), (12, .bool ((idxE (T.bputL (l.take x.1) N).1 (⟨f, (T.bputL (l.take x.1) N).2⟩ : En)).isSome)), (13, .int .i64 ((((T.bputL (l.take x.1) N).1.length : Nat) : Int))), (14, .int .i64 (((y : Nat) : Int))), (15, .int .i64 ((((aget (T.bputL (l.take x.1) N).2 y) : Nat) : Int))), (21, .slice a l.length c), (22, .int .i64 (((l.length : Nat) : Int))), (23, .int .i64 (((x.1 : Nat) : Int))), (24, .bool ((decide ((((x.1 : Nat) : Int) : Int) < (((l.length : Nat) : Int) : Int))))), (75, .bool ((idxE (T.bputL (l.take x.1) N).1 (⟨f, (T.bputL (l.take x.1) N).2⟩ : En)).isSome)), (102, .slice x.2.1 x.1 x.2.2), (103, .int .i64 (((x.1 : Nat) : Int))), (104, .int .i64 (((y : Nat) : Int))), (105, .bool ((decide ((((y : Nat) : Int) : Int) < (((x.1 : Nat) : Int) : Int))))), (114, .bool ((!(decide ((aget (T.bputL (l.take x.1) N).2 y) ∈ (T.bputL (l.take x.1) N).2.take y)))))] 15 18 (((xget L9 (aget (T.bputL (l.take x.1) N).2 y)).un + 1)) 130 (fun ra rc wz => (BK wz g sg (fun b => So183 b ∨ obk x.2.1 x.1 x.2.2 = some b) mo183 (ra204, L9.length, rc205) ra204 rc205 L9 ((T.bputL (l.take x.1) N).1 ++ [(⟨f, (T.bputL (l.take x.1) N).2⟩ : En)]) (fun i => if i = (aget (T.bputL (l.take x.1) N).2 y) then (ra, (xget L9 (aget (T.bputL (l.take x.1) N).2 y)).un + 1, rc) else R9 i) (fun i => if i = (aget (T.bputL (l.take x.1) N).2 y) then UsK (T.bputL (l.take x.1) N).1 (T.bputL (l.take x.1) N).2 y (aget (T.bputL (l.take x.1) N).2 y) ++ [(T.bputL (l.take x.1) N).1.length] else UsK (T.bputL (l.take x.1) N).1 (T.bputL (l.take x.1) N).2 y i)) ∧ ∀ b, obk ra (((xget L9 (aget (T.bputL (l.take x.1) N).2 y)).un + 1)) rc = some b → Z b ∨ w.heap.size ≤ b) (fun ra rc wz => (BK wz g sg (fun b => So183 b ∨ obk x.2.1 x.1 x.2.2 = some b) mo183 (ra204, L9.length, rc205) ra204 rc205 (L9.set (aget (T.bputL (l.take x.1) N).2 y) ⟨(xget L9 (aget (T.bputL (l.take x.1) N).2 y)).en, (xget L9 (aget (T.bputL (l.take x.1) N).2 y)).sz, (xget L9 (aget (T.bputL (l.take x.1) N).2 y)).gr, ra, (xget L9 (aget (T.bputL (l.take x.1) N).2 y)).un + 1, rc⟩) ((T.bputL (l.take x.1) N).1 ++ [(⟨f, (T.bputL (l.take x.1) N).2⟩ : En)]) (fun i => if i = (aget (T.bputL (l.take x.1) N).2 y) then (ra, (xget L9 (aget (T.bputL (l.take x.1) N).2 y)).un + 1, rc) else R9 i) (fun i => if i = (aget (T.bputL (l.take x.1) N).2 y) then UsK (T.bputL (l.take x.1) N).1 (T.bputL (l.take x.1) N).2 y (aget (T.bputL (l.take x.1) N).2 y) ++ [(T.bputL (l.take x.1) N).1.length] else UsK (T.bputL (l.take x.1) N).1 (T.bputL (l.take x.1) N).2 y i)) ∧ ∀ b, obk ra (((xget L9 (aget (T.bputL (l.take x.1) N).2 y)).un + 1)) rc = some b → Z b ∨ w.heap.size ≤ b) (by decide) (fun ra rc w1 w2 hb h => ⟨h.1.below hb, h.2⟩) (fun ra rc w1 w2 hb h => ⟨h.1.below hb, h.2⟩) ⟨rfl, rfl, rfl, rfl, rfl, rfl, rfl, rfl, rfl, rfl, rfl, rfl, rfl, rfl, rfl, rfl, rfl, rfl, rfl, rfl, rfl, rfl, rfl, trivial⟩ (by kernel_rfl) (by kernel_rfl) (by kernel_rfl) (by kernel_rfl) (by kernel_rfl) ?_ ?_
          ·refine ⟨.inl ⟨rfl, true, .none rfl, (fun gg b h => by cases h), fun h w => optUndef h, fun zβ za zw zc => ?_⟩, ?_⟩
           ·exact ld_26 rfl (zc.kn.ev rfl) (((chg_blk hB223 zc.chg (fun k => by rcases hSZ _ k with z | z; exact hzb z; omega)).cell 0).trans rfl) ⟨_, rfl, Below.refl _ _, optDef zβ rfl⟩
           refine ⟨.inl ⟨rfl, true, .none rfl, (fun gg b h => by cases h), fun h w => optUndef h, fun zβ za zw zc => ?_⟩, ?_⟩
           ·exact nilCheck_ rfl ((evt za 115).trans (optSVal (zc.dep 0 115 (by kernel_rfl) (by decide)) rfl rfl)) ⟨_, rfl, Below.refl _ _, optDef zβ rfl⟩
           refine ⟨.inl ⟨rfl, true, .none rfl, (fun gg b h => by cases h), fun h w => optUndef h, fun zβ za zw zc => ?_⟩, ?_⟩
           ·exact fld_70_1 rfl ((evt za 116).trans (optSVal (zc.dep 1 116 (by kernel_rfl) (by decide)) rfl rfl)) ⟨_, rfl, Below.refl _ _, optDef zβ rfl⟩
           refine ⟨.inl ⟨rfl, true, .none rfl, (fun gg b h => by cases h), fun h w => optUndef h, fun zβ za zw zc => ?_⟩, ?_⟩
           ·exact ld_68 rfl ((evt za 117).trans (optSVal (zc.dep 2 117 (by kernel_rfl) (by decide)) rfl rfl)) (((chg_blk hb9.blk zc.chg (fun k => by rcases k with k | k; exact (hb9.uS (aget (T.bputL (l.take x.1) N).2 y) (by omega) _ (by rw [hRa.1, hRa.2.1, hRa.2.2]; exact k)).2.1 rfl; exact (hb9.lS b9 ho9).1 k.symm)).cell 1).trans rfl) ⟨_, rfl, Below.refl _ _, optDef zβ rfl⟩
           refine ⟨.inl ⟨rfl, true, .none rfl, (fun gg b h => by cases h), fun h w => optUndef h, fun zβ za zw zc => ?_⟩, ?_⟩
           ·exact wp_move rfl (zc.kn.ev rfl) ⟨_, rfl, Below.refl _ _, optDef zβ rfl⟩
           refine ⟨.inl ⟨rfl, true, .none rfl, (fun gg b h => by cases h), fun h w => optUndef h, fun zβ za zw zc => ?_⟩, ?_⟩
           ·exact ld_26 rfl (zc.kn.ev rfl) (bkeeps (zc.early (by kernel_rfl)) _ _ ((hB223.cell 0).trans rfl)) ⟨_, rfl, Below.refl _ _, optDef zβ rfl⟩
           refine ⟨.inl ⟨rfl, true, .none rfl, (fun gg b h => by cases h), fun h w => optUndef h, fun zβ za zw zc => ?_⟩, ?_⟩
           ·exact nilCheck_ rfl ((evt za 120).trans (optSVal (zc.dep 5 120 (by kernel_rfl) (by decide)) rfl rfl)) ⟨_, rfl, Below.refl _ _, optDef zβ rfl⟩
           refine ⟨.inl ⟨rfl, true, .none rfl, (fun gg b h => by cases h), fun h w => optUndef h, fun zβ za zw zc => ?_⟩, ?_⟩
           ·exact fld_70_1 rfl ((evt za 121).trans (optSVal (zc.dep 6 121 (by kernel_rfl) (by decide)) rfl rfl)) ⟨_, rfl, Below.refl _ _, optDef zβ rfl⟩
           refine ⟨.inl ⟨rfl, true, .none rfl, (fun gg b h => by cases h), fun h w => optUndef h, fun zβ za zw zc => ?_⟩, ?_⟩
           ·exact ld_68 rfl ((evt za 122).trans (optSVal (zc.dep 7 122 (by kernel_rfl) (by decide)) rfl rfl)) (bkeeps (zc.early (by kernel_rfl)) _ _ hb9.c1) ⟨_, rfl, Below.refl _ _, optDef zβ rfl⟩
           refine ⟨.inl ⟨rfl, true, .none rfl, (fun gg b h => by cases h), fun h w => optUndef h, fun zβ za zw zc => ?_⟩, ?_⟩
           ·exact wp_move rfl (zc.kn.ev rfl) ⟨_, rfl, Below.refl _ _, optDef zβ rfl⟩
           refine ⟨.inl ⟨rfl, true, .none rfl, (fun gg b h => by cases h), fun h w => optUndef h, fun zβ za zw zc => ?_⟩, ?_⟩
           ·exact ix_68 (k := (aget (T.bputL (l.take x.1) N).2 y)) rfl ((evt za 123).trans (optSVal (zc.dep 8 123 (by kernel_rfl) (by decide)) rfl rfl)) e9 ((evt za 124).trans (optSVal (zc.dep 9 124 (by kernel_rfl) (by decide)) rfl rfl)) (by first | omega | (simp; omega)) ⟨_, rfl, Below.refl _ _, optDef zβ rfl⟩
           refine ⟨.inl ⟨rfl, true, .none rfl, (fun gg b h => by cases h), fun h w => optUndef h, fun zβ za zw zc => ?_⟩, ?_⟩
           ·exact fld_83_3 rfl ((evt za 125).trans (optSVal (zc.dep 10 125 (by kernel_rfl) (by decide)) rfl rfl)) ⟨_, rfl, Below.refl _ _, optDef zβ rfl⟩
           refine ⟨.inl ⟨rfl, true, .none rfl, (fun gg b h => by cases h), fun h w => optUndef h, fun zβ za zw zc => ?_⟩, ?_⟩
           ·exact ld_31 rfl ((evt za 126).trans (optSVal (zc.dep 11 126 (by kernel_rfl) (by decide)) rfl rfl)) (bkeeps (zc.early (by kernel_rfl)) _ _ (hc9 ((aget (T.bputL (l.take x.1) N).2 y)) (by first | omega | (simp; omega))).2.2.2.2.1) ⟨_, rfl, Below.refl _ _, optDef zβ rfl⟩
           refine ⟨.inl ⟨rfl, true, .none rfl, (fun gg b h => by cases h), fun h w => optUndef h, fun zβ za zw zc => ?_⟩, ?_⟩
           ·exact wp_move rfl (zc.kn.ev rfl) ⟨_, rfl, Below.refl _ _, optDef zβ rfl⟩
           refine ⟨.inl ⟨rfl, true, .none rfl, (fun gg b h => by cases h), fun h w => optUndef h, fun zβ za zw zc => ?_⟩, ?_⟩
           ·exact row_31_1 rfl ((evt za 128).trans (optSVal (zc.dep 13 128 (by kernel_rfl) (by decide)) rfl rfl)) ⟨_, rfl, balloc _ _, optDef zβ ⟨_, rfl, zc.chg.size, Blk.new' rfl⟩⟩
           refine ⟨.inr (.inl ⟨rfl, rfl, fun za zw zc => ?_⟩), ?_⟩
           ·obtain ⟨g1, e1, hg1, hB1⟩ := (optSMem (zc.dep 14 129 (by kernel_rfl) (by decide)) rfl rfl)
            exact wp_appD (E := eltN) (S2 := fun _ => False) (y := (T.bputL (l.take x.1) N).1.length) (size := 1) (bytes := 8) (z := .int .i64 0) rfl Try.underlying31 (by kernel_rfl) rfl (by decide) rfl ((evt za 127).trans (optSVal (zc.dep 12 127 (by kernel_rfl) (by decide)) rfl rfl)) ((evt za 129).trans e1) (hro9.below zc.below) hB1 rfl (fun b q => q.elim) (by omega) (by omega) (fun ra rc w' h1 h2 h3 => ⟨ra, rc, rfl, ⟨by
              have z := (hb9.below zc.below).growU (i0 := (aget (T.bputL (l.take x.1) N).2 y)) (x := (T.bputL (l.take x.1) N).1.length) (ra := ra) (rc := rc) (by omega) (by rw [hRa.2.1]; exact h1.mono (fun b q _ => by rcases q.1 with q | q <;> exact q) (fun b q => q.elim)) (by rw [hRa.1, hRa.2.1, hRa.2.2]; exact h2) (by rw [hRa.1, hRa.2.1, hRa.2.2]; exact h3)
              rw [hRa.2.1] at z; exact z, fun b q => by rcases h3 b q with z | z; exact hSZ b (.inl z); (right; have z2 := zc.below.size; have z3 := hCy.size; have z4 := hq218.size; omega)⟩, h2.mono (fun b q => .inl q)⟩)
           refine ⟨.inl ⟨rfl, true, .none rfl, (fun gg b h => by cases h), fun h w => optUndef h, fun zβ za zw zc => ?_⟩, ?_⟩
           ·exact ix_68 (k := (aget (T.bputL (l.take x.1) N).2 y)) rfl ((evt za 118).trans (optSVal (zc.dep 3 118 (by kernel_rfl) (by decide)) rfl rfl)) e9 ((evt za 119).trans (optSVal (zc.dep 4 119 (by kernel_rfl) (by decide)) rfl rfl)) (by first | omega | (simp; omega)) ⟨_, rfl, Below.refl _ _, optDef zβ rfl⟩
           refine ⟨.inl ⟨rfl, true, .none rfl, (fun gg b h => by cases h), fun h w => optUndef h, fun zβ za zw zc => ?_⟩, ?_⟩
           ·exact fld_83_3 rfl ((evt za 131).trans (optSVal (zc.dep 16 131 (by kernel_rfl) (by decide)) rfl rfl)) ⟨_, rfl, Below.refl _ _, optDef zβ rfl⟩
           refine ⟨.inr (.inr ⟨rfl, rfl, 130, by kernel_rfl, fun za zw ra rc zk zd zv zg => ?_⟩), ?_⟩
           ·obtain ⟨b8, e8, o8, ⟨cs8, hB8, hs8⟩, hk8⟩ := zg.1.storeU (i0 := (aget (T.bputL (l.take x.1) N).2 y)) (ra := ra) (rn := (xget L9 (aget (T.bputL (l.take x.1) N).2 y)).un + 1) (rc := rc) (by omega)
            obtain rfl : b9 = b8 := Option.some.inj (ho9.symm.trans o8)
            exact st_31 rfl ((evt za 132).trans (optSVal (zd 17 132 (by kernel_rfl) (by decide)) rfl rfl)) ((evt za 130).trans zv) hB8 hs8 (fun v => ⟨v, rfl, ⟨hk8, zg.2⟩, .ofUpd (Upd.at_ _ _ _ _) (.inr rfl)⟩)
           exact trivial
          ·intro za w224 ra227 rc228 zh zv hG225 hc226 zu
           have hC229 := Chg.trans hCy (.ofBelow hq218)
           have hC230 := chg_fresh hC229 hc226 (fun b q => hSZ b q)
           have ha231 := ho222.chgS hc226 (fun b q e => by rcases e with e | e; exact (hb9.uS (aget (T.bputL (l.take x.1) N).2 y) (by omega) b (by rw [hRa.1, hRa.2.1, hRa.2.2]; exact e)).1 (.inr q); exact hb9.row.ne b (.inr q) (by rw [show b = b9 from e]; exact ho9))
           have hu232 : UJ w224 w Z g sg (fun b => So183 b ∨ obk x.2.1 x.1 x.2.2 = some b) mo183 ra204 rc205 ((T.bputL (l.take x.1) N).1 ++ [(⟨f, (T.bputL (l.take x.1) N).2⟩ : En)]) (T.bputL (l.take x.1) N).1 (T.bputL (l.take x.1) N).2 ((y + 1)) := UJ.grown hyl hnm rfl (by omega) hG225.1 hw9 hz9 hG225.2
           have hB233 := chg_blk hB223 hc226 (fun k => by rcases hSZ _ k with z | z; exact hzb z; omega)
           clear zu
           refine WE.go zh ?_
           refine WE.blockNormal (WE.next (WC.region ?_))
           refine WL.val (.int .i64 ((((y + 1) : Nat) : Int))) rfl rfl rfl (fun za zC zh zk => addb_3 rfl (zh.ev rfl) (zh.ev rfl) (wrap_eq (by omega) (by omega) (by omega)) zk) ?_
           refine WL.mv rfl rfl rfl rfl rfl (WL.nil ?_)
           refine WE.round (y + 1) ⟨rfl, rfl, rfl, rfl, rfl, rfl, rfl, rfl, rfl, rfl, rfl, rfl, rfl, rfl, rfl, rfl, rfl, rfl, rfl, trivial⟩ ?_ ?_
           ·exact ⟨(by omega), hC230, hB233, ha231, hu232⟩
           ·omega
         ·have h220 : ¬ (¬ ((aget (T.bputL (l.take x.1) N).2 y) ∈ (T.bputL (l.take x.1) N).2.take y)) := by simpa using h220
          refine WC.skip (WE.blockNormal (WE.next (WC.region ?_)))
          refine WL.val (.int .i64 ((((y + 1) : Nat) : Int))) rfl rfl rfl (fun za zC zh zk => addb_3 rfl (zh.ev rfl) (zh.ev rfl) (wrap_eq (by omega) (by omega) (by omega)) zk) ?_
          refine WL.mv rfl rfl rfl rfl rfl (WL.nil ?_)
          have ho235 := ho212.below hq218
          have hu234 : UJ w219 w Z g sg (fun b => So183 b ∨ obk x.2.1 x.1 x.2.2 = some b) mo183 ra204 rc205 ((T.bputL (l.take x.1) N).1 ++ [(⟨f, (T.bputL (l.take x.1) N).2⟩ : En)]) (T.bputL (l.take x.1) N).1 (T.bputL (l.take x.1) N).2 ((y + 1)) := UJ.skip ho235 (by omega) (by simpa using h220)
          have hC236 := Chg.trans hCy (.ofBelow hq218)
          refine WE.round (y + 1) ⟨rfl, rfl, rfl, rfl, rfl, rfl, rfl, rfl, rfl, rfl, rfl, rfl, rfl, rfl, rfl, rfl, rfl, rfl, rfl, trivial⟩ ?_ ?_
          ·have hB237 := hB210.below hq218
           have ho238 := ho211.below hq218
           exact ⟨(by omega), hC236, hB237, ho238, hu234⟩
          ·omega
        ·have h213 : ¬ ((((y : Nat) : Int) : Int) < (((x.1 : Nat) : Int) : Int)) := by simpa using h213
         refine WC.exit (WE.thenExit (WE.thenExit (WE.blockIs rfl (WE.next (WC.seq (WC.region (WL.mv rfl rfl rfl rfl rfl (WL.asg rfl rfl rfl rfl rfl (WL.nil (WE.next (WC.ret (WE.ret1 rfl rfl ?_))))))))))))
         rw [hbp, show addE (T.bputL (l.take x.1) N).1 (⟨f, (T.bputL (l.take x.1) N).2⟩ : En) = (((T.bputL (l.take x.1) N).1 ++ [(⟨f, (T.bputL (l.take x.1) N).2⟩ : En)]), (T.bputL (l.take x.1) N).1.length) from by unfold addE; rw [hno]]
         exact ⟨_, rfl, rfl, UJ.fin (f := f) ho212 (by omega), hCy⟩
end Go.Proofs.Ytbohlpfndiiimaa
