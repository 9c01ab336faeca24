/- Operations, one law a kind and type. -/
import Derived.Test.YtibncmnmjhimeaaRows
import Derived.WalkKit
import Derived.WalkSpells
import Derived.WalkLawsBesides
import Derived.Lib.Hide
import Derived.Deep.Slices
import Derived.Lib.QuietBelow
import Derived.Deep.Quiet
import Derived.RangeFuncNested
import Derived.RangeFuncLeaves
import Derived.OrdersIn
import Derived.TacticsIn
import Derived.Maps.AppendAt
import Derived.Laws.IdiomRangeMap

/- The memory: what outlives what is added to it; blocks that are known; integers. -/
namespace Go.Proofs.Ytibncmnmjhimeaa
open Go.RowKit
theorem rbool {a b : Bool} (h : b = a) : Ending.returned (.bool a) = .returned (.bool b) := by rw [h]
/-- An integer that an int can be. -/
def I64 (f : Int) : Prop := -9223372036854775808 ≤ f ∧ f ≤ 9223372036854775807
theorem i64_wf {f : Int} (h : (Lit.int .i64 f).wf = true) : I64 f := by
  simp [Lit.wf, IntKind.min, IntKind.max, IntKind.signed, IntKind.bits] at h
  exact ⟨by omega, by omega⟩
theorem bkeeps {w w' : World} (hb : Below w.heap.size w w') (p : Addr) (x : Value) (h : w.cell? p = some x) : w'.cell? p = some x :=
  (hb.cell (World.block_lt_of_cell? _ _ h)).trans h
theorem calloc {w : World} {p : Addr} {x : Value} (h : w.cell? p = some x) (o : Obj) : (w.alloc o).cell? p = some x := bkeeps ((Below.refl _ _).alloc (Nat.le_refl _) _) _ _ h
theorem heap_new' {w : World} {b : Nat} {o : Obj} (h : w.heap.size = b) : (w.alloc o).heap[b]? = some o := by subst h; exact heap_alloc_new w o
/-- A step from a world that is as it was. -/
theorem bstep {w a b : World} (h : Below w.heap.size w a) (k : Below a.heap.size a b) : Below w.heap.size w b := h.trans (k.mono h.size)
theorem balloc (w : World) (o : Obj) : Below w.heap.size w (w.alloc o) := (Below.refl _ _).alloc (Nat.le_refl _) _
theorem balloc2 (w : World) (o o' : Obj) : Below w.heap.size w ((w.alloc o).alloc o') := bstep (balloc w o) (balloc _ o')
theorem add_plain2 {b o i : Nat} : (Addr.mk b o none).add i = ⟨b, o + i, none⟩ := by
  unfold Addr.add
  split <;> simp_all
theorem bulkAll_le {H : Type} {l : List (DataW H)} {d : DataW H} (h : d ∈ l) : Rows.uptoBulk d ≤ Rows.uptoBulkAll l := by
  induction l with
  | nil => simp at h
  | cons x r ih =>
    simp only [Rows.uptoBulkAll]
    rcases List.mem_cons.1 h with rfl | h
    · omega
    · have := ih h; omega
end Go.Proofs.Ytibncmnmjhimeaa

/- How code is walked: what is known of a frame, slot by slot; a region in whatever order its edges allow. -/
namespace Go.Proofs.Ytibncmnmjhimeaa
open Go.RowKit Go
/-- Where code is walked: in a function's own frame, or in a round of a loop over a function. -/
def fen : Option Nat → Fence
 | none => Fence.wide
 | some l => Fence.wide.inRound l
theorem fen_fn (r : Option Nat) (f : FuncId) : (fen r).fn f := by cases r <;> exact trivial
theorem fen_round (r : Option Nat) : (fen r).round = r := by cases r <;> rfl
theorem fen_depth (r : Option Nat) : (fen r).depth = none := by cases r <;> rfl
/-- A frame: its slots, the marks on its deferred calls, the round that it is in. -/
structure Fr where
 n : Nat
 ds : List Deferred
 r : Option Nat
section
variable {P : Program}
theorem comesIn_fen {r : Option Nat} {m m' : Machine} {e : Ending} (h : Comes P m m' e) : ComesIn (Machine.fenced P (fen r)) P m m' e := by
 cases r with
 | none => exact comesIn_wide.2 h
 | some l => exact (comesIn_wide (P := P)).2 h
theorem callsIn_fen {r : Option Nat} {n : Nat} {f : FuncId} {args : Array Value} {w : World} {R : Ending → World → Prop} (h : Calls P f args w R) : CallsIn (fen r) n P f args w R :=
 ⟨fen_fn r f, fun cs _ => let ⟨e, w', fr, q, s, x⟩ := h cs; ⟨e, w', fr, q, comesIn_fen s, x⟩⟩
theorem stepsIn_fen {r : Option Nat} {m m' : Machine} (h : Steps P m m') : StepsIn (Machine.fenced P (fen r)) P m m' := by
 cases r with
 | none => exact stepsIn_wide.2 h
 | some l => exact (stepsIn_wide (P := P)).2 h
theorem uponIn_of {r : Option Nat} {o : Oper} {a : Act} {K : Act → World → Prop} {Q : Exit → Act → World → Prop} {x : Result Next} (h : o.upon P a K Q x) : o.uponIn (fen r) 0 P a K Q x := by
 have hd : (fen r).depth.isSome = true → 1 ≤ 0 := fun e => by rw [fen_depth] at e; cases e
 cases x with
 | ok n w' =>
  cases n with
  | value v => exact h
  | skip => exact h
  | defer d => exact h
  | enter f args => exact ⟨hd, callsIn_fen h⟩
  | row row args => exact ⟨hd, fun c cs _ => let ⟨v, w2, q, s⟩ := h c cs; ⟨v, w2, q, stepsIn_fen s⟩⟩
  | _ => exact h.elim
 | halt y w' => cases y <;> first | exact h | exact h.elim
theorem wpIn_of {r : Option Nat} {o : Oper} {a : Act} {w : World} {K : Act → World → Prop} {Q : Exit → Act → World → Prop} (h : o.wp P a w K Q) (hK : ∀ a' w', K a' w' → a'.defers = a.defers) : o.wpIn (fen r) 0 P a w K Q := by
 refine ⟨fun f _ => fen_fn r f, ?_⟩
 rw [fen_round]
 unfold Oper.wp at h
 by_cases hd : ∃ c, o.op = .defer c
 ·obtain ⟨c, hc⟩ := hd
  cases r with
  | none => exact uponIn_of h
  | some l =>
   unfold Oper.semAt
   unfold execOp at h
   simp only [hc, Sem.run_bind] at h ⊢
   generalize (resolve a.eval c o.type).run P w = x at h ⊢
   cases x with
   | ok d w' =>
    simp only [Result.andThen, Sem.run_pure, Oper.upon] at h
    have := congrArg List.length (hK _ _ h)
    cases ho : o.dst <;> simp [Act.put, ho] at this
   | halt y w' => cases y <;> first | exact h | exact h.elim
 ·rw [Oper.semAt_eq _ _ _ (fun c hc => hd ⟨c, hc⟩)]
  exact uponIn_of h
theorem put_defers (a : Act) (d : Option Nat) (v : Value) : (Act.put a d v).defers = a.defers := by cases d <;> rfl
end
section
variable {P : Program} {ops : Array Oper}
def depB (ops : Array Oper) (o : Oper) (j d : Nat) : Bool := o.after.any (fun e => e.on == j && Region.binds .any e) && ((ops[j]?).bind (·.dst) == some d)
def dstsOf (ops : Array Oper) : List Nat := ops.toList.filterMap (·.dst)
def opsB (ops : Array Oper) (n : Nat) : Bool :=
 (List.range ops.size).all (fun i => match ops[i]? with
  | none => false
  | some o => o.after.all (fun e => Nat.blt e.on i || !Region.binds .any e) &&
   (match o.guard with | none => true | some (g, _) => o.after.any (fun e => e.on == g && Region.binds .any e) && ((ops[g]?).bind (·.dst)).isSome) &&
   (match o.dst with | none => true | some d => Nat.blt d n && (List.range ops.size).all fun j => i == j || !((ops[j]?).bind (·.dst) == some d)))
structure OpOk (ops : Array Oper) (n i : Nat) (o : Oper) : Prop where
 after : ∀ e ∈ o.after, Region.binds .any e = true → e.on < i
 guard : ∀ g b, o.guard = some (g, b) → (∃ e ∈ o.after, e.on = g ∧ Region.binds .any e = true) ∧ ∃ d, (ops[g]?).bind (·.dst) = some d
 lt : ∀ d, o.dst = some d → d < n
 own : ∀ d j, o.dst = some d → j < ops.size → (ops[j]?).bind (·.dst) = some d → i = j
theorem opsB_spec {n : Nat} (h : opsB ops n = true) {i : Nat} {o : Oper} (ho : ops[i]? = some o) : OpOk ops n i o := by
 have hi : i < ops.size := by
  rcases Nat.lt_or_ge i ops.size with h | h
  ·exact h
  ·simp [Array.getElem?_eq_none h] at ho
 have := List.all_eq_true.1 h i (by simpa using hi)
 simp only [ho, Bool.and_eq_true] at this
 obtain ⟨⟨h1, h2⟩, h3⟩ := this
 refine ⟨fun e he hbe => ?_, fun g b hg => ?_, fun d hd => ?_, fun d j hd hj hjd => ?_⟩
 ·have := Array.all_eq_true_iff_forall_mem.1 h1 e he
  simpa [Nat.blt_eq, hbe] using this
 ·rw [hg] at h2
  simp only [Bool.and_eq_true, Array.any_eq_true, Option.isSome_iff_exists, beq_iff_eq] at h2
  obtain ⟨⟨k, hk, h5, h6⟩, h7⟩ := h2
  exact ⟨⟨_, Array.getElem_mem hk, h5, h6⟩, h7⟩
 ·rw [hd] at h3
  simp only [Bool.and_eq_true, Nat.blt_eq] at h3
  exact h3.1
 ·rw [hd] at h3
  simp only [Bool.and_eq_true] at h3
  have := List.all_eq_true.1 h3.2 j (by simpa using hj)
  rw [hjd] at this
  simpa using this
theorem count_set {l : Array Bool} {i : Nat} (hi : i < l.size) (h : l.getD i true = false) {n : Nat} (hc : l.toList.count false ≤ n + 1) : (l.setIfInBounds i true).toList.count false ≤ n := by
 rw [Array.toList_setIfInBounds, List.count_set (by simpa using hi)]
 have : l.toList[i]'(by simpa using hi) = false := by simpa [Array.getD, hi] using h
 rw [this, if_pos (by rfl : (false == false) = true), if_neg (by decide : ¬ (true == false) = true)]
 omega
theorem count_zero {l : Array Bool} (hc : l.toList.count false ≤ 0) (i : Nat) : l.getD i true = true := by
 rcases Nat.lt_or_ge i l.size with h | h
 ·have h0 : l.toList.count false = 0 := by omega
  have := (List.count_eq_zero (a := false)).1 h0
  have hm : l[i] ∈ l.toList := by simp
  simp only [Array.getD, h, dif_pos]
  cases hb : l[i] with
  | true => simpa using hb
  | false => rw [hb] at hm; exact absurd hm this
 ·simp [Array.getD, Nat.not_lt.2 h]
theorem ready_nil {n : Nat} (hB : opsB ops n = true) {listed : Array Bool} (hs : listed.size = ops.size) (h : Region.ready .any ops listed = []) (i : Nat) (hi : i < ops.size) : listed.getD i true = true := by
 induction i using Nat.strongRecOn with
 | _ i ih =>
  cases hc : listed.getD i true with
  | true => rfl
  | false =>
   obtain ⟨o, ho⟩ : ∃ o, ops[i]? = some o := ⟨ops[i], by simp [hi]⟩
   have := mem_ready (md := .any) (ops := ops) (j := i) (listed := listed) |>.2 ⟨hc, o, ho, fun e he hbe => by
    have hl := (opsB_spec hB ho).after e he hbe
    have := ih e.on hl (by omega)
    simpa [Array.getD, show e.on < listed.size by omega] using this⟩
   rw [h] at this
   simp at this
theorem mem_dsts {i : Nat} {o : Oper} {d : Nat} (ho : ops[i]? = some o) (hd : o.dst = some d) : (dstsOf ops).contains d = true := by
 simp only [dstsOf, List.contains_iff_mem, List.mem_filterMap]
 exact ⟨o, by have := Array.mem_of_getElem? ho; simpa using this, hd⟩
/-- Whether the operation is wanted, by what is known of its guard. -/
inductive GuardIs (R : Nat → Value → World → Prop) (o : Oper) : Bool → Prop where
 | none (h : o.guard = none) : GuardIs R o true
 | yes {g : Nat} {c d : Bool} (h : o.guard = some (g, true)) (hv : ∀ v w, R g v w → (d = true → v = .bool c) ∧ (d = false → v = undef)) : GuardIs R o (d && c)
 | no {g : Nat} {c d : Bool} (h : o.guard = some (g, false)) (hv : ∀ v w, R g v w → (d = true → v = .bool c) ∧ (d = false → v = undef)) : GuardIs R o (d && !c)
theorem any_list {q : Option Nat} {n : Nat} (hB : opsB ops n = true) {Q : Exit → Act → World → Prop} : ∀ (l : List Oper) (k fuel : Nat) (listed : Array Bool) (a : Act) (w : World), (∀ j, l[j]? = ops[k + j]?) → listed.size = ops.size → (∀ j, j < ops.size → (listed.getD j true = true ↔ j < k)) → l.length ≤ fuel →
  wpAnyIn (fen q) 0 P .any ops Q fuel listed a w → wpListIn (fen q) 0 P ops Q l a w
 | [], k, fuel, listed, a, w, hl, hs, hk, _, h => by
  have hge : ops.size ≤ k := by
   have := hl 0
   simp only [List.getElem?_nil, Nat.add_zero] at this
   rcases Nat.lt_or_ge k ops.size with h | h
   ·simp [h] at this
   ·exact h
  have hr : Region.ready .any ops listed = [] := by
   cases hr : Region.ready .any ops listed with
   | nil => rfl
   | cons i r =>
    obtain ⟨h1, o, ho, _⟩ := (mem_ready (md := .any) (ops := ops) (j := i) (listed := listed)).1 (by rw [hr]; simp)
    have hi : i < ops.size := by
     rcases Nat.lt_or_ge i ops.size with h | h
     ·exact h
     ·simp [Array.getElem?_eq_none h] at ho
    rw [(hk i hi).2 (by omega)] at h1
    cases h1
  cases fuel with
  | zero => exact h.2
  | succ fuel => exact h.1 hr
 | o :: r, k, fuel, listed, a, w, hl, hs, hk, hf, h => by
  have ho : ops[k]? = some o := by simpa using (hl 0).symm
  have hkl : k < ops.size := by
   rcases Nat.lt_or_ge k ops.size with h | h
   ·exact h
   ·simp [Array.getElem?_eq_none h] at ho
  cases fuel with
  | zero => simp at hf
  | succ fuel =>
   have hready : k ∈ Region.ready .any ops listed := mem_ready.2 ⟨by
    cases hc : listed.getD k true with
    | false => rfl
    | true => exact absurd ((hk k hkl).1 hc) (by omega), o, ho, fun e he hbe => by
     have := (opsB_spec hB ho).after e he hbe
     have h2 := (hk e.on (by omega)).2 this
     simpa [Array.getD, show e.on < listed.size by omega] using h2⟩
   have h2 := h.2 k hready
   unfold wpOpIn at h2
   simp only [ho] at h2
   have ih := fun a w => any_list (q := q) hB (Q := Q) r (k + 1) fuel (listed.setIfInBounds k true) a w (fun j => by have := hl (j + 1); simpa [Nat.add_assoc, Nat.add_comm 1 j] using this) (by simpa using hs) (fun j hj => by
    by_cases hjk : j = k
    ·subst hjk; simp [Array.getD, hs, hj]
    ·rw [getD_set_ne true (Ne.symm hjk), hk j hj]; omega) (by simpa using hf)
   rw [wpListIn]
   split
   ·rename_i hw
    rw [if_pos hw] at h2
    exact Oper.wpIn_mono (fun a w h => ih a w h) h2
   ·rename_i hw
    rw [if_neg hw] at h2
    exact ⟨fun f _ => fen_fn q f, ih _ _ h2.2⟩
theorem any_start {q : Option Nat} {n : Nat} (hB : opsB ops n = true) {Q : Exit → Act → World → Prop} {id : Nat} {a : Act} {w : World} (h : wpAnyIn (fen q) 0 P .any ops Q ops.size (Array.replicate ops.size false) a w) : (Code.region id ops false).wpIn (fen q) 0 P Q a w :=
 wpIn_region_list (any_list hB ops.toList 0 ops.size _ a w (by simp) (by simp) (fun j hj => by simp [Array.getD, hj]) (by simp) h)
def afterB (ops : Array Oper) (c i : Nat) : Bool := match ops[c]? with | some o => o.after.any (fun e => e.on == i && Region.binds .any e) | none => false
/-- What must have come ahead of the operation 'c'. -/
def ancL (ops : Array Oper) (c : Nat) : List Nat := (List.range c).reverse.foldl (fun acc j => bif acc.any (fun m => afterB ops m j) then j :: acc else acc) [c]
theorem anc_listed {ops : Array Oper} {listed : Array Bool} (closed : ∀ i o, ops[i]? = some o → listed.getD i false = true → ∀ e ∈ o.after, Region.binds .any e = true → listed.getD e.on false = true) {c : Nat} (hc : listed.getD c false = true) : ∀ m ∈ ancL ops c, listed.getD m false = true := by
 have key : ∀ (js acc : List Nat), (∀ m ∈ acc, listed.getD m false = true) → ∀ m ∈ js.foldl (fun acc j => bif acc.any (fun m => afterB ops m j) then j :: acc else acc) acc, listed.getD m false = true := by
  intro js
  induction js with
  | nil => exact fun acc h => h
  | cons j r ih =>
   intro acc h
   refine ih _ ?_
   show ∀ m ∈ (bif acc.any (fun m => afterB ops m j) then j :: acc else acc), listed.getD m false = true
   cases hb : acc.any (fun m => afterB ops m j) with
   | false => exact h
   | true =>
    intro m hm
    rw [cond_true] at hm
    rcases List.mem_cons.1 hm with rfl | hm
    ·obtain ⟨k, hk, ha⟩ := List.any_eq_true.1 hb
     unfold afterB at ha
     split at ha
     ·rename_i o ho
      simp only [Array.any_eq_true, Bool.and_eq_true, beq_iff_eq] at ha
      obtain ⟨q, hq, h1, h2⟩ := ha
      have := closed k o ho (h k hk) _ (Array.getElem_mem hq) h2
      rwa [h1] at this
     ·cases ha
    ·exact h m hm
 exact key _ _ (by intro m hm; rw [List.mem_singleton.1 hm]; exact hc)
theorem getD_false_of {l : Array Bool} {i : Nat} (h : l.getD i true = false) : l.getD i false = false := by
 by_cases hi : i < l.size
 ·simpa [Array.getD, hi] using h
 ·simp [Array.getD, hi]
theorem getD_set_eq {l : Array Bool} {i : Nat} (h : i < l.size) : (l.setIfInBounds i true).getD i false = true := by simp [Array.getD, h]
end
inductive Sp where
 | val (x : Value)
 | mem (p : Value → World → Prop) (h : ∀ v w w', Below w.heap.size w w' → p v w → p v w')
def Sp.holds : Sp → Value → World → Prop
 | .val x, v, _ => v = x
 | .mem p _, v, w => p v w
def optR (l : List (Bool × Sp)) (i : Nat) (v : Value) (w : World) : Prop := ((l.getD i (true, .val undef)).1 = true → (l.getD i (true, .val undef)).2.holds v w) ∧ ((l.getD i (true, .val undef)).1 = false → v = undef)
theorem optKeep (l : List (Bool × Sp)) (i : Nat) (v : Value) (w w' : World) (h : optR l i v w) (hb : Below w.heap.size w w') : optR l i v w' := by
 refine ⟨fun e => ?_, h.2⟩
 have := h.1 e
 generalize (l.getD i (true, .val undef)).2 = s at *
 cases s with
 | val x => exact this
 | mem p hp => exact hp _ _ _ hb this
theorem optVal {l : List (Bool × Sp)} {i : Nat} {v x : Value} {w : World} {β : Bool} (h : optR l i v w) (e : l.getD i (true, .val undef) = (β, .val x)) (hβ : β = true) : v = x := by
 have := h.1 (by rw [e]; exact hβ)
 rw [e] at this
 exact this
theorem optMem {l : List (Bool × Sp)} {i : Nat} {v : Value} {w : World} {β : Bool} {p : Value → World → Prop} {hp : ∀ v w w', Below w.heap.size w w' → p v w → p v w'} (h : optR l i v w) (e : l.getD i (true, .val undef) = (β, .mem p hp)) (hβ : β = true) : p v w := by
 have := h.1 (by rw [e]; exact hβ)
 rw [e] at this
 exact this
theorem hv1 {g : Operand → Value} {x : Operand} {u : Value} (h1 : g x = u) : #[x].map g = #[u] := by simp [h1]
theorem optUndef {A : Prop} {β : Bool} (h : β = false) : (β = true → A) ∧ (β = false → undef = undef) := ⟨fun e => (by rw [h] at e; cases e), fun _ => rfl⟩
theorem optDef {A B : Prop} {β : Bool} (hβ : β = true) (h : A) : (β = true → A) ∧ (β = false → B) := ⟨fun _ => h, fun e => (by rw [hβ] at e; cases e)⟩
theorem bMk {a b : Bool} (h : a = true) (h' : b = true) : (a && b) = true := by simp [h, h']
theorem bMkN {a b : Bool} (h : a = true) (h' : b = false) : (a && !b) = true := by simp [h, h']
section
variable {w : World} {a : Act} {K : Act → World → Prop} {Q : Exit → Act → World → Prop} {o : Oper}
def callB (P : Program) (F : FuncId) : Bool := match P.funcs[F]? with | some fn => !(fn.name == "runtime.NumGoroutine") && !fn.body.isNone | none => false
theorem wp_call {P : Program} {F : FuncId} {xs : Array Operand} {tys : Array TypeId} {vs : Array Value} {R : Value → World → Prop} (hF : callB P F = true) (ho : o.op = .call { callee := .value (.func F), args := xs, argTypes := tys }) (hv : xs.map a.eval = vs)
  (h : Calls P F vs w fun e w' => ∃ v, e = .returned v ∧ R v w') (hK : ∀ v w', R v w' → K (a.put o.dst v) w') : o.wp P a w K Q := by
 unfold callB at hF
 split at hF
 ·rename_i fn hfn
  simp only [Bool.and_eq_true, Bool.not_eq_true'] at hF
  have hp : (Sem.run P program w) = .ok P w := rfl
  unfold Oper.wp execOp
  simp only [ho, resolve, hv, Act.eval, Deferred.ofValue, invoke, callFunc, Sem.run_bind, Sem.run_pure, Result.andThen_ok, Array.empty_append, Array.append_empty, hp, hfn, hF.1, hF.2, Bool.false_eq_true, if_false]
  refine h.mono ?_
  rintro e w' ⟨v, rfl, hR⟩
  exact hK v w' hR
 ·simp at hF
theorem wp_move {P : Program} {x : Operand} {v : Value} (ho : o.op = .move x) (hx : a.eval x = v) (hK : K (a.put o.dst v) w) : o.wp P a w K Q := by
 unfold Oper.wp execOp
 simp only [ho, hx]
 exact hK
theorem wp_assign {P : Program} {x : Operand} {v : Value} (ho : o.op = .assign x) (hx : a.eval x = v) (hK : K (a.put o.dst v) w) : o.wp P a w K Q := by
 unfold Oper.wp execOp
 simp only [ho, hx]
 exact hK
theorem hv0 {g : Operand → Value} : #[].map g = #[] := by simp
theorem hv2 {g : Operand → Value} {x y : Operand} {u v : Value} (h1 : g x = u) (h2 : g y = v) : #[x, y].map g = #[u, v] := by simp [h1, h2]
theorem hv3 {g : Operand → Value} {x y z : Operand} {u v r : Value} (h1 : g x = u) (h2 : g y = v) (h3 : g z = r) : #[x, y, z].map g = #[u, v, r] := by simp [h1, h2, h3]
theorem wp_not {x : Operand} {b : Bool} {ty : TypeId} (ho : o.op = .unOp .not ty x) (hx : a.eval x = .bool b) (hK : K (a.put o.dst (.bool (!b))) w) : o.wp Try.prog a w K Q := by
 unfold Oper.wp execOp
 simp only [ho, hx]
 go_simp
 exact hK
theorem wp_or {x z : Operand} {p q : Bool} (ho : o.op = .pick x (.const (.bool true)) z) (hx : a.eval x = .bool p) (hz : p = false → a.eval z = .bool q) (hK : K (a.put o.dst (.bool (p || q))) w) : o.wp Try.prog a w K Q := by
 have hc : a.eval (.const (.bool true)) = .bool true := rfl
 unfold Oper.wp execOp
 cases p with
 | true => simp only [ho, hx, hc]; exact hK
 | false => simp only [ho, hx, hz rfl]; exact hK
theorem wp_and {x z : Operand} {p q : Bool} (ho : o.op = .pick x z (.const (.bool false))) (hx : a.eval x = .bool p) (hz : p = true → a.eval z = .bool q) (hK : K (a.put o.dst (.bool (p && q))) w) : o.wp Try.prog a w K Q := by
 have hc : a.eval (.const (.bool false)) = .bool false := rfl
 unfold Oper.wp execOp
 cases p with
 | true => simp only [ho, hx, hz rfl]; exact hK
 | false => simp only [ho, hx, hc]; exact hK
end
abbrev Known := List (Nat × Value)
def look : Known → Nat → Option Value
 | [], _ => none
 | (k, v) :: r, d => bif Nat.beq k d then some v else look r d
/-- The frame has 'n' slots, defers nothing, and holds what is known. -/
structure Kn (n : Fr) (K : Known) (a : Act) : Prop where
 size : a.tmps.size = n.n
 defers : a.defers = n.ds
 knows : ∀ d v, look K d = some v → a.tmps.getD d undef = v
def ev (K : Known) : Operand → Option Value
 | .tmp t => look K t
 | .const v => some v
 | .global g => some (.pointer (some ⟨g, 0, none⟩))
 | .func f => some (.func (.func f) #[] #[])
def subK : Known → Known → Prop
 | [], _ => True
 | (d, v) :: r, K => look K d = some v ∧ subK r K
theorem subK_look {K : Known} : ∀ {K' : Known}, subK K' K → ∀ d v, look K' d = some v → look K d = some v
 | [], _, _, _, h => by simp [look] at h
 | (k, x) :: r, hs, d, v, h => by
  unfold look at h
  cases hb : Nat.beq k d with
  | true =>
   rw [hb] at h
   obtain rfl := Nat.eq_of_beq_eq_true hb
   rw [← h]
   exact hs.1
  | false =>
   rw [hb] at h
   exact subK_look hs.2 d v h
section
variable {P : Program} {n : Fr} {K K' : Known} {a : Act} {w : World}
theorem Kn.ev (h : Kn n K a) {x : Operand} {v : Value} (e : ev K x = some v) : a.eval x = v := by
 cases x with
 | tmp t => exact h.knows t v e
 | const c => exact Option.some.inj e
 | global g => exact Option.some.inj e
 | func f => exact Option.some.inj e
theorem Kn.sub (h : Kn n K a) (hs : subK K' K) : Kn n K' a := ⟨h.size, h.defers, fun d v e => h.knows d v (subK_look hs d v e)⟩
theorem Kn.put (h : Kn n K a) {d : Nat} (hd : Nat.blt d n.n = true) (v : Value) : Kn n ((d, v) :: K) (a.put (some d) v) := by
 have hlt : d < a.tmps.size := by rw [h.size]; simpa [Nat.blt_eq] using hd
 refine ⟨by simpa [Act.put] using h.size, h.defers, fun k x e => ?_⟩
 unfold look at e
 cases hb : Nat.beq d k with
 | true =>
  rw [hb] at e
  obtain rfl := Nat.eq_of_beq_eq_true hb
  simp only [cond_true, Option.some.injEq] at e
  simp [Act.put, hlt, e]
 | false =>
  rw [hb] at e
  have hne : d ≠ k := by rintro rfl; rw [Nat.beq_refl] at hb; cases hb
  have := h.knows k x e
  simp only [Act.put, Array.getD_eq_getD_getElem?, Array.getElem?_setIfInBounds, hne, if_false] at this ⊢
  exact this
theorem Kn.cons (h : Kn n K a) {d : Nat} {v : Value} (e : a.tmps.getD d undef = v) : Kn n ((d, v) :: K) a := by
 refine ⟨h.size, h.defers, fun k x hk => ?_⟩
 unfold look at hk
 cases hb : Nat.beq d k with
 | true =>
  rw [hb] at hk
  obtain rfl := Nat.eq_of_beq_eq_true hb
  simp only [cond_true, Option.some.injEq] at hk
  rw [e, hk]
 | false =>
  rw [hb] at hk
  exact h.knows k x hk
def putK (K : Known) : Option Nat → Value → Known
 | some d, v => (d, v) :: K
 | none, _ => K
def dstB (n : Nat) : Option Nat → Bool
 | some d => Nat.blt d n
 | none => true
theorem Kn.puts (h : Kn n K a) {d : Option Nat} (hd : dstB n.n d = true) (v : Value) : Kn n (putK K d v) (a.put d v) := by
 cases d with
 | none => exact h
 | some d => exact h.put hd v
/-- From whatever frame of which that much is known the code comes to 'Q'. -/
def WC (P : Program) (n : Fr) (K : Known) (w : World) (c : Code) (Q : Exit → Act → World → Prop) : Prop := ∀ a, Kn n K a → c.wpIn (fen n.r) 0 P Q a w
def WE (n : Fr) (K : Known) (w : World) (Q : Exit → Act → World → Prop) (e : Exit) : Prop := ∀ a, Kn n K a → Q e a w
def WL (P : Program) (ops : Array Oper) (n : Fr) (K : Known) (w : World) (l : List Oper) (Q : Exit → Act → World → Prop) : Prop := ∀ a, Kn n K a → wpListIn (fen n.r) 0 P ops Q l a w
variable {Q : Exit → Act → World → Prop} {c x y : Code} {ops : Array Oper} {o : Oper} {rest : List Oper}
theorem WC.sub (hs : subK K' K) (h : WC P n K' w c Q) : WC P n K w c Q := fun a ha => h a (ha.sub hs)
theorem WE.sub {e : Exit} (hs : subK K' K) (h : WE n K' w Q e) : WE n K w Q e := fun a ha => h a (ha.sub hs)
theorem WC.seq (h : WC P n K w x (Exit.then (fun a w => y.wpIn (fen n.r) 0 P Q a w) Q)) : WC P n K w (.seq x y) Q := fun a ha => wpIn_seq (h a ha)
theorem WC.skip (h : WE n K w Q .normal) : WC P n K w .skip Q := fun a ha => wpIn_skip (h a ha)
theorem WC.ret (h : WE n K w Q .ret) : WC P n K w .ret Q := fun a ha => wpIn_ret (h a ha)
theorem WC.exit {id : Nat} (h : WE n K w Q (.exit id)) : WC P n K w (.exit id) Q := fun a ha => wpIn_exit (h a ha)
theorem WC.block {id : Nat} (h : WC P n K w c (Exit.inBlock id Q)) : WC P n K w (.block id c) Q := fun a ha => wpIn_block (h a ha)
theorem WC.cond {t : Operand} {b : Bool} (e : ev K t = some (.bool b)) (ht : b = true → WC P n K w x Q) (hf : b = false → WC P n K w y Q) : WC P n K w (.cond t x y) Q :=
 fun a ha => wpIn_cond_split (ha.ev e) (fun h => ht h a ha) (fun h => hf h a ha)
theorem WC.condT {t : Operand} {b : Bool} (e : ev K t = some (.bool b)) (hb : b = true) (ht : WC P n K w x Q) : WC P n K w (.cond t x y) Q :=
 WC.cond e (fun _ => ht) (fun h => by rw [hb] at h; cases h)
theorem WC.condF {t : Operand} {b : Bool} (e : ev K t = some (.bool b)) (hb : b = false) (hf : WC P n K w y Q) : WC P n K w (.cond t x y) Q :=
 WC.cond e (fun h => by rw [hb] at h; cases h) (fun _ => hf)
theorem WE.next {Q' : Exit → Act → World → Prop} (h : WC P n K w y Q) : WE n K w (Exit.then (fun a w => y.wpIn (fen n.r) 0 P Q a w) Q') .normal := h
theorem WE.thenRet {N : Act → World → Prop} (h : WE n K w Q .ret) : WE n K w (Exit.then N Q) .ret := h
theorem WE.thenExit {N : Act → World → Prop} {id : Nat} (h : WE n K w Q (.exit id)) : WE n K w (Exit.then N Q) (.exit id) := h
theorem WE.blockNormal {id : Nat} (h : WE n K w Q .normal) : WE n K w (Exit.inBlock id Q) .normal := h
theorem WE.blockRet {id : Nat} (h : WE n K w Q .ret) : WE n K w (Exit.inBlock id Q) .ret := h
theorem WE.blockIs {id id' : Nat} (e : Nat.beq id' id = true) (h : WE n K w Q .normal) : WE n K w (Exit.inBlock id Q) (.exit id') := fun a ha => by
 show (if id' = id then Q .normal a w else Q (.exit id') a w)
 rw [if_pos (Nat.eq_of_beq_eq_true e)]; exact h a ha
theorem wp_loop_ghost {q : Option Nat} {X : Type} (I : X → Act → World → Prop) (μ : X → Nat) {x0 : X} {a : Act} (h0 : I x0 a w)
  (round : ∀ x a w, I x a w → c.wpIn (fen q) 0 P (Exit.then (fun a' w' => ∃ x', I x' a' w' ∧ μ x' < μ x) Q) a w) : (Code.loop c).wpIn (fen q) 0 P Q a w := by
 intro b k cs hro hb hr
 have key : ∀ m x a w, μ x = m → I x a w →
   ∃ e a' w', Q e a' w' ∧ ArrivesIn (Machine.fenced P (fen q)) P (lone (b.atR a (.code c :: .inLoop c :: k)) cs w) b k cs e a' w' := by
  intro m
  induction m using Nat.strongRecOn with
  | _ m ih =>
   intro x a w hn hI
   obtain ⟨e, a₁, w₁, hq, harr⟩ := round x a w hI b (.inLoop c :: k) cs hro hb hr
   cases e with
   | normal =>
    obtain ⟨x', hI₁, hlt⟩ := hq
    obtain ⟨e₂, a₂, w₂, hq₂, harr₂⟩ := ih (μ x') (hn ▸ hlt) x' a₁ w₁ rfl hI₁
    exact ⟨e₂, a₂, w₂, hq₂, .of_steps (StepsIn.trans harr (.one (fenced_calm hb hr rfl) stepR_inLoop)) harr₂⟩
   | exit id => exact ⟨_, a₁, w₁, hq, .pass (x := .inLoop c) rfl (fun _ _ => .inl (by simp)) harr⟩
   | goto l => exact ⟨_, a₁, w₁, hq, .pass (x := .inLoop c) rfl (fun _ _ => .inl (by simp)) harr⟩
   | ret => exact ⟨_, a₁, w₁, hq, .pass (x := .inLoop c) rfl (fun _ _ => .inl (by simp)) harr⟩
   | panic ch => exact ⟨_, a₁, w₁, hq, .pass (x := .inLoop c) rfl (fun _ _ => .inl (by simp)) harr⟩
   | outgrown => exact ⟨_, a₁, w₁, hq, .pass (x := .inLoop c) rfl (fun _ _ => .inl (by simp)) harr⟩
 obtain ⟨e, a', w', hq, harr⟩ := key _ x0 a w rfl h0
 exact ⟨e, a', w', hq, .of_steps (.one (fenced_calm hb hr rfl) stepR_loop) harr⟩
/-- A loop: a ghost 'x' tells the frame (KI x), of the memory holds (J x), each round lowers the measure. -/
theorem WC.loop {X : Type} (μ : X → Nat) (KI : X → Known) (J : X → World → Prop) (x0 : X) (hs : subK (KI x0) K) (h0 : J x0 w)
  (round : ∀ x w, J x w → WC P n (KI x) w c (Exit.then (fun a' w' => ∃ x', (Kn n (KI x') a' ∧ J x' w') ∧ μ x' < μ x) Q)) : WC P n K w (.loop c) Q :=
 fun _ ha => wp_loop_ghost (fun x a w => Kn n (KI x) a ∧ J x w) μ (x0 := x0) ⟨ha.sub hs, h0⟩ (fun x a w h => round x w h.2 a h.1)
theorem WE.round {X : Type} {μ : X → Nat} {KI : X → Known} {J : X → World → Prop} {x : X} (x' : X) (hs : subK (KI x') K) (hJ : J x' w) (hm : μ x' < μ x) :
  WE n K w (Exit.then (fun a' w' => ∃ x', (Kn n (KI x') a' ∧ J x' w') ∧ μ x' < μ x) Q) .normal := fun _ ha => ⟨x', ⟨ha.sub hs, hJ⟩, hm⟩
/-! ### A region in the order of the text -/
theorem WC.region {id : Nat} {l : List Oper} (h : WL P l.toArray n K w l Q) : WC P n K w (.region id l.toArray false) Q := fun a ha => wpIn_region_lit (h a ha)
theorem evt (a : Act) (d : Nat) : a.eval (.tmp d) = a.tmps.getD d undef := rfl
theorem WE.go {e : Exit} (ha : Kn n K a) (h : WE n K w Q e) : Q e a w := h a ha
theorem WL.nil (h : WE n K w Q .normal) : WL P ops n K w [] Q := h
theorem WL.stepIn {d : Option Nat} {post : Value → World → Prop} (hd : o.dst = d) (hlt : dstB n.n d = true) (hg : o.guard = none)
  (h : ∀ a, Kn n K a → o.wpIn (fen n.r) 0 P a w (fun a' w' => ∃ v, a' = a.put o.dst v ∧ post v w') Q)
  (k : ∀ v w', post v w' → WL P ops n (putK K d v) w' rest Q) : WL P ops n K w (o :: rest) Q := fun a ha =>
 wpListIn_plain hg (fun _ hC => Oper.wpIn_mono (by rintro a' w' ⟨v, rfl, hp⟩; exact hC _ _ (by rw [hd]; exact k v w' hp _ (ha.puts hlt v))) (h a ha))
theorem WL.step {d : Option Nat} {post : Value → World → Prop} (hd : o.dst = d) (hlt : dstB n.n d = true) (hg : o.guard = none)
  (h : ∀ a C, Kn n K a → (∀ v w', post v w' → C (a.put o.dst v) w') → o.wp P a w C Q)
  (k : ∀ v w', post v w' → WL P ops n (putK K d v) w' rest Q) : WL P ops n K w (o :: rest) Q :=
 WL.stepIn hd hlt hg (fun a ha => wpIn_of (h a _ ha (fun v _ hp => ⟨v, rfl, hp⟩)) (by rintro a' w' ⟨v, rfl, _⟩; exact put_defers _ _ _)) k
/-- .. one that yields 'v' and leaves the memory alone. -/
theorem WL.val {d : Nat} (v : Value) (hd : o.dst = some d) (hlt : Nat.blt d n.n = true) (hg : o.guard = none)
  (h : ∀ a C, Kn n K a → C (a.put o.dst v) w → o.wp P a w C Q) (k : WL P ops n ((d, v) :: K) w rest Q) : WL P ops n K w (o :: rest) Q :=
 WL.step (d := some d) (post := fun v' w' => v' = v ∧ w' = w) hd hlt hg (fun a C ha hC => h a C ha (hC _ _ ⟨rfl, rfl⟩)) (by rintro _ _ ⟨rfl, rfl⟩; exact k)
theorem WL.mv {d : Nat} {x : Operand} {v : Value} (hd : o.dst = some d) (hlt : Nat.blt d n.n = true) (hg : o.guard = none) (ho : o.op = .move x) (hv : ev K x = some v) (k : WL P ops n ((d, v) :: K) w rest Q) : WL P ops n K w (o :: rest) Q :=
 WL.val v hd hlt hg (fun _ _ ha hC => wp_move ho (ha.ev hv) hC) k
theorem WL.asg {d : Nat} {x : Operand} {v : Value} (hd : o.dst = some d) (hlt : Nat.blt d n.n = true) (hg : o.guard = none) (ho : o.op = .assign x) (hv : ev K x = some v) (k : WL P ops n ((d, v) :: K) w rest Q) : WL P ops n K w (o :: rest) Q :=
 WL.val v hd hlt hg (fun _ _ ha hC => wp_assign ho (ha.ev hv) hC) k
def paramsK : Nat → List Value → Known
 | _, [] => []
 | k, v :: r => (k, v) :: paramsK (k + 1) r
theorem look_params : ∀ (l : List Value) (k d : Nat) (v : Value), look (paramsK k l) d = some v → k ≤ d ∧ l[d - k]? = some v
 | [], _, _, _, h => by simp [paramsK, look] at h
 | x :: r, k, d, v, h => by
  unfold paramsK look at h
  cases hb : Nat.beq k d with
  | true =>
   rw [hb] at h
   obtain rfl := Nat.eq_of_beq_eq_true hb
   simp only [cond_true, Option.some.injEq] at h
   simp [h]
  | false =>
   rw [hb] at h
   obtain ⟨h1, h2⟩ := look_params r (k + 1) d v h
   refine ⟨by omega, ?_⟩
   rw [show d - k = (d - (k + 1)) + 1 by omega, List.getElem?_cons_succ, h2]
theorem Kn.enter {l : List Value} {n : Nat} (hl : l.length ≤ n) : Kn ⟨n, [], none⟩ (paramsK 0 l) { tmps := l.toArray ++ Array.replicate (n - l.toArray.size) undef, defers := [] } := by
 refine ⟨by simp; omega, rfl, fun d v h => ?_⟩
 obtain ⟨_, h2⟩ := look_params l 0 d v h
 have hd : d < l.length := (List.getElem?_eq_some_iff.1 h2).1
 have : l[d] = v := by simpa [hd] using h2
 simp [Array.getD_eq_getD_getElem?, Array.getElem?_append, hd, this]
abbrev bodyPostW (P : Program) (fn : Func) (R : Ending → World → Prop) := bodyPostM Fence.wide 0 P fn R
theorem Calls.walk {f : FuncId} {fn : Func} {c : Code} {l : List Value} {R : Ending → World → Prop} (hf : P.funcs[f]? = some fn) (hb : fn.body = some c) (hl : Nat.ble l.length fn.ntmps = true)
  (h : WC P ⟨fn.ntmps, [], none⟩ (paramsK 0 l) w c (bodyPostW P fn R)) : Calls P f l.toArray w R :=
 callsIn_wide.1 (callsIn_of_wp_marks (n := 0) hf hb trivial (h _ (Kn.enter (Nat.le_of_ble_eq_true hl))))
variable {fn : Func} {R : Ending → World → Prop}
variable {N : Nat} {r : Option Nat} {ds : List Deferred} {w' : World}
theorem WE.ret1 {t : Tmp} {v : Value} (hr : fn.results = #[.tmp t]) (hv : look K t = some v) (hR : R (.returned v) w) : WE ⟨N, [], r⟩ K w (bodyPostW P fn R) .ret := fun a ha => by
 show LeavesInM _ _ _ _ _ _ a.defers _ _
 rw [ha.defers]; exact ⟨_, results_tmp hr a.tmps P w, by rw [ha.knows t v hv]; exact hR⟩
/-- Results that lie in memory: what is read is said for whatever frame. -/
theorem WE.retAny {v : Value} (hr : ∀ a, Kn ⟨N, [], r⟩ K a → (results fn a.tmps).run P w = .ok v w) (hR : R (.returned v) w) : WE ⟨N, [], r⟩ K w (bodyPostW P fn R) .ret := fun a ha => by
 show LeavesInM _ _ _ _ _ _ a.defers _ _
 rw [ha.defers]; exact ⟨v, hr a ha, hR⟩
end
section
variable {P : Program} {ops : Array Oper}
structure CtxG (ops : Array Oper) (chain : List Nat) (R : Nat → Value → World → Prop) (G : List (Option Value) → World → Prop) (n : Fr) (K : Known) (i : Nat) (o : Oper) (a : Act) (w : World) (vs : List (Option Value)) : Prop where
 now : G vs w
 kn : Kn n K a
 dep : ∀ j d, depB ops o j d = true → chain.contains j = false → R j (a.tmps.getD d undef) w
 len : vs.length = chain.length
 link : ∀ (p c d : Nat), chain[p]? = some c → depB ops o c d = true → vs[p]? = some (some (a.tmps.getD d undef))
 done : ∀ (p c : Nat), chain[p]? = some c → o.after.any (fun e => e.on == c && Region.binds .any e) = true → ∃ v, vs[p]? = some (some v)
 most : ∀ (p c : Nat), chain[p]? = some c → afterB ops c i = true → vs[p]? = some none
 mostT : ∀ (p c : Nat), chain[p]? = some c → (ancL ops c).contains i = true → vs[p]? = some none
def SoundG (P : Program) (ops : Array Oper) (Q : Exit → Act → World → Prop) (chain : List Nat) (R : Nat → Value → World → Prop) (Le : World → World → Prop) (G : List (Option Value) → World → Prop) (n : Fr) (K : Known) (i : Nat) (o : Oper) : Prop :=
 (chain.contains i = false ∧ ∃ β, GuardIs R o β ∧ (∀ g b, o.guard = some (g, b) → chain.contains g = false) ∧ (β = false → ∀ w, R i undef w) ∧
  (β = true → ∀ (a : Act) (w : World) (vs : List (Option Value)), CtxG ops chain R G n K i o a w vs →
   o.wpIn (fen n.r) 0 P a w (fun a' w' => ∃ v, a' = Act.put a o.dst v ∧ Le w w' ∧ G vs w' ∧ R i v w') Q)) ∨
 (∃ p, chain[p]? = some i ∧ o.guard = none ∧ ∀ (a : Act) (w : World) (vs : List (Option Value)), CtxG ops chain R G n K i o a w vs → vs[p]? = some none →
   o.wpIn (fen n.r) 0 P a w (fun a' w' => ∃ v, a' = Act.put a o.dst v ∧ Le w w' ∧ G (vs.set p (some v)) w') Q)
def SoundFromG (P : Program) (ops : Array Oper) (Q : Exit → Act → World → Prop) (chain : List Nat) (R : Nat → Value → World → Prop) (Le : World → World → Prop) (G : List (Option Value) → World → Prop) (n : Fr) (K : Known) : Nat → List Oper → Prop
 | _, [] => True
 | k, o :: r => SoundG P ops Q chain R Le G n K k o ∧ SoundFromG P ops Q chain R Le G n K (k + 1) r
theorem SoundFromG.at_ {Q : Exit → Act → World → Prop} {chain : List Nat} {R : Nat → Value → World → Prop} {Le : World → World → Prop} {G : List (Option Value) → World → Prop} {n : Fr} {K : Known} : ∀ {l : List Oper} {k : Nat}, SoundFromG P ops Q chain R Le G n K k l → ∀ i o, l[i]? = some o → SoundG P ops Q chain R Le G n K (k + i) o
 | [], _, _, i, o, h => by simp at h
 | x :: r, k, h, 0, o, ho => by simp at ho; subst ho; exact h.1
 | x :: r, k, h, i + 1, o, ho => by
  have := h.2.at_ i o (by simpa using ho)
  rwa [show k + 1 + i = k + (i + 1) by omega] at this
structure AtG (ops : Array Oper) (chain : List Nat) (R : Nat → Value → World → Prop) (G : List (Option Value) → World → Prop) (n : Fr) (K : Known) (listed : Array Bool) (a : Act) (vs : List (Option Value)) (w : World) : Prop where
 size : listed.size = ops.size
 kn : Kn n K a
 plain : ∀ i d, chain.contains i = false → listed.getD i false = true → (ops[i]?).bind (·.dst) = some d → R i (a.tmps.getD d undef) w
 link : ∀ p c : Nat, chain[p]? = some c → (listed.getD c false = true ↔ ∃ v, vs[p]? = some (some v))
 vals : ∀ (p c d : Nat), chain[p]? = some c → listed.getD c false = true → (ops[c]?).bind (·.dst) = some d → vs[p]? = some (some (a.tmps.getD d undef))
 len : vs.length = chain.length
 closed : ∀ i o, ops[i]? = some o → listed.getD i false = true → ∀ e ∈ o.after, Region.binds .any e = true → listed.getD e.on false = true
 now : G vs w
def clearB (ops : Array Oper) (K : Known) : Bool := K.all fun p => !((dstsOf ops).contains p.1)
theorem clearB_look {K : Known} (h : clearB ops K = true) {d : Nat} (hd : (dstsOf ops).contains d = true) : look K d = none := by
 induction K with
 | nil => rfl
 | cons p r ih =>
  obtain ⟨k, v⟩ := p
  simp only [clearB, List.all_cons, Bool.and_eq_true, Bool.not_eq_true'] at h
  unfold look
  cases hb : Nat.beq k d with
  | true =>
   obtain rfl := Nat.eq_of_beq_eq_true hb
   rw [hd] at h; cases h.1
  | false => exact ih (by simpa only [clearB] using h.2)
theorem act_put_other {a : Act} {d : Option Nat} {v : Value} {k : Nat} (h : d ≠ some k) : (Act.put a d v).tmps.getD k undef = a.tmps.getD k undef := by
 cases d with
 | none => rfl
 | some d =>
  have : d ≠ k := fun e => h (by rw [e])
  simp [Act.put, Array.getD_eq_getD_getElem?, this]
theorem act_put_self {a : Act} {v : Value} {k : Nat} (h : k < a.tmps.size) : (Act.put a (some k) v).tmps.getD k undef = v := by
 simp [Act.put, h]
theorem Kn.put_clear {n : Fr} {K : Known} {a : Act} (h : Kn n K a) {d : Option Nat} (hd : ∀ k, d = some k → look K k = none) (v : Value) : Kn n K (a.put d v) := by
 refine ⟨?_, ?_, fun k x e => ?_⟩
 ·cases d <;> simpa [Act.put] using h.size
 ·cases d <;> exact h.defers
 ·rw [act_put_other (fun e' => by rw [hd k e'] at e; cases e)]
  exact h.knows k x e
theorem wp_any_gen {Q : Exit → Act → World → Prop} {n : Fr} {K : Known} (chain : List Nat) (R : Nat → Value → World → Prop) (Le : World → World → Prop) (G : List (Option Value) → World → Prop)
  (hB : opsB ops n.n = true) (hnd : chain.Nodup) (hin : (chain.all fun c => Nat.blt c ops.size) = true) (hclear : clearB ops K = true)
  (hR : ∀ i v w w', R i v w → Le w w' → R i v w')
  (h : SoundFromG P ops Q chain R Le G n K 0 ops.toList)
  (hQ : ∀ (a : Act) (w : World) (vs : List (Option Value)), Kn n K a → vs.length = chain.length → (∀ p, p < chain.length → ∃ v, vs[p]? = some (some v)) → G vs w → (∀ i d, (ops[i]?).bind (·.dst) = some d → chain.contains i = false → R i (a.tmps.getD d undef) w) → (∀ (p c d : Nat), chain[p]? = some c → (ops[c]?).bind (·.dst) = some d → vs[p]? = some (some (a.tmps.getD d undef))) → Q .normal a w) :
  ∀ (a0 : Act) (w0 : World), Kn n K a0 → G (List.replicate chain.length none) w0 → wpAnyIn (fen n.r) 0 P .any ops Q ops.size (Array.replicate ops.size false) a0 w0 := by
 have main : ∀ (fuel : Nat) (listed : Array Bool) (a : Act) (vs : List (Option Value)) (w : World), listed.toList.count false ≤ fuel → AtG ops chain R G n K listed a vs w →
   wpAnyIn (fen n.r) 0 P .any ops Q fuel listed a w := by
  intro fuel
  have done : ∀ (listed : Array Bool) (a : Act) (vs : List (Option Value)) (w : World), Region.ready .any ops listed = [] → AtG ops chain R G n K listed a vs w → Q .normal a w := by
   intro listed a vs w hr H
   have all : ∀ i, i < ops.size → listed.getD i false = true := fun i hi => by
    have := ready_nil hB H.size hr i hi
    have hs := H.size
    simpa [Array.getD, show i < listed.size by omega] using this
   have hin' : ∀ p c, chain[p]? = some c → c < ops.size := fun p c hc => by
    have := List.all_eq_true.1 hin _ (List.mem_of_getElem? hc)
    simpa [Nat.blt_eq] using this
   have lt_of : ∀ i d, (ops[i]?).bind (·.dst) = some d → i < ops.size := fun i d hd => by
    rcases Nat.lt_or_ge i ops.size with h | h
    ·exact h
    ·simp [Array.getElem?_eq_none h] at hd
   exact hQ a w vs H.kn H.len (fun p hp => (H.link p chain[p] (by simp [hp])).1 (all _ (hin' p _ (by simp [hp])))) H.now (fun i d hd hc => H.plain i d hc (all i (lt_of i d hd)) hd) (fun p c d hc hd => H.vals p c d hc (all c (hin' p c hc)) hd)
  induction fuel with
  | zero =>
   intro listed a vs w hc H
   have hr : Region.ready .any ops listed = [] := by
    cases hr : Region.ready .any ops listed with
    | nil => rfl
    | cons i r =>
     have := (mem_ready (md := .any) (ops := ops) (j := i) (listed := listed)).1 (by rw [hr]; simp)
     rw [count_zero hc i] at this
     simp at this
   exact ⟨hr, done listed a vs w hr H⟩
  | succ fuel ih =>
   intro listed a vs w hc H
   refine ⟨fun hr => done listed a vs w hr H, fun i hi => ?_⟩
   obtain ⟨hun, o, ho, haf⟩ := mem_ready.1 hi
   have hilt : i < ops.size := by
    rcases Nat.lt_or_ge i ops.size with h | h
    ·exact h
    ·simp [Array.getElem?_eq_none h] at ho
   have hils : i < listed.size := by have := H.size; omega
   have hun' := getD_false_of hun
   have ok := opsB_spec hB ho
   have hs2 := h.at_ i o (by simpa using ho)
   rw [Nat.zero_add] at hs2
   have after_of : ∀ j d, depB ops o j d = true → listed.getD j false = true ∧ (ops[j]?).bind (·.dst) = some d := by
    intro j d hj
    simp only [depB, Bool.and_eq_true, Array.any_eq_true, beq_iff_eq] at hj
    obtain ⟨⟨k, hk, h1, h2⟩, h3⟩ := hj
    exact ⟨h1 ▸ haf _ (Array.getElem_mem hk) h2, h3⟩
   have ctx : CtxG ops chain R G n K i o a w vs := by
    have opt : ∀ p c, chain[p]? = some c → listed.getD c false = false → vs[p]? = some none := fun p c hc hl => by
     have hp : p < vs.length := by rw [H.len]; exact (List.getElem?_eq_some_iff.1 hc).1
     rw [List.getElem?_eq_getElem hp]
     cases hx : vs[p] with
     | none => rfl
     | some v =>
      have := (H.link p c hc).2 ⟨v, by rw [List.getElem?_eq_getElem hp, hx]⟩
      rw [hl] at this; cases this
    refine ⟨H.now, H.kn, fun j d hj hc => H.plain j d hc (after_of j d hj).1 (after_of j d hj).2, H.len, fun p c d hc hj => H.vals p c d hc (after_of c d hj).1 (after_of c d hj).2, fun p c hc ha => ?_, fun p c hc ha => opt p c hc ?_, fun p c hc ha => opt p c hc ?_⟩
    ·simp only [Array.any_eq_true, Bool.and_eq_true, beq_iff_eq] at ha
     obtain ⟨k, hk, h1, h2⟩ := ha
     exact (H.link p c hc).1 (h1 ▸ haf _ (Array.getElem_mem hk) h2)
    ·cases hl : listed.getD c false with
     | false => rfl
     | true =>
      exfalso
      unfold afterB at ha
      split at ha
      ·rename_i oc hoc
       simp only [Array.any_eq_true, Bool.and_eq_true, beq_iff_eq] at ha
       obtain ⟨k, hk, h1, h2⟩ := ha
       have := H.closed c oc hoc hl _ (Array.getElem_mem hk) h2
       rw [h1, hun'] at this
       cases this
      ·cases ha
    ·cases hl : listed.getD c false with
     | false => rfl
     | true =>
      exfalso
      have := anc_listed H.closed hl i (by simpa using ha)
      rw [hun'] at this
      cases this
   unfold wpOpIn
   simp only [ho]
   -- what is behind a step
   have step : ∀ (v : Value) (vs' : List (Option Value)) (w' : World), (∀ j u, R j u w → R j u w') → G vs' w' → (∀ d, o.dst = some d → chain.contains i = false → R i v w') →
     ((chain.contains i = false ∧ vs' = vs) ∨ (∃ p, chain[p]? = some i ∧ vs' = vs.set p (some v))) →
     wpAnyIn (fen n.r) 0 P .any ops Q fuel (listed.setIfInBounds i true) (Act.put a o.dst v) w' := by
    intro v vs' w' hle hG hRi hvs
    have hc' := count_set (l := listed) hils hun hc
    have hset : ∀ j, (listed.setIfInBounds i true).getD j false = true ↔ j = i ∨ listed.getD j false = true := by
     intro j
     by_cases hj : j = i
     ·subst hj; simp [getD_set_eq hils]
     ·rw [getD_set_ne false (Ne.symm hj)]; simp [hj]
    have hother : ∀ j k, j ≠ i → (ops[j]?).bind (·.dst) = some k → (Act.put a o.dst v).tmps.getD k undef = a.tmps.getD k undef := by
     intro j k hji hjk
     refine act_put_other (fun hd => ?_)
     have hjlt : j < ops.size := by
      rcases Nat.lt_or_ge j ops.size with h | h
      ·exact h
      ·simp [Array.getElem?_eq_none h] at hjk
     exact hji (ok.own k j hd hjlt hjk).symm
    have hself : ∀ d, (ops[i]?).bind (·.dst) = some d → (Act.put a o.dst v).tmps.getD d undef = v := by
     intro d hd
     rw [ho] at hd
     simp only [Option.bind_some] at hd
     rw [hd]
     exact act_put_self (by rw [H.kn.size]; exact ok.lt d hd)
    refine ih _ _ vs' w' hc' ⟨by simpa using H.size, H.kn.put_clear (fun k hk => clearB_look hclear (mem_dsts ho hk)) v, fun j d hjc hj hjd => ?_, fun p c hpc => ?_, fun p c d hpc hp hcd => ?_, ?_, fun j oj hoj hj e he hb => ?_, hG⟩
    ·by_cases hji : j = i
     ·subst hji
      rw [hself d hjd]
      rw [ho] at hjd
      exact hRi d hjd hjc
     ·rw [hother j d hji hjd]
      exact hle _ _ (H.plain j d hjc (((hset j).1 hj).resolve_left hji) hjd)
    ·rw [hset]
     rcases hvs with ⟨hci, rfl⟩ | ⟨q, hq, rfl⟩
     ·have : c ≠ i := by
       rintro rfl
       have := List.mem_of_getElem? hpc
       simp [this] at hci
      exact ⟨fun h => (H.link p c hpc).1 (h.resolve_left this), fun h => .inr ((H.link p c hpc).2 h)⟩
     ·have hpl : q < vs.length := by rw [H.len]; exact (List.getElem?_eq_some_iff.1 hq).1
      by_cases hpq : p = q
      ·subst hpq
       rw [hq] at hpc
       simp only [Option.some.injEq] at hpc
       subst hpc
       exact ⟨fun _ => ⟨v, by rw [List.getElem?_set_self hpl]⟩, fun _ => .inl rfl⟩
      ·have hci : c ≠ i := by
        rintro rfl
        exact hpq ((List.getElem?_inj (List.getElem?_eq_some_iff.1 hpc).1 hnd).1 (hpc.trans hq.symm))
       rw [List.getElem?_set_ne (Ne.symm hpq)]
       exact ⟨fun h => (H.link p c hpc).1 (h.resolve_left hci), fun h => .inr ((H.link p c hpc).2 h)⟩
    ·rcases hvs with ⟨hci, rfl⟩ | ⟨q, hq, rfl⟩
     ·have hne : c ≠ i := by
       rintro rfl
       have := List.mem_of_getElem? hpc
       simp [this] at hci
      rw [hother c d hne hcd]
      exact H.vals p c d hpc (((hset c).1 hp).resolve_left hne) hcd
     ·have hpl : q < vs.length := by rw [H.len]; exact (List.getElem?_eq_some_iff.1 hq).1
      by_cases hpq : p = q
      ·subst hpq
       rw [hq] at hpc
       simp only [Option.some.injEq] at hpc
       subst hpc
       rw [hself d hcd, List.getElem?_set_self hpl]
      ·have hne : c ≠ i := by
        rintro rfl
        exact hpq ((List.getElem?_inj (List.getElem?_eq_some_iff.1 hpc).1 hnd).1 (hpc.trans hq.symm))
       rw [hother c d hne hcd, List.getElem?_set_ne (Ne.symm hpq)]
       exact H.vals p c d hpc (((hset c).1 hp).resolve_left hne) hcd
    ·rcases hvs with ⟨hci, rfl⟩ | ⟨q, hq, rfl⟩
     ·exact H.len
     ·rw [List.length_set]; exact H.len
    ·rw [hset]
     by_cases hji : j = i
     ·subst hji
      rw [ho] at hoj
      simp only [Option.some.injEq] at hoj
      subst hoj
      exact .inr (haf e he hb)
     ·exact .inr (H.closed j oj hoj (((hset j).1 hj).resolve_left hji) e he hb)
   rcases hs2 with ⟨hci, β, hg, hgc, hs1, hs2⟩ | ⟨p, hp, hgn, hs2⟩
   ·have hwant : Region.wanted o (yielded ops a.tmps) = β := by
     have known : ∀ g c d b, o.guard = some (g, b) → (∀ v w, R g v w → (d = true → v = .bool c) ∧ (d = false → v = undef)) → yielded ops a.tmps g = if d then some c else none := by
      intro g c dd b hgb hv
      obtain ⟨⟨e, he, h1, h2⟩, d, hd⟩ := ok.guard g b hgb
      have hv := hv (a.tmps.getD d undef) w (H.plain g d (hgc g b hgb) (h1 ▸ haf e he h2) hd)
      have hdlt : d < a.tmps.size := by
       obtain ⟨og, hog, hgd⟩ := Option.bind_eq_some_iff.1 hd
       rw [H.kn.size]
       exact (opsB_spec hB hog).lt d hgd
      unfold yielded
      rw [hd]
      simp only [Array.getD_eq_getD_getElem?, Array.getElem?_eq_getElem hdlt, Option.getD_some] at hv
      cases dd with
      | true => simp [hdlt, hv.1 rfl]
      | false => simp [hdlt, hv.2 rfl, undef]
     cases hg with
     | none h => unfold Region.wanted; rw [h]
     | @yes g c d h hv => have := known _ _ _ _ h hv; unfold Region.wanted; rw [h]; simp only [this]; cases d <;> simp
     | @no g c d h hv => have := known _ _ _ _ h hv; unfold Region.wanted; rw [h]; simp only [this]; cases d <;> cases c <;> simp
    cases hβ : β with
    | false =>
     rw [hβ] at hwant
     simp only [hwant, Bool.false_eq_true, if_false]
     refine ⟨fun f _ => fen_fn _ f, ?_⟩
     exact step undef vs w (fun _ _ h => h) H.now (fun _ _ _ => hs1 hβ w) (.inl ⟨hci, rfl⟩)
    | true =>
     rw [hβ] at hwant
     simp only [hwant, if_true]
     refine Oper.wpIn_mono ?_ (hs2 hβ a w vs ctx)
     rintro a' w' ⟨v, rfl, hle, hG, hRi⟩
     exact step v vs w' (fun j u hj => hR j u _ _ hj hle) hG (fun _ _ _ => hRi) (.inl ⟨hci, rfl⟩)
   ·have hwant : Region.wanted o (yielded ops a.tmps) = true := by unfold Region.wanted; rw [hgn]
    have hnone : vs[p]? = some none := by
     have hp' : p < vs.length := by rw [H.len]; exact (List.getElem?_eq_some_iff.1 hp).1
     rw [List.getElem?_eq_getElem hp']
     cases hx : vs[p] with
     | none => rfl
     | some v =>
      have := (H.link p i hp).2 ⟨v, by rw [List.getElem?_eq_getElem hp', hx]⟩
      rw [hun'] at this; cases this
    simp only [hwant, if_true]
    refine Oper.wpIn_mono ?_ (hs2 a w vs ctx hnone)
    rintro a' w' ⟨v, rfl, hle, hG⟩
    have hcc : chain.contains i = true := by
     have := List.mem_of_getElem? hp
     simpa using this
    exact step v (vs.set p (some v)) w' (fun j u hj => hR j u _ _ hj hle) hG (fun _ _ h => by rw [hcc] at h; cases h) (.inr ⟨p, hp, rfl⟩)
 intro a0 w0 hk0 h0
 have nothing' : ∀ i, (Array.replicate ops.size false).getD i false = false := fun i => by
  by_cases h : i < ops.size <;> simp [Array.getD, h]
 refine main _ _ _ (List.replicate chain.length none) _ (by simp) ⟨by simp, hk0, fun i d _ hi => ?_, fun p c hpc => ?_, fun p c d _ hp => ?_, by simp, fun i o _ hi => ?_, h0⟩
 ·rw [nothing'] at hi; cases hi
 ·rw [nothing']
  refine ⟨fun h => (by cases h), fun ⟨v, hv⟩ => ?_⟩
  have hp := (List.getElem?_eq_some_iff.1 hpc).1
  simp [hp] at hv
 ·rw [nothing'] at hp; cases hp
 ·rw [nothing'] at hi; cases hi
/-- The law: of what is known of the frame 'K0' is what the region does not write. -/
theorem WC.gen {id : Nat} {dr : Bool} {Q : Exit → Act → World → Prop} {n : Fr} {K : Known} {w : World} (chain : List Nat) (R : Nat → Value → World → Prop) (Le : World → World → Prop) (G : List (Option Value) → World → Prop) (K0 : Known)
  (hs : subK K0 K) (hclear : clearB ops K0 = true) (hm : P.follows .mixedOrders = true) (hB : opsB ops n.n = true) (hnd : chain.Nodup) (hin : (chain.all fun c => Nat.blt c ops.size) = true)
  (hR : ∀ i v w w', R i v w → Le w w' → R i v w') (h0 : G (List.replicate chain.length none) (bif dr then w.drew else w))
  (h : SoundFromG P ops Q chain R Le G n K0 0 ops.toList)
  (hQ : ∀ (a : Act) (w : World) (vs : List (Option Value)), Kn n K0 a → vs.length = chain.length → (∀ p, p < chain.length → ∃ v, vs[p]? = some (some v)) → G vs w → (∀ i d, (ops[i]?).bind (·.dst) = some d → chain.contains i = false → R i (a.tmps.getD d undef) w) → (∀ (p c d : Nat), chain[p]? = some c → (ops[c]?).bind (·.dst) = some d → vs[p]? = some (some (a.tmps.getD d undef))) → Q .normal a w) :
  WC P n K w (.region id ops dr) Q := by
 intro a ha
 have main := wp_any_gen chain R Le G hB hnd hin hclear hR h hQ a
 cases dr with
 | true => exact wpIn_region_any hm (main _ (ha.sub hs) h0)
 | false => exact any_start hB (main _ (ha.sub hs) h0)
/-! ### Where no operation changes what was there -/
/-- An operation of such a region. -/
structure CtxO (ops : Array Oper) (S : List (Bool × Sp)) (n : Fr) (K : Known) (w0 : World) (o : Oper) (a : Act) (w : World) : Prop where
 below : Below w0.heap.size w0 w
 kn : Kn n K a
 dep : ∀ j d, depB ops o j d = true → optR S j (a.tmps.getD d undef) w
def SoundO (P : Program) (ops : Array Oper) (Q : Exit → Act → World → Prop) (S : List (Bool × Sp)) (n : Fr) (K : Known) (w0 : World) : Nat → List Oper → Prop
 | _, [] => True
 | i, o :: r => (∃ β, GuardIs (optR S) o β ∧ (β = false → ∀ w, optR S i undef w) ∧
  (β = true → ∀ a w, CtxO ops S n K w0 o a w → o.wp P a w (fun a' w' => ∃ v, a' = Act.put a o.dst v ∧ Below w.heap.size w w' ∧ optR S i v w') Q)) ∧ SoundO P ops Q S n K w0 (i + 1) r
theorem SoundO.gen {Q : Exit → Act → World → Prop} {S : List (Bool × Sp)} {n : Fr} {K : Known} {w0 : World} : ∀ {l : List Oper} {i : Nat}, SoundO P ops Q S n K w0 i l →
  SoundFromG P ops Q [] (optR S) (fun w w' => Below w.heap.size w w') (fun _ w => Below w0.heap.size w0 w) n K i l
 | [], _, _ => trivial
 | o :: r, i, ⟨⟨β, h1, h2, h3⟩, h4⟩ => by
  refine ⟨.inl ⟨rfl, β, h1, fun _ _ _ => rfl, h2, fun hβ a w vs C => ?_⟩, h4.gen⟩
  refine Oper.wpIn_mono ?_ (wpIn_of (h3 hβ a w ⟨C.now, C.kn, fun j d hj => C.dep j d hj rfl⟩) (by rintro a' w' ⟨v, rfl, _⟩; exact put_defers _ _ _))
  rintro a' w' ⟨v, rfl, hb, hR⟩
  exact ⟨v, rfl, hb, bstep C.now hb, hR⟩
theorem WC.opt {id : Nat} {dr : Bool} {Q : Exit → Act → World → Prop} {n : Fr} {K : Known} {w : World} (S : List (Bool × Sp)) (K0 : Known)
  (hs : subK K0 K) (hclear : clearB ops K0 = true) (hm : P.follows .mixedOrders = true) (hB : opsB ops n.n = true)
  (h : SoundO P ops Q S n K0 w 0 ops.toList)
  (hQ : ∀ (a : Act) (w' : World), Kn n K0 a → Below w.heap.size w w' → (∀ i d, (ops[i]?).bind (·.dst) = some d → optR S i (a.tmps.getD d undef) w') → Q .normal a w') :
  WC P n K w (.region id ops dr) Q := by
 refine WC.gen [] (optR S) (fun w w' => Below w.heap.size w w') (fun _ w' => Below w.heap.size w w') K0 hs hclear hm hB List.nodup_nil rfl (optKeep S) ?_ h.gen (fun a w' vs hk _ _ hG hu _ => hQ a w' hk hG (fun i d hd => hu i d hd rfl))
 cases dr with
 | true => exact (Below.refl _ _).drew
 | false => exact Below.refl _ _
end
end Go.Proofs.Ytibncmnmjhimeaa

/- A block that is known whole. -/
namespace Go.Proofs.Ytibncmnmjhimeaa
open Go.RowKit
def Blk (w : World) (g : Nat) (t : TypeId) (cs : Array Value) : Prop := w.heap[g]? = some (.cells cs t (0, 0))
section
variable {w w' : World} {g : Nat} {t : TypeId} {cs : Array Value}
theorem Blk.lt (h : Blk w g t cs) : g < w.heap.size := lt_of_block h
theorem Blk.cell (h : Blk w g t cs) (i : Nat) : w.cell? ⟨g, i, none⟩ = cs[i]? := by unfold Blk at h; simp [World.cell?, h]
theorem Blk.frozen (h : Blk w g t cs) (i : Nat) : w.frozen? ⟨g, i, none⟩ = false := by unfold Blk at h; simp [World.frozen?, h]
theorem Blk.new' {b : Nat} (h : w.heap.size = b) : Blk (w.alloc (.cells cs t)) b t cs := heap_new' h
theorem Blk.set_ (h : Blk w g t cs) (i : Nat) (u : Value) : Blk (w.setCell ⟨g, i, none⟩ u) g t (cs.setIfInBounds i u) := by
  unfold Blk at h ⊢
  simp [World.setCell, Array.getElem?_modify, h]
theorem Blk.below (h : Blk w g t cs) (hb : Below w.heap.size w w') : Blk w' g t cs := (hb.block g h.lt).trans h
end
end Go.Proofs.Ytibncmnmjhimeaa

/- What printed walks lean on. -/
namespace Go.Proofs.Ytibncmnmjhimeaa
open Go.RowKit Go
theorem wrap_eq {e r : Int} (h : e = r) (h0 : -9223372036854775808 ≤ r) (h1 : r ≤ 9223372036854775807) : IntKind.i64.wrap e = r := by
  subst h; exact IntWalk.i64_in _ (by omega)
/-- A new block. -/
def NewBlk (w : World) (t : TypeId) (cs : Array Value) (v : Value) (w' : World) : Prop :=
  ∃ g, v = .pointer (some ⟨g, 0, none⟩) ∧ w.heap.size = g ∧ Blk w' g t cs ∧ Below w.heap.size w w' ∧ w'.heap.size = g + 1
theorem newBlk (w : World) (t : TypeId) (cs : Array Value) : NewBlk w t cs (.pointer (some ⟨w.heap.size, 0, none⟩)) (w.alloc (.cells cs t)) :=
  ⟨_, rfl, rfl, Blk.new' rfl, balloc _ _, by simp⟩
/-- A new row. -/
def NewRow (w : World) (t : TypeId) (cs : Array Value) (n : Nat) (v : Value) (w' : World) : Prop :=
  ∃ g, v = .slice (some ⟨g, 0, none⟩) n n ∧ w.heap.size = g ∧ Blk w' g t cs ∧ Below w.heap.size w w' ∧ w'.heap.size = g + 1
theorem newRow (w : World) (t : TypeId) (cs : Array Value) (n : Nat) : NewRow w t cs n (.slice (some ⟨w.heap.size, 0, none⟩) n n) (w.alloc (.cells cs t)) :=
  ⟨_, rfl, rfl, Blk.new' rfl, balloc _ _, by simp⟩
/-- One block may have been written. -/
structure Upd (g : Nat) (w w' : World) : Prop where
  os : w'.os = w.os
  tape : w'.tape = w.tape
  output : w'.output = w.output
  size : w'.heap.size = w.heap.size
  block : ∀ k, k ≠ g → w'.heap[k]? = w.heap[k]?
theorem Upd.set (w : World) (p : Addr) (v : Value) : Upd p.block w (w.setCell p v) := ⟨rfl, rfl, rfl, by simp [World.setCell], fun _ hk => Below.heap_setCell _ _ _ _ hk⟩
theorem Upd.at_ (w : World) (g i : Nat) (v : Value) : Upd g w (w.setCell ⟨g, i, none⟩ v) := Upd.set w ⟨g, i, none⟩ v
theorem Upd.trans {g : Nat} {a b c : World} (h : Upd g a b) (k : Upd g b c) : Upd g a c :=
  ⟨k.os.trans h.os, k.tape.trans h.tape, k.output.trans h.output, k.size.trans h.size, fun i hi => (k.block i hi).trans (h.block i hi)⟩
theorem upd_below {g : Nat} {w0 w w' : World} (h : Below w0.heap.size w0 w) (hu : Upd g w w') (hg : w0.heap.size ≤ g) : Below w0.heap.size w0 w' :=
  h.trans ⟨hu.os, hu.tape, hu.output, Nat.le_of_eq hu.size.symm, fun k hk => hu.block k (by omega)⟩
theorem upd_blk {g b : Nat} {t : TypeId} {cs : Array Value} {w w' : World} (h : Blk w b t cs) (hu : Upd g w w') (hne : b ≠ g) : Blk w' b t cs := (hu.block b hne).trans h
/-- The address of a slice's slice. -/
def slA (r : Option Addr) (k size c : Nat) : Option Addr := if c = k then r else r.map (·.add (k * size))
theorem slA_some {b o k size c : Nat} (h : k < c) : slA (some ⟨b, o, none⟩) k size c = some ⟨b, o + k * size, none⟩ := by
  unfold slA
  rw [if_neg (by omega), Option.map_some, add_plain2]
/-- It returns. -/
abbrev Ret (Post : Value → World → Prop) : Ending → World → Prop := fun e w' => ∃ v, e = .returned v ∧ Post v w'
theorem ret_of {P : Program} {F : FuncId} {vs : Array Value} {w : World} {v : Value} (h : Calls P F vs w fun e w' => e = .returned v ∧ Below w.heap.size w w') :
    Calls P F vs w (Ret fun v' w' => v' = v ∧ Below w.heap.size w w') := h.mono (by rintro e w' ⟨rfl, hb⟩; exact ⟨_, rfl, rfl, hb⟩)
section
variable {P : Program} {n : Fr} {K : Known} {w : World} {ops : Array Oper} {o : Oper} {rest : List Oper} {Q : Exit → Act → World → Prop}
theorem WL.call {d : Option Nat} {F : FuncId} {vs : Array Value} {Post : Value → World → Prop} (hd : o.dst = d) (hlt : dstB n.n d = true) (hg : o.guard = none)
    (h : ∀ a, Kn n K a → ∀ C : Act → World → Prop, Calls P F vs w (Ret Post) → (∀ v w', Post v w' → C (a.put o.dst v) w') → o.wp P a w C Q)
    (hc : Calls P F vs w (Ret Post)) (k : ∀ v w', Post v w' → WL P ops n (putK K d v) w' rest Q) : WL P ops n K w (o :: rest) Q :=
  WL.step hd hlt hg (fun a C ha hC => h a ha C hc hC) k
variable {a : Act} {C : Act → World → Prop}
theorem mkfn {fn : Fn} {xs ys : Array Operand} {us vs : Array Value} (ho : o.op = .makeFunc fn xs ys) (hx : xs.map a.eval = us) (hy : ys.map a.eval = vs) (hK : C (a.put o.dst (.func fn us vs)) w) : o.wp P a w C Q := by
  unfold Oper.wp execOp
  simp only [ho, hx, hy]
  go_simp
  exact hK
theorem wp_callv {F : FuncId} {f : Operand} {xs : Array Operand} {tys : Array TypeId} {us first cap : Array Value} {R : Value → World → Prop} (hF : callB P F = true) (ho : o.op = .call { callee := .value f, args := xs, argTypes := tys }) (hf : a.eval f = .func (.func F) first cap) (hv : xs.map a.eval = us)
    (h : Calls P F (first ++ us ++ cap) w fun e w' => ∃ v, e = .returned v ∧ R v w') (hK : ∀ v w', R v w' → C (a.put o.dst v) w') : o.wp P a w C Q := by
  unfold callB at hF
  split at hF
  · rename_i fn hfn
    simp only [Bool.and_eq_true, Bool.not_eq_true'] at hF
    have hp : (Sem.run P program w) = .ok P w := rfl
    unfold Oper.wp execOp
    simp only [ho, resolve, hv, hf, Deferred.ofValue, invoke, callFunc, Sem.run_bind, Sem.run_pure, Result.andThen_ok, hp, hfn, hF.1, hF.2, Bool.false_eq_true, if_false]
    refine h.mono ?_
    rintro e w' ⟨v, rfl, hR⟩
    exact hK v w' hR
  · simp at hF
end
/-! ### Rows of the call's own, appended to -/
/-- What is appended: the cells of a slice. -/
def SrcIs (w : World) (x : Value) (m : Nat) (news : List Value) : Prop :=
  (∃ ad c, x = .slice (some ad) m c ∧ ∀ j u, news[j]? = some u → w.cell? (ad.add j) = some u) ∨ (∃ c, x = .slice none 0 c ∧ m = 0 ∧ news = [])
theorem SrcIs.ofBlk {w : World} {g : Nat} {t : TypeId} {cs : List Value} {m c : Nat} (h : Blk w g t cs.toArray) : SrcIs w (.slice (some ⟨g, 0, none⟩) m c) m cs := by
  refine .inl ⟨_, _, rfl, fun j u hj => ?_⟩
  rw [add_plain2, Nat.zero_add, h.cell]
  simpa using hj
/-- What an append leaves. -/
structure Grown (w : World) (base : Nat) (e : TypeId) (size : Nat) (v : Value) (n : Nat) (xs : List Value) (ra : Option Addr) (rc : Nat) (w' : World) : Prop where
  own : w'.ownsRow base e size (.slice ra n rc) n xs
  grow : w.grownBy w' v.ownBlock
  at_ : (Value.slice ra n rc).ownBlock = v.ownBlock ∨ (Value.slice ra n rc).ownBlock = some w.heap.size
theorem ownsRow_form {w : World} {base : Nat} {e : TypeId} {size : Nat} {v : Value} {n : Nat} {xs : List Value} (h : w.ownsRow base e size v n xs) : ∃ ra rc, v = .slice ra n rc := by
  rcases h.2 with ⟨rfl, rfl⟩ | ⟨g, cap, cur, rfl, _⟩
  · exact ⟨_, _, rfl⟩
  · exact ⟨_, _, rfl⟩
section
variable {P : Program} {w : World} {a : Act} {K : Act → World → Prop} {Q : Exit → Act → World → Prop} {o : Oper}
theorem wp_app {s x : Operand} {t e : TypeId} {z : Value} {size bytes base n m : Nat} {v y : Value} {xs news : List Value} (ht : P.underlying t = some (.slice e)) (hinfo : (P.info? e).map (fun i => (i.zero, i.size, i.bytes)) = some (some z, size, bytes)) (hzs : z.cells.size = size) (hsz : 0 < size)
    (ho : o.op = .call { callee := .builtin .append, args := #[s, x], argTypes := #[t, t] }) (hs : a.eval s = v) (hx : a.eval x = y) (hown : w.ownsRow base e size v n xs) (hsrc : SrcIs w y m news) (hl : news.length = m * size) (h1 : ∀ u ∈ news, u.oneCell' = true)
    (hb : (n + m) * bytes ≤ 140737488355328) (hn : n + m ≤ 9223372036854775807) (hbase : base ≤ w.heap.size) (hK : ∀ ra rc w', Grown w base e size v (n + m) (xs ++ news) ra rc w' → K (a.put o.dst (.slice ra (n + m) rc)) w') : o.wp P a w K Q := by
  obtain ⟨i, hi, hz0, hz1, hz2⟩ := info_parts hinfo
  rcases hsrc with ⟨ad, c, rfl, hnews⟩ | ⟨c, rfl, rfl, rfl⟩
  · obtain ⟨v', w', hr, h2, h3, h4, h5⟩ := run_append_own_at (P := P) w base t o.type e i z size bytes ht hi hz0 hz1 hz2 hzs hsz v n xs hown ad m c news hl hnews h1 (by unfold maxLen; omega) hb hbase
    obtain ⟨ra, rc, rfl⟩ := ownsRow_form h2
    unfold Oper.wp execOp
    simp only [ho, resolve, invoke, builtin, Sem.run_bind, Sem.run_pure, Result.andThen_ok, List.map_toArray, List.map_cons, List.map_nil, hs, hx, hr]
    exact hK _ _ _ ⟨h2, h3, h5⟩
  · obtain ⟨ra, rc, rfl⟩ := ownsRow_form hown
    have hcap : n ≤ rc := by
      rcases hown.2 with ⟨e, h⟩ | ⟨_, _, _, e, _, _, h, _⟩
      · omega
      · simp only [Value.slice.injEq] at e; omega
    have hr : (Builtin.append_ #[t, t] o.type #[.slice ra n rc, .slice none 0 c]).run P w = .ok (.slice ra n rc) w := by
      cases ra <;> simp [Builtin.append_, run_underlying ht, sizeOf, typeInfo, hi, Builtin.lenOf, Builtin.firstCells, hcap, storeCells]
    unfold Oper.wp execOp
    simp only [ho, resolve, invoke, builtin, Sem.run_bind, Sem.run_pure, Result.andThen_ok, List.map_toArray, List.map_cons, List.map_nil, hs, hx, hr]
    exact hK _ _ _ ⟨by simpa using hown, ⟨rfl, rfl, rfl, Nat.le_refl _, fun _ _ _ => rfl⟩, .inl rfl⟩
end
/-- Blocks that 'S' holds of may have been written. -/
structure Chg (S : Nat → Prop) (w w' : World) : Prop where
  os : w'.os = w.os
  tape : w'.tape = w.tape
  output : w'.output = w.output
  size : w.heap.size ≤ w'.heap.size
  block : ∀ k, k < w.heap.size → ¬ S k → w'.heap[k]? = w.heap[k]?
theorem chg_below {S : Nat → Prop} {w0 w w' : World} (h : Below w0.heap.size w0 w) (k : Chg S w w') (hS : ∀ b, b < w0.heap.size → ¬ S b) : Below w0.heap.size w0 w' :=
  h.trans ⟨k.os, k.tape, k.output, k.size, fun b hb => k.block b (Nat.lt_of_lt_of_le hb h.size) (hS b hb)⟩
theorem chg_blk {S : Nat → Prop} {b : Nat} {t : TypeId} {cs : Array Value} {w w' : World} (h : Blk w b t cs) (k : Chg S w w') (hS : ¬ S b) : Blk w' b t cs := (k.block b h.lt hS).trans h
/-- A row of the call's own, in a block that 'S' holds of. -/
def Own (w : World) (S : Nat → Prop) (e : TypeId) (size : Nat) (ra : Option Addr) (rc n : Nat) (xs : List Value) : Prop :=
  w.ownsRow 0 e size (.slice ra n rc) n xs ∧ ∀ b, (Value.slice ra n rc).ownBlock = some b → S b
section
variable {w w' : World} {S S' : Nat → Prop} {e : TypeId} {size : Nat} {ra : Option Addr} {rc n g : Nat} {xs : List Value}
theorem Own.of {base : Nat} (h : w.ownsRow base e size (.slice ra n rc) n xs) : Own w (fun b => base ≤ b) e size ra rc n xs := by
  refine ⟨⟨h.1, h.2.imp id ?_⟩, fun b hb => (h.lt b hb).1⟩
  rintro ⟨g, cap, cur, e1, _, r⟩
  exact ⟨g, cap, cur, e1, Nat.zero_le _, r⟩
end
section
variable {P : Program} {w : World} {a : Act} {K : Act → World → Prop} {Q : Exit → Act → World → Prop} {o : Oper}
end
end Go.Proofs.Ytibncmnmjhimeaa

/- 'box = append(box, x)' in a region that draws its order: the row of one, the append to a row of the call's own, the store into a box, everything else only reads. -/
namespace Go.Proofs.Ytibncmnmjhimeaa
open Go.RowKit Go
theorem Chg.refl (S : Nat → Prop) (w : World) : Chg S w w := ⟨rfl, rfl, rfl, Nat.le_refl _, fun _ _ _ => rfl⟩
theorem Chg.trans {S : Nat → Prop} {a b c : World} (h : Chg S a b) (k : Chg S b c) : Chg S a c :=
  ⟨k.os.trans h.os, k.tape.trans h.tape, k.output.trans h.output, Nat.le_trans h.size k.size, fun i hi hS => (k.block i (Nat.lt_of_lt_of_le hi h.size) hS).trans (h.block i hi hS)⟩
theorem Chg.mono {S S' : Nat → Prop} {a b : World} (h : Chg S a b) (hS : ∀ k, S k → S' k) : Chg S' a b := ⟨h.os, h.tape, h.output, h.size, fun i hi hn => h.block i hi (fun e => hn (hS i e))⟩
theorem Chg.ofBelow {S : Nat → Prop} {a b : World} (h : Below a.heap.size a b) : Chg S a b := ⟨h.os, h.tape, h.output, h.size, fun i hi _ => h.block i hi⟩
theorem Chg.ofUpd {S : Nat → Prop} {g : Nat} {a b : World} (h : Upd g a b) (hS : S g) : Chg S a b := ⟨h.os, h.tape, h.output, Nat.le_of_eq h.size.symm, fun i _ hn => h.block i (fun e => hn (e ▸ hS))⟩
theorem chg_cell {S : Nat → Prop} {w w' : World} {b o : Nat} {v : Value} (k : Chg S w w') (hS : ¬ S b) (h : w.cell? ⟨b, o, none⟩ = some v) : w'.cell? ⟨b, o, none⟩ = some v := by
  have hb := World.block_lt_of_cell? _ _ h
  unfold World.cell? at h ⊢
  have e := k.block b hb hS
  dsimp only at h ⊢
  rw [e]; exact h
theorem chg_old {S : Nat → Prop} {w0 w w' : World} {p : Addr} {v : Value} (hb : Below w0.heap.size w0 w) (k : Chg S w w') (hS : ∀ b, b < w0.heap.size → ¬ S b) (h : w0.cell? p = some v) : w'.cell? p = some v :=
  bkeeps (chg_below hb k hS) _ _ h
section
variable {w0 w w' : World} {S : Nat → Prop} {e size n rc m g ty i : Nat} {ra : Option Addr} {xs : List Value} {cs : Array Value} {N : List Value → Prop} {vb vp vq : Option Value}
variable {news : List Value}
end
section
variable {P : Program} {ops : Array Oper}
end
end Go.Proofs.Ytibncmnmjhimeaa

/- Maps from integers: entries in the order in which they were laid, whatever the values are; ranges over them. -/
namespace Go.Proofs.Ytibncmnmjhimeaa
open Go.RowKit Go
set_option linter.unusedVariables false
set_option linter.unusedSimpArgs false
/-- What lies in a block. -/
def ObjAt (w : World) (b : Nat) (o : Obj) : Prop := w.heap[b]? = some o
section
variable {w w' : World} {b g : Nat} {o : Obj}
theorem ObjAt.lt (h : ObjAt w b o) : b < w.heap.size := (Array.getElem?_eq_some_iff.1 h).1
theorem ObjAt.chg {S : Nat → Prop} (h : ObjAt w b o) (hc : Chg S w w') (hb : ¬ S b) : ObjAt w' b o := (hc.block b h.lt hb).trans h
theorem ObjAt.below (h : ObjAt w b o) (hb : Below w.heap.size w w') : ObjAt w' b o := (hb.block b h.lt).trans h
theorem ObjAt.upd (h : ObjAt w b o) (hu : Upd g w w') (hne : b ≠ g) : ObjAt w' b o := (hu.block b hne).trans h
theorem ObjAt.neBlk {t : TypeId} {cs : Array Value} {es : Array MapEntry} {clock : Nat} (h : ObjAt w b (.map es clock)) (hB : Blk w g t cs) : g ≠ b := by
  rintro rfl; unfold ObjAt at h; unfold Blk at hB; rw [h] at hB; cases hB
end
section
variable {P : Program} {w : World} {t k e : TypeId} {kd : IntKind} {r : Nat} {es : Array MapEntry} {clock : Nat} {l : List (Int × Value)}
theorem run_getObj_im (h : ObjAt w r (.map es clock)) : (getObj r).run P w = .ok (.map es clock) w := by
  unfold ObjAt at h; simp [getObj, Sem.run, h]
theorem run_setObj_im (h : ObjAt w r (.map es clock)) (o : Obj) : (setObj r o).run P w = .ok () { w with heap := w.heap.setIfInBounds r o } := by
  unfold ObjAt at h; simp [setObj, Sem.run, h]
theorem upd_setObj (h : ObjAt w r (.map es clock)) (o : Obj) : Upd r w { w with heap := w.heap.setIfInBounds r o } ∧ ObjAt { w with heap := w.heap.setIfInBounds r o } r o :=
  ⟨⟨rfl, rfl, rfl, by simp, fun k hk => by simp [Ne.symm hk]⟩, by have := h.lt; simp [ObjAt, this]⟩
variable {a : Act} {K : Act → World → Prop} {Q : Exit → Act → World → Prop} {o : Oper}
theorem map_eraseIdx' {α β : Type} (f : α → β) : ∀ (l : List α) (i : Nat), (l.eraseIdx i).map f = (l.map f).eraseIdx i
  | [], _ => rfl
  | _ :: _, 0 => rfl
  | x :: l, i + 1 => by rw [List.eraseIdx_cons_succ, List.map_cons, List.map_cons, List.eraseIdx_cons_succ, map_eraseIdx' f l i]
/-- A new map. -/
def NewMap (w : World) (v : Value) (w' : World) : Prop := ∃ g, v = .map (some g) ∧ w.heap.size = g ∧ ObjAt w' g (.map #[] 0) ∧ Below w.heap.size w w' ∧ w'.heap.size = g + 1
theorem wp_makeMap_im (ho : o.op = .makeMap t none) (hK : ∀ v w', NewMap w v w' → K (a.put o.dst v) w') : o.wp P a w K Q := by
  have := hK (.map (some w.heap.size)) (w.alloc (.map #[] 0)) ⟨_, rfl, rfl, heap_alloc_new w _, balloc _ _, by simp⟩
  unfold Oper.wp execOp
  simp only [ho]
  go_simp
  exact this
end
end Go.Proofs.Ytibncmnmjhimeaa

/- Ranges over maps from integers: what is handed out, in whatever order. -/
namespace Go.Proofs.Ytibncmnmjhimeaa
open Go.RowKit Go
set_option linter.unusedVariables false
set_option linter.unusedSimpArgs false
section
variable {P : Program} {w : World} {t k e : TypeId} {kd : IntKind} {r it : Nat} {es : Array MapEntry} {clock : Nat} {l done rest : List (Int × Value)} {seen : Array Nat}
theorem leftOf_nil : leftOf es #[] = es := by
  unfold leftOf
  rw [Array.filter_eq_self]
  intro e _; simp
theorem filter_drop_one {α : Type} [DecidableEq Nat] (f : α → Nat) : ∀ (l : List α) (j : Nat) (hj : j < l.length), (l.map f).Nodup → l.filter (fun x => !(f x == f l[j])) = l.eraseIdx j
  | x :: l, 0, _, h => by
    rw [List.map_cons, List.nodup_cons] at h
    have : l.filter (fun y => !(f y == f x)) = l := by
      rw [List.filter_eq_self]
      intro y hy
      have : f y ≠ f x := fun e => h.1 (e ▸ List.mem_map_of_mem hy)
      simpa using this
    simp [this]
  | x :: l, j + 1, hj, h => by
    rw [List.map_cons, List.nodup_cons] at h
    have hj' : j < l.length := by simpa using hj
    have hx : f x ≠ f l[j] := fun e => h.1 (e ▸ List.mem_map_of_mem (List.getElem_mem hj'))
    have := filter_drop_one f l j hj' h.2
    simp [hx, this]
theorem perm_erase {α : Type} : ∀ (l : List α) (j : Nat) (hj : j < l.length), l.Perm (l[j] :: l.eraseIdx j)
  | x :: l, 0, _ => by simp
  | x :: l, j + 1, hj => by
    have := perm_erase l j (by simpa using hj)
    simp only [List.getElem_cons_succ, List.eraseIdx_cons_succ]
    exact (this.cons x).trans (List.Perm.swap _ _ _)
variable {a : Act} {K : Act → World → Prop} {Q : Exit → Act → World → Prop} {o : Oper}
/-- A new range. -/
def NewIt (w : World) (r clock : Nat) (v : Value) (w' : World) : Prop := ∃ g, v = .pointer (some ⟨g, 0, none⟩) ∧ w.heap.size = g ∧ ObjAt w' g (.mapIter (some r) clock #[] clock) ∧ Below w.heap.size w w' ∧ w'.heap.size = g + 1
theorem wp_range_im {x : Operand} (ht : P.underlying t = some (.map k e)) (hM : ObjAt w r (.map es clock)) (ho : o.op = .range t x) (hx : a.eval x = .map (some r)) (hK : ∀ v w', NewIt w r clock v w' → K (a.put o.dst v) w') : o.wp P a w K Q := by
  have := hK (.pointer (some ⟨w.heap.size, 0, none⟩)) (w.alloc (.mapIter (some r) clock #[] clock)) ⟨_, rfl, rfl, heap_alloc_new w _, balloc _ _, by simp⟩
  unfold Oper.wp execOp
  simp only [ho, hx]
  simp only [Sem.run_bind, run_range_map w t k e r es clock ht hM, Result.andThen_ok]
  exact this
end
end Go.Proofs.Ytibncmnmjhimeaa

/- Maps from keys of a kind: entries in the order in which they were laid, whatever the values are; ranges over them. -/
namespace Go.Proofs.Ytibncmnmjhimeaa
open Go.RowKit Go
set_option linter.unusedVariables false
set_option linter.unusedSimpArgs false
/-- A kind of key: how it is told, and that the program finds it. -/
structure KeyK (P : Program) (k : TypeId) {κ : Type} [DecidableEq κ] (enc : κ → Value) (ok : κ → Prop) : Prop where
  eq : ∀ x y w, ok x → ok y → (Op.equal k (enc x) (enc y)).run P w = .ok (decide (x = y)) w
  check : ∀ b x w, ok x → (Instr.checkKey b 10000 k (enc x)).run P w = .ok () w
  bits : ∀ x, ok x → Instr.sameBits 10000 (enc x) (enc x) = true
  under : ∃ u, P.underlying k = some u ∧ ∀ x e es, Instr.findNow u (enc x) (e :: es) 0 = none
section
variable {κ : Type} [DecidableEq κ] {enc : κ → Value} {ok : κ → Prop}
/-- The entries of a map are the list. -/
structure GmE (enc : κ → Value) (ok : κ → Prop) (es : Array MapEntry) (clock : Nat) (l : List (κ × Value)) : Prop where
  kv : es.toList.map (fun e => (e.key, e.val)) = l.map (fun x => (enc x.1, x.2))
  nd : (es.toList.map (·.born)).Nodup
  lt : ∀ e ∈ es.toList, e.born < clock
  ok : ∀ x ∈ l, ok x.1
omit [DecidableEq κ] in
theorem GmE.nil : GmE enc ok #[] 0 [] := ⟨rfl, List.Pairwise.nil, fun e h => by simp at h, fun x h => by simp at h⟩
omit [DecidableEq κ] in
theorem GmE.size {es : Array MapEntry} {clock : Nat} {l : List (κ × Value)} (h : GmE enc ok es clock l) : es.size = l.length := by
  have := congrArg List.length h.kv
  simpa using this
def gmFind : List (κ × Value) → κ → Nat → Option (Nat × Value)
  | [], _, _ => none
  | x :: l, k, i => if k = x.1 then some (i, x.2) else gmFind l k (i + 1)
def gmLook (l : List (κ × Value)) (k : κ) : Option Value := (gmFind l k 0).map (·.2)
def gmDel (l : List (κ × Value)) (k : κ) : List (κ × Value) := match gmFind l k 0 with | some (i, _) => l.eraseIdx i | none => l
def gmPut (l : List (κ × Value)) (k : κ) (v : Value) : List (κ × Value) := match gmFind l k 0 with | some (i, _) => l.set i (k, v) | none => l ++ [(k, v)]
theorem gmFind_none : ∀ {l : List (κ × Value)} {k : κ} {i : Nat}, gmFind l k i = none ↔ ∀ x ∈ l, x.1 ≠ k
  | [], k, i => by simp [gmFind]
  | x :: l, k, i => by
    rw [gmFind]
    split
    · rename_i h; subst h; simp
    · rename_i h; rw [gmFind_none]; simp; exact fun _ e => h e.symm
theorem gmFind_at {k : κ} : ∀ {l : List (κ × Value)} {i j : Nat} {v : Value}, gmFind l k i = some (j, v) → i ≤ j ∧ l[j - i]? = some (k, v)
  | [], i, j, v, h => by cases h
  | x :: l, i, j, v, h => by
    rw [gmFind] at h
    split at h
    · rename_i hk
      obtain ⟨rfl, rfl⟩ : i = j ∧ x.2 = v := by simpa using h
      subst hk
      simp
    · obtain ⟨h1, h2⟩ := gmFind_at h
      refine ⟨by omega, ?_⟩
      rw [show j - i = (j - (i + 1)) + 1 by omega]
      simpa using h2
variable {P : Program} {w : World} {t k e : TypeId} {r : Nat} {es : Array MapEntry} {clock : Nat} {l : List (κ × Value)}
theorem run_findAsking_gm (hk : KeyK P k enc ok) {x : κ} (hx : ok x) (w : World) : ∀ (es : List MapEntry) (l : List (κ × Value)) (i : Nat), es.map (fun e => (e.key, e.val)) = l.map (fun x => (enc x.1, x.2)) → (∀ x ∈ l, ok x.1) → (Instr.findAsking k (enc x) es i).run P w = .ok (gmFind l x i) w
  | [], [], i, _, _ => by simp [Instr.findAsking, gmFind]
  | [], _ :: _, _, h, _ => by cases h
  | _ :: _, [], _, h, _ => by cases h
  | e :: es, y :: l, i, h, ho => by
    simp only [List.map_cons, List.cons.injEq, Prod.mk.injEq] at h
    obtain ⟨⟨h1, h2⟩, h3⟩ := h
    unfold Instr.findAsking
    simp only [Sem.run_bind, h1, hk.eq _ _ _ hx (ho y (by simp)), Result.andThen_ok]
    rw [gmFind]
    by_cases c : x = y.1
    · rw [decide_eq_true c, if_pos c]; simp [h2]
    · rw [decide_eq_false c, if_neg c]
      simp only [Bool.false_eq_true, if_false]
      exact run_findAsking_gm hk hx w es l (i + 1) h3 (fun z hz => ho z (List.mem_cons_of_mem _ hz))
theorem run_findKey_gm (hk : KeyK P k enc ok) (h : GmE enc ok es clock l) {x : κ} (hx : ok x) : (Instr.findKey k (enc x) es.toList).run P w = .ok (gmFind l x 0) w := by
  obtain ⟨u, hu, hf⟩ := hk.under
  have hr := run_findAsking_gm hk hx w es.toList l 0 h.kv h.ok
  unfold Instr.findKey
  simp only [Sem.run_bind, run_underlying hu, Result.andThen_ok]
  have hkv := h.kv
  cases he : es.toList with
  | nil =>
    rw [he] at hkv
    cases l with
    | nil => simp [Instr.findNow, gmFind]
    | cons y l => cases hkv
  | cons e r => rw [he] at hr; simp only [hf]; exact hr
variable {a : Act} {K : Act → World → Prop} {Q : Exit → Act → World → Prop} {o : Oper}
theorem wp_look_gm (hk : KeyK P k enc ok) {x y : Operand} {z : Value} {n : κ} (hn : ok n) (ht : P.underlying t = some (.map k e)) (hz : (zeroValue e).run P w = .ok z w) (hM : ObjAt w r (.map es clock)) (h : GmE enc ok es clock l)
    (ho : o.op = .lookup t x y false) (hx : a.eval x = .map (some r)) (hy : a.eval y = enc n) (hK : K (a.put o.dst ((gmLook l n).getD z)) w) : o.wp P a w K Q := by
  unfold Oper.wp execOp
  simp only [ho, hx, hy, Instr.lookup, Sem.run_bind, Sem.run_pure, run_underlying ht, Result.andThen_ok, run_getObj_im hM, hk.check _ _ _ hn, run_findKey_gm hk h hn]
  unfold gmLook at hK
  cases hf : gmFind l n 0 with
  | none => rw [hf] at hK; simp [hz]; exact hK
  | some p => rw [hf] at hK; simp; exact hK
omit [DecidableEq κ] in
theorem GmE.push (h : GmE enc ok es clock l) {n : κ} (hn : ok n) (v : Value) : GmE enc ok (es.push { key := enc n, val := v, born := clock }) (clock + 1) (l ++ [(n, v)]) := by
  refine ⟨?_, ?_, fun e he => ?_, fun x hx => ?_⟩
  · simp [h.kv]
  · rw [Array.toList_push, List.map_append, List.map_singleton, List.nodup_append]
    refine ⟨h.nd, by simp, fun a ha b hb => ?_⟩
    obtain ⟨e, he, rfl⟩ := List.mem_map.1 ha
    have := h.lt e he
    simp at hb; omega
  · rw [Array.toList_push, List.mem_append] at he
    rcases he with he | he
    · have := h.lt e he; omega
    · simp at he; subst he; simp
  · rcases List.mem_append.1 hx with hx | hx
    · exact h.ok x hx
    · obtain rfl := List.mem_singleton.1 hx; exact hn
theorem modify_list {α : Type} (f : α → α) (a : Array α) (i : Nat) (h : i < a.size) : (a.modify i f).toList = a.toList.set i (f a[i]) := by
  apply List.ext_getElem
  · simp
  · intro q q1 q2
    rw [List.getElem_set]
    simp only [Array.getElem_toList, Array.getElem_modify]
    split
    · rename_i c; subst c; rfl
    · rfl
omit [DecidableEq κ] in
theorem GmE.over (h : GmE enc ok es clock l) {i : Nat} {n : κ} {v : Value} (hn : ok n) (hi : l[i]?.map (·.1) = some n) : GmE enc ok (es.modify i fun e => { e with key := enc n, val := v }) clock (l.set i (n, v)) := by
  have hs := h.size
  have hil : i < l.length := by
    rcases Nat.lt_or_ge i l.length with c | c
    · exact c
    · rw [List.getElem?_eq_none c] at hi; cases hi
  have hie : i < es.size := by omega
  have hl := modify_list (fun e : MapEntry => { e with key := enc n, val := v }) es i hie
  refine ⟨?_, ?_, fun e he => ?_, fun x hx => ?_⟩
  · rw [hl, List.map_set, List.map_set, h.kv]
  · rw [hl, List.map_set]
    have : (es.toList.map (·.born)).set i es[i].born = es.toList.map (·.born) := by
      apply List.ext_getElem
      · simp
      · intro q q1 q2
        rw [List.getElem_set]
        split
        · rename_i c; subst c; simp
        · rfl
    show ((es.toList.map (·.born)).set i es[i].born).Nodup
    rw [this]; exact h.nd
  · rw [hl] at he
    rcases List.mem_or_eq_of_mem_set he with he | rfl
    · exact h.lt e he
    · show es[i].born < clock
      exact h.lt es[i] (by simp)
  · rcases List.mem_or_eq_of_mem_set hx with hx | rfl
    · exact h.ok x hx
    · exact hn
omit [DecidableEq κ] in
theorem GmE.erase (h : GmE enc ok es clock l) (i : Nat) : GmE enc ok (es.eraseIdxIfInBounds i) clock (l.eraseIdx i) := by
  have e1 : (es.eraseIdxIfInBounds i).toList = es.toList.eraseIdx i := by
    rw [Array.toList_eraseIdxIfInBounds]
  refine ⟨?_, ?_, fun e he => ?_, fun x hx => ?_⟩
  · rw [e1, map_eraseIdx', h.kv, map_eraseIdx']
  · rw [e1, map_eraseIdx']; exact h.nd.sublist (List.eraseIdx_sublist _ _)
  · rw [e1] at he; exact h.lt e ((List.eraseIdx_sublist _ _).subset he)
  · exact h.ok x ((List.eraseIdx_sublist _ _).subset hx)
/-- A key is laid, new or once more. -/
theorem wp_put_gm (hk : KeyK P k enc ok) {x y z : Operand} {n : κ} {v : Value} (hn : ok n) (ht : P.underlying t = some (.map k e)) (hM : ObjAt w r (.map es clock)) (h : GmE enc ok es clock l)
    (ho : o.op = .mapUpdate t x y z) (hx : a.eval x = .map (some r)) (hy : a.eval y = enc n) (hz : a.eval z = v)
    (hK : ∀ w' es' clock', ObjAt w' r (.map es' clock') → GmE enc ok es' clock' (gmPut l n v) → Upd r w w' → K (a.put o.dst undef) w') : o.wp P a w K Q := by
  unfold gmPut at hK
  unfold Oper.wp execOp
  simp only [ho, hx, hy, hz, Instr.mapUpdate, Sem.run_bind, Sem.run_pure, run_underlying ht, Result.andThen_ok, run_getObj_im hM, hk.check _ _ _ hn, run_findKey_gm hk h hn]
  cases hf : gmFind l n 0 with
  | none =>
    rw [hf] at hK
    simp only [run_setObj_im hM]
    exact hK _ _ _ (upd_setObj hM _).2 (h.push hn v) (upd_setObj hM _).1
  | some p =>
    obtain ⟨i, u⟩ := p
    rw [hf] at hK
    obtain ⟨_, hat⟩ := gmFind_at hf
    rw [Nat.sub_zero] at hat
    have hkey : (es[i]?.map (·.key)).getD (enc n) = enc n := by
      have e1 := congrArg (fun q => q[i]?) h.kv
      simp only [List.getElem?_map, hat, Option.map_some] at e1
      rw [← Array.getElem?_toList]
      cases hq : es.toList[i]? with
      | none => rfl
      | some q => rw [hq] at e1; simp only [Option.map_some, Option.some.injEq, Prod.mk.injEq] at e1; simp [e1.1]
    have hst : (Instr.keyThatStays ((es[i]?.map (·.key)).getD (enc n)) (enc n)).run P w = .ok (enc n) w := by
      rw [hkey]; unfold Instr.keyThatStays; rw [hk.bits _ hn]; simp
    simp only [Sem.run_bind, hst, Result.andThen_ok, run_setObj_im hM]
    exact hK _ _ _ (upd_setObj hM _).2 (h.over hn (by rw [hat]; rfl)) (upd_setObj hM _).1
theorem wp_del_gm (hk : KeyK P k enc ok) {x y : Operand} {n : κ} (hn : ok n) (ht : P.underlying t = some (.map k e)) (hM : ObjAt w r (.map es clock)) (h : GmE enc ok es clock l)
    (ho : o.op = .call { callee := .builtin .delete, args := #[x, y], argTypes := #[t, k] }) (hx : a.eval x = .map (some r)) (hy : a.eval y = enc n)
    (hK : ∀ w' es' clock', ObjAt w' r (.map es' clock') → GmE enc ok es' clock' (gmDel l n) → Upd r w w' → K (a.put o.dst (.tuple #[])) w') : o.wp P a w K Q := by
  unfold gmDel at hK
  have run : (Builtin.delete_ #[t, k] o.type #[.map (some r), enc n]).run P w = (match gmFind l n 0 with | some (i, _) => .ok (.tuple #[]) { w with heap := w.heap.setIfInBounds r (.map (es.eraseIdxIfInBounds i) clock) } | none => .ok (.tuple #[]) { w with heap := w.heap.setIfInBounds r (.map es clock) }) := by
    unfold Builtin.delete_
    simp only [List.getElem?_toArray, List.getElem?_cons_zero, List.getElem?_cons_succ, Sem.run_bind, run_underlying ht, Result.andThen_ok, run_getObj_im hM, hk.check _ _ _ hn, run_findKey_gm hk h hn]
    cases hf : gmFind l n 0 with
    | none => simp [run_setObj_im hM]
    | some p => simp [run_setObj_im hM]
  unfold Oper.wp execOp
  simp only [ho, resolve, invoke, builtin, Sem.run_bind, Sem.run_pure, Result.andThen_ok, List.map_toArray, List.map_cons, List.map_nil, hx, hy]
  rw [run]
  cases hf : gmFind l n 0 with
  | none => rw [hf] at hK; exact hK _ _ _ (upd_setObj hM _).2 h (upd_setObj hM _).1
  | some p => rw [hf] at hK; exact hK _ _ _ (upd_setObj hM _).2 (h.erase p.1) (upd_setObj hM _).1
/-- What a range has handed out, and what it has not. -/
structure ItG (enc : κ → Value) (es : Array MapEntry) (l : List (κ × Value)) (seen : Array Nat) (done rest : List (κ × Value)) : Prop where
  perm : (done ++ rest).Perm l
  left : (leftOf es seen).toList.map (fun e => (e.key, e.val)) = rest.map (fun x => (enc x.1, x.2))
/-- What was handed out last. -/
def CurG (enc : κ → Value) (es : Array MapEntry) (seen : Array Nat) (x : κ × Value) : Prop := ∃ e ∈ es.toList, ∃ s : Array Nat, seen = s.push e.born ∧ e.key = enc x.1 ∧ e.val = x.2
variable {it : Nat} {seen : Array Nat} {done rest : List (κ × Value)}
omit [DecidableEq κ] in
theorem ItG.start (h : GmE enc ok es clock l) : ItG enc es l #[] [] l := ⟨List.Perm.refl _, by rw [leftOf_nil]; exact h.kv⟩
omit [DecidableEq κ] in
theorem run_next_gm (ty : TypeId) (hM : ObjAt w r (.map es clock)) (hI : ObjAt w it (.mapIter (some r) clock seen clock)) (hE : GmE enc ok es clock l) :
    ((leftOf es seen).size = 0 ∧ (Instr.next (.pointer (some ⟨it, 0, none⟩)) false ty).run P w = .ok (.tuple #[.bool false]) w) ∨
    ∃ (j : Nat) (hj : j < (leftOf es seen).size) (w' : World), Upd it w w' ∧ ObjAt w' it (.mapIter (some r) clock (seen.push (leftOf es seen)[j].born) clock) ∧
      (Instr.next (.pointer (some ⟨it, 0, none⟩)) false ty).run P w = .ok (.tuple #[.bool true, (leftOf es seen)[j].key, (leftOf es seen)[j].val]) w' := by
  have hb : w.heap[r]? = some (.map es clock) := hM
  have hi : w.heap[it]? = some (.mapIter (some r) clock seen clock) := hI
  simp only [Instr.next, getObj, Sem.run_bind, Sem.run, hi, hb, Result.andThen, next_test_false seen es clock clock hE.lt (Nat.le_refl _), Bool.false_eq_true, if_false]
  have hmem : ∀ x ∈ (leftOf es seen).toList, x.born < clock := fun x hx => hE.lt x (mem_left hx).1
  have e0 : (Array.filter (fun e => !seen.contains e.born) es) = leftOf es seen := rfl
  rw [e0]
  generalize leftOf es seen = L at hmem ⊢
  have e1 : L.filter (fun x => decide (x.born < clock)) = L := Array.filter_eq_self.2 (fun x hx => by simpa using hmem x (by simpa using hx))
  have e2 : L.filter (fun x => decide (x.born ≥ clock)) = #[] := by
    rw [Array.filter_eq_empty_iff]
    intro x hx
    have := hmem x (by simpa using hx)
    simp; omega
  simp only [e1, e2, Array.append_empty]
  by_cases h0 : L.size = 0
  · left
    have : L = #[] := Array.eq_empty_of_size_eq_zero h0
    subst this
    refine ⟨rfl, ?_⟩
    simp [choose, Sem.run, Question.forced]
  · right
    have hne : L.isEmpty = false := by simp [Array.isEmpty, h0]
    simp only [hne, Bool.false_eq_true, if_false, Array.empty_append, Array.size_map]
    have hch : ∃ (j : Nat) (w1 : World), j < L.size ∧ w1.os = w.os ∧ w1.tape = w.tape ∧ w1.output = w.output ∧ w1.heap = w.heap ∧ (choose (Question.mapNext L.size)).run P w = .ok j w1 := by
      by_cases hf : L.size ≤ 1
      · exact ⟨0, w, by omega, rfl, rfl, rfl, rfl, by simp [choose, Sem.run, Question.forced, hf]⟩
      · exact ⟨_, w.drew, Nat.mod_lt _ (by omega), rfl, rfl, rfl, rfl, by
          simp only [choose, Sem.run, Question.forced, decide_eq_true_eq, hf, if_false, Question.cut]
          rfl⟩
    obtain ⟨j, w1, hj, h1, h2, h3, h4, hrun⟩ := hch
    have hi1 : w1.heap[it]? = some (.mapIter (some r) clock seen clock) := by rw [h4]; exact hi
    have hset : ∀ o' : Obj, (setObj it o').run P w1 = .ok () { w1 with heap := w1.heap.setIfInBounds it o' } := fun o' => by simp [setObj, Sem.run, hi1]
    have hlt : it < w1.heap.size := (Array.getElem?_eq_some_iff.1 hi1).1
    refine ⟨j, hj, { w1 with heap := w1.heap.setIfInBounds it (.mapIter (some r) clock (seen.push L[j].born) clock) }, ⟨h1, h2, h3, by simp [h4], fun k hk => by simp [Ne.symm hk, h4]⟩, by simp [ObjAt, hlt], ?_⟩
    simp only [hrun, Array.getElem?_map, Array.getElem?_eq_getElem hj, Option.map_some, Sem.run_bind, hset, Result.andThen]
    rfl
omit [DecidableEq κ] in
theorem leftOf_pushG (hE : GmE enc ok es clock l) (j : Nat) (hj : j < (leftOf es seen).size) : (leftOf es (seen.push (leftOf es seen)[j].born)).toList = (leftOf es seen).toList.eraseIdx j := by
  have hn : ((leftOf es seen).toList.map (·.born)).Nodup := by
    unfold leftOf
    rw [Array.toList_filter]
    exact (List.Sublist.map _ (List.filter_sublist)).nodup hE.nd
  rw [← filter_drop_one (·.born) (leftOf es seen).toList j (by simpa using hj) hn]
  have : leftOf es (seen.push (leftOf es seen)[j].born) = (leftOf es seen).filter (fun x => !(x.born == (leftOf es seen)[j].born)) := by
    generalize (leftOf es seen)[j].born = b
    unfold leftOf
    rw [Array.filter_filter]
    congr 1
    funext x
    rw [contains_push]
    cases seen.contains x.born <;> cases (x.born == b) <;> rfl
  rw [this, Array.toList_filter]
  simp
omit [DecidableEq κ] in
theorem wp_next_gm {x : Operand} (hM : ObjAt w r (.map es clock)) (hI : ObjAt w it (.mapIter (some r) clock seen clock)) (hE : GmE enc ok es clock l) (hR : ItG enc es l seen done rest)
    (ho : o.op = .next x false) (hx : a.eval x = .pointer (some ⟨it, 0, none⟩))
    (h0 : rest = [] → K (a.put o.dst (.tuple #[.bool false])) w)
    (h1 : ∀ y rest' seen' w', rest.Perm (y :: rest') → rest'.length < rest.length → ItG enc es l seen' (done ++ [y]) rest' → CurG enc es seen' y → ObjAt w' it (.mapIter (some r) clock seen' clock) → Upd it w w' → K (a.put o.dst (.tuple #[.bool true, enc y.1, y.2])) w') : o.wp P a w K Q := by
  have hlen : (leftOf es seen).size = rest.length := by
    have := congrArg List.length hR.left
    simpa using this
  unfold Oper.wp execOp
  simp only [ho, hx]
  rcases run_next_gm (P := P) o.type hM hI hE with ⟨q0, q1⟩ | ⟨j, hj, w', q1, q2, q3⟩
  · simp only [Sem.run_bind, q1, Result.andThen_ok]
    exact h0 (List.length_eq_zero_iff.1 (by omega))
  · simp only [Sem.run_bind, q3, Result.andThen_ok]
    have hjr : j < rest.length := by omega
    have hel := congrArg (fun z => z[j]?) hR.left
    simp only [List.getElem?_map] at hel
    rw [List.getElem?_eq_getElem (by simpa using hj), List.getElem?_eq_getElem hjr] at hel
    simp only [Option.map_some, Option.some.injEq, Prod.mk.injEq, Array.getElem_toList] at hel
    rw [hel.1, hel.2]
    have hp := perm_erase rest j hjr
    refine h1 rest[j] (rest.eraseIdx j) _ w' hp (by rw [List.length_eraseIdx_of_lt hjr]; omega) ⟨?_, ?_⟩ ⟨(leftOf es seen)[j], (mem_left (seen := seen) (by simp)).1, seen, rfl, hel.1, hel.2⟩ q2 q1
    · rw [List.append_assoc]
      exact (List.Perm.append_left done hp.symm).trans hR.perm
    · rw [leftOf_pushG hE j hj, map_eraseIdx', hR.left, map_eraseIdx']
omit [DecidableEq κ] in
theorem wp_entry_gm {x : Operand} {y : κ × Value} (hM : ObjAt w r (.map es clock)) (hI : ObjAt w it (.mapIter (some r) clock seen clock)) (hE : GmE enc ok es clock l) (hC : CurG enc es seen y)
    (ho : o.op = .entry x) (hx : a.eval x = .pointer (some ⟨it, 0, none⟩)) (hK : K (a.put o.dst (.tuple #[enc y.1, y.2])) w) : o.wp P a w K Q := by
  have hb : w.heap[r]? = some (.map es clock) := hM
  have hi : w.heap[it]? = some (.mapIter (some r) clock seen clock) := hI
  obtain ⟨e, he, s, rfl, h1, h2⟩ := hC
  have hf : es.find? (·.born == e.born) = some e := by rw [← Array.find?_toList]; exact find_born e es.toList hE.nd he
  have run : (Instr.entry (.pointer (some ⟨it, 0, none⟩))).run P w = .ok (.tuple #[e.key, e.val]) w := by
    simp only [Instr.entry, getObj, Sem.run_bind, Sem.run, hi, hb, Result.andThen, Array.back?_push, bne_self_eq_false, Bool.false_eq_true, if_false, hf]
    rfl
  unfold Oper.wp execOp
  simp only [ho, hx]
  simp only [Sem.run_bind, run, Result.andThen_ok, h1, h2]
  exact hK
end
end Go.Proofs.Ytibncmnmjhimeaa

namespace Go.Proofs.Ytibncmnmjhimeaa
open Go.RowKit Go
set_option linter.unusedVariables false
set_option linter.unusedSimpArgs false
set_option maxRecDepth 100000
theorem build_48_0 {w : World} {a : Act} {K : Act → World → Prop} {Q : Exit → Act → World → Prop} {o : Oper} {x0 : Operand} {c0 : Option Nat} (ho : o.op = .build 48 #[(0, x0)]) (h0 : a.eval x0 = .map c0) (hK : K (a.put o.dst (.agg #[.map c0, .int .i64 0])) w) : o.wp Try.prog a w K Q := by
  unfold Oper.wp execOp
  simp only [ho, List.map_toArray, List.map_cons, List.map_nil, h0]
  go_simp
  exact hK
theorem box_48 {w : World} {a : Act} {K : Act → World → Prop} {Q : Exit → Act → World → Prop} {o : Oper} {x : Operand} {c0 c1 : Value} (ho : o.op = .box 48 x) (hx : a.eval x = .agg #[c0, c1]) (hK : K (a.put o.dst (.pointer (some ⟨w.heap.size, 0, none⟩))) (w.alloc (.cells #[c0, c1] 48))) : o.wp Try.prog a w K Q := by
  unfold Oper.wp execOp
  simp only [ho, hx]
  go_simp
  exact hK
theorem alloc_72 {w : World} {a : Act} {K : Act → World → Prop} {Q : Exit → Act → World → Prop} {o : Oper} (ho : o.op = .alloc 72) (hK : K (a.put o.dst (.pointer (some ⟨w.heap.size, 0, none⟩))) (w.alloc (.cells #[.slice none 0 0, .slice none 0 0, .slice none 0 0, .slice none 0 0, .slice none 0 0, .slice none 0 0, .slice none 0 0, .slice none 0 0] 72))) : o.wp Try.prog a w K Q := by
  unfold Oper.wp execOp
  simp only [ho]
  go_simp
  exact hK
theorem row_71_0 {w : World} {a : Act} {K : Act → World → Prop} {Q : Exit → Act → World → Prop} {o : Oper}   (ho : o.op = .buildSlice 71 0 #[])  (hK : K (a.put o.dst (.slice (some ⟨w.heap.size, 0, none⟩) 0 0)) (w.alloc (.cells #[] 3))) : o.wp Try.prog a w K Q := by
  unfold Oper.wp execOp
  simp only [ho, List.map_toArray, List.map_cons, List.map_nil, ]
  go_simp
  exact hK
theorem row_71_1 {w : World} {a : Act} {K : Act → World → Prop} {Q : Exit → Act → World → Prop} {o : Oper} {x0 : Operand} {c0 : Int} (ho : o.op = .buildSlice 71 1 #[(0, x0)]) (h0 : a.eval x0 = .int .i64 c0) (hK : K (a.put o.dst (.slice (some ⟨w.heap.size, 0, none⟩) 1 1)) (w.alloc (.cells #[.int .i64 c0] 3))) : o.wp Try.prog a w K Q := by
  unfold Oper.wp execOp
  simp only [ho, List.map_toArray, List.map_cons, List.map_nil, h0]
  go_simp
  exact hK
theorem row_71_2 {w : World} {a : Act} {K : Act → World → Prop} {Q : Exit → Act → World → Prop} {o : Oper} {x0 x1 : Operand} {c0 : Int} {c1 : Int} (ho : o.op = .buildSlice 71 2 #[(0, x0), (1, x1)]) (h0 : a.eval x0 = .int .i64 c0) (h1 : a.eval x1 = .int .i64 c1) (hK : K (a.put o.dst (.slice (some ⟨w.heap.size, 0, none⟩) 2 2)) (w.alloc (.cells #[.int .i64 c0, .int .i64 c1] 3))) : o.wp Try.prog a w K Q := by
  unfold Oper.wp execOp
  simp only [ho, List.map_toArray, List.map_cons, List.map_nil, h0, h1]
  go_simp
  exact hK
theorem build_72_0_1_2_3_4_5_6_7 {w : World} {a : Act} {K : Act → World → Prop} {Q : Exit → Act → World → Prop} {o : Oper} {x0 x1 x2 x3 x4 x5 x6 x7 : Operand} {c0a : Option Addr} {c0n c0c : Nat} {c1a : Option Addr} {c1n c1c : Nat} {c2a : Option Addr} {c2n c2c : Nat} {c3a : Option Addr} {c3n c3c : Nat} {c4a : Option Addr} {c4n c4c : Nat} {c5a : Option Addr} {c5n c5c : Nat} {c6a : Option Addr} {c6n c6c : Nat} {c7a : Option Addr} {c7n c7c : Nat} (ho : o.op = .build 72 #[(0, x0), (1, x1), (2, x2), (3, x3), (4, x4), (5, x5), (6, x6), (7, x7)]) (h0 : a.eval x0 = .slice c0a c0n c0c) (h1 : a.eval x1 = .slice c1a c1n c1c) (h2 : a.eval x2 = .slice c2a c2n c2c) (h3 : a.eval x3 = .slice c3a c3n c3c) (h4 : a.eval x4 = .slice c4a c4n c4c) (h5 : a.eval x5 = .slice c5a c5n c5c) (h6 : a.eval x6 = .slice c6a c6n c6c) (h7 : a.eval x7 = .slice c7a c7n c7c) (hK : K (a.put o.dst (.agg #[.slice c0a c0n c0c, .slice c1a c1n c1c, .slice c2a c2n c2c, .slice c3a c3n c3c, .slice c4a c4n c4c, .slice c5a c5n c5c, .slice c6a c6n c6c, .slice c7a c7n c7c])) w) : o.wp Try.prog a w K Q := by
  unfold Oper.wp execOp
  simp only [ho, List.map_toArray, List.map_cons, List.map_nil, h0, h1, h2, h3, h4, h5, h6, h7]
  go_simp
  exact hK
theorem st_72 {w : World} {a : Act} {K : Act → World → Prop} {Q : Exit → Act → World → Prop} {o : Oper} {x y : Operand} {g p : Nat} {ty : TypeId} {cs : Array Value} {c0 c1 c2 c3 c4 c5 c6 c7 : Value} (ho : o.op = .store 72 x y) (hx : a.eval x = .pointer (some ⟨g, p, none⟩)) (hy : a.eval y = .agg #[c0, c1, c2, c3, c4, c5, c6, c7]) (k0 : c0.oneCell' = true) (k1 : c1.oneCell' = true) (k2 : c2.oneCell' = true) (k3 : c3.oneCell' = true) (k4 : c4.oneCell' = true) (k5 : c5.oneCell' = true) (k6 : c6.oneCell' = true) (k7 : c7.oneCell' = true) (hB : Blk w g ty cs) (hp : p + 7 < cs.size) (hK : ∀ v, K (a.put o.dst v) ((((((((w.setCell ⟨g, p, none⟩ c0).setCell ⟨g, p + 1, none⟩ c1).setCell ⟨g, p + 2, none⟩ c2).setCell ⟨g, p + 3, none⟩ c3).setCell ⟨g, p + 4, none⟩ c4).setCell ⟨g, p + 5, none⟩ c5).setCell ⟨g, p + 6, none⟩ c6).setCell ⟨g, p + 7, none⟩ c7)) : o.wp Try.prog a w K Q := by
  have h0 := (hB.cell (p)).trans (Array.getElem?_eq_getElem (by first | omega | (simp; omega)))
  have f0 := hB.frozen (p)
  have hB := hB.set_ (p) c0
  have h1 := (hB.cell (p + 1)).trans (Array.getElem?_eq_getElem (by first | omega | (simp; omega)))
  have f1 := hB.frozen (p + 1)
  have hB := hB.set_ (p + 1) c1
  have h2 := (hB.cell (p + 2)).trans (Array.getElem?_eq_getElem (by first | omega | (simp; omega)))
  have f2 := hB.frozen (p + 2)
  have hB := hB.set_ (p + 2) c2
  have h3 := (hB.cell (p + 3)).trans (Array.getElem?_eq_getElem (by first | omega | (simp; omega)))
  have f3 := hB.frozen (p + 3)
  have hB := hB.set_ (p + 3) c3
  have h4 := (hB.cell (p + 4)).trans (Array.getElem?_eq_getElem (by first | omega | (simp; omega)))
  have f4 := hB.frozen (p + 4)
  have hB := hB.set_ (p + 4) c4
  have h5 := (hB.cell (p + 5)).trans (Array.getElem?_eq_getElem (by first | omega | (simp; omega)))
  have f5 := hB.frozen (p + 5)
  have hB := hB.set_ (p + 5) c5
  have h6 := (hB.cell (p + 6)).trans (Array.getElem?_eq_getElem (by first | omega | (simp; omega)))
  have f6 := hB.frozen (p + 6)
  have hB := hB.set_ (p + 6) c6
  have h7 := (hB.cell (p + 7)).trans (Array.getElem?_eq_getElem (by first | omega | (simp; omega)))
  have f7 := hB.frozen (p + 7)
  have s0 := fun w a m => run_store Try.prog w a c0 m k0
  have s1 := fun w a m => run_store Try.prog w a c1 m k1
  have s2 := fun w a m => run_store Try.prog w a c2 m k2
  have s3 := fun w a m => run_store Try.prog w a c3 m k3
  have s4 := fun w a m => run_store Try.prog w a c4 m k4
  have s5 := fun w a m => run_store Try.prog w a c5 m k5
  have s6 := fun w a m => run_store Try.prog w a c6 m k6
  have s7 := fun w a m => run_store Try.prog w a c7 m k7
  clear hB
  unfold Oper.wp execOp
  simp only [ho, hx, hy]
  go_simp
  exact hK _
theorem box_24 {w : World} {a : Act} {K : Act → World → Prop} {Q : Exit → Act → World → Prop} {o : Oper} {x : Operand} {c0 c1 : Value} (ho : o.op = .box 24 x) (hx : a.eval x = .agg #[c0, c1]) (hK : K (a.put o.dst (.pointer (some ⟨w.heap.size, 0, none⟩))) (w.alloc (.cells #[c0, c1] 24))) : o.wp Try.prog a w K Q := by
  unfold Oper.wp execOp
  simp only [ho, hx]
  go_simp
  exact hK
theorem len_71 {w : World} {a : Act} {K : Act → World → Prop} {Q : Exit → Act → World → Prop} {o : Oper} {x : Operand} {r : Option Addr} {n c : Nat} (ho : o.op = .call { callee := .builtin .len, args := #[x], argTypes := #[71] }) (hx : a.eval x = .slice r n c) (hK : K (a.put o.dst (.int .i64 n)) w) : o.wp Try.prog a w K Q := by
  unfold Oper.wp execOp
  simp only [ho, resolve, List.map_toArray, List.map_cons, List.map_nil, hx]
  go_simp
  exact hK
theorem lss_3 {w : World} {a : Act} {K : Act → World → Prop} {Q : Exit → Act → World → Prop} {o : Oper} {x y : Operand} {m n : Int} (ho : o.op = .binOp .lss 3 x y 3) (hx : a.eval x = .int .i64 m) (hy : a.eval y = .int .i64 n) (hK : K (a.put o.dst (.bool (decide (m < n)))) w) : o.wp Try.prog a w K Q := by
  unfold Oper.wp execOp
  simp only [ho, hx, hy]
  go_simp
  exact hK
theorem ix_71 {w : World} {a : Act} {K : Act → World → Prop} {Q : Exit → Act → World → Prop} {o : Oper} {x y : Operand} {r : Option Addr} {b p n c k : Nat} (ho : o.op = .indexAddr 71 x y) (hx : a.eval x = .slice r n c) (hr : r = some ⟨b, p, none⟩) (hy : a.eval y = .int .i64 (k : Int)) (hk : k < n) (hK : K (a.put o.dst (.pointer (some ⟨b, p + k, none⟩))) w) : o.wp Try.prog a w K Q := by
  subst hr
  have h0 : (0 : Int) ≤ (k : Int) := by omega
  have h1 : (k : Int) < (n : Int) := by omega
  unfold Oper.wp execOp
  simp only [ho, hx, hy]
  go_simp
  exact hK
theorem ld_3 {w : World} {a : Act} {K : Act → World → Prop} {Q : Exit → Act → World → Prop} {o : Oper} {x : Operand} {p : Addr} {v : Value} (ho : o.op = .load 3 x) (hx : a.eval x = .pointer (some p)) (hc : w.cell? p = some v) (hK : K (a.put o.dst (v)) w) : o.wp Try.prog a w K Q := by
  unfold Oper.wp execOp
  simp only [ho, hx]
  go_simp
  exact hK
theorem fld_24_0 {w : World} {a : Act} {K : Act → World → Prop} {Q : Exit → Act → World → Prop} {o : Oper} {x : Operand} {b p : Nat} (ho : o.op = .fieldAddr 24 x 0) (hx : a.eval x = .pointer (some ⟨b, p, none⟩)) (hK : K (a.put o.dst (.pointer (some ⟨b, p, none⟩))) w) : o.wp Try.prog a w K Q := by
  unfold Oper.wp execOp
  simp only [ho, hx]
  go_simp
  exact hK
theorem fld_24_1 {w : World} {a : Act} {K : Act → World → Prop} {Q : Exit → Act → World → Prop} {o : Oper} {x : Operand} {b p : Nat} (ho : o.op = .fieldAddr 24 x 1) (hx : a.eval x = .pointer (some ⟨b, p, none⟩)) (hK : K (a.put o.dst (.pointer (some ⟨b, p + 1, none⟩))) w) : o.wp Try.prog a w K Q := by
  unfold Oper.wp execOp
  simp only [ho, hx]
  go_simp
  exact hK
theorem ld_22 {w : World} {a : Act} {K : Act → World → Prop} {Q : Exit → Act → World → Prop} {o : Oper} {x : Operand} {p : Addr} {v : Value} (ho : o.op = .load 22 x) (hx : a.eval x = .pointer (some p)) (hc : w.cell? p = some v) (hK : K (a.put o.dst (v)) w) : o.wp Try.prog a w K Q := by
  unfold Oper.wp execOp
  simp only [ho, hx]
  go_simp
  exact hK
theorem len_22 {w : World} {a : Act} {K : Act → World → Prop} {Q : Exit → Act → World → Prop} {o : Oper} {x : Operand} {r : Option Addr} {n c : Nat} (ho : o.op = .call { callee := .builtin .len, args := #[x], argTypes := #[22] }) (hx : a.eval x = .slice r n c) (hK : K (a.put o.dst (.int .i64 n)) w) : o.wp Try.prog a w K Q := by
  unfold Oper.wp execOp
  simp only [ho, resolve, List.map_toArray, List.map_cons, List.map_nil, hx]
  go_simp
  exact hK
theorem geq_3 {w : World} {a : Act} {K : Act → World → Prop} {Q : Exit → Act → World → Prop} {o : Oper} {x y : Operand} {m n : Int} (ho : o.op = .binOp .geq 3 x y 3) (hx : a.eval x = .int .i64 m) (hy : a.eval y = .int .i64 n) (hK : K (a.put o.dst (.bool (decide (n ≤ m)))) w) : o.wp Try.prog a w K Q := by
  unfold Oper.wp execOp
  simp only [ho, hx, hy]
  go_simp
  exact hK
theorem ix_22 {w : World} {a : Act} {K : Act → World → Prop} {Q : Exit → Act → World → Prop} {o : Oper} {x y : Operand} {r : Option Addr} {b p n c k : Nat} (ho : o.op = .indexAddr 22 x y) (hx : a.eval x = .slice r n c) (hr : r = some ⟨b, p, none⟩) (hy : a.eval y = .int .i64 (k : Int)) (hk : k < n) (hK : K (a.put o.dst (.pointer (some ⟨b, p + k * 2, none⟩))) w) : o.wp Try.prog a w K Q := by
  subst hr
  have h0 : (0 : Int) ≤ (k : Int) := by omega
  have h1 : (k : Int) < (n : Int) := by omega
  unfold Oper.wp execOp
  simp only [ho, hx, hy]
  go_simp
  exact hK
theorem ld_24 {w : World} {a : Act} {K : Act → World → Prop} {Q : Exit → Act → World → Prop} {o : Oper} {x : Operand} {b p : Nat} {c0 c1 : Value} (ho : o.op = .load 24 x) (hx : a.eval x = .pointer (some ⟨b, p, none⟩)) (h0 : w.cell? ⟨b, p, none⟩ = some c0) (h1 : w.cell? ⟨b, p + 1, none⟩ = some c1) (hK : K (a.put o.dst (.agg #[c0, c1])) w) : o.wp Try.prog a w K Q := by
  unfold Oper.wp execOp
  simp only [ho, hx]
  go_simp
  exact hK
theorem st_24 {w : World} {a : Act} {K : Act → World → Prop} {Q : Exit → Act → World → Prop} {o : Oper} {x y : Operand} {g p : Nat} {ty : TypeId} {cs : Array Value} {c0 c1 : Value} (ho : o.op = .store 24 x y) (hx : a.eval x = .pointer (some ⟨g, p, none⟩)) (hy : a.eval y = .agg #[c0, c1]) (k0 : c0.oneCell' = true) (k1 : c1.oneCell' = true) (hB : Blk w g ty cs) (hp : p + 1 < cs.size) (hK : ∀ v, K (a.put o.dst v) ((w.setCell ⟨g, p, none⟩ c0).setCell ⟨g, p + 1, none⟩ c1)) : o.wp Try.prog a w K Q := by
  have h0 := (hB.cell (p)).trans (Array.getElem?_eq_getElem (by first | omega | (simp; omega)))
  have f0 := hB.frozen (p)
  have hB := hB.set_ (p) c0
  have h1 := (hB.cell (p + 1)).trans (Array.getElem?_eq_getElem (by first | omega | (simp; omega)))
  have f1 := hB.frozen (p + 1)
  have s0 := fun w a m => run_store Try.prog w a c0 m k0
  have s1 := fun w a m => run_store Try.prog w a c1 m k1
  clear hB
  unfold Oper.wp execOp
  simp only [ho, hx, hy]
  go_simp
  exact hK _
theorem addb_3 {w : World} {a : Act} {K : Act → World → Prop} {Q : Exit → Act → World → Prop} {o : Oper} {x y : Operand} {m n r : Int} (ho : o.op = .binOp .add 3 x y 3) (hx : a.eval x = .int .i64 m) (hy : a.eval y = .int .i64 n) (hr : IntKind.i64.wrap (m + n) = r) (hK : K (a.put o.dst (.int .i64 r)) w) : o.wp Try.prog a w K Q := by
  subst hr
  unfold Oper.wp execOp
  simp only [ho, hx, hy]
  go_simp
  exact hK
theorem max_3 {w : World} {a : Act} {K : Act → World → Prop} {Q : Exit → Act → World → Prop} {o : Oper} {x y : Operand} {m n : Int} (ho : o.op = .call { callee := .builtin .max, args := #[x, y], argTypes := #[3, 3] }) (hx : a.eval x = .int .i64 m) (hy : a.eval y = .int .i64 n) (hK : K (a.put o.dst (.int .i64 (max m n))) w) : o.wp Try.prog a w K Q := by
  unfold Oper.wp execOp
  simp only [ho, resolve, List.map_toArray, List.map_cons, List.map_nil, hx, hy]
  go_simp
  first
    | exact hK
    | (have e : max m n = (if m < n then n else m) := by split <;> omega
       rw [e] at hK
       exact hK)
theorem alloc_50 {w : World} {a : Act} {K : Act → World → Prop} {Q : Exit → Act → World → Prop} {o : Oper} (ho : o.op = .alloc 50) (hK : K (a.put o.dst (.pointer (some ⟨w.heap.size, 0, none⟩))) (w.alloc (.cells #[.int .i64 0, .int .i64 0, .int .i64 0, .int .i64 0, .int .i64 0, .int .i64 0, .int .i64 0, .int .i64 0] 50))) : o.wp Try.prog a w K Q := by
  unfold Oper.wp execOp
  simp only [ho]
  go_simp
  exact hK
theorem axc_72_0 {w : World} {a : Act} {K : Act → World → Prop} {Q : Exit → Act → World → Prop} {o : Oper} {x y : Operand} {c0a : Option Addr} {c0n c0c : Nat} {c1a : Option Addr} {c1n c1c : Nat} {c2a : Option Addr} {c2n c2c : Nat} {c3a : Option Addr} {c3n c3c : Nat} {c4a : Option Addr} {c4n c4c : Nat} {c5a : Option Addr} {c5n c5c : Nat} {c6a : Option Addr} {c6n c6c : Nat} {c7a : Option Addr} {c7n c7c : Nat} (ho : o.op = .index 72 x y) (hx : a.eval x = .agg #[.slice c0a c0n c0c, .slice c1a c1n c1c, .slice c2a c2n c2c, .slice c3a c3n c3c, .slice c4a c4n c4c, .slice c5a c5n c5c, .slice c6a c6n c6c, .slice c7a c7n c7c]) (hy : a.eval y = .int .i64 0) (hK : K (a.put o.dst (.slice c0a c0n c0c)) w) : o.wp Try.prog a w K Q := by
  unfold Oper.wp execOp
  simp only [ho, hx, hy]
  go_simp
  exact hK
theorem axc_72_1 {w : World} {a : Act} {K : Act → World → Prop} {Q : Exit → Act → World → Prop} {o : Oper} {x y : Operand} {c0a : Option Addr} {c0n c0c : Nat} {c1a : Option Addr} {c1n c1c : Nat} {c2a : Option Addr} {c2n c2c : Nat} {c3a : Option Addr} {c3n c3c : Nat} {c4a : Option Addr} {c4n c4c : Nat} {c5a : Option Addr} {c5n c5c : Nat} {c6a : Option Addr} {c6n c6c : Nat} {c7a : Option Addr} {c7n c7c : Nat} (ho : o.op = .index 72 x y) (hx : a.eval x = .agg #[.slice c0a c0n c0c, .slice c1a c1n c1c, .slice c2a c2n c2c, .slice c3a c3n c3c, .slice c4a c4n c4c, .slice c5a c5n c5c, .slice c6a c6n c6c, .slice c7a c7n c7c]) (hy : a.eval y = .int .i64 1) (hK : K (a.put o.dst (.slice c1a c1n c1c)) w) : o.wp Try.prog a w K Q := by
  unfold Oper.wp execOp
  simp only [ho, hx, hy]
  go_simp
  exact hK
theorem axc_72_2 {w : World} {a : Act} {K : Act → World → Prop} {Q : Exit → Act → World → Prop} {o : Oper} {x y : Operand} {c0a : Option Addr} {c0n c0c : Nat} {c1a : Option Addr} {c1n c1c : Nat} {c2a : Option Addr} {c2n c2c : Nat} {c3a : Option Addr} {c3n c3c : Nat} {c4a : Option Addr} {c4n c4c : Nat} {c5a : Option Addr} {c5n c5c : Nat} {c6a : Option Addr} {c6n c6c : Nat} {c7a : Option Addr} {c7n c7c : Nat} (ho : o.op = .index 72 x y) (hx : a.eval x = .agg #[.slice c0a c0n c0c, .slice c1a c1n c1c, .slice c2a c2n c2c, .slice c3a c3n c3c, .slice c4a c4n c4c, .slice c5a c5n c5c, .slice c6a c6n c6c, .slice c7a c7n c7c]) (hy : a.eval y = .int .i64 2) (hK : K (a.put o.dst (.slice c2a c2n c2c)) w) : o.wp Try.prog a w K Q := by
  unfold Oper.wp execOp
  simp only [ho, hx, hy]
  go_simp
  exact hK
theorem axc_72_3 {w : World} {a : Act} {K : Act → World → Prop} {Q : Exit → Act → World → Prop} {o : Oper} {x y : Operand} {c0a : Option Addr} {c0n c0c : Nat} {c1a : Option Addr} {c1n c1c : Nat} {c2a : Option Addr} {c2n c2c : Nat} {c3a : Option Addr} {c3n c3c : Nat} {c4a : Option Addr} {c4n c4c : Nat} {c5a : Option Addr} {c5n c5c : Nat} {c6a : Option Addr} {c6n c6c : Nat} {c7a : Option Addr} {c7n c7c : Nat} (ho : o.op = .index 72 x y) (hx : a.eval x = .agg #[.slice c0a c0n c0c, .slice c1a c1n c1c, .slice c2a c2n c2c, .slice c3a c3n c3c, .slice c4a c4n c4c, .slice c5a c5n c5c, .slice c6a c6n c6c, .slice c7a c7n c7c]) (hy : a.eval y = .int .i64 3) (hK : K (a.put o.dst (.slice c3a c3n c3c)) w) : o.wp Try.prog a w K Q := by
  unfold Oper.wp execOp
  simp only [ho, hx, hy]
  go_simp
  exact hK
theorem axc_72_4 {w : World} {a : Act} {K : Act → World → Prop} {Q : Exit → Act → World → Prop} {o : Oper} {x y : Operand} {c0a : Option Addr} {c0n c0c : Nat} {c1a : Option Addr} {c1n c1c : Nat} {c2a : Option Addr} {c2n c2c : Nat} {c3a : Option Addr} {c3n c3c : Nat} {c4a : Option Addr} {c4n c4c : Nat} {c5a : Option Addr} {c5n c5c : Nat} {c6a : Option Addr} {c6n c6c : Nat} {c7a : Option Addr} {c7n c7c : Nat} (ho : o.op = .index 72 x y) (hx : a.eval x = .agg #[.slice c0a c0n c0c, .slice c1a c1n c1c, .slice c2a c2n c2c, .slice c3a c3n c3c, .slice c4a c4n c4c, .slice c5a c5n c5c, .slice c6a c6n c6c, .slice c7a c7n c7c]) (hy : a.eval y = .int .i64 4) (hK : K (a.put o.dst (.slice c4a c4n c4c)) w) : o.wp Try.prog a w K Q := by
  unfold Oper.wp execOp
  simp only [ho, hx, hy]
  go_simp
  exact hK
theorem axc_72_5 {w : World} {a : Act} {K : Act → World → Prop} {Q : Exit → Act → World → Prop} {o : Oper} {x y : Operand} {c0a : Option Addr} {c0n c0c : Nat} {c1a : Option Addr} {c1n c1c : Nat} {c2a : Option Addr} {c2n c2c : Nat} {c3a : Option Addr} {c3n c3c : Nat} {c4a : Option Addr} {c4n c4c : Nat} {c5a : Option Addr} {c5n c5c : Nat} {c6a : Option Addr} {c6n c6c : Nat} {c7a : Option Addr} {c7n c7c : Nat} (ho : o.op = .index 72 x y) (hx : a.eval x = .agg #[.slice c0a c0n c0c, .slice c1a c1n c1c, .slice c2a c2n c2c, .slice c3a c3n c3c, .slice c4a c4n c4c, .slice c5a c5n c5c, .slice c6a c6n c6c, .slice c7a c7n c7c]) (hy : a.eval y = .int .i64 5) (hK : K (a.put o.dst (.slice c5a c5n c5c)) w) : o.wp Try.prog a w K Q := by
  unfold Oper.wp execOp
  simp only [ho, hx, hy]
  go_simp
  exact hK
theorem axc_72_6 {w : World} {a : Act} {K : Act → World → Prop} {Q : Exit → Act → World → Prop} {o : Oper} {x y : Operand} {c0a : Option Addr} {c0n c0c : Nat} {c1a : Option Addr} {c1n c1c : Nat} {c2a : Option Addr} {c2n c2c : Nat} {c3a : Option Addr} {c3n c3c : Nat} {c4a : Option Addr} {c4n c4c : Nat} {c5a : Option Addr} {c5n c5c : Nat} {c6a : Option Addr} {c6n c6c : Nat} {c7a : Option Addr} {c7n c7c : Nat} (ho : o.op = .index 72 x y) (hx : a.eval x = .agg #[.slice c0a c0n c0c, .slice c1a c1n c1c, .slice c2a c2n c2c, .slice c3a c3n c3c, .slice c4a c4n c4c, .slice c5a c5n c5c, .slice c6a c6n c6c, .slice c7a c7n c7c]) (hy : a.eval y = .int .i64 6) (hK : K (a.put o.dst (.slice c6a c6n c6c)) w) : o.wp Try.prog a w K Q := by
  unfold Oper.wp execOp
  simp only [ho, hx, hy]
  go_simp
  exact hK
theorem axc_72_7 {w : World} {a : Act} {K : Act → World → Prop} {Q : Exit → Act → World → Prop} {o : Oper} {x y : Operand} {c0a : Option Addr} {c0n c0c : Nat} {c1a : Option Addr} {c1n c1c : Nat} {c2a : Option Addr} {c2n c2c : Nat} {c3a : Option Addr} {c3n c3c : Nat} {c4a : Option Addr} {c4n c4c : Nat} {c5a : Option Addr} {c5n c5c : Nat} {c6a : Option Addr} {c6n c6c : Nat} {c7a : Option Addr} {c7n c7c : Nat} (ho : o.op = .index 72 x y) (hx : a.eval x = .agg #[.slice c0a c0n c0c, .slice c1a c1n c1c, .slice c2a c2n c2c, .slice c3a c3n c3c, .slice c4a c4n c4c, .slice c5a c5n c5c, .slice c6a c6n c6c, .slice c7a c7n c7c]) (hy : a.eval y = .int .i64 7) (hK : K (a.put o.dst (.slice c7a c7n c7c)) w) : o.wp Try.prog a w K Q := by
  unfold Oper.wp execOp
  simp only [ho, hx, hy]
  go_simp
  exact hK
theorem ixa_50 {w : World} {a : Act} {K : Act → World → Prop} {Q : Exit → Act → World → Prop} {o : Oper} {x y : Operand} {b p k : Nat} (ho : o.op = .indexAddr 50 x y) (hx : a.eval x = .pointer (some ⟨b, p, none⟩)) (hy : a.eval y = .int .i64 (k : Int)) (hk : k < 8) (hK : K (a.put o.dst (.pointer (some ⟨b, p + k, none⟩))) w) : o.wp Try.prog a w K Q := by
  have h0 : (0 : Int) ≤ (k : Int) := by omega
  have h1 : (k : Int) < (8 : Int) := by omega
  unfold Oper.wp execOp
  simp only [ho, hx, hy]
  go_simp
  exact hK
theorem st_3 {w : World} {a : Act} {K : Act → World → Prop} {Q : Exit → Act → World → Prop} {o : Oper} {x y : Operand} {g p : Nat} {ty : TypeId} {cs : Array Value} {c0 : Int} (ho : o.op = .store 3 x y) (hx : a.eval x = .pointer (some ⟨g, p, none⟩)) (hy : a.eval y = .int .i64 c0) (hB : Blk w g ty cs) (hp : p + 0 < cs.size) (hK : ∀ v, K (a.put o.dst v) (w.setCell ⟨g, p, none⟩ (.int .i64 c0))) : o.wp Try.prog a w K Q := by
  have h0 := (hB.cell (p)).trans (Array.getElem?_eq_getElem (by first | omega | (simp; omega)))
  have f0 := hB.frozen (p)
  clear hB
  unfold Oper.wp execOp
  simp only [ho, hx, hy]
  go_simp
  exact hK _
theorem ld_50 {w : World} {a : Act} {K : Act → World → Prop} {Q : Exit → Act → World → Prop} {o : Oper} {x : Operand} {b p : Nat} {c0 c1 c2 c3 c4 c5 c6 c7 : Value} (ho : o.op = .load 50 x) (hx : a.eval x = .pointer (some ⟨b, p, none⟩)) (h0 : w.cell? ⟨b, p, none⟩ = some c0) (h1 : w.cell? ⟨b, p + 1, none⟩ = some c1) (h2 : w.cell? ⟨b, p + 2, none⟩ = some c2) (h3 : w.cell? ⟨b, p + 3, none⟩ = some c3) (h4 : w.cell? ⟨b, p + 4, none⟩ = some c4) (h5 : w.cell? ⟨b, p + 5, none⟩ = some c5) (h6 : w.cell? ⟨b, p + 6, none⟩ = some c6) (h7 : w.cell? ⟨b, p + 7, none⟩ = some c7) (hK : K (a.put o.dst (.agg #[c0, c1, c2, c3, c4, c5, c6, c7])) w) : o.wp Try.prog a w K Q := by
  unfold Oper.wp execOp
  simp only [ho, hx]
  go_simp
  exact hK
theorem st_50 {w : World} {a : Act} {K : Act → World → Prop} {Q : Exit → Act → World → Prop} {o : Oper} {x y : Operand} {g p : Nat} {ty : TypeId} {cs : Array Value} {c0 c1 c2 c3 c4 c5 c6 c7 : Value} (ho : o.op = .store 50 x y) (hx : a.eval x = .pointer (some ⟨g, p, none⟩)) (hy : a.eval y = .agg #[c0, c1, c2, c3, c4, c5, c6, c7]) (k0 : c0.oneCell' = true) (k1 : c1.oneCell' = true) (k2 : c2.oneCell' = true) (k3 : c3.oneCell' = true) (k4 : c4.oneCell' = true) (k5 : c5.oneCell' = true) (k6 : c6.oneCell' = true) (k7 : c7.oneCell' = true) (hB : Blk w g ty cs) (hp : p + 7 < cs.size) (hK : ∀ v, K (a.put o.dst v) ((((((((w.setCell ⟨g, p, none⟩ c0).setCell ⟨g, p + 1, none⟩ c1).setCell ⟨g, p + 2, none⟩ c2).setCell ⟨g, p + 3, none⟩ c3).setCell ⟨g, p + 4, none⟩ c4).setCell ⟨g, p + 5, none⟩ c5).setCell ⟨g, p + 6, none⟩ c6).setCell ⟨g, p + 7, none⟩ c7)) : o.wp Try.prog a w K Q := by
  have h0 := (hB.cell (p)).trans (Array.getElem?_eq_getElem (by first | omega | (simp; omega)))
  have f0 := hB.frozen (p)
  have hB := hB.set_ (p) c0
  have h1 := (hB.cell (p + 1)).trans (Array.getElem?_eq_getElem (by first | omega | (simp; omega)))
  have f1 := hB.frozen (p + 1)
  have hB := hB.set_ (p + 1) c1
  have h2 := (hB.cell (p + 2)).trans (Array.getElem?_eq_getElem (by first | omega | (simp; omega)))
  have f2 := hB.frozen (p + 2)
  have hB := hB.set_ (p + 2) c2
  have h3 := (hB.cell (p + 3)).trans (Array.getElem?_eq_getElem (by first | omega | (simp; omega)))
  have f3 := hB.frozen (p + 3)
  have hB := hB.set_ (p + 3) c3
  have h4 := (hB.cell (p + 4)).trans (Array.getElem?_eq_getElem (by first | omega | (simp; omega)))
  have f4 := hB.frozen (p + 4)
  have hB := hB.set_ (p + 4) c4
  have h5 := (hB.cell (p + 5)).trans (Array.getElem?_eq_getElem (by first | omega | (simp; omega)))
  have f5 := hB.frozen (p + 5)
  have hB := hB.set_ (p + 5) c5
  have h6 := (hB.cell (p + 6)).trans (Array.getElem?_eq_getElem (by first | omega | (simp; omega)))
  have f6 := hB.frozen (p + 6)
  have hB := hB.set_ (p + 6) c6
  have h7 := (hB.cell (p + 7)).trans (Array.getElem?_eq_getElem (by first | omega | (simp; omega)))
  have f7 := hB.frozen (p + 7)
  have s0 := fun w a m => run_store Try.prog w a c0 m k0
  have s1 := fun w a m => run_store Try.prog w a c1 m k1
  have s2 := fun w a m => run_store Try.prog w a c2 m k2
  have s3 := fun w a m => run_store Try.prog w a c3 m k3
  have s4 := fun w a m => run_store Try.prog w a c4 m k4
  have s5 := fun w a m => run_store Try.prog w a c5 m k5
  have s6 := fun w a m => run_store Try.prog w a c6 m k6
  have s7 := fun w a m => run_store Try.prog w a c7 m k7
  clear hB
  unfold Oper.wp execOp
  simp only [ho, hx, hy]
  go_simp
  exact hK _
theorem eql_3 {w : World} {a : Act} {K : Act → World → Prop} {Q : Exit → Act → World → Prop} {o : Oper} {x y : Operand} {m n : Int} (ho : o.op = .binOp .eql 3 x y 3) (hx : a.eval x = .int .i64 m) (hy : a.eval y = .int .i64 n) (hK : K (a.put o.dst (.bool (m == n))) w) : o.wp Try.prog a w K Q := by
  unfold Oper.wp execOp
  simp only [ho, hx, hy]
  go_simp
  exact hK
theorem alloc_24 {w : World} {a : Act} {K : Act → World → Prop} {Q : Exit → Act → World → Prop} {o : Oper} (ho : o.op = .alloc 24) (hK : K (a.put o.dst (.pointer (some ⟨w.heap.size, 0, none⟩))) (w.alloc (.cells #[.int .i64 0, .slice none 0 0] 24))) : o.wp Try.prog a w K Q := by
  unfold Oper.wp execOp
  simp only [ho]
  go_simp
  exact hK
theorem build_24_0 {w : World} {a : Act} {K : Act → World → Prop} {Q : Exit → Act → World → Prop} {o : Oper} {x0 : Operand} {c0 : Int} (ho : o.op = .build 24 #[(0, x0)]) (h0 : a.eval x0 = .int .i64 c0) (hK : K (a.put o.dst (.agg #[.int .i64 c0, .slice none 0 0])) w) : o.wp Try.prog a w K Q := by
  unfold Oper.wp execOp
  simp only [ho, List.map_toArray, List.map_cons, List.map_nil, h0]
  go_simp
  exact hK
theorem row_22_1 {w : World} {a : Act} {K : Act → World → Prop} {Q : Exit → Act → World → Prop} {o : Oper} {x0 : Operand} {c0 c1 : Value} (ho : o.op = .buildSlice 22 1 #[(0, x0)]) (h0 : a.eval x0 = .agg #[c0, c1]) (hK : K (a.put o.dst (.slice (some ⟨w.heap.size, 0, none⟩) 1 1)) (w.alloc (.cells #[c0, c1] 24))) : o.wp Try.prog a w K Q := by
  unfold Oper.wp execOp
  simp only [ho, List.map_toArray, List.map_cons, List.map_nil, h0]
  go_simp
  exact hK
theorem st_22 {w : World} {a : Act} {K : Act → World → Prop} {Q : Exit → Act → World → Prop} {o : Oper} {x y : Operand} {g p : Nat} {ty : TypeId} {cs : Array Value} {c0a : Option Addr} {c0n c0c : Nat} (ho : o.op = .store 22 x y) (hx : a.eval x = .pointer (some ⟨g, p, none⟩)) (hy : a.eval y = .slice c0a c0n c0c) (hB : Blk w g ty cs) (hp : p + 0 < cs.size) (hK : ∀ v, K (a.put o.dst v) (w.setCell ⟨g, p, none⟩ (.slice c0a c0n c0c))) : o.wp Try.prog a w K Q := by
  have h0 := (hB.cell (p)).trans (Array.getElem?_eq_getElem (by first | omega | (simp; omega)))
  have f0 := hB.frozen (p)
  clear hB
  unfold Oper.wp execOp
  simp only [ho, hx, hy]
  go_simp
  exact hK _
theorem neqp_27 {w : World} {a : Act} {K : Act → World → Prop} {Q : Exit → Act → World → Prop} {o : Oper} {x y : Operand} {p : Addr} (ho : o.op = .binOp .neq 27 x y 27) (hx : a.eval x = .pointer (some p)) (hy : a.eval y = .pointer none) (hK : K (a.put o.dst (.bool true)) w) : o.wp Try.prog a w K Q := by
  unfold Oper.wp execOp
  simp only [ho, hx, hy]
  go_simp
  exact hK
theorem neqn_27 {w : World} {a : Act} {K : Act → World → Prop} {Q : Exit → Act → World → Prop} {o : Oper} {x y : Operand} (ho : o.op = .binOp .neq 27 x y 27) (hx : a.eval x = .pointer none) (hy : a.eval y = .pointer none) (hK : K (a.put o.dst (.bool false)) w) : o.wp Try.prog a w K Q := by
  unfold Oper.wp execOp
  simp only [ho, hx, hy]
  go_simp
  exact hK
theorem nilCheck_ {w : World} {a : Act} {K : Act → World → Prop} {Q : Exit → Act → World → Prop} {o : Oper} {x : Operand} {p : Addr} (ho : o.op = .nilCheck x) (hx : a.eval x = .pointer (some p)) (hK : K (a.put o.dst (.pointer (some p))) w) : o.wp Try.prog a w K Q := by
  unfold Oper.wp execOp
  simp only [ho, hx]
  go_simp
  exact hK
theorem fld_48_0 {w : World} {a : Act} {K : Act → World → Prop} {Q : Exit → Act → World → Prop} {o : Oper} {x : Operand} {b p : Nat} (ho : o.op = .fieldAddr 48 x 0) (hx : a.eval x = .pointer (some ⟨b, p, none⟩)) (hK : K (a.put o.dst (.pointer (some ⟨b, p, none⟩))) w) : o.wp Try.prog a w K Q := by
  unfold Oper.wp execOp
  simp only [ho, hx]
  go_simp
  exact hK
theorem ld_46 {w : World} {a : Act} {K : Act → World → Prop} {Q : Exit → Act → World → Prop} {o : Oper} {x : Operand} {p : Addr} {v : Value} (ho : o.op = .load 46 x) (hx : a.eval x = .pointer (some p)) (hc : w.cell? p = some v) (hK : K (a.put o.dst (v)) w) : o.wp Try.prog a w K Q := by
  unfold Oper.wp execOp
  simp only [ho, hx]
  go_simp
  exact hK
theorem build_54_0_1 {w : World} {a : Act} {K : Act → World → Prop} {Q : Exit → Act → World → Prop} {o : Oper} {x0 x1 : Operand} {c0 c1 : Value} {c2 : Int} (ho : o.op = .build 54 #[(0, x0), (1, x1)]) (h0 : a.eval x0 = .agg #[c0, c1]) (h1 : a.eval x1 = .int .i64 c2) (hK : K (a.put o.dst (.agg #[c0, c1, .int .i64 c2])) w) : o.wp Try.prog a w K Q := by
  unfold Oper.wp execOp
  simp only [ho, List.map_toArray, List.map_cons, List.map_nil, h0, h1]
  go_simp
  exact hK
theorem row_52_1 {w : World} {a : Act} {K : Act → World → Prop} {Q : Exit → Act → World → Prop} {o : Oper} {x0 : Operand} {c0 c1 c2 : Value} (ho : o.op = .buildSlice 52 1 #[(0, x0)]) (h0 : a.eval x0 = .agg #[c0, c1, c2]) (hK : K (a.put o.dst (.slice (some ⟨w.heap.size, 0, none⟩) 1 1)) (w.alloc (.cells #[c0, c1, c2] 54))) : o.wp Try.prog a w K Q := by
  unfold Oper.wp execOp
  simp only [ho, List.map_toArray, List.map_cons, List.map_nil, h0]
  go_simp
  exact hK
theorem ext2_0 {w : World} {a : Act} {K : Act → World → Prop} {Q : Exit → Act → World → Prop} {o : Oper} {x : Operand} {v0 v1 : Value} (ho : o.op = .extract x 0) (hx : a.eval x = .tuple #[v0, v1]) (hK : K (a.put o.dst (v0)) w) : o.wp Try.prog a w K Q := by
  unfold Oper.wp execOp
  simp only [ho, hx]
  go_simp
  exact hK
theorem ext3_0 {w : World} {a : Act} {K : Act → World → Prop} {Q : Exit → Act → World → Prop} {o : Oper} {x : Operand} {v0 v1 v2 : Value} (ho : o.op = .extract x 0) (hx : a.eval x = .tuple #[v0, v1, v2]) (hK : K (a.put o.dst (v0)) w) : o.wp Try.prog a w K Q := by
  unfold Oper.wp execOp
  simp only [ho, hx]
  go_simp
  exact hK
theorem ext2_1 {w : World} {a : Act} {K : Act → World → Prop} {Q : Exit → Act → World → Prop} {o : Oper} {x : Operand} {v0 v1 : Value} (ho : o.op = .extract x 1) (hx : a.eval x = .tuple #[v0, v1]) (hK : K (a.put o.dst (v1)) w) : o.wp Try.prog a w K Q := by
  unfold Oper.wp execOp
  simp only [ho, hx]
  go_simp
  exact hK
theorem fld_48_1 {w : World} {a : Act} {K : Act → World → Prop} {Q : Exit → Act → World → Prop} {o : Oper} {x : Operand} {b p : Nat} (ho : o.op = .fieldAddr 48 x 1) (hx : a.eval x = .pointer (some ⟨b, p, none⟩)) (hK : K (a.put o.dst (.pointer (some ⟨b, p + 1, none⟩))) w) : o.wp Try.prog a w K Q := by
  unfold Oper.wp execOp
  simp only [ho, hx]
  go_simp
  exact hK
theorem box_56 {w : World} {a : Act} {K : Act → World → Prop} {Q : Exit → Act → World → Prop} {o : Oper} {x : Operand} {c0f : Fn} {c0x c0y : Array Value} (ho : o.op = .box 56 x) (hx : a.eval x = .func c0f c0x c0y) (hK : K (a.put o.dst (.pointer (some ⟨w.heap.size, 0, none⟩))) (w.alloc (.cells #[.func c0f c0x c0y] 56))) : o.wp Try.prog a w K Q := by
  unfold Oper.wp execOp
  simp only [ho, hx]
  go_simp
  exact hK
theorem alloc_75 {w : World} {a : Act} {K : Act → World → Prop} {Q : Exit → Act → World → Prop} {o : Oper} (ho : o.op = .alloc 75) (hK : K (a.put o.dst (.pointer (some ⟨w.heap.size, 0, none⟩))) (w.alloc (.cells #[.nilFunc] 75))) : o.wp Try.prog a w K Q := by
  unfold Oper.wp execOp
  simp only [ho]
  go_simp
  exact hK
theorem st_75 {w : World} {a : Act} {K : Act → World → Prop} {Q : Exit → Act → World → Prop} {o : Oper} {x y : Operand} {g p : Nat} {ty : TypeId} {cs : Array Value} {c0f : Fn} {c0x c0y : Array Value} (ho : o.op = .store 75 x y) (hx : a.eval x = .pointer (some ⟨g, p, none⟩)) (hy : a.eval y = .func c0f c0x c0y) (hB : Blk w g ty cs) (hp : p + 0 < cs.size) (hK : ∀ v, K (a.put o.dst v) (w.setCell ⟨g, p, none⟩ (.func c0f c0x c0y))) : o.wp Try.prog a w K Q := by
  have h0 := (hB.cell (p)).trans (Array.getElem?_eq_getElem (by first | omega | (simp; omega)))
  have f0 := hB.frozen (p)
  have s0 := fun w a m => run_store Try.prog w a (.func c0f c0x c0y) m rfl
  clear hB
  unfold Oper.wp execOp
  simp only [ho, hx, hy]
  go_simp
  exact hK _
theorem ld_75 {w : World} {a : Act} {K : Act → World → Prop} {Q : Exit → Act → World → Prop} {o : Oper} {x : Operand} {p : Addr} {v : Value} (ho : o.op = .load 75 x) (hx : a.eval x = .pointer (some p)) (hc : w.cell? p = some v) (hK : K (a.put o.dst (v)) w) : o.wp Try.prog a w K Q := by
  unfold Oper.wp execOp
  simp only [ho, hx]
  go_simp
  exact hK
theorem len_52 {w : World} {a : Act} {K : Act → World → Prop} {Q : Exit → Act → World → Prop} {o : Oper} {x : Operand} {r : Option Addr} {n c : Nat} (ho : o.op = .call { callee := .builtin .len, args := #[x], argTypes := #[52] }) (hx : a.eval x = .slice r n c) (hK : K (a.put o.dst (.int .i64 n)) w) : o.wp Try.prog a w K Q := by
  unfold Oper.wp execOp
  simp only [ho, resolve, List.map_toArray, List.map_cons, List.map_nil, hx]
  go_simp
  exact hK
theorem ix_52 {w : World} {a : Act} {K : Act → World → Prop} {Q : Exit → Act → World → Prop} {o : Oper} {x y : Operand} {r : Option Addr} {b p n c k : Nat} (ho : o.op = .indexAddr 52 x y) (hx : a.eval x = .slice r n c) (hr : r = some ⟨b, p, none⟩) (hy : a.eval y = .int .i64 (k : Int)) (hk : k < n) (hK : K (a.put o.dst (.pointer (some ⟨b, p + k * 3, none⟩))) w) : o.wp Try.prog a w K Q := by
  subst hr
  have h0 : (0 : Int) ≤ (k : Int) := by omega
  have h1 : (k : Int) < (n : Int) := by omega
  unfold Oper.wp execOp
  simp only [ho, hx, hy]
  go_simp
  exact hK
theorem ld_54 {w : World} {a : Act} {K : Act → World → Prop} {Q : Exit → Act → World → Prop} {o : Oper} {x : Operand} {b p : Nat} {c0 c1 c2 : Value} (ho : o.op = .load 54 x) (hx : a.eval x = .pointer (some ⟨b, p, none⟩)) (h0 : w.cell? ⟨b, p, none⟩ = some c0) (h1 : w.cell? ⟨b, p + 1, none⟩ = some c1) (h2 : w.cell? ⟨b, p + 2, none⟩ = some c2) (hK : K (a.put o.dst (.agg #[c0, c1, c2])) w) : o.wp Try.prog a w K Q := by
  unfold Oper.wp execOp
  simp only [ho, hx]
  go_simp
  exact hK
theorem alloc_54 {w : World} {a : Act} {K : Act → World → Prop} {Q : Exit → Act → World → Prop} {o : Oper} (ho : o.op = .alloc 54) (hK : K (a.put o.dst (.pointer (some ⟨w.heap.size, 0, none⟩))) (w.alloc (.cells #[.int .i64 0, .slice none 0 0, .int .i64 0] 54))) : o.wp Try.prog a w K Q := by
  unfold Oper.wp execOp
  simp only [ho]
  go_simp
  exact hK
theorem st_54 {w : World} {a : Act} {K : Act → World → Prop} {Q : Exit → Act → World → Prop} {o : Oper} {x y : Operand} {g p : Nat} {ty : TypeId} {cs : Array Value} {c0 c1 c2 : Value} (ho : o.op = .store 54 x y) (hx : a.eval x = .pointer (some ⟨g, p, none⟩)) (hy : a.eval y = .agg #[c0, c1, c2]) (k0 : c0.oneCell' = true) (k1 : c1.oneCell' = true) (k2 : c2.oneCell' = true) (hB : Blk w g ty cs) (hp : p + 2 < cs.size) (hK : ∀ v, K (a.put o.dst v) (((w.setCell ⟨g, p, none⟩ c0).setCell ⟨g, p + 1, none⟩ c1).setCell ⟨g, p + 2, none⟩ c2)) : o.wp Try.prog a w K Q := by
  have h0 := (hB.cell (p)).trans (Array.getElem?_eq_getElem (by first | omega | (simp; omega)))
  have f0 := hB.frozen (p)
  have hB := hB.set_ (p) c0
  have h1 := (hB.cell (p + 1)).trans (Array.getElem?_eq_getElem (by first | omega | (simp; omega)))
  have f1 := hB.frozen (p + 1)
  have hB := hB.set_ (p + 1) c1
  have h2 := (hB.cell (p + 2)).trans (Array.getElem?_eq_getElem (by first | omega | (simp; omega)))
  have f2 := hB.frozen (p + 2)
  have s0 := fun w a m => run_store Try.prog w a c0 m k0
  have s1 := fun w a m => run_store Try.prog w a c1 m k1
  have s2 := fun w a m => run_store Try.prog w a c2 m k2
  clear hB
  unfold Oper.wp execOp
  simp only [ho, hx, hy]
  go_simp
  exact hK _
theorem fld_54_1 {w : World} {a : Act} {K : Act → World → Prop} {Q : Exit → Act → World → Prop} {o : Oper} {x : Operand} {b p : Nat} (ho : o.op = .fieldAddr 54 x 1) (hx : a.eval x = .pointer (some ⟨b, p, none⟩)) (hK : K (a.put o.dst (.pointer (some ⟨b, p + 2, none⟩))) w) : o.wp Try.prog a w K Q := by
  unfold Oper.wp execOp
  simp only [ho, hx]
  go_simp
  exact hK
theorem row_31_1 {w : World} {a : Act} {K : Act → World → Prop} {Q : Exit → Act → World → Prop} {o : Oper} {x0 : Operand} {c0 : Int} (ho : o.op = .buildSlice 31 1 #[(0, x0)]) (h0 : a.eval x0 = .int .i64 c0) (hK : K (a.put o.dst (.slice (some ⟨w.heap.size, 0, none⟩) 1 1)) (w.alloc (.cells #[.int .i64 c0] 3))) : o.wp Try.prog a w K Q := by
  unfold Oper.wp execOp
  simp only [ho, List.map_toArray, List.map_cons, List.map_nil, h0]
  go_simp
  exact hK
theorem box_50 {w : World} {a : Act} {K : Act → World → Prop} {Q : Exit → Act → World → Prop} {o : Oper} {x : Operand} {c0 c1 c2 c3 c4 c5 c6 c7 : Value} (ho : o.op = .box 50 x) (hx : a.eval x = .agg #[c0, c1, c2, c3, c4, c5, c6, c7]) (hK : K (a.put o.dst (.pointer (some ⟨w.heap.size, 0, none⟩))) (w.alloc (.cells #[c0, c1, c2, c3, c4, c5, c6, c7] 50))) : o.wp Try.prog a w K Q := by
  unfold Oper.wp execOp
  simp only [ho, hx]
  go_simp
  exact hK
theorem ld_56 {w : World} {a : Act} {K : Act → World → Prop} {Q : Exit → Act → World → Prop} {o : Oper} {x : Operand} {p : Addr} {v : Value} (ho : o.op = .load 56 x) (hx : a.eval x = .pointer (some p)) (hc : w.cell? p = some v) (hK : K (a.put o.dst (v)) w) : o.wp Try.prog a w K Q := by
  unfold Oper.wp execOp
  simp only [ho, hx]
  go_simp
  exact hK
theorem box_3 {w : World} {a : Act} {K : Act → World → Prop} {Q : Exit → Act → World → Prop} {o : Oper} {x : Operand} {c0 : Int} (ho : o.op = .box 3 x) (hx : a.eval x = .int .i64 c0) (hK : K (a.put o.dst (.pointer (some ⟨w.heap.size, 0, none⟩))) (w.alloc (.cells #[.int .i64 c0] 3))) : o.wp Try.prog a w K Q := by
  unfold Oper.wp execOp
  simp only [ho, hx]
  go_simp
  exact hK
theorem subb_3 {w : World} {a : Act} {K : Act → World → Prop} {Q : Exit → Act → World → Prop} {o : Oper} {x y : Operand} {m n r : Int} (ho : o.op = .binOp .sub 3 x y 3) (hx : a.eval x = .int .i64 m) (hy : a.eval y = .int .i64 n) (hr : IntKind.i64.wrap (m - n) = r) (hK : K (a.put o.dst (.int .i64 r)) w) : o.wp Try.prog a w K Q := by
  subst hr
  unfold Oper.wp execOp
  simp only [ho, hx, hy]
  go_simp
  exact hK
theorem box_54 {w : World} {a : Act} {K : Act → World → Prop} {Q : Exit → Act → World → Prop} {o : Oper} {x : Operand} {c0 c1 c2 : Value} (ho : o.op = .box 54 x) (hx : a.eval x = .agg #[c0, c1, c2]) (hK : K (a.put o.dst (.pointer (some ⟨w.heap.size, 0, none⟩))) (w.alloc (.cells #[c0, c1, c2] 54))) : o.wp Try.prog a w K Q := by
  unfold Oper.wp execOp
  simp only [ho, hx]
  go_simp
  exact hK
theorem fld_54_0 {w : World} {a : Act} {K : Act → World → Prop} {Q : Exit → Act → World → Prop} {o : Oper} {x : Operand} {b p : Nat} (ho : o.op = .fieldAddr 54 x 0) (hx : a.eval x = .pointer (some ⟨b, p, none⟩)) (hK : K (a.put o.dst (.pointer (some ⟨b, p, none⟩))) w) : o.wp Try.prog a w K Q := by
  unfold Oper.wp execOp
  simp only [ho, hx]
  go_simp
  exact hK
theorem shi_52 {w : World} {a : Act} {K : Act → World → Prop} {Q : Exit → Act → World → Prop} {o : Oper} {x hi : Operand} {r : Option Addr} {n c k : Nat} (ho : o.op = .slice 52 x none (some hi) none) (hx : a.eval x = .slice r n c) (hl : a.eval hi = .int .i64 (k : Int)) (hk : k ≤ c) (hK : K (a.put o.dst (.slice r k c)) w) : o.wp Try.prog a w K Q := by
  have h0 : (0 : Int) ≤ (k : Int) := by omega
  have h1 : (k : Int) ≤ (c : Int) := by omega
  unfold Oper.wp execOp
  simp only [ho, hx, hl, Option.map_some, Option.map_none]
  go_simp
  exact hK
theorem slo_52 {w : World} {a : Act} {K : Act → World → Prop} {Q : Exit → Act → World → Prop} {o : Oper} {x lo : Operand} {r : Option Addr} {n c k : Nat} (ho : o.op = .slice 52 x (some lo) none none) (hx : a.eval x = .slice r n c) (hl : a.eval lo = .int .i64 (k : Int)) (hk : k ≤ n) (hc : n ≤ c) (hK : K (a.put o.dst (.slice (slA r k 3 c) (n - k) (c - k))) w) : o.wp Try.prog a w K Q := by
  have h0 : (0 : Int) ≤ (k : Int) := by omega
  have h1 : (k : Int) ≤ (n : Int) := by omega
  unfold slA at hK
  unfold Oper.wp execOp
  simp only [ho, hx, hl, Option.map_some, Option.map_none]
  go_simp
  exact hK
theorem build_24_0_1 {w : World} {a : Act} {K : Act → World → Prop} {Q : Exit → Act → World → Prop} {o : Oper} {x0 x1 : Operand} {c0 : Int} {c1a : Option Addr} {c1n c1c : Nat} (ho : o.op = .build 24 #[(0, x0), (1, x1)]) (h0 : a.eval x0 = .int .i64 c0) (h1 : a.eval x1 = .slice c1a c1n c1c) (hK : K (a.put o.dst (.agg #[.int .i64 c0, .slice c1a c1n c1c])) w) : o.wp Try.prog a w K Q := by
  unfold Oper.wp execOp
  simp only [ho, List.map_toArray, List.map_cons, List.map_nil, h0, h1]
  go_simp
  exact hK
theorem len_31 {w : World} {a : Act} {K : Act → World → Prop} {Q : Exit → Act → World → Prop} {o : Oper} {x : Operand} {r : Option Addr} {n c : Nat} (ho : o.op = .call { callee := .builtin .len, args := #[x], argTypes := #[31] }) (hx : a.eval x = .slice r n c) (hK : K (a.put o.dst (.int .i64 n)) w) : o.wp Try.prog a w K Q := by
  unfold Oper.wp execOp
  simp only [ho, resolve, List.map_toArray, List.map_cons, List.map_nil, hx]
  go_simp
  exact hK
theorem neq_3 {w : World} {a : Act} {K : Act → World → Prop} {Q : Exit → Act → World → Prop} {o : Oper} {x y : Operand} {m n : Int} (ho : o.op = .binOp .neq 3 x y 3) (hx : a.eval x = .int .i64 m) (hy : a.eval y = .int .i64 n) (hK : K (a.put o.dst (.bool (m != n))) w) : o.wp Try.prog a w K Q := by
  unfold Oper.wp execOp
  simp only [ho, hx, hy]
  go_simp
  exact hK
theorem ix_31 {w : World} {a : Act} {K : Act → World → Prop} {Q : Exit → Act → World → Prop} {o : Oper} {x y : Operand} {r : Option Addr} {b p n c k : Nat} (ho : o.op = .indexAddr 31 x y) (hx : a.eval x = .slice r n c) (hr : r = some ⟨b, p, none⟩) (hy : a.eval y = .int .i64 (k : Int)) (hk : k < n) (hK : K (a.put o.dst (.pointer (some ⟨b, p + k, none⟩))) w) : o.wp Try.prog a w K Q := by
  subst hr
  have h0 : (0 : Int) ≤ (k : Int) := by omega
  have h1 : (k : Int) < (n : Int) := by omega
  unfold Oper.wp execOp
  simp only [ho, hx, hy]
  go_simp
  exact hK
theorem eqlp_27 {w : World} {a : Act} {K : Act → World → Prop} {Q : Exit → Act → World → Prop} {o : Oper} {x y : Operand} {p : Addr} (ho : o.op = .binOp .eql 27 x y 27) (hx : a.eval x = .pointer (some p)) (hy : a.eval y = .pointer none) (hK : K (a.put o.dst (.bool false)) w) : o.wp Try.prog a w K Q := by
  unfold Oper.wp execOp
  simp only [ho, hx, hy]
  go_simp
  exact hK
theorem row_22_2 {w : World} {a : Act} {K : Act → World → Prop} {Q : Exit → Act → World → Prop} {o : Oper} {x0 x1 : Operand} {c0 c1 : Value} {c2 c3 : Value} (ho : o.op = .buildSlice 22 2 #[(0, x0), (1, x1)]) (h0 : a.eval x0 = .agg #[c0, c1]) (h1 : a.eval x1 = .agg #[c2, c3]) (hK : K (a.put o.dst (.slice (some ⟨w.heap.size, 0, none⟩) 2 2)) (w.alloc (.cells #[c0, c1, c2, c3] 24))) : o.wp Try.prog a w K Q := by
  unfold Oper.wp execOp
  simp only [ho, List.map_toArray, List.map_cons, List.map_nil, h0, h1]
  go_simp
  exact hK
theorem neq_29 {w : World} {a : Act} {K : Act → World → Prop} {Q : Exit → Act → World → Prop} {o : Oper} {x y : Operand} {m n : Int} (ho : o.op = .binOp .neq 29 x y 29) (hx : a.eval x = .int .i64 m) (hy : a.eval y = .int .i64 n) (hK : K (a.put o.dst (.bool (m != n))) w) : o.wp Try.prog a w K Q := by
  unfold Oper.wp execOp
  simp only [ho, hx, hy]
  go_simp
  exact hK
theorem row_31_3 {w : World} {a : Act} {K : Act → World → Prop} {Q : Exit → Act → World → Prop} {o : Oper} {x0 x1 x2 : Operand} {c0 : Int} {c1 : Int} {c2 : Int} (ho : o.op = .buildSlice 31 3 #[(0, x0), (1, x1), (2, x2)]) (h0 : a.eval x0 = .int .i64 c0) (h1 : a.eval x1 = .int .i64 c1) (h2 : a.eval x2 = .int .i64 c2) (hK : K (a.put o.dst (.slice (some ⟨w.heap.size, 0, none⟩) 3 3)) (w.alloc (.cells #[.int .i64 c0, .int .i64 c1, .int .i64 c2] 3))) : o.wp Try.prog a w K Q := by
  unfold Oper.wp execOp
  simp only [ho, List.map_toArray, List.map_cons, List.map_nil, h0, h1, h2]
  go_simp
  exact hK
theorem row_31_2 {w : World} {a : Act} {K : Act → World → Prop} {Q : Exit → Act → World → Prop} {o : Oper} {x0 x1 : Operand} {c0 : Int} {c1 : Int} (ho : o.op = .buildSlice 31 2 #[(0, x0), (1, x1)]) (h0 : a.eval x0 = .int .i64 c0) (h1 : a.eval x1 = .int .i64 c1) (hK : K (a.put o.dst (.slice (some ⟨w.heap.size, 0, none⟩) 2 2)) (w.alloc (.cells #[.int .i64 c0, .int .i64 c1] 3))) : o.wp Try.prog a w K Q := by
  unfold Oper.wp execOp
  simp only [ho, List.map_toArray, List.map_cons, List.map_nil, h0, h1]
  go_simp
  exact hK
theorem eql_29 {w : World} {a : Act} {K : Act → World → Prop} {Q : Exit → Act → World → Prop} {o : Oper} {x y : Operand} {m n : Int} (ho : o.op = .binOp .eql 29 x y 29) (hx : a.eval x = .int .i64 m) (hy : a.eval y = .int .i64 n) (hK : K (a.put o.dst (.bool (m == n))) w) : o.wp Try.prog a w K Q := by
  unfold Oper.wp execOp
  simp only [ho, hx, hy]
  go_simp
  exact hK
theorem gtr_3 {w : World} {a : Act} {K : Act → World → Prop} {Q : Exit → Act → World → Prop} {o : Oper} {x y : Operand} {m n : Int} (ho : o.op = .binOp .gtr 3 x y 3) (hx : a.eval x = .int .i64 m) (hy : a.eval y = .int .i64 n) (hK : K (a.put o.dst (.bool (decide (n < m)))) w) : o.wp Try.prog a w K Q := by
  unfold Oper.wp execOp
  simp only [ho, hx, hy]
  go_simp
  exact hK
theorem rem_3 {w : World} {a : Act} {K : Act → World → Prop} {Q : Exit → Act → World → Prop} {o : Oper} {x y : Operand} {m n : Int} (ho : o.op = .binOp .rem 3 x y 3) (hx : a.eval x = .int .i64 m) (hy : a.eval y = .int .i64 n) (h0 : ¬ n = 0) (hK : K (a.put o.dst (.int .i64 (m.tmod n))) w) : o.wp Try.prog a w K Q := by
  unfold Oper.wp execOp
  simp only [ho, hx, hy]
  go_simp
  exact hK
end Go.Proofs.Ytibncmnmjhimeaa
