/- Rows of numbers: opened, one's own. -/
import Derived.Test.YtbohlpfndiiimaaRows
import Derived.WalkKit
import Derived.WalkSpells
import Derived.WalkLawsBesides
import Derived.Lib.Hide
import Derived.Deep.Slices
import Derived.Lib.QuietBelow
import Derived.Deep.Quiet
import Derived.RangeFuncNested
import Derived.RangeFuncLeaves
import Derived.OrdersIn
import Derived.TacticsIn
import Derived.Maps.AppendAt
import Derived.Laws.MakeOwn
import Derived.Laws.IdiomRangeMap

/- The memory: what outlives what is added to it; blocks that are known; integers. -/
namespace Go.Proofs.Ytbohlpfndiiimaa
open Go.RowKit
theorem rbool {a b : Bool} (h : b = a) : Ending.returned (.bool a) = .returned (.bool b) := by rw [h]
theorem rint {k : IntKind} {a b : Int} (h : b = a) : Ending.returned (.int k a) = .returned (.int k b) := by rw [h]
/-- An integer that an int can be. -/
def I64 (f : Int) : Prop := -9223372036854775808 ≤ f ∧ f ≤ 9223372036854775807
theorem i64_wf {f : Int} (h : (Lit.int .i64 f).wf = true) : I64 f := by
  simp [Lit.wf, IntKind.min, IntKind.max, IntKind.signed, IntKind.bits] at h
  exact ⟨by omega, by omega⟩
theorem bkeeps {w w' : World} (hb : Below w.heap.size w w') (p : Addr) (x : Value) (h : w.cell? p = some x) : w'.cell? p = some x :=
  (hb.cell (World.block_lt_of_cell? _ _ h)).trans h
theorem calloc {w : World} {p : Addr} {x : Value} (h : w.cell? p = some x) (o : Obj) : (w.alloc o).cell? p = some x := bkeeps ((Below.refl _ _).alloc (Nat.le_refl _) _) _ _ h
/-- A block's first cells. -/
def Box (w : World) (b : Nat) (vs : List Value) : Prop := ∀ i v, vs[i]? = some v → w.cell? ⟨b, i, none⟩ = some v
theorem Box.below {w w' : World} {b : Nat} {vs : List Value} (h : Box w b vs) (hb : Below w.heap.size w w') : Box w' b vs := fun i v hi => bkeeps hb _ _ (h i v hi)
theorem Box.alloc {w : World} {b : Nat} {vs : List Value} (h : Box w b vs) (o : Obj) : Box (w.alloc o) b vs := fun i v hi => calloc (h i v hi) o
theorem Box.new (w : World) (vs : List Value) (t : TypeId) : Box (w.alloc (.cells vs.toArray t)) w.heap.size vs := by
  intro i v hi
  have h := heap_alloc_new w (.cells vs.toArray t)
  simp only [World.cell?, h]
  simpa using hi
theorem heap_new' {w : World} {b : Nat} {o : Obj} (h : w.heap.size = b) : (w.alloc o).heap[b]? = some o := by subst h; exact heap_alloc_new w o
theorem Box.two {w : World} {b : Nat} {x0 x1 : Value} (h : Box w b [x0, x1]) : w.cell? ⟨b, 0, none⟩ = some x0 ∧ w.cell? ⟨b, 1, none⟩ = some x1 := ⟨h 0 _ rfl, h 1 _ rfl⟩
/-- A step from a world that is as it was. -/
theorem bstep {w a b : World} (h : Below w.heap.size w a) (k : Below a.heap.size a b) : Below w.heap.size w b := h.trans (k.mono h.size)
theorem balloc (w : World) (o : Obj) : Below w.heap.size w (w.alloc o) := (Below.refl _ _).alloc (Nat.le_refl _) _
theorem balloc2 (w : World) (o o' : Obj) : Below w.heap.size w ((w.alloc o).alloc o') := bstep (balloc w o) (balloc _ o')
theorem bcall {w a : World} {o : Obj} (k : Below (w.alloc o).heap.size (w.alloc o) a) : Below w.heap.size w a := bstep (balloc w o) k
theorem box1 {w w1 : World} {xs : List Value} {t1 : TypeId} (h : Below (w.alloc (.cells xs.toArray t1)).heap.size (w.alloc (.cells xs.toArray t1)) w1) : Box w1 w.heap.size xs ∧ Below w.heap.size w w1 :=
  ⟨(Box.new _ _ _).below h, bstep (balloc _ _) h⟩
theorem add_plain2 {b o i : Nat} : (Addr.mk b o none).add i = ⟨b, o + i, none⟩ := by
  unfold Addr.add
  split <;> simp_all
theorem bulkAll_le {H : Type} {l : List (DataW H)} {d : DataW H} (h : d ∈ l) : Rows.uptoBulk d ≤ Rows.uptoBulkAll l := by
  induction l with
  | nil => simp at h
  | cons x r ih =>
    simp only [Rows.uptoBulkAll]
    rcases List.mem_cons.1 h with rfl | h
    · omega
    · have := ih h; omega
end Go.Proofs.Ytbohlpfndiiimaa

/- How code is walked: what is known of a frame, slot by slot; a region in whatever order its edges allow. -/
namespace Go.Proofs.Ytbohlpfndiiimaa
open Go.RowKit Go
/-- Where code is walked: in a function's own frame, or in a round of a loop over a function. -/
def fen : Option Nat → Fence
 | none => Fence.wide
 | some l => Fence.wide.inRound l
theorem fen_fn (r : Option Nat) (f : FuncId) : (fen r).fn f := by cases r <;> exact trivial
theorem fen_round (r : Option Nat) : (fen r).round = r := by cases r <;> rfl
theorem fen_depth (r : Option Nat) : (fen r).depth = none := by cases r <;> rfl
theorem fen_room (r : Option Nat) (n : Nat) : (fen r).room n := fun d h => by rw [fen_depth] at h; cases h
/-- A frame: its slots, the marks on its deferred calls, the round that it is in. -/
structure Fr where
 n : Nat
 ds : List Deferred
 r : Option Nat
section
variable {P : Program}
theorem comesIn_fen {r : Option Nat} {m m' : Machine} {e : Ending} (h : Comes P m m' e) : ComesIn (Machine.fenced P (fen r)) P m m' e := by
 cases r with
 | none => exact comesIn_wide.2 h
 | some l => exact (comesIn_wide (P := P)).2 h
theorem callsIn_fen {r : Option Nat} {n : Nat} {f : FuncId} {args : Array Value} {w : World} {R : Ending → World → Prop} (h : Calls P f args w R) : CallsIn (fen r) n P f args w R :=
 ⟨fen_fn r f, fun cs _ => let ⟨e, w', fr, q, s, x⟩ := h cs; ⟨e, w', fr, q, comesIn_fen s, x⟩⟩
theorem stepsIn_fen {r : Option Nat} {m m' : Machine} (h : Steps P m m') : StepsIn (Machine.fenced P (fen r)) P m m' := by
 cases r with
 | none => exact stepsIn_wide.2 h
 | some l => exact (stepsIn_wide (P := P)).2 h
theorem uponIn_of {r : Option Nat} {o : Oper} {a : Act} {K : Act → World → Prop} {Q : Exit → Act → World → Prop} {x : Result Next} (h : o.upon P a K Q x) : o.uponIn (fen r) 0 P a K Q x := by
 have hd : (fen r).depth.isSome = true → 1 ≤ 0 := fun e => by rw [fen_depth] at e; cases e
 cases x with
 | ok n w' =>
  cases n with
  | value v => exact h
  | skip => exact h
  | defer d => exact h
  | enter f args => exact ⟨hd, callsIn_fen h⟩
  | row row args => exact ⟨hd, fun c cs _ => let ⟨v, w2, q, s⟩ := h c cs; ⟨v, w2, q, stepsIn_fen s⟩⟩
  | _ => exact h.elim
 | halt y w' => cases y <;> first | exact h | exact h.elim
theorem wpIn_of {r : Option Nat} {o : Oper} {a : Act} {w : World} {K : Act → World → Prop} {Q : Exit → Act → World → Prop} (h : o.wp P a w K Q) (hK : ∀ a' w', K a' w' → a'.defers = a.defers) : o.wpIn (fen r) 0 P a w K Q := by
 refine ⟨fun f _ => fen_fn r f, ?_⟩
 rw [fen_round]
 unfold Oper.wp at h
 by_cases hd : ∃ c, o.op = .defer c
 ·obtain ⟨c, hc⟩ := hd
  cases r with
  | none => exact uponIn_of h
  | some l =>
   unfold Oper.semAt
   unfold execOp at h
   simp only [hc, Sem.run_bind] at h ⊢
   generalize (resolve a.eval c o.type).run P w = x at h ⊢
   cases x with
   | ok d w' =>
    simp only [Result.andThen, Sem.run_pure, Oper.upon] at h
    have := congrArg List.length (hK _ _ h)
    cases ho : o.dst <;> simp [Act.put, ho] at this
   | halt y w' => cases y <;> first | exact h | exact h.elim
 ·rw [Oper.semAt_eq _ _ _ (fun c hc => hd ⟨c, hc⟩)]
  exact uponIn_of h
theorem put_defers (a : Act) (d : Option Nat) (v : Value) : (Act.put a d v).defers = a.defers := by cases d <;> rfl
end
section
variable {P : Program} {ops : Array Oper}
def depB (ops : Array Oper) (o : Oper) (j d : Nat) : Bool := o.after.any (fun e => e.on == j && Region.binds .any e) && ((ops[j]?).bind (·.dst) == some d)
def dstsOf (ops : Array Oper) : List Nat := ops.toList.filterMap (·.dst)
def opsB (ops : Array Oper) (n : Nat) : Bool :=
 (List.range ops.size).all (fun i => match ops[i]? with
  | none => false
  | some o => o.after.all (fun e => Nat.blt e.on i || !Region.binds .any e) &&
   (match o.guard with | none => true | some (g, _) => o.after.any (fun e => e.on == g && Region.binds .any e) && ((ops[g]?).bind (·.dst)).isSome) &&
   (match o.dst with | none => true | some d => Nat.blt d n && (List.range ops.size).all fun j => i == j || !((ops[j]?).bind (·.dst) == some d)))
structure OpOk (ops : Array Oper) (n i : Nat) (o : Oper) : Prop where
 after : ∀ e ∈ o.after, Region.binds .any e = true → e.on < i
 guard : ∀ g b, o.guard = some (g, b) → (∃ e ∈ o.after, e.on = g ∧ Region.binds .any e = true) ∧ ∃ d, (ops[g]?).bind (·.dst) = some d
 lt : ∀ d, o.dst = some d → d < n
 own : ∀ d j, o.dst = some d → j < ops.size → (ops[j]?).bind (·.dst) = some d → i = j
theorem opsB_spec {n : Nat} (h : opsB ops n = true) {i : Nat} {o : Oper} (ho : ops[i]? = some o) : OpOk ops n i o := by
 have hi : i < ops.size := by
  rcases Nat.lt_or_ge i ops.size with h | h
  ·exact h
  ·simp [Array.getElem?_eq_none h] at ho
 have := List.all_eq_true.1 h i (by simpa using hi)
 simp only [ho, Bool.and_eq_true] at this
 obtain ⟨⟨h1, h2⟩, h3⟩ := this
 refine ⟨fun e he hbe => ?_, fun g b hg => ?_, fun d hd => ?_, fun d j hd hj hjd => ?_⟩
 ·have := Array.all_eq_true_iff_forall_mem.1 h1 e he
  simpa [Nat.blt_eq, hbe] using this
 ·rw [hg] at h2
  simp only [Bool.and_eq_true, Array.any_eq_true, Option.isSome_iff_exists, beq_iff_eq] at h2
  obtain ⟨⟨k, hk, h5, h6⟩, h7⟩ := h2
  exact ⟨⟨_, Array.getElem_mem hk, h5, h6⟩, h7⟩
 ·rw [hd] at h3
  simp only [Bool.and_eq_true, Nat.blt_eq] at h3
  exact h3.1
 ·rw [hd] at h3
  simp only [Bool.and_eq_true] at h3
  have := List.all_eq_true.1 h3.2 j (by simpa using hj)
  rw [hjd] at this
  simpa using this
theorem count_set {l : Array Bool} {i : Nat} (hi : i < l.size) (h : l.getD i true = false) {n : Nat} (hc : l.toList.count false ≤ n + 1) : (l.setIfInBounds i true).toList.count false ≤ n := by
 rw [Array.toList_setIfInBounds, List.count_set (by simpa using hi)]
 have : l.toList[i]'(by simpa using hi) = false := by simpa [Array.getD, hi] using h
 rw [this, if_pos (by rfl : (false == false) = true), if_neg (by decide : ¬ (true == false) = true)]
 omega
theorem count_zero {l : Array Bool} (hc : l.toList.count false ≤ 0) (i : Nat) : l.getD i true = true := by
 rcases Nat.lt_or_ge i l.size with h | h
 ·have h0 : l.toList.count false = 0 := by omega
  have := (List.count_eq_zero (a := false)).1 h0
  have hm : l[i] ∈ l.toList := by simp
  simp only [Array.getD, h, dif_pos]
  cases hb : l[i] with
  | true => simpa using hb
  | false => rw [hb] at hm; exact absurd hm this
 ·simp [Array.getD, Nat.not_lt.2 h]
theorem ready_nil {n : Nat} (hB : opsB ops n = true) {listed : Array Bool} (hs : listed.size = ops.size) (h : Region.ready .any ops listed = []) (i : Nat) (hi : i < ops.size) : listed.getD i true = true := by
 induction i using Nat.strongRecOn with
 | _ i ih =>
  cases hc : listed.getD i true with
  | true => rfl
  | false =>
   obtain ⟨o, ho⟩ : ∃ o, ops[i]? = some o := ⟨ops[i], by simp [hi]⟩
   have := mem_ready (md := .any) (ops := ops) (j := i) (listed := listed) |>.2 ⟨hc, o, ho, fun e he hbe => by
    have hl := (opsB_spec hB ho).after e he hbe
    have := ih e.on hl (by omega)
    simpa [Array.getD, show e.on < listed.size by omega] using this⟩
   rw [h] at this
   simp at this
theorem mem_dsts {i : Nat} {o : Oper} {d : Nat} (ho : ops[i]? = some o) (hd : o.dst = some d) : (dstsOf ops).contains d = true := by
 simp only [dstsOf, List.contains_iff_mem, List.mem_filterMap]
 exact ⟨o, by have := Array.mem_of_getElem? ho; simpa using this, hd⟩
/-- Whether the operation is wanted, by what is known of its guard. -/
inductive GuardIs (R : Nat → Value → World → Prop) (o : Oper) : Bool → Prop where
 | none (h : o.guard = none) : GuardIs R o true
 | yes {g : Nat} {c d : Bool} (h : o.guard = some (g, true)) (hv : ∀ v w, R g v w → (d = true → v = .bool c) ∧ (d = false → v = undef)) : GuardIs R o (d && c)
 | no {g : Nat} {c d : Bool} (h : o.guard = some (g, false)) (hv : ∀ v w, R g v w → (d = true → v = .bool c) ∧ (d = false → v = undef)) : GuardIs R o (d && !c)
theorem any_list {q : Option Nat} {n : Nat} (hB : opsB ops n = true) {Q : Exit → Act → World → Prop} : ∀ (l : List Oper) (k fuel : Nat) (listed : Array Bool) (a : Act) (w : World), (∀ j, l[j]? = ops[k + j]?) → listed.size = ops.size → (∀ j, j < ops.size → (listed.getD j true = true ↔ j < k)) → l.length ≤ fuel →
  wpAnyIn (fen q) 0 P .any ops Q fuel listed a w → wpListIn (fen q) 0 P ops Q l a w
 | [], k, fuel, listed, a, w, hl, hs, hk, _, h => by
  have hge : ops.size ≤ k := by
   have := hl 0
   simp only [List.getElem?_nil, Nat.add_zero] at this
   rcases Nat.lt_or_ge k ops.size with h | h
   ·simp [h] at this
   ·exact h
  have hr : Region.ready .any ops listed = [] := by
   cases hr : Region.ready .any ops listed with
   | nil => rfl
   | cons i r =>
    obtain ⟨h1, o, ho, _⟩ := (mem_ready (md := .any) (ops := ops) (j := i) (listed := listed)).1 (by rw [hr]; simp)
    have hi : i < ops.size := by
     rcases Nat.lt_or_ge i ops.size with h | h
     ·exact h
     ·simp [Array.getElem?_eq_none h] at ho
    rw [(hk i hi).2 (by omega)] at h1
    cases h1
  cases fuel with
  | zero => exact h.2
  | succ fuel => exact h.1 hr
 | o :: r, k, fuel, listed, a, w, hl, hs, hk, hf, h => by
  have ho : ops[k]? = some o := by simpa using (hl 0).symm
  have hkl : k < ops.size := by
   rcases Nat.lt_or_ge k ops.size with h | h
   ·exact h
   ·simp [Array.getElem?_eq_none h] at ho
  cases fuel with
  | zero => simp at hf
  | succ fuel =>
   have hready : k ∈ Region.ready .any ops listed := mem_ready.2 ⟨by
    cases hc : listed.getD k true with
    | false => rfl
    | true => exact absurd ((hk k hkl).1 hc) (by omega), o, ho, fun e he hbe => by
     have := (opsB_spec hB ho).after e he hbe
     have h2 := (hk e.on (by omega)).2 this
     simpa [Array.getD, show e.on < listed.size by omega] using h2⟩
   have h2 := h.2 k hready
   unfold wpOpIn at h2
   simp only [ho] at h2
   have ih := fun a w => any_list (q := q) hB (Q := Q) r (k + 1) fuel (listed.setIfInBounds k true) a w (fun j => by have := hl (j + 1); simpa [Nat.add_assoc, Nat.add_comm 1 j] using this) (by simpa using hs) (fun j hj => by
    by_cases hjk : j = k
    ·subst hjk; simp [Array.getD, hs, hj]
    ·rw [getD_set_ne true (Ne.symm hjk), hk j hj]; omega) (by simpa using hf)
   rw [wpListIn]
   split
   ·rename_i hw
    rw [if_pos hw] at h2
    exact Oper.wpIn_mono (fun a w h => ih a w h) h2
   ·rename_i hw
    rw [if_neg hw] at h2
    exact ⟨fun f _ => fen_fn q f, ih _ _ h2.2⟩
theorem any_start {q : Option Nat} {n : Nat} (hB : opsB ops n = true) {Q : Exit → Act → World → Prop} {id : Nat} {a : Act} {w : World} (h : wpAnyIn (fen q) 0 P .any ops Q ops.size (Array.replicate ops.size false) a w) : (Code.region id ops false).wpIn (fen q) 0 P Q a w :=
 wpIn_region_list (any_list hB ops.toList 0 ops.size _ a w (by simp) (by simp) (fun j hj => by simp [Array.getD, hj]) (by simp) h)
def afterB (ops : Array Oper) (c i : Nat) : Bool := match ops[c]? with | some o => o.after.any (fun e => e.on == i && Region.binds .any e) | none => false
/-- What must have come ahead of the operation 'c'. -/
def ancL (ops : Array Oper) (c : Nat) : List Nat := (List.range c).reverse.foldl (fun acc j => bif acc.any (fun m => afterB ops m j) then j :: acc else acc) [c]
theorem anc_listed {ops : Array Oper} {listed : Array Bool} (closed : ∀ i o, ops[i]? = some o → listed.getD i false = true → ∀ e ∈ o.after, Region.binds .any e = true → listed.getD e.on false = true) {c : Nat} (hc : listed.getD c false = true) : ∀ m ∈ ancL ops c, listed.getD m false = true := by
 have key : ∀ (js acc : List Nat), (∀ m ∈ acc, listed.getD m false = true) → ∀ m ∈ js.foldl (fun acc j => bif acc.any (fun m => afterB ops m j) then j :: acc else acc) acc, listed.getD m false = true := by
  intro js
  induction js with
  | nil => exact fun acc h => h
  | cons j r ih =>
   intro acc h
   refine ih _ ?_
   show ∀ m ∈ (bif acc.any (fun m => afterB ops m j) then j :: acc else acc), listed.getD m false = true
   cases hb : acc.any (fun m => afterB ops m j) with
   | false => exact h
   | true =>
    intro m hm
    rw [cond_true] at hm
    rcases List.mem_cons.1 hm with rfl | hm
    ·obtain ⟨k, hk, ha⟩ := List.any_eq_true.1 hb
     unfold afterB at ha
     split at ha
     ·rename_i o ho
      simp only [Array.any_eq_true, Bool.and_eq_true, beq_iff_eq] at ha
      obtain ⟨q, hq, h1, h2⟩ := ha
      have := closed k o ho (h k hk) _ (Array.getElem_mem hq) h2
      rwa [h1] at this
     ·cases ha
    ·exact h m hm
 exact key _ _ (by intro m hm; rw [List.mem_singleton.1 hm]; exact hc)
theorem getD_false_of {l : Array Bool} {i : Nat} (h : l.getD i true = false) : l.getD i false = false := by
 by_cases hi : i < l.size
 ·simpa [Array.getD, hi] using h
 ·simp [Array.getD, hi]
theorem getD_set_eq {l : Array Bool} {i : Nat} (h : i < l.size) : (l.setIfInBounds i true).getD i false = true := by simp [Array.getD, h]
end
inductive Sp where
 | val (x : Value)
 | mem (p : Value → World → Prop) (h : ∀ v w w', Below w.heap.size w w' → p v w → p v w')
def Sp.holds : Sp → Value → World → Prop
 | .val x, v, _ => v = x
 | .mem p _, v, w => p v w
def optR (l : List (Bool × Sp)) (i : Nat) (v : Value) (w : World) : Prop := ((l.getD i (true, .val undef)).1 = true → (l.getD i (true, .val undef)).2.holds v w) ∧ ((l.getD i (true, .val undef)).1 = false → v = undef)
theorem optKeep (l : List (Bool × Sp)) (i : Nat) (v : Value) (w w' : World) (h : optR l i v w) (hb : Below w.heap.size w w') : optR l i v w' := by
 refine ⟨fun e => ?_, h.2⟩
 have := h.1 e
 generalize (l.getD i (true, .val undef)).2 = s at *
 cases s with
 | val x => exact this
 | mem p hp => exact hp _ _ _ hb this
theorem optVal {l : List (Bool × Sp)} {i : Nat} {v x : Value} {w : World} {β : Bool} (h : optR l i v w) (e : l.getD i (true, .val undef) = (β, .val x)) (hβ : β = true) : v = x := by
 have := h.1 (by rw [e]; exact hβ)
 rw [e] at this
 exact this
theorem optMem {l : List (Bool × Sp)} {i : Nat} {v : Value} {w : World} {β : Bool} {p : Value → World → Prop} {hp : ∀ v w w', Below w.heap.size w w' → p v w → p v w'} (h : optR l i v w) (e : l.getD i (true, .val undef) = (β, .mem p hp)) (hβ : β = true) : p v w := by
 have := h.1 (by rw [e]; exact hβ)
 rw [e] at this
 exact this
theorem hv1 {g : Operand → Value} {x : Operand} {u : Value} (h1 : g x = u) : #[x].map g = #[u] := by simp [h1]
theorem optUndef {A : Prop} {β : Bool} (h : β = false) : (β = true → A) ∧ (β = false → undef = undef) := ⟨fun e => (by rw [h] at e; cases e), fun _ => rfl⟩
theorem optDef {A B : Prop} {β : Bool} (hβ : β = true) (h : A) : (β = true → A) ∧ (β = false → B) := ⟨fun _ => h, fun e => (by rw [hβ] at e; cases e)⟩
theorem bMk {a b : Bool} (h : a = true) (h' : b = true) : (a && b) = true := by simp [h, h']
theorem bMkN {a b : Bool} (h : a = true) (h' : b = false) : (a && !b) = true := by simp [h, h']
section
variable {w : World} {a : Act} {K : Act → World → Prop} {Q : Exit → Act → World → Prop} {o : Oper}
def callB (P : Program) (F : FuncId) : Bool := match P.funcs[F]? with | some fn => !(fn.name == "runtime.NumGoroutine") && !fn.body.isNone | none => false
theorem wp_call {P : Program} {F : FuncId} {xs : Array Operand} {tys : Array TypeId} {vs : Array Value} {R : Value → World → Prop} (hF : callB P F = true) (ho : o.op = .call { callee := .value (.func F), args := xs, argTypes := tys }) (hv : xs.map a.eval = vs)
  (h : Calls P F vs w fun e w' => ∃ v, e = .returned v ∧ R v w') (hK : ∀ v w', R v w' → K (a.put o.dst v) w') : o.wp P a w K Q := by
 unfold callB at hF
 split at hF
 ·rename_i fn hfn
  simp only [Bool.and_eq_true, Bool.not_eq_true'] at hF
  have hp : (Sem.run P program w) = .ok P w := rfl
  unfold Oper.wp execOp
  simp only [ho, resolve, hv, Act.eval, Deferred.ofValue, invoke, callFunc, Sem.run_bind, Sem.run_pure, Result.andThen_ok, Array.empty_append, Array.append_empty, hp, hfn, hF.1, hF.2, Bool.false_eq_true, if_false]
  refine h.mono ?_
  rintro e w' ⟨v, rfl, hR⟩
  exact hK v w' hR
 ·simp at hF
theorem wp_move {P : Program} {x : Operand} {v : Value} (ho : o.op = .move x) (hx : a.eval x = v) (hK : K (a.put o.dst v) w) : o.wp P a w K Q := by
 unfold Oper.wp execOp
 simp only [ho, hx]
 exact hK
theorem wp_assign {P : Program} {x : Operand} {v : Value} (ho : o.op = .assign x) (hx : a.eval x = v) (hK : K (a.put o.dst v) w) : o.wp P a w K Q := by
 unfold Oper.wp execOp
 simp only [ho, hx]
 exact hK
theorem hv0 {g : Operand → Value} : #[].map g = #[] := by simp
theorem hv2 {g : Operand → Value} {x y : Operand} {u v : Value} (h1 : g x = u) (h2 : g y = v) : #[x, y].map g = #[u, v] := by simp [h1, h2]
theorem hv3 {g : Operand → Value} {x y z : Operand} {u v r : Value} (h1 : g x = u) (h2 : g y = v) (h3 : g z = r) : #[x, y, z].map g = #[u, v, r] := by simp [h1, h2, h3]
theorem wp_not {x : Operand} {b : Bool} {ty : TypeId} (ho : o.op = .unOp .not ty x) (hx : a.eval x = .bool b) (hK : K (a.put o.dst (.bool (!b))) w) : o.wp Try.prog a w K Q := by
 unfold Oper.wp execOp
 simp only [ho, hx]
 go_simp
 exact hK
theorem wp_or {x z : Operand} {p q : Bool} (ho : o.op = .pick x (.const (.bool true)) z) (hx : a.eval x = .bool p) (hz : p = false → a.eval z = .bool q) (hK : K (a.put o.dst (.bool (p || q))) w) : o.wp Try.prog a w K Q := by
 have hc : a.eval (.const (.bool true)) = .bool true := rfl
 unfold Oper.wp execOp
 cases p with
 | true => simp only [ho, hx, hc]; exact hK
 | false => simp only [ho, hx, hz rfl]; exact hK
theorem wp_and {x z : Operand} {p q : Bool} (ho : o.op = .pick x z (.const (.bool false))) (hx : a.eval x = .bool p) (hz : p = true → a.eval z = .bool q) (hK : K (a.put o.dst (.bool (p && q))) w) : o.wp Try.prog a w K Q := by
 have hc : a.eval (.const (.bool false)) = .bool false := rfl
 unfold Oper.wp execOp
 cases p with
 | true => simp only [ho, hx, hz rfl]; exact hK
 | false => simp only [ho, hx, hc]; exact hK
end
abbrev Known := List (Nat × Value)
def look : Known → Nat → Option Value
 | [], _ => none
 | (k, v) :: r, d => bif Nat.beq k d then some v else look r d
/-- The frame has 'n' slots, defers nothing, and holds what is known. -/
structure Kn (n : Fr) (K : Known) (a : Act) : Prop where
 size : a.tmps.size = n.n
 defers : a.defers = n.ds
 knows : ∀ d v, look K d = some v → a.tmps.getD d undef = v
def ev (K : Known) : Operand → Option Value
 | .tmp t => look K t
 | .const v => some v
 | .global g => some (.pointer (some ⟨g, 0, none⟩))
 | .func f => some (.func (.func f) #[] #[])
def subK : Known → Known → Prop
 | [], _ => True
 | (d, v) :: r, K => look K d = some v ∧ subK r K
theorem subK_look {K : Known} : ∀ {K' : Known}, subK K' K → ∀ d v, look K' d = some v → look K d = some v
 | [], _, _, _, h => by simp [look] at h
 | (k, x) :: r, hs, d, v, h => by
  unfold look at h
  cases hb : Nat.beq k d with
  | true =>
   rw [hb] at h
   obtain rfl := Nat.eq_of_beq_eq_true hb
   rw [← h]
   exact hs.1
  | false =>
   rw [hb] at h
   exact subK_look hs.2 d v h
section
variable {P : Program} {n : Fr} {K K' : Known} {a : Act} {w : World}
theorem Kn.ev (h : Kn n K a) {x : Operand} {v : Value} (e : ev K x = some v) : a.eval x = v := by
 cases x with
 | tmp t => exact h.knows t v e
 | const c => exact Option.some.inj e
 | global g => exact Option.some.inj e
 | func f => exact Option.some.inj e
theorem Kn.sub (h : Kn n K a) (hs : subK K' K) : Kn n K' a := ⟨h.size, h.defers, fun d v e => h.knows d v (subK_look hs d v e)⟩
theorem Kn.put (h : Kn n K a) {d : Nat} (hd : Nat.blt d n.n = true) (v : Value) : Kn n ((d, v) :: K) (a.put (some d) v) := by
 have hlt : d < a.tmps.size := by rw [h.size]; simpa [Nat.blt_eq] using hd
 refine ⟨by simpa [Act.put] using h.size, h.defers, fun k x e => ?_⟩
 unfold look at e
 cases hb : Nat.beq d k with
 | true =>
  rw [hb] at e
  obtain rfl := Nat.eq_of_beq_eq_true hb
  simp only [cond_true, Option.some.injEq] at e
  simp [Act.put, hlt, e]
 | false =>
  rw [hb] at e
  have hne : d ≠ k := by rintro rfl; rw [Nat.beq_refl] at hb; cases hb
  have := h.knows k x e
  simp only [Act.put, Array.getD_eq_getD_getElem?, Array.getElem?_setIfInBounds, hne, if_false] at this ⊢
  exact this
theorem Kn.cons (h : Kn n K a) {d : Nat} {v : Value} (e : a.tmps.getD d undef = v) : Kn n ((d, v) :: K) a := by
 refine ⟨h.size, h.defers, fun k x hk => ?_⟩
 unfold look at hk
 cases hb : Nat.beq d k with
 | true =>
  rw [hb] at hk
  obtain rfl := Nat.eq_of_beq_eq_true hb
  simp only [cond_true, Option.some.injEq] at hk
  rw [e, hk]
 | false =>
  rw [hb] at hk
  exact h.knows k x hk
def putK (K : Known) : Option Nat → Value → Known
 | some d, v => (d, v) :: K
 | none, _ => K
def dstB (n : Nat) : Option Nat → Bool
 | some d => Nat.blt d n
 | none => true
theorem Kn.puts (h : Kn n K a) {d : Option Nat} (hd : dstB n.n d = true) (v : Value) : Kn n (putK K d v) (a.put d v) := by
 cases d with
 | none => exact h
 | some d => exact h.put hd v
/-- From whatever frame of which that much is known the code comes to 'Q'. -/
def WC (P : Program) (n : Fr) (K : Known) (w : World) (c : Code) (Q : Exit → Act → World → Prop) : Prop := ∀ a, Kn n K a → c.wpIn (fen n.r) 0 P Q a w
def WE (n : Fr) (K : Known) (w : World) (Q : Exit → Act → World → Prop) (e : Exit) : Prop := ∀ a, Kn n K a → Q e a w
def WL (P : Program) (ops : Array Oper) (n : Fr) (K : Known) (w : World) (l : List Oper) (Q : Exit → Act → World → Prop) : Prop := ∀ a, Kn n K a → wpListIn (fen n.r) 0 P ops Q l a w
variable {Q : Exit → Act → World → Prop} {c x y : Code} {ops : Array Oper} {o : Oper} {rest : List Oper}
theorem WC.sub (hs : subK K' K) (h : WC P n K' w c Q) : WC P n K w c Q := fun a ha => h a (ha.sub hs)
theorem WE.sub {e : Exit} (hs : subK K' K) (h : WE n K' w Q e) : WE n K w Q e := fun a ha => h a (ha.sub hs)
theorem WC.seq (h : WC P n K w x (Exit.then (fun a w => y.wpIn (fen n.r) 0 P Q a w) Q)) : WC P n K w (.seq x y) Q := fun a ha => wpIn_seq (h a ha)
theorem WC.skip (h : WE n K w Q .normal) : WC P n K w .skip Q := fun a ha => wpIn_skip (h a ha)
theorem WC.ret (h : WE n K w Q .ret) : WC P n K w .ret Q := fun a ha => wpIn_ret (h a ha)
theorem WC.exit {id : Nat} (h : WE n K w Q (.exit id)) : WC P n K w (.exit id) Q := fun a ha => wpIn_exit (h a ha)
theorem WC.block {id : Nat} (h : WC P n K w c (Exit.inBlock id Q)) : WC P n K w (.block id c) Q := fun a ha => wpIn_block (h a ha)
theorem WC.cond {t : Operand} {b : Bool} (e : ev K t = some (.bool b)) (ht : b = true → WC P n K w x Q) (hf : b = false → WC P n K w y Q) : WC P n K w (.cond t x y) Q :=
 fun a ha => wpIn_cond_split (ha.ev e) (fun h => ht h a ha) (fun h => hf h a ha)
theorem WC.condT {t : Operand} {b : Bool} (e : ev K t = some (.bool b)) (hb : b = true) (ht : WC P n K w x Q) : WC P n K w (.cond t x y) Q :=
 WC.cond e (fun _ => ht) (fun h => by rw [hb] at h; cases h)
theorem WC.condF {t : Operand} {b : Bool} (e : ev K t = some (.bool b)) (hb : b = false) (hf : WC P n K w y Q) : WC P n K w (.cond t x y) Q :=
 WC.cond e (fun h => by rw [hb] at h; cases h) (fun _ => hf)
theorem WE.next {Q' : Exit → Act → World → Prop} (h : WC P n K w y Q) : WE n K w (Exit.then (fun a w => y.wpIn (fen n.r) 0 P Q a w) Q') .normal := h
theorem WE.thenRet {N : Act → World → Prop} (h : WE n K w Q .ret) : WE n K w (Exit.then N Q) .ret := h
theorem WE.thenExit {N : Act → World → Prop} {id : Nat} (h : WE n K w Q (.exit id)) : WE n K w (Exit.then N Q) (.exit id) := h
theorem WE.blockNormal {id : Nat} (h : WE n K w Q .normal) : WE n K w (Exit.inBlock id Q) .normal := h
theorem WE.blockRet {id : Nat} (h : WE n K w Q .ret) : WE n K w (Exit.inBlock id Q) .ret := h
theorem WE.blockIs {id id' : Nat} (e : Nat.beq id' id = true) (h : WE n K w Q .normal) : WE n K w (Exit.inBlock id Q) (.exit id') := fun a ha => by
 show (if id' = id then Q .normal a w else Q (.exit id') a w)
 rw [if_pos (Nat.eq_of_beq_eq_true e)]; exact h a ha
theorem WE.blockNot {id id' : Nat} (e : Nat.beq id' id = false) (h : WE n K w Q (.exit id')) : WE n K w (Exit.inBlock id Q) (.exit id') := fun a ha => by
 show (if id' = id then Q .normal a w else Q (.exit id') a w)
 rw [if_neg (by rintro rfl; rw [Nat.beq_refl] at e; cases e)]; exact h a ha
theorem wp_loop_ghost {q : Option Nat} {X : Type} (I : X → Act → World → Prop) (μ : X → Nat) {x0 : X} {a : Act} (h0 : I x0 a w)
  (round : ∀ x a w, I x a w → c.wpIn (fen q) 0 P (Exit.then (fun a' w' => ∃ x', I x' a' w' ∧ μ x' < μ x) Q) a w) : (Code.loop c).wpIn (fen q) 0 P Q a w := by
 intro b k cs hro hb hr
 have key : ∀ m x a w, μ x = m → I x a w →
   ∃ e a' w', Q e a' w' ∧ ArrivesIn (Machine.fenced P (fen q)) P (lone (b.atR a (.code c :: .inLoop c :: k)) cs w) b k cs e a' w' := by
  intro m
  induction m using Nat.strongRecOn with
  | _ m ih =>
   intro x a w hn hI
   obtain ⟨e, a₁, w₁, hq, harr⟩ := round x a w hI b (.inLoop c :: k) cs hro hb hr
   cases e with
   | normal =>
    obtain ⟨x', hI₁, hlt⟩ := hq
    obtain ⟨e₂, a₂, w₂, hq₂, harr₂⟩ := ih (μ x') (hn ▸ hlt) x' a₁ w₁ rfl hI₁
    exact ⟨e₂, a₂, w₂, hq₂, .of_steps (StepsIn.trans harr (.one (fenced_calm hb hr rfl) stepR_inLoop)) harr₂⟩
   | exit id => exact ⟨_, a₁, w₁, hq, .pass (x := .inLoop c) rfl (fun _ _ => .inl (by simp)) harr⟩
   | goto l => exact ⟨_, a₁, w₁, hq, .pass (x := .inLoop c) rfl (fun _ _ => .inl (by simp)) harr⟩
   | ret => exact ⟨_, a₁, w₁, hq, .pass (x := .inLoop c) rfl (fun _ _ => .inl (by simp)) harr⟩
   | panic ch => exact ⟨_, a₁, w₁, hq, .pass (x := .inLoop c) rfl (fun _ _ => .inl (by simp)) harr⟩
   | outgrown => exact ⟨_, a₁, w₁, hq, .pass (x := .inLoop c) rfl (fun _ _ => .inl (by simp)) harr⟩
 obtain ⟨e, a', w', hq, harr⟩ := key _ x0 a w rfl h0
 exact ⟨e, a', w', hq, .of_steps (.one (fenced_calm hb hr rfl) stepR_loop) harr⟩
/-- A loop: a ghost 'x' tells the frame (KI x), of the memory holds (J x), each round lowers the measure. -/
theorem WC.loop {X : Type} (μ : X → Nat) (KI : X → Known) (J : X → World → Prop) (x0 : X) (hs : subK (KI x0) K) (h0 : J x0 w)
  (round : ∀ x w, J x w → WC P n (KI x) w c (Exit.then (fun a' w' => ∃ x', (Kn n (KI x') a' ∧ J x' w') ∧ μ x' < μ x) Q)) : WC P n K w (.loop c) Q :=
 fun _ ha => wp_loop_ghost (fun x a w => Kn n (KI x) a ∧ J x w) μ (x0 := x0) ⟨ha.sub hs, h0⟩ (fun x a w h => round x w h.2 a h.1)
theorem WE.round {X : Type} {μ : X → Nat} {KI : X → Known} {J : X → World → Prop} {x : X} (x' : X) (hs : subK (KI x') K) (hJ : J x' w) (hm : μ x' < μ x) :
  WE n K w (Exit.then (fun a' w' => ∃ x', (Kn n (KI x') a' ∧ J x' w') ∧ μ x' < μ x) Q) .normal := fun _ ha => ⟨x', ⟨ha.sub hs, hJ⟩, hm⟩
/-! ### A region in the order of the text -/
theorem WC.region {id : Nat} {l : List Oper} (h : WL P l.toArray n K w l Q) : WC P n K w (.region id l.toArray false) Q := fun a ha => wpIn_region_lit (h a ha)
theorem evt (a : Act) (d : Nat) : a.eval (.tmp d) = a.tmps.getD d undef := rfl
theorem WE.go {e : Exit} (ha : Kn n K a) (h : WE n K w Q e) : Q e a w := h a ha
theorem WL.setb {d : Nat} {e b : Bool} (hl : look K d = some (.bool e)) (he : e = b) (h : WL P ops n ((d, .bool b) :: K) w rest Q) : WL P ops n K w rest Q := fun a ha => h a (ha.cons (by rw [ha.knows d _ hl, he]))
theorem WL.nil (h : WE n K w Q .normal) : WL P ops n K w [] Q := h
theorem WL.stepIn {d : Option Nat} {post : Value → World → Prop} (hd : o.dst = d) (hlt : dstB n.n d = true) (hg : o.guard = none)
  (h : ∀ a, Kn n K a → o.wpIn (fen n.r) 0 P a w (fun a' w' => ∃ v, a' = a.put o.dst v ∧ post v w') Q)
  (k : ∀ v w', post v w' → WL P ops n (putK K d v) w' rest Q) : WL P ops n K w (o :: rest) Q := fun a ha =>
 wpListIn_plain hg (fun _ hC => Oper.wpIn_mono (by rintro a' w' ⟨v, rfl, hp⟩; exact hC _ _ (by rw [hd]; exact k v w' hp _ (ha.puts hlt v))) (h a ha))
theorem WL.step {d : Option Nat} {post : Value → World → Prop} (hd : o.dst = d) (hlt : dstB n.n d = true) (hg : o.guard = none)
  (h : ∀ a C, Kn n K a → (∀ v w', post v w' → C (a.put o.dst v) w') → o.wp P a w C Q)
  (k : ∀ v w', post v w' → WL P ops n (putK K d v) w' rest Q) : WL P ops n K w (o :: rest) Q :=
 WL.stepIn hd hlt hg (fun a ha => wpIn_of (h a _ ha (fun v _ hp => ⟨v, rfl, hp⟩)) (by rintro a' w' ⟨v, rfl, _⟩; exact put_defers _ _ _)) k
/-- .. one that yields 'v' and leaves the memory alone. -/
theorem WL.val {d : Nat} (v : Value) (hd : o.dst = some d) (hlt : Nat.blt d n.n = true) (hg : o.guard = none)
  (h : ∀ a C, Kn n K a → C (a.put o.dst v) w → o.wp P a w C Q) (k : WL P ops n ((d, v) :: K) w rest Q) : WL P ops n K w (o :: rest) Q :=
 WL.step (d := some d) (post := fun v' w' => v' = v ∧ w' = w) hd hlt hg (fun a C ha hC => h a C ha (hC _ _ ⟨rfl, rfl⟩)) (by rintro _ _ ⟨rfl, rfl⟩; exact k)
theorem WL.mv {d : Nat} {x : Operand} {v : Value} (hd : o.dst = some d) (hlt : Nat.blt d n.n = true) (hg : o.guard = none) (ho : o.op = .move x) (hv : ev K x = some v) (k : WL P ops n ((d, v) :: K) w rest Q) : WL P ops n K w (o :: rest) Q :=
 WL.val v hd hlt hg (fun a C ha hC => wp_move ho (ha.ev hv) hC) k
theorem WL.asg {d : Nat} {x : Operand} {v : Value} (hd : o.dst = some d) (hlt : Nat.blt d n.n = true) (hg : o.guard = none) (ho : o.op = .assign x) (hv : ev K x = some v) (k : WL P ops n ((d, v) :: K) w rest Q) : WL P ops n K w (o :: rest) Q :=
 WL.val v hd hlt hg (fun a C ha hC => wp_assign ho (ha.ev hv) hC) k
def paramsK : Nat → List Value → Known
 | _, [] => []
 | k, v :: r => (k, v) :: paramsK (k + 1) r
theorem look_params : ∀ (l : List Value) (k d : Nat) (v : Value), look (paramsK k l) d = some v → k ≤ d ∧ l[d - k]? = some v
 | [], _, _, _, h => by simp [paramsK, look] at h
 | x :: r, k, d, v, h => by
  unfold paramsK look at h
  cases hb : Nat.beq k d with
  | true =>
   rw [hb] at h
   obtain rfl := Nat.eq_of_beq_eq_true hb
   simp only [cond_true, Option.some.injEq] at h
   simp [h]
  | false =>
   rw [hb] at h
   obtain ⟨h1, h2⟩ := look_params r (k + 1) d v h
   refine ⟨by omega, ?_⟩
   rw [show d - k = (d - (k + 1)) + 1 by omega, List.getElem?_cons_succ, h2]
theorem Kn.enter {l : List Value} {n : Nat} (hl : l.length ≤ n) : Kn ⟨n, [], none⟩ (paramsK 0 l) { tmps := l.toArray ++ Array.replicate (n - l.toArray.size) undef, defers := [] } := by
 refine ⟨by simp; omega, rfl, fun d v h => ?_⟩
 obtain ⟨_, h2⟩ := look_params l 0 d v h
 have hd : d < l.length := (List.getElem?_eq_some_iff.1 h2).1
 have : l[d] = v := by simpa [hd] using h2
 simp [Array.getD_eq_getD_getElem?, Array.getElem?_append, hd, this]
abbrev bodyPostW (P : Program) (fn : Func) (R : Ending → World → Prop) := bodyPostM Fence.wide 0 P fn R
theorem Calls.walk {f : FuncId} {fn : Func} {c : Code} {l : List Value} {R : Ending → World → Prop} (hf : P.funcs[f]? = some fn) (hb : fn.body = some c) (hl : Nat.ble l.length fn.ntmps = true)
  (h : WC P ⟨fn.ntmps, [], none⟩ (paramsK 0 l) w c (bodyPostW P fn R)) : Calls P f l.toArray w R :=
 callsIn_wide.1 (callsIn_of_wp_marks (n := 0) hf hb trivial (h _ (Kn.enter (Nat.le_of_ble_eq_true hl))))
variable {fn : Func} {R : Ending → World → Prop}
/-- What lies behind the marks of the loops over functions that the call has gone through. -/
inductive Shut : List Deferred → World → World → Prop
 | nil (w : World) : Shut [] w w
 | cons {ds : List Deferred} {w w' : World} (D : Nat) (h : w.heap[D]? = some (.deferred (some []))) (k : Shut ds (w.putObj D (.deferred none)) w') : Shut ({ target := .collected D, args := #[] } :: ds) w w'
theorem leaves_shut {tmps : Array Value} {v : Value} {ds : List Deferred} {w w' : World} (hs : Shut ds w w') (hr : (results fn tmps).run P w' = .ok v w') (hR : R (.returned v) w') : LeavesInM Fence.wide 0 P fn tmps R ds .returning w := by
 induction hs with
 | nil w => exact ⟨v, hr, hR⟩
 | cons D h k ih => exact ⟨by simp, .inl ⟨D, _, rfl, run_takeDeferred h, ih hr hR⟩⟩
variable {N : Nat} {r : Option Nat} {ds : List Deferred} {w' : World}
theorem WE.ret0 (hr : fn.results = #[]) (hR : R (.returned (.tuple #[])) w) : WE ⟨N, [], r⟩ K w (bodyPostW P fn R) .ret := fun a ha => by
 show LeavesInM _ _ _ _ _ _ a.defers _ _
 rw [ha.defers]; exact ⟨_, results_none hr a.tmps P w, hR⟩
theorem WE.end0 (hr : fn.results = #[]) (hR : R (.returned (.tuple #[])) w) : WE ⟨N, [], r⟩ K w (bodyPostW P fn R) .normal := fun a ha => by
 show LeavesInM _ _ _ _ _ _ a.defers _ _
 rw [ha.defers]; exact ⟨_, results_none hr a.tmps P w, hR⟩
theorem WE.ret1 {t : Tmp} {v : Value} (hr : fn.results = #[.tmp t]) (hv : look K t = some v) (hR : R (.returned v) w) : WE ⟨N, [], r⟩ K w (bodyPostW P fn R) .ret := fun a ha => by
 show LeavesInM _ _ _ _ _ _ a.defers _ _
 rw [ha.defers]; exact ⟨_, results_tmp hr a.tmps P w, by rw [ha.knows t v hv]; exact hR⟩
theorem WE.ret2 {t u : Tmp} {v x : Value} (hr : fn.results = #[.tmp t, .tmp u]) (hv : look K t = some v) (hx : look K u = some x) (hR : R (.returned (.tuple #[v, x])) w) : WE ⟨N, [], r⟩ K w (bodyPostW P fn R) .ret := fun a ha => by
 show LeavesInM _ _ _ _ _ _ a.defers _ _
 rw [ha.defers]; exact ⟨_, results_tmp2 hr a.tmps P w, by rw [ha.knows t v hv, ha.knows u x hx]; exact hR⟩
theorem WE.retS1 {t : Tmp} {v : Value} (hr : fn.results = #[.tmp t]) (hv : look K t = some v) (hs : Shut ds w w') (hR : R (.returned v) w') : WE ⟨N, ds, r⟩ K w (bodyPostW P fn R) .ret := fun a ha => by
 show LeavesInM _ _ _ _ _ _ a.defers _ _
 rw [ha.defers]; exact leaves_shut hs (results_tmp hr a.tmps P w') (by rw [ha.knows t v hv]; exact hR)
/-- Results that lie in memory: what is read is said for whatever frame. -/
theorem WE.retAny {v : Value} (hr : ∀ a, Kn ⟨N, [], r⟩ K a → (results fn a.tmps).run P w = .ok v w) (hR : R (.returned v) w) : WE ⟨N, [], r⟩ K w (bodyPostW P fn R) .ret := fun a ha => by
 show LeavesInM _ _ _ _ _ _ a.defers _ _
 rw [ha.defers]; exact ⟨v, hr a ha, hR⟩
end
section
variable {P : Program} {ops : Array Oper}
structure CtxG (ops : Array Oper) (chain : List Nat) (R : Nat → Value → World → Prop) (G : List (Option Value) → World → Prop) (n : Fr) (K : Known) (i : Nat) (o : Oper) (a : Act) (w : World) (vs : List (Option Value)) : Prop where
 now : G vs w
 kn : Kn n K a
 dep : ∀ j d, depB ops o j d = true → chain.contains j = false → R j (a.tmps.getD d undef) w
 len : vs.length = chain.length
 link : ∀ (p c d : Nat), chain[p]? = some c → depB ops o c d = true → vs[p]? = some (some (a.tmps.getD d undef))
 done : ∀ (p c : Nat), chain[p]? = some c → o.after.any (fun e => e.on == c && Region.binds .any e) = true → ∃ v, vs[p]? = some (some v)
 most : ∀ (p c : Nat), chain[p]? = some c → afterB ops c i = true → vs[p]? = some none
 mostT : ∀ (p c : Nat), chain[p]? = some c → (ancL ops c).contains i = true → vs[p]? = some none
def SoundG (P : Program) (ops : Array Oper) (Q : Exit → Act → World → Prop) (chain : List Nat) (R : Nat → Value → World → Prop) (Le : World → World → Prop) (G : List (Option Value) → World → Prop) (n : Fr) (K : Known) (i : Nat) (o : Oper) : Prop :=
 (chain.contains i = false ∧ ∃ β, GuardIs R o β ∧ (∀ g b, o.guard = some (g, b) → chain.contains g = false) ∧ (β = false → ∀ w, R i undef w) ∧
  (β = true → ∀ (a : Act) (w : World) (vs : List (Option Value)), CtxG ops chain R G n K i o a w vs →
   o.wpIn (fen n.r) 0 P a w (fun a' w' => ∃ v, a' = Act.put a o.dst v ∧ Le w w' ∧ G vs w' ∧ R i v w') Q)) ∨
 (∃ p, chain[p]? = some i ∧ o.guard = none ∧ ∀ (a : Act) (w : World) (vs : List (Option Value)), CtxG ops chain R G n K i o a w vs → vs[p]? = some none →
   o.wpIn (fen n.r) 0 P a w (fun a' w' => ∃ v, a' = Act.put a o.dst v ∧ Le w w' ∧ G (vs.set p (some v)) w') Q)
def SoundFromG (P : Program) (ops : Array Oper) (Q : Exit → Act → World → Prop) (chain : List Nat) (R : Nat → Value → World → Prop) (Le : World → World → Prop) (G : List (Option Value) → World → Prop) (n : Fr) (K : Known) : Nat → List Oper → Prop
 | _, [] => True
 | k, o :: r => SoundG P ops Q chain R Le G n K k o ∧ SoundFromG P ops Q chain R Le G n K (k + 1) r
theorem SoundFromG.at_ {Q : Exit → Act → World → Prop} {chain : List Nat} {R : Nat → Value → World → Prop} {Le : World → World → Prop} {G : List (Option Value) → World → Prop} {n : Fr} {K : Known} : ∀ {l : List Oper} {k : Nat}, SoundFromG P ops Q chain R Le G n K k l → ∀ i o, l[i]? = some o → SoundG P ops Q chain R Le G n K (k + i) o
 | [], _, _, i, o, h => by simp at h
 | x :: r, k, h, 0, o, ho => by simp at ho; subst ho; exact h.1
 | x :: r, k, h, i + 1, o, ho => by
  have := h.2.at_ i o (by simpa using ho)
  rwa [show k + 1 + i = k + (i + 1) by omega] at this
structure AtG (ops : Array Oper) (chain : List Nat) (R : Nat → Value → World → Prop) (G : List (Option Value) → World → Prop) (n : Fr) (K : Known) (listed : Array Bool) (a : Act) (vs : List (Option Value)) (w : World) : Prop where
 size : listed.size = ops.size
 kn : Kn n K a
 plain : ∀ i d, chain.contains i = false → listed.getD i false = true → (ops[i]?).bind (·.dst) = some d → R i (a.tmps.getD d undef) w
 link : ∀ p c : Nat, chain[p]? = some c → (listed.getD c false = true ↔ ∃ v, vs[p]? = some (some v))
 vals : ∀ (p c d : Nat), chain[p]? = some c → listed.getD c false = true → (ops[c]?).bind (·.dst) = some d → vs[p]? = some (some (a.tmps.getD d undef))
 len : vs.length = chain.length
 closed : ∀ i o, ops[i]? = some o → listed.getD i false = true → ∀ e ∈ o.after, Region.binds .any e = true → listed.getD e.on false = true
 now : G vs w
def clearB (ops : Array Oper) (K : Known) : Bool := K.all fun p => !((dstsOf ops).contains p.1)
theorem clearB_look {K : Known} (h : clearB ops K = true) {d : Nat} (hd : (dstsOf ops).contains d = true) : look K d = none := by
 induction K with
 | nil => rfl
 | cons p r ih =>
  obtain ⟨k, v⟩ := p
  simp only [clearB, List.all_cons, Bool.and_eq_true, Bool.not_eq_true'] at h
  unfold look
  cases hb : Nat.beq k d with
  | true =>
   obtain rfl := Nat.eq_of_beq_eq_true hb
   rw [hd] at h; cases h.1
  | false => exact ih (by simpa only [clearB] using h.2)
theorem act_put_other {a : Act} {d : Option Nat} {v : Value} {k : Nat} (h : d ≠ some k) : (Act.put a d v).tmps.getD k undef = a.tmps.getD k undef := by
 cases d with
 | none => rfl
 | some d =>
  have : d ≠ k := fun e => h (by rw [e])
  simp [Act.put, Array.getD_eq_getD_getElem?, this]
theorem act_put_self {a : Act} {v : Value} {k : Nat} (h : k < a.tmps.size) : (Act.put a (some k) v).tmps.getD k undef = v := by
 simp [Act.put, h]
theorem Kn.put_clear {n : Fr} {K : Known} {a : Act} (h : Kn n K a) {d : Option Nat} (hd : ∀ k, d = some k → look K k = none) (v : Value) : Kn n K (a.put d v) := by
 refine ⟨?_, ?_, fun k x e => ?_⟩
 ·cases d <;> simpa [Act.put] using h.size
 ·cases d <;> exact h.defers
 ·rw [act_put_other (fun e' => by rw [hd k e'] at e; cases e)]
  exact h.knows k x e
theorem wp_any_gen {Q : Exit → Act → World → Prop} {n : Fr} {K : Known} (chain : List Nat) (R : Nat → Value → World → Prop) (Le : World → World → Prop) (G : List (Option Value) → World → Prop)
  (hB : opsB ops n.n = true) (hnd : chain.Nodup) (hin : (chain.all fun c => Nat.blt c ops.size) = true) (hclear : clearB ops K = true)
  (hR : ∀ i v w w', R i v w → Le w w' → R i v w')
  (h : SoundFromG P ops Q chain R Le G n K 0 ops.toList)
  (hQ : ∀ (a : Act) (w : World) (vs : List (Option Value)), Kn n K a → vs.length = chain.length → (∀ p, p < chain.length → ∃ v, vs[p]? = some (some v)) → G vs w → (∀ i d, (ops[i]?).bind (·.dst) = some d → chain.contains i = false → R i (a.tmps.getD d undef) w) → (∀ (p c d : Nat), chain[p]? = some c → (ops[c]?).bind (·.dst) = some d → vs[p]? = some (some (a.tmps.getD d undef))) → Q .normal a w) :
  ∀ (a0 : Act) (w0 : World), Kn n K a0 → G (List.replicate chain.length none) w0 → wpAnyIn (fen n.r) 0 P .any ops Q ops.size (Array.replicate ops.size false) a0 w0 := by
 have main : ∀ (fuel : Nat) (listed : Array Bool) (a : Act) (vs : List (Option Value)) (w : World), listed.toList.count false ≤ fuel → AtG ops chain R G n K listed a vs w →
   wpAnyIn (fen n.r) 0 P .any ops Q fuel listed a w := by
  intro fuel
  have done : ∀ (listed : Array Bool) (a : Act) (vs : List (Option Value)) (w : World), Region.ready .any ops listed = [] → AtG ops chain R G n K listed a vs w → Q .normal a w := by
   intro listed a vs w hr H
   have all : ∀ i, i < ops.size → listed.getD i false = true := fun i hi => by
    have := ready_nil hB H.size hr i hi
    have hs := H.size
    simpa [Array.getD, show i < listed.size by omega] using this
   have hin' : ∀ p c, chain[p]? = some c → c < ops.size := fun p c hc => by
    have := List.all_eq_true.1 hin _ (List.mem_of_getElem? hc)
    simpa [Nat.blt_eq] using this
   have lt_of : ∀ i d, (ops[i]?).bind (·.dst) = some d → i < ops.size := fun i d hd => by
    rcases Nat.lt_or_ge i ops.size with h | h
    ·exact h
    ·simp [Array.getElem?_eq_none h] at hd
   exact hQ a w vs H.kn H.len (fun p hp => (H.link p chain[p] (by simp [hp])).1 (all _ (hin' p _ (by simp [hp])))) H.now (fun i d hd hc => H.plain i d hc (all i (lt_of i d hd)) hd) (fun p c d hc hd => H.vals p c d hc (all c (hin' p c hc)) hd)
  induction fuel with
  | zero =>
   intro listed a vs w hc H
   have hr : Region.ready .any ops listed = [] := by
    cases hr : Region.ready .any ops listed with
    | nil => rfl
    | cons i r =>
     have := (mem_ready (md := .any) (ops := ops) (j := i) (listed := listed)).1 (by rw [hr]; simp)
     rw [count_zero hc i] at this
     simp at this
   exact ⟨hr, done listed a vs w hr H⟩
  | succ fuel ih =>
   intro listed a vs w hc H
   refine ⟨fun hr => done listed a vs w hr H, fun i hi => ?_⟩
   obtain ⟨hun, o, ho, haf⟩ := mem_ready.1 hi
   have hilt : i < ops.size := by
    rcases Nat.lt_or_ge i ops.size with h | h
    ·exact h
    ·simp [Array.getElem?_eq_none h] at ho
   have hils : i < listed.size := by have := H.size; omega
   have hun' := getD_false_of hun
   have ok := opsB_spec hB ho
   have hs2 := h.at_ i o (by simpa using ho)
   rw [Nat.zero_add] at hs2
   have after_of : ∀ j d, depB ops o j d = true → listed.getD j false = true ∧ (ops[j]?).bind (·.dst) = some d := by
    intro j d hj
    simp only [depB, Bool.and_eq_true, Array.any_eq_true, beq_iff_eq] at hj
    obtain ⟨⟨k, hk, h1, h2⟩, h3⟩ := hj
    exact ⟨h1 ▸ haf _ (Array.getElem_mem hk) h2, h3⟩
   have ctx : CtxG ops chain R G n K i o a w vs := by
    have opt : ∀ p c, chain[p]? = some c → listed.getD c false = false → vs[p]? = some none := fun p c hc hl => by
     have hp : p < vs.length := by rw [H.len]; exact (List.getElem?_eq_some_iff.1 hc).1
     rw [List.getElem?_eq_getElem hp]
     cases hx : vs[p] with
     | none => rfl
     | some v =>
      have := (H.link p c hc).2 ⟨v, by rw [List.getElem?_eq_getElem hp, hx]⟩
      rw [hl] at this; cases this
    refine ⟨H.now, H.kn, fun j d hj hc => H.plain j d hc (after_of j d hj).1 (after_of j d hj).2, H.len, fun p c d hc hj => H.vals p c d hc (after_of c d hj).1 (after_of c d hj).2, fun p c hc ha => ?_, fun p c hc ha => opt p c hc ?_, fun p c hc ha => opt p c hc ?_⟩
    ·simp only [Array.any_eq_true, Bool.and_eq_true, beq_iff_eq] at ha
     obtain ⟨k, hk, h1, h2⟩ := ha
     exact (H.link p c hc).1 (h1 ▸ haf _ (Array.getElem_mem hk) h2)
    ·cases hl : listed.getD c false with
     | false => rfl
     | true =>
      exfalso
      unfold afterB at ha
      split at ha
      ·rename_i oc hoc
       simp only [Array.any_eq_true, Bool.and_eq_true, beq_iff_eq] at ha
       obtain ⟨k, hk, h1, h2⟩ := ha
       have := H.closed c oc hoc hl _ (Array.getElem_mem hk) h2
       rw [h1, hun'] at this
       cases this
      ·cases ha
    ·cases hl : listed.getD c false with
     | false => rfl
     | true =>
      exfalso
      have := anc_listed H.closed hl i (by simpa using ha)
      rw [hun'] at this
      cases this
   unfold wpOpIn
   simp only [ho]
   -- what is behind a step
   have step : ∀ (v : Value) (vs' : List (Option Value)) (w' : World), (∀ j u, R j u w → R j u w') → G vs' w' → (∀ d, o.dst = some d → chain.contains i = false → R i v w') →
     ((chain.contains i = false ∧ vs' = vs) ∨ (∃ p, chain[p]? = some i ∧ vs' = vs.set p (some v))) →
     wpAnyIn (fen n.r) 0 P .any ops Q fuel (listed.setIfInBounds i true) (Act.put a o.dst v) w' := by
    intro v vs' w' hle hG hRi hvs
    have hc' := count_set (l := listed) hils hun hc
    have hset : ∀ j, (listed.setIfInBounds i true).getD j false = true ↔ j = i ∨ listed.getD j false = true := by
     intro j
     by_cases hj : j = i
     ·subst hj; simp [getD_set_eq hils]
     ·rw [getD_set_ne false (Ne.symm hj)]; simp [hj]
    have hother : ∀ j k, j ≠ i → (ops[j]?).bind (·.dst) = some k → (Act.put a o.dst v).tmps.getD k undef = a.tmps.getD k undef := by
     intro j k hji hjk
     refine act_put_other (fun hd => ?_)
     have hjlt : j < ops.size := by
      rcases Nat.lt_or_ge j ops.size with h | h
      ·exact h
      ·simp [Array.getElem?_eq_none h] at hjk
     exact hji (ok.own k j hd hjlt hjk).symm
    have hself : ∀ d, (ops[i]?).bind (·.dst) = some d → (Act.put a o.dst v).tmps.getD d undef = v := by
     intro d hd
     rw [ho] at hd
     simp only [Option.bind_some] at hd
     rw [hd]
     exact act_put_self (by rw [H.kn.size]; exact ok.lt d hd)
    refine ih _ _ vs' w' hc' ⟨by simpa using H.size, H.kn.put_clear (fun k hk => clearB_look hclear (mem_dsts ho hk)) v, fun j d hjc hj hjd => ?_, fun p c hpc => ?_, fun p c d hpc hp hcd => ?_, ?_, fun j oj hoj hj e he hb => ?_, hG⟩
    ·by_cases hji : j = i
     ·subst hji
      rw [hself d hjd]
      rw [ho] at hjd
      exact hRi d hjd hjc
     ·rw [hother j d hji hjd]
      exact hle _ _ (H.plain j d hjc (((hset j).1 hj).resolve_left hji) hjd)
    ·rw [hset]
     rcases hvs with ⟨hci, rfl⟩ | ⟨q, hq, rfl⟩
     ·have : c ≠ i := by
       rintro rfl
       have := List.mem_of_getElem? hpc
       simp [this] at hci
      exact ⟨fun h => (H.link p c hpc).1 (h.resolve_left this), fun h => .inr ((H.link p c hpc).2 h)⟩
     ·have hpl : q < vs.length := by rw [H.len]; exact (List.getElem?_eq_some_iff.1 hq).1
      by_cases hpq : p = q
      ·subst hpq
       rw [hq] at hpc
       simp only [Option.some.injEq] at hpc
       subst hpc
       exact ⟨fun _ => ⟨v, by rw [List.getElem?_set_self hpl]⟩, fun _ => .inl rfl⟩
      ·have hci : c ≠ i := by
        rintro rfl
        exact hpq ((List.getElem?_inj (List.getElem?_eq_some_iff.1 hpc).1 hnd).1 (hpc.trans hq.symm))
       rw [List.getElem?_set_ne (Ne.symm hpq)]
       exact ⟨fun h => (H.link p c hpc).1 (h.resolve_left hci), fun h => .inr ((H.link p c hpc).2 h)⟩
    ·rcases hvs with ⟨hci, rfl⟩ | ⟨q, hq, rfl⟩
     ·have hne : c ≠ i := by
       rintro rfl
       have := List.mem_of_getElem? hpc
       simp [this] at hci
      rw [hother c d hne hcd]
      exact H.vals p c d hpc (((hset c).1 hp).resolve_left hne) hcd
     ·have hpl : q < vs.length := by rw [H.len]; exact (List.getElem?_eq_some_iff.1 hq).1
      by_cases hpq : p = q
      ·subst hpq
       rw [hq] at hpc
       simp only [Option.some.injEq] at hpc
       subst hpc
       rw [hself d hcd, List.getElem?_set_self hpl]
      ·have hne : c ≠ i := by
        rintro rfl
        exact hpq ((List.getElem?_inj (List.getElem?_eq_some_iff.1 hpc).1 hnd).1 (hpc.trans hq.symm))
       rw [hother c d hne hcd, List.getElem?_set_ne (Ne.symm hpq)]
       exact H.vals p c d hpc (((hset c).1 hp).resolve_left hne) hcd
    ·rcases hvs with ⟨hci, rfl⟩ | ⟨q, hq, rfl⟩
     ·exact H.len
     ·rw [List.length_set]; exact H.len
    ·rw [hset]
     by_cases hji : j = i
     ·subst hji
      rw [ho] at hoj
      simp only [Option.some.injEq] at hoj
      subst hoj
      exact .inr (haf e he hb)
     ·exact .inr (H.closed j oj hoj (((hset j).1 hj).resolve_left hji) e he hb)
   rcases hs2 with ⟨hci, β, hg, hgc, hs1, hs2⟩ | ⟨p, hp, hgn, hs2⟩
   ·have hwant : Region.wanted o (yielded ops a.tmps) = β := by
     have known : ∀ g c d b, o.guard = some (g, b) → (∀ v w, R g v w → (d = true → v = .bool c) ∧ (d = false → v = undef)) → yielded ops a.tmps g = if d then some c else none := by
      intro g c dd b hgb hv
      obtain ⟨⟨e, he, h1, h2⟩, d, hd⟩ := ok.guard g b hgb
      have hv := hv (a.tmps.getD d undef) w (H.plain g d (hgc g b hgb) (h1 ▸ haf e he h2) hd)
      have hdlt : d < a.tmps.size := by
       obtain ⟨og, hog, hgd⟩ := Option.bind_eq_some_iff.1 hd
       rw [H.kn.size]
       exact (opsB_spec hB hog).lt d hgd
      unfold yielded
      rw [hd]
      simp only [Array.getD_eq_getD_getElem?, Array.getElem?_eq_getElem hdlt, Option.getD_some] at hv
      cases dd with
      | true => simp [hdlt, hv.1 rfl]
      | false => simp [hdlt, hv.2 rfl, undef]
     cases hg with
     | none h => unfold Region.wanted; rw [h]
     | @yes g c d h hv => have := known _ _ _ _ h hv; unfold Region.wanted; rw [h]; simp only [this]; cases d <;> simp
     | @no g c d h hv => have := known _ _ _ _ h hv; unfold Region.wanted; rw [h]; simp only [this]; cases d <;> cases c <;> simp
    cases hβ : β with
    | false =>
     rw [hβ] at hwant
     simp only [hwant, Bool.false_eq_true, if_false]
     refine ⟨fun f _ => fen_fn _ f, ?_⟩
     exact step undef vs w (fun _ _ h => h) H.now (fun _ _ _ => hs1 hβ w) (.inl ⟨hci, rfl⟩)
    | true =>
     rw [hβ] at hwant
     simp only [hwant, if_true]
     refine Oper.wpIn_mono ?_ (hs2 hβ a w vs ctx)
     rintro a' w' ⟨v, rfl, hle, hG, hRi⟩
     exact step v vs w' (fun j u hj => hR j u _ _ hj hle) hG (fun _ _ _ => hRi) (.inl ⟨hci, rfl⟩)
   ·have hwant : Region.wanted o (yielded ops a.tmps) = true := by unfold Region.wanted; rw [hgn]
    have hnone : vs[p]? = some none := by
     have hp' : p < vs.length := by rw [H.len]; exact (List.getElem?_eq_some_iff.1 hp).1
     rw [List.getElem?_eq_getElem hp']
     cases hx : vs[p] with
     | none => rfl
     | some v =>
      have := (H.link p i hp).2 ⟨v, by rw [List.getElem?_eq_getElem hp', hx]⟩
      rw [hun'] at this; cases this
    simp only [hwant, if_true]
    refine Oper.wpIn_mono ?_ (hs2 a w vs ctx hnone)
    rintro a' w' ⟨v, rfl, hle, hG⟩
    have hcc : chain.contains i = true := by
     have := List.mem_of_getElem? hp
     simpa using this
    exact step v (vs.set p (some v)) w' (fun j u hj => hR j u _ _ hj hle) hG (fun _ _ h => by rw [hcc] at h; cases h) (.inr ⟨p, hp, rfl⟩)
 intro a0 w0 hk0 h0
 have nothing' : ∀ i, (Array.replicate ops.size false).getD i false = false := fun i => by
  by_cases h : i < ops.size <;> simp [Array.getD, h]
 refine main _ _ _ (List.replicate chain.length none) _ (by simp) ⟨by simp, hk0, fun i d _ hi => ?_, fun p c hpc => ?_, fun p c d _ hp => ?_, by simp, fun i o _ hi => ?_, h0⟩
 ·rw [nothing'] at hi; cases hi
 ·rw [nothing']
  refine ⟨fun h => (by cases h), fun ⟨v, hv⟩ => ?_⟩
  have hp := (List.getElem?_eq_some_iff.1 hpc).1
  simp [hp] at hv
 ·rw [nothing'] at hp; cases hp
 ·rw [nothing'] at hi; cases hi
/-- The law: of what is known of the frame 'K0' is what the region does not write. -/
theorem WC.gen {id : Nat} {dr : Bool} {Q : Exit → Act → World → Prop} {n : Fr} {K : Known} {w : World} (chain : List Nat) (R : Nat → Value → World → Prop) (Le : World → World → Prop) (G : List (Option Value) → World → Prop) (K0 : Known)
  (hs : subK K0 K) (hclear : clearB ops K0 = true) (hm : P.follows .mixedOrders = true) (hB : opsB ops n.n = true) (hnd : chain.Nodup) (hin : (chain.all fun c => Nat.blt c ops.size) = true)
  (hR : ∀ i v w w', R i v w → Le w w' → R i v w') (h0 : G (List.replicate chain.length none) (bif dr then w.drew else w))
  (h : SoundFromG P ops Q chain R Le G n K0 0 ops.toList)
  (hQ : ∀ (a : Act) (w : World) (vs : List (Option Value)), Kn n K0 a → vs.length = chain.length → (∀ p, p < chain.length → ∃ v, vs[p]? = some (some v)) → G vs w → (∀ i d, (ops[i]?).bind (·.dst) = some d → chain.contains i = false → R i (a.tmps.getD d undef) w) → (∀ (p c d : Nat), chain[p]? = some c → (ops[c]?).bind (·.dst) = some d → vs[p]? = some (some (a.tmps.getD d undef))) → Q .normal a w) :
  WC P n K w (.region id ops dr) Q := by
 intro a ha
 have main := wp_any_gen chain R Le G hB hnd hin hclear hR h hQ a
 cases dr with
 | true => exact wpIn_region_any hm (main _ (ha.sub hs) h0)
 | false => exact any_start hB (main _ (ha.sub hs) h0)
/-! ### Where no operation changes what was there -/
/-- An operation of such a region. -/
structure CtxO (ops : Array Oper) (S : List (Bool × Sp)) (n : Fr) (K : Known) (w0 : World) (o : Oper) (a : Act) (w : World) : Prop where
 below : Below w0.heap.size w0 w
 kn : Kn n K a
 dep : ∀ j d, depB ops o j d = true → optR S j (a.tmps.getD d undef) w
def SoundO (P : Program) (ops : Array Oper) (Q : Exit → Act → World → Prop) (S : List (Bool × Sp)) (n : Fr) (K : Known) (w0 : World) : Nat → List Oper → Prop
 | _, [] => True
 | i, o :: r => (∃ β, GuardIs (optR S) o β ∧ (β = false → ∀ w, optR S i undef w) ∧
  (β = true → ∀ a w, CtxO ops S n K w0 o a w → o.wp P a w (fun a' w' => ∃ v, a' = Act.put a o.dst v ∧ Below w.heap.size w w' ∧ optR S i v w') Q)) ∧ SoundO P ops Q S n K w0 (i + 1) r
theorem SoundO.gen {Q : Exit → Act → World → Prop} {S : List (Bool × Sp)} {n : Fr} {K : Known} {w0 : World} : ∀ {l : List Oper} {i : Nat}, SoundO P ops Q S n K w0 i l →
  SoundFromG P ops Q [] (optR S) (fun w w' => Below w.heap.size w w') (fun _ w => Below w0.heap.size w0 w) n K i l
 | [], _, _ => trivial
 | o :: r, i, ⟨⟨β, h1, h2, h3⟩, h4⟩ => by
  refine ⟨.inl ⟨rfl, β, h1, fun _ _ _ => rfl, h2, fun hβ a w vs C => ?_⟩, h4.gen⟩
  refine Oper.wpIn_mono ?_ (wpIn_of (h3 hβ a w ⟨C.now, C.kn, fun j d hj => C.dep j d hj rfl⟩) (by rintro a' w' ⟨v, rfl, _⟩; exact put_defers _ _ _))
  rintro a' w' ⟨v, rfl, hb, hR⟩
  exact ⟨v, rfl, hb, bstep C.now hb, hR⟩
theorem WC.opt {id : Nat} {dr : Bool} {Q : Exit → Act → World → Prop} {n : Fr} {K : Known} {w : World} (S : List (Bool × Sp)) (K0 : Known)
  (hs : subK K0 K) (hclear : clearB ops K0 = true) (hm : P.follows .mixedOrders = true) (hB : opsB ops n.n = true)
  (h : SoundO P ops Q S n K0 w 0 ops.toList)
  (hQ : ∀ (a : Act) (w' : World), Kn n K0 a → Below w.heap.size w w' → (∀ i d, (ops[i]?).bind (·.dst) = some d → optR S i (a.tmps.getD d undef) w') → Q .normal a w') :
  WC P n K w (.region id ops dr) Q := by
 refine WC.gen [] (optR S) (fun w w' => Below w.heap.size w w') (fun _ w' => Below w.heap.size w w') K0 hs hclear hm hB List.nodup_nil rfl (optKeep S) ?_ h.gen (fun a w' vs hk _ _ hG hu _ => hQ a w' hk hG (fun i d hd => hu i d hd rfl))
 cases dr with
 | true => exact (Below.refl _ _).drew
 | false => exact Below.refl _ _
end
end Go.Proofs.Ytbohlpfndiiimaa

/- A block that is known whole. -/
namespace Go.Proofs.Ytbohlpfndiiimaa
open Go.RowKit
def Blk (w : World) (g : Nat) (t : TypeId) (cs : Array Value) : Prop := w.heap[g]? = some (.cells cs t (0, 0))
section
variable {w w' : World} {g : Nat} {t : TypeId} {cs : Array Value}
theorem Blk.lt (h : Blk w g t cs) : g < w.heap.size := lt_of_block h
theorem Blk.cell (h : Blk w g t cs) (i : Nat) : w.cell? ⟨g, i, none⟩ = cs[i]? := by unfold Blk at h; simp [World.cell?, h]
theorem Blk.frozen (h : Blk w g t cs) (i : Nat) : w.frozen? ⟨g, i, none⟩ = false := by unfold Blk at h; simp [World.frozen?, h]
theorem Blk.new' {b : Nat} (h : w.heap.size = b) : Blk (w.alloc (.cells cs t)) b t cs := heap_new' h
theorem Blk.set_ (h : Blk w g t cs) (i : Nat) (u : Value) : Blk (w.setCell ⟨g, i, none⟩ u) g t (cs.setIfInBounds i u) := by
  unfold Blk at h ⊢
  simp [World.setCell, Array.getElem?_modify, h]
theorem Blk.below (h : Blk w g t cs) (hb : Below w.heap.size w w') : Blk w' g t cs := (hb.block g h.lt).trans h
end
end Go.Proofs.Ytbohlpfndiiimaa

/- What printed walks lean on. -/
namespace Go.Proofs.Ytbohlpfndiiimaa
open Go.RowKit Go
theorem wrap_eq {e r : Int} (h : e = r) (h0 : -9223372036854775808 ≤ r) (h1 : r ≤ 9223372036854775807) : IntKind.i64.wrap e = r := by
  subst h; exact IntWalk.i64_in _ (by omega)
/-- A byte of a text. -/
def bget (s : ByteArray) (k : Nat) : Int := ((s.data.toList.getD k 0).toNat : Int)
theorem bget_lt {s : ByteArray} {k : Nat} (h : k < s.size) : bget s k = (s[k].toNat : Int) := by
  have h' : k < s.data.size := h
  have : s[k] = s.data[k] := rfl
  rw [this]
  unfold bget
  rw [List.getD_eq_getElem?_getD, Array.getElem?_toList, Array.getElem?_eq_getElem h']
  rfl
theorem bytes_eq (m n : ByteArray) : (m.toList == n.toList) = decide (m = n) := by
  rw [Bool.eq_iff_iff, beq_iff_eq, decide_eq_true_eq]
  refine ⟨fun h => ?_, fun h => by rw [h]⟩
  rw [ByteArray.toList_eq, ByteArray.toList_eq] at h
  exact ByteArray.ext (Array.toList_inj.1 h)
/-- A new block. -/
def NewBlk (w : World) (t : TypeId) (cs : Array Value) (v : Value) (w' : World) : Prop :=
  ∃ g, v = .pointer (some ⟨g, 0, none⟩) ∧ w.heap.size = g ∧ Blk w' g t cs ∧ Below w.heap.size w w' ∧ w'.heap.size = g + 1
theorem newBlk (w : World) (t : TypeId) (cs : Array Value) : NewBlk w t cs (.pointer (some ⟨w.heap.size, 0, none⟩)) (w.alloc (.cells cs t)) :=
  ⟨_, rfl, rfl, Blk.new' rfl, balloc _ _, by simp⟩
/-- A new row. -/
def NewRow (w : World) (t : TypeId) (cs : Array Value) (n : Nat) (v : Value) (w' : World) : Prop :=
  ∃ g, v = .slice (some ⟨g, 0, none⟩) n n ∧ w.heap.size = g ∧ Blk w' g t cs ∧ Below w.heap.size w w' ∧ w'.heap.size = g + 1
theorem newRow (w : World) (t : TypeId) (cs : Array Value) (n : Nat) : NewRow w t cs n (.slice (some ⟨w.heap.size, 0, none⟩) n n) (w.alloc (.cells cs t)) :=
  ⟨_, rfl, rfl, Blk.new' rfl, balloc _ _, by simp⟩
/-- One block may have been written. -/
structure Upd (g : Nat) (w w' : World) : Prop where
  os : w'.os = w.os
  tape : w'.tape = w.tape
  output : w'.output = w.output
  size : w'.heap.size = w.heap.size
  block : ∀ k, k ≠ g → w'.heap[k]? = w.heap[k]?
theorem Upd.set (w : World) (p : Addr) (v : Value) : Upd p.block w (w.setCell p v) := ⟨rfl, rfl, rfl, by simp [World.setCell], fun _ hk => Below.heap_setCell _ _ _ _ hk⟩
theorem Upd.at_ (w : World) (g i : Nat) (v : Value) : Upd g w (w.setCell ⟨g, i, none⟩ v) := Upd.set w ⟨g, i, none⟩ v
theorem Upd.trans {g : Nat} {a b c : World} (h : Upd g a b) (k : Upd g b c) : Upd g a c :=
  ⟨k.os.trans h.os, k.tape.trans h.tape, k.output.trans h.output, k.size.trans h.size, fun i hi => (k.block i hi).trans (h.block i hi)⟩
theorem upd_below {g : Nat} {w0 w w' : World} (h : Below w0.heap.size w0 w) (hu : Upd g w w') (hg : w0.heap.size ≤ g) : Below w0.heap.size w0 w' :=
  h.trans ⟨hu.os, hu.tape, hu.output, Nat.le_of_eq hu.size.symm, fun k hk => hu.block k (by omega)⟩
theorem upd_blk {g b : Nat} {t : TypeId} {cs : Array Value} {w w' : World} (h : Blk w b t cs) (hu : Upd g w w') (hne : b ≠ g) : Blk w' b t cs := (hu.block b hne).trans h
/-- The address of a slice's slice. -/
def slA (r : Option Addr) (k size c : Nat) : Option Addr := if c = k then r else r.map (·.add (k * size))
theorem slA_some {b o k size c : Nat} (h : k < c) : slA (some ⟨b, o, none⟩) k size c = some ⟨b, o + k * size, none⟩ := by
  unfold slA
  rw [if_neg (by omega), Option.map_some, add_plain2]
/-- It returns. -/
abbrev Ret (Post : Value → World → Prop) : Ending → World → Prop := fun e w' => ∃ v, e = .returned v ∧ Post v w'
theorem ret_of {P : Program} {F : FuncId} {vs : Array Value} {w : World} {v : Value} (h : Calls P F vs w fun e w' => e = .returned v ∧ Below w.heap.size w w') :
    Calls P F vs w (Ret fun v' w' => v' = v ∧ Below w.heap.size w w') := h.mono (by rintro e w' ⟨rfl, hb⟩; exact ⟨_, rfl, rfl, hb⟩)
section
variable {P : Program} {n : Fr} {K : Known} {w : World} {ops : Array Oper} {o : Oper} {rest : List Oper} {Q : Exit → Act → World → Prop}
theorem WL.call {d : Option Nat} {F : FuncId} {vs : Array Value} {Post : Value → World → Prop} (hd : o.dst = d) (hlt : dstB n.n d = true) (hg : o.guard = none)
    (h : ∀ a, Kn n K a → ∀ C : Act → World → Prop, Calls P F vs w (Ret Post) → (∀ v w', Post v w' → C (a.put o.dst v) w') → o.wp P a w C Q)
    (hc : Calls P F vs w (Ret Post)) (k : ∀ v w', Post v w' → WL P ops n (putK K d v) w' rest Q) : WL P ops n K w (o :: rest) Q :=
  WL.step hd hlt hg (fun a C ha hC => h a ha C hc hC) k
theorem hv4 {g : Operand → Value} {x y z x4 : Operand} {u v r v4 : Value} (h1 : g x = u) (h2 : g y = v) (h3 : g z = r) (h4 : g x4 = v4) : #[x, y, z, x4].map g = #[u, v, r, v4] := by simp [h1, h2, h3, h4]
theorem hv5 {g : Operand → Value} {x y z x4 x5 : Operand} {u v r v4 v5 : Value} (h1 : g x = u) (h2 : g y = v) (h3 : g z = r) (h4 : g x4 = v4) (h5 : g x5 = v5) : #[x, y, z, x4, x5].map g = #[u, v, r, v4, v5] := by simp [h1, h2, h3, h4, h5]
variable {a : Act} {C : Act → World → Prop}
theorem mkfn {fn : Fn} {xs ys : Array Operand} {us vs : Array Value} (ho : o.op = .makeFunc fn xs ys) (hx : xs.map a.eval = us) (hy : ys.map a.eval = vs) (hK : C (a.put o.dst (.func fn us vs)) w) : o.wp P a w C Q := by
  unfold Oper.wp execOp
  simp only [ho, hx, hy]
  go_simp
  exact hK
theorem wp_callv {F : FuncId} {f : Operand} {xs : Array Operand} {tys : Array TypeId} {us first cap : Array Value} {R : Value → World → Prop} (hF : callB P F = true) (ho : o.op = .call { callee := .value f, args := xs, argTypes := tys }) (hf : a.eval f = .func (.func F) first cap) (hv : xs.map a.eval = us)
    (h : Calls P F (first ++ us ++ cap) w fun e w' => ∃ v, e = .returned v ∧ R v w') (hK : ∀ v w', R v w' → C (a.put o.dst v) w') : o.wp P a w C Q := by
  unfold callB at hF
  split at hF
  · rename_i fn hfn
    simp only [Bool.and_eq_true, Bool.not_eq_true'] at hF
    have hp : (Sem.run P program w) = .ok P w := rfl
    unfold Oper.wp execOp
    simp only [ho, resolve, hv, hf, Deferred.ofValue, invoke, callFunc, Sem.run_bind, Sem.run_pure, Result.andThen_ok, hp, hfn, hF.1, hF.2, Bool.false_eq_true, if_false]
    refine h.mono ?_
    rintro e w' ⟨v, rfl, hR⟩
    exact hK v w' hR
  · simp at hF
end
/-! ### Rows of the call's own, appended to -/
/-- What is appended: the cells of a slice. -/
def SrcIs (w : World) (x : Value) (m : Nat) (news : List Value) : Prop :=
  (∃ ad c, x = .slice (some ad) m c ∧ ∀ j u, news[j]? = some u → w.cell? (ad.add j) = some u) ∨ (∃ c, x = .slice none 0 c ∧ m = 0 ∧ news = [])
theorem SrcIs.ofBlk {w : World} {g : Nat} {t : TypeId} {cs : List Value} {m c : Nat} (h : Blk w g t cs.toArray) : SrcIs w (.slice (some ⟨g, 0, none⟩) m c) m cs := by
  refine .inl ⟨_, _, rfl, fun j u hj => ?_⟩
  rw [add_plain2, Nat.zero_add, h.cell]
  simpa using hj
/-- What an append leaves. -/
structure Grown (w : World) (base : Nat) (e : TypeId) (size : Nat) (v : Value) (n : Nat) (xs : List Value) (ra : Option Addr) (rc : Nat) (w' : World) : Prop where
  own : w'.ownsRow base e size (.slice ra n rc) n xs
  grow : w.grownBy w' v.ownBlock
  at_ : (Value.slice ra n rc).ownBlock = v.ownBlock ∨ (Value.slice ra n rc).ownBlock = some w.heap.size
theorem ownsRow_form {w : World} {base : Nat} {e : TypeId} {size : Nat} {v : Value} {n : Nat} {xs : List Value} (h : w.ownsRow base e size v n xs) : ∃ ra rc, v = .slice ra n rc := by
  rcases h.2 with ⟨rfl, rfl⟩ | ⟨g, cap, cur, rfl, _⟩
  · exact ⟨_, _, rfl⟩
  · exact ⟨_, _, rfl⟩
section
variable {P : Program} {w : World} {a : Act} {K : Act → World → Prop} {Q : Exit → Act → World → Prop} {o : Oper}
theorem wp_app {s x : Operand} {t e : TypeId} {z : Value} {size bytes base n m : Nat} {v y : Value} {xs news : List Value} (ht : P.underlying t = some (.slice e)) (hinfo : (P.info? e).map (fun i => (i.zero, i.size, i.bytes)) = some (some z, size, bytes)) (hzs : z.cells.size = size) (hsz : 0 < size)
    (ho : o.op = .call { callee := .builtin .append, args := #[s, x], argTypes := #[t, t] }) (hs : a.eval s = v) (hx : a.eval x = y) (hown : w.ownsRow base e size v n xs) (hsrc : SrcIs w y m news) (hl : news.length = m * size) (h1 : ∀ u ∈ news, u.oneCell' = true)
    (hb : (n + m) * bytes ≤ 140737488355328) (hn : n + m ≤ 9223372036854775807) (hbase : base ≤ w.heap.size) (hK : ∀ ra rc w', Grown w base e size v (n + m) (xs ++ news) ra rc w' → K (a.put o.dst (.slice ra (n + m) rc)) w') : o.wp P a w K Q := by
  obtain ⟨i, hi, hz0, hz1, hz2⟩ := info_parts hinfo
  rcases hsrc with ⟨ad, c, rfl, hnews⟩ | ⟨c, rfl, rfl, rfl⟩
  · obtain ⟨v', w', hr, h2, h3, h4, h5⟩ := run_append_own_at (P := P) w base t o.type e i z size bytes ht hi hz0 hz1 hz2 hzs hsz v n xs hown ad m c news hl hnews h1 (by unfold maxLen; omega) hb hbase
    obtain ⟨ra, rc, rfl⟩ := ownsRow_form h2
    unfold Oper.wp execOp
    simp only [ho, resolve, invoke, builtin, Sem.run_bind, Sem.run_pure, Result.andThen_ok, List.map_toArray, List.map_cons, List.map_nil, hs, hx, hr]
    exact hK _ _ _ ⟨h2, h3, h5⟩
  · obtain ⟨ra, rc, rfl⟩ := ownsRow_form hown
    have hcap : n ≤ rc := by
      rcases hown.2 with ⟨e, h⟩ | ⟨_, _, _, e, _, _, h, _⟩
      · omega
      · simp only [Value.slice.injEq] at e; omega
    have hr : (Builtin.append_ #[t, t] o.type #[.slice ra n rc, .slice none 0 c]).run P w = .ok (.slice ra n rc) w := by
      cases ra <;> simp [Builtin.append_, run_underlying ht, sizeOf, typeInfo, hi, Builtin.lenOf, Builtin.firstCells, hcap, storeCells]
    unfold Oper.wp execOp
    simp only [ho, resolve, invoke, builtin, Sem.run_bind, Sem.run_pure, Result.andThen_ok, List.map_toArray, List.map_cons, List.map_nil, hs, hx, hr]
    exact hK _ _ _ ⟨by simpa using hown, ⟨rfl, rfl, rfl, Nat.le_refl _, fun _ _ _ => rfl⟩, .inl rfl⟩
end
/-- Blocks that 'S' holds of may have been written. -/
structure Chg (S : Nat → Prop) (w w' : World) : Prop where
  os : w'.os = w.os
  tape : w'.tape = w.tape
  output : w'.output = w.output
  size : w.heap.size ≤ w'.heap.size
  block : ∀ k, k < w.heap.size → ¬ S k → w'.heap[k]? = w.heap[k]?
theorem chg_below {S : Nat → Prop} {w0 w w' : World} (h : Below w0.heap.size w0 w) (k : Chg S w w') (hS : ∀ b, b < w0.heap.size → ¬ S b) : Below w0.heap.size w0 w' :=
  h.trans ⟨k.os, k.tape, k.output, k.size, fun b hb => k.block b (Nat.lt_of_lt_of_le hb h.size) (hS b hb)⟩
theorem chg_blk {S : Nat → Prop} {b : Nat} {t : TypeId} {cs : Array Value} {w w' : World} (h : Blk w b t cs) (k : Chg S w w') (hS : ¬ S b) : Blk w' b t cs := (k.block b h.lt hS).trans h
/-- A row of the call's own, in a block that 'S' holds of. -/
def Own (w : World) (S : Nat → Prop) (e : TypeId) (size : Nat) (ra : Option Addr) (rc n : Nat) (xs : List Value) : Prop :=
  w.ownsRow 0 e size (.slice ra n rc) n xs ∧ ∀ b, (Value.slice ra n rc).ownBlock = some b → S b
section
variable {w w' : World} {S S' : Nat → Prop} {e : TypeId} {size : Nat} {ra : Option Addr} {rc n g : Nat} {xs : List Value}
theorem own_nil : Own w S e size none 0 0 [] := ⟨World.ownsRow_nil _ _ _ _, fun b h => by cases h⟩
theorem Own.lt (h : Own w S e size ra rc n xs) : ∀ b, (Value.slice ra n rc).ownBlock = some b → S b ∧ b < w.heap.size := fun b hb => ⟨h.2 b hb, (h.1.lt b hb).2⟩
theorem Own.of {base : Nat} (h : w.ownsRow base e size (.slice ra n rc) n xs) : Own w (fun b => base ≤ b) e size ra rc n xs := by
  refine ⟨⟨h.1, h.2.imp id ?_⟩, fun b hb => (h.lt b hb).1⟩
  rintro ⟨g, cap, cur, e1, _, r⟩
  exact ⟨g, cap, cur, e1, Nat.zero_le _, r⟩
theorem Own.to {base : Nat} (h : Own w S e size ra rc n xs) (hS : ∀ b, S b → base ≤ b) : w.ownsRow base e size (.slice ra n rc) n xs := by
  refine ⟨h.1.1, h.1.2.imp id ?_⟩
  rintro ⟨g, cap, cur, e1, _, r⟩
  exact ⟨g, cap, cur, e1, hS g (h.2 g (by rw [e1]; rfl)), r⟩
theorem Own.mono (h : Own w S e size ra rc n xs) (hS : ∀ b, S b → b < w.heap.size → S' b) : Own w S' e size ra rc n xs := ⟨h.1, fun b hb => hS b (h.2 b hb) (h.1.lt b hb).2⟩
theorem own_keep (h : Own w S e size ra rc n xs) (hb : ∀ b, S b → b < w.heap.size → w'.heap[b]? = w.heap[b]?) : Own w' S e size ra rc n xs := by
  refine ⟨⟨h.1.1, h.1.2.imp id ?_⟩, h.2⟩
  rintro ⟨g, cap, cur, e1, e2, e3, r⟩
  exact ⟨g, cap, cur, e1, e2, (hb g (h.2 g (by rw [e1]; rfl)) (Array.getElem?_eq_some_iff.1 e3).1).trans e3, r⟩
theorem Own.below (h : Own w S e size ra rc n xs) (hb : Below w.heap.size w w') : Own w' S e size ra rc n xs := own_keep h (fun b _ hlt => hb.block b hlt)
theorem Own.upd (h : Own w S e size ra rc n xs) (hu : Upd g w w') (hg : ¬ S g) : Own w' S e size ra rc n xs := own_keep h (fun b hS _ => hu.block b (fun e => hg (e ▸ hS)))
theorem Own.chg {S2 : Nat → Prop} (h : Own w S e size ra rc n xs) (hu : Chg S2 w w') (hg : ∀ b, S b → ¬ S2 b) : Own w' S e size ra rc n xs := own_keep h (fun b hS hlt => hu.block b hlt (hg b hS))
theorem own_empty (h : Blk w g e #[]) (hS : S g) : Own w S e size (some ⟨g, 0, none⟩) 0 0 [] :=
  ⟨⟨by simp, .inr ⟨g, 0, #[], rfl, Nat.zero_le _, h, Nat.le_refl _, by unfold maxLen; omega, by simp, by simp⟩⟩, fun b hb => by
    have : g = b := by simpa [Value.ownBlock] using hb
    exact this ▸ hS⟩
end
section
variable {P : Program} {w : World} {a : Act} {K : Act → World → Prop} {Q : Exit → Act → World → Prop} {o : Oper}
theorem wp_own {s x : Operand} {t e : TypeId} {z : Value} {size bytes n m rc : Nat} {S : Nat → Prop} {ra : Option Addr} {y : Value} {xs news : List Value} (ht : P.underlying t = some (.slice e)) (hinfo : (P.info? e).map (fun i => (i.zero, i.size, i.bytes)) = some (some z, size, bytes)) (hzs : z.cells.size = size) (hsz : 0 < size)
    (ho : o.op = .call { callee := .builtin .append, args := #[s, x], argTypes := #[t, t] }) (hs : a.eval s = .slice ra n rc) (hx : a.eval x = y) (hown : Own w S e size ra rc n xs) (hsrc : SrcIs w y m news) (hl : news.length = m * size) (h1 : ∀ u ∈ news, u.oneCell' = true)
    (hb : (n + m) * bytes ≤ 140737488355328) (hn : n + m ≤ 9223372036854775807) (hS : S w.heap.size) (hK : ∀ ra rc w', Own w' S e size ra rc (n + m) (xs ++ news) → Chg S w w' → K (a.put o.dst (.slice ra (n + m) rc)) w') : o.wp P a w K Q := by
  refine wp_app ht hinfo hzs hsz ho hs hx hown.1 hsrc hl h1 hb hn (Nat.zero_le _) (fun ra' rc' w' h => hK _ _ _ ⟨h.own, fun b hb => ?_⟩ ⟨h.grow.os, h.grow.tape, h.grow.output, h.grow.size, fun k hk hSk => h.grow.block k hk (fun e => hSk (hown.2 k e.symm))⟩)
  rcases h.at_ with e | e
  · exact hown.2 b (e ▸ hb)
  · rw [e] at hb; obtain rfl := Option.some.inj hb; exact hS
end
end Go.Proofs.Ytbohlpfndiiimaa

/- Terms as finite trees, how they lie in memory, and that what reads as a term is one. -/
namespace Go.Proofs.Ytbohlpfndiiimaa
open Go.RowKit
inductive T where
  | mk (f : Int) (args : List T)
namespace T
def f : T → Int | .mk f _ => f
def args : T → List T | .mk _ a => a
mutual
def size : T → Nat
  | .mk _ l => 1 + sizeL l
def sizeL : List T → Nat
  | [] => 0
  | a :: r => size a + sizeL r
end
theorem ind {P : T → Prop} (h : ∀ f l, (∀ a ∈ l, P a) → P (.mk f l)) : ∀ t, P t := by
  intro t
  refine T.rec (motive_1 := P) (motive_2 := fun l => ∀ a ∈ l, P a) (fun f l ih => h f l ih) (by simp) (fun a r iha ihr => ?_) t
  intro b hb
  rcases List.mem_cons.1 hb with rfl | hb
  · exact iha
  · exact ihr b hb
theorem sizeL_take_succ (l : List T) (k : Nat) (h : k < l.length) : sizeL (l.take (k + 1)) = sizeL (l.take k) + size l[k] := by
  induction l generalizing k with
  | nil => simp at h
  | cons t r ih =>
    cases k with
    | zero => simp [sizeL]
    | succ k => simp [sizeL, ih k (by simpa using h)]; omega
theorem sizeL_take_le (l : List T) : ∀ k, sizeL (l.take k) ≤ sizeL l := by
  induction l with
  | nil => simp [sizeL]
  | cons t r ih =>
    intro k
    cases k with
    | zero => simp [sizeL]
    | succ k => simp only [List.take_succ_cons, sizeL]; have := ih k; omega
theorem size_le_sizeL {a : T} {l : List T} (h : a ∈ l) : size a ≤ sizeL l := by
  induction l with
  | nil => simp at h
  | cons t r ih =>
    simp only [sizeL]
    rcases List.mem_cons.1 h with rfl | h
    · omega
    · have := ih h; omega
@[simp] theorem f_mk (f : Int) (l : List T) : (T.mk f l).f = f := rfl
@[simp] theorem args_mk (f : Int) (l : List T) : (T.mk f l).args = l := rfl
theorem size_eq (t : T) : t.size = 1 + sizeL t.args := by cases t; rfl
end T
mutual
/-- The value 'v' is the term 't' in the world 'w'. -/
def IsT (w : World) : T → Value → Prop
  | .mk f l, v => I64 f ∧ ∃ (a : Option Addr) (c : Nat), v = .agg #[.int .i64 f, .slice a l.length c] ∧ l.length ≤ c ∧ c ≤ maxLen ∧ IsTs w l a 0
/-- The row at the address 'a' holds from its i-th place on the terms 'l'. -/
def IsTs (w : World) : List T → Option Addr → Nat → Prop
  | [], _, _ => True
  | t :: r, a, i => (∃ (b o : Nat) (u v : Value), a = some ⟨b, o, none⟩ ∧ w.cell? ⟨b, o + i * 2, none⟩ = some u ∧ w.cell? ⟨b, o + i * 2 + 1, none⟩ = some v ∧ IsT w t (.agg #[u, v])) ∧ IsTs w r a (i + 1)
end
mutual
/-- Whatever keeps the old cells keeps a term. -/
theorem IsT.keep {w w' : World} (hb : ∀ (p : Addr) (x : Value), w.cell? p = some x → w'.cell? p = some x) : ∀ {t : T} {v : Value}, IsT w t v → IsT w' t v
  | .mk _ _, _, ⟨h0, a, c, h1, h2, h3, h4⟩ => ⟨h0, a, c, h1, h2, h3, IsTs.keep hb h4⟩
theorem IsTs.keep {w w' : World} (hb : ∀ (p : Addr) (x : Value), w.cell? p = some x → w'.cell? p = some x) : ∀ {l : List T} {a : Option Addr} {i : Nat}, IsTs w l a i → IsTs w' l a i
  | [], _, _, _ => trivial
  | _ :: _, _, _, ⟨⟨b, o, u, v, ha, h1, h2, h3⟩, h4⟩ => ⟨⟨b, o, u, v, ha, hb _ _ h1, hb _ _ h2, IsT.keep hb h3⟩, IsTs.keep hb h4⟩
end
theorem IsT.below {w w' : World} (hb : Below w.heap.size w w') {t : T} {v : Value} (h : IsT w t v) : IsT w' t v := h.keep (bkeeps hb)
theorem IsT.form {w : World} {t : T} {v : Value} (h : IsT w t v) : I64 t.f ∧ ∃ (a : Option Addr) (c : Nat), v = .agg #[.int .i64 t.f, .slice a t.args.length c] ∧ t.args.length ≤ c ∧ c ≤ maxLen ∧ IsTs w t.args a 0 := by
  cases t; exact h
theorem IsTs.at0 {w : World} {l : List T} : ∀ {a : Option Addr} {i : Nat}, IsTs w l a i → ∀ k (hk : k < l.length),
    ∃ (b o : Nat) (u v : Value), a = some ⟨b, o, none⟩ ∧ w.cell? ⟨b, o + (i + k) * 2, none⟩ = some u ∧ w.cell? ⟨b, o + (i + k) * 2 + 1, none⟩ = some v ∧ IsT w l[k] (.agg #[u, v]) := by
  induction l with
  | nil => intro a i _ k hk; simp at hk
  | cons t r ih =>
    intro a i h k hk
    obtain ⟨h0, h1⟩ := h
    cases k with
    | zero => exact h0
    | succ k =>
      have := ih h1 k (by simpa using hk)
      simpa [Nat.add_assoc, Nat.add_comm 1 k] using this
theorem IsTs.of_at {w : World} {l : List T} : ∀ {a : Option Addr} {i : Nat}, (∀ k (hk : k < l.length),
    ∃ (b o : Nat) (u v : Value), a = some ⟨b, o, none⟩ ∧ w.cell? ⟨b, o + (i + k) * 2, none⟩ = some u ∧ w.cell? ⟨b, o + (i + k) * 2 + 1, none⟩ = some v ∧ IsT w l[k] (.agg #[u, v])) → IsTs w l a i := by
  induction l with
  | nil => intro a i _; trivial
  | cons t r ih =>
    intro a i h
    refine ⟨h 0 (by simp), ih (fun k hk => ?_)⟩
    have := h (k + 1) (by simpa using hk)
    simpa [Nat.add_assoc, Nat.add_comm 1 k] using this
/-- A term that is an aggregate of two known cells, in its own form. -/
theorem IsT.cells {w : World} {t : T} {u v : Value} (h : IsT w t (.agg #[u, v])) : ∃ (a : Option Addr) (c : Nat), u = .int .i64 t.f ∧ v = .slice a t.args.length c := by
  obtain ⟨_, a, c, hv, _⟩ := h.form
  simp only [Value.agg.injEq, Array.mk.injEq, List.cons.injEq, and_true] at hv
  exact ⟨a, c, hv.1, hv.2⟩
theorem IsTs.at_ {w w' : World} {l : List T} {a : Option Addr} (h : IsTs w l a 0) (hb : Below w.heap.size w w') (k : Nat) (hk : k < l.length) :
    ∃ (b o : Nat) (a' : Option Addr) (c' : Nat), a = some ⟨b, o, none⟩ ∧ w'.cell? ⟨b, o + k * 2, none⟩ = some (.int .i64 l[k].f) ∧ w'.cell? ⟨b, o + k * 2 + 1, none⟩ = some (.slice a' l[k].args.length c') ∧
      IsT w' l[k] (.agg #[.int .i64 l[k].f, .slice a' l[k].args.length c']) := by
  obtain ⟨b, o, u, v, ha, h1, h2, h3⟩ := h.at0 k hk
  obtain ⟨a', c', rfl, rfl⟩ := h3.cells
  rw [Nat.zero_add] at h1 h2
  exact ⟨b, o, a', c', ha, bkeeps hb _ _ h1, bkeeps hb _ _ h2, h3.below hb⟩
section
variable {H : Type} {enc : TypeId × Value → H} {w : World} {base : Nat} {spare : Nat → Bool} {held : Bool}
theorem sizeL_le_bulk {l : List T} : ∀ {ds : List (DataW H)}, l.length = ds.length → (∀ k (hk : k < l.length) (hd : k < ds.length), l[k].size ≤ Rows.uptoBulk ds[k]) → T.sizeL l ≤ Rows.uptoBulkAll ds := by
  induction l with
  | nil => intro ds _ _; simp [T.sizeL]
  | cons t r ih =>
    intro ds hlen h
    cases ds with
    | nil => simp at hlen
    | cons d ds =>
      have h0 := h 0 (by simp) (by simp)
      have h1 := ih (ds := ds) (by simpa using hlen) (fun k hk hd => by have := h (k + 1) (by simpa using hk) (by simpa using hd); simpa using this)
      simp only [T.sizeL, Rows.uptoBulkAll]
      simp at h0
      omega
set_option maxRecDepth 10000 in
theorem open_T : ∀ (fuel : Nat) (cs : List Value) (x : DataW H × List MemPlace), DataW.trod enc Try.prog w base spare held fuel 35 cs = some x →
    ∃ t : T, ∃ u v : Value, cs = [u, v] ∧ IsT w t (.agg #[u, v]) ∧ t.size ≤ Rows.uptoBulk x.1 := by
  intro fuel
  induction fuel using Nat.strongRecOn with
  | _ fuel ih =>
    intro cs x h
    have hC : Try.prog.cellsOf 35 = 2 := by kernel_rfl
    have hC3 : Try.prog.cellsOf 3 = 1 := by kernel_rfl
    have hC30 : Try.prog.cellsOf 25 = 1 := by kernel_rfl
    obtain ⟨xs, n, rfl, rfl, hl, hlen, hf⟩ := DataW.trod_struct Try.underlying35 h
    rw [hC] at hl
    match xs, hlen, cs, hl with
    | [y0, y1], _, [c0, c1], _ =>
      have g0 : DataW.trod enc Try.prog w base spare held n 3 [c0] = some y0 := by simpa [hC3] using hf 0 _ rfl
      have g1 : DataW.trod enc Try.prog w base spare held n 25 [c1] = some y1 := by simpa [hC30] using hf 1 _ rfl
      obtain ⟨f, e0, rfl, wf⟩ := DataW.trod_int Try.underlying3 g0
      simp only [List.cons.injEq, and_true] at e0
      subst e0
      rcases DataW.trod_slice Try.underlying25 g1 with ⟨e1, rfl⟩ | ⟨a, len, cap, elems, rest, m, rfl, e1, rfl, hb, hlc, hcm, hel, hat, _, _⟩
      · simp only [List.cons.injEq, and_true] at e1
        subst e1
        exact ⟨.mk f [], _, _, rfl, ⟨i64_wf wf, none, 0, rfl, Nat.le_refl _, Nat.zero_le _, trivial⟩, by simp [T.size, T.sizeL, Rows.uptoBulk, Rows.uptoBulkAll]⟩
      · simp only [List.cons.injEq, and_true] at e1
        subst e1
        have hspot : 0 < len → ∃ b o, a = ⟨b, o, none⟩ := by
          intro h0
          have hk := hat 0 h0
          rw [hC, List.getElem?_eq_getElem (by omega)] at hk
          obtain ⟨cs', h1, _⟩ := Option.bind_eq_some_iff.1 hk
          obtain ⟨_, hl', hcell⟩ := World.cells?_some h1
          have c0 := hcell 0 (by omega)
          rw [List.getElem?_eq_getElem (by omega)] at c0
          have := World.cell?_spot c0
          obtain ⟨b, o, spot⟩ := a
          exact ⟨b, o, by simpa [Addr.add] using this⟩
        have key : ∀ i, i < len → ∃ t : T, (∃ (b o : Nat) (u v : Value), some a = some ⟨b, o, none⟩ ∧ w.cell? ⟨b, o + i * 2, none⟩ = some u ∧ w.cell? ⟨b, o + i * 2 + 1, none⟩ = some v ∧ IsT w t (.agg #[u, v])) ∧
            ∀ (hd : i < elems.length), t.size ≤ Rows.uptoBulk elems[i].1 := by
          intro i hi
          have hk := hat i hi
          rw [hC, List.getElem?_eq_getElem (by omega)] at hk
          obtain ⟨cs', h1, h2⟩ := Option.bind_eq_some_iff.1 hk
          obtain ⟨t, u, v, rfl, ht, hsz⟩ := ih m (by omega) _ _ h2
          obtain ⟨_, _, hcell⟩ := World.cells?_some h1
          have c0 := hcell 0 (by omega)
          have c1 := hcell 1 (by omega)
          simp only [List.getElem?_cons_zero, List.getElem?_cons_succ] at c0 c1
          obtain ⟨b, o, rfl⟩ := hspot (by omega)
          rw [add_plain2, add_plain2] at c0 c1
          exact ⟨t, ⟨b, o, u, v, rfl, c0, c1, ht⟩, fun _ => hsz⟩
        have : Inhabited T := ⟨.mk 0 []⟩
        obtain ⟨F, hF⟩ := Go.Deep.choose_lt key
        have hLL : ((List.range len).map F).length = len := by simp
        refine ⟨.mk f ((List.range len).map F), _, _, rfl, ⟨i64_wf wf, some a, cap, by simp, by simpa using hlc, hcm, IsTs.of_at (fun k hk => ?_)⟩, ?_⟩
        · have := (hF k (by simpa using hk)).1
          simpa using this
        · have h1 : T.sizeL ((List.range len).map F) ≤ Rows.uptoBulkAll (elems.map (·.1)) := sizeL_le_bulk (by simp [hel]) (fun k hk hd => by
            have := (hF k (by simpa using hk)).2 (by simpa using hd)
            simpa using this)
          simp only [T.size, List.map_cons, List.map_nil, Rows.uptoBulk, Rows.uptoBulkAll]
          omega
end
end Go.Proofs.Ytbohlpfndiiimaa

/- Rows of terms, opened whole. -/
namespace Go.Proofs.Ytbohlpfndiiimaa
open Go.RowKit Go
def tget (l : List T) (k : Nat) : T := l.getD k (.mk 0 [])
theorem tget_lt {l : List T} {k : Nat} (h : k < l.length) : tget l k = l[k] := by simp [tget, h]
theorem tget_mem {l : List T} {k : Nat} (h : k < l.length) : tget l k ∈ l := by rw [tget_lt h]; exact List.getElem_mem h
theorem isT_row {w : World} {t : T} {f : Value} {a : Option Addr} {n c : Nat} (h : IsT w t (.agg #[f, .slice a n c])) : n = t.args.length ∧ n ≤ c ∧ c ≤ maxLen ∧ IsTs w t.args a 0 := by
  obtain ⟨_, a', c', e, h1, h2, h3⟩ := h.form
  simp only [Value.agg.injEq, Array.mk.injEq, List.cons.injEq, and_true, Value.slice.injEq] at e
  obtain ⟨_, rfl, rfl, rfl⟩ := e
  exact ⟨rfl, h1, h2, h3⟩
theorem IsTs.open {w : World} {l : List T} {a : Option Addr} (h : IsTs w l a 0) : ∃ (b o : Nat) (A : Nat → Option Addr) (C : Nat → Nat), (∀ k, k < l.length → a = some ⟨b, o, none⟩) ∧
    ∀ k, k < l.length → w.cell? ⟨b, o + k * 2, none⟩ = some (.int .i64 (tget l k).f) ∧ w.cell? ⟨b, o + k * 2 + 1, none⟩ = some (.slice (A k) (tget l k).args.length (C k)) ∧ IsT w (tget l k) (.agg #[.int .i64 (tget l k).f, .slice (A k) (tget l k).args.length (C k)]) := by
  rcases Nat.eq_zero_or_pos l.length with h0 | h0
  · exact ⟨0, 0, fun _ => none, fun _ => 0, fun k hk => by omega, fun k hk => by omega⟩
  · obtain ⟨b, o, _, _, ha, _⟩ := h.at_ (Below.refl _ _) 0 h0
    have key : ∀ k, k < l.length → ∃ p : Option Addr × Nat, w.cell? ⟨b, o + k * 2, none⟩ = some (.int .i64 (tget l k).f) ∧ w.cell? ⟨b, o + k * 2 + 1, none⟩ = some (.slice p.1 (tget l k).args.length p.2) ∧ IsT w (tget l k) (.agg #[.int .i64 (tget l k).f, .slice p.1 (tget l k).args.length p.2]) := by
      intro k hk
      obtain ⟨b', o', a', c', ha', h1, h2, h3⟩ := h.at_ (Below.refl _ _) k hk
      rw [ha] at ha'
      simp only [Option.some.injEq, Addr.mk.injEq, and_true] at ha'
      obtain ⟨rfl, rfl⟩ := ha'
      rw [tget_lt hk]
      exact ⟨(a', c'), h1, h2, h3⟩
    have : Inhabited (Option Addr × Nat) := ⟨(none, 0)⟩
    obtain ⟨F, hF⟩ := Go.Deep.choose_lt key
    exact ⟨b, o, fun k => (F k).1, fun k => (F k).2, fun _ _ => ha, hF⟩
end Go.Proofs.Ytbohlpfndiiimaa

/- 'box = append(box, x)' in a region that draws its order: the row of one, the append to a row of the call's own, the store into a box, everything else only reads. -/
namespace Go.Proofs.Ytbohlpfndiiimaa
open Go.RowKit Go
theorem Chg.refl (S : Nat → Prop) (w : World) : Chg S w w := ⟨rfl, rfl, rfl, Nat.le_refl _, fun _ _ _ => rfl⟩
theorem Chg.trans {S : Nat → Prop} {a b c : World} (h : Chg S a b) (k : Chg S b c) : Chg S a c :=
  ⟨k.os.trans h.os, k.tape.trans h.tape, k.output.trans h.output, Nat.le_trans h.size k.size, fun i hi hS => (k.block i (Nat.lt_of_lt_of_le hi h.size) hS).trans (h.block i hi hS)⟩
theorem Chg.trans2 {S S2 : Nat → Prop} {a b c : World} (h : Chg S a b) (k : Chg S2 b c) (hS : ∀ i, i < a.heap.size → S2 i → S i) : Chg S a c :=
  ⟨k.os.trans h.os, k.tape.trans h.tape, k.output.trans h.output, Nat.le_trans h.size k.size, fun i hi hn => (k.block i (Nat.lt_of_lt_of_le hi h.size) (fun e => hn (hS i hi e))).trans (h.block i hi hn)⟩
theorem Chg.mono {S S' : Nat → Prop} {a b : World} (h : Chg S a b) (hS : ∀ k, S k → S' k) : Chg S' a b := ⟨h.os, h.tape, h.output, h.size, fun i hi hn => h.block i hi (fun e => hn (hS i e))⟩
theorem Chg.ofBelow {S : Nat → Prop} {a b : World} (h : Below a.heap.size a b) : Chg S a b := ⟨h.os, h.tape, h.output, h.size, fun i hi _ => h.block i hi⟩
theorem Chg.ofUpd {S : Nat → Prop} {g : Nat} {a b : World} (h : Upd g a b) (hS : S g) : Chg S a b := ⟨h.os, h.tape, h.output, Nat.le_of_eq h.size.symm, fun i _ hn => h.block i (fun e => hn (e ▸ hS))⟩
theorem chg_cell {S : Nat → Prop} {w w' : World} {b o : Nat} {v : Value} (k : Chg S w w') (hS : ¬ S b) (h : w.cell? ⟨b, o, none⟩ = some v) : w'.cell? ⟨b, o, none⟩ = some v := by
  have hb := World.block_lt_of_cell? _ _ h
  unfold World.cell? at h ⊢
  have e := k.block b hb hS
  dsimp only at h ⊢
  rw [e]; exact h
theorem chg_old {S : Nat → Prop} {w0 w w' : World} {p : Addr} {v : Value} (hb : Below w0.heap.size w0 w) (k : Chg S w w') (hS : ∀ b, b < w0.heap.size → ¬ S b) (h : w0.cell? p = some v) : w'.cell? p = some v :=
  bkeeps (chg_below hb k hS) _ _ h
section
variable {w0 w w' : World} {S : Nat → Prop} {e size n rc m g ty i : Nat} {ra : Option Addr} {xs : List Value} {cs : Array Value} {N : List Value → Prop} {vb vp vq : Option Value}
variable {news : List Value}
end
section
variable {P : Program} {ops : Array Oper}
end
end Go.Proofs.Ytbohlpfndiiimaa

/- Elements of rows that are made: what lies in them lies in blocks that are told. -/
namespace Go.Proofs.Ytbohlpfndiiimaa
open Go.RowKit Go
set_option linter.unusedVariables false
set_option linter.unusedSimpArgs false
/-- A kind of element: so many cells, and what they hold of 'x', in blocks of 'S'. -/
structure Elt (α : Type) where
  k : Nat
  In : (Nat → Prop) → World → α → List Value → Prop
  keep : ∀ {S : Nat → Prop} {w w' : World} {x : α} {cs : List Value}, (∀ (p : Addr) (v : Value), S p.block → w.cell? p = some v → w'.cell? p = some v) → In S w x cs → In S w' x cs
  mono : ∀ {S S' : Nat → Prop} {w : World} {x : α} {cs : List Value}, (∀ b, S b → b < w.heap.size → S' b) → In S w x cs → In S' w x cs
  len : ∀ {S : Nat → Prop} {w : World} {x : α} {cs : List Value}, In S w x cs → cs.length = k
  one : ∀ {S : Nat → Prop} {w : World} {x : α} {cs : List Value}, In S w x cs → ∀ v ∈ cs, v.oneCell' = true
section
variable {α : Type} {E : Elt α} {S S' : Nat → Prop} {w w' : World}
theorem Elt.below {x : α} {cs : List Value} (h : E.In S w x cs) (hb : Below w.heap.size w w') : E.In S w' x cs := E.keep (fun p v _ hv => bkeeps hb p v hv) h
theorem Elt.chg {S2 : Nat → Prop} {x : α} {cs : List Value} (h : E.In S w x cs) (hc : Chg S2 w w') (hS : ∀ b, S b → ¬ S2 b) : E.In S w' x cs := E.keep (fun p v hp hv => by
  have hb := World.block_lt_of_cell? _ _ hv
  unfold World.cell? at hv ⊢
  rw [hc.block p.block hb (hS _ hp)]; exact hv) h
def Elts (E : Elt α) (S : Nat → Prop) (w : World) : List α → List Value → Prop
  | [], xs => xs = []
  | x :: l, xs => ∃ cs r, xs = cs ++ r ∧ E.In S w x cs ∧ Elts E S w l r
theorem Elts.keep (hb : ∀ (p : Addr) (v : Value), S p.block → w.cell? p = some v → w'.cell? p = some v) : ∀ {l : List α} {xs : List Value}, Elts E S w l xs → Elts E S w' l xs
  | [], _, h => h
  | _ :: _, _, ⟨cs, r, e, h1, h2⟩ => ⟨cs, r, e, E.keep hb h1, Elts.keep hb h2⟩
theorem Elts.mono (hb : ∀ b, S b → b < w.heap.size → S' b) : ∀ {l : List α} {xs : List Value}, Elts E S w l xs → Elts E S' w l xs
  | [], _, h => h
  | _ :: _, _, ⟨cs, r, e, h1, h2⟩ => ⟨cs, r, e, E.mono hb h1, Elts.mono hb h2⟩
theorem Elts.len : ∀ {l : List α} {xs : List Value}, Elts E S w l xs → xs.length = l.length * E.k
  | [], _, h => by rw [h]; simp
  | _ :: l, _, ⟨cs, r, e, h1, h2⟩ => by rw [e, List.length_append, E.len h1, h2.len, List.length_cons, Nat.add_mul]; omega
theorem Elts.snoc {x : α} {cs : List Value} (hx : E.In S w x cs) : ∀ {l : List α} {xs : List Value}, Elts E S w l xs → Elts E S w (l ++ [x]) (xs ++ cs)
  | [], _, h => by rw [h]; exact ⟨cs, [], by simp, hx, rfl⟩
  | _ :: _, _, ⟨c, r, e, h1, h2⟩ => ⟨c, r ++ cs, by rw [e, List.append_assoc], h1, Elts.snoc hx h2⟩
theorem Elts.at_ : ∀ {l : List α} {xs : List Value}, Elts E S w l xs → ∀ i (hi : i < l.length), ∃ cs, E.In S w l[i] cs ∧ ∀ j, j < E.k → xs[i * E.k + j]? = cs[j]?
  | [], _, _, i, hi => by simp at hi
  | x :: l, _, ⟨cs, r, e, h1, h2⟩, 0, _ => ⟨cs, h1, fun j hj => by rw [e, Nat.zero_mul, Nat.zero_add, List.getElem?_append_left (by rw [E.len h1]; exact hj)]⟩
  | x :: l, _, ⟨cs, r, e, h1, h2⟩, i + 1, hi => by
    obtain ⟨c, h3, h4⟩ := h2.at_ i (by simpa using hi)
    refine ⟨c, h3, fun j hj => ?_⟩
    rw [e, List.getElem?_append_right (by rw [E.len h1, Nat.add_mul]; omega), E.len h1, ← h4 j hj]
    congr 1
    rw [Nat.add_mul]; omega
/-- A row that lies in memory, in blocks of 'S', its elements too. -/
def InRow (E : Elt α) (S : Nat → Prop) (w : World) (l : List α) (a : Option Addr) : Prop :=
  ∀ i (hi : i < l.length), ∃ (b o : Nat) (cs : List Value), a = some ⟨b, o, none⟩ ∧ S b ∧ E.In S w l[i] cs ∧ ∀ j, j < E.k → w.cell? ⟨b, o + i * E.k + j, none⟩ = cs[j]?
theorem InRow.keep {l : List α} {a : Option Addr} (hb : ∀ (p : Addr) (v : Value), S p.block → w.cell? p = some v → w'.cell? p = some v) (h : InRow E S w l a) : InRow E S w' l a := fun i hi => by
  obtain ⟨b, o, cs, h1, h2, h3, h4⟩ := h i hi
  refine ⟨b, o, cs, h1, h2, E.keep hb h3, fun j hj => ?_⟩
  have := h4 j hj
  rw [List.getElem?_eq_getElem (by rw [E.len h3]; exact hj)] at this ⊢
  exact hb ⟨b, _, none⟩ _ h2 this
theorem InRow.mono {l : List α} {a : Option Addr} (hk : 0 < E.k) (hb : ∀ b, S b → b < w.heap.size → S' b) (h : InRow E S w l a) : InRow E S' w l a := fun i hi => by
  obtain ⟨b, o, cs, h1, h2, h3, h4⟩ := h i hi
  have := h4 0 hk
  rw [List.getElem?_eq_getElem (by rw [E.len h3]; exact hk)] at this
  exact ⟨b, o, cs, h1, hb b h2 (World.block_lt_of_cell? _ _ this), E.mono hb h3, h4⟩
theorem InRow.below {l : List α} {a : Option Addr} (h : InRow E S w l a) (hb : Below w.heap.size w w') : InRow E S w' l a := h.keep (fun p v _ hv => bkeeps hb p v hv)
theorem InRow.nil {a : Option Addr} : InRow E S w [] a := fun i hi => by simp at hi
/-- A row of the call's own, made by append: its block lies at or behind 'B', its elements' too, but in other blocks. -/
structure RowE (E : Elt α) (w : World) (B e : Nat) (ra : Option Addr) (rc n : Nat) (l : List α) : Prop where
  row : ∃ xs, w.ownsRow B e E.k (.slice ra n rc) n xs ∧ Elts E (fun b => B ≤ b ∧ (Value.slice ra n rc).ownBlock ≠ some b) w l xs
  len : n = l.length
variable {B e : Nat} {ra : Option Addr} {rc n : Nat} {l : List α}
theorem RowE.nil : RowE E w B e none 0 0 ([] : List α) := ⟨⟨[], World.ownsRow_nil _ _ _ _, rfl⟩, rfl⟩
theorem RowE.keep (h : RowE E w B e ra rc n l) (hb : ∀ b, B ≤ b → b < w.heap.size → w'.heap[b]? = w.heap[b]?) : RowE E w' B e ra rc n l := by
  obtain ⟨⟨xs, h1, h2⟩, h3⟩ := h
  refine ⟨⟨xs, ⟨h1.1, h1.2.imp id ?_⟩, h2.keep (fun p v hp hv => ?_)⟩, h3⟩
  · rintro ⟨g, cap, cur, e1, e2, e3, r⟩
    exact ⟨g, cap, cur, e1, e2, (hb g e2 (Array.getElem?_eq_some_iff.1 e3).1).trans e3, r⟩
  · have hlt := World.block_lt_of_cell? _ _ hv
    unfold World.cell? at hv ⊢
    rw [hb p.block hp.1 hlt]; exact hv
theorem RowE.below (h : RowE E w B e ra rc n l) (hb : Below w.heap.size w w') : RowE E w' B e ra rc n l := h.keep (fun b _ hlt => hb.block b hlt)
theorem RowE.upd {g : Nat} (h : RowE E w B e ra rc n l) (hu : Upd g w w') (hg : g < B) : RowE E w' B e ra rc n l := h.keep (fun b hB _ => hu.block b (by omega))
theorem RowE.lt (h : RowE E w B e ra rc n l) : ∀ b, (Value.slice ra n rc).ownBlock = some b → B ≤ b ∧ b < w.heap.size := by
  obtain ⟨⟨xs, h1, _⟩, _⟩ := h
  exact h1.lt
/-- What lies in the row, once it is whole. -/
theorem RowE.inRow (h : RowE E w B e ra rc n l) : InRow E (fun b => B ≤ b) w l ra ∧ n = l.length ∧ n ≤ rc ∧ rc ≤ maxLen := by
  obtain ⟨⟨xs, h1, h2⟩, rfl⟩ := h
  rcases h1.2 with ⟨e1, h0⟩ | ⟨g, cap, cur, e1, hg, hb, hc, hm, _, _⟩
  · simp only [Value.slice.injEq] at e1
    obtain ⟨_, _, rfl⟩ := e1
    exact ⟨fun i hi => by omega, rfl, by omega, by unfold maxLen; omega⟩
  · have e1' := e1
    simp only [Value.slice.injEq, true_and] at e1'
    obtain ⟨rfl, rfl⟩ := e1'
    refine ⟨fun i hi => ?_, rfl, hc, hm⟩
    obtain ⟨cs, h3, h4⟩ := h2.at_ i hi
    refine ⟨g, 0, cs, rfl, hg, E.mono (fun b hb _ => hb.1) h3, fun j hj => ?_⟩
    have hjl : j < cs.length := by rw [E.len h3]; exact hj
    have hx := h4 j hj
    rw [List.getElem?_eq_getElem hjl] at hx ⊢
    have := h1.cells (g := g) rfl _ _ hx
    rw [add_plain2] at this
    rwa [show 0 + i * E.k + j = 0 + (i * E.k + j) by omega]
/-! ### A row that is made whole, and filled one element after the other -/
structure MRow (E : Elt α) (w : World) (B g e n : Nat) (D : List Value) (l : List α) : Prop where
  blk : ∃ xs, Blk w g e (xs ++ D.drop xs.length).toArray ∧ Elts E (fun b => B ≤ b ∧ b ≠ g) w l xs
  dlen : D.length = n * E.k
  le : l.length ≤ n
  base : B ≤ g
variable {g : Nat} {D : List Value}
theorem MRow.lt (h : MRow E w B g e n D l) : g < w.heap.size := by obtain ⟨⟨xs, h1, _⟩, _⟩ := h; exact h1.lt
theorem MRow.keep (h : MRow E w B g e n D l) (hb : ∀ b, B ≤ b → b < w.heap.size → w'.heap[b]? = w.heap[b]?) : MRow E w' B g e n D l := by
  obtain ⟨⟨xs, h1, h2⟩, h0, h3, h4⟩ := h
  refine ⟨⟨xs, (hb g h4 h1.lt).trans h1, h2.keep (fun p v hp hv => ?_)⟩, h0, h3, h4⟩
  have hlt := World.block_lt_of_cell? _ _ hv
  unfold World.cell? at hv ⊢
  rw [hb p.block hp.1 hlt]; exact hv
theorem MRow.below (h : MRow E w B g e n D l) (hb : Below w.heap.size w w') : MRow E w' B g e n D l := h.keep (fun b _ hlt => hb.block b hlt)
theorem MRow.upd {g' : Nat} (h : MRow E w B g e n D l) (hu : Upd g' w w') (hg : g' < B) : MRow E w' B g e n D l := h.keep (fun b hB _ => hu.block b (by omega))
theorem MRow.start (hB : Blk w g e D.toArray) (hd : D.length = n * E.k) (hb : B ≤ g) : MRow E w B g e n D ([] : List α) := ⟨⟨[], by simpa using hB, rfl⟩, hd, Nat.zero_le _, hb⟩
/-- The next element is stored. -/
theorem MRow.store {x : α} {cs : List Value} (h : MRow E w B g e n D l) (hu : Upd g w w') (hl : l.length < n) (hin : E.In (fun b => B ≤ b ∧ b ≠ g) w x cs)
    (hB : ∀ xs : List Value, xs.length = l.length * E.k → Blk w g e (xs ++ D.drop xs.length).toArray → Blk w' g e (xs ++ cs ++ D.drop (xs ++ cs).length).toArray) : MRow E w' B g e n D (l ++ [x]) := by
  obtain ⟨⟨xs, h1, h2⟩, h0, h3, h4⟩ := h
  have hk : ∀ (p : Addr) (v : Value), (B ≤ p.block ∧ p.block ≠ g) → w.cell? p = some v → w'.cell? p = some v := fun p v hp hv => by
    unfold World.cell? at hv ⊢
    rw [hu.block p.block hp.2]; exact hv
  exact ⟨⟨xs ++ cs, hB xs h2.len h1, Elts.snoc (E.keep hk hin) (h2.keep hk)⟩, h0, by simp; omega, h4⟩
theorem MRow.inRow (h : MRow E w B g e n D l) : InRow E (fun b => B ≤ b) w l (some ⟨g, 0, none⟩) := fun i hi => by
  obtain ⟨⟨xs, h1, h2⟩, _, h3, h4⟩ := h
  obtain ⟨cs, h5, h6⟩ := h2.at_ i hi
  refine ⟨g, 0, cs, rfl, h4, E.mono (fun b hb _ => hb.1) h5, fun j hj => ?_⟩
  have hx := h2.len
  have hlt : i * E.k + j < xs.length := by
    rw [hx]
    have : (i + 1) * E.k ≤ l.length * E.k := Nat.mul_le_mul_right _ hi
    rw [Nat.add_mul] at this; omega
  rw [h1.cell, ← h6 j hj, show 0 + i * E.k + j = i * E.k + j by omega, List.getElem?_toArray, List.getElem?_append_left hlt]
theorem set2 {xs d : List Value} {u v : Value} (h : 2 ≤ d.length) : ((xs ++ d).set xs.length u).set (xs.length + 1) v = xs ++ [u, v] ++ d.drop 2 := by
  match d, h with
  | x :: y :: r, _ => simp [List.set_append]
end
section
variable {α : Type} {E : Elt α} {P : Program} {w : World} {a : Act} {K : Act → World → Prop} {Q : Exit → Act → World → Prop} {o : Oper}
/-- One element more, by append. -/
theorem wp_appE {s x : Operand} {t e B : Nat} {z : Value} {size bytes n rc g1 : Nat} {ra : Option Addr} {l : List α} {y : α} {cs : List Value} (hk : E.k = size) (ht : P.underlying t = some (.slice e)) (hinfo : (P.info? e).map (fun i => (i.zero, i.size, i.bytes)) = some (some z, size, bytes)) (hzs : z.cells.size = size) (hsz : 0 < size)
    (ho : o.op = .call { callee := .builtin .append, args := #[s, x], argTypes := #[t, t] }) (hs : a.eval s = .slice ra n rc) (hx : a.eval x = .slice (some ⟨g1, 0, none⟩) 1 1) (hrow : RowE E w B e ra rc n l) (hB : Blk w g1 e cs.toArray) (hin : E.In (fun b => B ≤ b ∧ (Value.slice ra n rc).ownBlock ≠ some b) w y cs)
    (hb : (n + 1) * bytes ≤ 140737488355328) (hn : n + 1 ≤ 9223372036854775807) (hbase : B ≤ w.heap.size) (hK : ∀ ra' rc' w', RowE E w' B e ra' rc' (n + 1) (l ++ [y]) → Chg (fun b => (Value.slice ra n rc).ownBlock = some b) w w' → KeepsFrom 0 w w' → K (a.put o.dst (.slice ra' (n + 1) rc')) w') : o.wp P a w K Q := by
  subst hk
  obtain ⟨⟨xs, h1, h2⟩, rfl⟩ := hrow
  refine wp_app (m := 1) (news := cs) ht hinfo hzs hsz ho hs hx h1 (SrcIs.ofBlk hB) (by rw [E.len hin]; omega) (E.one hin) hb hn hbase (fun ra' rc' w' h => hK _ _ _ ?_ ⟨h.grow.os, h.grow.tape, h.grow.output, h.grow.size, fun k hk hSk => h.grow.block k hk (fun e => hSk e.symm)⟩ ?_)
  · have key : ∀ (p : Addr) (v : Value), (Value.slice ra l.length rc).ownBlock ≠ some p.block → w.cell? p = some v → w'.cell? p = some v := fun p v hp hv => h.grow.cell hv (Ne.symm hp)
    refine ⟨⟨xs ++ cs, h.own, ?_⟩, by simp⟩
    have far : ∀ b, (B ≤ b ∧ (Value.slice ra l.length rc).ownBlock ≠ some b) ∧ b < w.heap.size → B ≤ b ∧ (Value.slice ra' (l.length + 1) rc').ownBlock ≠ some b := fun b hb => ⟨hb.1.1, fun e => by
      rcases h.at_ with e2 | e2
      · exact hb.1.2 (e2 ▸ e)
      · rw [e2] at e; have := Option.some.inj e; omega⟩
    refine Elts.mono (fun b hb _ => far b hb) (Elts.keep (w := w) (fun p v hp hv => key p v hp.1.2 hv) ?_)
    exact Elts.snoc (E.mono (fun b hb hlt => ⟨hb, hlt⟩) hin) (Elts.mono (fun b hb hlt => ⟨hb, hlt⟩) h2)
  · refine ⟨h.grow.size, fun k o _ hk ho => (h.grow.block k (Array.getElem?_eq_some_iff.1 hk).1 (fun e => ?_)).trans hk⟩
    rcases h1.2 with ⟨e1, _⟩ | ⟨g, cap, cur, e1, _, e3, _⟩
    · rw [e1] at e; cases e
    · rw [e1] at e
      have : k = g := by simpa [Value.ownBlock] using e
      subst this
      rw [show w.heap[k]? = _ from e3] at hk
      obtain rfl := Option.some.inj hk
      cases ho
end
section
variable {P : Program} {w : World} {a : Act} {K : Act → World → Prop} {Q : Exit → Act → World → Prop} {o : Oper}
theorem wp_mkE {t e : Nat} {x y : Operand} {n size bytes : Nat} {z : Value} (ht : P.underlying t = some (.slice e)) (hinfo : (P.info? e).map (fun i => (i.zero, i.size, i.bytes)) = some (some z, size, bytes)) (hbytes : bytes ≤ 4096) (ho : o.op = .makeSlice t x y) (hx : a.eval x = .int .i64 (n : Int)) (hy : a.eval y = .int .i64 (n : Int)) (hn : n ≤ 4294967296)
    (hK : K (a.put o.dst (.slice (some ⟨w.heap.size, 0, none⟩) n n)) (w.alloc (.cells (madeCells z.cells (n * size)) e))) : o.wp P a w K Q := by
  obtain ⟨i, hi, hz0, hz1, hz2⟩ := info_parts hinfo
  have hb : n * bytes ≤ 4294967296 * 4096 := Nat.mul_le_mul hn hbytes
  have hb2 : bytes * n ≤ 4294967296 * 4096 := by rw [Nat.mul_comm]; exact hb
  have hr := run_make (P := P) w t e i z ht hi hz0 .i64 .i64 n n (by omega) (Int.le_refl _) (by rw [hz2]; (try simp only [Int.toNat_natCast]); omega) (by omega)
  simp only [Int.toNat_natCast, hz1] at hr
  unfold Oper.wp execOp
  simp only [ho, hx, hy, Sem.run_bind, Sem.run_pure, hr, Result.andThen_ok]
  exact hK
end
/-! ### Integers, as elements -/
def eltI : Elt Int where
  k := 1
  In := fun _ _ x cs => cs = [.int .i64 x]
  keep := fun _ h => h
  mono := fun _ h => h
  len := fun h => by rw [h]; rfl
  one := fun h v hv => by rw [h] at hv; simp at hv; subst hv; rfl
end Go.Proofs.Ytbohlpfndiiimaa

/- Regions in whatever order, in which what is made comes first and, last, one thing is written ('row[i] = f(..)'), or two ('box = append(box, f(..))'). -/
namespace Go.Proofs.Ytbohlpfndiiimaa
open Go.RowKit Go
set_option linter.unusedVariables false
set_option linter.unusedSimpArgs false
/-- What an operation yields: a value, or one of which something holds that blocks of 'S' do not touch. -/
inductive SpS (S : Nat → Prop) where
 | val (x : Value)
 | mem (p : Value → World → Prop) (h : ∀ v w w', Chg S w w' → p v w → p v w')
def SpS.holds {S : Nat → Prop} : SpS S → Value → World → Prop
 | .val x, v, _ => v = x
 | .mem p _, v, w => p v w
def optS {S : Nat → Prop} (l : List (Bool × SpS S)) (i : Nat) (v : Value) (w : World) : Prop := ((l.getD i (true, .val undef)).1 = true → (l.getD i (true, .val undef)).2.holds v w) ∧ ((l.getD i (true, .val undef)).1 = false → v = undef)
theorem optSKeep {S : Nat → Prop} (l : List (Bool × SpS S)) (i : Nat) (v : Value) (w w' : World) (h : optS l i v w) (hb : Chg S w w') : optS l i v w' := by
 refine ⟨fun e => ?_, h.2⟩
 have := h.1 e
 generalize (l.getD i (true, .val undef)).2 = s at *
 cases s with
 | val x => exact this
 | mem p hp => exact hp _ _ _ hb this
theorem optSVal {S : Nat → Prop} {l : List (Bool × SpS S)} {i : Nat} {v x : Value} {w : World} {β : Bool} (h : optS l i v w) (e : l.getD i (true, .val undef) = (β, .val x)) (hβ : β = true) : v = x := by
 have := h.1 (by rw [e]; exact hβ)
 rw [e] at this
 exact this
theorem optSMem {S : Nat → Prop} {l : List (Bool × SpS S)} {i : Nat} {v : Value} {w : World} {β : Bool} {p : Value → World → Prop} {hp : ∀ v w w', Chg S w w' → p v w → p v w'} (h : optS l i v w) (e : l.getD i (true, .val undef) = (β, .mem p hp)) (hβ : β = true) : p v w := by
 have := h.1 (by rw [e]; exact hβ)
 rw [e] at this
 exact this
/-- A row of one, new. -/
def OneRow {α : Type} (E : Elt α) (w0 : World) (e : TypeId) (x : α) (v : Value) (w : World) : Prop := ∃ g cs, v = .slice (some ⟨g, 0, none⟩) 1 1 ∧ w0.heap.size ≤ g ∧ Blk w g e cs.toArray ∧ E.In (fun b => w0.heap.size ≤ b) w x cs
theorem OneRow.chg {α : Type} {E : Elt α} {w0 w w' : World} {e : TypeId} {x : α} {v : Value} {S : Nat → Prop} (h : OneRow E w0 e x v w) (hc : Chg S w w') (hS : ∀ b, S b → b < w0.heap.size) : OneRow E w0 e x v w' := by
 obtain ⟨g, cs, e1, h1, h2, h3⟩ := h
 exact ⟨g, cs, e1, h1, chg_blk h2 hc (fun hs => by have := hS g hs; omega), Elt.chg h3 hc (fun b hb hs => by have := hS b hs; omega)⟩
section
variable {P : Program} {ops : Array Oper} {S : Nat → Prop}
/-- What an operation finds that does not write. -/
structure CtxA (ops : Array Oper) (l : List (Bool × SpS S)) (chain : List Nat) (first : Nat) (n : Fr) (K : Known) (w0 : World) (i : Nat) (o : Oper) (a : Act) (w : World) : Prop where
 chg : Chg S w0 w
 kn : Kn n K a
 dep : ∀ j d, depB ops o j d = true → chain.contains j = false → optS l j (a.tmps.getD d undef) w
 early : (ancL ops first).contains i = true → Below w0.heap.size w0 w
/-- What an operation finds that writes first. -/
structure CtxB (ops : Array Oper) (l : List (Bool × SpS S)) (chain : List Nat) (n : Fr) (K : Known) (w0 : World) (o : Oper) (a : Act) (w : World) : Prop where
 below : Below w0.heap.size w0 w
 kn : Kn n K a
 dep : ∀ j d, depB ops o j d = true → chain.contains j = false → optS l j (a.tmps.getD d undef) w
def Tail1 (P : Program) (ops : Array Oper) (Q : Exit → Act → World → Prop) (l : List (Bool × SpS S)) (n : Fr) (K : Known) (w0 : World) (q : Nat) (GS : World → Prop) : Nat → List Oper → Prop
 | _, [] => True
 | i, o :: r => (([q].contains i = false ∧ ∃ β, GuardIs (optS l) o β ∧ (∀ g b, o.guard = some (g, b) → [q].contains g = false) ∧ (β = false → ∀ w, optS l i undef w) ∧
   (β = true → ∀ a w, CtxA ops l [q] q n K w0 i o a w → o.wp P a w (fun a' w' => ∃ v, a' = Act.put a o.dst v ∧ Below w.heap.size w w' ∧ optS l i v w') Q)) ∨
  (i = q ∧ o.guard = none ∧ ∀ a w, CtxB ops l [q] n K w0 o a w → o.wp P a w (fun a' w' => ∃ v, a' = Act.put a o.dst v ∧ GS w' ∧ Chg S w w') Q)) ∧ Tail1 P ops Q l n K w0 q GS (i + 1) r
def G1 (S : Nat → Prop) (w0 : World) (GS : World → Prop) : List (Option Value) → World → Prop
 | [none], w => Below w0.heap.size w0 w
 | [some _], w => GS w ∧ Chg S w0 w
 | _, _ => False
theorem Tail1.gen {Q : Exit → Act → World → Prop} {l : List (Bool × SpS S)} {n : Fr} {K : Known} {w0 : World} {q : Nat} {GS : World → Prop} (hGS : ∀ w w', Below w.heap.size w w' → GS w → GS w') : ∀ {lo : List Oper} {i : Nat}, Tail1 P ops Q l n K w0 q GS i lo →
  SoundFromG P ops Q [q] (optS l) (Chg S) (G1 S w0 GS) n K i lo
 | [], _, _ => trivial
 | o :: r, i, ⟨h, hr⟩ => by
  refine ⟨?_, hr.gen hGS⟩
  rcases h with ⟨hi, β, h1, h2, h3, h4⟩ | ⟨rfl, hg, h4⟩
  ·refine .inl ⟨hi, β, h1, h2, h3, fun hβ a w vs C => ?_⟩
   have hc : Chg S w0 w := by
    match vs, C.len, C.now with
    | [none], _, h => exact .ofBelow h
    | [some _], _, h => exact h.2
   refine Oper.wpIn_mono ?_ (wpIn_of (h4 hβ a w ⟨hc, C.kn, C.dep, fun he => ?_⟩) (by rintro a' w' ⟨v, rfl, _⟩; exact put_defers _ _ _))
   ·rintro a' w' ⟨v, rfl, hb, hR⟩
    refine ⟨v, rfl, .ofBelow hb, ?_, hR⟩
    match vs, C.len, C.now with
    | [none], _, h => exact bstep h hb
    | [some _], _, h => exact ⟨hGS _ _ hb h.1, h.2.trans (.ofBelow hb)⟩
   ·have := C.mostT 0 q rfl he
    match vs, C.len, C.now, this with
    | [none], _, h, _ => exact h
  ·refine .inr ⟨0, rfl, hg, fun a w vs C hn => ?_⟩
   match vs, C.len, C.now, hn, C with
   | [none], _, h, _, C =>
    refine Oper.wpIn_mono ?_ (wpIn_of (h4 a w ⟨h, C.kn, C.dep⟩) (by rintro a' w' ⟨v, rfl, _⟩; exact put_defers _ _ _))
    rintro a' w' ⟨v, rfl, hG, hc⟩
    exact ⟨v, rfl, hc, hG, (Chg.ofBelow h).trans hc⟩
theorem WC.tail1 {id : Nat} {dr : Bool} {Q : Exit → Act → World → Prop} {n : Fr} {K : Known} {w : World} (l : List (Bool × SpS S)) (K0 : Known) (q : Nat) (GS : World → Prop) (hGS : ∀ w w', Below w.heap.size w w' → GS w → GS w')
  (hs : subK K0 K) (hclear : clearB ops K0 = true) (hm : P.follows .mixedOrders = true) (hB : opsB ops n.n = true) (hin : ([q].all fun c => Nat.blt c ops.size) = true)
  (h : Tail1 P ops Q l n K0 w q GS 0 ops.toList)
  (hQ : ∀ (a : Act) (w' : World), Kn n K0 a → GS w' → Chg S w w' → (∀ i d, (ops[i]?).bind (·.dst) = some d → [q].contains i = false → optS l i (a.tmps.getD d undef) w') → Q .normal a w') :
  WC P n K w (.region id ops dr) Q := by
 refine WC.gen [q] (optS l) (Chg S) (G1 S w GS) K0 hs hclear hm hB (by simp) hin (optSKeep l) ?_ (h.gen hGS) (fun a w' vs hk hlen hall hG hu _ => ?_)
 ·cases dr with
  | true => exact (Below.refl _ _).drew
  | false => exact Below.refl _ _
 ·obtain ⟨v, hv⟩ := hall 0 (by simp)
  match vs, hlen, hv, hG with
  | [some _], _, _, hG => exact hQ a w' hk hG.1 hG.2 hu
def Tail2 (P : Program) (ops : Array Oper) (Q : Exit → Act → World → Prop) (l : List (Bool × SpS S)) (n : Fr) (K : Known) (w0 : World) (p q N : Nat) (GA GS : Option Addr → Nat → World → Prop) : Nat → List Oper → Prop
 | _, [] => True
 | i, o :: r => (([p, q].contains i = false ∧ ∃ β, GuardIs (optS l) o β ∧ (∀ g b, o.guard = some (g, b) → [p, q].contains g = false) ∧ (β = false → ∀ w, optS l i undef w) ∧
   (β = true → ∀ a w, CtxA ops l [p, q] p n K w0 i o a w → o.wp P a w (fun a' w' => ∃ v, a' = Act.put a o.dst v ∧ Below w.heap.size w w' ∧ optS l i v w') Q)) ∨
  (i = p ∧ o.guard = none ∧ ∀ a w, CtxB ops l [p, q] n K w0 o a w → o.wp P a w (fun a' w' => ∃ ra rc, a' = Act.put a o.dst (.slice ra N rc) ∧ GA ra rc w' ∧ Chg S w w') Q) ∨
  (i = q ∧ o.guard = none ∧ ∃ d, depB ops o p d = true ∧ ∀ a w ra rc, Kn n K a → (∀ j d, depB ops o j d = true → [p, q].contains j = false → optS l j (a.tmps.getD d undef) w) → a.tmps.getD d undef = .slice ra N rc → GA ra rc w → o.wp P a w (fun a' w' => ∃ v, a' = Act.put a o.dst v ∧ GS ra rc w' ∧ Chg S w w') Q)) ∧ Tail2 P ops Q l n K w0 p q N GA GS (i + 1) r
def G2 (S : Nat → Prop) (w0 : World) (N : Nat) (GA GS : Option Addr → Nat → World → Prop) : List (Option Value) → World → Prop
 | [none, none], w => Below w0.heap.size w0 w
 | [some v, none], w => ∃ ra rc, v = .slice ra N rc ∧ GA ra rc w ∧ Chg S w0 w
 | [some v, some _], w => ∃ ra rc, v = .slice ra N rc ∧ GS ra rc w ∧ Chg S w0 w
 | _, _ => False
theorem G2.chg {w0 w : World} {N : Nat} {GA GS : Option Addr → Nat → World → Prop} : ∀ {vs : List (Option Value)}, G2 S w0 N GA GS vs w → Chg S w0 w
 | [none, none], h => .ofBelow h
 | [some _, none], h => by obtain ⟨_, _, _, _, h⟩ := h; exact h
 | [some _, some _], h => by obtain ⟨_, _, _, _, h⟩ := h; exact h
 | [none, some _], h => h.elim
 | [], h => h.elim
 | [x], h => by cases x <;> exact h.elim
 | _ :: _ :: _ :: _, h => by simp [G2] at h
theorem Tail2.gen {Q : Exit → Act → World → Prop} {l : List (Bool × SpS S)} {n : Fr} {K : Known} {w0 : World} {p q N : Nat} {GA GS : Option Addr → Nat → World → Prop} (hpq : p ≠ q) (hGA : ∀ ra rc w w', Below w.heap.size w w' → GA ra rc w → GA ra rc w') (hGS : ∀ ra rc w w', Below w.heap.size w w' → GS ra rc w → GS ra rc w') : ∀ {lo : List Oper} {i : Nat}, Tail2 P ops Q l n K w0 p q N GA GS i lo →
  SoundFromG P ops Q [p, q] (optS l) (Chg S) (G2 S w0 N GA GS) n K i lo
 | [], _, _ => trivial
 | o :: r, i, ⟨h, hr⟩ => by
  refine ⟨?_, hr.gen hpq hGA hGS⟩
  rcases h with ⟨hi, β, h1, h2, h3, h4⟩ | ⟨rfl, hg, h4⟩ | ⟨rfl, hg, d, hd, h4⟩
  ·refine .inl ⟨hi, β, h1, h2, h3, fun hβ a w vs C => ?_⟩
   refine Oper.wpIn_mono ?_ (wpIn_of (h4 hβ a w ⟨C.now.chg, C.kn, C.dep, fun he => ?_⟩) (by rintro a' w' ⟨v, rfl, _⟩; exact put_defers _ _ _))
   ·rintro a' w' ⟨v, rfl, hb, hR⟩
    refine ⟨v, rfl, .ofBelow hb, ?_, hR⟩
    match vs, C.len, C.now with
    | [none, none], _, h => exact bstep h hb
    | [some _, none], _, ⟨ra, rc, e, h, hc⟩ => exact ⟨ra, rc, e, hGA _ _ _ _ hb h, hc.trans (.ofBelow hb)⟩
    | [some _, some _], _, ⟨ra, rc, e, h, hc⟩ => exact ⟨ra, rc, e, hGS _ _ _ _ hb h, hc.trans (.ofBelow hb)⟩
    | [none, some _], _, h => exact h.elim
   ·have := C.mostT 0 p rfl he
    match vs, C.len, C.now, this with
    | [none, none], _, h, _ => exact h
    | [none, some _], _, h, _ => exact h.elim
  ·refine .inr ⟨0, rfl, hg, fun a w vs C hn => ?_⟩
   match vs, C.len, C.now, hn, C with
   | [none, none], _, h, _, C =>
    refine Oper.wpIn_mono ?_ (wpIn_of (h4 a w ⟨h, C.kn, C.dep⟩) (by rintro a' w' ⟨_, _, rfl, _⟩; exact put_defers _ _ _))
    rintro a' w' ⟨ra, rc, rfl, hG, hc⟩
    exact ⟨_, rfl, hc, ra, rc, rfl, hG, (Chg.ofBelow h).trans hc⟩
   | [none, some _], _, h, _, _ => exact h.elim
  ·refine .inr ⟨1, rfl, hg, fun a w vs C hn => ?_⟩
   have hl := C.link 0 p d rfl hd
   match vs, C.len, C.now, hn, hl, C with
   | [some v, none], _, ⟨ra, rc, e, h, hc⟩, _, hl, C =>
    have hv : v = a.tmps.getD d undef := by simpa using hl
    refine Oper.wpIn_mono ?_ (wpIn_of (h4 a w ra rc C.kn C.dep (hv ▸ e) h) (by rintro a' w' ⟨v, rfl, _⟩; exact put_defers _ _ _))
    rintro a' w' ⟨u, rfl, hG, hc2⟩
    exact ⟨u, rfl, hc2, ra, rc, e, hG, hc.trans hc2⟩
theorem WC.tail2 {id : Nat} {dr : Bool} {Q : Exit → Act → World → Prop} {n : Fr} {K : Known} {w : World} (l : List (Bool × SpS S)) (K0 : Known) (p q N dp : Nat) (GA GS : Option Addr → Nat → World → Prop) (hpq : p ≠ q) (hGA : ∀ ra rc w w', Below w.heap.size w w' → GA ra rc w → GA ra rc w') (hGS : ∀ ra rc w w', Below w.heap.size w w' → GS ra rc w → GS ra rc w')
  (hs : subK K0 K) (hclear : clearB ops K0 = true) (hm : P.follows .mixedOrders = true) (hB : opsB ops n.n = true) (hin : ([p, q].all fun c => Nat.blt c ops.size) = true) (hdp : (ops[p]?).bind (·.dst) = some dp)
  (h : Tail2 P ops Q l n K0 w p q N GA GS 0 ops.toList)
  (hQ : ∀ (a : Act) (w' : World) (ra : Option Addr) (rc : Nat), Kn n K0 a → a.tmps.getD dp undef = .slice ra N rc → GS ra rc w' → Chg S w w' → (∀ i d, (ops[i]?).bind (·.dst) = some d → [p, q].contains i = false → optS l i (a.tmps.getD d undef) w') → Q .normal a w') :
  WC P n K w (.region id ops dr) Q := by
 refine WC.gen [p, q] (optS l) (Chg S) (G2 S w N GA GS) K0 hs hclear hm hB (by simpa using hpq) hin (optSKeep l) ?_ (h.gen hpq hGA hGS) (fun a w' vs hk hlen hall hG hu hl => ?_)
 ·cases dr with
  | true => exact (Below.refl _ _).drew
  | false => exact Below.refl _ _
 ·obtain ⟨v, hv⟩ := hall 0 (by simp)
  obtain ⟨u, hu1⟩ := hall 1 (by simp)
  have hx := hl 0 p dp rfl hdp
  match vs, hlen, hv, hu1, hx, hG with
  | [some y, some _], _, _, _, hx, ⟨ra, rc, e, hG, hc⟩ =>
   have hy : y = a.tmps.getD dp undef := by simpa using hx
   exact hQ a w' ra rc hk (hy ▸ e) hG hc hu
end
end Go.Proofs.Ytbohlpfndiiimaa

/- Terms that lie within blocks of 'S'; rows of terms that are made. -/
namespace Go.Proofs.Ytbohlpfndiiimaa
open Go.RowKit Go
set_option linter.unusedVariables false
set_option linter.unusedSimpArgs false
mutual
/-- The value 'v' is the term 't', and all its rows lie in blocks of 'S'. -/
def InT (S : Nat → Prop) (w : World) : T → Value → Prop
  | .mk f l, v => I64 f ∧ ∃ (a : Option Addr) (c : Nat), v = .agg #[.int .i64 f, .slice a l.length c] ∧ l.length ≤ c ∧ c ≤ maxLen ∧ InTs S w l a 0
def InTs (S : Nat → Prop) (w : World) : List T → Option Addr → Nat → Prop
  | [], _, _ => True
  | t :: r, a, i => (∃ (b o : Nat) (u v : Value), a = some ⟨b, o, none⟩ ∧ S b ∧ w.cell? ⟨b, o + i * 2, none⟩ = some u ∧ w.cell? ⟨b, o + i * 2 + 1, none⟩ = some v ∧ InT S w t (.agg #[u, v])) ∧ InTs S w r a (i + 1)
end
mutual
theorem InT.keep {S : Nat → Prop} {w w' : World} (hb : ∀ (p : Addr) (x : Value), S p.block → w.cell? p = some x → w'.cell? p = some x) : ∀ {t : T} {v : Value}, InT S w t v → InT S w' t v
  | .mk _ _, _, ⟨h0, a, c, h1, h2, h3, h4⟩ => ⟨h0, a, c, h1, h2, h3, InTs.keep hb h4⟩
theorem InTs.keep {S : Nat → Prop} {w w' : World} (hb : ∀ (p : Addr) (x : Value), S p.block → w.cell? p = some x → w'.cell? p = some x) : ∀ {l : List T} {a : Option Addr} {i : Nat}, InTs S w l a i → InTs S w' l a i
  | [], _, _, _ => trivial
  | _ :: _, _, _, ⟨⟨b, o, u, v, ha, hs, h1, h2, h3⟩, h4⟩ => ⟨⟨b, o, u, v, ha, hs, hb ⟨b, _, none⟩ _ hs h1, hb ⟨b, _, none⟩ _ hs h2, InT.keep hb h3⟩, InTs.keep hb h4⟩
end
mutual
theorem InT.mono {S S' : Nat → Prop} {w : World} (hb : ∀ b, S b → b < w.heap.size → S' b) : ∀ {t : T} {v : Value}, InT S w t v → InT S' w t v
  | .mk _ _, _, ⟨h0, a, c, h1, h2, h3, h4⟩ => ⟨h0, a, c, h1, h2, h3, InTs.mono hb h4⟩
theorem InTs.mono {S S' : Nat → Prop} {w : World} (hb : ∀ b, S b → b < w.heap.size → S' b) : ∀ {l : List T} {a : Option Addr} {i : Nat}, InTs S w l a i → InTs S' w l a i
  | [], _, _, _ => trivial
  | _ :: _, _, _, ⟨⟨b, o, u, v, ha, hs, h1, h2, h3⟩, h4⟩ => ⟨⟨b, o, u, v, ha, hb _ hs (World.block_lt_of_cell? _ _ h1), h1, h2, InT.mono hb h3⟩, InTs.mono hb h4⟩
end
mutual
theorem InT.isT {S : Nat → Prop} {w : World} : ∀ {t : T} {v : Value}, InT S w t v → IsT w t v
  | .mk _ _, _, ⟨h0, a, c, h1, h2, h3, h4⟩ => ⟨h0, a, c, h1, h2, h3, InTs.isTs h4⟩
theorem InTs.isTs {S : Nat → Prop} {w : World} : ∀ {l : List T} {a : Option Addr} {i : Nat}, InTs S w l a i → IsTs w l a i
  | [], _, _, _ => trivial
  | _ :: _, _, _, ⟨⟨b, o, u, v, ha, hs, h1, h2, h3⟩, h4⟩ => ⟨⟨b, o, u, v, ha, h1, h2, InT.isT h3⟩, InTs.isTs h4⟩
end
mutual
theorem IsT.inT {w : World} : ∀ {t : T} {v : Value}, IsT w t v → InT (fun b => b < w.heap.size) w t v
  | .mk _ _, _, ⟨h0, a, c, h1, h2, h3, h4⟩ => ⟨h0, a, c, h1, h2, h3, IsTs.inTs h4⟩
theorem IsTs.inTs {w : World} : ∀ {l : List T} {a : Option Addr} {i : Nat}, IsTs w l a i → InTs (fun b => b < w.heap.size) w l a i
  | [], _, _, _ => trivial
  | _ :: _, _, _, ⟨⟨b, o, u, v, ha, h1, h2, h3⟩, h4⟩ => ⟨⟨b, o, u, v, ha, World.block_lt_of_cell? _ _ h1, h1, h2, IsT.inT h3⟩, IsTs.inTs h4⟩
end
theorem InT.below {S : Nat → Prop} {w w' : World} (hb : Below w.heap.size w w') {t : T} {v : Value} (h : InT S w t v) : InT S w' t v := h.keep fun p x _ hx => bkeeps hb p x hx
theorem InT.form {S : Nat → Prop} {w : World} {t : T} {v : Value} (h : InT S w t v) : I64 t.f ∧ ∃ (a : Option Addr) (c : Nat), v = .agg #[.int .i64 t.f, .slice a t.args.length c] ∧ t.args.length ≤ c ∧ c ≤ maxLen ∧ InTs S w t.args a 0 := by
  cases t; exact h
theorem InTs.at0 {S : Nat → Prop} {w : World} {l : List T} : ∀ {a : Option Addr} {i : Nat}, InTs S w l a i → ∀ k (hk : k < l.length),
    ∃ (b o : Nat) (u v : Value), a = some ⟨b, o, none⟩ ∧ S b ∧ w.cell? ⟨b, o + (i + k) * 2, none⟩ = some u ∧ w.cell? ⟨b, o + (i + k) * 2 + 1, none⟩ = some v ∧ InT S w l[k] (.agg #[u, v]) := by
  induction l with
  | nil => intro a i _ k hk; simp at hk
  | cons t r ih =>
    intro a i h k hk
    obtain ⟨h0, h1⟩ := h
    cases k with
    | zero => exact h0
    | succ k =>
      obtain ⟨b, o, u, v, h2, h3, h4, h5, h6⟩ := ih h1 k (by simpa using hk)
      refine ⟨b, o, u, v, h2, h3, ?_, ?_, by simpa using h6⟩
      · rw [show i + (k + 1) = i + 1 + k by omega]; exact h4
      · rw [show i + (k + 1) = i + 1 + k by omega]; exact h5
theorem InTs.of_at0 {S : Nat → Prop} {w : World} {a : Option Addr} : ∀ {l : List T} {i : Nat}, (∀ k (hk : k < l.length), ∃ (b o : Nat) (u v : Value), a = some ⟨b, o, none⟩ ∧ S b ∧ w.cell? ⟨b, o + (i + k) * 2, none⟩ = some u ∧ w.cell? ⟨b, o + (i + k) * 2 + 1, none⟩ = some v ∧ InT S w l[k] (.agg #[u, v])) → InTs S w l a i
  | [], _, _ => trivial
  | _ :: r, i, h => ⟨h 0 (by simp), InTs.of_at0 fun k hk => by
      obtain ⟨b, o, u, v, h1, h2, h3, h4, h5⟩ := h (k + 1) (by simpa using hk)
      refine ⟨b, o, u, v, h1, h2, ?_, ?_, by simpa using h5⟩
      · rw [show i + 1 + k = i + (k + 1) by omega]; exact h3
      · rw [show i + 1 + k = i + (k + 1) by omega]; exact h4⟩
theorem InT.chg {S S2 : Nat → Prop} {w w' : World} {t : T} {v : Value} (h : InT S w t v) (hc : Chg S2 w w') (hS : ∀ b, S b → ¬ S2 b) : InT S w' t v := h.keep fun p x hp hx => by
  have hb := World.block_lt_of_cell? _ _ hx
  unfold World.cell? at hx ⊢
  rw [hc.block p.block hb (hS _ hp)]; exact hx
theorem InT.upd {N g : Nat} {w w' : World} {t : T} {v : Value} (h : InT (fun b => N ≤ b) w t v) (hu : Upd g w w') (hg : g < N) : InT (fun b => N ≤ b) w' t v := h.chg (S2 := fun b => b = g) ⟨hu.os, hu.tape, hu.output, Nat.le_of_eq hu.size.symm, fun k _ hn => hu.block k hn⟩ (fun b hb e => by subst e; omega)
def eltT : Elt T where
  k := 2
  In := fun S w t cs => ∃ u v, cs = [u, v] ∧ InT S w t (.agg #[u, v])
  keep := fun hb ⟨u, v, e, h⟩ => ⟨u, v, e, h.keep hb⟩
  mono := fun hb ⟨u, v, e, h⟩ => ⟨u, v, e, h.mono hb⟩
  len := fun ⟨_, _, e, _⟩ => by rw [e]; rfl
  one := fun ⟨u, v, e, h⟩ x hx => by
    obtain ⟨_, a, c, e2, _⟩ := h.form
    simp only [Value.agg.injEq, Array.mk.injEq, List.cons.injEq, and_true] at e2
    rw [e] at hx
    simp only [List.mem_cons, List.not_mem_nil, or_false] at hx
    rcases hx with rfl | rfl
    · rw [e2.1]; rfl
    · rw [e2.2]; rfl
theorem InRow.ts {S : Nat → Prop} {w : World} {l : List T} {a : Option Addr} (h : InRow eltT S w l a) : InTs S w l a 0 := InTs.of_at0 fun k hk => by
  obtain ⟨b, o, cs, h1, h2, ⟨u, v, rfl, h3⟩, h4⟩ := h k hk
  have c0 := h4 0 (by decide)
  have c1 := h4 1 (by decide)
  refine ⟨b, o, u, v, h1, h2, ?_, ?_, h3⟩
  · rw [Nat.zero_add]; exact c0
  · rw [Nat.zero_add]; exact c1
/-- A term in memory that has come since 'w0'. -/
abbrev NewT (w0 w : World) (t : T) (v : Value) : Prop := InT (fun b => w0.heap.size ≤ b) w t v
theorem newT_mk {w0 w : World} {f : Int} {ts : List T} {a : Option Addr} {n c : Nat} (hf : I64 f) (hn : n = ts.length) (hc : n ≤ c) (hm : c ≤ maxLen) (h : InRow eltT (fun b => w0.heap.size ≤ b) w ts a) : NewT w0 w (.mk f ts) (.agg #[.int .i64 f, .slice a n c]) := by
  subst hn
  exact ⟨hf, a, c, rfl, hc, hm, h.ts⟩
theorem newT_row {w0 w : World} {B e : Nat} {f : Int} {ts : List T} {ra : Option Addr} {n rc : Nat} (hf : I64 f) (h : RowE eltT w B e ra rc n ts) (hB : w0.heap.size ≤ B) : NewT w0 w (.mk f ts) (.agg #[.int .i64 f, .slice ra n rc]) := by
  obtain ⟨h1, h2, h3, h4⟩ := h.inRow
  exact newT_mk hf h2 h3 h4 (h1.mono (by decide) (fun b hb _ => Nat.le_trans hB hb))
theorem newT_leaf {w0 w : World} {f : Int} (hf : I64 f) : NewT w0 w (.mk f []) (.agg #[.int .i64 f, .slice none 0 0]) := newT_mk hf rfl (Nat.le_refl _) (by unfold maxLen; omega) InRow.nil
theorem MRow.startT {w : World} {B g e n : Nat} {z : Value} (hB : Blk w g e (madeCells z.cells (n * 2))) (hb : B ≤ g) : MRow eltT w B g e n (madeCells z.cells (n * 2)).toList [] :=
  .start (by simpa using hB) (by rw [Array.length_toList]; exact size_madeCells z.cells (n * 2)) hb
theorem MRow.blkT {w : World} {B g e n k : Nat} {D : List Value} {l : List T} (h : MRow eltT w B g e n D l) (hk : l.length = k) (hkn : k < n) : ∃ cs, Blk w g e cs ∧ 0 + k * 2 + 1 < cs.size := by
  obtain ⟨⟨xs, h1, h2⟩, h3, _, _⟩ := h
  have hx := h2.len
  have e2 : eltT.k = 2 := rfl
  rw [e2] at hx h3
  refine ⟨_, h1, ?_⟩
  simp only [List.size_toArray, List.length_append, List.length_drop, h3, hx, hk]
  omega
theorem MRow.storeT {w : World} {B g e n k : Nat} {D : List Value} {l : List T} {x : T} {u v : Value} (h : MRow eltT w B g e n D l) (hk : l.length = k) (hkn : k < n) (hin : InT (fun b => B ≤ b ∧ b ≠ g) w x (.agg #[u, v])) :
    MRow eltT ((w.setCell ⟨g, 0 + k * 2, none⟩ u).setCell ⟨g, 0 + k * 2 + 1, none⟩ v) B g e n D (l ++ [x]) := by
  refine h.store ((Upd.at_ _ _ _ _).trans (Upd.at_ _ _ _ _)) (by omega) ⟨u, v, rfl, hin⟩ (fun xs hx hB => ?_)
  have e2 : eltT.k = 2 := rfl
  have hD := h.dlen
  rw [e2] at hx hD
  have hB2 := (hB.set_ (0 + k * 2) u).set_ (0 + k * 2 + 1) v
  rw [List.setIfInBounds_toArray, List.setIfInBounds_toArray, show 0 + k * 2 = xs.length by omega, set2 (by simp only [List.length_drop]; omega), List.drop_drop] at hB2
  rw [show 0 + k * 2 = xs.length by omega]
  simpa using hB2
end Go.Proofs.Ytbohlpfndiiimaa

/- Substitutions: how they lie in memory. -/
namespace Go.Proofs.Ytbohlpfndiiimaa
open Go.RowKit Go
set_option linter.unusedVariables false
set_option linter.unusedSimpArgs false
structure Bd where
  var : Int
  t : T
instance : Inhabited Bd := ⟨⟨0, .mk 0 []⟩⟩
end Go.Proofs.Ytbohlpfndiiimaa

/- Maps from integers: entries in the order in which they were laid, whatever the values are; ranges over them. -/
namespace Go.Proofs.Ytbohlpfndiiimaa
open Go.RowKit Go
set_option linter.unusedVariables false
set_option linter.unusedSimpArgs false
section
variable {w w' : World} {b g : Nat} {o : Obj}
end
section
variable {P : Program} {w : World} {t k e : TypeId} {kd : IntKind} {r : Nat} {es : Array MapEntry} {clock : Nat} {l : List (Int × Value)}
variable {a : Act} {K : Act → World → Prop} {Q : Exit → Act → World → Prop} {o : Oper}
end
end Go.Proofs.Ytbohlpfndiiimaa

/- Ranges over maps from integers: what is handed out, in whatever order. -/
namespace Go.Proofs.Ytbohlpfndiiimaa
open Go.RowKit Go
set_option linter.unusedVariables false
set_option linter.unusedSimpArgs false
section
variable {P : Program} {w : World} {t k e : TypeId} {kd : IntKind} {r it : Nat} {es : Array MapEntry} {clock : Nat} {l done rest : List (Int × Value)} {seen : Array Nat}
variable {a : Act} {K : Act → World → Prop} {Q : Exit → Act → World → Prop} {o : Oper}
end
end Go.Proofs.Ytbohlpfndiiimaa

/- Pointers to terms, in blocks that are told. -/
namespace Go.Proofs.Ytbohlpfndiiimaa
open Go.RowKit Go
set_option linter.unusedVariables false
set_option linter.unusedSimpArgs false
section
variable {S S' : Nat → Prop} {w w' : World} {t : T} {v : Value}
end
section
variable {α β : Type} {E : Elt α} {E2 : Elt β} {w w' : World} {B B2 e e2 c c2 n n2 : Nat} {a a2 : Option Addr} {l : List α} {l2 : List β}
theorem RowE.neBlk {g ty : Nat} {cs : Array Value} (h : RowE E w B e a c n l) (hB : Blk w g ty cs) (he : e ≠ ty) : (Value.slice a n c).ownBlock ≠ some g := by
  intro hb
  obtain ⟨⟨xs, h1, _⟩, _⟩ := h
  rcases h1.2 with ⟨e1, _⟩ | ⟨g', cap, cur, e1, _, r1, _⟩
  · rw [e1] at hb; cases hb
  · rw [e1] at hb
    obtain rfl : g' = g := by simpa [Value.ownBlock] using hb
    unfold Blk at hB
    have := r1.symm.trans hB
    simp at this
    exact he this.2
end
section
variable {α : Type} {E : Elt α} {P : Program} {w : World} {a : Act} {K : Act → World → Prop} {Q : Exit → Act → World → Prop} {o : Oper}
end
end Go.Proofs.Ytbohlpfndiiimaa

/- Rows of one's own whose elements lie in blocks that are told. -/
namespace Go.Proofs.Ytbohlpfndiiimaa
open Go.RowKit Go
set_option linter.unusedVariables false
set_option linter.unusedSimpArgs false
section
variable {α β : Type} {E : Elt α} {E2 : Elt β} {S S' : Nat → Prop} {w w' : World} {e e2 c c2 n n2 : Nat} {a a2 : Option Addr} {l : List α} {l2 : List β}
/-- A row of one's own: its elements lie in blocks of 'S', none of which is the row's. -/
structure RowD (E : Elt α) (S : Nat → Prop) (w : World) (e : Nat) (a : Option Addr) (c n : Nat) (l : List α) : Prop where
  row : ∃ xs, w.ownsRow 0 e E.k (.slice a n c) n xs ∧ Elts E S w l xs
  len : n = l.length
  ne : ∀ b, S b → (Value.slice a n c).ownBlock ≠ some b
theorem RowD.nil : RowD E S w e none 0 0 ([] : List α) := ⟨⟨[], World.ownsRow_nil _ _ _ _, rfl⟩, rfl, fun _ _ h => (nomatch h)⟩
theorem RowD.rowE (h : RowD E S w e a c n l) : RowE E w 0 e a c n l := by
  obtain ⟨⟨xs, h1, h2⟩, h3, h4⟩ := h
  exact ⟨⟨xs, h1, Elts.mono (fun b hb _ => ⟨Nat.zero_le _, h4 b hb⟩) h2⟩, h3⟩
theorem RowD.lt (h : RowD E S w e a c n l) : ∀ b, (Value.slice a n c).ownBlock = some b → b < w.heap.size := fun b hb => (h.rowE.lt b hb).2
theorem RowD.mono (h : RowD E S w e a c n l) (hb : ∀ b, S b → b < w.heap.size → S' b) (hne : ∀ b, S' b → (Value.slice a n c).ownBlock ≠ some b) : RowD E S' w e a c n l := by
  obtain ⟨⟨xs, h1, h2⟩, h3, h4⟩ := h
  exact ⟨⟨xs, h1, Elts.mono hb h2⟩, h3, hne⟩
/-- Blocks of the row and of its elements are as they were. -/
theorem RowD.chg {Z : Nat → Prop} (h : RowD E S w e a c n l) (hc : Chg Z w w') (h1 : ∀ b, (Value.slice a n c).ownBlock = some b → ¬ Z b) (h2 : ∀ b, S b → ¬ Z b) : RowD E S w' e a c n l := by
  obtain ⟨⟨xs, k1, k2⟩, k3, k4⟩ := h
  refine ⟨⟨xs, ⟨k1.1, k1.2.imp id ?_⟩, Elts.keep (fun p v hp hv => ?_) k2⟩, k3, k4⟩
  · rintro ⟨g, cap, cur, e1, e2, e3, r⟩
    refine ⟨g, cap, cur, e1, e2, ?_, r⟩
    rw [hc.block g (Array.getElem?_eq_some_iff.1 e3).1 (h1 g (by rw [e1]; rfl))]; exact e3
  · have hb := World.block_lt_of_cell? _ _ hv
    unfold World.cell? at hv ⊢
    rw [hc.block p.block hb (h2 _ hp)]; exact hv
theorem RowD.below (h : RowD E S w e a c n l) (hb : Below w.heap.size w w') : RowD E S w' e a c n l := h.chg (Z := fun _ => False) (.ofBelow hb) (fun _ _ => id) (fun _ _ => id)
theorem RowD.inRow (h : RowD E S w e a c n l) : InRow E (fun _ => True) w l a ∧ n ≤ c ∧ c ≤ maxLen := by
  obtain ⟨h1, h2, h3, h4⟩ := h.rowE.inRow
  rcases Nat.eq_zero_or_pos E.k with hk | hk
  · exact ⟨fun i hi => by
      obtain ⟨b, o, cs, e1, _, e3, e4⟩ := h1 i hi
      exact ⟨b, o, cs, e1, trivial, E.mono (fun _ _ _ => trivial) e3, e4⟩, h3, h4⟩
  · exact ⟨h1.mono hk (fun _ _ _ => trivial), h3, h4⟩
theorem RowD.neBlk {g ty : Nat} {cs : Array Value} (h : RowD E S w e a c n l) (hB : Blk w g ty cs) (he : e ≠ ty) : (Value.slice a n c).ownBlock ≠ some g := h.rowE.neBlk hB he
end
section
variable {α : Type} {E : Elt α} {P : Program} {w : World} {a : Act} {K : Act → World → Prop} {Q : Exit → Act → World → Prop} {o : Oper} {S S2 : Nat → Prop}
/-- One element more, by append. -/
theorem wp_appD {s x : Operand} {t e : Nat} {z : Value} {size bytes n rc g1 : Nat} {ra : Option Addr} {l : List α} {y : α} {cs : List Value} (hk : E.k = size) (ht : P.underlying t = some (.slice e)) (hinfo : (P.info? e).map (fun i => (i.zero, i.size, i.bytes)) = some (some z, size, bytes)) (hzs : z.cells.size = size) (hsz : 0 < size)
    (ho : o.op = .call { callee := .builtin .append, args := #[s, x], argTypes := #[t, t] }) (hs : a.eval s = .slice ra n rc) (hx : a.eval x = .slice (some ⟨g1, 0, none⟩) 1 1) (hrow : RowD E S w e ra rc n l) (hB : Blk w g1 e cs.toArray) (hin : E.In S2 w y cs) (hS2 : ∀ b, S2 b → (Value.slice ra n rc).ownBlock ≠ some b)
    (hb : (n + 1) * bytes ≤ 140737488355328) (hn : n + 1 ≤ 9223372036854775807) (hK : ∀ ra' rc' w', RowD E (fun b => (S b ∨ S2 b) ∧ b < w.heap.size) w' e ra' rc' (n + 1) (l ++ [y]) → Chg (fun b => (Value.slice ra n rc).ownBlock = some b) w w' → (∀ b, (Value.slice ra' (n + 1) rc').ownBlock = some b → (Value.slice ra n rc).ownBlock = some b ∨ w.heap.size ≤ b) → K (a.put o.dst (.slice ra' (n + 1) rc')) w') : o.wp P a w K Q := by
  subst hk
  obtain ⟨⟨xs, h1, h2⟩, rfl, h4⟩ := hrow
  refine wp_app (m := 1) (news := cs) ht hinfo hzs hsz ho hs hx h1 (SrcIs.ofBlk hB) (by rw [E.len hin]; omega) (E.one hin) hb hn (Nat.zero_le _) (fun ra' rc' w' h => hK _ _ _ ?_ ⟨h.grow.os, h.grow.tape, h.grow.output, h.grow.size, fun k hk hSk => h.grow.block k hk (fun e => hSk e.symm)⟩ ?_)
  · have key : ∀ (p : Addr) (v : Value), (Value.slice ra l.length rc).ownBlock ≠ some p.block → w.cell? p = some v → w'.cell? p = some v := fun p v hp hv => h.grow.cell hv (Ne.symm hp)
    have ne2 : ∀ b, (S b ∨ S2 b) → (Value.slice ra l.length rc).ownBlock ≠ some b := fun b q => q.elim (h4 b) (hS2 b)
    refine ⟨⟨xs ++ cs, h.own, ?_⟩, by simp, fun b hb e => ?_⟩
    · refine Elts.keep (w := w) (fun p v hp hv => key p v (ne2 _ hp.1) hv) ?_
      exact Elts.snoc (E.mono (fun b hb hlt => ⟨.inr hb, hlt⟩) hin) (Elts.mono (fun b hb hlt => ⟨.inl hb, hlt⟩) h2)
    · rcases h.at_ with e2 | e2
      · exact ne2 b hb.1 (e2 ▸ e)
      · rw [e2] at e; have := Option.some.inj e; have := hb.2; omega
  · intro b hb
    rcases h.at_ with e2 | e2
    · exact .inl (e2 ▸ hb)
    · rw [e2] at hb; exact .inr (Nat.le_of_eq (Option.some.inj hb))
end
end Go.Proofs.Ytbohlpfndiiimaa

/- Unification by nets of parts: plain. -/
namespace Go.Proofs.Ytbohlpfndiiimaa
set_option linter.unusedVariables false
set_option linter.unusedSimpArgs false
/-- A part: a symbol (or a variable), its arguments' numbers. -/
structure Pt where
  fn : Int
  args : List Nat
instance : Inhabited Pt := ⟨⟨0, []⟩⟩
def aget (l : List Nat) (k : Nat) : Nat := l.getD k 0
theorem aget_lt {l : List Nat} {k : Nat} (h : k < l.length) : aget l k = l[k] := by simp [aget, h]
theorem aget_mem {l : List Nat} {k : Nat} (h : k < l.length) : aget l k ∈ l := by rw [aget_lt h]; exact List.getElem_mem h
end Go.Proofs.Ytbohlpfndiiimaa

/- Unification by nets of parts: terms put into the net, measures, what variables become; plain. -/
namespace Go.Proofs.Ytbohlpfndiiimaa
set_option linter.unusedVariables false
set_option linter.unusedSimpArgs false
end Go.Proofs.Ytbohlpfndiiimaa

/- Parts in memory: rows of numbers, rows of parts; numbers written in place. -/
namespace Go.Proofs.Ytbohlpfndiiimaa
open Go.RowKit Go
set_option linter.unusedVariables false
set_option linter.unusedSimpArgs false
/-- Numbers, as elements. -/
def eltN : Elt Nat where
  k := 1
  In := fun _ _ x cs => cs = [.int .i64 (x : Int)]
  keep := fun _ h => h
  mono := fun _ h => h
  len := fun h => by rw [h]; rfl
  one := fun h v hv => by rw [h] at hv; simp at hv; subst hv; rfl
section
variable {S : Nat → Prop} {w w' : World} {a : Option Addr} {c n e : Nat}
theorem InRow.openN {l : List Nat} (h : InRow eltN S w l a) : ∃ b o : Nat, (∀ k, k < l.length → a = some ⟨b, o, none⟩) ∧ ∀ k, k < l.length → w.cell? ⟨b, o + k, none⟩ = some (.int .i64 ((aget l k : Nat) : Int)) := by
  rcases Nat.eq_zero_or_pos l.length with h0 | h0
  · exact ⟨0, 0, fun k hk => by omega, fun k hk => by omega⟩
  · obtain ⟨b, o, _, ha, _⟩ := h 0 h0
    refine ⟨b, o, fun _ _ => ha, fun k hk => ?_⟩
    obtain ⟨b2, o2, cs, e1, _, h3, h4⟩ := h k hk
    rw [ha] at e1
    simp only [Option.some.injEq, Addr.mk.injEq, and_true] at e1
    obtain ⟨rfl, rfl⟩ := e1
    have h3' : cs = [.int .i64 ((l[k] : Nat) : Int)] := h3
    subst h3'
    rw [aget_lt hk]
    have := h4 0 (by decide)
    simpa [eltN] using this
/-- A row of numbers of one's own, in its block. -/
theorem RowD.blkN {l : List Nat} (h : RowD eltN S w e a c n l) (h0 : 0 < n) : ∃ (b : Nat) (cs : Array Value), a = some ⟨b, 0, none⟩ ∧ (Value.slice a n c).ownBlock = some b ∧ Blk w b e cs ∧ n ≤ cs.size ∧ (∀ k, k < n → w.cell? ⟨b, 0 + k, none⟩ = some (.int .i64 ((aget l k : Nat) : Int))) ∧
    ∀ (k : Nat) (v : Nat), k < n → RowD eltN S (w.setCell ⟨b, 0 + k, none⟩ (.int .i64 (v : Int))) e a c n (l.set k v) := by
  obtain ⟨⟨xs, h1, h2⟩, rfl, h4⟩ := h
  rcases h1.2 with ⟨e1, e2⟩ | ⟨g, cap, cur, e1, _, hb, hc, hm, hs, hx⟩
  · omega
  · have e1' := e1
    simp only [Value.slice.injEq, true_and] at e1'
    obtain ⟨rfl, rfl⟩ := e1'
    have hxs : ∀ (l : List Nat) (xs : List Value), Elts eltN S w l xs → xs = l.map (fun x : Nat => Value.int .i64 (x : Int)) := by
      intro l
      induction l with
      | nil => intro xs h; exact h
      | cons x r ih =>
        intro xs h
        obtain ⟨cs, q, e, k1, k2⟩ := h
        have k1' : cs = [.int .i64 (x : Int)] := k1
        rw [e, k1', ih q k2]; rfl
    have hX := hxs l xs h2
    have hl : l.length ≤ cur.size := by rw [hs]; show l.length ≤ c * 1; omega
    have hin : ∀ k, k < l.length → cur[k]? = some (.int .i64 ((aget l k : Nat) : Int)) := fun k hk => by
      have := congrArg (fun q => q[k]?) hx
      simp only [hX] at this
      rw [List.getElem?_take_of_lt (by show k < l.length * 1; omega), Array.getElem?_toList, List.getElem?_map, List.getElem?_eq_getElem hk] at this
      rw [this, aget_lt hk]; rfl
    refine ⟨g, cur, rfl, rfl, hb, hl, fun k hk => ?_, fun k v hk => ?_⟩
    · rw [Nat.zero_add, Blk.cell hb]; exact hin k hk
    · rw [Nat.zero_add]
      have hB' := Blk.set_ (show Blk w g e cur from hb) k (.int .i64 (v : Int))
      refine ⟨⟨(l.set k v).map (fun x : Nat => Value.int .i64 (x : Int)), ⟨?_, .inr ⟨g, c, cur.setIfInBounds k (.int .i64 (v : Int)), rfl, Nat.zero_le _, hB', hc, hm, by simpa using hs, ?_⟩⟩, ?_⟩, by simp, h4⟩
      · have := h1.1; rw [hX] at this; simpa using this
      · rw [Array.toList_setIfInBounds, List.take_set, hx, hX, List.map_set]
      · have : ∀ (w : World) (l : List Nat), Elts eltN S w l (l.map (fun x : Nat => Value.int .i64 (x : Int))) := by
          intro w l
          induction l with
          | nil => rfl
          | cons x r ih => exact ⟨_, _, rfl, rfl, ih⟩
        exact this _ _
theorem InRow.chgS {α : Type} {E : Elt α} {S2 : Nat → Prop} {l : List α} (h : InRow E S w l a) (hc : Chg S2 w w') (hS : ∀ b, S b → ¬ S2 b) : InRow E S w' l a := h.keep (fun p v hp hv => by
  have hb := World.block_lt_of_cell? _ _ hv
  unfold World.cell? at hv ⊢
  rw [hc.block p.block hb (hS _ hp)]; exact hv)
end
end Go.Proofs.Ytbohlpfndiiimaa

namespace Go.Proofs.Ytbohlpfndiiimaa
open Go.RowKit Go
set_option linter.unusedVariables false
set_option linter.unusedSimpArgs false
abbrev obk (a : Option Addr) (n c : Nat) : Option Nat := (Value.slice a n c).ownBlock
section
variable {S : Nat → Prop} {w w' : World} {a : Option Addr} {c n e : Nat}
theorem RowD.opn {α : Type} {E : Elt α} {l : List α} (h : RowD E S w e a c n l) (h0 : 0 < n) : ∃ b : Nat, a = some ⟨b, 0, none⟩ ∧ obk a n c = some b ∧ ∀ k (hk : k < l.length), ∃ cs, E.In S w l[k] cs ∧ ∀ j, j < E.k → w.cell? ⟨b, 0 + k * E.k + j, none⟩ = cs[j]? := by
  obtain ⟨⟨xs, h1, h2⟩, rfl, _⟩ := h
  rcases h1.2 with ⟨_, e2⟩ | ⟨g, cap, cur, e1, _, hb, hc, _, hs, hx⟩
  · omega
  simp only [Value.slice.injEq, true_and] at e1
  obtain ⟨rfl, rfl⟩ := e1
  refine ⟨g, rfl, rfl, fun k hk => ?_⟩
  obtain ⟨cs, h3, h4⟩ := h2.at_ k hk
  refine ⟨cs, h3, fun j hj => ?_⟩
  rw [Nat.zero_add, Blk.cell (show Blk w g e cur from hb), ← h4 j hj, ← hx, List.getElem?_take_of_lt (by
    have : k * E.k + E.k ≤ l.length * E.k := by rw [← Nat.succ_mul]; exact Nat.mul_le_mul_right _ hk
    omega), Array.getElem?_toList]
theorem InRow.openNS {l : List Nat} (h : InRow eltN S w l a) : ∃ b o : Nat, (∀ k, k < l.length → a = some ⟨b, o, none⟩) ∧ (∀ k, k < l.length → S b) ∧ ∀ k, k < l.length → w.cell? ⟨b, o + k, none⟩ = some (.int .i64 ((aget l k : Nat) : Int)) := by
  rcases Nat.eq_zero_or_pos l.length with h0 | h0
  · exact ⟨0, 0, fun k hk => by omega, fun k hk => by omega, fun k hk => by omega⟩
  · obtain ⟨b, o, hh1, hh2⟩ := h.openN
    refine ⟨b, o, hh1, fun _ _ => ?_, hh2⟩
    obtain ⟨b2, o2, _, e1, hS, _⟩ := h 0 h0
    rw [hh1 0 h0] at e1
    simp only [Option.some.injEq, Addr.mk.injEq, and_true] at e1
    obtain ⟨rfl, rfl⟩ := e1
    exact hS
theorem RowD.inRowOwn {e c n : Nat} {a : Option Addr} {l : List Nat} {S : Nat → Prop} (h : RowD eltN S w e a c n l) : InRow eltN (fun b => obk a n c = some b) w l a := by
  intro i hi
  have hn := h.len
  obtain ⟨b, cs, e1, e2, _, _, hc, _⟩ := h.blkN (by omega)
  refine ⟨b, 0, [.int .i64 ((l[i] : Nat) : Int)], e1, e2, rfl, fun j hj => ?_⟩
  have hj' : j < 1 := hj
  obtain rfl : j = 0 := by omega
  have := hc i (by omega)
  rw [aget_lt hi] at this
  show w.cell? ⟨b, 0 + i * 1 + 0, none⟩ = _
  rw [Nat.mul_one, Nat.add_zero]; exact this
end
end Go.Proofs.Ytbohlpfndiiimaa
