/- A term laid out in a row of its parts: how it lies in memory while it grows. -/
import Derived.Test.YtmdpiafeiopimaaRows
import Derived.WalkKit
import Derived.WalkSpells
import Derived.WalkLawsBesides
import Derived.Lib.Hide
import Derived.Deep.Slices
import Derived.Lib.QuietBelow
import Derived.Deep.Quiet
import Derived.RangeFuncNested
import Derived.RangeFuncLeaves
import Derived.OrdersIn
import Derived.TacticsIn
import Derived.Maps.AppendAt

/- The memory: what outlives what is added to it; blocks that are known; integers. -/
namespace Go.Proofs.Ytmdpiafeiopimaa
open Go.RowKit
theorem rbool {a b : Bool} (h : b = a) : Ending.returned (.bool a) = .returned (.bool b) := by rw [h]
theorem vint {k : IntKind} {a b : Int} (h : a = b) : Value.int k a = .int k b := by rw [h]
theorem rint {k : IntKind} {a b : Int} (h : b = a) : Ending.returned (.int k a) = .returned (.int k b) := by rw [h]
theorem wrap64_add (a b : Int) : wrap64 (wrap64 a + wrap64 b) = wrap64 (a + b) := by unfold wrap64; omega
theorem wrap64_id {a : Int} (h : -9223372036854775808 ≤ a ∧ a ≤ 9223372036854775807) : wrap64 a = a := by unfold wrap64; omega
/-- An integer that an int can be. -/
def I64 (f : Int) : Prop := -9223372036854775808 ≤ f ∧ f ≤ 9223372036854775807
theorem i64_wf {f : Int} (h : (Lit.int .i64 f).wf = true) : I64 f := by
  simp [Lit.wf, IntKind.min, IntKind.max, IntKind.signed, IntKind.bits] at h
  exact ⟨by omega, by omega⟩
theorem bkeeps {w w' : World} (hb : Below w.heap.size w w') (p : Addr) (x : Value) (h : w.cell? p = some x) : w'.cell? p = some x :=
  (hb.cell (World.block_lt_of_cell? _ _ h)).trans h
theorem calloc {w : World} {p : Addr} {x : Value} (h : w.cell? p = some x) (o : Obj) : (w.alloc o).cell? p = some x := bkeeps ((Below.refl _ _).alloc (Nat.le_refl _) _) _ _ h
/-- A block's first cells. -/
def Box (w : World) (b : Nat) (vs : List Value) : Prop := ∀ i v, vs[i]? = some v → w.cell? ⟨b, i, none⟩ = some v
theorem Box.below {w w' : World} {b : Nat} {vs : List Value} (h : Box w b vs) (hb : Below w.heap.size w w') : Box w' b vs := fun i v hi => bkeeps hb _ _ (h i v hi)
theorem Box.alloc {w : World} {b : Nat} {vs : List Value} (h : Box w b vs) (o : Obj) : Box (w.alloc o) b vs := fun i v hi => calloc (h i v hi) o
theorem Box.new (w : World) (vs : List Value) (t : TypeId) : Box (w.alloc (.cells vs.toArray t)) w.heap.size vs := by
  intro i v hi
  have h := heap_alloc_new w (.cells vs.toArray t)
  simp only [World.cell?, h]
  simpa using hi
theorem Box.new' {w : World} {b : Nat} {vs : List Value} {t : TypeId} (h : w.heap.size = b) : Box (w.alloc (.cells vs.toArray t)) b vs := by subst h; exact Box.new _ _ _
theorem heap_new' {w : World} {b : Nat} {o : Obj} (h : w.heap.size = b) : (w.alloc o).heap[b]? = some o := by subst h; exact heap_alloc_new w o
theorem Box.one {w : World} {b : Nat} {x0 : Value} (h : Box w b [x0]) : w.cell? ⟨b, 0, none⟩ = some x0 := h 0 _ rfl
theorem Box.two {w : World} {b : Nat} {x0 x1 : Value} (h : Box w b [x0, x1]) : w.cell? ⟨b, 0, none⟩ = some x0 ∧ w.cell? ⟨b, 1, none⟩ = some x1 := ⟨h 0 _ rfl, h 1 _ rfl⟩
theorem Box.four {w : World} {b : Nat} {x0 x1 x2 x3 : Value} (h : Box w b [x0, x1, x2, x3]) : w.cell? ⟨b, 0, none⟩ = some x0 ∧ w.cell? ⟨b, 1, none⟩ = some x1 ∧ w.cell? ⟨b, 2, none⟩ = some x2 ∧ w.cell? ⟨b, 3, none⟩ = some x3 := ⟨h 0 _ rfl, h 1 _ rfl, h 2 _ rfl, h 3 _ rfl⟩
/-- A step from a world that is as it was. -/
theorem bstep {w a b : World} (h : Below w.heap.size w a) (k : Below a.heap.size a b) : Below w.heap.size w b := h.trans (k.mono h.size)
theorem balloc (w : World) (o : Obj) : Below w.heap.size w (w.alloc o) := (Below.refl _ _).alloc (Nat.le_refl _) _
theorem balloc2 (w : World) (o o' : Obj) : Below w.heap.size w ((w.alloc o).alloc o') := bstep (balloc w o) (balloc _ o')
theorem bcall {w a : World} {o : Obj} (k : Below (w.alloc o).heap.size (w.alloc o) a) : Below w.heap.size w a := bstep (balloc w o) k
theorem box1 {w w1 : World} {xs : List Value} {t1 : TypeId} (h : Below (w.alloc (.cells xs.toArray t1)).heap.size (w.alloc (.cells xs.toArray t1)) w1) : Box w1 w.heap.size xs ∧ Below w.heap.size w w1 :=
  ⟨(Box.new _ _ _).below h, bstep (balloc _ _) h⟩
theorem box2 {w w1 : World} {xs ys : List Value} {t1 t2 : TypeId} (h : Below ((w.alloc (.cells xs.toArray t1)).alloc (.cells ys.toArray t2)).heap.size ((w.alloc (.cells xs.toArray t1)).alloc (.cells ys.toArray t2)) w1) :
    Box w1 w.heap.size xs ∧ Box w1 (w.heap.size + 1) ys ∧ Below w.heap.size w w1 := by
  obtain ⟨h2, h3⟩ := box1 h
  obtain ⟨h4, h5⟩ := box1 h3
  exact ⟨h4, by rwa [World.size_alloc] at h2, h5⟩
theorem box3 {w w1 : World} {xs ys zs : List Value} {t1 t2 t3 : TypeId} (h : Below (((w.alloc (.cells xs.toArray t1)).alloc (.cells ys.toArray t2)).alloc (.cells zs.toArray t3)).heap.size (((w.alloc (.cells xs.toArray t1)).alloc (.cells ys.toArray t2)).alloc (.cells zs.toArray t3)) w1) :
    Box w1 w.heap.size xs ∧ Box w1 (w.heap.size + 1) ys ∧ Box w1 (w.heap.size + 2) zs ∧ Below w.heap.size w w1 := by
  obtain ⟨h2, h3⟩ := box1 h
  obtain ⟨h4, h5, h6⟩ := box2 h3
  exact ⟨h4, h5, by rwa [World.size_alloc, World.size_alloc] at h2, h6⟩
theorem add_plain2 {b o i : Nat} : (Addr.mk b o none).add i = ⟨b, o + i, none⟩ := by
  unfold Addr.add
  split <;> simp_all
theorem bulkAll_le {H : Type} {l : List (DataW H)} {d : DataW H} (h : d ∈ l) : Rows.uptoBulk d ≤ Rows.uptoBulkAll l := by
  induction l with
  | nil => simp at h
  | cons x r ih =>
    simp only [Rows.uptoBulkAll]
    rcases List.mem_cons.1 h with rfl | h
    · omega
    · have := ih h; omega
end Go.Proofs.Ytmdpiafeiopimaa

/- How code is walked: what is known of a frame, slot by slot; a region in whatever order its edges allow. -/
namespace Go.Proofs.Ytmdpiafeiopimaa
open Go.RowKit Go
/-- Where code is walked: in a function's own frame, or in a round of a loop over a function. -/
def fen : Option Nat → Fence
 | none => Fence.wide
 | some l => Fence.wide.inRound l
theorem fen_fn (r : Option Nat) (f : FuncId) : (fen r).fn f := by cases r <;> exact trivial
theorem fen_round (r : Option Nat) : (fen r).round = r := by cases r <;> rfl
theorem fen_depth (r : Option Nat) : (fen r).depth = none := by cases r <;> rfl
theorem fen_room (r : Option Nat) (n : Nat) : (fen r).room n := fun d h => by rw [fen_depth] at h; cases h
/-- A frame: its slots, the marks on its deferred calls, the round that it is in. -/
structure Fr where
 n : Nat
 ds : List Deferred
 r : Option Nat
section
variable {P : Program}
theorem comesIn_fen {r : Option Nat} {m m' : Machine} {e : Ending} (h : Comes P m m' e) : ComesIn (Machine.fenced P (fen r)) P m m' e := by
 cases r with
 | none => exact comesIn_wide.2 h
 | some l => exact (comesIn_wide (P := P)).2 h
theorem callsIn_fen {r : Option Nat} {n : Nat} {f : FuncId} {args : Array Value} {w : World} {R : Ending → World → Prop} (h : Calls P f args w R) : CallsIn (fen r) n P f args w R :=
 ⟨fen_fn r f, fun cs _ => let ⟨e, w', fr, q, s, x⟩ := h cs; ⟨e, w', fr, q, comesIn_fen s, x⟩⟩
theorem stepsIn_fen {r : Option Nat} {m m' : Machine} (h : Steps P m m') : StepsIn (Machine.fenced P (fen r)) P m m' := by
 cases r with
 | none => exact stepsIn_wide.2 h
 | some l => exact (stepsIn_wide (P := P)).2 h
theorem uponIn_of {r : Option Nat} {o : Oper} {a : Act} {K : Act → World → Prop} {Q : Exit → Act → World → Prop} {x : Result Next} (h : o.upon P a K Q x) : o.uponIn (fen r) 0 P a K Q x := by
 have hd : (fen r).depth.isSome = true → 1 ≤ 0 := fun e => by rw [fen_depth] at e; cases e
 cases x with
 | ok n w' =>
  cases n with
  | value v => exact h
  | skip => exact h
  | defer d => exact h
  | enter f args => exact ⟨hd, callsIn_fen h⟩
  | row row args => exact ⟨hd, fun c cs _ => let ⟨v, w2, q, s⟩ := h c cs; ⟨v, w2, q, stepsIn_fen s⟩⟩
  | _ => exact h.elim
 | halt y w' => cases y <;> first | exact h | exact h.elim
theorem wpIn_of {r : Option Nat} {o : Oper} {a : Act} {w : World} {K : Act → World → Prop} {Q : Exit → Act → World → Prop} (h : o.wp P a w K Q) (hK : ∀ a' w', K a' w' → a'.defers = a.defers) : o.wpIn (fen r) 0 P a w K Q := by
 refine ⟨fun f _ => fen_fn r f, ?_⟩
 rw [fen_round]
 unfold Oper.wp at h
 by_cases hd : ∃ c, o.op = .defer c
 ·obtain ⟨c, hc⟩ := hd
  cases r with
  | none => exact uponIn_of h
  | some l =>
   unfold Oper.semAt
   unfold execOp at h
   simp only [hc, Sem.run_bind] at h ⊢
   generalize (resolve a.eval c o.type).run P w = x at h ⊢
   cases x with
   | ok d w' =>
    simp only [Result.andThen, Sem.run_pure, Oper.upon] at h
    have := congrArg List.length (hK _ _ h)
    cases ho : o.dst <;> simp [Act.put, ho] at this
   | halt y w' => cases y <;> first | exact h | exact h.elim
 ·rw [Oper.semAt_eq _ _ _ (fun c hc => hd ⟨c, hc⟩)]
  exact uponIn_of h
theorem put_defers (a : Act) (d : Option Nat) (v : Value) : (Act.put a d v).defers = a.defers := by cases d <;> rfl
end
section
variable {P : Program} {ops : Array Oper}
def depB (ops : Array Oper) (o : Oper) (j d : Nat) : Bool := o.after.any (fun e => e.on == j && Region.binds .any e) && ((ops[j]?).bind (·.dst) == some d)
def dstsOf (ops : Array Oper) : List Nat := ops.toList.filterMap (·.dst)
def opsB (ops : Array Oper) (n : Nat) : Bool :=
 (List.range ops.size).all (fun i => match ops[i]? with
  | none => false
  | some o => o.after.all (fun e => Nat.blt e.on i || !Region.binds .any e) &&
   (match o.guard with | none => true | some (g, _) => o.after.any (fun e => e.on == g && Region.binds .any e) && ((ops[g]?).bind (·.dst)).isSome) &&
   (match o.dst with | none => true | some d => Nat.blt d n && (List.range ops.size).all fun j => i == j || !((ops[j]?).bind (·.dst) == some d)))
structure OpOk (ops : Array Oper) (n i : Nat) (o : Oper) : Prop where
 after : ∀ e ∈ o.after, Region.binds .any e = true → e.on < i
 guard : ∀ g b, o.guard = some (g, b) → (∃ e ∈ o.after, e.on = g ∧ Region.binds .any e = true) ∧ ∃ d, (ops[g]?).bind (·.dst) = some d
 lt : ∀ d, o.dst = some d → d < n
 own : ∀ d j, o.dst = some d → j < ops.size → (ops[j]?).bind (·.dst) = some d → i = j
theorem opsB_spec {n : Nat} (h : opsB ops n = true) {i : Nat} {o : Oper} (ho : ops[i]? = some o) : OpOk ops n i o := by
 have hi : i < ops.size := by
  rcases Nat.lt_or_ge i ops.size with h | h
  ·exact h
  ·simp [Array.getElem?_eq_none h] at ho
 have := List.all_eq_true.1 h i (by simpa using hi)
 simp only [ho, Bool.and_eq_true] at this
 obtain ⟨⟨h1, h2⟩, h3⟩ := this
 refine ⟨fun e he hbe => ?_, fun g b hg => ?_, fun d hd => ?_, fun d j hd hj hjd => ?_⟩
 ·have := Array.all_eq_true_iff_forall_mem.1 h1 e he
  simpa [Nat.blt_eq, hbe] using this
 ·rw [hg] at h2
  simp only [Bool.and_eq_true, Array.any_eq_true, Option.isSome_iff_exists, beq_iff_eq] at h2
  obtain ⟨⟨k, hk, h5, h6⟩, h7⟩ := h2
  exact ⟨⟨_, Array.getElem_mem hk, h5, h6⟩, h7⟩
 ·rw [hd] at h3
  simp only [Bool.and_eq_true, Nat.blt_eq] at h3
  exact h3.1
 ·rw [hd] at h3
  simp only [Bool.and_eq_true] at h3
  have := List.all_eq_true.1 h3.2 j (by simpa using hj)
  rw [hjd] at this
  simpa using this
theorem count_set {l : Array Bool} {i : Nat} (hi : i < l.size) (h : l.getD i true = false) {n : Nat} (hc : l.toList.count false ≤ n + 1) : (l.setIfInBounds i true).toList.count false ≤ n := by
 rw [Array.toList_setIfInBounds, List.count_set (by simpa using hi)]
 have : l.toList[i]'(by simpa using hi) = false := by simpa [Array.getD, hi] using h
 rw [this, if_pos (by rfl : (false == false) = true), if_neg (by decide : ¬ (true == false) = true)]
 omega
theorem count_zero {l : Array Bool} (hc : l.toList.count false ≤ 0) (i : Nat) : l.getD i true = true := by
 rcases Nat.lt_or_ge i l.size with h | h
 ·have h0 : l.toList.count false = 0 := by omega
  have := (List.count_eq_zero (a := false)).1 h0
  have hm : l[i] ∈ l.toList := by simp
  simp only [Array.getD, h, dif_pos]
  cases hb : l[i] with
  | true => simpa using hb
  | false => rw [hb] at hm; exact absurd hm this
 ·simp [Array.getD, Nat.not_lt.2 h]
theorem ready_nil {n : Nat} (hB : opsB ops n = true) {listed : Array Bool} (hs : listed.size = ops.size) (h : Region.ready .any ops listed = []) (i : Nat) (hi : i < ops.size) : listed.getD i true = true := by
 induction i using Nat.strongRecOn with
 | _ i ih =>
  cases hc : listed.getD i true with
  | true => rfl
  | false =>
   obtain ⟨o, ho⟩ : ∃ o, ops[i]? = some o := ⟨ops[i], by simp [hi]⟩
   have := mem_ready (md := .any) (ops := ops) (j := i) (listed := listed) |>.2 ⟨hc, o, ho, fun e he hbe => by
    have hl := (opsB_spec hB ho).after e he hbe
    have := ih e.on hl (by omega)
    simpa [Array.getD, show e.on < listed.size by omega] using this⟩
   rw [h] at this
   simp at this
theorem mem_dsts {i : Nat} {o : Oper} {d : Nat} (ho : ops[i]? = some o) (hd : o.dst = some d) : (dstsOf ops).contains d = true := by
 simp only [dstsOf, List.contains_iff_mem, List.mem_filterMap]
 exact ⟨o, by have := Array.mem_of_getElem? ho; simpa using this, hd⟩
/-- Whether the operation is wanted, by what is known of its guard. -/
inductive GuardIs (R : Nat → Value → World → Prop) (o : Oper) : Bool → Prop where
 | none (h : o.guard = none) : GuardIs R o true
 | yes {g : Nat} {c d : Bool} (h : o.guard = some (g, true)) (hv : ∀ v w, R g v w → (d = true → v = .bool c) ∧ (d = false → v = undef)) : GuardIs R o (d && c)
 | no {g : Nat} {c d : Bool} (h : o.guard = some (g, false)) (hv : ∀ v w, R g v w → (d = true → v = .bool c) ∧ (d = false → v = undef)) : GuardIs R o (d && !c)
theorem any_list {q : Option Nat} {n : Nat} (hB : opsB ops n = true) {Q : Exit → Act → World → Prop} : ∀ (l : List Oper) (k fuel : Nat) (listed : Array Bool) (a : Act) (w : World), (∀ j, l[j]? = ops[k + j]?) → listed.size = ops.size → (∀ j, j < ops.size → (listed.getD j true = true ↔ j < k)) → l.length ≤ fuel →
  wpAnyIn (fen q) 0 P .any ops Q fuel listed a w → wpListIn (fen q) 0 P ops Q l a w
 | [], k, fuel, listed, a, w, hl, hs, hk, _, h => by
  have hge : ops.size ≤ k := by
   have := hl 0
   simp only [List.getElem?_nil, Nat.add_zero] at this
   rcases Nat.lt_or_ge k ops.size with h | h
   ·simp [h] at this
   ·exact h
  have hr : Region.ready .any ops listed = [] := by
   cases hr : Region.ready .any ops listed with
   | nil => rfl
   | cons i r =>
    obtain ⟨h1, o, ho, _⟩ := (mem_ready (md := .any) (ops := ops) (j := i) (listed := listed)).1 (by rw [hr]; simp)
    have hi : i < ops.size := by
     rcases Nat.lt_or_ge i ops.size with h | h
     ·exact h
     ·simp [Array.getElem?_eq_none h] at ho
    rw [(hk i hi).2 (by omega)] at h1
    cases h1
  cases fuel with
  | zero => exact h.2
  | succ fuel => exact h.1 hr
 | o :: r, k, fuel, listed, a, w, hl, hs, hk, hf, h => by
  have ho : ops[k]? = some o := by simpa using (hl 0).symm
  have hkl : k < ops.size := by
   rcases Nat.lt_or_ge k ops.size with h | h
   ·exact h
   ·simp [Array.getElem?_eq_none h] at ho
  cases fuel with
  | zero => simp at hf
  | succ fuel =>
   have hready : k ∈ Region.ready .any ops listed := mem_ready.2 ⟨by
    cases hc : listed.getD k true with
    | false => rfl
    | true => exact absurd ((hk k hkl).1 hc) (by omega), o, ho, fun e he hbe => by
     have := (opsB_spec hB ho).after e he hbe
     have h2 := (hk e.on (by omega)).2 this
     simpa [Array.getD, show e.on < listed.size by omega] using h2⟩
   have h2 := h.2 k hready
   unfold wpOpIn at h2
   simp only [ho] at h2
   have ih := fun a w => any_list (q := q) hB (Q := Q) r (k + 1) fuel (listed.setIfInBounds k true) a w (fun j => by have := hl (j + 1); simpa [Nat.add_assoc, Nat.add_comm 1 j] using this) (by simpa using hs) (fun j hj => by
    by_cases hjk : j = k
    ·subst hjk; simp [Array.getD, hs, hj]
    ·rw [getD_set_ne true (Ne.symm hjk), hk j hj]; omega) (by simpa using hf)
   rw [wpListIn]
   split
   ·rename_i hw
    rw [if_pos hw] at h2
    exact Oper.wpIn_mono (fun a w h => ih a w h) h2
   ·rename_i hw
    rw [if_neg hw] at h2
    exact ⟨fun f _ => fen_fn q f, ih _ _ h2.2⟩
theorem any_start {q : Option Nat} {n : Nat} (hB : opsB ops n = true) {Q : Exit → Act → World → Prop} {id : Nat} {a : Act} {w : World} (h : wpAnyIn (fen q) 0 P .any ops Q ops.size (Array.replicate ops.size false) a w) : (Code.region id ops false).wpIn (fen q) 0 P Q a w :=
 wpIn_region_list (any_list hB ops.toList 0 ops.size _ a w (by simp) (by simp) (fun j hj => by simp [Array.getD, hj]) (by simp) h)
def afterB (ops : Array Oper) (c i : Nat) : Bool := match ops[c]? with | some o => o.after.any (fun e => e.on == i && Region.binds .any e) | none => false
/-- What must have come ahead of the operation 'c'. -/
def ancL (ops : Array Oper) (c : Nat) : List Nat := (List.range c).reverse.foldl (fun acc j => bif acc.any (fun m => afterB ops m j) then j :: acc else acc) [c]
theorem anc_listed {ops : Array Oper} {listed : Array Bool} (closed : ∀ i o, ops[i]? = some o → listed.getD i false = true → ∀ e ∈ o.after, Region.binds .any e = true → listed.getD e.on false = true) {c : Nat} (hc : listed.getD c false = true) : ∀ m ∈ ancL ops c, listed.getD m false = true := by
 have key : ∀ (js acc : List Nat), (∀ m ∈ acc, listed.getD m false = true) → ∀ m ∈ js.foldl (fun acc j => bif acc.any (fun m => afterB ops m j) then j :: acc else acc) acc, listed.getD m false = true := by
  intro js
  induction js with
  | nil => exact fun acc h => h
  | cons j r ih =>
   intro acc h
   refine ih _ ?_
   show ∀ m ∈ (bif acc.any (fun m => afterB ops m j) then j :: acc else acc), listed.getD m false = true
   cases hb : acc.any (fun m => afterB ops m j) with
   | false => exact h
   | true =>
    intro m hm
    rw [cond_true] at hm
    rcases List.mem_cons.1 hm with rfl | hm
    ·obtain ⟨k, hk, ha⟩ := List.any_eq_true.1 hb
     unfold afterB at ha
     split at ha
     ·rename_i o ho
      simp only [Array.any_eq_true, Bool.and_eq_true, beq_iff_eq] at ha
      obtain ⟨q, hq, h1, h2⟩ := ha
      have := closed k o ho (h k hk) _ (Array.getElem_mem hq) h2
      rwa [h1] at this
     ·cases ha
    ·exact h m hm
 exact key _ _ (by intro m hm; rw [List.mem_singleton.1 hm]; exact hc)
theorem getD_false_of {l : Array Bool} {i : Nat} (h : l.getD i true = false) : l.getD i false = false := by
 by_cases hi : i < l.size
 ·simpa [Array.getD, hi] using h
 ·simp [Array.getD, hi]
theorem getD_set_eq {l : Array Bool} {i : Nat} (h : i < l.size) : (l.setIfInBounds i true).getD i false = true := by simp [Array.getD, h]
end
inductive Sp where
 | val (x : Value)
 | mem (p : Value → World → Prop) (h : ∀ v w w', Below w.heap.size w w' → p v w → p v w')
def Sp.holds : Sp → Value → World → Prop
 | .val x, v, _ => v = x
 | .mem p _, v, w => p v w
def optR (l : List (Bool × Sp)) (i : Nat) (v : Value) (w : World) : Prop := ((l.getD i (true, .val undef)).1 = true → (l.getD i (true, .val undef)).2.holds v w) ∧ ((l.getD i (true, .val undef)).1 = false → v = undef)
theorem optKeep (l : List (Bool × Sp)) (i : Nat) (v : Value) (w w' : World) (h : optR l i v w) (hb : Below w.heap.size w w') : optR l i v w' := by
 refine ⟨fun e => ?_, h.2⟩
 have := h.1 e
 generalize (l.getD i (true, .val undef)).2 = s at *
 cases s with
 | val x => exact this
 | mem p hp => exact hp _ _ _ hb this
theorem optVal {l : List (Bool × Sp)} {i : Nat} {v x : Value} {w : World} {β : Bool} (h : optR l i v w) (e : l.getD i (true, .val undef) = (β, .val x)) (hβ : β = true) : v = x := by
 have := h.1 (by rw [e]; exact hβ)
 rw [e] at this
 exact this
theorem optMem {l : List (Bool × Sp)} {i : Nat} {v : Value} {w : World} {β : Bool} {p : Value → World → Prop} {hp : ∀ v w w', Below w.heap.size w w' → p v w → p v w'} (h : optR l i v w) (e : l.getD i (true, .val undef) = (β, .mem p hp)) (hβ : β = true) : p v w := by
 have := h.1 (by rw [e]; exact hβ)
 rw [e] at this
 exact this
theorem hv1 {g : Operand → Value} {x : Operand} {u : Value} (h1 : g x = u) : #[x].map g = #[u] := by simp [h1]
theorem optUndef {A : Prop} {β : Bool} (h : β = false) : (β = true → A) ∧ (β = false → undef = undef) := ⟨fun e => (by rw [h] at e; cases e), fun _ => rfl⟩
theorem optDef {A B : Prop} {β : Bool} (hβ : β = true) (h : A) : (β = true → A) ∧ (β = false → B) := ⟨fun _ => h, fun e => (by rw [hβ] at e; cases e)⟩
theorem bMk {a b : Bool} (h : a = true) (h' : b = true) : (a && b) = true := by simp [h, h']
theorem bMkN {a b : Bool} (h : a = true) (h' : b = false) : (a && !b) = true := by simp [h, h']
section
variable {w : World} {a : Act} {K : Act → World → Prop} {Q : Exit → Act → World → Prop} {o : Oper}
def callB (P : Program) (F : FuncId) : Bool := match P.funcs[F]? with | some fn => !(fn.name == "runtime.NumGoroutine") && !fn.body.isNone | none => false
theorem wp_call {P : Program} {F : FuncId} {xs : Array Operand} {tys : Array TypeId} {vs : Array Value} {R : Value → World → Prop} (hF : callB P F = true) (ho : o.op = .call { callee := .value (.func F), args := xs, argTypes := tys }) (hv : xs.map a.eval = vs)
  (h : Calls P F vs w fun e w' => ∃ v, e = .returned v ∧ R v w') (hK : ∀ v w', R v w' → K (a.put o.dst v) w') : o.wp P a w K Q := by
 unfold callB at hF
 split at hF
 ·rename_i fn hfn
  simp only [Bool.and_eq_true, Bool.not_eq_true'] at hF
  have hp : (Sem.run P program w) = .ok P w := rfl
  unfold Oper.wp execOp
  simp only [ho, resolve, hv, Act.eval, Deferred.ofValue, invoke, callFunc, Sem.run_bind, Sem.run_pure, Result.andThen_ok, Array.empty_append, Array.append_empty, hp, hfn, hF.1, hF.2, Bool.false_eq_true, if_false]
  refine h.mono ?_
  rintro e w' ⟨v, rfl, hR⟩
  exact hK v w' hR
 ·simp at hF
theorem wp_move {P : Program} {x : Operand} {v : Value} (ho : o.op = .move x) (hx : a.eval x = v) (hK : K (a.put o.dst v) w) : o.wp P a w K Q := by
 unfold Oper.wp execOp
 simp only [ho, hx]
 exact hK
theorem wp_assign {P : Program} {x : Operand} {v : Value} (ho : o.op = .assign x) (hx : a.eval x = v) (hK : K (a.put o.dst v) w) : o.wp P a w K Q := by
 unfold Oper.wp execOp
 simp only [ho, hx]
 exact hK
theorem hv0 {g : Operand → Value} : #[].map g = #[] := by simp
theorem hv2 {g : Operand → Value} {x y : Operand} {u v : Value} (h1 : g x = u) (h2 : g y = v) : #[x, y].map g = #[u, v] := by simp [h1, h2]
theorem hv3 {g : Operand → Value} {x y z : Operand} {u v r : Value} (h1 : g x = u) (h2 : g y = v) (h3 : g z = r) : #[x, y, z].map g = #[u, v, r] := by simp [h1, h2, h3]
theorem wp_not {x : Operand} {b : Bool} {ty : TypeId} (ho : o.op = .unOp .not ty x) (hx : a.eval x = .bool b) (hK : K (a.put o.dst (.bool (!b))) w) : o.wp Try.prog a w K Q := by
 unfold Oper.wp execOp
 simp only [ho, hx]
 go_simp
 exact hK
theorem wp_or {x z : Operand} {p q : Bool} (ho : o.op = .pick x (.const (.bool true)) z) (hx : a.eval x = .bool p) (hz : p = false → a.eval z = .bool q) (hK : K (a.put o.dst (.bool (p || q))) w) : o.wp Try.prog a w K Q := by
 have hc : a.eval (.const (.bool true)) = .bool true := rfl
 unfold Oper.wp execOp
 cases p with
 | true => simp only [ho, hx, hc]; exact hK
 | false => simp only [ho, hx, hz rfl]; exact hK
theorem wp_and {x z : Operand} {p q : Bool} (ho : o.op = .pick x z (.const (.bool false))) (hx : a.eval x = .bool p) (hz : p = true → a.eval z = .bool q) (hK : K (a.put o.dst (.bool (p && q))) w) : o.wp Try.prog a w K Q := by
 have hc : a.eval (.const (.bool false)) = .bool false := rfl
 unfold Oper.wp execOp
 cases p with
 | true => simp only [ho, hx, hz rfl]; exact hK
 | false => simp only [ho, hx, hc]; exact hK
end
abbrev Known := List (Nat × Value)
def look : Known → Nat → Option Value
 | [], _ => none
 | (k, v) :: r, d => bif Nat.beq k d then some v else look r d
/-- The frame has 'n' slots, defers nothing, and holds what is known. -/
structure Kn (n : Fr) (K : Known) (a : Act) : Prop where
 size : a.tmps.size = n.n
 defers : a.defers = n.ds
 knows : ∀ d v, look K d = some v → a.tmps.getD d undef = v
def ev (K : Known) : Operand → Option Value
 | .tmp t => look K t
 | .const v => some v
 | .global g => some (.pointer (some ⟨g, 0, none⟩))
 | .func f => some (.func (.func f) #[] #[])
def subK : Known → Known → Prop
 | [], _ => True
 | (d, v) :: r, K => look K d = some v ∧ subK r K
theorem subK_look {K : Known} : ∀ {K' : Known}, subK K' K → ∀ d v, look K' d = some v → look K d = some v
 | [], _, _, _, h => by simp [look] at h
 | (k, x) :: r, hs, d, v, h => by
  unfold look at h
  cases hb : Nat.beq k d with
  | true =>
   rw [hb] at h
   obtain rfl := Nat.eq_of_beq_eq_true hb
   rw [← h]
   exact hs.1
  | false =>
   rw [hb] at h
   exact subK_look hs.2 d v h
section
variable {P : Program} {n : Fr} {K K' : Known} {a : Act} {w : World}
theorem Kn.ev (h : Kn n K a) {x : Operand} {v : Value} (e : ev K x = some v) : a.eval x = v := by
 cases x with
 | tmp t => exact h.knows t v e
 | const c => exact Option.some.inj e
 | global g => exact Option.some.inj e
 | func f => exact Option.some.inj e
theorem Kn.sub (h : Kn n K a) (hs : subK K' K) : Kn n K' a := ⟨h.size, h.defers, fun d v e => h.knows d v (subK_look hs d v e)⟩
theorem Kn.put (h : Kn n K a) {d : Nat} (hd : Nat.blt d n.n = true) (v : Value) : Kn n ((d, v) :: K) (a.put (some d) v) := by
 have hlt : d < a.tmps.size := by rw [h.size]; simpa [Nat.blt_eq] using hd
 refine ⟨by simpa [Act.put] using h.size, h.defers, fun k x e => ?_⟩
 unfold look at e
 cases hb : Nat.beq d k with
 | true =>
  rw [hb] at e
  obtain rfl := Nat.eq_of_beq_eq_true hb
  simp only [cond_true, Option.some.injEq] at e
  simp [Act.put, hlt, e]
 | false =>
  rw [hb] at e
  have hne : d ≠ k := by rintro rfl; rw [Nat.beq_refl] at hb; cases hb
  have := h.knows k x e
  simp only [Act.put, Array.getD_eq_getD_getElem?, Array.getElem?_setIfInBounds, hne, if_false] at this ⊢
  exact this
theorem Kn.cons (h : Kn n K a) {d : Nat} {v : Value} (e : a.tmps.getD d undef = v) : Kn n ((d, v) :: K) a := by
 refine ⟨h.size, h.defers, fun k x hk => ?_⟩
 unfold look at hk
 cases hb : Nat.beq d k with
 | true =>
  rw [hb] at hk
  obtain rfl := Nat.eq_of_beq_eq_true hb
  simp only [cond_true, Option.some.injEq] at hk
  rw [e, hk]
 | false =>
  rw [hb] at hk
  exact h.knows k x hk
def putK (K : Known) : Option Nat → Value → Known
 | some d, v => (d, v) :: K
 | none, _ => K
def dstB (n : Nat) : Option Nat → Bool
 | some d => Nat.blt d n
 | none => true
theorem Kn.puts (h : Kn n K a) {d : Option Nat} (hd : dstB n.n d = true) (v : Value) : Kn n (putK K d v) (a.put d v) := by
 cases d with
 | none => exact h
 | some d => exact h.put hd v
/-- From whatever frame of which that much is known the code comes to 'Q'. -/
def WC (P : Program) (n : Fr) (K : Known) (w : World) (c : Code) (Q : Exit → Act → World → Prop) : Prop := ∀ a, Kn n K a → c.wpIn (fen n.r) 0 P Q a w
def WE (n : Fr) (K : Known) (w : World) (Q : Exit → Act → World → Prop) (e : Exit) : Prop := ∀ a, Kn n K a → Q e a w
def WL (P : Program) (ops : Array Oper) (n : Fr) (K : Known) (w : World) (l : List Oper) (Q : Exit → Act → World → Prop) : Prop := ∀ a, Kn n K a → wpListIn (fen n.r) 0 P ops Q l a w
variable {Q : Exit → Act → World → Prop} {c x y : Code} {ops : Array Oper} {o : Oper} {rest : List Oper}
theorem WC.sub (hs : subK K' K) (h : WC P n K' w c Q) : WC P n K w c Q := fun a ha => h a (ha.sub hs)
theorem WE.sub {e : Exit} (hs : subK K' K) (h : WE n K' w Q e) : WE n K w Q e := fun a ha => h a (ha.sub hs)
theorem WC.seq (h : WC P n K w x (Exit.then (fun a w => y.wpIn (fen n.r) 0 P Q a w) Q)) : WC P n K w (.seq x y) Q := fun a ha => wpIn_seq (h a ha)
theorem WC.skip (h : WE n K w Q .normal) : WC P n K w .skip Q := fun a ha => wpIn_skip (h a ha)
theorem WC.ret (h : WE n K w Q .ret) : WC P n K w .ret Q := fun a ha => wpIn_ret (h a ha)
theorem WC.exit {id : Nat} (h : WE n K w Q (.exit id)) : WC P n K w (.exit id) Q := fun a ha => wpIn_exit (h a ha)
theorem WC.label {l : Nat} (h : WE n K w Q .normal) : WC P n K w (.label l) Q := fun a ha => wpIn_label (h a ha)
theorem WC.block {id : Nat} (h : WC P n K w c (Exit.inBlock id Q)) : WC P n K w (.block id c) Q := fun a ha => wpIn_block (h a ha)
theorem WC.cond {t : Operand} {b : Bool} (e : ev K t = some (.bool b)) (ht : b = true → WC P n K w x Q) (hf : b = false → WC P n K w y Q) : WC P n K w (.cond t x y) Q :=
 fun a ha => wpIn_cond_split (ha.ev e) (fun h => ht h a ha) (fun h => hf h a ha)
theorem WC.condT {t : Operand} {b : Bool} (e : ev K t = some (.bool b)) (hb : b = true) (ht : WC P n K w x Q) : WC P n K w (.cond t x y) Q :=
 WC.cond e (fun _ => ht) (fun h => by rw [hb] at h; cases h)
theorem WC.condF {t : Operand} {b : Bool} (e : ev K t = some (.bool b)) (hb : b = false) (hf : WC P n K w y Q) : WC P n K w (.cond t x y) Q :=
 WC.cond e (fun h => by rw [hb] at h; cases h) (fun _ => hf)
theorem WE.next {Q' : Exit → Act → World → Prop} (h : WC P n K w y Q) : WE n K w (Exit.then (fun a w => y.wpIn (fen n.r) 0 P Q a w) Q') .normal := h
theorem WE.thenRet {N : Act → World → Prop} (h : WE n K w Q .ret) : WE n K w (Exit.then N Q) .ret := h
theorem WE.thenExit {N : Act → World → Prop} {id : Nat} (h : WE n K w Q (.exit id)) : WE n K w (Exit.then N Q) (.exit id) := h
theorem WE.blockNormal {id : Nat} (h : WE n K w Q .normal) : WE n K w (Exit.inBlock id Q) .normal := h
theorem WE.blockRet {id : Nat} (h : WE n K w Q .ret) : WE n K w (Exit.inBlock id Q) .ret := h
theorem WE.blockIs {id id' : Nat} (e : Nat.beq id' id = true) (h : WE n K w Q .normal) : WE n K w (Exit.inBlock id Q) (.exit id') := fun a ha => by
 show (if id' = id then Q .normal a w else Q (.exit id') a w)
 rw [if_pos (Nat.eq_of_beq_eq_true e)]; exact h a ha
theorem WE.blockNot {id id' : Nat} (e : Nat.beq id' id = false) (h : WE n K w Q (.exit id')) : WE n K w (Exit.inBlock id Q) (.exit id') := fun a ha => by
 show (if id' = id then Q .normal a w else Q (.exit id') a w)
 rw [if_neg (by rintro rfl; rw [Nat.beq_refl] at e; cases e)]; exact h a ha
theorem wp_loop_ghost {q : Option Nat} {X : Type} (I : X → Act → World → Prop) (μ : X → Nat) {x0 : X} {a : Act} (h0 : I x0 a w)
  (round : ∀ x a w, I x a w → c.wpIn (fen q) 0 P (Exit.then (fun a' w' => ∃ x', I x' a' w' ∧ μ x' < μ x) Q) a w) : (Code.loop c).wpIn (fen q) 0 P Q a w := by
 intro b k cs hro hb hr
 have key : ∀ m x a w, μ x = m → I x a w →
   ∃ e a' w', Q e a' w' ∧ ArrivesIn (Machine.fenced P (fen q)) P (lone (b.atR a (.code c :: .inLoop c :: k)) cs w) b k cs e a' w' := by
  intro m
  induction m using Nat.strongRecOn with
  | _ m ih =>
   intro x a w hn hI
   obtain ⟨e, a₁, w₁, hq, harr⟩ := round x a w hI b (.inLoop c :: k) cs hro hb hr
   cases e with
   | normal =>
    obtain ⟨x', hI₁, hlt⟩ := hq
    obtain ⟨e₂, a₂, w₂, hq₂, harr₂⟩ := ih (μ x') (hn ▸ hlt) x' a₁ w₁ rfl hI₁
    exact ⟨e₂, a₂, w₂, hq₂, .of_steps (StepsIn.trans harr (.one (fenced_calm hb hr rfl) stepR_inLoop)) harr₂⟩
   | exit id => exact ⟨_, a₁, w₁, hq, .pass (x := .inLoop c) rfl (fun _ _ => .inl (by simp)) harr⟩
   | goto l => exact ⟨_, a₁, w₁, hq, .pass (x := .inLoop c) rfl (fun _ _ => .inl (by simp)) harr⟩
   | ret => exact ⟨_, a₁, w₁, hq, .pass (x := .inLoop c) rfl (fun _ _ => .inl (by simp)) harr⟩
   | panic ch => exact ⟨_, a₁, w₁, hq, .pass (x := .inLoop c) rfl (fun _ _ => .inl (by simp)) harr⟩
   | outgrown => exact ⟨_, a₁, w₁, hq, .pass (x := .inLoop c) rfl (fun _ _ => .inl (by simp)) harr⟩
 obtain ⟨e, a', w', hq, harr⟩ := key _ x0 a w rfl h0
 exact ⟨e, a', w', hq, .of_steps (.one (fenced_calm hb hr rfl) stepR_loop) harr⟩
/-- A loop: a ghost 'x' tells the frame (KI x), of the memory holds (J x), each round lowers the measure. -/
theorem WC.loop {X : Type} (μ : X → Nat) (KI : X → Known) (J : X → World → Prop) (x0 : X) (hs : subK (KI x0) K) (h0 : J x0 w)
  (round : ∀ x w, J x w → WC P n (KI x) w c (Exit.then (fun a' w' => ∃ x', (Kn n (KI x') a' ∧ J x' w') ∧ μ x' < μ x) Q)) : WC P n K w (.loop c) Q :=
 fun _ ha => wp_loop_ghost (fun x a w => Kn n (KI x) a ∧ J x w) μ (x0 := x0) ⟨ha.sub hs, h0⟩ (fun x a w h => round x w h.2 a h.1)
theorem WE.round {X : Type} {μ : X → Nat} {KI : X → Known} {J : X → World → Prop} {x : X} (x' : X) (hs : subK (KI x') K) (hJ : J x' w) (hm : μ x' < μ x) :
  WE n K w (Exit.then (fun a' w' => ∃ x', (Kn n (KI x') a' ∧ J x' w') ∧ μ x' < μ x) Q) .normal := fun _ ha => ⟨x', ⟨ha.sub hs, hJ⟩, hm⟩
/-! ### A region in the order of the text -/
theorem WC.region {id : Nat} {l : List Oper} (h : WL P l.toArray n K w l Q) : WC P n K w (.region id l.toArray false) Q := fun a ha => wpIn_region_lit (h a ha)
theorem evt (a : Act) (d : Nat) : a.eval (.tmp d) = a.tmps.getD d undef := rfl
theorem WE.go {e : Exit} (ha : Kn n K a) (h : WE n K w Q e) : Q e a w := h a ha
theorem WL.setb {d : Nat} {e b : Bool} (hl : look K d = some (.bool e)) (he : e = b) (h : WL P ops n ((d, .bool b) :: K) w rest Q) : WL P ops n K w rest Q := fun a ha => h a (ha.cons (by rw [ha.knows d _ hl, he]))
theorem WL.nil (h : WE n K w Q .normal) : WL P ops n K w [] Q := h
theorem WL.stepIn {d : Option Nat} {post : Value → World → Prop} (hd : o.dst = d) (hlt : dstB n.n d = true) (hg : o.guard = none)
  (h : ∀ a, Kn n K a → o.wpIn (fen n.r) 0 P a w (fun a' w' => ∃ v, a' = a.put o.dst v ∧ post v w') Q)
  (k : ∀ v w', post v w' → WL P ops n (putK K d v) w' rest Q) : WL P ops n K w (o :: rest) Q := fun a ha =>
 wpListIn_plain hg (fun _ hC => Oper.wpIn_mono (by rintro a' w' ⟨v, rfl, hp⟩; exact hC _ _ (by rw [hd]; exact k v w' hp _ (ha.puts hlt v))) (h a ha))
theorem WL.step {d : Option Nat} {post : Value → World → Prop} (hd : o.dst = d) (hlt : dstB n.n d = true) (hg : o.guard = none)
  (h : ∀ a C, Kn n K a → (∀ v w', post v w' → C (a.put o.dst v) w') → o.wp P a w C Q)
  (k : ∀ v w', post v w' → WL P ops n (putK K d v) w' rest Q) : WL P ops n K w (o :: rest) Q :=
 WL.stepIn hd hlt hg (fun a ha => wpIn_of (h a _ ha (fun v _ hp => ⟨v, rfl, hp⟩)) (by rintro a' w' ⟨v, rfl, _⟩; exact put_defers _ _ _)) k
/-- .. one that yields 'v' and leaves the memory alone. -/
theorem WL.val {d : Nat} (v : Value) (hd : o.dst = some d) (hlt : Nat.blt d n.n = true) (hg : o.guard = none)
  (h : ∀ a C, Kn n K a → C (a.put o.dst v) w → o.wp P a w C Q) (k : WL P ops n ((d, v) :: K) w rest Q) : WL P ops n K w (o :: rest) Q :=
 WL.step (d := some d) (post := fun v' w' => v' = v ∧ w' = w) hd hlt hg (fun a C ha hC => h a C ha (hC _ _ ⟨rfl, rfl⟩)) (by rintro _ _ ⟨rfl, rfl⟩; exact k)
theorem WL.mv {d : Nat} {x : Operand} {v : Value} (hd : o.dst = some d) (hlt : Nat.blt d n.n = true) (hg : o.guard = none) (ho : o.op = .move x) (hv : ev K x = some v) (k : WL P ops n ((d, v) :: K) w rest Q) : WL P ops n K w (o :: rest) Q :=
 WL.val v hd hlt hg (fun a C ha hC => wp_move ho (ha.ev hv) hC) k
theorem WL.asg {d : Nat} {x : Operand} {v : Value} (hd : o.dst = some d) (hlt : Nat.blt d n.n = true) (hg : o.guard = none) (ho : o.op = .assign x) (hv : ev K x = some v) (k : WL P ops n ((d, v) :: K) w rest Q) : WL P ops n K w (o :: rest) Q :=
 WL.val v hd hlt hg (fun a C ha hC => wp_assign ho (ha.ev hv) hC) k
def paramsK : Nat → List Value → Known
 | _, [] => []
 | k, v :: r => (k, v) :: paramsK (k + 1) r
theorem look_params : ∀ (l : List Value) (k d : Nat) (v : Value), look (paramsK k l) d = some v → k ≤ d ∧ l[d - k]? = some v
 | [], _, _, _, h => by simp [paramsK, look] at h
 | x :: r, k, d, v, h => by
  unfold paramsK look at h
  cases hb : Nat.beq k d with
  | true =>
   rw [hb] at h
   obtain rfl := Nat.eq_of_beq_eq_true hb
   simp only [cond_true, Option.some.injEq] at h
   simp [h]
  | false =>
   rw [hb] at h
   obtain ⟨h1, h2⟩ := look_params r (k + 1) d v h
   refine ⟨by omega, ?_⟩
   rw [show d - k = (d - (k + 1)) + 1 by omega, List.getElem?_cons_succ, h2]
theorem Kn.enter {l : List Value} {n : Nat} (hl : l.length ≤ n) : Kn ⟨n, [], none⟩ (paramsK 0 l) { tmps := l.toArray ++ Array.replicate (n - l.toArray.size) undef, defers := [] } := by
 refine ⟨by simp; omega, rfl, fun d v h => ?_⟩
 obtain ⟨_, h2⟩ := look_params l 0 d v h
 have hd : d < l.length := (List.getElem?_eq_some_iff.1 h2).1
 have : l[d] = v := by simpa [hd] using h2
 simp [Array.getD_eq_getD_getElem?, Array.getElem?_append, hd, this]
abbrev bodyPostW (P : Program) (fn : Func) (R : Ending → World → Prop) := bodyPostM Fence.wide 0 P fn R
theorem Calls.walk {f : FuncId} {fn : Func} {c : Code} {l : List Value} {R : Ending → World → Prop} (hf : P.funcs[f]? = some fn) (hb : fn.body = some c) (hl : Nat.ble l.length fn.ntmps = true)
  (h : WC P ⟨fn.ntmps, [], none⟩ (paramsK 0 l) w c (bodyPostW P fn R)) : Calls P f l.toArray w R :=
 callsIn_wide.1 (callsIn_of_wp_marks (n := 0) hf hb trivial (h _ (Kn.enter (Nat.le_of_ble_eq_true hl))))
variable {fn : Func} {R : Ending → World → Prop}
variable {N : Nat} {r : Option Nat} {ds : List Deferred} {w' : World}
theorem WE.ret1 {t : Tmp} {v : Value} (hr : fn.results = #[.tmp t]) (hv : look K t = some v) (hR : R (.returned v) w) : WE ⟨N, [], r⟩ K w (bodyPostW P fn R) .ret := fun a ha => by
 show LeavesInM _ _ _ _ _ _ a.defers _ _
 rw [ha.defers]; exact ⟨_, results_tmp hr a.tmps P w, by rw [ha.knows t v hv]; exact hR⟩
/-- Results that lie in memory: what is read is said for whatever frame. -/
theorem WE.retAny {v : Value} (hr : ∀ a, Kn ⟨N, [], r⟩ K a → (results fn a.tmps).run P w = .ok v w) (hR : R (.returned v) w) : WE ⟨N, [], r⟩ K w (bodyPostW P fn R) .ret := fun a ha => by
 show LeavesInM _ _ _ _ _ _ a.defers _ _
 rw [ha.defers]; exact ⟨v, hr a ha, hR⟩
end
section
variable {P : Program} {ops : Array Oper}
structure CtxG (ops : Array Oper) (chain : List Nat) (R : Nat → Value → World → Prop) (G : List (Option Value) → World → Prop) (n : Fr) (K : Known) (i : Nat) (o : Oper) (a : Act) (w : World) (vs : List (Option Value)) : Prop where
 now : G vs w
 kn : Kn n K a
 dep : ∀ j d, depB ops o j d = true → chain.contains j = false → R j (a.tmps.getD d undef) w
 len : vs.length = chain.length
 link : ∀ (p c d : Nat), chain[p]? = some c → depB ops o c d = true → vs[p]? = some (some (a.tmps.getD d undef))
 done : ∀ (p c : Nat), chain[p]? = some c → o.after.any (fun e => e.on == c && Region.binds .any e) = true → ∃ v, vs[p]? = some (some v)
 most : ∀ (p c : Nat), chain[p]? = some c → afterB ops c i = true → vs[p]? = some none
 mostT : ∀ (p c : Nat), chain[p]? = some c → (ancL ops c).contains i = true → vs[p]? = some none
def SoundG (P : Program) (ops : Array Oper) (Q : Exit → Act → World → Prop) (chain : List Nat) (R : Nat → Value → World → Prop) (Le : World → World → Prop) (G : List (Option Value) → World → Prop) (n : Fr) (K : Known) (i : Nat) (o : Oper) : Prop :=
 (chain.contains i = false ∧ ∃ β, GuardIs R o β ∧ (∀ g b, o.guard = some (g, b) → chain.contains g = false) ∧ (β = false → ∀ w, R i undef w) ∧
  (β = true → ∀ (a : Act) (w : World) (vs : List (Option Value)), CtxG ops chain R G n K i o a w vs →
   o.wpIn (fen n.r) 0 P a w (fun a' w' => ∃ v, a' = Act.put a o.dst v ∧ Le w w' ∧ G vs w' ∧ R i v w') Q)) ∨
 (∃ p, chain[p]? = some i ∧ o.guard = none ∧ ∀ (a : Act) (w : World) (vs : List (Option Value)), CtxG ops chain R G n K i o a w vs → vs[p]? = some none →
   o.wpIn (fen n.r) 0 P a w (fun a' w' => ∃ v, a' = Act.put a o.dst v ∧ Le w w' ∧ G (vs.set p (some v)) w') Q)
def SoundFromG (P : Program) (ops : Array Oper) (Q : Exit → Act → World → Prop) (chain : List Nat) (R : Nat → Value → World → Prop) (Le : World → World → Prop) (G : List (Option Value) → World → Prop) (n : Fr) (K : Known) : Nat → List Oper → Prop
 | _, [] => True
 | k, o :: r => SoundG P ops Q chain R Le G n K k o ∧ SoundFromG P ops Q chain R Le G n K (k + 1) r
theorem SoundFromG.at_ {Q : Exit → Act → World → Prop} {chain : List Nat} {R : Nat → Value → World → Prop} {Le : World → World → Prop} {G : List (Option Value) → World → Prop} {n : Fr} {K : Known} : ∀ {l : List Oper} {k : Nat}, SoundFromG P ops Q chain R Le G n K k l → ∀ i o, l[i]? = some o → SoundG P ops Q chain R Le G n K (k + i) o
 | [], _, _, i, o, h => by simp at h
 | x :: r, k, h, 0, o, ho => by simp at ho; subst ho; exact h.1
 | x :: r, k, h, i + 1, o, ho => by
  have := h.2.at_ i o (by simpa using ho)
  rwa [show k + 1 + i = k + (i + 1) by omega] at this
structure AtG (ops : Array Oper) (chain : List Nat) (R : Nat → Value → World → Prop) (G : List (Option Value) → World → Prop) (n : Fr) (K : Known) (listed : Array Bool) (a : Act) (vs : List (Option Value)) (w : World) : Prop where
 size : listed.size = ops.size
 kn : Kn n K a
 plain : ∀ i d, chain.contains i = false → listed.getD i false = true → (ops[i]?).bind (·.dst) = some d → R i (a.tmps.getD d undef) w
 link : ∀ p c : Nat, chain[p]? = some c → (listed.getD c false = true ↔ ∃ v, vs[p]? = some (some v))
 vals : ∀ (p c d : Nat), chain[p]? = some c → listed.getD c false = true → (ops[c]?).bind (·.dst) = some d → vs[p]? = some (some (a.tmps.getD d undef))
 len : vs.length = chain.length
 closed : ∀ i o, ops[i]? = some o → listed.getD i false = true → ∀ e ∈ o.after, Region.binds .any e = true → listed.getD e.on false = true
 now : G vs w
def clearB (ops : Array Oper) (K : Known) : Bool := K.all fun p => !((dstsOf ops).contains p.1)
theorem clearB_look {K : Known} (h : clearB ops K = true) {d : Nat} (hd : (dstsOf ops).contains d = true) : look K d = none := by
 induction K with
 | nil => rfl
 | cons p r ih =>
  obtain ⟨k, v⟩ := p
  simp only [clearB, List.all_cons, Bool.and_eq_true, Bool.not_eq_true'] at h
  unfold look
  cases hb : Nat.beq k d with
  | true =>
   obtain rfl := Nat.eq_of_beq_eq_true hb
   rw [hd] at h; cases h.1
  | false => exact ih (by simpa only [clearB] using h.2)
theorem act_put_other {a : Act} {d : Option Nat} {v : Value} {k : Nat} (h : d ≠ some k) : (Act.put a d v).tmps.getD k undef = a.tmps.getD k undef := by
 cases d with
 | none => rfl
 | some d =>
  have : d ≠ k := fun e => h (by rw [e])
  simp [Act.put, Array.getD_eq_getD_getElem?, this]
theorem act_put_self {a : Act} {v : Value} {k : Nat} (h : k < a.tmps.size) : (Act.put a (some k) v).tmps.getD k undef = v := by
 simp [Act.put, h]
theorem Kn.put_clear {n : Fr} {K : Known} {a : Act} (h : Kn n K a) {d : Option Nat} (hd : ∀ k, d = some k → look K k = none) (v : Value) : Kn n K (a.put d v) := by
 refine ⟨?_, ?_, fun k x e => ?_⟩
 ·cases d <;> simpa [Act.put] using h.size
 ·cases d <;> exact h.defers
 ·rw [act_put_other (fun e' => by rw [hd k e'] at e; cases e)]
  exact h.knows k x e
theorem wp_any_gen {Q : Exit → Act → World → Prop} {n : Fr} {K : Known} (chain : List Nat) (R : Nat → Value → World → Prop) (Le : World → World → Prop) (G : List (Option Value) → World → Prop)
  (hB : opsB ops n.n = true) (hnd : chain.Nodup) (hin : (chain.all fun c => Nat.blt c ops.size) = true) (hclear : clearB ops K = true)
  (hR : ∀ i v w w', R i v w → Le w w' → R i v w')
  (h : SoundFromG P ops Q chain R Le G n K 0 ops.toList)
  (hQ : ∀ (a : Act) (w : World) (vs : List (Option Value)), Kn n K a → vs.length = chain.length → (∀ p, p < chain.length → ∃ v, vs[p]? = some (some v)) → G vs w → (∀ i d, (ops[i]?).bind (·.dst) = some d → chain.contains i = false → R i (a.tmps.getD d undef) w) → (∀ (p c d : Nat), chain[p]? = some c → (ops[c]?).bind (·.dst) = some d → vs[p]? = some (some (a.tmps.getD d undef))) → Q .normal a w) :
  ∀ (a0 : Act) (w0 : World), Kn n K a0 → G (List.replicate chain.length none) w0 → wpAnyIn (fen n.r) 0 P .any ops Q ops.size (Array.replicate ops.size false) a0 w0 := by
 have main : ∀ (fuel : Nat) (listed : Array Bool) (a : Act) (vs : List (Option Value)) (w : World), listed.toList.count false ≤ fuel → AtG ops chain R G n K listed a vs w →
   wpAnyIn (fen n.r) 0 P .any ops Q fuel listed a w := by
  intro fuel
  have done : ∀ (listed : Array Bool) (a : Act) (vs : List (Option Value)) (w : World), Region.ready .any ops listed = [] → AtG ops chain R G n K listed a vs w → Q .normal a w := by
   intro listed a vs w hr H
   have all : ∀ i, i < ops.size → listed.getD i false = true := fun i hi => by
    have := ready_nil hB H.size hr i hi
    have hs := H.size
    simpa [Array.getD, show i < listed.size by omega] using this
   have hin' : ∀ p c, chain[p]? = some c → c < ops.size := fun p c hc => by
    have := List.all_eq_true.1 hin _ (List.mem_of_getElem? hc)
    simpa [Nat.blt_eq] using this
   have lt_of : ∀ i d, (ops[i]?).bind (·.dst) = some d → i < ops.size := fun i d hd => by
    rcases Nat.lt_or_ge i ops.size with h | h
    ·exact h
    ·simp [Array.getElem?_eq_none h] at hd
   exact hQ a w vs H.kn H.len (fun p hp => (H.link p chain[p] (by simp [hp])).1 (all _ (hin' p _ (by simp [hp])))) H.now (fun i d hd hc => H.plain i d hc (all i (lt_of i d hd)) hd) (fun p c d hc hd => H.vals p c d hc (all c (hin' p c hc)) hd)
  induction fuel with
  | zero =>
   intro listed a vs w hc H
   have hr : Region.ready .any ops listed = [] := by
    cases hr : Region.ready .any ops listed with
    | nil => rfl
    | cons i r =>
     have := (mem_ready (md := .any) (ops := ops) (j := i) (listed := listed)).1 (by rw [hr]; simp)
     rw [count_zero hc i] at this
     simp at this
   exact ⟨hr, done listed a vs w hr H⟩
  | succ fuel ih =>
   intro listed a vs w hc H
   refine ⟨fun hr => done listed a vs w hr H, fun i hi => ?_⟩
   obtain ⟨hun, o, ho, haf⟩ := mem_ready.1 hi
   have hilt : i < ops.size := by
    rcases Nat.lt_or_ge i ops.size with h | h
    ·exact h
    ·simp [Array.getElem?_eq_none h] at ho
   have hils : i < listed.size := by have := H.size; omega
   have hun' := getD_false_of hun
   have ok := opsB_spec hB ho
   have hs2 := h.at_ i o (by simpa using ho)
   rw [Nat.zero_add] at hs2
   have after_of : ∀ j d, depB ops o j d = true → listed.getD j false = true ∧ (ops[j]?).bind (·.dst) = some d := by
    intro j d hj
    simp only [depB, Bool.and_eq_true, Array.any_eq_true, beq_iff_eq] at hj
    obtain ⟨⟨k, hk, h1, h2⟩, h3⟩ := hj
    exact ⟨h1 ▸ haf _ (Array.getElem_mem hk) h2, h3⟩
   have ctx : CtxG ops chain R G n K i o a w vs := by
    have opt : ∀ p c, chain[p]? = some c → listed.getD c false = false → vs[p]? = some none := fun p c hc hl => by
     have hp : p < vs.length := by rw [H.len]; exact (List.getElem?_eq_some_iff.1 hc).1
     rw [List.getElem?_eq_getElem hp]
     cases hx : vs[p] with
     | none => rfl
     | some v =>
      have := (H.link p c hc).2 ⟨v, by rw [List.getElem?_eq_getElem hp, hx]⟩
      rw [hl] at this; cases this
    refine ⟨H.now, H.kn, fun j d hj hc => H.plain j d hc (after_of j d hj).1 (after_of j d hj).2, H.len, fun p c d hc hj => H.vals p c d hc (after_of c d hj).1 (after_of c d hj).2, fun p c hc ha => ?_, fun p c hc ha => opt p c hc ?_, fun p c hc ha => opt p c hc ?_⟩
    ·simp only [Array.any_eq_true, Bool.and_eq_true, beq_iff_eq] at ha
     obtain ⟨k, hk, h1, h2⟩ := ha
     exact (H.link p c hc).1 (h1 ▸ haf _ (Array.getElem_mem hk) h2)
    ·cases hl : listed.getD c false with
     | false => rfl
     | true =>
      exfalso
      unfold afterB at ha
      split at ha
      ·rename_i oc hoc
       simp only [Array.any_eq_true, Bool.and_eq_true, beq_iff_eq] at ha
       obtain ⟨k, hk, h1, h2⟩ := ha
       have := H.closed c oc hoc hl _ (Array.getElem_mem hk) h2
       rw [h1, hun'] at this
       cases this
      ·cases ha
    ·cases hl : listed.getD c false with
     | false => rfl
     | true =>
      exfalso
      have := anc_listed H.closed hl i (by simpa using ha)
      rw [hun'] at this
      cases this
   unfold wpOpIn
   simp only [ho]
   -- what is behind a step
   have step : ∀ (v : Value) (vs' : List (Option Value)) (w' : World), (∀ j u, R j u w → R j u w') → G vs' w' → (∀ d, o.dst = some d → chain.contains i = false → R i v w') →
     ((chain.contains i = false ∧ vs' = vs) ∨ (∃ p, chain[p]? = some i ∧ vs' = vs.set p (some v))) →
     wpAnyIn (fen n.r) 0 P .any ops Q fuel (listed.setIfInBounds i true) (Act.put a o.dst v) w' := by
    intro v vs' w' hle hG hRi hvs
    have hc' := count_set (l := listed) hils hun hc
    have hset : ∀ j, (listed.setIfInBounds i true).getD j false = true ↔ j = i ∨ listed.getD j false = true := by
     intro j
     by_cases hj : j = i
     ·subst hj; simp [getD_set_eq hils]
     ·rw [getD_set_ne false (Ne.symm hj)]; simp [hj]
    have hother : ∀ j k, j ≠ i → (ops[j]?).bind (·.dst) = some k → (Act.put a o.dst v).tmps.getD k undef = a.tmps.getD k undef := by
     intro j k hji hjk
     refine act_put_other (fun hd => ?_)
     have hjlt : j < ops.size := by
      rcases Nat.lt_or_ge j ops.size with h | h
      ·exact h
      ·simp [Array.getElem?_eq_none h] at hjk
     exact hji (ok.own k j hd hjlt hjk).symm
    have hself : ∀ d, (ops[i]?).bind (·.dst) = some d → (Act.put a o.dst v).tmps.getD d undef = v := by
     intro d hd
     rw [ho] at hd
     simp only [Option.bind_some] at hd
     rw [hd]
     exact act_put_self (by rw [H.kn.size]; exact ok.lt d hd)
    refine ih _ _ vs' w' hc' ⟨by simpa using H.size, H.kn.put_clear (fun k hk => clearB_look hclear (mem_dsts ho hk)) v, fun j d hjc hj hjd => ?_, fun p c hpc => ?_, fun p c d hpc hp hcd => ?_, ?_, fun j oj hoj hj e he hb => ?_, hG⟩
    ·by_cases hji : j = i
     ·subst hji
      rw [hself d hjd]
      rw [ho] at hjd
      exact hRi d hjd hjc
     ·rw [hother j d hji hjd]
      exact hle _ _ (H.plain j d hjc (((hset j).1 hj).resolve_left hji) hjd)
    ·rw [hset]
     rcases hvs with ⟨hci, rfl⟩ | ⟨q, hq, rfl⟩
     ·have : c ≠ i := by
       rintro rfl
       have := List.mem_of_getElem? hpc
       simp [this] at hci
      exact ⟨fun h => (H.link p c hpc).1 (h.resolve_left this), fun h => .inr ((H.link p c hpc).2 h)⟩
     ·have hpl : q < vs.length := by rw [H.len]; exact (List.getElem?_eq_some_iff.1 hq).1
      by_cases hpq : p = q
      ·subst hpq
       rw [hq] at hpc
       simp only [Option.some.injEq] at hpc
       subst hpc
       exact ⟨fun _ => ⟨v, by rw [List.getElem?_set_self hpl]⟩, fun _ => .inl rfl⟩
      ·have hci : c ≠ i := by
        rintro rfl
        exact hpq ((List.getElem?_inj (List.getElem?_eq_some_iff.1 hpc).1 hnd).1 (hpc.trans hq.symm))
       rw [List.getElem?_set_ne (Ne.symm hpq)]
       exact ⟨fun h => (H.link p c hpc).1 (h.resolve_left hci), fun h => .inr ((H.link p c hpc).2 h)⟩
    ·rcases hvs with ⟨hci, rfl⟩ | ⟨q, hq, rfl⟩
     ·have hne : c ≠ i := by
       rintro rfl
       have := List.mem_of_getElem? hpc
       simp [this] at hci
      rw [hother c d hne hcd]
      exact H.vals p c d hpc (((hset c).1 hp).resolve_left hne) hcd
     ·have hpl : q < vs.length := by rw [H.len]; exact (List.getElem?_eq_some_iff.1 hq).1
      by_cases hpq : p = q
      ·subst hpq
       rw [hq] at hpc
       simp only [Option.some.injEq] at hpc
       subst hpc
       rw [hself d hcd, List.getElem?_set_self hpl]
      ·have hne : c ≠ i := by
        rintro rfl
        exact hpq ((List.getElem?_inj (List.getElem?_eq_some_iff.1 hpc).1 hnd).1 (hpc.trans hq.symm))
       rw [hother c d hne hcd, List.getElem?_set_ne (Ne.symm hpq)]
       exact H.vals p c d hpc (((hset c).1 hp).resolve_left hne) hcd
    ·rcases hvs with ⟨hci, rfl⟩ | ⟨q, hq, rfl⟩
     ·exact H.len
     ·rw [List.length_set]; exact H.len
    ·rw [hset]
     by_cases hji : j = i
     ·subst hji
      rw [ho] at hoj
      simp only [Option.some.injEq] at hoj
      subst hoj
      exact .inr (haf e he hb)
     ·exact .inr (H.closed j oj hoj (((hset j).1 hj).resolve_left hji) e he hb)
   rcases hs2 with ⟨hci, β, hg, hgc, hs1, hs2⟩ | ⟨p, hp, hgn, hs2⟩
   ·have hwant : Region.wanted o (yielded ops a.tmps) = β := by
     have known : ∀ g c d b, o.guard = some (g, b) → (∀ v w, R g v w → (d = true → v = .bool c) ∧ (d = false → v = undef)) → yielded ops a.tmps g = if d then some c else none := by
      intro g c dd b hgb hv
      obtain ⟨⟨e, he, h1, h2⟩, d, hd⟩ := ok.guard g b hgb
      have hv := hv (a.tmps.getD d undef) w (H.plain g d (hgc g b hgb) (h1 ▸ haf e he h2) hd)
      have hdlt : d < a.tmps.size := by
       obtain ⟨og, hog, hgd⟩ := Option.bind_eq_some_iff.1 hd
       rw [H.kn.size]
       exact (opsB_spec hB hog).lt d hgd
      unfold yielded
      rw [hd]
      simp only [Array.getD_eq_getD_getElem?, Array.getElem?_eq_getElem hdlt, Option.getD_some] at hv
      cases dd with
      | true => simp [hdlt, hv.1 rfl]
      | false => simp [hdlt, hv.2 rfl, undef]
     cases hg with
     | none h => unfold Region.wanted; rw [h]
     | @yes g c d h hv => have := known _ _ _ _ h hv; unfold Region.wanted; rw [h]; simp only [this]; cases d <;> simp
     | @no g c d h hv => have := known _ _ _ _ h hv; unfold Region.wanted; rw [h]; simp only [this]; cases d <;> cases c <;> simp
    cases hβ : β with
    | false =>
     rw [hβ] at hwant
     simp only [hwant, Bool.false_eq_true, if_false]
     refine ⟨fun f _ => fen_fn _ f, ?_⟩
     exact step undef vs w (fun _ _ h => h) H.now (fun _ _ _ => hs1 hβ w) (.inl ⟨hci, rfl⟩)
    | true =>
     rw [hβ] at hwant
     simp only [hwant, if_true]
     refine Oper.wpIn_mono ?_ (hs2 hβ a w vs ctx)
     rintro a' w' ⟨v, rfl, hle, hG, hRi⟩
     exact step v vs w' (fun j u hj => hR j u _ _ hj hle) hG (fun _ _ _ => hRi) (.inl ⟨hci, rfl⟩)
   ·have hwant : Region.wanted o (yielded ops a.tmps) = true := by unfold Region.wanted; rw [hgn]
    have hnone : vs[p]? = some none := by
     have hp' : p < vs.length := by rw [H.len]; exact (List.getElem?_eq_some_iff.1 hp).1
     rw [List.getElem?_eq_getElem hp']
     cases hx : vs[p] with
     | none => rfl
     | some v =>
      have := (H.link p i hp).2 ⟨v, by rw [List.getElem?_eq_getElem hp', hx]⟩
      rw [hun'] at this; cases this
    simp only [hwant, if_true]
    refine Oper.wpIn_mono ?_ (hs2 a w vs ctx hnone)
    rintro a' w' ⟨v, rfl, hle, hG⟩
    have hcc : chain.contains i = true := by
     have := List.mem_of_getElem? hp
     simpa using this
    exact step v (vs.set p (some v)) w' (fun j u hj => hR j u _ _ hj hle) hG (fun _ _ h => by rw [hcc] at h; cases h) (.inr ⟨p, hp, rfl⟩)
 intro a0 w0 hk0 h0
 have nothing' : ∀ i, (Array.replicate ops.size false).getD i false = false := fun i => by
  by_cases h : i < ops.size <;> simp [Array.getD, h]
 refine main _ _ _ (List.replicate chain.length none) _ (by simp) ⟨by simp, hk0, fun i d _ hi => ?_, fun p c hpc => ?_, fun p c d _ hp => ?_, by simp, fun i o _ hi => ?_, h0⟩
 ·rw [nothing'] at hi; cases hi
 ·rw [nothing']
  refine ⟨fun h => (by cases h), fun ⟨v, hv⟩ => ?_⟩
  have hp := (List.getElem?_eq_some_iff.1 hpc).1
  simp [hp] at hv
 ·rw [nothing'] at hp; cases hp
 ·rw [nothing'] at hi; cases hi
/-- The law: of what is known of the frame 'K0' is what the region does not write. -/
theorem WC.gen {id : Nat} {dr : Bool} {Q : Exit → Act → World → Prop} {n : Fr} {K : Known} {w : World} (chain : List Nat) (R : Nat → Value → World → Prop) (Le : World → World → Prop) (G : List (Option Value) → World → Prop) (K0 : Known)
  (hs : subK K0 K) (hclear : clearB ops K0 = true) (hm : P.follows .mixedOrders = true) (hB : opsB ops n.n = true) (hnd : chain.Nodup) (hin : (chain.all fun c => Nat.blt c ops.size) = true)
  (hR : ∀ i v w w', R i v w → Le w w' → R i v w') (h0 : G (List.replicate chain.length none) (bif dr then w.drew else w))
  (h : SoundFromG P ops Q chain R Le G n K0 0 ops.toList)
  (hQ : ∀ (a : Act) (w : World) (vs : List (Option Value)), Kn n K0 a → vs.length = chain.length → (∀ p, p < chain.length → ∃ v, vs[p]? = some (some v)) → G vs w → (∀ i d, (ops[i]?).bind (·.dst) = some d → chain.contains i = false → R i (a.tmps.getD d undef) w) → (∀ (p c d : Nat), chain[p]? = some c → (ops[c]?).bind (·.dst) = some d → vs[p]? = some (some (a.tmps.getD d undef))) → Q .normal a w) :
  WC P n K w (.region id ops dr) Q := by
 intro a ha
 have main := wp_any_gen chain R Le G hB hnd hin hclear hR h hQ a
 cases dr with
 | true => exact wpIn_region_any hm (main _ (ha.sub hs) h0)
 | false => exact any_start hB (main _ (ha.sub hs) h0)
/-! ### Where no operation changes what was there -/
/-- An operation of such a region. -/
structure CtxO (ops : Array Oper) (S : List (Bool × Sp)) (n : Fr) (K : Known) (w0 : World) (o : Oper) (a : Act) (w : World) : Prop where
 below : Below w0.heap.size w0 w
 kn : Kn n K a
 dep : ∀ j d, depB ops o j d = true → optR S j (a.tmps.getD d undef) w
def SoundO (P : Program) (ops : Array Oper) (Q : Exit → Act → World → Prop) (S : List (Bool × Sp)) (n : Fr) (K : Known) (w0 : World) : Nat → List Oper → Prop
 | _, [] => True
 | i, o :: r => (∃ β, GuardIs (optR S) o β ∧ (β = false → ∀ w, optR S i undef w) ∧
  (β = true → ∀ a w, CtxO ops S n K w0 o a w → o.wp P a w (fun a' w' => ∃ v, a' = Act.put a o.dst v ∧ Below w.heap.size w w' ∧ optR S i v w') Q)) ∧ SoundO P ops Q S n K w0 (i + 1) r
theorem SoundO.gen {Q : Exit → Act → World → Prop} {S : List (Bool × Sp)} {n : Fr} {K : Known} {w0 : World} : ∀ {l : List Oper} {i : Nat}, SoundO P ops Q S n K w0 i l →
  SoundFromG P ops Q [] (optR S) (fun w w' => Below w.heap.size w w') (fun _ w => Below w0.heap.size w0 w) n K i l
 | [], _, _ => trivial
 | o :: r, i, ⟨⟨β, h1, h2, h3⟩, h4⟩ => by
  refine ⟨.inl ⟨rfl, β, h1, fun _ _ _ => rfl, h2, fun hβ a w vs C => ?_⟩, h4.gen⟩
  refine Oper.wpIn_mono ?_ (wpIn_of (h3 hβ a w ⟨C.now, C.kn, fun j d hj => C.dep j d hj rfl⟩) (by rintro a' w' ⟨v, rfl, _⟩; exact put_defers _ _ _))
  rintro a' w' ⟨v, rfl, hb, hR⟩
  exact ⟨v, rfl, hb, bstep C.now hb, hR⟩
theorem WC.opt {id : Nat} {dr : Bool} {Q : Exit → Act → World → Prop} {n : Fr} {K : Known} {w : World} (S : List (Bool × Sp)) (K0 : Known)
  (hs : subK K0 K) (hclear : clearB ops K0 = true) (hm : P.follows .mixedOrders = true) (hB : opsB ops n.n = true)
  (h : SoundO P ops Q S n K0 w 0 ops.toList)
  (hQ : ∀ (a : Act) (w' : World), Kn n K0 a → Below w.heap.size w w' → (∀ i d, (ops[i]?).bind (·.dst) = some d → optR S i (a.tmps.getD d undef) w') → Q .normal a w') :
  WC P n K w (.region id ops dr) Q := by
 refine WC.gen [] (optR S) (fun w w' => Below w.heap.size w w') (fun _ w' => Below w.heap.size w w') K0 hs hclear hm hB List.nodup_nil rfl (optKeep S) ?_ h.gen (fun a w' vs hk _ _ hG hu _ => hQ a w' hk hG (fun i d hd => hu i d hd rfl))
 cases dr with
 | true => exact (Below.refl _ _).drew
 | false => exact Below.refl _ _
end
end Go.Proofs.Ytmdpiafeiopimaa

/- A block that is known whole. -/
namespace Go.Proofs.Ytmdpiafeiopimaa
open Go.RowKit
def Blk (w : World) (g : Nat) (t : TypeId) (cs : Array Value) : Prop := w.heap[g]? = some (.cells cs t (0, 0))
section
variable {w w' : World} {g : Nat} {t : TypeId} {cs : Array Value}
theorem Blk.lt (h : Blk w g t cs) : g < w.heap.size := lt_of_block h
theorem Blk.cell (h : Blk w g t cs) (i : Nat) : w.cell? ⟨g, i, none⟩ = cs[i]? := by unfold Blk at h; simp [World.cell?, h]
theorem Blk.frozen (h : Blk w g t cs) (i : Nat) : w.frozen? ⟨g, i, none⟩ = false := by unfold Blk at h; simp [World.frozen?, h]
theorem Blk.new' {b : Nat} (h : w.heap.size = b) : Blk (w.alloc (.cells cs t)) b t cs := heap_new' h
theorem Blk.alloc (h : Blk w g t cs) (o : Obj) : Blk (w.alloc o) g t cs := (Below.heap_alloc w o g h.lt).trans h
theorem Blk.set_ (h : Blk w g t cs) (i : Nat) (u : Value) : Blk (w.setCell ⟨g, i, none⟩ u) g t (cs.setIfInBounds i u) := by
  unfold Blk at h ⊢
  simp [World.setCell, Array.getElem?_modify, h]
theorem Blk.far (h : Blk w g t cs) {p : Addr} (hp : g ≠ p.block) (u : Value) : Blk (w.setCell p u) g t cs := (Below.heap_setCell w p u g hp).trans h
theorem Blk.below (h : Blk w g t cs) (hb : Below w.heap.size w w') : Blk w' g t cs := (hb.block g h.lt).trans h
end
end Go.Proofs.Ytmdpiafeiopimaa

/- What printed walks lean on. -/
namespace Go.Proofs.Ytmdpiafeiopimaa
open Go.RowKit Go
theorem wrap_eq {e r : Int} (h : e = r) (h0 : -9223372036854775808 ≤ r) (h1 : r ≤ 9223372036854775807) : IntKind.i64.wrap e = r := by
  subst h; exact IntWalk.i64_in _ (by omega)
/-- A new block. -/
def NewBlk (w : World) (t : TypeId) (cs : Array Value) (v : Value) (w' : World) : Prop :=
  ∃ g, v = .pointer (some ⟨g, 0, none⟩) ∧ w.heap.size = g ∧ Blk w' g t cs ∧ Below w.heap.size w w' ∧ w'.heap.size = g + 1
theorem newBlk (w : World) (t : TypeId) (cs : Array Value) : NewBlk w t cs (.pointer (some ⟨w.heap.size, 0, none⟩)) (w.alloc (.cells cs t)) :=
  ⟨_, rfl, rfl, Blk.new' rfl, balloc _ _, by simp⟩
/-- A new row. -/
def NewRow (w : World) (t : TypeId) (cs : Array Value) (n : Nat) (v : Value) (w' : World) : Prop :=
  ∃ g, v = .slice (some ⟨g, 0, none⟩) n n ∧ w.heap.size = g ∧ Blk w' g t cs ∧ Below w.heap.size w w' ∧ w'.heap.size = g + 1
theorem newRow (w : World) (t : TypeId) (cs : Array Value) (n : Nat) : NewRow w t cs n (.slice (some ⟨w.heap.size, 0, none⟩) n n) (w.alloc (.cells cs t)) :=
  ⟨_, rfl, rfl, Blk.new' rfl, balloc _ _, by simp⟩
/-- One block may have been written. -/
structure Upd (g : Nat) (w w' : World) : Prop where
  os : w'.os = w.os
  tape : w'.tape = w.tape
  output : w'.output = w.output
  size : w'.heap.size = w.heap.size
  block : ∀ k, k ≠ g → w'.heap[k]? = w.heap[k]?
theorem Upd.set (w : World) (p : Addr) (v : Value) : Upd p.block w (w.setCell p v) := ⟨rfl, rfl, rfl, by simp [World.setCell], fun _ hk => Below.heap_setCell _ _ _ _ hk⟩
theorem Upd.at_ (w : World) (g i : Nat) (v : Value) : Upd g w (w.setCell ⟨g, i, none⟩ v) := Upd.set w ⟨g, i, none⟩ v
theorem Upd.trans {g : Nat} {a b c : World} (h : Upd g a b) (k : Upd g b c) : Upd g a c :=
  ⟨k.os.trans h.os, k.tape.trans h.tape, k.output.trans h.output, k.size.trans h.size, fun i hi => (k.block i hi).trans (h.block i hi)⟩
theorem upd_below {g : Nat} {w0 w w' : World} (h : Below w0.heap.size w0 w) (hu : Upd g w w') (hg : w0.heap.size ≤ g) : Below w0.heap.size w0 w' :=
  h.trans ⟨hu.os, hu.tape, hu.output, Nat.le_of_eq hu.size.symm, fun k hk => hu.block k (by omega)⟩
theorem upd_blk {g b : Nat} {t : TypeId} {cs : Array Value} {w w' : World} (h : Blk w b t cs) (hu : Upd g w w') (hne : b ≠ g) : Blk w' b t cs := (hu.block b hne).trans h
/-- The address of a slice's slice. -/
def slA (r : Option Addr) (k size c : Nat) : Option Addr := if c = k then r else r.map (·.add (k * size))
theorem slA_some {b o k size c : Nat} (h : k < c) : slA (some ⟨b, o, none⟩) k size c = some ⟨b, o + k * size, none⟩ := by
  unfold slA
  rw [if_neg (by omega), Option.map_some, add_plain2]
/-- It returns. -/
abbrev Ret (Post : Value → World → Prop) : Ending → World → Prop := fun e w' => ∃ v, e = .returned v ∧ Post v w'
theorem ret_of {P : Program} {F : FuncId} {vs : Array Value} {w : World} {v : Value} (h : Calls P F vs w fun e w' => e = .returned v ∧ Below w.heap.size w w') :
    Calls P F vs w (Ret fun v' w' => v' = v ∧ Below w.heap.size w w') := h.mono (by rintro e w' ⟨rfl, hb⟩; exact ⟨_, rfl, rfl, hb⟩)
section
variable {P : Program} {n : Fr} {K : Known} {w : World} {ops : Array Oper} {o : Oper} {rest : List Oper} {Q : Exit → Act → World → Prop}
theorem WL.call {d : Option Nat} {F : FuncId} {vs : Array Value} {Post : Value → World → Prop} (hd : o.dst = d) (hlt : dstB n.n d = true) (hg : o.guard = none)
    (h : ∀ a, Kn n K a → ∀ C : Act → World → Prop, Calls P F vs w (Ret Post) → (∀ v w', Post v w' → C (a.put o.dst v) w') → o.wp P a w C Q)
    (hc : Calls P F vs w (Ret Post)) (k : ∀ v w', Post v w' → WL P ops n (putK K d v) w' rest Q) : WL P ops n K w (o :: rest) Q :=
  WL.step hd hlt hg (fun a C ha hC => h a ha C hc hC) k
variable {a : Act} {C : Act → World → Prop}
theorem mkfn {fn : Fn} {xs ys : Array Operand} {us vs : Array Value} (ho : o.op = .makeFunc fn xs ys) (hx : xs.map a.eval = us) (hy : ys.map a.eval = vs) (hK : C (a.put o.dst (.func fn us vs)) w) : o.wp P a w C Q := by
  unfold Oper.wp execOp
  simp only [ho, hx, hy]
  go_simp
  exact hK
theorem wp_callv {F : FuncId} {f : Operand} {xs : Array Operand} {tys : Array TypeId} {us first cap : Array Value} {R : Value → World → Prop} (hF : callB P F = true) (ho : o.op = .call { callee := .value f, args := xs, argTypes := tys }) (hf : a.eval f = .func (.func F) first cap) (hv : xs.map a.eval = us)
    (h : Calls P F (first ++ us ++ cap) w fun e w' => ∃ v, e = .returned v ∧ R v w') (hK : ∀ v w', R v w' → C (a.put o.dst v) w') : o.wp P a w C Q := by
  unfold callB at hF
  split at hF
  · rename_i fn hfn
    simp only [Bool.and_eq_true, Bool.not_eq_true'] at hF
    have hp : (Sem.run P program w) = .ok P w := rfl
    unfold Oper.wp execOp
    simp only [ho, resolve, hv, hf, Deferred.ofValue, invoke, callFunc, Sem.run_bind, Sem.run_pure, Result.andThen_ok, hp, hfn, hF.1, hF.2, Bool.false_eq_true, if_false]
    refine h.mono ?_
    rintro e w' ⟨v, rfl, hR⟩
    exact hK v w' hR
  · simp at hF
end
/-! ### Rows of the call's own, appended to -/
/-- What is appended: the cells of a slice. -/
def SrcIs (w : World) (x : Value) (m : Nat) (news : List Value) : Prop :=
  (∃ ad c, x = .slice (some ad) m c ∧ ∀ j u, news[j]? = some u → w.cell? (ad.add j) = some u) ∨ (∃ c, x = .slice none 0 c ∧ m = 0 ∧ news = [])
theorem SrcIs.ofBlk {w : World} {g : Nat} {t : TypeId} {cs : List Value} {m c : Nat} (h : Blk w g t cs.toArray) : SrcIs w (.slice (some ⟨g, 0, none⟩) m c) m cs := by
  refine .inl ⟨_, _, rfl, fun j u hj => ?_⟩
  rw [add_plain2, Nat.zero_add, h.cell]
  simpa using hj
/-- What an append leaves. -/
structure Grown (w : World) (base : Nat) (e : TypeId) (size : Nat) (v : Value) (n : Nat) (xs : List Value) (ra : Option Addr) (rc : Nat) (w' : World) : Prop where
  own : w'.ownsRow base e size (.slice ra n rc) n xs
  grow : w.grownBy w' v.ownBlock
  at_ : (Value.slice ra n rc).ownBlock = v.ownBlock ∨ (Value.slice ra n rc).ownBlock = some w.heap.size
theorem ownsRow_form {w : World} {base : Nat} {e : TypeId} {size : Nat} {v : Value} {n : Nat} {xs : List Value} (h : w.ownsRow base e size v n xs) : ∃ ra rc, v = .slice ra n rc := by
  rcases h.2 with ⟨rfl, rfl⟩ | ⟨g, cap, cur, rfl, _⟩
  · exact ⟨_, _, rfl⟩
  · exact ⟨_, _, rfl⟩
section
variable {P : Program} {w : World} {a : Act} {K : Act → World → Prop} {Q : Exit → Act → World → Prop} {o : Oper}
theorem wp_app {s x : Operand} {t e : TypeId} {z : Value} {size bytes base n m : Nat} {v y : Value} {xs news : List Value} (ht : P.underlying t = some (.slice e)) (hinfo : (P.info? e).map (fun i => (i.zero, i.size, i.bytes)) = some (some z, size, bytes)) (hzs : z.cells.size = size) (hsz : 0 < size)
    (ho : o.op = .call { callee := .builtin .append, args := #[s, x], argTypes := #[t, t] }) (hs : a.eval s = v) (hx : a.eval x = y) (hown : w.ownsRow base e size v n xs) (hsrc : SrcIs w y m news) (hl : news.length = m * size) (h1 : ∀ u ∈ news, u.oneCell' = true)
    (hb : (n + m) * bytes ≤ 140737488355328) (hn : n + m ≤ 9223372036854775807) (hbase : base ≤ w.heap.size) (hK : ∀ ra rc w', Grown w base e size v (n + m) (xs ++ news) ra rc w' → K (a.put o.dst (.slice ra (n + m) rc)) w') : o.wp P a w K Q := by
  obtain ⟨i, hi, hz0, hz1, hz2⟩ := info_parts hinfo
  rcases hsrc with ⟨ad, c, rfl, hnews⟩ | ⟨c, rfl, rfl, rfl⟩
  · obtain ⟨v', w', hr, h2, h3, h4, h5⟩ := run_append_own_at (P := P) w base t o.type e i z size bytes ht hi hz0 hz1 hz2 hzs hsz v n xs hown ad m c news hl hnews h1 (by unfold maxLen; omega) hb hbase
    obtain ⟨ra, rc, rfl⟩ := ownsRow_form h2
    unfold Oper.wp execOp
    simp only [ho, resolve, invoke, builtin, Sem.run_bind, Sem.run_pure, Result.andThen_ok, List.map_toArray, List.map_cons, List.map_nil, hs, hx, hr]
    exact hK _ _ _ ⟨h2, h3, h5⟩
  · obtain ⟨ra, rc, rfl⟩ := ownsRow_form hown
    have hcap : n ≤ rc := by
      rcases hown.2 with ⟨e, h⟩ | ⟨_, _, _, e, _, _, h, _⟩
      · omega
      · simp only [Value.slice.injEq] at e; omega
    have hr : (Builtin.append_ #[t, t] o.type #[.slice ra n rc, .slice none 0 c]).run P w = .ok (.slice ra n rc) w := by
      cases ra <;> simp [Builtin.append_, run_underlying ht, sizeOf, typeInfo, hi, Builtin.lenOf, Builtin.firstCells, hcap, storeCells]
    unfold Oper.wp execOp
    simp only [ho, resolve, invoke, builtin, Sem.run_bind, Sem.run_pure, Result.andThen_ok, List.map_toArray, List.map_cons, List.map_nil, hs, hx, hr]
    exact hK _ _ _ ⟨by simpa using hown, ⟨rfl, rfl, rfl, Nat.le_refl _, fun _ _ _ => rfl⟩, .inl rfl⟩
end
/-- Blocks that 'S' holds of may have been written. -/
structure Chg (S : Nat → Prop) (w w' : World) : Prop where
  os : w'.os = w.os
  tape : w'.tape = w.tape
  output : w'.output = w.output
  size : w.heap.size ≤ w'.heap.size
  block : ∀ k, k < w.heap.size → ¬ S k → w'.heap[k]? = w.heap[k]?
theorem chg_below {S : Nat → Prop} {w0 w w' : World} (h : Below w0.heap.size w0 w) (k : Chg S w w') (hS : ∀ b, b < w0.heap.size → ¬ S b) : Below w0.heap.size w0 w' :=
  h.trans ⟨k.os, k.tape, k.output, k.size, fun b hb => k.block b (Nat.lt_of_lt_of_le hb h.size) (hS b hb)⟩
theorem chg_blk {S : Nat → Prop} {b : Nat} {t : TypeId} {cs : Array Value} {w w' : World} (h : Blk w b t cs) (k : Chg S w w') (hS : ¬ S b) : Blk w' b t cs := (k.block b h.lt hS).trans h
/-- A row of the call's own, in a block that 'S' holds of. -/
def Own (w : World) (S : Nat → Prop) (e : TypeId) (size : Nat) (ra : Option Addr) (rc n : Nat) (xs : List Value) : Prop :=
  w.ownsRow 0 e size (.slice ra n rc) n xs ∧ ∀ b, (Value.slice ra n rc).ownBlock = some b → S b
section
variable {w w' : World} {S S' : Nat → Prop} {e : TypeId} {size : Nat} {ra : Option Addr} {rc n g : Nat} {xs : List Value}
theorem own_nil : Own w S e size none 0 0 [] := ⟨World.ownsRow_nil _ _ _ _, fun b h => by cases h⟩
theorem Own.lt (h : Own w S e size ra rc n xs) : ∀ b, (Value.slice ra n rc).ownBlock = some b → S b ∧ b < w.heap.size := fun b hb => ⟨h.2 b hb, (h.1.lt b hb).2⟩
theorem Own.of {base : Nat} (h : w.ownsRow base e size (.slice ra n rc) n xs) : Own w (fun b => base ≤ b) e size ra rc n xs := by
  refine ⟨⟨h.1, h.2.imp id ?_⟩, fun b hb => (h.lt b hb).1⟩
  rintro ⟨g, cap, cur, e1, _, r⟩
  exact ⟨g, cap, cur, e1, Nat.zero_le _, r⟩
theorem Own.mono (h : Own w S e size ra rc n xs) (hS : ∀ b, S b → b < w.heap.size → S' b) : Own w S' e size ra rc n xs := ⟨h.1, fun b hb => hS b (h.2 b hb) (h.1.lt b hb).2⟩
theorem own_keep (h : Own w S e size ra rc n xs) (hb : ∀ b, S b → b < w.heap.size → w'.heap[b]? = w.heap[b]?) : Own w' S e size ra rc n xs := by
  refine ⟨⟨h.1.1, h.1.2.imp id ?_⟩, h.2⟩
  rintro ⟨g, cap, cur, e1, e2, e3, r⟩
  exact ⟨g, cap, cur, e1, e2, (hb g (h.2 g (by rw [e1]; rfl)) (Array.getElem?_eq_some_iff.1 e3).1).trans e3, r⟩
theorem Own.below (h : Own w S e size ra rc n xs) (hb : Below w.heap.size w w') : Own w' S e size ra rc n xs := own_keep h (fun b _ hlt => hb.block b hlt)
theorem Own.upd (h : Own w S e size ra rc n xs) (hu : Upd g w w') (hg : ¬ S g) : Own w' S e size ra rc n xs := own_keep h (fun b hS _ => hu.block b (fun e => hg (e ▸ hS)))
theorem Own.chg {S2 : Nat → Prop} (h : Own w S e size ra rc n xs) (hu : Chg S2 w w') (hg : ∀ b, S b → ¬ S2 b) : Own w' S e size ra rc n xs := own_keep h (fun b hS hlt => hu.block b hlt (hg b hS))
end
section
variable {P : Program} {w : World} {a : Act} {K : Act → World → Prop} {Q : Exit → Act → World → Prop} {o : Oper}
theorem wp_own {s x : Operand} {t e : TypeId} {z : Value} {size bytes n m rc : Nat} {S : Nat → Prop} {ra : Option Addr} {y : Value} {xs news : List Value} (ht : P.underlying t = some (.slice e)) (hinfo : (P.info? e).map (fun i => (i.zero, i.size, i.bytes)) = some (some z, size, bytes)) (hzs : z.cells.size = size) (hsz : 0 < size)
    (ho : o.op = .call { callee := .builtin .append, args := #[s, x], argTypes := #[t, t] }) (hs : a.eval s = .slice ra n rc) (hx : a.eval x = y) (hown : Own w S e size ra rc n xs) (hsrc : SrcIs w y m news) (hl : news.length = m * size) (h1 : ∀ u ∈ news, u.oneCell' = true)
    (hb : (n + m) * bytes ≤ 140737488355328) (hn : n + m ≤ 9223372036854775807) (hS : S w.heap.size) (hK : ∀ ra rc w', Own w' S e size ra rc (n + m) (xs ++ news) → Chg S w w' → K (a.put o.dst (.slice ra (n + m) rc)) w') : o.wp P a w K Q := by
  refine wp_app ht hinfo hzs hsz ho hs hx hown.1 hsrc hl h1 hb hn (Nat.zero_le _) (fun ra' rc' w' h => hK _ _ _ ⟨h.own, fun b hb => ?_⟩ ⟨h.grow.os, h.grow.tape, h.grow.output, h.grow.size, fun k hk hSk => h.grow.block k hk (fun e => hSk (hown.2 k e.symm))⟩)
  rcases h.at_ with e | e
  · exact hown.2 b (e ▸ hb)
  · rw [e] at hb; obtain rfl := Option.some.inj hb; exact hS
end
end Go.Proofs.Ytmdpiafeiopimaa

/- Terms as finite trees, how they lie in memory, and that what reads as a term is one. -/
namespace Go.Proofs.Ytmdpiafeiopimaa
open Go.RowKit
inductive T where
  | mk (f : Int) (args : List T)
namespace T
def f : T → Int | .mk f _ => f
def args : T → List T | .mk _ a => a
mutual
def size : T → Nat
  | .mk _ l => 1 + sizeL l
def sizeL : List T → Nat
  | [] => 0
  | a :: r => size a + sizeL r
end
theorem ind {P : T → Prop} (h : ∀ f l, (∀ a ∈ l, P a) → P (.mk f l)) : ∀ t, P t := by
  intro t
  refine T.rec (motive_1 := P) (motive_2 := fun l => ∀ a ∈ l, P a) (fun f l ih => h f l ih) (by simp) (fun a r iha ihr => ?_) t
  intro b hb
  rcases List.mem_cons.1 hb with rfl | hb
  · exact iha
  · exact ihr b hb
theorem sizeL_take_succ (l : List T) (k : Nat) (h : k < l.length) : sizeL (l.take (k + 1)) = sizeL (l.take k) + size l[k] := by
  induction l generalizing k with
  | nil => simp at h
  | cons t r ih =>
    cases k with
    | zero => simp [sizeL]
    | succ k => simp [sizeL, ih k (by simpa using h)]; omega
theorem sizeL_take_le (l : List T) : ∀ k, sizeL (l.take k) ≤ sizeL l := by
  induction l with
  | nil => simp [sizeL]
  | cons t r ih =>
    intro k
    cases k with
    | zero => simp [sizeL]
    | succ k => simp only [List.take_succ_cons, sizeL]; have := ih k; omega
theorem size_le_sizeL {a : T} {l : List T} (h : a ∈ l) : size a ≤ sizeL l := by
  induction l with
  | nil => simp at h
  | cons t r ih =>
    simp only [sizeL]
    rcases List.mem_cons.1 h with rfl | h
    · omega
    · have := ih h; omega
@[simp] theorem f_mk (f : Int) (l : List T) : (T.mk f l).f = f := rfl
@[simp] theorem args_mk (f : Int) (l : List T) : (T.mk f l).args = l := rfl
theorem eta (t : T) : T.mk t.f t.args = t := by cases t; rfl
theorem size_eq (t : T) : t.size = 1 + sizeL t.args := by cases t; rfl
end T
mutual
/-- The value 'v' is the term 't' in the world 'w'. -/
def IsT (w : World) : T → Value → Prop
  | .mk f l, v => I64 f ∧ ∃ (a : Option Addr) (c : Nat), v = .agg #[.int .i64 f, .slice a l.length c] ∧ l.length ≤ c ∧ c ≤ maxLen ∧ IsTs w l a 0
/-- The row at the address 'a' holds from its i-th place on the terms 'l'. -/
def IsTs (w : World) : List T → Option Addr → Nat → Prop
  | [], _, _ => True
  | t :: r, a, i => (∃ (b o : Nat) (u v : Value), a = some ⟨b, o, none⟩ ∧ w.cell? ⟨b, o + i * 2, none⟩ = some u ∧ w.cell? ⟨b, o + i * 2 + 1, none⟩ = some v ∧ IsT w t (.agg #[u, v])) ∧ IsTs w r a (i + 1)
end
mutual
/-- Whatever keeps the old cells keeps a term. -/
theorem IsT.keep {w w' : World} (hb : ∀ (p : Addr) (x : Value), w.cell? p = some x → w'.cell? p = some x) : ∀ {t : T} {v : Value}, IsT w t v → IsT w' t v
  | .mk _ _, _, ⟨h0, a, c, h1, h2, h3, h4⟩ => ⟨h0, a, c, h1, h2, h3, IsTs.keep hb h4⟩
theorem IsTs.keep {w w' : World} (hb : ∀ (p : Addr) (x : Value), w.cell? p = some x → w'.cell? p = some x) : ∀ {l : List T} {a : Option Addr} {i : Nat}, IsTs w l a i → IsTs w' l a i
  | [], _, _, _ => trivial
  | _ :: _, _, _, ⟨⟨b, o, u, v, ha, h1, h2, h3⟩, h4⟩ => ⟨⟨b, o, u, v, ha, hb _ _ h1, hb _ _ h2, IsT.keep hb h3⟩, IsTs.keep hb h4⟩
end
theorem IsT.below {w w' : World} (hb : Below w.heap.size w w') {t : T} {v : Value} (h : IsT w t v) : IsT w' t v := h.keep (bkeeps hb)
theorem IsTs.below {w w' : World} (hb : Below w.heap.size w w') {l : List T} {a : Option Addr} {i : Nat} (h : IsTs w l a i) : IsTs w' l a i := h.keep (bkeeps hb)
theorem IsT.form {w : World} {t : T} {v : Value} (h : IsT w t v) : I64 t.f ∧ ∃ (a : Option Addr) (c : Nat), v = .agg #[.int .i64 t.f, .slice a t.args.length c] ∧ t.args.length ≤ c ∧ c ≤ maxLen ∧ IsTs w t.args a 0 := by
  cases t; exact h
theorem IsTs.at0 {w : World} {l : List T} : ∀ {a : Option Addr} {i : Nat}, IsTs w l a i → ∀ k (hk : k < l.length),
    ∃ (b o : Nat) (u v : Value), a = some ⟨b, o, none⟩ ∧ w.cell? ⟨b, o + (i + k) * 2, none⟩ = some u ∧ w.cell? ⟨b, o + (i + k) * 2 + 1, none⟩ = some v ∧ IsT w l[k] (.agg #[u, v]) := by
  induction l with
  | nil => intro a i _ k hk; simp at hk
  | cons t r ih =>
    intro a i h k hk
    obtain ⟨h0, h1⟩ := h
    cases k with
    | zero => exact h0
    | succ k =>
      have := ih h1 k (by simpa using hk)
      simpa [Nat.add_assoc, Nat.add_comm 1 k] using this
theorem IsTs.of_at {w : World} {l : List T} : ∀ {a : Option Addr} {i : Nat}, (∀ k (hk : k < l.length),
    ∃ (b o : Nat) (u v : Value), a = some ⟨b, o, none⟩ ∧ w.cell? ⟨b, o + (i + k) * 2, none⟩ = some u ∧ w.cell? ⟨b, o + (i + k) * 2 + 1, none⟩ = some v ∧ IsT w l[k] (.agg #[u, v])) → IsTs w l a i := by
  induction l with
  | nil => intro a i _; trivial
  | cons t r ih =>
    intro a i h
    refine ⟨h 0 (by simp), ih (fun k hk => ?_)⟩
    have := h (k + 1) (by simpa using hk)
    simpa [Nat.add_assoc, Nat.add_comm 1 k] using this
/-- A term that is an aggregate of two known cells, in its own form. -/
theorem IsT.cells {w : World} {t : T} {u v : Value} (h : IsT w t (.agg #[u, v])) : ∃ (a : Option Addr) (c : Nat), u = .int .i64 t.f ∧ v = .slice a t.args.length c := by
  obtain ⟨_, a, c, hv, _⟩ := h.form
  simp only [Value.agg.injEq, Array.mk.injEq, List.cons.injEq, and_true] at hv
  exact ⟨a, c, hv.1, hv.2⟩
theorem IsTs.at_ {w w' : World} {l : List T} {a : Option Addr} (h : IsTs w l a 0) (hb : Below w.heap.size w w') (k : Nat) (hk : k < l.length) :
    ∃ (b o : Nat) (a' : Option Addr) (c' : Nat), a = some ⟨b, o, none⟩ ∧ w'.cell? ⟨b, o + k * 2, none⟩ = some (.int .i64 l[k].f) ∧ w'.cell? ⟨b, o + k * 2 + 1, none⟩ = some (.slice a' l[k].args.length c') ∧
      IsT w' l[k] (.agg #[.int .i64 l[k].f, .slice a' l[k].args.length c']) := by
  obtain ⟨b, o, u, v, ha, h1, h2, h3⟩ := h.at0 k hk
  obtain ⟨a', c', rfl, rfl⟩ := h3.cells
  rw [Nat.zero_add] at h1 h2
  exact ⟨b, o, a', c', ha, bkeeps hb _ _ h1, bkeeps hb _ _ h2, h3.below hb⟩
/-- .. and the term as it lay at first. -/
theorem IsTs.at2 {w w' : World} {l : List T} {a : Option Addr} (h : IsTs w l a 0) (hb : Below w.heap.size w w') (k : Nat) (hk : k < l.length) :
    ∃ (b o : Nat) (a' : Option Addr) (c' : Nat), a = some ⟨b, o, none⟩ ∧ w'.cell? ⟨b, o + k * 2, none⟩ = some (.int .i64 l[k].f) ∧ w'.cell? ⟨b, o + k * 2 + 1, none⟩ = some (.slice a' l[k].args.length c') ∧
      IsT w l[k] (.agg #[.int .i64 l[k].f, .slice a' l[k].args.length c']) := by
  obtain ⟨b, o, u, v, ha, h1, h2, h3⟩ := h.at0 k hk
  obtain ⟨a', c', rfl, rfl⟩ := h3.cells
  rw [Nat.zero_add] at h1 h2
  exact ⟨b, o, a', c', ha, bkeeps hb _ _ h1, bkeeps hb _ _ h2, h3⟩
/-! ### From what is read -/
section
variable {H : Type} {enc : TypeId × Value → H} {w : World} {base : Nat} {spare : Nat → Bool} {held : Bool}
theorem sizeL_le_bulk {l : List T} : ∀ {ds : List (DataW H)}, l.length = ds.length → (∀ k (hk : k < l.length) (hd : k < ds.length), l[k].size ≤ Rows.uptoBulk ds[k]) → T.sizeL l ≤ Rows.uptoBulkAll ds := by
  induction l with
  | nil => intro ds _ _; simp [T.sizeL]
  | cons t r ih =>
    intro ds hlen h
    cases ds with
    | nil => simp at hlen
    | cons d ds =>
      have h0 := h 0 (by simp) (by simp)
      have h1 := ih (ds := ds) (by simpa using hlen) (fun k hk hd => by have := h (k + 1) (by simpa using hk) (by simpa using hd); simpa using this)
      simp only [T.sizeL, Rows.uptoBulkAll]
      simp at h0
      omega
set_option maxRecDepth 10000 in
theorem open_T : ∀ (fuel : Nat) (cs : List Value) (x : DataW H × List MemPlace), DataW.trod enc Try.prog w base spare held fuel 30 cs = some x →
    ∃ t : T, ∃ u v : Value, cs = [u, v] ∧ IsT w t (.agg #[u, v]) ∧ t.size ≤ Rows.uptoBulk x.1 := by
  intro fuel
  induction fuel using Nat.strongRecOn with
  | _ fuel ih =>
    intro cs x h
    have hC : Try.prog.cellsOf 30 = 2 := by kernel_rfl
    have hC3 : Try.prog.cellsOf 3 = 1 := by kernel_rfl
    have hC30 : Try.prog.cellsOf 28 = 1 := by kernel_rfl
    obtain ⟨xs, n, rfl, rfl, hl, hlen, hf⟩ := DataW.trod_struct Try.underlying30 h
    rw [hC] at hl
    match xs, hlen, cs, hl with
    | [y0, y1], _, [c0, c1], _ =>
      have g0 : DataW.trod enc Try.prog w base spare held n 3 [c0] = some y0 := by simpa [hC3] using hf 0 _ rfl
      have g1 : DataW.trod enc Try.prog w base spare held n 28 [c1] = some y1 := by simpa [hC30] using hf 1 _ rfl
      obtain ⟨f, e0, rfl, wf⟩ := DataW.trod_int Try.underlying3 g0
      simp only [List.cons.injEq, and_true] at e0
      subst e0
      rcases DataW.trod_slice Try.underlying28 g1 with ⟨e1, rfl⟩ | ⟨a, len, cap, elems, rest, m, rfl, e1, rfl, hb, hlc, hcm, hel, hat, _, _⟩
      · simp only [List.cons.injEq, and_true] at e1
        subst e1
        exact ⟨.mk f [], _, _, rfl, ⟨i64_wf wf, none, 0, rfl, Nat.le_refl _, Nat.zero_le _, trivial⟩, by simp [T.size, T.sizeL, Rows.uptoBulk, Rows.uptoBulkAll]⟩
      · simp only [List.cons.injEq, and_true] at e1
        subst e1
        have hspot : 0 < len → ∃ b o, a = ⟨b, o, none⟩ := by
          intro h0
          have hk := hat 0 h0
          rw [hC, List.getElem?_eq_getElem (by omega)] at hk
          obtain ⟨cs', h1, _⟩ := Option.bind_eq_some_iff.1 hk
          obtain ⟨_, hl', hcell⟩ := World.cells?_some h1
          have c0 := hcell 0 (by omega)
          rw [List.getElem?_eq_getElem (by omega)] at c0
          have := World.cell?_spot c0
          obtain ⟨b, o, spot⟩ := a
          exact ⟨b, o, by simpa [Addr.add] using this⟩
        have key : ∀ i, i < len → ∃ t : T, (∃ (b o : Nat) (u v : Value), some a = some ⟨b, o, none⟩ ∧ w.cell? ⟨b, o + i * 2, none⟩ = some u ∧ w.cell? ⟨b, o + i * 2 + 1, none⟩ = some v ∧ IsT w t (.agg #[u, v])) ∧
            ∀ (hd : i < elems.length), t.size ≤ Rows.uptoBulk elems[i].1 := by
          intro i hi
          have hk := hat i hi
          rw [hC, List.getElem?_eq_getElem (by omega)] at hk
          obtain ⟨cs', h1, h2⟩ := Option.bind_eq_some_iff.1 hk
          obtain ⟨t, u, v, rfl, ht, hsz⟩ := ih m (by omega) _ _ h2
          obtain ⟨_, _, hcell⟩ := World.cells?_some h1
          have c0 := hcell 0 (by omega)
          have c1 := hcell 1 (by omega)
          simp only [List.getElem?_cons_zero, List.getElem?_cons_succ] at c0 c1
          obtain ⟨b, o, rfl⟩ := hspot (by omega)
          rw [add_plain2, add_plain2] at c0 c1
          exact ⟨t, ⟨b, o, u, v, rfl, c0, c1, ht⟩, fun _ => hsz⟩
        have : Inhabited T := ⟨.mk 0 []⟩
        obtain ⟨F, hF⟩ := Go.Deep.choose_lt key
        have hLL : ((List.range len).map F).length = len := by simp
        refine ⟨.mk f ((List.range len).map F), _, _, rfl, ⟨i64_wf wf, some a, cap, by simp, by simpa using hlc, hcm, IsTs.of_at (fun k hk => ?_)⟩, ?_⟩
        · have := (hF k (by simpa using hk)).1
          simpa using this
        · have h1 : T.sizeL ((List.range len).map F) ≤ Rows.uptoBulkAll (elems.map (·.1)) := sizeL_le_bulk (by simp [hel]) (fun k hk hd => by
            have := (hF k (by simpa using hk)).2 (by simpa using hd)
            simpa using this)
          simp only [T.size, List.map_cons, List.map_nil, Rows.uptoBulk, Rows.uptoBulkAll]
          omega
end
end Go.Proofs.Ytmdpiafeiopimaa

/- Rows of terms, opened whole. -/
namespace Go.Proofs.Ytmdpiafeiopimaa
open Go.RowKit Go
def tget (l : List T) (k : Nat) : T := l.getD k (.mk 0 [])
theorem tget_lt {l : List T} {k : Nat} (h : k < l.length) : tget l k = l[k] := by simp [tget, h]
theorem tget_mem {l : List T} {k : Nat} (h : k < l.length) : tget l k ∈ l := by rw [tget_lt h]; exact List.getElem_mem h
theorem isT_row {w : World} {t : T} {f : Value} {a : Option Addr} {n c : Nat} (h : IsT w t (.agg #[f, .slice a n c])) : n = t.args.length ∧ n ≤ c ∧ c ≤ maxLen ∧ IsTs w t.args a 0 := by
  obtain ⟨_, a', c', e, h1, h2, h3⟩ := h.form
  simp only [Value.agg.injEq, Array.mk.injEq, List.cons.injEq, and_true, Value.slice.injEq] at e
  obtain ⟨_, rfl, rfl, rfl⟩ := e
  exact ⟨rfl, h1, h2, h3⟩
theorem IsTs.open {w : World} {l : List T} {a : Option Addr} (h : IsTs w l a 0) : ∃ (b o : Nat) (A : Nat → Option Addr) (C : Nat → Nat), (∀ k, k < l.length → a = some ⟨b, o, none⟩) ∧
    ∀ k, k < l.length → w.cell? ⟨b, o + k * 2, none⟩ = some (.int .i64 (tget l k).f) ∧ w.cell? ⟨b, o + k * 2 + 1, none⟩ = some (.slice (A k) (tget l k).args.length (C k)) ∧ IsT w (tget l k) (.agg #[.int .i64 (tget l k).f, .slice (A k) (tget l k).args.length (C k)]) := by
  rcases Nat.eq_zero_or_pos l.length with h0 | h0
  · exact ⟨0, 0, fun _ => none, fun _ => 0, fun k hk => by omega, fun k hk => by omega⟩
  · obtain ⟨b, o, _, _, ha, _⟩ := h.at_ (Below.refl _ _) 0 h0
    have key : ∀ k, k < l.length → ∃ p : Option Addr × Nat, w.cell? ⟨b, o + k * 2, none⟩ = some (.int .i64 (tget l k).f) ∧ w.cell? ⟨b, o + k * 2 + 1, none⟩ = some (.slice p.1 (tget l k).args.length p.2) ∧ IsT w (tget l k) (.agg #[.int .i64 (tget l k).f, .slice p.1 (tget l k).args.length p.2]) := by
      intro k hk
      obtain ⟨b', o', a', c', ha', h1, h2, h3⟩ := h.at_ (Below.refl _ _) k hk
      rw [ha] at ha'
      simp only [Option.some.injEq, Addr.mk.injEq, and_true] at ha'
      obtain ⟨rfl, rfl⟩ := ha'
      rw [tget_lt hk]
      exact ⟨(a', c'), h1, h2, h3⟩
    have : Inhabited (Option Addr × Nat) := ⟨(none, 0)⟩
    obtain ⟨F, hF⟩ := Go.Deep.choose_lt key
    exact ⟨b, o, fun k => (F k).1, fun k => (F k).2, fun _ _ => ha, hF⟩
end Go.Proofs.Ytmdpiafeiopimaa

/- Rows of things of several cells, how they lie in memory. -/
namespace Go.Proofs.Ytmdpiafeiopimaa
open Go.RowKit
/-- The row at 'a' holds the things 'l', 'k' cells each. -/
def IsRow {α : Type} (w : World) (k : Nat) (R : World → α → List Value → Prop) (l : List α) (a : Option Addr) : Prop :=
  ∀ i (hi : i < l.length), ∃ (b o : Nat) (cs : List Value), a = some ⟨b, o, none⟩ ∧ cs.length = k ∧ (∀ j, j < k → w.cell? ⟨b, o + i * k + j, none⟩ = cs[j]?) ∧ R w l[i] cs
theorem IsRow.keep {α : Type} {w w' : World} {k : Nat} {R : World → α → List Value → Prop} {l : List α} {a : Option Addr} (h : IsRow w k R l a) (hb : Below w.heap.size w w') (hR : ∀ x cs, R w x cs → R w' x cs) : IsRow w' k R l a := by
  intro i hi
  obtain ⟨b, o, cs, h1, h2, h3, h4⟩ := h i hi
  refine ⟨b, o, cs, h1, h2, fun j hj => ?_, hR _ _ h4⟩
  have := h3 j hj
  rw [List.getElem?_eq_getElem (by omega)] at this ⊢
  exact bkeeps hb _ _ this
section
variable {H : Type} {enc : TypeId × Value → H} {P : Program} {w : World} {base : Nat} {spare : Nat → Bool} {held : Bool}
/-- A slice opened: its things, one by one. -/
theorem open_row {α : Type} [Inhabited α] {t e : TypeId} {k : Nat} {fuel : Nat} {cs : List Value} {x : DataW H × List MemPlace} (ht : P.underlying t = some (.slice e)) (hC : P.cellsOf e = k) (hk : 0 < k)
    (h : DataW.trod enc P w base spare held fuel t cs = some x) {R : World → α → List Value → Prop} {S : α → DataW H → Prop}
    (hel : ∀ n cs x, DataW.trod enc P w base spare held n e cs = some x → ∃ a : α, R w a cs ∧ S a x.1) :
    ∃ (l : List α) (a : Option Addr) (cap : Nat) (ds sp : List (DataW H)), cs = [.slice a l.length cap] ∧ l.length ≤ cap ∧ cap ≤ maxLen ∧ IsRow w k R l a ∧ ds.length = l.length ∧ (x.1 = .nil ∧ l = [] ∧ ds = [] ∨ x.1 = .slice ds sp) ∧
      ∀ i (hi : i < l.length) (hd : i < ds.length), S l[i] ds[i] := by
  rcases DataW.trod_slice ht h with ⟨rfl, rfl⟩ | ⟨a, len, cap, elems, rest, m, rfl, rfl, rfl, hb, hlc, hcm, hlen, hat, _, _⟩
  · exact ⟨[], none, 0, [], [], rfl, Nat.le_refl _, Nat.zero_le _, fun i hi => absurd hi (by simp), rfl, .inl ⟨rfl, rfl, rfl⟩, fun i hi => absurd hi (by simp)⟩
  · have hspot : 0 < len → ∃ b o, a = ⟨b, o, none⟩ := by
      intro h0
      have hk := hat 0 h0
      rw [hC, List.getElem?_eq_getElem (by omega)] at hk
      obtain ⟨cs', h1, _⟩ := Option.bind_eq_some_iff.1 hk
      obtain ⟨_, hl', hcell⟩ := World.cells?_some h1
      have c0 := hcell 0 (by omega)
      rw [List.getElem?_eq_getElem (by omega)] at c0
      have := World.cell?_spot c0
      obtain ⟨b, o, spot⟩ := a
      exact ⟨b, o, by simpa [Addr.add] using this⟩
    have key : ∀ i, i < len → ∃ t : α, (∃ (b o : Nat) (cs : List Value), some a = some ⟨b, o, none⟩ ∧ cs.length = k ∧ (∀ j, j < k → w.cell? ⟨b, o + i * k + j, none⟩ = cs[j]?) ∧ R w t cs) ∧
        ∀ (hd : i < elems.length), S t elems[i].1 := by
      intro i hi
      have hk := hat i hi
      rw [hC, List.getElem?_eq_getElem (by omega)] at hk
      obtain ⟨cs', h1, h2⟩ := Option.bind_eq_some_iff.1 hk
      obtain ⟨t, hR, hS⟩ := hel _ _ _ h2
      obtain ⟨_, hl', hcell⟩ := World.cells?_some h1
      obtain ⟨b, o, rfl⟩ := hspot (by omega)
      refine ⟨t, ⟨b, o, cs', rfl, hl', fun j hj => ?_, hR⟩, fun _ => hS⟩
      have := hcell j hj
      rwa [add_plain2, add_plain2] at this
    obtain ⟨F, hF⟩ := Go.Deep.choose_lt key
    have hLL : ((List.range len).map F).length = len := by simp
    refine ⟨(List.range len).map F, some a, cap, elems.map (·.1), rest.map (·.1), by rw [hLL], by rw [hLL]; exact hlc, hcm, fun i hi => ?_, by rw [hLL]; simpa using hlen, .inr rfl, fun i hi hd => ?_⟩
    · have := (hF i (by simpa using hi)).1
      simpa using this
    · have := (hF i (by simpa using hi)).2 (by simpa using hd)
      simpa using this
end
end Go.Proofs.Ytmdpiafeiopimaa

/- Terms compared, as a plain function. -/
namespace Go.Proofs.Ytmdpiafeiopimaa
namespace T
mutual
def same : T → T → Bool
  | .mk f l, .mk g k => (f == g) && sameL l k
def sameL : List T → List T → Bool
  | [], [] => true
  | a :: r, b :: q => same a b && sameL r q
  | [], _ :: _ => false
  | _ :: _, [] => false
end
mutual
theorem same_iff : ∀ (s t : T), same s t = true ↔ s = t
  | .mk f l, .mk g k => by
    rw [same, Bool.and_eq_true, sameL_iff l k, beq_iff_eq]
    simp
theorem sameL_iff : ∀ (l k : List T), sameL l k = true ↔ l = k
  | [], [] => by simp [sameL]
  | a :: r, b :: q => by rw [sameL, Bool.and_eq_true, same_iff a b, sameL_iff r q]; simp
  | [], _ :: _ => by simp [sameL]
  | _ :: _, [] => by simp [sameL]
end
theorem same_refl (s : T) : same s s = true := (same_iff s s).2 rfl
theorem same_symm (s t : T) : same s t = same t s := by
  rw [Bool.eq_iff_iff, same_iff, same_iff]; exact ⟨Eq.symm, Eq.symm⟩
mutual
def cmp : T → T → Int
  | .mk f l, .mk g k => if f ≠ g then (if f < 0 ∧ g < 0 then (if g < f then -1 else 1) else if f < g then -1 else 1) else cmpL l k
def cmpL : List T → List T → Int
  | [], [] => 0
  | a :: r, b :: q => if cmp a b = 0 then cmpL r q else cmp a b
  | [], _ :: _ => -1
  | _ :: _, [] => 1
end
end T
end Go.Proofs.Ytmdpiafeiopimaa

/- The order of Knuth and Bendix, as plain functions on terms: the program's way and the document's way come to the same. -/
namespace Go.Proofs.Ytmdpiafeiopimaa
/-- An order of terms, as it is handed in. -/
structure Od where
  lpo : Bool
  prec : List Int
  weights : List Int
  var : Int
namespace T
-- How often a top stands in a term.
mutual
def often (v : Int) : T → Nat
  | .mk f l => (if f = v then 1 else 0) + oftenL v l
def oftenL (v : Int) : List T → Nat
  | [] => 0
  | a :: r => often v a + oftenL v r
end
end T
namespace Od
def most : Int := 2147483647
/-- A weight as it counts. -/
def clamp (w : Int) : Int := max 0 (min w most)
def wsym (o : Od) (f : Int) : Int := if f < 0 then o.var else o.weights.getD f.toNat 0
-- What all symbols weigh together.
mutual
def raw (o : Od) : T → Int
  | .mk f l => clamp (o.wsym f) + rawL o l
def rawL (o : Od) : List T → Int
  | [] => 0
  | a :: r => raw o a + rawL o r
end
mutual
theorem raw_nonneg (o : Od) : ∀ t, 0 ≤ raw o t
  | .mk f l => by have := rawL_nonneg o l; rw [raw]; unfold clamp; omega
theorem rawL_nonneg (o : Od) : ∀ l, 0 ≤ rawL o l
  | [] => by simp [rawL]
  | a :: r => by have := raw_nonneg o a; have := rawL_nonneg o r; rw [rawL]; omega
end
def weight (o : Od) (t : T) : Int := min (o.raw t) most
mutual
def knows (o : Od) : T → Bool
  | .mk f l => if f < 0 then l.isEmpty else decide (f < o.prec.length ∧ f < o.weights.length) && knowsL o l
def knowsL (o : Od) : List T → Bool
  | [] => true
  | a :: r => knows o a && knowsL o r
end
def rank (o : Od) (f : Int) : Int := o.prec.getD f.toNat 0
/-- Symbols all the same around a variable. -/
def around (f v : Int) : T → Bool
  | .mk g [a] => g == f && (a.f == v || around f v a)
  | .mk _ _ => false
-- No variable stands in t more often than in s, of those that stand in u.
mutual
def covers (s t : T) : T → Bool
  | .mk f l => if f < 0 then decide (t.often f ≤ s.often f) else coversL s t l
def coversL (s t : T) : List T → Bool
  | [] => true
  | a :: r => covers s t a && coversL s t r
end
mutual
def above (o : Od) : T → T → Bool
  | .mk f l, t =>
    covers (.mk f l) t t && (decide (o.weight t < o.weight (.mk f l)) || (decide (o.weight (.mk f l) = o.weight t) &&
      (if f < 0 then false else if t.f < 0 then around f t.f (.mk f l) else if f ≠ t.f then decide (o.rank t.f < o.rank f) else aboveL o l t.args)))
def aboveL (o : Od) : List T → List T → Bool
  | [], _ => false
  | _ :: _, [] => true
  | a :: r, b :: q => if T.same a b then aboveL o r q else above o a b
end
/-- A relation: 0 none, 1 less, 2 equal, 3 greater. -/
def cmp (o : Od) (s t : T) : Int :=
  if T.same s t then 2 else if above o s t then 3 else if above o t s then 1 else 0
def Cmp (o : Od) (s t : T) : Int := if o.knows s && o.knows t then o.cmp s t else 0
theorem above_eq (o : Od) (s t : T) : above o s t = (covers s t t && (decide (o.weight t < o.weight s) || (decide (o.weight s = o.weight t) &&
      (if s.f < 0 then false else if t.f < 0 then around s.f t.f s else if s.f ≠ t.f then decide (o.rank t.f < o.rank s.f) else aboveL o s.args t.args)))) := by
  cases s; rw [above]; rfl
theorem asymm_step (o : Od) (s t : T) (hL : ∀ k, aboveL o s.args k = true → aboveL o k s.args = false) (h : above o s t = true) : above o t s = false := by
  rw [above_eq] at h ⊢
  simp only [Bool.and_eq_true, Bool.or_eq_true, decide_eq_true_eq] at h
  obtain ⟨_, h⟩ := h
  rw [Bool.and_eq_false_iff]
  right
  rcases h with h | ⟨h1, h2⟩
  · simp; omega
  · rw [Bool.or_eq_false_iff, Bool.and_eq_false_iff]
    refine ⟨by simp; omega, Or.inr ?_⟩
    by_cases hf : s.f < 0
    · simp [hf] at h2
    · by_cases ht : t.f < 0
      · simp [ht]
      · by_cases hft : s.f = t.f
        · simp only [ht, hft, if_false, ne_eq, not_true_eq_false] at h2 ⊢
          exact hL _ h2
        · have hft' : ¬ t.f = s.f := fun h => hft h.symm
          simp only [hf, ht, hft, hft', if_false, ne_eq, not_false_eq_true, if_true, decide_eq_true_eq, decide_eq_false_iff_not] at h2 ⊢
          omega
mutual
theorem above_asymm (o : Od) : ∀ (s t : T), above o s t = true → above o t s = false
  | .mk f l, t => asymm_step o (.mk f l) t (fun k => aboveL_asymm o l k)
theorem aboveL_asymm (o : Od) : ∀ (l k : List T), aboveL o l k = true → aboveL o k l = false
  | [], _, h => by simp [aboveL] at h
  | _ :: _, [], _ => by simp [aboveL]
  | a :: r, b :: q, h => by
    rw [aboveL] at h ⊢
    by_cases hs : T.same a b = true
    · rw [if_pos hs] at h
      rw [if_pos (by rw [T.same_symm]; exact hs)]
      exact aboveL_asymm o r q h
    · rw [if_neg hs] at h
      rw [if_neg (by rw [T.same_symm]; exact hs)]
      exact above_asymm o a b h
end
/-! ### The program's way -/
def turned (r : Int) : Int := if r = 1 then 3 else if r = 3 then 1 else r
/-- The first arguments that differ decide. -/
def reasonL (o : Od) : List T → List T → Int
  | [], [] => 1
  | _ :: _, [] => 3
  | [], _ :: _ => 1
  | a :: r, b :: q => if T.same a b then reasonL o r q else o.cmp a b
def reason (o : Od) (s t : T) : Int :=
  if o.weight t < o.weight s then 3 else if o.weight s < o.weight t then 1
  else if s.f < 0 ∧ t.f < 0 then 0
  else if t.f < 0 then (if around s.f t.f s then 3 else 0)
  else if s.f < 0 then (if around t.f s.f t then 1 else 0)
  else if s.f ≠ t.f then (if o.rank t.f < o.rank s.f then 3 else if o.rank s.f < o.rank t.f then 1 else 0)
  else reasonL o s.args t.args
theorem cmp_range (o : Od) (s t : T) : o.cmp s t = 0 ∨ o.cmp s t = 1 ∨ o.cmp s t = 2 ∨ o.cmp s t = 3 := by
  unfold cmp; (repeat' split) <;> simp
theorem reasonL_three (o : Od) : ∀ (l k : List T), T.sameL l k = false → (reasonL o l k = 3 ↔ aboveL o l k = true)
  | [], [], h => by simp [T.sameL] at h
  | _ :: _, [], _ => by simp [reasonL, aboveL]
  | [], _ :: _, _ => by simp [reasonL, aboveL]
  | a :: r, b :: q, h => by
    rw [reasonL, aboveL]
    by_cases hs : T.same a b = true
    · rw [if_pos hs, if_pos hs]
      refine reasonL_three o r q ?_
      simpa [T.sameL, hs] using h
    · rw [if_neg hs, if_neg hs]
      unfold cmp
      rw [if_neg hs]
      by_cases h1 : above o a b = true
      · simp [h1]
      · simp [h1]; split <;> simp
theorem reasonL_one (o : Od) : ∀ (l k : List T), T.sameL l k = false → (reasonL o l k = 1 ↔ aboveL o k l = true)
  | [], [], h => by simp [T.sameL] at h
  | _ :: _, [], _ => by simp [reasonL, aboveL]
  | [], _ :: _, _ => by simp [reasonL, aboveL]
  | a :: r, b :: q, h => by
    rw [reasonL, aboveL, T.same_symm b a]
    by_cases hs : T.same a b = true
    · rw [if_pos hs, if_pos hs]
      refine reasonL_one o r q ?_
      simpa [T.sameL, hs] using h
    · rw [if_neg hs, if_neg hs]
      unfold cmp
      rw [if_neg hs]
      by_cases h1 : above o a b = true
      · simp [h1, above_asymm o a b h1]
      · simp [h1]
theorem cmp_eq (o : Od) (s t : T) : o.cmp s t = if T.same s t then 2 else
    if reason o s t = 3 ∧ covers s t t = true then 3 else if reason o s t = 1 ∧ covers t s s = true then 1 else 0 := by
  unfold cmp
  by_cases hs : T.same s t = true
  · simp [hs]
  · rw [if_neg hs, if_neg hs]
    have hs' : T.same s t = false := by simpa using hs
    have hL : s.f = t.f → T.sameL s.args t.args = false := by
      intro h
      rw [← T.eta s, ← T.eta t, T.same, h] at hs'
      simpa using hs'
    have h3 : above o s t = true ↔ reason o s t = 3 ∧ covers s t t = true := by
      rw [above_eq, and_comm (a := reason o s t = 3), Bool.and_eq_true]
      refine and_congr_right (fun _ => ?_)
      unfold reason
      by_cases a : o.weight t < o.weight s
      · simp [a]
      · by_cases b : o.weight s < o.weight t
        · simp [a, b]; omega
        · have hw : o.weight s = o.weight t := by omega
          by_cases hf : s.f < 0 <;> by_cases ht : t.f < 0
          · simp [hw, hf, ht]
          · simp [hw, hf, ht]; split <;> simp
          · simp [hw, hf, ht]
          · by_cases hft : s.f = t.f
            · have := reasonL_three o s.args t.args (hL hft)
              simp [hw, ht, hft, this]
            · simp [hw, hf, ht, hft]
              by_cases c : o.rank t.f < o.rank s.f
              · simp [c]; omega
              · simp [c]; split <;> simp <;> omega
    have h1 : above o t s = true ↔ reason o s t = 1 ∧ covers t s s = true := by
      rw [above_eq, and_comm (a := reason o s t = 1), Bool.and_eq_true]
      refine and_congr_right (fun _ => ?_)
      unfold reason
      by_cases a : o.weight t < o.weight s
      · simp [a]; omega
      · by_cases b : o.weight s < o.weight t
        · simp [a, b]
        · have hw : o.weight s = o.weight t := by omega
          by_cases hf : s.f < 0 <;> by_cases ht : t.f < 0
          · simp [hw, hf, ht]
          · simp [hw, hf, ht]
          · simp [hw, hf, ht]; split <;> simp
          · by_cases hft : s.f = t.f
            · have := reasonL_one o s.args t.args (hL hft)
              simp [hw, ht, hft, this]
            · have hft' : ¬ t.f = s.f := fun h => hft h.symm
              simp [hw, hf, ht, hft, hft']
              by_cases c : o.rank t.f < o.rank s.f
              · simp [c]; omega
              · simp [c]
    simp only [h3, h1]
end Od
end Go.Proofs.Ytmdpiafeiopimaa

/- Rows of integers, orders of terms, how they lie in memory, and that what reads as one is one. -/
namespace Go.Proofs.Ytmdpiafeiopimaa
open Go.RowKit
def IsInt (_ : World) (n : Int) (cs : List Value) : Prop := cs = [.int .i64 n] ∧ I64 n
def IsInts (w : World) (l : List Int) (a : Option Addr) : Prop := IsRow w 1 IsInt l a
theorem IsInts.below {w w' : World} (hb : Below w.heap.size w w') {l : List Int} {a : Option Addr} (h : IsInts w l a) : IsInts w' l a := IsRow.keep h hb (fun _ _ h => h)
theorem IsInts.at_ {w w' : World} {l : List Int} {a : Option Addr} (h : IsInts w l a) (hb : Below w.heap.size w w') (k : Nat) (hk : k < l.length) :
    ∃ (b o : Nat), a = some ⟨b, o, none⟩ ∧ w'.cell? ⟨b, o + k, none⟩ = some (.int .i64 l[k]) ∧ I64 l[k] := by
  obtain ⟨b, o, cs, h1, _, h3, rfl, h4⟩ := h k hk
  have e0 := h3 0 (by omega)
  simp only [List.getElem?_cons_zero, Nat.add_zero, Nat.mul_one] at e0
  exact ⟨b, o, h1, bkeeps hb _ _ e0, h4⟩
/-- The value is the order. -/
def IsOd (w : World) (x : Od) (v : Value) : Prop := ∃ (a1 a2 : Option Addr) (c1 c2 : Nat), v = .agg #[.bool x.lpo, .slice a1 x.prec.length c1, .slice a2 x.weights.length c2, .int .i64 x.var] ∧
  x.prec.length ≤ c1 ∧ c1 ≤ maxLen ∧ x.weights.length ≤ c2 ∧ c2 ≤ maxLen ∧ IsInts w x.prec a1 ∧ IsInts w x.weights a2 ∧ I64 x.var
theorem IsOd.below {w w' : World} (hb : Below w.heap.size w w') {x : Od} {v : Value} (h : IsOd w x v) : IsOd w' x v := by
  obtain ⟨a1, a2, c1, c2, h0, h1, h2, h3, h4, h5, h6, h7⟩ := h
  exact ⟨a1, a2, c1, c2, h0, h1, h2, h3, h4, h5.below hb, h6.below hb, h7⟩
section
variable {H : Type} {enc : TypeId × Value → H} {w : World} {base : Nat} {spare : Nat → Bool} {held : Bool}
set_option maxRecDepth 10000 in
theorem open_Ints (fuel : Nat) (cs : List Value) (x : DataW H × List MemPlace) (h : DataW.trod enc Try.prog w base spare held fuel 25 cs = some x) :
    ∃ (l : List Int) (a : Option Addr) (cap : Nat), cs = [.slice a l.length cap] ∧ l.length ≤ cap ∧ cap ≤ maxLen ∧ IsInts w l a := by
  obtain ⟨l, a, cap, ds, sp, rfl, h1, h2, h3, _⟩ := open_row Try.underlying25 (k := 1) (by kernel_rfl) (by omega) h (R := IsInt) (S := fun _ _ => True) (fun n cs x hx => by
    obtain ⟨m, rfl, rfl, wf⟩ := DataW.trod_int Try.underlying3 hx
    exact ⟨m, ⟨rfl, i64_wf wf⟩, trivial⟩)
  exact ⟨l, a, cap, rfl, h1, h2, h3⟩
set_option maxRecDepth 10000 in
theorem open_Od (fuel : Nat) (cs : List Value) (x : DataW H × List MemPlace) (h : DataW.trod enc Try.prog w base spare held fuel 27 cs = some x) :
    ∃ (y : Od) (v0 v1 v2 v3 : Value), cs = [v0, v1, v2, v3] ∧ IsOd w y (.agg #[v0, v1, v2, v3]) := by
  have hC : Try.prog.cellsOf 27 = 4 := by kernel_rfl
  have hC4 : Try.prog.cellsOf 4 = 1 := by kernel_rfl
  have hC3 : Try.prog.cellsOf 3 = 1 := by kernel_rfl
  have hC27 : Try.prog.cellsOf 25 = 1 := by kernel_rfl
  obtain ⟨xs, n, rfl, rfl, hl, hlen, hf⟩ := DataW.trod_struct Try.underlying27 h
  rw [hC] at hl
  match xs, hlen, cs, hl with
  | [y0, y1, y2, y3], _, [c0, c1, c2, c3], _ =>
    have g0 : DataW.trod enc Try.prog w base spare held n 4 [c0] = some y0 := by simpa [hC4] using hf 0 _ rfl
    have g1 : DataW.trod enc Try.prog w base spare held n 25 [c1] = some y1 := by simpa [hC27] using hf 1 _ rfl
    have g2 : DataW.trod enc Try.prog w base spare held n 25 [c2] = some y2 := by simpa [hC27] using hf 2 _ rfl
    have g3 : DataW.trod enc Try.prog w base spare held n 3 [c3] = some y3 := by simpa [hC3] using hf 3 _ rfl
    obtain ⟨b, e0, rfl⟩ := DataW.trod_bool Try.underlying4 g0
    obtain ⟨l1, a1, k1, e1, p1, q1, r1⟩ := open_Ints _ _ _ g1
    obtain ⟨l2, a2, k2, e2, p2, q2, r2⟩ := open_Ints _ _ _ g2
    obtain ⟨m, e3, rfl, wf⟩ := DataW.trod_int Try.underlying3 g3
    simp only [List.cons.injEq, and_true] at e0 e1 e2 e3
    subst e0 e1 e2 e3
    exact ⟨⟨b, l1, l2, m⟩, _, _, _, _, rfl, a1, a2, k1, k2, rfl, p1, q1, p2, q2, r1, r2, i64_wf wf⟩
end
end Go.Proofs.Ytmdpiafeiopimaa

/- Rows of terms and of integers, opened whole. -/
namespace Go.Proofs.Ytmdpiafeiopimaa
open Go.RowKit Go
def iget (l : List Int) (k : Nat) : Int := l.getD k 0
theorem iget_lt {l : List Int} {k : Nat} (h : k < l.length) : iget l k = l[k] := by simp [iget, h]
theorem IsInts.open {w : World} {l : List Int} {a : Option Addr} (h : IsInts w l a) : ∃ (b o : Nat), (∀ k, k < l.length → a = some ⟨b, o, none⟩) ∧ ∀ k, k < l.length → w.cell? ⟨b, o + k, none⟩ = some (.int .i64 (iget l k)) := by
  rcases Nat.eq_zero_or_pos l.length with h0 | h0
  · exact ⟨0, 0, fun k hk => by omega, fun k hk => by omega⟩
  · obtain ⟨b, o, ha, _⟩ := h.at_ (Below.refl _ _) 0 h0
    refine ⟨b, o, fun _ _ => ha, fun k hk => ?_⟩
    obtain ⟨b', o', ha', h1, _⟩ := h.at_ (Below.refl _ _) k hk
    rw [ha] at ha'
    simp only [Option.some.injEq, Addr.mk.injEq, and_true] at ha'
    obtain ⟨rfl, rfl⟩ := ha'
    rw [iget_lt hk]; exact h1
end Go.Proofs.Ytmdpiafeiopimaa

/- The lexicographic path order, as plain functions on terms. -/
namespace Go.Proofs.Ytmdpiafeiopimaa
namespace T
-- Does a top stand in a term?
mutual
def has (v : Int) : T → Bool
  | .mk f l => decide (f = v) || hasL v l
def hasL (v : Int) : List T → Bool
  | [] => false
  | a :: r => has v a || hasL v r
end
theorem hasL_any (v : Int) : ∀ l, hasL v l = l.any (has v)
  | [] => rfl
  | a :: r => by rw [hasL, hasL_any v r, List.any_cons]
end T
/-- Rows compared: the first places that are not the same tell. -/
def lexR (R : T → T → Bool) : List T → List T → Bool
  | [], _ => false
  | _ :: _, [] => true
  | a :: r, b :: q => if T.same a b then lexR R r q else R a b
theorem lexR_congr {R R' : T → T → Bool} : ∀ (l q : List T), (∀ a ∈ l, ∀ b ∈ q, R a b = R' a b) → lexR R l q = lexR R' l q
  | [], _, _ => rfl
  | _ :: _, [], _ => rfl
  | a :: r, b :: q, h => by
    rw [lexR, lexR, lexR_congr r q (fun x hx y hy => h x (by simp [hx]) y (by simp [hy])), h a (by simp) b (by simp)]
namespace Od
mutual
/-- What a lexicographic order knows. -/
def lknows (o : Od) : T → Bool
  | .mk f l => if f < 0 then l.isEmpty else decide (f < o.prec.length) && lknowsL o l
def lknowsL (o : Od) : List T → Bool
  | [] => true
  | a :: r => lknows o a && lknowsL o r
end
theorem lknowsL_all (o : Od) : ∀ l, o.lknowsL l = l.all o.lknows
  | [] => rfl
  | a :: r => by rw [lknowsL, lknowsL_all o r, List.all_cons]
/-- One step of the order, over whatever stands for the order on what is smaller. -/
def lstep (o : Od) (R : T → T → Bool) (s t : T) : Bool :=
  if s.f < 0 then false
  else if t.f < 0 then T.has t.f s
  else s.args.any (fun a => T.same a t || R a t) ||
    (if s.f ≠ t.f then decide (o.rank t.f < o.rank s.f) && t.args.all (R s) else t.args.all (R s) && lexR R s.args t.args)
theorem lstep_congr (o : Od) {R R' : T → T → Bool} {s t : T} (h1 : ∀ a ∈ s.args, R a t = R' a t) (h2 : ∀ b ∈ t.args, R s b = R' s b) (h3 : ∀ a ∈ s.args, ∀ b ∈ t.args, R a b = R' a b) : o.lstep R s t = o.lstep R' s t := by
  unfold lstep
  have e1 : s.args.any (fun a => T.same a t || R a t) = s.args.any (fun a => T.same a t || R' a t) := by
    rw [Bool.eq_iff_iff, List.any_eq_true, List.any_eq_true]
    exact ⟨fun ⟨a, ha, h⟩ => ⟨a, ha, by rw [← h1 a ha]; exact h⟩, fun ⟨a, ha, h⟩ => ⟨a, ha, by rw [h1 a ha]; exact h⟩⟩
  have e2 : t.args.all (R s) = t.args.all (R' s) := by
    rw [Bool.eq_iff_iff, List.all_eq_true, List.all_eq_true]
    exact ⟨fun h b hb => by rw [← h2 b hb]; exact h b hb, fun h b hb => by rw [h2 b hb]; exact h b hb⟩
  rw [e1, e2, lexR_congr _ _ h3]
/-- The order, to so many steps. -/
def lgN (o : Od) : Nat → T → T → Bool
  | 0, _, _ => false
  | n + 1, s, t => o.lstep (lgN o n) s t
theorem lgN_enough (o : Od) : ∀ (n m : Nat) (s t : T), s.size + t.size ≤ n → s.size + t.size ≤ m → o.lgN n s t = o.lgN m s t
  | 0, _, s, _, h, _ => by have := T.size_eq s; omega
  | _ + 1, 0, s, _, _, h => by have := T.size_eq s; omega
  | n + 1, m + 1, s, t, hn, hm => by
    have hs := T.size_eq s
    have ht := T.size_eq t
    rw [lgN, lgN]
    refine lstep_congr o (fun a ha => ?_) (fun b hb => ?_) (fun a ha b hb => ?_)
    · have := T.size_le_sizeL ha; exact lgN_enough o n m _ _ (by omega) (by omega)
    · have := T.size_le_sizeL hb; exact lgN_enough o n m _ _ (by omega) (by omega)
    · have := T.size_le_sizeL ha; have := T.size_le_sizeL hb; exact lgN_enough o n m _ _ (by omega) (by omega)
/-- s is above t. -/
def lg (o : Od) (s t : T) : Bool := o.lgN (s.size + t.size) s t
theorem lg_eq (o : Od) (s t : T) : o.lg s t = o.lstep o.lg s t := by
  have hs := T.size_eq s
  have ht := T.size_eq t
  unfold lg
  rw [show s.size + t.size = (T.sizeL s.args + t.size) + 1 by omega, lgN]
  refine lstep_congr o (fun a ha => ?_) (fun b hb => ?_) (fun a ha b hb => ?_)
  · have := T.size_le_sizeL ha; exact lgN_enough o _ _ _ _ (by omega) (by omega)
  · have := T.size_le_sizeL hb; exact lgN_enough o _ _ _ _ (by omega) (by omega)
  · have := T.size_le_sizeL ha; have := T.size_le_sizeL hb; exact lgN_enough o _ _ _ _ (by omega) (by omega)
/-- How two terms stand: 0 none, 1 less, 2 equal, 3 greater. -/
def lcmp (o : Od) (s t : T) : Int :=
  if !o.lknows s || !o.lknows t then 0 else if T.same s t then 2 else if o.lg s t then 3 else if o.lg t s then 1 else 0
end Od
/-! ### A term laid out -/
/-- A part of a term, the numbers of its arguments. -/
structure Nd where
  t : T
  args : List Nat
instance : Inhabited Nd := ⟨⟨.mk 0 [], []⟩⟩
def kids : List T → Nat → List Nat
  | [], _ => []
  | a :: r, n => n :: kids r (n + a.size)
mutual
def lay : T → Nat → List Nd
  | .mk f l, n => ⟨.mk f l, kids l (n + 1)⟩ :: layL l (n + 1)
def layL : List T → Nat → List Nd
  | [], _ => []
  | a :: r, n => lay a n ++ layL r (n + a.size)
end
mutual
theorem lay_len : ∀ (t : T) (n : Nat), (lay t n).length = t.size
  | .mk f l, n => by rw [lay, List.length_cons, layL_len l, T.size]; omega
theorem layL_len : ∀ (l : List T) (n : Nat), (layL l n).length = T.sizeL l
  | [], _ => rfl
  | a :: r, n => by rw [layL, List.length_append, lay_len a, layL_len r, T.sizeL]
end
theorem kids_len : ∀ (l : List T) (n : Nat), (kids l n).length = l.length
  | [], _ => rfl
  | a :: r, n => by rw [kids, List.length_cons, kids_len r, List.length_cons]
theorem kids_append : ∀ (l r : List T) (n : Nat), kids (l ++ r) n = kids l n ++ kids r (n + T.sizeL l)
  | [], r, n => by simp [kids, T.sizeL]
  | a :: l, r, n => by rw [List.cons_append, kids, kids, kids_append l r, T.sizeL, List.cons_append, Nat.add_assoc]
theorem layL_append : ∀ (l r : List T) (n : Nat), layL (l ++ r) n = layL l n ++ layL r (n + T.sizeL l)
  | [], r, n => by simp [layL, T.sizeL]
  | a :: l, r, n => by rw [List.cons_append, layL, layL, layL_append l r, T.sizeL, List.append_assoc, Nat.add_assoc]
/-- In the row 'l', from n on, t is laid out. -/
def ndget (l : List Nd) (k : Nat) : Nd := l.getD k default
/-- Each part's arguments stand where it says. -/
def GoodAt (l : List Nd) (k : Nat) : Prop := (ndget l k).args.length = (ndget l k).t.args.length ∧ ∀ j (h : j < (ndget l k).t.args.length), (ndget l k).args.getD j 0 < l.length ∧ (ndget l ((ndget l k).args.getD j 0)).t = (ndget l k).t.args[j]
theorem ndget_append_right (p q : List Nd) (k : Nat) : ndget (p ++ q) (p.length + k) = ndget q k := by
  unfold ndget
  rw [List.getD_eq_getElem?_getD, List.getD_eq_getElem?_getD, List.getElem?_append_right (by omega)]
  congr 2; omega
theorem ndget_append_left (p q : List Nd) (k : Nat) (h : k < p.length) : ndget (p ++ q) k = ndget p k := by
  unfold ndget
  rw [List.getD_eq_getElem?_getD, List.getD_eq_getElem?_getD, List.getElem?_append_left h]
theorem lay_head (t : T) (n : Nat) : (ndget (lay t n) 0).t = t := by cases t; rfl
theorem kids_at : ∀ (l : List T) (n j : Nat) (p q : List Nd), p.length = n → (h : j < l.length) → (kids l n).getD j 0 < n + T.sizeL l ∧ (ndget (p ++ layL l n ++ q) ((kids l n).getD j 0)).t = l[j]
  | [], _, _, _, _, _, h => by simp at h
  | a :: r, n, j, p, q, hp, h => by
    cases j with
    | zero =>
      have ha := T.size_eq a
      refine ⟨by simp only [kids, List.getD_cons_zero, T.sizeL]; omega, ?_⟩
      simp only [kids, List.getD_cons_zero, List.getElem_cons_zero, layL]
      rw [List.append_assoc, show n = p.length + 0 by omega, ndget_append_right, List.append_assoc, ndget_append_left _ _ _ (by rw [lay_len]; omega), lay_head]
    | succ j =>
      have := kids_at r (n + a.size) j (p ++ lay a n) q (by rw [List.length_append, lay_len, hp]) (by simpa using h)
      simp only [kids, List.getD_cons_succ, List.getElem_cons_succ, layL, T.sizeL]
      refine ⟨by omega, ?_⟩
      rw [← this.2]
      congr 2
      simp [List.append_assoc]
mutual
theorem lay_good : ∀ (t : T) (n : Nat) (p q : List Nd), p.length = n → ∀ k, n ≤ k → k < n + t.size → GoodAt (p ++ lay t n ++ q) k
  | .mk f l, n, p, q, hp, k, h1, h2 => by
    rw [T.size] at h2
    have e : p ++ lay (.mk f l) n ++ q = (p ++ [⟨.mk f l, kids l (n + 1)⟩]) ++ layL l (n + 1) ++ q := by rw [lay]; simp [List.append_assoc]
    by_cases hk : k = n
    · subst hk
      have e1 : ndget (p ++ lay (.mk f l) k ++ q) k = ⟨.mk f l, kids l (k + 1)⟩ := by
        rw [List.append_assoc, show k = p.length + 0 by omega, ndget_append_right, lay]; rfl
      unfold GoodAt
      rw [e1]
      refine ⟨kids_len _ _, fun j hj => ?_⟩
      have hj' : j < l.length := hj
      have := kids_at l (k + 1) j (p ++ [⟨.mk f l, kids l (k + 1)⟩]) q (by simp [hp]) hj'
      rw [← e] at this
      refine ⟨?_, this.2⟩
      have hlen : (p ++ lay (.mk f l) k ++ q).length = p.length + (1 + T.sizeL l) + q.length := by simp [lay_len, T.size, Nat.add_assoc]
      have h3 := this.1
      show (kids l (k + 1)).getD j 0 < _
      rw [hlen]; omega
    · rw [e]
      exact layL_good l (n + 1) _ q (by simp [hp]) k (by omega) (by omega)
theorem layL_good : ∀ (l : List T) (n : Nat) (p q : List Nd), p.length = n → ∀ k, n ≤ k → k < n + T.sizeL l → GoodAt (p ++ layL l n ++ q) k
  | [], n, _, _, _, k, h1, h2 => by simp [T.sizeL] at h2; omega
  | a :: r, n, p, q, hp, k, h1, h2 => by
    rw [T.sizeL] at h2
    by_cases hk : k < n + a.size
    · have := lay_good a n p (layL r (n + a.size) ++ q) hp k h1 hk
      rw [layL]; simpa [List.append_assoc] using this
    · have := layL_good r (n + a.size) (p ++ lay a n) q (by rw [List.length_append, lay_len, hp]) k (by omega) (by omega)
      rw [layL]; simpa [List.append_assoc] using this
end
/-- A term laid out by itself. -/
theorem lay0_good (t : T) (k : Nat) (h : k < (lay t 0).length) : GoodAt (lay t 0) k := by
  have := lay_good t 0 [] [] rfl k (Nat.zero_le _) (by rw [lay_len] at h; omega)
  simpa using this
-- What the whole knows, each part knows.
mutual
theorem lay_known (o : Od) : ∀ (t : T) (n : Nat), o.lknows t = true → ∀ x ∈ lay t n, o.lknows x.t = true
  | .mk f l, n, h, x, hx => by
    rw [lay, List.mem_cons] at hx
    rcases hx with rfl | hx
    · exact h
    · refine layL_known o l (n + 1) ?_ x hx
      rw [Od.lknows] at h
      split at h
      · rw [List.isEmpty_iff] at h; subst h; rfl
      · simp only [Bool.and_eq_true] at h; exact h.2
theorem layL_known (o : Od) : ∀ (l : List T) (n : Nat), o.lknowsL l = true → ∀ x ∈ layL l n, o.lknows x.t = true
  | [], _, _, x, hx => by simp [layL] at hx
  | a :: r, n, h, x, hx => by
    rw [Od.lknowsL, Bool.and_eq_true] at h
    rw [layL, List.mem_append] at hx
    rcases hx with hx | hx
    · exact lay_known o a n h.1 x hx
    · exact layL_known o r _ h.2 x hx
end
theorem ndget_mem {l : List Nd} {k : Nat} (h : k < l.length) : ndget l k ∈ l := by
  have : ndget l k = l[k] := by simp [ndget, h]
  rw [this]; exact List.getElem_mem h
theorem lknows_arg {o : Od} {t a : T} (h : o.lknows t = true) (ha : a ∈ t.args) : o.lknows a = true ∧ 0 ≤ t.f ∧ t.f < o.prec.length := by
  obtain ⟨f, l⟩ := t
  rw [Od.lknows] at h
  split at h
  · rw [List.isEmpty_iff] at h; subst h; simp at ha
  · simp only [Bool.and_eq_true, decide_eq_true_eq] at h
    rw [Od.lknowsL_all, List.all_eq_true] at h
    exact ⟨h.2 a ha, by rename_i hf; simpa using hf, h.1⟩
theorem lknows_top {o : Od} {t : T} (h : o.lknows t = true) : t.f < o.prec.length ∧ (t.f < 0 → t.args = []) := by
  obtain ⟨f, l⟩ := t
  rw [Od.lknows] at h
  split at h
  · rename_i hf
    rw [List.isEmpty_iff] at h; subst h; exact ⟨by simp only [T.f_mk]; omega, fun _ => rfl⟩
  · rename_i hf
    simp only [Bool.and_eq_true, decide_eq_true_eq] at h
    exact ⟨h.1, fun h' => absurd h' hf⟩
end Go.Proofs.Ytmdpiafeiopimaa

/- 'box = append(box, x)' in a region that draws its order: the row of one, the append to a row of the call's own, the store into a box, everything else only reads. -/
namespace Go.Proofs.Ytmdpiafeiopimaa
open Go.RowKit Go
def valR (l : List (Bool × Value)) (i : Nat) (v : Value) : Prop := ((l.getD i (true, undef)).1 = true → v = (l.getD i (true, undef)).2) ∧ ((l.getD i (true, undef)).1 = false → v = undef)
theorem valVal {l : List (Bool × Value)} {i : Nat} {v x : Value} {β : Bool} (h : valR l i v) (e : l.getD i (true, undef) = (β, x)) (hβ : β = true) : v = x := by
 have := h.1 (by rw [e]; exact hβ)
 rw [e] at this
 exact this
theorem Chg.refl (S : Nat → Prop) (w : World) : Chg S w w := ⟨rfl, rfl, rfl, Nat.le_refl _, fun _ _ _ => rfl⟩
theorem Chg.trans {S : Nat → Prop} {a b c : World} (h : Chg S a b) (k : Chg S b c) : Chg S a c :=
 ⟨k.os.trans h.os, k.tape.trans h.tape, k.output.trans h.output, Nat.le_trans h.size k.size, fun i hi hS => (k.block i (Nat.lt_of_lt_of_le hi h.size) hS).trans (h.block i hi hS)⟩
theorem Chg.trans2 {S S2 : Nat → Prop} {a b c : World} (h : Chg S a b) (k : Chg S2 b c) (hS : ∀ i, i < a.heap.size → S2 i → S i) : Chg S a c :=
 ⟨k.os.trans h.os, k.tape.trans h.tape, k.output.trans h.output, Nat.le_trans h.size k.size, fun i hi hn => (k.block i (Nat.lt_of_lt_of_le hi h.size) (fun e => hn (hS i hi e))).trans (h.block i hi hn)⟩
theorem Chg.mono {S S' : Nat → Prop} {a b : World} (h : Chg S a b) (hS : ∀ k, S k → S' k) : Chg S' a b := ⟨h.os, h.tape, h.output, h.size, fun i hi hn => h.block i hi (fun e => hn (hS i e))⟩
theorem Chg.ofBelow {S : Nat → Prop} {a b : World} (h : Below a.heap.size a b) : Chg S a b := ⟨h.os, h.tape, h.output, h.size, fun i hi _ => h.block i hi⟩
theorem Chg.ofUpd {S : Nat → Prop} {g : Nat} {a b : World} (h : Upd g a b) (hS : S g) : Chg S a b := ⟨h.os, h.tape, h.output, Nat.le_of_eq h.size.symm, fun i _ hn => h.block i (fun e => hn (e ▸ hS))⟩
theorem chg_cell {S : Nat → Prop} {w w' : World} {b o : Nat} {v : Value} (k : Chg S w w') (hS : ¬ S b) (h : w.cell? ⟨b, o, none⟩ = some v) : w'.cell? ⟨b, o, none⟩ = some v := by
 have hb := World.block_lt_of_cell? _ _ h
 unfold World.cell? at h ⊢
 have e := k.block b hb hS
 dsimp only at h ⊢
 rw [e]; exact h
theorem chg_old {S : Nat → Prop} {w0 w w' : World} {p : Addr} {v : Value} (hb : Below w0.heap.size w0 w) (k : Chg S w w') (hS : ∀ b, b < w0.heap.size → ¬ S b) (h : w0.cell? p = some v) : w'.cell? p = some v :=
 bkeeps (chg_below hb k hS) _ _ h
section
variable {w0 w w' : World} {S : Nat → Prop} {e size n rc m g ty i : Nat} {ra : Option Addr} {xs : List Value} {cs : Array Value} {N : List Value → Prop} {vb vp vq : Option Value}
/-- What holds while the three are carried out. -/
structure GrowS (w0 : World) (S : Nat → Prop) (e size : Nat) (ra : Option Addr) (rc n : Nat) (xs : List Value) (g ty : Nat) (cs : Array Value) (i m : Nat) (news : List Value) (vb vp vq : Option Value) (w : World) : Prop where
 chg : Chg (fun b => S b ∨ b = g) w0 w
 q0 : vq = none → Chg S w0 w ∧ Blk w g ty cs
 p0 : vp = none → Own w S e size ra rc n xs ∧ vq = none
 b1 : vp = none → ∀ v, vb = some v → ∃ g1, v = .slice (some ⟨g1, 0, none⟩) m m ∧ Blk w g1 e news.toArray
 p1 : ∀ v, vp = some v → ∃ ra' rc', v = .slice ra' (n + m) rc' ∧ Own w S e size ra' rc' (n + m) (xs ++ news) ∧ (vq ≠ none → Blk w g ty (cs.setIfInBounds i v))
variable {news : List Value}
def GrowG (w0 : World) (S : Nat → Prop) (e size : Nat) (ra : Option Addr) (rc n : Nat) (xs : List Value) (g ty : Nat) (cs : Array Value) (i m : Nat) (news : List Value) : List (Option Value) → World → Prop
 | [vb, vp, vq], w => GrowS w0 S e size ra rc n xs g ty cs i m news vb vp vq w
 | _, _ => False
theorem GrowS.below (h : GrowS w0 S e size ra rc n xs g ty cs i m news vb vp vq w) (hb : Below w.heap.size w w') : GrowS w0 S e size ra rc n xs g ty cs i m news vb vp vq w' :=
 ⟨h.chg.trans (.ofBelow hb), fun e => ⟨(h.q0 e).1.trans (.ofBelow hb), (h.q0 e).2.below hb⟩, fun e => ⟨(h.p0 e).1.below hb, (h.p0 e).2⟩, fun e v hv => by
  obtain ⟨g1, h1, h2⟩ := h.b1 e v hv; exact ⟨g1, h1, h2.below hb⟩, fun v hv => by
  obtain ⟨ra', rc', h1, h2, h3⟩ := h.p1 v hv; exact ⟨ra', rc', h1, h2.below hb, fun e => (h3 e).below hb⟩⟩
theorem GrowG.below {vs : List (Option Value)} (h : GrowG w0 S e size ra rc n xs g ty cs i m news vs w) (hb : Below w.heap.size w w') : GrowG w0 S e size ra rc n xs g ty cs i m news vs w' := by
 match vs, h with
 | [vb, vp, vq], h => exact GrowS.below h hb
theorem GrowS.start (ho : Own w0 S e size ra rc n xs) (hB : Blk w0 g ty cs) (hb : Below w0.heap.size w0 w) : GrowS w0 S e size ra rc n xs g ty cs i m news none none none w :=
 ⟨.ofBelow hb, fun _ => ⟨.ofBelow hb, hB.below hb⟩, fun _ => ⟨ho.below hb, rfl⟩, fun _ v hv => (by cases hv), fun v hv => (by cases hv)⟩
theorem GrowS.row (h : GrowS w0 S e size ra rc n xs g ty cs i m news none none none w) : GrowS w0 S e size ra rc n xs g ty cs i m news (some (.slice (some ⟨w.heap.size, 0, none⟩) m m)) none none (w.alloc (.cells news.toArray e)) := by
 have h' := h.below (balloc w (.cells news.toArray e))
 exact ⟨h'.chg, h'.q0, h'.p0, fun _ v hv => ⟨_, (Option.some.inj hv).symm, Blk.new' rfl⟩, h'.p1⟩
theorem GrowS.app {ra' : Option Addr} {rc' : Nat} {x : Value} (h : GrowS w0 S e size ra rc n xs g ty cs i m news (some x) none none w) (ho : Own w' S e size ra' rc' (n + m) (xs ++ news)) (hc : Chg S w w') (hg : ¬ S g) : GrowS w0 S e size ra rc n xs g ty cs i m news (some x) (some (.slice ra' (n + m) rc')) none w' := by
 refine ⟨h.chg.trans (hc.mono fun _ h => .inl h), fun _ => ⟨(h.q0 rfl).1.trans hc, chg_blk (h.q0 rfl).2 hc hg⟩, (fun e => by cases e), (fun e => by cases e), fun v hv => ⟨ra', rc', (Option.some.inj hv).symm, ho, fun e => absurd rfl e⟩⟩
theorem GrowS.store {x y q : Value} (h : GrowS w0 S e size ra rc n xs g ty cs i m news (some x) (some y) none w) (hu : Upd g w w') (hB : Blk w' g ty (cs.setIfInBounds i y)) (hg : ¬ S g) : GrowS w0 S e size ra rc n xs g ty cs i m news (some x) (some y) (some q) w' := by
 refine ⟨h.chg.trans (.ofUpd hu (.inr rfl)), (fun e => by cases e), (fun e => by cases e), (fun e => by cases e), fun v hv => ?_⟩
 obtain ⟨ra', rc', h1, h2, _⟩ := h.p1 v hv
 obtain rfl := Option.some.inj hv
 exact ⟨ra', rc', h1, h2.upd hu hg, fun _ => hB⟩
end
section
variable {P : Program} {ops : Array Oper}
/-- What an operation that only reads finds. -/
structure CtxR (ops : Array Oper) (l : List (Bool × Value)) (chain : List Nat) (n : Fr) (K : Known) (w0 : World) (S : Nat → Prop) (g ty : Nat) (cs : Array Value) (o : Oper) (a : Act) (w : World) : Prop where
 chg : Chg S w0 w
 blk : Blk w g ty cs
 kn : Kn n K a
 dep : ∀ j d, depB ops o j d = true → chain.contains j = false → valR l j (a.tmps.getD d undef)
def SoundR (P : Program) (ops : Array Oper) (Q : Exit → Act → World → Prop) (l : List (Bool × Value)) (n : Fr) (K : Known) (w0 : World) (S : Nat → Prop) (e size : Nat) (ra : Option Addr) (rc ln : Nat) (xs : List Value) (g ty : Nat) (cs : Array Value) (ix m : Nat) (news : List Value) (ib ip iq : Nat) : Nat → List Oper → Prop
 | _, [] => True
 | i, o :: r => ((∃ β, [ib, ip, iq].contains i = false ∧ afterB ops iq i = true ∧ GuardIs (fun i v _ => valR l i v) o β ∧ (∀ gg b, o.guard = some (gg, b) → [ib, ip, iq].contains gg = false) ∧ (β = false → valR l i undef) ∧
   (β = true → ∀ a w, CtxR ops l [ib, ip, iq] n K w0 S g ty cs o a w → o.wp P a w (fun a' w' => ∃ v, a' = Act.put a o.dst v ∧ w' = w ∧ valR l i v) Q)) ∨
  (i = ib ∧ o.guard = none ∧ afterB ops ip ib = true ∧ afterB ops iq ib = true ∧ ∀ a w, CtxR ops l [ib, ip, iq] n K w0 S g ty cs o a w →
   (o.wp P a w (fun a' w' => a' = Act.put a o.dst (.slice (some ⟨w.heap.size, 0, none⟩) m m) ∧ w' = w.alloc (.cells news.toArray e)) Q)) ∨
  (i = ip ∧ o.guard = none ∧ afterB ops iq ip = true ∧ (∃ db, depB ops o ib db = true ∧ ∀ a w g1, CtxR ops l [ib, ip, iq] n K w0 S g ty cs o a w → Own w S e size ra rc ln xs → a.tmps.getD db undef = .slice (some ⟨g1, 0, none⟩) m m → Blk w g1 e news.toArray →
   (o.wp P a w (fun a' w' => ∃ ra' rc', a' = Act.put a o.dst (.slice ra' (ln + m) rc') ∧ Own w' S e size ra' rc' (ln + m) (xs ++ news) ∧ Chg S w w') Q))) ∨
  (i = iq ∧ o.guard = none ∧ (∃ dp, depB ops o ip dp = true ∧ (o.after.any (fun e => e.on == ib && Region.binds .any e)) = true ∧ ∀ a w ra' rc', CtxR ops l [ib, ip, iq] n K w0 S g ty cs o a w → a.tmps.getD dp undef = .slice ra' (ln + m) rc' →
   (o.wp P a w (fun a' w' => ∃ v, a' = Act.put a o.dst v ∧ Upd g w w' ∧ Blk w' g ty (cs.setIfInBounds ix (.slice ra' (ln + m) rc'))) Q)))) ∧ SoundR P ops Q l n K w0 S e size ra rc ln xs g ty cs ix m news ib ip iq (i + 1) r
theorem SoundR.gen {Q : Exit → Act → World → Prop} {l : List (Bool × Value)} {n : Fr} {K : Known} {w0 : World} {S : Nat → Prop} {e size : Nat} {ra : Option Addr} {rc ln : Nat} {xs : List Value} {g ty : Nat} {cs : Array Value} {ix m : Nat} {news : List Value} {ib ip iq : Nat} (hd : [ib, ip, iq].Nodup) (hS : ¬ S g) : ∀ {lo : List Oper} {i : Nat}, SoundR P ops Q l n K w0 S e size ra rc ln xs g ty cs ix m news ib ip iq i lo →
  SoundFromG P ops Q [ib, ip, iq] (fun i v _ => valR l i v) (fun _ _ => True) (GrowG w0 S e size ra rc ln xs g ty cs ix m news) n K i lo
 | [], _, _ => trivial
 | o :: r, i, ⟨h, hr⟩ => by
  refine ⟨?_, hr.gen hd hS⟩
  have mk : ∀ {a : Act} {w : World} {vs : List (Option Value)} (_ : CtxG ops [ib, ip, iq] (fun i v _ => valR l i v) (GrowG w0 S e size ra rc ln xs g ty cs ix m news) n K i o a w vs), vs[2]? = some none → CtxR ops l [ib, ip, iq] n K w0 S g ty cs o a w := by
   intro a w vs C h2
   match vs, C.len with
   | [vb, vp, vq], _ =>
    have hq : vq = none := by simpa using h2
    have := C.now.q0 hq
    exact ⟨this.1, this.2, C.kn, C.dep⟩
  rcases h with ⟨β, h1, h2, h3, h4, h5, h6⟩ | ⟨rfl, h1, h2, h2', h3⟩ | ⟨rfl, h1, h2, db, h3, h4⟩ | ⟨rfl, h1, dp, h2, h3, h4⟩
  ·refine .inl ⟨h1, β, h3, h4, fun e w => h5 e, fun hβ a w vs C => ?_⟩
   refine Oper.wpIn_mono ?_ (wpIn_of (h6 hβ a w (mk C (C.most 2 iq rfl h2))) (by rintro a' w' h; first | (obtain ⟨v, rfl, _⟩ := h; exact put_defers _ _ _) | (obtain ⟨_, _, rfl, _⟩ := h; exact put_defers _ _ _) | (obtain ⟨rfl, _⟩ := h; exact put_defers _ _ _)))
   rintro a' w' ⟨v, rfl, rfl, hv⟩
   exact ⟨v, rfl, trivial, C.now, hv⟩
  ·refine .inr ⟨0, rfl, h1, fun a w vs C hn => ?_⟩
   have e1 := C.most 1 ip rfl h2
   have e2 := C.most 2 iq rfl h2'
   refine Oper.wpIn_mono ?_ (wpIn_of (h3 a w (mk C e2)) (by rintro a' w' h; first | (obtain ⟨v, rfl, _⟩ := h; exact put_defers _ _ _) | (obtain ⟨_, _, rfl, _⟩ := h; exact put_defers _ _ _) | (obtain ⟨rfl, _⟩ := h; exact put_defers _ _ _)))
   rintro a' w' ⟨rfl, rfl⟩
   match vs, C.len, hn, e1, e2, C.now with
   | [vb, vp, vq], _, hn, e1, e2, hG =>
    simp only [List.getElem?_cons_zero, List.getElem?_cons_succ, Option.some.injEq] at hn e1 e2
    subst hn e1 e2
    exact ⟨_, rfl, trivial, GrowS.row hG⟩
  ·refine .inr ⟨1, rfl, h1, fun a w vs C hn => ?_⟩
   have e2 := C.most 2 iq rfl h2
   have e0 := C.link 0 ib db rfl h3
   match vs, C.len, hn, e0, e2, C.now, C with
   | [vb, vp, vq], _, hn, e0, e2, hG, C =>
    have e2' := e2
    simp only [List.getElem?_cons_zero, List.getElem?_cons_succ, Option.some.injEq] at hn e0 e2'
    subst hn e0 e2'
    obtain ⟨g1, h5, h6⟩ := hG.b1 rfl _ rfl
    refine Oper.wpIn_mono ?_ (wpIn_of (h4 a w g1 (mk C e2) (hG.p0 rfl).1 h5 h6) (by rintro a' w' h; first | (obtain ⟨v, rfl, _⟩ := h; exact put_defers _ _ _) | (obtain ⟨_, _, rfl, _⟩ := h; exact put_defers _ _ _) | (obtain ⟨rfl, _⟩ := h; exact put_defers _ _ _)))
    rintro a' w' ⟨ra', rc', rfl, h7, h8⟩
    exact ⟨_, rfl, trivial, GrowS.app hG h7 h8 hS⟩
  ·refine .inr ⟨2, rfl, h1, fun a w vs C hn => ?_⟩
   have e1 := C.link 1 ip dp rfl h2
   obtain ⟨vb', e0⟩ := C.done 0 ib rfl h3
   match vs, C.len, hn, e0, e1, C.now, C with
   | [vb, vp, vq], _, hn, e0, e1, hG, C =>
    have hn' := hn
    simp only [List.getElem?_cons_zero, List.getElem?_cons_succ, Option.some.injEq] at hn' e0 e1
    subst hn' e0 e1
    obtain ⟨ra', rc', h5, _⟩ := hG.p1 _ rfl
    refine Oper.wpIn_mono ?_ (wpIn_of (h4 a w ra' rc' (mk C hn) h5) (by rintro a' w' h; first | (obtain ⟨v, rfl, _⟩ := h; exact put_defers _ _ _) | (obtain ⟨_, _, rfl, _⟩ := h; exact put_defers _ _ _) | (obtain ⟨rfl, _⟩ := h; exact put_defers _ _ _)))
    rintro a' w' ⟨v, rfl, h7, h8⟩
    rw [← h5] at h8
    exact ⟨v, rfl, trivial, GrowS.store hG h7 h8 hS⟩
theorem WC.grow {id : Nat} {dr : Bool} {Q : Exit → Act → World → Prop} {n : Fr} {K : Known} {w : World} (l : List (Bool × Value)) (K0 : Known) {S : Nat → Prop} {e size : Nat} {ra : Option Addr} {rc ln : Nat} {xs : List Value} {g ty : Nat} {cs : Array Value} (ix m : Nat) (news : List Value) (ib ip iq : Nat)
  (hd : ([ib, ip, iq]).Nodup) (hin : (([ib, ip, iq]).all fun c => Nat.blt c ops.size) = true) (hS : ¬ S g) (ho : Own w S e size ra rc ln xs) (hBk : Blk w g ty cs)
  (hs : subK K0 K) (hclear : clearB ops K0 = true) (hm : P.follows .mixedOrders = true) (hB : opsB ops n.n = true)
  (h : SoundR P ops Q l n K0 w S e size ra rc ln xs g ty cs ix m news ib ip iq 0 ops.toList)
  (hQ : ∀ (a : Act) (w' : World) (ra' : Option Addr) (rc' : Nat), Kn n K0 a → Chg (fun b => S b ∨ b = g) w w' → Own w' S e size ra' rc' (ln + m) (xs ++ news) → Blk w' g ty (cs.setIfInBounds ix (.slice ra' (ln + m) rc')) → (∀ i d, (ops[i]?).bind (·.dst) = some d → ([ib, ip, iq]).contains i = false → valR l i (a.tmps.getD d undef)) → Q .normal a w') :
  WC P n K w (.region id ops dr) Q := by
 refine WC.gen [ib, ip, iq] (fun i v _ => valR l i v) (fun _ _ => True) (GrowG w S e size ra rc ln xs g ty cs ix m news) K0 hs hclear hm hB hd hin (fun _ _ _ _ h _ => h) ?_ (h.gen hd hS) (fun a w' vs hk hlen hall hG hu _ => ?_)
 ·cases dr with
  | true => exact GrowS.start ho hBk (Below.refl _ _).drew
  | false => exact GrowS.start ho hBk (Below.refl _ _)
 ·obtain ⟨v1, hv1⟩ := hall 1 (by simp)
  obtain ⟨v2, hv2⟩ := hall 2 (by simp)
  match vs, hlen, hv1, hv2, hG with
  | [vb, vp, vq], _, hv1, hv2, hG =>
   simp only [List.getElem?_cons_zero, List.getElem?_cons_succ, Option.some.injEq] at hv1 hv2
   subst hv1 hv2
   obtain ⟨ra', rc', rfl, h2, h3⟩ := hG.p1 _ rfl
   exact hQ a w' ra' rc' hk hG.chg h2 (h3 (by simp)) hu
end
end Go.Proofs.Ytmdpiafeiopimaa

namespace Go.Proofs.Ytmdpiafeiopimaa
open Go.RowKit Go
def natV (n : Nat) : Value := .int .i64 n
/-- The numbers lie at X, in a block that N holds of. -/
def ArgRow (w : World) (N : Nat → Prop) (X : Option Addr) (args : List Nat) : Prop :=
  args = [] ∨ ∃ g, X = some ⟨g, 0, none⟩ ∧ N g ∧ g < w.heap.size ∧ ∀ j, j < args.length → w.cell? ⟨g, j, none⟩ = some (natV (args.getD j 0))
/-- The cells are those of the parts. -/
def NdsAt (w0 w : World) (N : Nat → Prop) : List Nd → List Value → Prop
  | [], xs => xs = []
  | d :: r, xs => ∃ (A : Option Addr) (C : Nat) (X : Option Addr) (Z : Nat) (ys : List Value), xs = .int .i64 d.t.f :: .slice A d.t.args.length C :: .slice X d.args.length Z :: ys ∧
      IsT w0 d.t (.agg #[.int .i64 d.t.f, .slice A d.t.args.length C]) ∧ ArgRow w N X d.args ∧ NdsAt w0 w N r ys
section
variable {w0 w w' : World} {N N' S : Nat → Prop}
theorem ArgRow.keep {X : Option Addr} {args : List Nat} (h : ArgRow w N X args) (hc : Chg S w w') (hN : ∀ g, g < w.heap.size → N g → ¬ S g ∧ N' g) : ArgRow w' N' X args := by
  rcases h with h | ⟨g, h1, h2, h3, h4⟩
  · exact .inl h
  · have := hN g h3 h2
    exact .inr ⟨g, h1, this.2, Nat.lt_of_lt_of_le h3 hc.size, fun j hj => chg_cell hc this.1 (h4 j hj)⟩
theorem NdsAt.keep : ∀ {l : List Nd} {xs : List Value}, NdsAt w0 w N l xs → Chg S w w' → (∀ g, g < w.heap.size → N g → ¬ S g ∧ N' g) → NdsAt w0 w' N' l xs
  | [], _, h, _, _ => h
  | _ :: _, _, ⟨A, C, X, Z, ys, h1, h2, h3, h4⟩, hc, hN => ⟨A, C, X, Z, ys, h1, h2, h3.keep hc hN, NdsAt.keep h4 hc hN⟩
theorem NdsAt.append : ∀ {l r : List Nd} {xs ys : List Value}, NdsAt w0 w N l xs → NdsAt w0 w N r ys → NdsAt w0 w N (l ++ r) (xs ++ ys)
  | [], _, _, _, h, k => by
    have h : _ = [] := h
    subst h; exact k
  | _ :: _, _, _, _, ⟨A, C, X, Z, zs, h1, h2, h3, h4⟩, k => ⟨A, C, X, Z, zs ++ _, by rw [h1]; rfl, h2, h3, NdsAt.append h4 k⟩
theorem NdsAt.len : ∀ {l : List Nd} {xs : List Value}, NdsAt w0 w N l xs → xs.length = l.length * 3
  | [], _, h => by have h : _ = [] := h; subst h; rfl
  | _ :: r, _, ⟨_, _, _, _, ys, h1, _, _, h4⟩ => by rw [h1]; have := NdsAt.len h4; simp only [List.length_cons]; omega
theorem NdsAt.at_ : ∀ {l : List Nd} {xs : List Value}, NdsAt w0 w N l xs → ∀ k, k < l.length →
    ∃ (A : Option Addr) (C : Nat) (X : Option Addr) (Z : Nat), xs[k * 3]? = some (.int .i64 (ndget l k).t.f) ∧ xs[k * 3 + 1]? = some (.slice A (ndget l k).t.args.length C) ∧ xs[k * 3 + 2]? = some (.slice X (ndget l k).args.length Z) ∧
      IsT w0 (ndget l k).t (.agg #[.int .i64 (ndget l k).t.f, .slice A (ndget l k).t.args.length C]) ∧ ArgRow w N X (ndget l k).args
  | [], _, _, k, hk => by simp at hk
  | d :: r, _, ⟨A, C, X, Z, ys, h1, h2, h3, h4⟩, k, hk => by
    cases k with
    | zero => exact ⟨A, C, X, Z, by rw [h1]; rfl, by rw [h1]; rfl, by rw [h1]; rfl, h2, h3⟩
    | succ k =>
      obtain ⟨A', C', X', Z', e1, e2, e3, e4, e5⟩ := NdsAt.at_ h4 k (by simpa using hk)
      have e : ndget (d :: r) (k + 1) = ndget r k := by simp [ndget]
      rw [e]
      refine ⟨A', C', X', Z', ?_, ?_, ?_, e4, e5⟩
      · rw [h1, show (k + 1) * 3 = k * 3 + 3 by omega]; exact e1
      · rw [h1, show (k + 1) * 3 + 1 = k * 3 + 1 + 3 by omega]; exact e2
      · rw [h1, show (k + 1) * 3 + 2 = k * 3 + 2 + 3 by omega]; exact e3
variable {e size : Nat} {ra : Option Addr} {rc n b c : Nat} {xs : List Value}
/-- A row that is not empty lies in one block. -/
theorem own_pick (h : Own w S e size ra rc n xs) (hn : 0 < n) : ∃ b, S b ∧ ra = some ⟨b, 0, none⟩ ∧ b < w.heap.size ∧ Own w (fun k => k = b) e size (some ⟨b, 0, none⟩) rc n xs := by
  rcases h.1.2 with ⟨_, h0⟩ | ⟨g, cap, cur, e1, h1, hb, r⟩
  · omega
  · simp only [Value.slice.injEq, true_and] at e1
    obtain ⟨rfl, rfl⟩ := e1
    exact ⟨g, h.2 g rfl, rfl, (Array.getElem?_eq_some_iff.1 hb).1, h.1, fun k hk => (Option.some.inj hk).symm⟩
theorem own_cell (h : Own w S e size (some ⟨b, 0, none⟩) rc n xs) {i : Nat} {v : Value} (hi : xs[i]? = some v) : w.cell? ⟨b, i, none⟩ = some v := by
  have := h.1.cells (g := b) rfl i v hi
  rwa [add_plain2, Nat.zero_add] at this
/-- A cell of such a row, written. -/
theorem own_set (h : Own w S e size (some ⟨b, 0, none⟩) rc n xs) (i : Nat) (v : Value) : Own (w.setCell ⟨b, i, none⟩ v) S e size (some ⟨b, 0, none⟩) rc n (xs.set i v) := by
  refine ⟨⟨by rw [List.length_set]; exact h.1.1, ?_⟩, h.2⟩
  rcases h.1.2 with ⟨e1, _⟩ | ⟨g, cap, cur, e1, h1, hb, h2, h3, h4, h5⟩
  · cases e1
  · simp only [Value.slice.injEq, Option.some.injEq, Addr.mk.injEq, and_true, true_and] at e1
    obtain ⟨rfl, rfl⟩ := e1
    have hg := (Array.getElem?_eq_some_iff.1 hb).1
    refine .inr ⟨b, rc, cur.setIfInBounds i v, rfl, h1, ?_, h2, h3, by simpa using h4, ?_⟩
    · have hB : Blk w b e cur := hb
      exact hB.set_ i v
    · rw [← h5, Array.toList_setIfInBounds, List.take_set]
theorem own_mono (h : Own w S e size ra rc n xs) (hS : ∀ b, S b → N b) : Own w N e size ra rc n xs := ⟨h.1, fun b hb => hS b (h.2 b hb)⟩
theorem own_len (h : Own w S e size ra rc n xs) : xs.length = n * size := h.1.1
theorem own_upd (_ : Own w S e size (some ⟨b, 0, none⟩) rc n xs) (i : Nat) (v : Value) : Upd b w (w.setCell ⟨b, i, none⟩ v) := Upd.at_ _ _ _ _
end
/-- The state in the middle of a part: q of its arguments are laid out, m of them are numbered. -/
structure LaySt (E : TypeId) (w0 : World) (sz : Nat) (n : Nat) (xs : List Value) (f : Int) (a : Option Addr) (c : Nat) (l : List T) (bm rc : Nat) (xa : Option Addr) (xz ba la : Nat) (ys : List Value) (q m : Nat) (w : World) : Prop where
  main : Own w (fun g => g = bm) E 3 (some ⟨bm, 0, none⟩) rc (n + 1 + T.sizeL (l.take q)) (xs ++ [.int .i64 f, .slice a l.length c, .slice xa m xz] ++ ys)
  args : Own w (fun g => g = ba ∧ g < la) 3 1 xa xz m ((kids (l.take m) (n + 1)).map natV)
  nds : NdsAt w0 w (fun g => g ≠ bm ∧ ¬ (g = ba ∧ g < la) ∧ sz ≤ g) (layL (l.take q) (n + 1)) ys
  ne : ¬ (bm = ba ∧ bm < la)
  lt : bm < w.heap.size
  hla : la ≤ w.heap.size
  hba : ba < la → sz ≤ ba
/-- What laying out a term leaves. -/
def LayP (E : TypeId) (w0 w : World) (bm lo n : Nat) (xs : List Value) (t : T) (v' : Value) (w' : World) : Prop :=
  ∃ (bm' rc' : Nat) (ys : List Value), v' = .slice (some ⟨bm', 0, none⟩) (n + t.size) rc' ∧ Own w' (fun g => g = bm') E 3 (some ⟨bm', 0, none⟩) rc' (n + t.size) (xs ++ ys) ∧ NdsAt w0 w' (fun g => g ≠ bm' ∧ w.heap.size ≤ g) (lay t n) ys ∧ bm' < w'.heap.size ∧
    Chg (fun k => k = bm ∧ k < lo) w w' ∧ ((bm' = bm ∧ bm' < lo) ∨ w.heap.size ≤ bm')
theorem lay_cell {xs ys : List Value} {u v z : Value} {n : Nat} (hx : xs.length = n * 3) : (xs ++ [u, v, z] ++ ys)[0 + n * 3 + 2]? = some z := by
  rw [List.append_assoc, List.getElem?_append_right (by omega), show 0 + n * 3 + 2 - xs.length = 2 by omega]; rfl
theorem lay_set {xs ys : List Value} {u v z z' : Value} {n : Nat} (hx : xs.length = n * 3) : (xs ++ [u, v, z] ++ ys).set (0 + n * 3 + 2) z' = xs ++ [u, v, z'] ++ ys := by
  rw [List.append_assoc, List.append_assoc, List.set_append_right _ _ (by omega), show 0 + n * 3 + 2 - xs.length = 2 by omega]; rfl
theorem sizeL_take_t {l : List T} {k : Nat} (h : k < l.length) : T.sizeL (l.take (k + 1)) = T.sizeL (l.take k) + (tget l k).size := by rw [T.sizeL_take_succ l k h, tget_lt h]
theorem layL_take {l : List T} {k n : Nat} (h : k < l.length) : layL (l.take (k + 1)) n = layL (l.take k) n ++ lay (tget l k) (n + T.sizeL (l.take k)) := by
  rw [List.take_succ_eq_append_getElem h, layL_append, tget_lt h]; simp [layL]
theorem kids_take {l : List T} {k n : Nat} (h : k < l.length) : kids (l.take (k + 1)) n = kids (l.take k) n ++ [n + T.sizeL (l.take k)] := by
  rw [List.take_succ_eq_append_getElem h, kids_append]; simp [kids]
section
variable {E : TypeId} {w0 w w' w'' : World} {sz n : Nat} {xs : List Value} {f : Int} {a : Option Addr} {c : Nat} {l : List T} {bm rc : Nat} {xa : Option Addr} {xz ba la : Nat} {ys : List Value} {q m : Nat}
theorem LaySt.below (h : LaySt E w0 sz n xs f a c l bm rc xa xz ba la ys q m w) (hb : Below w.heap.size w w') : LaySt E w0 sz n xs f a c l bm rc xa xz ba la ys q m w' :=
  ⟨h.main.below hb, h.args.below hb, h.nds.keep (S := fun _ => False) (.ofBelow hb) (fun _ _ h => ⟨id, h⟩), h.ne, Nat.lt_of_lt_of_le h.lt hb.size, Nat.le_trans h.hla hb.size, h.hba⟩
/-- The first part is laid. -/
theorem LaySt.start (h : Own w (fun g => g = bm) E 3 (some ⟨bm, 0, none⟩) rc (n + 1) (xs ++ [.int .i64 f, .slice a l.length c, .slice none 0 0])) (hlt : bm < w.heap.size) : LaySt E w0 sz n xs f a c l bm rc none 0 0 0 [] 0 0 w :=
  ⟨by simpa [T.sizeL] using h, own_nil, rfl, by omega, hlt, Nat.zero_le _, fun h => by omega⟩
/-- One more argument is numbered. -/
theorem LaySt.app {ba' rc' v : Nat} (h : LaySt E w0 sz n xs f a c l bm rc xa xz ba la ys q m w) (hx : xs.length = n * 3) (hc : Chg (fun g => (g = ba ∧ g < la) ∨ g = w.heap.size) w w') (hsz : sz ≤ w.heap.size)
    (hA : Own w' (fun g => g = ba') 3 1 (some ⟨ba', 0, none⟩) rc' (m + 1) ((kids (l.take m) (n + 1)).map natV ++ [natV v])) (hS : (ba' = ba ∧ ba' < la) ∨ ba' = w.heap.size) (hb : ba' < w'.heap.size) (hv : v = n + 1 + T.sizeL (l.take m)) (hm : m < l.length)
    (hw : w'' = w'.setCell ⟨bm, 0 + n * 3 + 2, none⟩ (.slice (some ⟨ba', 0, none⟩) (m + 1) rc')) :
    LaySt E w0 sz n xs f a c l bm rc (some ⟨ba', 0, none⟩) rc' ba' (ba' + 1) ys q (m + 1) w'' := by
  subst hw
  have hlt := h.lt
  have hne := h.ne
  have hla := h.hla
  have hba := h.hba
  have hM := h.main.chg hc (fun b hb => by omega)
  have hM' := own_set hM (0 + n * 3 + 2) (.slice (some ⟨ba', 0, none⟩) (m + 1) rc')
  rw [lay_set hx] at hM'
  have hu := own_upd hM (0 + n * 3 + 2) (.slice (some ⟨ba', 0, none⟩) (m + 1) rc')
  have hN := h.nds.keep hc (N' := fun g => g ≠ bm ∧ ¬ (g = ba' ∧ g < ba' + 1) ∧ sz ≤ g) (fun g hg hn => ⟨by omega, by omega⟩)
  refine ⟨hM', ?_, hN.keep (S := fun g => g = bm) (.ofUpd hu rfl) (fun g _ hn => ⟨hn.1, hn⟩), by omega, by rw [hu.size]; exact Nat.lt_of_lt_of_le hlt hc.size, by rw [hu.size]; omega, fun _ => by omega⟩
  rw [kids_take hm, List.map_append, List.map_cons, List.map_nil, ← hv]
  exact own_mono (hA.upd hu (by omega)) (fun b hb => ⟨hb, by omega⟩)
/-- One more argument is laid out. -/
theorem LaySt.call {v' : Value} (h : LaySt E w0 sz n xs f a c l bm rc xa xz ba la ys q m w) (hsz : sz ≤ w.heap.size) (hq : q < l.length) (hP : LayP E w0 w bm (bm + 1) (n + 1 + T.sizeL (l.take q)) (xs ++ [.int .i64 f, .slice a l.length c, .slice xa m xz] ++ ys) (tget l q) v' w') :
    ∃ (bm' rc' : Nat) (ys' : List Value), v' = .slice (some ⟨bm', 0, none⟩) (n + 1 + T.sizeL (l.take (q + 1))) rc' ∧ LaySt E w0 sz n xs f a c l bm' rc' xa xz ba la ys' (q + 1) m w' ∧ Chg (fun g => g = bm) w w' ∧ (bm' = bm ∨ w.heap.size ≤ bm') := by
  obtain ⟨bm', rc', ys', rfl, h1, h2, h3, h4, h5⟩ := hP
  have hlt := h.lt
  have hne := h.ne
  have hla := h.hla
  have hba := h.hba
  have e : n + 1 + T.sizeL (l.take q) + (tget l q).size = n + 1 + T.sizeL (l.take (q + 1)) := by rw [sizeL_take_t hq, Nat.add_assoc]
  rw [e] at h1 ⊢
  refine ⟨bm', rc', ys ++ ys', rfl, ⟨by rw [← List.append_assoc]; exact h1, h.args.chg h4 (fun b hb => by omega), ?_, by omega, h3, Nat.le_trans hla h4.size, hba⟩, h4.mono (fun k hk => hk.1), by omega⟩
  rw [layL_take hq]
  refine NdsAt.append (h.nds.keep h4 (fun g hg hn => ⟨by omega, by omega⟩)) (h2.keep (S := fun _ => False) (.refl _ _) (fun g hg hn => ⟨id, ?_⟩))
  have hn1 : g ≠ bm' := hn.1
  have hn2 : w.heap.size ≤ g := hn.2
  exact ⟨hn1, by omega, by omega⟩
/-- All is laid out. -/
theorem LaySt.done {lo bm0 : Nat} (h : LaySt E w0 w.heap.size n xs f a c l bm rc xa xz ba la ys q m w') (hT : IsT w0 (.mk f l) (.agg #[.int .i64 f, .slice a l.length c])) (hq : l.length ≤ q) (hm : m = l.length) (hC : Chg (fun k => k = bm0 ∧ k < lo) w w') (hb : (bm = bm0 ∧ bm < lo) ∨ w.heap.size ≤ bm) :
    LayP E w0 w bm0 lo n xs (.mk f l) (.slice (some ⟨bm, 0, none⟩) (n + 1 + T.sizeL (l.take q)) rc) w' := by
  have hM := h.main
  have hN := h.nds
  have hA := h.args
  have hne := h.ne
  have hba := h.hba
  rw [List.take_of_length_le (by omega)] at hM hN hA ⊢
  have e : n + 1 + T.sizeL l = n + (T.mk f l).size := by rw [T.size]; omega
  rw [e] at hM ⊢
  subst hm
  refine ⟨bm, rc, [.int .i64 f, .slice a l.length c, .slice xa l.length xz] ++ ys, rfl, by rw [← List.append_assoc]; exact hM, ?_, h.lt, hC, hb⟩
  rw [lay]
  refine ⟨a, c, xa, xz, ys, by rw [kids_len]; rfl, hT, ?_, hN.keep (S := fun _ => False) (.refl _ _) (fun g _ hn => ⟨id, hn.1, hn.2.2⟩)⟩
  rcases Nat.eq_zero_or_pos l.length with h0 | h0
  · obtain rfl : l = [] := List.length_eq_zero_iff.1 h0
    exact .inl rfl
  · obtain ⟨b, hb1, hb2, hb3, hb4⟩ := own_pick hA h0
    refine .inr ⟨b, hb2, ⟨by omega, by omega⟩, hb3, fun j hj => own_cell hb4 ?_⟩
    have hj : j < (kids l (n + 1)).length := hj
    simp [List.getD_eq_getElem?_getD, List.getElem?_eq_getElem hj]
end
/-- The addresses in the middle of a part. -/
structure LayX where
  bm : Nat
  rc : Nat
  xa : Option Addr
  xz : Nat
  ba : Nat
  la : Nat
  ys : List Value
  k : Nat
end Go.Proofs.Ytmdpiafeiopimaa
