/- A room of waiting clauses, plain: who waits, what the heaps hold, who comes next. -/
import Derived.Test.YtjhkoiggeepajaaHeapP
import Derived.Test.YtjhkoiggeepajaaWghP
namespace Go.Proofs.Ytjhkoiggeepajaa
open Go.RowKit Go
set_option linter.unusedVariables false
set_option linter.unusedSimpArgs false

/-- A queue. -/
structure Qu where
  by_ : Int
  take : Int
deriving DecidableEq
instance : Inhabited Qu := ⟨⟨0, 0⟩⟩
def qget (q : List Qu) (k : Nat) : Qu := q.getD k default
theorem qget_lt {q : List Qu} {k : Nat} (h : k < q.length) : qget q k = q[k] := by simp [qget, h]
/-- One that waits. -/
structure Wt where
  id : Int
  tm : Nat
  l : List Li
  goal : Bool
instance : Inhabited Wt := ⟨⟨0, 0, [], false⟩⟩
def tmOf : List Wt → Int → Nat
  | [], _ => 0
  | x :: r, n => if n = x.id then x.tm else tmOf r n
def dropW (ws : List Wt) (n : Int) : List Wt := ws.filter (fun x => decide (x.id ≠ n))
def itemOf (b : Int) (x : Wt) : It := ⟨((weighP b x.l x.goal).1 : Int), ((weighP b x.l x.goal).2 : Int), x.id, (x.tm : Int)⟩
theorem tmOf_none {n : Int} : ∀ {ws : List Wt}, (∀ x ∈ ws, x.id ≠ n) → tmOf ws n = 0
  | [], _ => rfl
  | x :: r, h => by
    rw [tmOf, if_neg (fun e => h x (by simp) e.symm)]
    exact tmOf_none (fun y hy => h y (by simp [hy]))
theorem tmOf_mem {n : Int} : ∀ {ws : List Wt}, tmOf ws n ≠ 0 → ∃ x ∈ ws, x.id = n ∧ x.tm = tmOf ws n
  | [], h => absurd rfl h
  | x :: r, h => by
    rw [tmOf] at h ⊢
    by_cases e : n = x.id
    · rw [if_pos e]; exact ⟨x, by simp, e.symm, rfl⟩
    · rw [if_neg e] at h ⊢
      obtain ⟨y, hy, h1, h2⟩ := tmOf_mem h
      exact ⟨y, by simp [hy], h1, h2⟩
theorem tmOf_of {x : Wt} : ∀ {ws : List Wt}, (ws.map (·.id)).Nodup → x ∈ ws → tmOf ws x.id = x.tm
  | [], _, h => absurd h (by simp)
  | y :: r, hn, h => by
    rw [List.map_cons, List.nodup_cons] at hn
    rw [tmOf]
    rcases List.mem_cons.1 h with rfl | h
    · rw [if_pos rfl]
    · rw [if_neg (fun e => hn.1 (List.mem_map.2 ⟨x, h, e⟩))]; exact tmOf_of hn.2 h
/-- Those who wait: each with a number and a time of its own. -/
structure WsOk (ws : List Wt) (times : Nat) : Prop where
  nd : (ws.map (·.id)).Nodup
  pos : ∀ x ∈ ws, 0 ≤ x.id ∧ 1 ≤ x.tm ∧ x.tm ≤ times
theorem WsOk.nil : WsOk [] 0 := ⟨by simp, fun x h => by simp at h⟩
theorem WsOk.none {ws : List Wt} {times : Nat} (h : WsOk ws times) {n : Int} (h0 : tmOf ws n = 0) : ∀ x ∈ ws, x.id ≠ n := fun x hx e => by
  have := tmOf_of h.nd hx
  have := (h.pos x hx).2.1
  rw [e] at *; omega
theorem WsOk.add {ws : List Wt} {times : Nat} (h : WsOk ws times) {n : Int} (hn : 0 ≤ n) (h0 : tmOf ws n = 0) (l : List Li) (goal : Bool) : WsOk (ws ++ [⟨n, times + 1, l, goal⟩]) (times + 1) := by
  refine ⟨?_, fun x hx => ?_⟩
  · rw [List.map_append, List.nodup_append]
    refine ⟨h.nd, by simp, fun a ha b hb => ?_⟩
    obtain ⟨y, hy, rfl⟩ := List.mem_map.1 ha
    obtain rfl : b = n := by simpa using hb
    exact h.none h0 y hy
  · rcases List.mem_append.1 hx with q | q
    · have := h.pos x q; omega
    · obtain rfl : x = ⟨n, times + 1, l, goal⟩ := by simpa using q
      exact ⟨hn, by simp, by simp⟩
theorem WsOk.drop {ws : List Wt} {times : Nat} (h : WsOk ws times) (n : Int) : WsOk (dropW ws n) times :=
  ⟨h.nd.sublist (List.Sublist.map _ List.filter_sublist), fun x hx => h.pos x (List.mem_filter.1 hx).1⟩
theorem mem_dropW {ws : List Wt} {n : Int} {x : Wt} : x ∈ dropW ws n ↔ x ∈ ws ∧ x.id ≠ n := by simp [dropW]
/-- What a heap holds: an item for each that waits; others are stale. -/
structure Rel (b : Int) (ws : List Wt) (L : List It) (times : Nat) : Prop where
  has : ∀ x ∈ ws, itemOf b x ∈ L
  fresh : ∀ y ∈ L, ∀ x ∈ ws, y.id = x.id → y.tm = x.tm → y = itemOf b x
  pos : ∀ y ∈ L, 1 ≤ y.tm ∧ y.tm ≤ times
  len : L.length ≤ times
theorem Rel.nil {b : Int} : Rel b [] [] 0 := ⟨fun x h => by simp at h, fun y h => by simp at h, fun y h => by simp at h, by simp⟩
theorem Rel.later {b : Int} {ws : List Wt} {L : List It} {times : Nat} (h : Rel b ws L times) : Rel b ws L (times + 1) := ⟨h.has, h.fresh, fun y hy => by have := h.pos y hy; omega, by have := h.len; omega⟩
theorem Rel.add {b : Int} {ws : List Wt} {L L' : List It} {times : Nat} {x : Wt} (h : Rel b ws L times) (hw : WsOk ws times) (ht : x.tm = times + 1) (hp : L'.Perm (L ++ [itemOf b x])) : Rel b (ws ++ [x]) L' (times + 1) := by
  have hm : ∀ y, y ∈ L' ↔ y ∈ L ∨ y = itemOf b x := fun y => by rw [hp.mem_iff]; simp
  refine ⟨fun z hz => ?_, fun y hy z hz e1 e2 => ?_, fun y hy => ?_, ?_⟩
  · rw [hm]
    rcases List.mem_append.1 hz with q | q
    · exact .inl (h.has z q)
    · obtain rfl : z = x := by simpa using q
      exact .inr rfl
  · rw [hm] at hy
    rcases List.mem_append.1 hz with q | q
    · rcases hy with hy | rfl
      · exact h.fresh y hy z q e1 e2
      · exfalso
        have := (hw.pos z q).2.2
        have e3 : ((x.tm : Nat) : Int) = z.tm := e2
        omega
    · obtain rfl : z = x := by simpa using q
      rcases hy with hy | rfl
      · exfalso; have := (h.pos y hy).2; omega
      · rfl
  · rw [hm] at hy
    rcases hy with hy | rfl
    · have := h.pos y hy; omega
    · show 1 ≤ ((x.tm : Nat) : Int) ∧ ((x.tm : Nat) : Int) ≤ _
      omega
  · rw [hp.length_eq, List.length_append]; have := h.len; simp; omega
theorem Rel.drop {b : Int} {ws : List Wt} {L : List It} {times : Nat} (h : Rel b ws L times) (n : Int) : Rel b (dropW ws n) L times :=
  ⟨fun x hx => h.has x (mem_dropW.1 hx).1, fun y hy x hx => h.fresh y hy x (mem_dropW.1 hx).1, h.pos, h.len⟩
/-- A stale item is taken. -/
theorem Rel.stale {b : Int} {ws : List Wt} {L M : List It} {times : Nat} {y : It} (h : Rel b ws L times) (hw : WsOk ws times) (hp : (y :: M).Perm L) (hs : (tmOf ws y.id : Int) ≠ y.tm) : Rel b ws M times := by
  have hm : ∀ z, z ∈ L ↔ z = y ∨ z ∈ M := fun z => by rw [← hp.mem_iff]; simp
  refine ⟨fun x hx => ?_, fun z hz => h.fresh z ((hm z).2 (.inr hz)), fun z hz => h.pos z ((hm z).2 (.inr hz)), ?_⟩
  · rcases (hm _).1 (h.has x hx) with e | e
    · exfalso; rw [← e] at hs
      exact hs (congrArg (fun n : Nat => (n : Int)) (tmOf_of hw.nd hx))
    · exact e
  · have := hp.length_eq; have := h.len; simp at *; omega
/-- One that waits is taken. -/
theorem Rel.taken {b : Int} {ws : List Wt} {L M : List It} {times : Nat} {y : It} (h : Rel b ws L times) (hw : WsOk ws times) (hp : (y :: M).Perm L) (hs : (tmOf ws y.id : Int) = y.tm) : (∃ x ∈ ws, x.id = y.id ∧ y = itemOf b x) ∧ Rel b (dropW ws y.id) M times := by
  have hm : ∀ z, z ∈ L ↔ z = y ∨ z ∈ M := fun z => by rw [← hp.mem_iff]; simp
  have hy := h.pos y ((hm y).2 (.inl rfl))
  obtain ⟨x, hx, e1, e2⟩ := tmOf_mem (ws := ws) (n := y.id) (by omega)
  refine ⟨⟨x, hx, e1, h.fresh y ((hm y).2 (.inl rfl)) x hx e1.symm (by omega)⟩, fun x' hx' => ?_, fun z hz x' hx' => h.fresh z ((hm z).2 (.inr hz)) x' (mem_dropW.1 hx').1, fun z hz => h.pos z ((hm z).2 (.inr hz)), ?_⟩
  · obtain ⟨h1, h2⟩ := mem_dropW.1 hx'
    rcases (hm _).1 (h.has x' h1) with e | e
    · exact absurd (congrArg It.id e) h2
    · exact e
  · have := hp.length_eq; have := h.len; simp at *; omega
/-- Whose turn it is, behind one more. -/
def tick (q : List Qu) (at_ dn : Nat) : Nat × Nat := if (qget q at_).take ≤ ((dn + 1 : Nat) : Int) then ((at_ + 1) % q.length, 0) else (at_, dn + 1)
/-- The queues that a room may have. -/
def quOk (x : Qu) : Bool := !(decide (x.by_ < 0) || decide (4 < x.by_) || decide (x.take < 1) || decide (1000 < x.take))
def qsOk (q : List Qu) : Bool := decide (1 ≤ q.length) && decide (q.length ≤ 8) && q.all quOk
theorem qsOk_at {q : List Qu} (h : qsOk q = true) : 1 ≤ q.length ∧ q.length ≤ 8 ∧ ∀ k, k < q.length → 0 ≤ (qget q k).by_ ∧ (qget q k).by_ ≤ 4 ∧ 1 ≤ (qget q k).take ∧ (qget q k).take ≤ 1000 := by
  unfold qsOk at h
  rw [Bool.and_eq_true, Bool.and_eq_true, decide_eq_true_eq, decide_eq_true_eq, List.all_eq_true] at h
  refine ⟨h.1.1, h.1.2, fun k hk => ?_⟩
  have := h.2 (qget q k) (by rw [qget_lt hk]; exact List.getElem_mem hk)
  unfold quOk at this
  simp only [Bool.not_eq_true', Bool.or_eq_false_iff, decide_eq_false_iff_not] at this
  omega
theorem qsOk_bad {q : List Qu} {k : Nat} (hk : k < q.length) (h : quOk (qget q k) = false) : qsOk q = false := by
  unfold qsOk
  have : q.all quOk = false := by
    rw [List.all_eq_false]
    exact ⟨qget q k, by rw [qget_lt hk]; exact List.getElem_mem hk, by simp [h]⟩
  rw [this, Bool.and_false]
theorem qsOk_good {q : List Qu} (h1 : 1 ≤ q.length) (h2 : q.length ≤ 8) (h : ∀ k, k < q.length → quOk (qget q k) = true) : qsOk q = true := by
  unfold qsOk
  rw [Bool.and_eq_true, Bool.and_eq_true, decide_eq_true_eq, decide_eq_true_eq, List.all_eq_true]
  refine ⟨⟨h1, h2⟩, fun x hx => ?_⟩
  obtain ⟨i, hi, rfl⟩ := List.getElem_of_mem hx
  rw [← qget_lt hi]; exact h i hi
end Go.Proofs.Ytjhkoiggeepajaa
