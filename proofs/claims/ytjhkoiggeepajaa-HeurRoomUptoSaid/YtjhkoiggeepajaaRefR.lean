/- The document's room in memory: one row of those who wait. -/
import Derived.Test.YtjhkoiggeepajaaRoomN
import Derived.Test.YtjhkoiggeepajaaLit
namespace Go.Proofs.Ytjhkoiggeepajaa
open Go.RowKit Go
set_option linter.unusedVariables false
set_option linter.unusedSimpArgs false

/-- One that waits, as the document keeps it: its clause lies where it came in. -/
structure RI where
  id : Int
  l : List Li
  a : Option Addr
  c : Nat
  goal : Bool
instance : Inhabited RI := ⟨⟨0, [], none, 0, false⟩⟩
def rget (L : List RI) (k : Nat) : RI := L.getD k default
theorem rget_lt {L : List RI} {k : Nat} (h : k < L.length) : rget L k = L[k] := by simp [rget, h]
theorem rget_mem {L : List RI} {k : Nat} (h : k < L.length) : rget L k ∈ L := by rw [rget_lt h]; exact List.getElem_mem h
def riC (x : RI) : List Value := [.int .i64 x.id, .slice x.a x.l.length x.c, .bool x.goal]
def risC (L : List RI) : List Value := L.flatMap riC
theorem risC_len : ∀ (L : List RI), (risC L).length = L.length * 3
  | [] => rfl
  | x :: r => by have := risC_len r; simp [risC, riC] at this ⊢; omega
theorem risC_app (L M : List RI) : risC (L ++ M) = risC L ++ risC M := by simp [risC]
theorem risC_one (x : RI) : risC [x] = [.int .i64 x.id, .slice x.a x.l.length x.c, .bool x.goal] := by simp [risC, riC]
theorem risC_at : ∀ (L : List RI) (i : Nat), i < L.length → (risC L)[i * 3]? = some (.int .i64 (rget L i).id) ∧ (risC L)[i * 3 + 1]? = some (.slice (rget L i).a (rget L i).l.length (rget L i).c) ∧ (risC L)[i * 3 + 2]? = some (.bool (rget L i).goal)
  | [], i, h => by simp at h
  | x :: r, 0, _ => by simp [risC, riC, rget]
  | x :: r, i + 1, h => by
    have := risC_at r i (by simpa using h)
    have e : ∀ q, (risC (x :: r))[(i + 1) * 3 + q]? = (risC r)[i * 3 + q]? := fun q => by
      simp only [risC, List.flatMap_cons]
      rw [List.getElem?_append_right (by simp [riC]; omega)]
      congr 1; simp [riC]; omega
    have e0 := e 0
    simp only [Nat.add_zero] at e0
    rw [e0, e 1, e 2]
    exact this
theorem Own.rcells {w : World} {S : Nat → Prop} {a : Option Addr} {c : Nat} {L : List RI} (h : Own w S 86 3 a c L.length (risC L)) : ∃ b o, (∀ k, k < L.length → a = some ⟨b, o, none⟩) ∧ ∀ k, k < L.length → w.cell? ⟨b, o + k * 3, none⟩ = some (.int .i64 (rget L k).id) ∧ w.cell? ⟨b, o + k * 3 + 1, none⟩ = some (.slice (rget L k).a (rget L k).l.length (rget L k).c) ∧ w.cell? ⟨b, o + k * 3 + 2, none⟩ = some (.bool (rget L k).goal) := by
  rcases h.1.2 with ⟨_, e⟩ | ⟨g, cap, cur, e1, _, h1, h2, h3, h4, h5⟩
  · exact ⟨0, 0, fun k hk => by omega, fun k hk => by omega⟩
  · simp only [Value.slice.injEq] at e1
    obtain ⟨rfl, _, rfl⟩ := e1
    refine ⟨g, 0, fun _ _ => rfl, fun k hk => ?_⟩
    have hB : Blk w g 86 cur := h1
    have key : ∀ q, q < 3 → w.cell? ⟨g, 0 + k * 3 + q, none⟩ = (risC L)[k * 3 + q]? := fun q hq => by
      rw [hB.cell, ← h5, List.getElem?_take, if_pos (by omega), Array.getElem?_toList]
      congr 1; omega
    have k0 := key 0 (by omega)
    simp only [Nat.add_zero] at k0
    rw [k0, key 1 (by omega), key 2 (by omega)]
    exact risC_at L k hk
/-- The document's room at 'z', whose blocks 'Y' holds of. -/
structure RefIs (w : World) (z : Nat) (Y : Nat → Prop) (q : List Qu) (qa : Option Addr) (qc : Nat) (L : List RI) (at_ dn : Nat) : Prop where
  ex : ∃ la lc, Blk w z 53 #[.slice qa q.length qc, .slice la L.length lc, .int .i64 (at_ : Int), .int .i64 (dn : Int)] ∧ Own w Y 86 3 la lc L.length (risC L)
  yz : Y z
section
variable {w w' : World} {z : Nat} {Y Y' : Nat → Prop} {q : List Qu} {qa : Option Addr} {qc : Nat} {L : List RI} {at_ dn : Nat}
theorem RefIs.lt (h : RefIs w z Y q qa qc L at_ dn) : z < w.heap.size := by obtain ⟨_, _, h1, _⟩ := h.ex; exact h1.lt
theorem RefIs.chg {T : Nat → Prop} (h : RefIs w z Y q qa qc L at_ dn) (hc : Chg T w w') (hT : ∀ b, Y b → ¬ T b) : RefIs w' z Y q qa qc L at_ dn := by
  obtain ⟨la, lc, h1, h2⟩ := h.ex
  exact ⟨⟨la, lc, chg_blk h1 hc (hT _ h.yz), h2.chg hc hT⟩, h.yz⟩
theorem RefIs.below (h : RefIs w z Y q qa qc L at_ dn) (hb : Below w.heap.size w w') : RefIs w' z Y q qa qc L at_ dn := h.chg (.ofBelow (S := fun _ => False) hb) (fun _ _ e => e)
theorem RefIs.mono (h : RefIs w z Y q qa qc L at_ dn) (hY : ∀ b, Y b → b < w.heap.size → Y' b) : RefIs w z Y' q qa qc L at_ dn := by
  have hz := hY _ h.yz h.lt
  obtain ⟨la, lc, h1, h2⟩ := h.ex
  exact ⟨⟨la, lc, h1, h2.mono hY⟩, hz⟩
end
def dropR (L : List RI) (n : Int) : List RI := L.filter (fun x => decide (x.id ≠ n))
theorem dropR_take {L : List RI} {n : Int} {k : Nat} (hk : k < L.length) : dropR (L.take (k + 1)) n = dropR (L.take k) n ++ (if (rget L k).id ≠ n then [rget L k] else []) := by
  rw [List.take_succ_eq_append_getElem hk, rget_lt hk]
  unfold dropR
  rw [List.filter_append]
  congr 1
  by_cases h : L[k].id = n <;> simp [h]
theorem dropR_le (L : List RI) (n : Int) : (dropR L n).length ≤ L.length := List.length_filter_le _ _
/-- By what one goes ahead of another. -/
def rkey (b : Int) (x : RI) : Int × Int × Int := ((weighP b x.l x.goal).1, (weighP b x.l x.goal).2, x.id)
def klt (x y : Int × Int × Int) : Prop := x.1 < y.1 ∨ (x.1 = y.1 ∧ (x.2.1 < y.2.1 ∨ (x.2.1 = y.2.1 ∧ x.2.2 < y.2.2)))
theorem klt_irrefl (x : Int × Int × Int) : ¬ klt x x := by unfold klt; omega
theorem klt_trans2 {x y z : Int × Int × Int} (h : ¬ klt x y) (k : klt z y) : ¬ klt x z := by unfold klt at *; omega
/-- Of the first ones, the place of the one that goes ahead. -/
def Ahead (b : Int) (L : List RI) (i k : Nat) : Prop := k < i ∧ ∀ j, j < i → ¬ klt (rkey b (rget L j)) (rkey b (rget L k))
theorem Ahead.one (b : Int) (L : List RI) : Ahead b L 1 0 := by
  refine ⟨by omega, fun j hj => ?_⟩
  have e : j = 0 := by omega
  rw [e]; exact klt_irrefl _
theorem Ahead.take {b : Int} {L : List RI} {i k : Nat} (h : Ahead b L i k) (hl : klt (rkey b (rget L i)) (rkey b (rget L k))) : Ahead b L (i + 1) i := ⟨by omega, fun j hj => by
  by_cases e : j = i
  · rw [e]; exact klt_irrefl _
  · exact klt_trans2 (h.2 j (by omega)) hl⟩
theorem Ahead.keep {b : Int} {L : List RI} {i k : Nat} (h : Ahead b L i k) (hl : ¬ klt (rkey b (rget L i)) (rkey b (rget L k))) : Ahead b L (i + 1) k := ⟨by have := h.1; omega, fun j hj => by
  by_cases e : j = i
  · rw [e]; exact hl
  · exact h.2 j (by omega)⟩
/-- The same ones wait in both rooms, in the same order. -/
def Alike (ws : List Wt) (L : List RI) : Prop := L.map (fun y => (y.id, y.l, y.goal)) = ws.map (fun x => (x.id, x.l, x.goal))
theorem Alike.len {ws : List Wt} {L : List RI} (h : Alike ws L) : L.length = ws.length := by have := congrArg List.length h; simpa using this
theorem Alike.nil : Alike [] [] := rfl
theorem Alike.add {ws : List Wt} {L : List RI} (h : Alike ws L) (n : Int) (tm : Nat) (l : List Li) (goal : Bool) (a : Option Addr) (c : Nat) : Alike (ws ++ [⟨n, tm, l, goal⟩]) (L ++ [⟨n, l, a, c, goal⟩]) := by
  unfold Alike at *; simp [h]
theorem Alike.drop {n : Int} : ∀ {ws : List Wt} {L : List RI}, Alike ws L → Alike (dropW ws n) (dropR L n)
  | [], [], _ => rfl
  | [], _ :: _, h => by simp [Alike] at h
  | _ :: _, [], h => by simp [Alike] at h
  | x :: ws, y :: L, h => by
    unfold Alike at h
    simp only [List.map_cons, List.cons.injEq, Prod.mk.injEq] at h
    have ih := Alike.drop (n := n) (ws := ws) (L := L) h.2
    unfold Alike dropW dropR at *
    by_cases e : x.id = n
    · simp [h.1.1, e]; simpa using ih
    · simp [h.1.1, e]; exact ⟨h.1.2, by simpa using ih⟩
theorem Alike.ids {ws : List Wt} {L : List RI} (h : Alike ws L) : L.map (·.id) = ws.map (·.id) := by
  have := congrArg (List.map (fun p : Int × List Li × Bool => p.1)) h
  rw [List.map_map, List.map_map] at this
  exact this
theorem Alike.mem {ws : List Wt} {L : List RI} (h : Alike ws L) {y : RI} (hy : y ∈ L) : ∃ x ∈ ws, x.id = y.id ∧ x.l = y.l ∧ x.goal = y.goal := by
  have : (y.id, y.l, y.goal) ∈ ws.map (fun x => (x.id, x.l, x.goal)) := by rw [← h]; exact List.mem_map.2 ⟨y, hy, rfl⟩
  obtain ⟨x, hx, e⟩ := List.mem_map.1 this
  simp only [Prod.mk.injEq] at e
  exact ⟨x, hx, e.1, e.2.1, e.2.2⟩
theorem Alike.mem' {ws : List Wt} {L : List RI} (h : Alike ws L) {x : Wt} (hx : x ∈ ws) : ∃ j, j < L.length ∧ (rget L j).id = x.id ∧ (rget L j).l = x.l ∧ (rget L j).goal = x.goal := by
  have : (x.id, x.l, x.goal) ∈ L.map (fun y => (y.id, y.l, y.goal)) := by rw [h]; exact List.mem_map.2 ⟨x, hx, rfl⟩
  obtain ⟨y, hy, e⟩ := List.mem_map.1 this
  obtain ⟨j, hj, rfl⟩ := List.getElem_of_mem hy
  simp only [Prod.mk.injEq] at e
  exact ⟨j, hj, by rw [rget_lt hj]; exact e.1, by rw [rget_lt hj]; exact e.2.1, by rw [rget_lt hj]; exact e.2.2⟩
/-- Both rooms name the same one. -/
theorem Alike.same {b : Int} {ws : List Wt} {L : List RI} (h : Alike ws L) {x : Wt} (hx : x ∈ ws) (hm : ∀ x' ∈ ws, (itemOf b x).le (itemOf b x')) {k : Nat} (hk : Ahead b L L.length k) : (rget L k).id = x.id := by
  obtain ⟨x2, hx2, e1, e2, e3⟩ := h.mem (rget_mem hk.1)
  obtain ⟨j, hj, f1, f2, f3⟩ := h.mem' hx
  have h1 := hm x2 hx2
  have h2 := hk.2 j hj
  unfold klt rkey at h2
  unfold It.le itemOf at h1
  rw [f1, f2, f3] at h2
  rw [e1, e2, e3] at h1
  simp only at h1 h2
  omega
theorem tmOf_any {ws : List Wt} {times : Nat} (hw : WsOk ws times) {L : List RI} (h : Alike ws L) {n : Int} : tmOf ws n = 0 ↔ ∀ k, k < L.length → (rget L k).id ≠ n := by
  constructor
  · intro h0 k hk e
    obtain ⟨x, hx, e1, _⟩ := h.mem (rget_mem hk)
    exact hw.none h0 x hx (e1.trans e)
  · intro h0
    exact tmOf_none (fun x hx e => by
      obtain ⟨j, hj, f1, _⟩ := h.mem' hx
      exact h0 j hj (f1.trans e))
theorem dropR_lt {L : List RI} {n : Int} : (dropR L n).length < L.length ↔ ∃ k, k < L.length ∧ (rget L k).id = n := by
  constructor
  · intro h
    by_cases he : ∃ k, k < L.length ∧ (rget L k).id = n
    · exact he
    · exfalso
      have : dropR L n = L := by
        unfold dropR
        rw [List.filter_eq_self]
        intro x hx
        obtain ⟨j, hj, rfl⟩ := List.getElem_of_mem hx
        rw [decide_eq_true_eq, ← rget_lt hj]
        exact fun e => he ⟨j, hj, e⟩
      rw [this] at h; omega
  · rintro ⟨k, hk, e⟩
    unfold dropR
    refine Nat.lt_of_le_of_ne (List.length_filter_le _ _) (fun e2 => ?_)
    have := List.length_filter_eq_length_iff.1 e2 _ (rget_mem hk)
    simp [e] at this
end Go.Proofs.Ytjhkoiggeepajaa
