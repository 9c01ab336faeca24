/- What clear does to a row of bindings. -/
import Derived.Test.YtgechlgdnnpoeaaBdRow
import Derived.Test.YtgechlgdnnpoeaaKOps
namespace Go.Proofs.Ytgechlgdnnpoeaa
open Go.RowKit Go

theorem zeroCells_one (z : Array Value) (hz : ∀ v ∈ z, v.oneCell' = true) (hs : 0 < z.size) (n : Nat) : ∀ v ∈ (Builtin.zeroCells z n).toList, v.oneCell' = true := by
  intro v hv
  unfold Builtin.zeroCells at hv
  simp only [Array.toList_map, Array.toList_range, List.mem_map, List.mem_range] at hv
  obtain ⟨i, _, rfl⟩ := hv
  have hlt : i % z.size < z.size := Nat.mod_lt _ hs
  rw [getElem!_pos z _ hlt]
  exact hz _ (Array.getElem_mem hlt)
set_option maxRecDepth 100000 in
theorem run_clearB {w : World} {B rc n g i m c : Nat} {L : List Bd} (h : RowE eltB w B 56 (some ⟨g, 0, none⟩) rc n L) (hm : i + m = n) (h0 : 0 < m) (ty : TypeId) : ∃ vs, (Builtin.clear_ #[23] ty #[.slice (some ⟨g, 0 + i * 3, none⟩) m c]).run Try.prog w = .ok (.tuple #[]) (w.setCells g (0 + i * 3) vs) := by
  obtain ⟨cur, ds, h1, rfl, h3, h4, h5, h6, h7, h8, h9⟩ := h.open3
  refine ⟨(Builtin.zeroCells #[.int .i64 0, .int .i64 0, .slice none 0 0] m).toList, ?_⟩
  have hst := run_storeCells_cells (P := Try.prog) g (0 + i * 3) (Builtin.zeroCells #[.int .i64 0, .int .i64 0, .slice none 0 0] m).toList 0 w
    (fun j hj => by rw [h1.cell, Array.getElem?_eq_getElem (by simp [Builtin.zeroCells] at hj; omega)]; rfl) (fun j hj => h1.frozen _) (zeroCells_one _ (by simp [Value.oneCell']) (by decide) m)
  rw [Nat.add_zero] at hst
  have hz : ∀ w, (zeroValue 56).run Try.prog w = .ok (.agg #[.int .i64 0, .int .i64 0, .slice none 0 0]) w := fun w => rfl
  have hu : ∀ w, (underlying 23).run Try.prog w = .ok (.slice 56) w := fun w => rfl
  obtain ⟨m', rfl⟩ : ∃ m', m = m' + 1 := ⟨m - 1, by omega⟩
  generalize 0 + i * 3 = q at *
  simp [Builtin.clear_, hu, hz, hst, Value.cells]
theorem wp_clearB {o : Oper} {x : Operand} {a : Act} {w : World} {K : Act → World → Prop} {Q : Exit → Act → World → Prop} {B rc n g i m c : Nat} {L : List Bd} (ho : o.op = .call { callee := .builtin .clear, args := #[x], argTypes := #[23] }) (hx : a.eval x = .slice (some ⟨g, 0 + i * 3, none⟩) m c)
    (h : RowE eltB w B 56 (some ⟨g, 0, none⟩) rc n L) (hm : i + m = n) (h0 : 0 < m) (hK : ∀ w', Upd g w w' → RowE eltB w' B 56 (some ⟨g, 0, none⟩) rc i (L.take i) → K (a.put o.dst (.tuple #[])) w') : o.wp Try.prog a w K Q := by
  obtain ⟨vs, hcl⟩ := run_clearB (c := c) h hm h0 o.type
  obtain ⟨h1, h2⟩ := h.cut3 (i := i) (by omega) vs
  unfold Oper.wp execOp
  simp only [ho, resolve, invoke, builtin, Sem.run_bind, Sem.run_pure, Result.andThen_ok, List.map_toArray, List.map_cons, List.map_nil, hx, hcl]
  exact hK _ h2 h1

end Go.Proofs.Ytgechlgdnnpoeaa
