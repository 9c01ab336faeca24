/- Rows of bindings of the call's own: opened, written, cut. -/
import Derived.Test.YtcmfjnadjddboaaBind
import Derived.Laws.IdiomCopy
namespace Go.Proofs.Ytcmfjnadjddboaa
open Go.RowKit Go

abbrev BdV := Bd × Value × Value
def encB (x : BdV) : List Value := [.int .i64 x.1.var, x.2.1, x.2.2]
/-- What a row of bindings holds. -/
def BdOk (S : Nat → Prop) (w : World) (p : BdV) : Prop := I64 p.1.var ∧ InT S w p.1.t (.agg #[p.2.1, p.2.2])
theorem elts_bdv {S : Nat → Prop} {w : World} : ∀ {l : List Bd} {xs : List Value}, Elts eltB S w l xs → ∃ ds : List BdV, ds.map (·.1) = l ∧ xs = ds.flatMap encB ∧ ∀ p ∈ ds, BdOk S w p
  | [], _, h => ⟨[], rfl, h, fun p hp => nomatch hp⟩
  | x :: l, _, ⟨cs, r, e, ⟨u, v, e2, h0, h1⟩, h2⟩ => by
    obtain ⟨ds, h3, rfl, h5⟩ := elts_bdv h2
    refine ⟨(x, u, v) :: ds, by simp [h3], by rw [e, e2]; rfl, fun p hp => ?_⟩
    rcases List.mem_cons.1 hp with rfl | hp
    · exact ⟨h0, h1⟩
    · exact h5 p hp
theorem bdv_elts {S : Nat → Prop} {w : World} : ∀ {ds : List BdV}, (∀ p ∈ ds, BdOk S w p) → Elts eltB S w (ds.map (·.1)) (ds.flatMap encB)
  | [], _ => rfl
  | p :: ds, h => ⟨encB p, ds.flatMap encB, rfl, ⟨p.2.1, p.2.2, rfl, (h p (by simp)).1, (h p (by simp)).2⟩, bdv_elts fun q hq => h q (by simp [hq])⟩
theorem len_encB (ds : List BdV) : (ds.flatMap encB).length = ds.length * 3 := by
  induction ds with
  | nil => rfl
  | cons p r ih => rw [List.flatMap_cons, List.length_append, ih, List.length_cons]; show 3 + _ = _; omega

section
variable {w : World} {B e n rc g : Nat} {P : List Bd}
theorem own_some : (Value.slice (some ⟨g, 0, none⟩) n rc).ownBlock = some g := by simp [Value.ownBlock]
theorem RowE.open3 (h : RowE eltB w B e (some ⟨g, 0, none⟩) rc n P) : ∃ (cur : Array Value) (ds : List BdV), Blk w g e cur ∧ ds.map (·.1) = P ∧ (∀ p ∈ ds, BdOk (fun b => B ≤ b ∧ b ≠ g) w p) ∧ cur.toList.take (n * 3) = ds.flatMap encB ∧ n ≤ rc ∧ rc ≤ maxLen ∧ cur.size = rc * 3 ∧ B ≤ g ∧ n = P.length := by
  obtain ⟨⟨xs, h1, h2⟩, hl⟩ := h
  rcases h1.2 with ⟨e1, h0⟩ | ⟨b, cap, cur, e1, hB, hb, hcap, hm, hs, hx⟩
  · cases e1
  · simp only [Value.slice.injEq, true_and, Option.some.injEq, Addr.mk.injEq, and_true] at e1
    obtain ⟨rfl, rfl⟩ := e1
    obtain ⟨ds, h3, rfl, h5⟩ := elts_bdv h2
    have hk3 : eltB.k = 3 := rfl
    rw [hk3] at hs hx
    refine ⟨cur, ds, hb, h3, fun p hp => ⟨(h5 p hp).1, InT.mono (fun b hb _ => ⟨hb.1, fun e => hb.2 (by rw [own_some, e])⟩) (h5 p hp).2⟩, hx, hcap, hm, hs, hB, hl⟩
theorem RowE.mk3 {cur : Array Value} {ds : List BdV} (hb : Blk w g e cur) (hds : ∀ p ∈ ds, BdOk (fun b => B ≤ b ∧ b ≠ g) w p) (hx : cur.toList.take (n * 3) = ds.flatMap encB) (h1 : n ≤ rc) (h2 : rc ≤ maxLen) (h3 : cur.size = rc * 3) (hB : B ≤ g) (hn : n = ds.length) : RowE eltB w B e (some ⟨g, 0, none⟩) rc n (ds.map (·.1)) := by
  have hk3 : eltB.k = 3 := rfl
  refine ⟨⟨ds.flatMap encB, ⟨by rw [len_encB, hn, hk3], .inr ⟨g, rc, cur, rfl, hB, hb, h1, h2, by rw [hk3]; exact h3, by rw [hk3]; exact hx⟩⟩, bdv_elts fun p hp => ⟨(hds p hp).1, InT.mono (fun b hb _ => ⟨hb.1, fun e => hb.2 (by rw [own_some] at e; exact (Option.some.inj e).symm)⟩) (hds p hp).2⟩⟩, by simpa using hn⟩
theorem InRow.opts {S : Nat → Prop} (hg : ∀ k, k < n → ∃ p : Option Addr × Nat, w.cell? ⟨g, 0 + k * 3, none⟩ = some (.int .i64 (dget P k).var) ∧ w.cell? ⟨g, 0 + k * 3 + 1, none⟩ = some (.int .i64 (dget P k).t.f) ∧ w.cell? ⟨g, 0 + k * 3 + 2, none⟩ = some (.slice p.1 (dget P k).t.args.length p.2) ∧
      InT S w (dget P k).t (.agg #[.int .i64 (dget P k).t.f, .slice p.1 (dget P k).t.args.length p.2]) ∧ I64 (dget P k).var) : ∃ (A : Nat → Option Addr) (C : Nat → Nat), ∀ k, k < n → w.cell? ⟨g, 0 + k * 3, none⟩ = some (.int .i64 (dget P k).var) ∧ w.cell? ⟨g, 0 + k * 3 + 1, none⟩ = some (.int .i64 (dget P k).t.f) ∧ w.cell? ⟨g, 0 + k * 3 + 2, none⟩ = some (.slice (A k) (dget P k).t.args.length (C k)) ∧
      InT S w (dget P k).t (.agg #[.int .i64 (dget P k).t.f, .slice (A k) (dget P k).t.args.length (C k)]) ∧ I64 (dget P k).var := by
  have : Inhabited (Option Addr × Nat) := ⟨(none, 0)⟩
  obtain ⟨F, hF⟩ := Go.Deep.choose_lt hg
  exact ⟨fun k => (F k).1, fun k => (F k).2, hF⟩
theorem flat_at : ∀ (ds : List BdV) (k : Nat) (hk : k < ds.length) (j : Nat), j < 3 → (ds.flatMap encB)[k * 3 + j]? = (encB ds[k])[j]?
  | [], k, hk, _, _ => by simp at hk
  | p :: r, 0, _, j, hj => by rw [List.flatMap_cons, List.getElem?_append_left (by show 0 * 3 + j < 3; omega), Nat.zero_mul, Nat.zero_add]; rfl
  | p :: r, k + 1, hk, j, hj => by
    rw [List.flatMap_cons, List.getElem?_append_right (by show 3 ≤ _; omega)]
    show (r.flatMap encB)[(k + 1) * 3 + j - 3]? = _
    rw [show (k + 1) * 3 + j - 3 = k * 3 + j by omega, flat_at r k (by simpa using hk) j hj]; rfl
theorem RowE.cells (h : RowE eltB w B e (some ⟨g, 0, none⟩) rc n P) : ∃ (A : Nat → Option Addr) (C : Nat → Nat), ∀ k, k < n → w.cell? ⟨g, 0 + k * 3, none⟩ = some (.int .i64 (dget P k).var) ∧ w.cell? ⟨g, 0 + k * 3 + 1, none⟩ = some (.int .i64 (dget P k).t.f) ∧ w.cell? ⟨g, 0 + k * 3 + 2, none⟩ = some (.slice (A k) (dget P k).t.args.length (C k)) ∧
      InT (fun b => B ≤ b ∧ b ≠ g) w (dget P k).t (.agg #[.int .i64 (dget P k).t.f, .slice (A k) (dget P k).t.args.length (C k)]) ∧ I64 (dget P k).var := by
  obtain ⟨cur, ds, h1, rfl, h3, h4, h5, h6, h7, h8, h9⟩ := h.open3
  refine InRow.opts fun k hk => ?_
  have hkd : k < ds.length := by simpa [h9] using hk
  have hp := h3 ds[k] (List.getElem_mem hkd)
  have hd : dget (ds.map (·.1)) k = ds[k].1 := by rw [dget_lt (by simpa using hkd)]; simp
  obtain ⟨_, p, c, e, _, _, _⟩ := hp.2.form
  simp only [Value.agg.injEq, Array.mk.injEq, List.cons.injEq, and_true] at e
  have hc : ∀ j, j < 3 → w.cell? ⟨g, 0 + k * 3 + j, none⟩ = (encB ds[k])[j]? := fun j hj => by
    rw [h1.cell, ← flat_at ds k hkd j hj, ← h4, List.getElem?_take_of_lt (by omega), Array.getElem?_toList, Nat.zero_add]
  have c0 := hc 0 (by decide)
  have c1 := hc 1 (by decide)
  have c2 := hc 2 (by decide)
  simp only [encB] at c0 c1 c2
  rw [hd]
  refine ⟨(p, c), c0, c1.trans (by rw [← e.1]; rfl), c2.trans (by rw [← e.2]; rfl), ?_, hp.1⟩
  rw [← e.1, ← e.2]; exact hp.2
theorem flat_set : ∀ (ds : List BdV) (i : Nat) (x : BdV), i < ds.length → (((ds.flatMap encB).set (i * 3) (.int .i64 x.1.var)).set (i * 3 + 1) x.2.1).set (i * 3 + 2) x.2.2 = (ds.set i x).flatMap encB
  | [], i, x, h => by simp at h
  | p :: r, 0, x, _ => by simp [List.flatMap_cons, encB]
  | p :: r, i + 1, x, h => by
    have ih := flat_set r i x (by simpa using h)
    rw [List.set_cons_succ, List.flatMap_cons, List.flatMap_cons, ← ih]
    have e3 : ∀ k v, 3 ≤ k → ∀ l : List Value, (encB p ++ l).set k v = encB p ++ l.set (k - 3) v := fun k v hk l => by rw [List.set_append_right _ _ (show (encB p).length ≤ k from hk)]; rfl
    rw [e3 _ _ (by omega), e3 _ _ (by omega), e3 _ _ (by omega), show (i + 1) * 3 - 3 = i * 3 by omega, show (i + 1) * 3 + 1 - 3 = i * 3 + 1 by omega, show (i + 1) * 3 + 2 - 3 = i * 3 + 2 by omega]
theorem RowE.store3 (h : RowE eltB w B e (some ⟨g, 0, none⟩) rc n P) {i : Nat} (hi : i < n) {x : Bd} {u v : Value} (hx : I64 x.var) (hin : InT (fun b => B ≤ b ∧ b ≠ g) w x.t (.agg #[u, v])) :
    RowE eltB (((w.setCell ⟨g, 0 + i * 3, none⟩ (.int .i64 x.var)).setCell ⟨g, 0 + i * 3 + 1, none⟩ u).setCell ⟨g, 0 + i * 3 + 2, none⟩ v) B e (some ⟨g, 0, none⟩) rc n (P.set i x) := by
  obtain ⟨cur, ds, h1, rfl, h3, h4, h5, h6, h7, h8, h9⟩ := h.open3
  have hu : Upd g w (((w.setCell ⟨g, 0 + i * 3, none⟩ (.int .i64 x.var)).setCell ⟨g, 0 + i * 3 + 1, none⟩ u).setCell ⟨g, 0 + i * 3 + 2, none⟩ v) := ((Upd.at_ _ _ _ _).trans (Upd.at_ _ _ _ _)).trans (Upd.at_ _ _ _ _)
  have hk : ∀ (p : Addr) (v' : Value), (B ≤ p.block ∧ p.block ≠ g) → w.cell? p = some v' → (((w.setCell ⟨g, 0 + i * 3, none⟩ (.int .i64 x.var)).setCell ⟨g, 0 + i * 3 + 1, none⟩ u).setCell ⟨g, 0 + i * 3 + 2, none⟩ v).cell? p = some v' := fun p v' hp hv => by
    have e := hu.block p.block hp.2
    unfold World.cell? at hv ⊢
    rw [e]; exact hv
  have hil : i < ds.length := by simpa [h9] using hi
  have e1 : (ds.map (·.1)).set i x = (ds.set i (x, u, v)).map (·.1) := by rw [List.map_set]
  rw [e1]
  have hB3 := ((h1.set_ (0 + i * 3) (.int .i64 x.var)).set_ (0 + i * 3 + 1) u).set_ (0 + i * 3 + 2) v
  refine RowE.mk3 hB3 (fun p hp => ?_) ?_ h5 h6 (by simpa using h7) h8 (by simpa using h9)
  · rcases List.mem_or_eq_of_mem_set hp with hp | rfl
    · exact ⟨(h3 p hp).1, InT.keep hk (h3 p hp).2⟩
    · exact ⟨hx, InT.keep hk hin⟩
  · rw [← flat_set ds i (x, u, v) hil, ← h4]
    simp only [Array.toList_setIfInBounds, List.take_set, Nat.zero_add]

theorem setCells_up : ∀ (vs : List Value) (o : Nat) (w : World) (cs : Array Value), Blk w g e cs → ∃ cs', Blk (w.setCells g o vs) g e cs' ∧ cs'.size = cs.size ∧ (∀ k, k < o → cs'[k]? = cs[k]?) ∧ Upd g w (w.setCells g o vs)
  | [], _, _, cs, h => ⟨cs, h, rfl, fun _ _ => rfl, ⟨rfl, rfl, rfl, rfl, fun _ _ => rfl⟩⟩
  | v :: r, o, w, cs, h => by
    obtain ⟨cs', h1, h2, h3, h4⟩ := setCells_up r (o + 1) _ _ (h.set_ o v)
    refine ⟨cs', h1, by simpa using h2, fun k hk => ?_, (Upd.at_ _ _ _ _).trans h4⟩
    rw [h3 k (by omega), Array.getElem?_setIfInBounds_ne (by omega)]
theorem RowE.cut3 (h : RowE eltB w B e (some ⟨g, 0, none⟩) rc n P) {i : Nat} (hi : i ≤ n) (vs : List Value) : RowE eltB (w.setCells g (0 + i * 3) vs) B e (some ⟨g, 0, none⟩) rc i (P.take i) ∧ Upd g w (w.setCells g (0 + i * 3) vs) := by
  obtain ⟨cur, ds, h1, rfl, h3, h4, h5, h6, h7, h8, h9⟩ := h.open3
  obtain ⟨cs', k1, k2, k3, hu⟩ := setCells_up vs (0 + i * 3) w cur h1
  have hk : ∀ (p : Addr) (v' : Value), (B ≤ p.block ∧ p.block ≠ g) → w.cell? p = some v' → (w.setCells g (0 + i * 3) vs).cell? p = some v' := fun p v' hp hv => by
    have e := hu.block p.block hp.2
    unfold World.cell? at hv ⊢
    rw [e]; exact hv
  have hlen : ds.length = n := by simpa using h9.symm
  refine ⟨?_, hu⟩
  rw [← List.map_take]
  refine RowE.mk3 k1 (fun p hp => ⟨(h3 p (List.mem_of_mem_take hp)).1, InT.keep hk (h3 p (List.mem_of_mem_take hp)).2⟩) ?_ (by omega) h6 (by omega) h8 (by simp; omega)
  apply List.ext_getElem?
  intro k
  by_cases hlt : k < i * 3
  · rw [List.getElem?_take_of_lt hlt, Array.getElem?_toList, k3 k (by omega)]
    have this : (cur.toList.take (n * 3))[k]? = (ds.flatMap encB)[k]? := by rw [h4]
    rw [List.getElem?_take_of_lt (by omega), Array.getElem?_toList] at this
    rw [this]
    have hd := (List.take_append_drop i ds)
    conv => lhs; rw [← hd, List.flatMap_append]
    rw [List.getElem?_append_left (by rw [len_encB]; simp; omega)]
  · rw [List.getElem?_eq_none (by simp; omega), List.getElem?_eq_none (by rw [len_encB]; simp; omega)]
theorem RowE.nilOr {ra : Option Addr} (h : RowE eltB w B e ra rc n P) : (ra = none ∧ n = 0 ∧ rc = 0 ∧ P = []) ∨ ∃ g, ra = some ⟨g, 0, none⟩ := by
  obtain ⟨⟨xs, h1, h2⟩, hl⟩ := h
  rcases h1.2 with ⟨e1, h0⟩ | ⟨b, cap, cur, e1, _⟩
  · simp only [Value.slice.injEq] at e1
    obtain ⟨rfl, rfl, rfl⟩ := e1
    exact .inl ⟨rfl, rfl, rfl, List.length_eq_zero_iff.1 hl.symm⟩
  · simp only [Value.slice.injEq] at e1
    exact .inr ⟨b, e1.1⟩
end

end Go.Proofs.Ytcmfjnadjddboaa
