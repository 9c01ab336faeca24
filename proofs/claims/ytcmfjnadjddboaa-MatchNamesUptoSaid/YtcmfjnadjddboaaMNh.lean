/- Match and Variant: the program. -/
import Derived.Test.YtcmfjnadjddboaaMNb
import Derived.Laws.IdiomCopy
import Derived.Test.YtcmfjnadjddboaaMNg
import Derived.Test.YtcmfjnadjddboaaMNd
import Derived.Test.YtcmfjnadjddboaaProg
import Derived.Shelf.SlSortCmp.WholeK
import Derived.Shelf.SlSortCmp.NoneTotal
import Derived.Ground.SlsfProg
import Derived.Shelf.SlicesG.Cmp
import Derived.Ground.SlgcProg
import Derived.WalkKit
import Derived.Test.YtcmfjnadjddboaaMNf

/- Rows of bindings of the call's own: opened, written, cut. -/
namespace Go.Proofs.Ytcmfjnadjddboaa
open Go.RowKit Go
set_option linter.unusedVariables false
set_option linter.unusedSimpArgs false

abbrev BdV := Bd × Value × Value
def encB (x : BdV) : List Value := [.int .i64 x.1.var, x.2.1, x.2.2]
/-- What a row of bindings holds. -/
def BdOk (S : Nat → Prop) (w : World) (p : BdV) : Prop := I64 p.1.var ∧ InT S w p.1.t (.agg #[p.2.1, p.2.2])
theorem elts_bdv {S : Nat → Prop} {w : World} : ∀ {l : List Bd} {xs : List Value}, Elts eltB S w l xs → ∃ ds : List BdV, ds.map (·.1) = l ∧ xs = ds.flatMap encB ∧ ∀ p ∈ ds, BdOk S w p
  | [], _, h => ⟨[], rfl, h, fun p hp => nomatch hp⟩
  | x :: l, _, ⟨cs, r, e, ⟨u, v, e2, h0, h1⟩, h2⟩ => by
    obtain ⟨ds, h3, rfl, h5⟩ := elts_bdv h2
    refine ⟨(x, u, v) :: ds, by simp [h3], by rw [e, e2]; rfl, fun p hp => ?_⟩
    rcases List.mem_cons.1 hp with rfl | hp
    · exact ⟨h0, h1⟩
    · exact h5 p hp
theorem bdv_elts {S : Nat → Prop} {w : World} : ∀ {ds : List BdV}, (∀ p ∈ ds, BdOk S w p) → Elts eltB S w (ds.map (·.1)) (ds.flatMap encB)
  | [], _ => rfl
  | p :: ds, h => ⟨encB p, ds.flatMap encB, rfl, ⟨p.2.1, p.2.2, rfl, (h p (by simp)).1, (h p (by simp)).2⟩, bdv_elts fun q hq => h q (by simp [hq])⟩
theorem len_encB (ds : List BdV) : (ds.flatMap encB).length = ds.length * 3 := by
  induction ds with
  | nil => rfl
  | cons p r ih => rw [List.flatMap_cons, List.length_append, ih, List.length_cons]; show 3 + _ = _; omega

section
variable {w : World} {B e n rc g : Nat} {P : List Bd}
theorem own_some : (Value.slice (some ⟨g, 0, none⟩) n rc).ownBlock = some g := by simp [Value.ownBlock]
theorem RowE.open3 (h : RowE eltB w B e (some ⟨g, 0, none⟩) rc n P) : ∃ (cur : Array Value) (ds : List BdV), Blk w g e cur ∧ ds.map (·.1) = P ∧ (∀ p ∈ ds, BdOk (fun b => B ≤ b ∧ b ≠ g) w p) ∧ cur.toList.take (n * 3) = ds.flatMap encB ∧ n ≤ rc ∧ rc ≤ maxLen ∧ cur.size = rc * 3 ∧ B ≤ g ∧ n = P.length := by
  obtain ⟨⟨xs, h1, h2⟩, hl⟩ := h
  rcases h1.2 with ⟨e1, h0⟩ | ⟨b, cap, cur, e1, hB, hb, hcap, hm, hs, hx⟩
  · cases e1
  · simp only [Value.slice.injEq, true_and, Option.some.injEq, Addr.mk.injEq, and_true] at e1
    obtain ⟨rfl, rfl⟩ := e1
    obtain ⟨ds, h3, rfl, h5⟩ := elts_bdv h2
    have hk3 : eltB.k = 3 := rfl
    rw [hk3] at hs hx
    refine ⟨cur, ds, hb, h3, fun p hp => ⟨(h5 p hp).1, InT.mono (fun b hb _ => ⟨hb.1, fun e => hb.2 (by rw [own_some, e])⟩) (h5 p hp).2⟩, hx, hcap, hm, hs, hB, hl⟩
theorem RowE.mk3 {cur : Array Value} {ds : List BdV} (hb : Blk w g e cur) (hds : ∀ p ∈ ds, BdOk (fun b => B ≤ b ∧ b ≠ g) w p) (hx : cur.toList.take (n * 3) = ds.flatMap encB) (h1 : n ≤ rc) (h2 : rc ≤ maxLen) (h3 : cur.size = rc * 3) (hB : B ≤ g) (hn : n = ds.length) : RowE eltB w B e (some ⟨g, 0, none⟩) rc n (ds.map (·.1)) := by
  have hk3 : eltB.k = 3 := rfl
  refine ⟨⟨ds.flatMap encB, ⟨by rw [len_encB, hn, hk3], .inr ⟨g, rc, cur, rfl, hB, hb, h1, h2, by rw [hk3]; exact h3, by rw [hk3]; exact hx⟩⟩, bdv_elts fun p hp => ⟨(hds p hp).1, InT.mono (fun b hb _ => ⟨hb.1, fun e => hb.2 (by rw [own_some] at e; exact (Option.some.inj e).symm)⟩) (hds p hp).2⟩⟩, by simpa using hn⟩
theorem InRow.opts {S : Nat → Prop} (hg : ∀ k, k < n → ∃ p : Option Addr × Nat, w.cell? ⟨g, 0 + k * 3, none⟩ = some (.int .i64 (dget P k).var) ∧ w.cell? ⟨g, 0 + k * 3 + 1, none⟩ = some (.int .i64 (dget P k).t.f) ∧ w.cell? ⟨g, 0 + k * 3 + 2, none⟩ = some (.slice p.1 (dget P k).t.args.length p.2) ∧
      InT S w (dget P k).t (.agg #[.int .i64 (dget P k).t.f, .slice p.1 (dget P k).t.args.length p.2]) ∧ I64 (dget P k).var) : ∃ (A : Nat → Option Addr) (C : Nat → Nat), ∀ k, k < n → w.cell? ⟨g, 0 + k * 3, none⟩ = some (.int .i64 (dget P k).var) ∧ w.cell? ⟨g, 0 + k * 3 + 1, none⟩ = some (.int .i64 (dget P k).t.f) ∧ w.cell? ⟨g, 0 + k * 3 + 2, none⟩ = some (.slice (A k) (dget P k).t.args.length (C k)) ∧
      InT S w (dget P k).t (.agg #[.int .i64 (dget P k).t.f, .slice (A k) (dget P k).t.args.length (C k)]) ∧ I64 (dget P k).var := by
  have : Inhabited (Option Addr × Nat) := ⟨(none, 0)⟩
  obtain ⟨F, hF⟩ := Go.Deep.choose_lt hg
  exact ⟨fun k => (F k).1, fun k => (F k).2, hF⟩
theorem flat_at : ∀ (ds : List BdV) (k : Nat) (hk : k < ds.length) (j : Nat), j < 3 → (ds.flatMap encB)[k * 3 + j]? = (encB ds[k])[j]?
  | [], k, hk, _, _ => by simp at hk
  | p :: r, 0, _, j, hj => by rw [List.flatMap_cons, List.getElem?_append_left (by show 0 * 3 + j < 3; omega), Nat.zero_mul, Nat.zero_add]; rfl
  | p :: r, k + 1, hk, j, hj => by
    rw [List.flatMap_cons, List.getElem?_append_right (by show 3 ≤ _; omega)]
    show (r.flatMap encB)[(k + 1) * 3 + j - 3]? = _
    rw [show (k + 1) * 3 + j - 3 = k * 3 + j by omega, flat_at r k (by simpa using hk) j hj]; rfl
theorem RowE.cells (h : RowE eltB w B e (some ⟨g, 0, none⟩) rc n P) : ∃ (A : Nat → Option Addr) (C : Nat → Nat), ∀ k, k < n → w.cell? ⟨g, 0 + k * 3, none⟩ = some (.int .i64 (dget P k).var) ∧ w.cell? ⟨g, 0 + k * 3 + 1, none⟩ = some (.int .i64 (dget P k).t.f) ∧ w.cell? ⟨g, 0 + k * 3 + 2, none⟩ = some (.slice (A k) (dget P k).t.args.length (C k)) ∧
      InT (fun b => B ≤ b ∧ b ≠ g) w (dget P k).t (.agg #[.int .i64 (dget P k).t.f, .slice (A k) (dget P k).t.args.length (C k)]) ∧ I64 (dget P k).var := by
  obtain ⟨cur, ds, h1, rfl, h3, h4, h5, h6, h7, h8, h9⟩ := h.open3
  refine InRow.opts fun k hk => ?_
  have hkd : k < ds.length := by simpa [h9] using hk
  have hp := h3 ds[k] (List.getElem_mem hkd)
  have hd : dget (ds.map (·.1)) k = ds[k].1 := by rw [dget_lt (by simpa using hkd)]; simp
  obtain ⟨_, p, c, e, _, _, _⟩ := hp.2.form
  simp only [Value.agg.injEq, Array.mk.injEq, List.cons.injEq, and_true] at e
  have hc : ∀ j, j < 3 → w.cell? ⟨g, 0 + k * 3 + j, none⟩ = (encB ds[k])[j]? := fun j hj => by
    rw [h1.cell, ← flat_at ds k hkd j hj, ← h4, List.getElem?_take_of_lt (by omega), Array.getElem?_toList, Nat.zero_add]
  have c0 := hc 0 (by decide)
  have c1 := hc 1 (by decide)
  have c2 := hc 2 (by decide)
  simp only [encB] at c0 c1 c2
  rw [hd]
  refine ⟨(p, c), c0, c1.trans (by rw [← e.1]; rfl), c2.trans (by rw [← e.2]; rfl), ?_, hp.1⟩
  rw [← e.1, ← e.2]; exact hp.2
theorem flat_set : ∀ (ds : List BdV) (i : Nat) (x : BdV), i < ds.length → (((ds.flatMap encB).set (i * 3) (.int .i64 x.1.var)).set (i * 3 + 1) x.2.1).set (i * 3 + 2) x.2.2 = (ds.set i x).flatMap encB
  | [], i, x, h => by simp at h
  | p :: r, 0, x, _ => by simp [List.flatMap_cons, encB]
  | p :: r, i + 1, x, h => by
    have ih := flat_set r i x (by simpa using h)
    rw [List.set_cons_succ, List.flatMap_cons, List.flatMap_cons, ← ih]
    have e3 : ∀ k v, 3 ≤ k → ∀ l : List Value, (encB p ++ l).set k v = encB p ++ l.set (k - 3) v := fun k v hk l => by rw [List.set_append_right _ _ (show (encB p).length ≤ k from hk)]; rfl
    rw [e3 _ _ (by omega), e3 _ _ (by omega), e3 _ _ (by omega), show (i + 1) * 3 - 3 = i * 3 by omega, show (i + 1) * 3 + 1 - 3 = i * 3 + 1 by omega, show (i + 1) * 3 + 2 - 3 = i * 3 + 2 by omega]
theorem RowE.store3 (h : RowE eltB w B e (some ⟨g, 0, none⟩) rc n P) {i : Nat} (hi : i < n) {x : Bd} {u v : Value} (hx : I64 x.var) (hin : InT (fun b => B ≤ b ∧ b ≠ g) w x.t (.agg #[u, v])) :
    RowE eltB (((w.setCell ⟨g, 0 + i * 3, none⟩ (.int .i64 x.var)).setCell ⟨g, 0 + i * 3 + 1, none⟩ u).setCell ⟨g, 0 + i * 3 + 2, none⟩ v) B e (some ⟨g, 0, none⟩) rc n (P.set i x) := by
  obtain ⟨cur, ds, h1, rfl, h3, h4, h5, h6, h7, h8, h9⟩ := h.open3
  have hu : Upd g w (((w.setCell ⟨g, 0 + i * 3, none⟩ (.int .i64 x.var)).setCell ⟨g, 0 + i * 3 + 1, none⟩ u).setCell ⟨g, 0 + i * 3 + 2, none⟩ v) := ((Upd.at_ _ _ _ _).trans (Upd.at_ _ _ _ _)).trans (Upd.at_ _ _ _ _)
  have hk : ∀ (p : Addr) (v' : Value), (B ≤ p.block ∧ p.block ≠ g) → w.cell? p = some v' → (((w.setCell ⟨g, 0 + i * 3, none⟩ (.int .i64 x.var)).setCell ⟨g, 0 + i * 3 + 1, none⟩ u).setCell ⟨g, 0 + i * 3 + 2, none⟩ v).cell? p = some v' := fun p v' hp hv => by
    have e := hu.block p.block hp.2
    unfold World.cell? at hv ⊢
    rw [e]; exact hv
  have hil : i < ds.length := by simpa [h9] using hi
  have e1 : (ds.map (·.1)).set i x = (ds.set i (x, u, v)).map (·.1) := by rw [List.map_set]
  rw [e1]
  have hB3 := ((h1.set_ (0 + i * 3) (.int .i64 x.var)).set_ (0 + i * 3 + 1) u).set_ (0 + i * 3 + 2) v
  refine RowE.mk3 hB3 (fun p hp => ?_) ?_ h5 h6 (by simpa using h7) h8 (by simpa using h9)
  · rcases List.mem_or_eq_of_mem_set hp with hp | rfl
    · exact ⟨(h3 p hp).1, InT.keep hk (h3 p hp).2⟩
    · exact ⟨hx, InT.keep hk hin⟩
  · rw [← flat_set ds i (x, u, v) hil, ← h4]
    simp only [Array.toList_setIfInBounds, List.take_set, Nat.zero_add]

theorem setCells_up : ∀ (vs : List Value) (o : Nat) (w : World) (cs : Array Value), Blk w g e cs → ∃ cs', Blk (w.setCells g o vs) g e cs' ∧ cs'.size = cs.size ∧ (∀ k, k < o → cs'[k]? = cs[k]?) ∧ Upd g w (w.setCells g o vs)
  | [], _, _, cs, h => ⟨cs, h, rfl, fun _ _ => rfl, ⟨rfl, rfl, rfl, rfl, fun _ _ => rfl⟩⟩
  | v :: r, o, w, cs, h => by
    obtain ⟨cs', h1, h2, h3, h4⟩ := setCells_up r (o + 1) _ _ (h.set_ o v)
    refine ⟨cs', h1, by simpa using h2, fun k hk => ?_, (Upd.at_ _ _ _ _).trans h4⟩
    rw [h3 k (by omega), Array.getElem?_setIfInBounds_ne (by omega)]
theorem RowE.cut3 (h : RowE eltB w B e (some ⟨g, 0, none⟩) rc n P) {i : Nat} (hi : i ≤ n) (vs : List Value) : RowE eltB (w.setCells g (0 + i * 3) vs) B e (some ⟨g, 0, none⟩) rc i (P.take i) ∧ Upd g w (w.setCells g (0 + i * 3) vs) := by
  obtain ⟨cur, ds, h1, rfl, h3, h4, h5, h6, h7, h8, h9⟩ := h.open3
  obtain ⟨cs', k1, k2, k3, hu⟩ := setCells_up vs (0 + i * 3) w cur h1
  have hk : ∀ (p : Addr) (v' : Value), (B ≤ p.block ∧ p.block ≠ g) → w.cell? p = some v' → (w.setCells g (0 + i * 3) vs).cell? p = some v' := fun p v' hp hv => by
    have e := hu.block p.block hp.2
    unfold World.cell? at hv ⊢
    rw [e]; exact hv
  have hlen : ds.length = n := by simpa using h9.symm
  refine ⟨?_, hu⟩
  rw [← List.map_take]
  refine RowE.mk3 k1 (fun p hp => ⟨(h3 p (List.mem_of_mem_take hp)).1, InT.keep hk (h3 p (List.mem_of_mem_take hp)).2⟩) ?_ (by omega) h6 (by omega) h8 (by simp; omega)
  apply List.ext_getElem?
  intro k
  by_cases hlt : k < i * 3
  · rw [List.getElem?_take_of_lt hlt, Array.getElem?_toList, k3 k (by omega)]
    have this : (cur.toList.take (n * 3))[k]? = (ds.flatMap encB)[k]? := by rw [h4]
    rw [List.getElem?_take_of_lt (by omega), Array.getElem?_toList] at this
    rw [this]
    have hd := (List.take_append_drop i ds)
    conv => lhs; rw [← hd, List.flatMap_append]
    rw [List.getElem?_append_left (by rw [len_encB]; simp; omega)]
  · rw [List.getElem?_eq_none (by simp; omega), List.getElem?_eq_none (by rw [len_encB]; simp; omega)]
theorem RowE.nilOr {ra : Option Addr} (h : RowE eltB w B e ra rc n P) : (ra = none ∧ n = 0 ∧ rc = 0 ∧ P = []) ∨ ∃ g, ra = some ⟨g, 0, none⟩ := by
  obtain ⟨⟨xs, h1, h2⟩, hl⟩ := h
  rcases h1.2 with ⟨e1, h0⟩ | ⟨b, cap, cur, e1, _⟩
  · simp only [Value.slice.injEq] at e1
    obtain ⟨rfl, rfl, rfl⟩ := e1
    exact .inl ⟨rfl, rfl, rfl, List.length_eq_zero_iff.1 hl.symm⟩
  · simp only [Value.slice.injEq] at e1
    exact .inr ⟨b, e1.1⟩
end

end Go.Proofs.Ytcmfjnadjddboaa

/- Variables named anew, in the order in which they come: plain; how what was named lies in memory. -/
namespace Go.Proofs.Ytcmfjnadjddboaa
open Go.RowKit Go
set_option linter.unusedVariables false
set_option linter.unusedSimpArgs false

/-- The number of a variable: its place. -/
def nmIx : List Int → Int → Nat → Option Nat
  | [], _, _ => none
  | u :: r, v, k => if v = u then some k else nmIx r v (k + 1)
def nmL : List Int → Nat → List (Int × Value)
  | [], _ => []
  | u :: r, k => (u, .int .i64 (k : Nat)) :: nmL r (k + 1)
def nmB : List Int → Nat → List Bd
  | [], _ => []
  | u :: r, k => (if (k : Int) = u then [] else [⟨u, .mk (-1 - (k : Int)) []⟩]) ++ nmB r (k + 1)
/-- What is answered for a variable, and what is named then. -/
def nmTo (ns : List Int) (v : Int) : Nat × List Int := match nmIx ns v 0 with | some i => (i, ns) | none => (ns.length, ns ++ [v])
theorem nmL_len : ∀ (ns : List Int) (k : Nat), (nmL ns k).length = ns.length
  | [], _ => rfl
  | u :: r, k => by simp [nmL, nmL_len r]
theorem nmL_snoc : ∀ (ns : List Int) (v : Int) (k : Nat), nmL (ns ++ [v]) k = nmL ns k ++ [(v, .int .i64 ((k + ns.length : Nat) : Int))]
  | [], v, k => rfl
  | u :: r, v, k => by
    rw [List.cons_append, nmL, nmL, nmL_snoc r v (k + 1), List.cons_append, List.length_cons, show k + 1 + r.length = k + (r.length + 1) by omega]
theorem nmB_snoc : ∀ (ns : List Int) (v : Int) (k : Nat), nmB (ns ++ [v]) k = nmB ns k ++ (if ((k + ns.length : Nat) : Int) = v then [] else [⟨v, .mk (-1 - ((k + ns.length : Nat) : Int)) []⟩])
  | [], v, k => by simp [nmB]
  | u :: r, v, k => by
    rw [List.cons_append, nmB, nmB, nmB_snoc r v (k + 1), List.append_assoc, List.length_cons, show k + 1 + r.length = k + (r.length + 1) by omega]
theorem nmB_len : ∀ (ns : List Int) (k : Nat), (nmB ns k).length ≤ ns.length
  | [], _ => Nat.le_refl _
  | u :: r, k => by
    have := nmB_len r (k + 1)
    rw [nmB, List.length_append, List.length_cons]
    split <;> simp <;> omega
theorem nm_find : ∀ (ns : List Int) (v : Int) (k j : Nat), imFind (nmL ns k) v j = (nmIx ns v k).map (fun i => (j + (i - k), .int .i64 (i : Nat)))
  | [], v, k, j => rfl
  | u :: r, v, k, j => by
    rw [nmL, imFind, nmIx]
    by_cases h : v = u
    · rw [if_pos h, if_pos h]; simp
    · rw [if_neg h, if_neg h, nm_find r v (k + 1) (j + 1)]
      cases hx : nmIx r v (k + 1) with
      | none => rfl
      | some i =>
        have : k + 1 ≤ i := by
          clear h
          revert hx
          generalize k + 1 = m
          induction r generalizing m with
          | nil => intro hx; cases hx
          | cons a r ih =>
            intro hx
            rw [nmIx] at hx
            split at hx
            · cases hx; exact Nat.le_refl _
            · have := ih (m + 1) hx; omega
        simp; omega
theorem nm_look (ns : List Int) (v : Int) : imLook (nmL ns 0) v = (nmIx ns v 0).map (fun i => .int .i64 (i : Nat)) := by
  unfold imLook
  rw [nm_find]
  cases nmIx ns v 0 <;> rfl
theorem nm_none {ns : List Int} {v : Int} (h : nmIx ns v 0 = none) : ∀ x ∈ nmL ns 0, x.1 ≠ v := by
  have := nm_find ns v 0 0
  rw [h] at this
  exact imFind_none.1 this
theorem nmIx_lt : ∀ {ns : List Int} {v : Int} {k i : Nat}, nmIx ns v k = some i → i < k + ns.length
  | [], _, _, _, h => nomatch h
  | u :: r, v, k, i, h => by
    rw [nmIx] at h
    rw [List.length_cons]
    split at h
    · cases h; omega
    · have := nmIx_lt h; omega
theorem nmTo_len (ns : List Int) (v : Int) : ns.length ≤ (nmTo ns v).2.length ∧ (nmTo ns v).2.length ≤ ns.length + 1 ∧ (nmTo ns v).1 ≤ ns.length := by
  unfold nmTo
  cases h : nmIx ns v 0 with
  | none => simp
  | some i => have := nmIx_lt h; simp; omega
mutual
/-- A term, its variables named anew. -/
def T.rn : T → List Int → T × List Int
  | .mk f l, ns => if f < 0 then (.mk (-1 - ((nmTo ns (-1 - f)).1 : Int)) (T.rnL l (nmTo ns (-1 - f)).2).1, (T.rnL l (nmTo ns (-1 - f)).2).2) else (.mk f (T.rnL l ns).1, (T.rnL l ns).2)
def T.rnL : List T → List Int → List T × List Int
  | [], ns => ([], ns)
  | t :: r, ns => ((t.rn ns).1 :: (T.rnL r (t.rn ns).2).1, (T.rnL r (t.rn ns).2).2)
end
theorem rnL_len : ∀ (l : List T) (ns : List Int), (T.rnL l ns).1.length = l.length
  | [], _ => rfl
  | t :: r, ns => by rw [T.rnL, List.length_cons, List.length_cons, rnL_len r]
theorem rnL_snoc : ∀ (l : List T) (t : T) (ns : List Int), T.rnL (l ++ [t]) ns = ((T.rnL l ns).1 ++ [(t.rn (T.rnL l ns).2).1], (t.rn (T.rnL l ns).2).2)
  | [], t, ns => rfl
  | x :: l, t, ns => by rw [List.cons_append, T.rnL, T.rnL, rnL_snoc l t]; rfl
theorem rnL_take {l : List T} {k : Nat} (h : k < l.length) (ns : List Int) : T.rnL (l.take (k + 1)) ns = ((T.rnL (l.take k) ns).1 ++ [((tget l k).rn (T.rnL (l.take k) ns).2).1], ((tget l k).rn (T.rnL (l.take k) ns).2).2) := by
  rw [List.take_succ_eq_append_getElem h, rnL_snoc, tget_lt h]
mutual
theorem T.rn_len : ∀ (t : T) (ns : List Int), ns.length ≤ (t.rn ns).2.length ∧ (t.rn ns).2.length ≤ ns.length + t.size
  | .mk f l, ns => by
    rw [T.rn, T.size]
    split
    · have h1 := nmTo_len ns (-1 - f)
      have h2 := T.rnL_len' l (nmTo ns (-1 - f)).2
      simp only; omega
    · have h2 := T.rnL_len' l ns
      simp only; omega
theorem T.rnL_len' : ∀ (l : List T) (ns : List Int), ns.length ≤ (T.rnL l ns).2.length ∧ (T.rnL l ns).2.length ≤ ns.length + T.sizeL l
  | [], ns => by simp [T.rnL, T.sizeL]
  | t :: r, ns => by
    have h1 := T.rn_len t ns
    have h2 := T.rnL_len' r (t.rn ns).2
    rw [T.rnL, T.sizeL]
    simp only; omega
end
/-- What was named, in memory: the box of the map, the box of the bindings. -/
structure NmIn (w : World) (gn gs : Nat) (ns : List Int) (C : Nat → Prop) (mb : Nat) (es : Array MapEntry) (cl : Nat) (a : Option Addr) (c : Nat) : Prop where
  bn : Blk w gn 78 #[.map (some mb)]
  mp : ObjAt w mb (.map es cl)
  ent : ImE es cl (nmL ns 0)
  bs : Blk w gs 26 #[.slice a (nmB ns 0).length c]
  row : RowD eltB (fun _ => False) w 57 a c (nmB ns 0).length (nmB ns 0)
  ne : gn ≠ gs
  cn : C gn
  cs : C gs
  cm : C mb
  crow : ∀ b, (Value.slice a (nmB ns 0).length c).ownBlock = some b → C b
  clt : ∀ b, C b → b < w.heap.size
def NmAt (w : World) (gn gs : Nat) (ns : List Int) (C : Nat → Prop) : Prop := ∃ mb es cl a c, NmIn w gn gs ns C mb es cl a c
section
variable {w w' : World} {gn gs : Nat} {ns : List Int} {C S : Nat → Prop} {mb : Nat} {es : Array MapEntry} {cl : Nat} {a : Option Addr} {c : Nat}
theorem NmIn.chg (h : NmIn w gn gs ns C mb es cl a c) (hc : Chg S w w') (hS : ∀ b, C b → ¬ S b) : NmIn w' gn gs ns C mb es cl a c :=
  ⟨chg_blk h.bn hc (hS _ h.cn), h.mp.chg hc (hS _ h.cm), h.ent, chg_blk h.bs hc (hS _ h.cs), h.row.chg hc (fun b q => hS b (h.crow b q)) (fun _ q => q.elim), h.ne, h.cn, h.cs, h.cm, h.crow, fun b q => Nat.lt_of_lt_of_le (h.clt b q) hc.size⟩
theorem NmAt.chg (h : NmAt w gn gs ns C) (hc : Chg S w w') (hS : ∀ b, C b → ¬ S b) : NmAt w' gn gs ns C := by
  obtain ⟨mb, es, cl, a, c, h⟩ := h
  exact ⟨mb, es, cl, a, c, h.chg hc hS⟩
theorem NmAt.below (h : NmAt w gn gs ns C) (hb : Below w.heap.size w w') : NmAt w' gn gs ns C := h.chg (S := fun _ => False) (.ofBelow hb) (fun _ _ => id)
theorem NmAt.clt (h : NmAt w gn gs ns C) : ∀ b, C b → b < w.heap.size := by
  obtain ⟨mb, es, cl, a, c, h⟩ := h
  exact h.clt
theorem NmIn.rown (h : NmIn w gn gs ns C mb es cl a c) : (Value.slice a (nmB ns 0).length c).ownBlock ≠ some gn := h.row.neBlk h.bn (by decide)
theorem NmIn.rows (h : NmIn w gn gs ns C mb es cl a c) : (Value.slice a (nmB ns 0).length c).ownBlock ≠ some gs := h.row.neBlk h.bs (by decide)
theorem NmIn.rowm (h : NmIn w gn gs ns C mb es cl a c) : (Value.slice a (nmB ns 0).length c).ownBlock ≠ some mb := h.row.rowE.neMap h.mp
theorem NmIn.mn (h : NmIn w gn gs ns C mb es cl a c) : gn ≠ mb := h.mp.neBlk h.bn
theorem NmIn.ms (h : NmIn w gn gs ns C mb es cl a c) : gs ≠ mb := h.mp.neBlk h.bs
end

end Go.Proofs.Ytcmfjnadjddboaa

/- Variants have the same normal form: plain. -/
namespace Go.Proofs.Ytcmfjnadjddboaa
open Go.RowKit Go
set_option linter.unusedVariables false
set_option linter.unusedSimpArgs false

theorem nmIx_spec : ∀ {ns : List Int} {v : Int} {k i : Nat}, nmIx ns v k = some i → k ≤ i ∧ ns[i - k]? = some v ∧ ∀ j, j < i - k → ns[j]? ≠ some v
  | [], _, _, _, h => nomatch h
  | u :: r, v, k, i, h => by
    rw [nmIx] at h
    split at h
    · rename_i e
      cases h
      refine ⟨Nat.le_refl _, by simp [e], fun j hj => by omega⟩
    · rename_i e
      obtain ⟨h1, h2, h3⟩ := nmIx_spec h
      obtain ⟨m, hm⟩ : ∃ m, i - k = m + 1 := ⟨i - k - 1, by omega⟩
      refine ⟨by omega, ?_, fun j hj => ?_⟩
      · rw [hm, List.getElem?_cons_succ]
        rw [show i - (k + 1) = m by omega] at h2
        exact h2
      · cases j with
        | zero => simp; exact fun q => e q.symm
        | succ j => rw [List.getElem?_cons_succ]; exact h3 j (by omega)
theorem nmIx_no : ∀ {ns : List Int} {v : Int} {k : Nat}, nmIx ns v k = none → ∀ (j : Nat), ns[j]? ≠ some v
  | [], _, _, _, j => by simp
  | u :: r, v, k, h, j => by
    rw [nmIx] at h
    split at h
    · cases h
    · rename_i e
      cases j with
      | zero => simp; exact fun q => e q.symm
      | succ j => rw [List.getElem?_cons_succ]; exact nmIx_no h j
theorem nmTo_get (ns : List Int) (v : Int) : (nmTo ns v).2[(nmTo ns v).1]? = some v := by
  unfold nmTo
  cases h : nmIx ns v 0 with
  | none => simp
  | some i => have := (nmIx_spec h).2.1; simpa using this
theorem nmTo_pre (ns : List Int) (v : Int) : ns <+: (nmTo ns v).2 := by
  unfold nmTo
  cases h : nmIx ns v 0 with
  | none => exact List.prefix_append _ _
  | some i => exact List.prefix_refl _
theorem nmTo_len2 (ns : List Int) (v : Int) : (nmTo ns v).2.length = if (nmTo ns v).1 < ns.length then ns.length else ns.length + 1 := by
  unfold nmTo
  cases h : nmIx ns v 0 with
  | none => simp
  | some i => have := nmIx_lt h; simp at this; simp [this]
mutual
theorem T.rn_pre : ∀ (t : T) (ns : List Int), ns <+: (t.rn ns).2
  | .mk f l, ns => by
    rw [T.rn]
    split
    · exact (nmTo_pre ns (-1 - f)).trans (T.rnL_pre l _)
    · exact T.rnL_pre l ns
theorem T.rnL_pre : ∀ (l : List T) (ns : List Int), ns <+: (T.rnL l ns).2
  | [], ns => by rw [T.rnL]; exact List.prefix_refl _
  | t :: r, ns => by rw [T.rnL]; exact (T.rn_pre t ns).trans (T.rnL_pre r _)
end
theorem nmTo_nd {ns : List Int} (v : Int) (h : ns.Nodup) : (nmTo ns v).2.Nodup := by
  unfold nmTo
  cases hx : nmIx ns v 0 with
  | some i => exact h
  | none =>
    have := nmIx_no hx
    rw [List.nodup_append]
    refine ⟨h, by simp, fun a ha b hb e => ?_⟩
    obtain ⟨j, hj, rfl⟩ := List.getElem_of_mem ha
    have hb' : b = v := by simpa using hb
    exact this j (by rw [List.getElem?_eq_getElem hj, e, hb'])
mutual
theorem T.rn_nd : ∀ (t : T) (ns : List Int), ns.Nodup → (t.rn ns).2.Nodup
  | .mk f l, ns, h => by
    rw [T.rn]
    split
    · exact T.rnL_nd l _ (nmTo_nd _ h)
    · exact T.rnL_nd l ns h
theorem T.rnL_nd : ∀ (l : List T) (ns : List Int), ns.Nodup → (T.rnL l ns).2.Nodup
  | [], ns, h => by rw [T.rnL]; exact h
  | t :: r, ns, h => by rw [T.rnL]; exact T.rnL_nd r _ (T.rn_nd t ns h)
end
mutual
/-- Terms alike but for their variables, which 'R' relates. -/
def T.rel (R : Int → Int → Prop) : T → T → Prop
  | .mk f l, t => if f < 0 then l = [] ∧ t.f < 0 ∧ t.args = [] ∧ R (-1 - f) (-1 - t.f) else f = t.f ∧ T.relL R l t.args
def T.relL (R : Int → Int → Prop) : List T → List T → Prop
  | [], ts => ts = []
  | p :: ps, ts => ∃ t r, ts = t :: r ∧ p.rel R t ∧ T.relL R ps r
end
def InvR (R : Int → Int → Prop) (A B : List Int) : Prop := A.length = B.length ∧ ∀ (i : Nat) v u, A[i]? = some v → B[i]? = some u → R v u
structure BiFun (R : Int → Int → Prop) : Prop where
  l : ∀ v u u', R v u → R v u' → u = u'
  r : ∀ v v' u, R v u → R v' u → v = v'
theorem inv_get {R : Int → Int → Prop} {A B : List Int} (h : InvR R A B) {i : Nat} {v : Int} (hv : A[i]? = some v) : ∃ u, B[i]? = some u ∧ R v u := by
  have h1 := (List.getElem?_eq_some_iff.1 hv).1
  have h2 : i < B.length := by have := h.1; omega
  exact ⟨B[i], List.getElem?_eq_getElem h2, h.2 i _ _ hv (List.getElem?_eq_getElem h2)⟩
theorem inv_get' {R : Int → Int → Prop} {A B : List Int} (h : InvR R A B) {i : Nat} {u : Int} (hu : B[i]? = some u) : ∃ v, A[i]? = some v ∧ R v u := by
  have h1 := (List.getElem?_eq_some_iff.1 hu).1
  have h2 : i < A.length := by have := h.1; omega
  exact ⟨A[i], List.getElem?_eq_getElem h2, h.2 i _ _ (List.getElem?_eq_getElem h2) hu⟩
theorem inv_step {R : Int → Int → Prop} (hR : BiFun R) {A B : List Int} (h : InvR R A B) {v u : Int} (hvu : R v u) : (nmTo A v).1 = (nmTo B u).1 ∧ InvR R (nmTo A v).2 (nmTo B u).2 := by
  cases ha : nmIx A v 0 with
  | some i =>
    obtain ⟨_, a2, a3⟩ := nmIx_spec ha
    rw [Nat.sub_zero] at a2 a3
    obtain ⟨u', b1, b2⟩ := inv_get h a2
    obtain rfl := hR.l _ _ _ hvu b2
    cases hb : nmIx B u 0 with
    | none => exact absurd b1 (nmIx_no hb i)
    | some j =>
      obtain ⟨_, c2, c3⟩ := nmIx_spec hb
      rw [Nat.sub_zero] at c2 c3
      obtain ⟨v', d1, d2⟩ := inv_get' h c2
      obtain rfl := hR.r _ _ _ hvu d2
      have : i = j := by
        rcases Nat.lt_trichotomy i j with q | q | q
        · exact absurd b1 (c3 i q)
        · exact q
        · exact absurd d1 (a3 j q)
      unfold nmTo
      rw [ha, hb]
      exact ⟨this, h⟩
  | none =>
    cases hb : nmIx B u 0 with
    | some j =>
      obtain ⟨_, c2, _⟩ := nmIx_spec hb
      rw [Nat.sub_zero] at c2
      obtain ⟨v', d1, d2⟩ := inv_get' h c2
      obtain rfl := hR.r _ _ _ hvu d2
      exact absurd d1 (nmIx_no ha j)
    | none =>
      unfold nmTo
      rw [ha, hb]
      refine ⟨h.1, by simp [h.1], fun i x y hx hy => ?_⟩
      rcases Nat.lt_or_ge i A.length with q | q
      · rw [List.getElem?_append_left q] at hx
        rw [List.getElem?_append_left (by have := h.1; omega)] at hy
        exact h.2 i x y hx hy
      · rw [List.getElem?_append_right q] at hx
        rw [List.getElem?_append_right (by have := h.1; omega)] at hy
        have h0 : i - A.length = 0 := by
          have := (List.getElem?_eq_some_iff.1 hx).1
          simp at this; exact this
        rw [h0] at hx
        rw [← h.1, h0] at hy
        simp at hx hy
        rw [← hx, ← hy]; exact hvu
mutual
theorem T.rel_rn {R : Int → Int → Prop} (hR : BiFun R) : ∀ (a b : T) (A B : List Int), a.rel R b → InvR R A B → (a.rn A).1 = (b.rn B).1 ∧ InvR R (a.rn A).2 (b.rn B).2
  | .mk f l, .mk g m, A, B, h, hi => by
    rw [T.rel] at h
    split at h
    · rename_i hf
      obtain ⟨rfl, hg, hm, hr⟩ := h
      have hg' : g < 0 := hg
      have hm' : m = [] := hm
      subst hm'
      obtain ⟨h1, h2⟩ := inv_step hR hi hr
      have h1' : (nmTo A (-1 - f)).1 = (nmTo B (-1 - g)).1 := h1
      rw [T.rn, T.rn, if_pos hf, if_pos hg', T.rnL, T.rnL]
      exact ⟨by simp only; rw [h1'], h2⟩
    · rename_i hf
      obtain ⟨he, hl⟩ := h
      have he' : f = g := he
      subst he'
      obtain ⟨h1, h2⟩ := T.relL_rn hR l m A B hl hi
      rw [T.rn, T.rn, if_neg hf, if_neg hf]
      exact ⟨by simp only; rw [h1], h2⟩
theorem T.relL_rn {R : Int → Int → Prop} (hR : BiFun R) : ∀ (l m : List T) (A B : List Int), T.relL R l m → InvR R A B → (T.rnL l A).1 = (T.rnL m B).1 ∧ InvR R (T.rnL l A).2 (T.rnL m B).2
  | [], m, A, B, h, hi => by
    have : m = [] := h
    subst this
    rw [T.rnL, T.rnL]; exact ⟨rfl, hi⟩
  | p :: ps, m, A, B, h, hi => by
    obtain ⟨t, r, rfl, h1, h2⟩ := h
    obtain ⟨k1, k2⟩ := T.rel_rn hR p t A B h1 hi
    obtain ⟨k3, k4⟩ := T.relL_rn hR ps r _ _ h2 k2
    rw [T.rnL, T.rnL]
    exact ⟨by simp only; rw [k1, k3], k4⟩
end
theorem inv_nil {R : Int → Int → Prop} : InvR R [] [] := ⟨rfl, fun i v u h => by simp at h⟩
/-- What stands at the same place. -/
def AtSame (FA FB : List Int) (v u : Int) : Prop := ∃ i : Nat, FA[i]? = some v ∧ FB[i]? = some u
theorem pre_get {l m : List Int} (h : l <+: m) {i : Nat} {v : Int} (hv : l[i]? = some v) : m[i]? = some v := by
  obtain ⟨r, rfl⟩ := h
  rw [List.getElem?_append_left (List.getElem?_eq_some_iff.1 hv).1]; exact hv
mutual
theorem T.rn_rel {FA FB : List Int} : ∀ (a b : T) (A B : List Int), a.plain = true → b.plain = true → A.length = B.length → (a.rn A).1 = (b.rn B).1 → (a.rn A).2 <+: FA → (b.rn B).2 <+: FB → a.rel (AtSame FA FB) b ∧ (a.rn A).2.length = (b.rn B).2.length
  | .mk f l, .mk g m, A, B, ha, hb, hl, he, pa, pb => by
    rw [T.rel]
    rw [T.rn] at he pa ⊢
    rw [T.rn] at he pb ⊢
    by_cases hf : f < 0
    · obtain rfl := plain_nil ha hf
      rw [if_pos hf] at he pa ⊢
      by_cases hg : g < 0
      · obtain rfl := plain_nil hb hg
        rw [if_pos hg] at he pb ⊢
        simp only [T.rnL, T.mk.injEq, and_true] at he pa pb ⊢
        have hi : (nmTo A (-1 - f)).1 = (nmTo B (-1 - g)).1 := by omega
        rw [if_pos hf]
        refine ⟨⟨trivial, hg, rfl, (nmTo A (-1 - f)).1, pre_get pa (nmTo_get A _), ?_⟩, ?_⟩
        · rw [hi]; exact pre_get pb (nmTo_get B _)
        · rw [nmTo_len2, nmTo_len2, hi, hl]
      · rw [if_neg hg] at he
        simp only [T.mk.injEq] at he
        omega
    · rw [if_neg hf] at he pa ⊢
      by_cases hg : g < 0
      · rw [if_pos hg] at he
        simp only [T.mk.injEq] at he
        omega
      · rw [if_neg hg] at he pb ⊢
        simp only [T.mk.injEq] at he
        obtain ⟨h1, h2⟩ := T.rnL_rel l m A B (plain_args ha) (plain_args hb) hl he.2 pa pb
        rw [if_neg hf]
        exact ⟨⟨he.1, h1⟩, h2⟩
theorem T.rnL_rel {FA FB : List Int} : ∀ (l m : List T) (A B : List Int), T.plainL l = true → T.plainL m = true → A.length = B.length → (T.rnL l A).1 = (T.rnL m B).1 → (T.rnL l A).2 <+: FA → (T.rnL m B).2 <+: FB → T.relL (AtSame FA FB) l m ∧ (T.rnL l A).2.length = (T.rnL m B).2.length
  | [], m, A, B, _, _, hl, he, _, _ => by
    cases m with
    | nil => rw [T.relL, T.rnL, T.rnL]; exact ⟨rfl, hl⟩
    | cons t r => rw [T.rnL, T.rnL] at he; cases he
  | p :: ps, m, A, B, ha, hb, hl, he, pa, pb => by
    cases m with
    | nil => rw [T.rnL, T.rnL] at he; cases he
    | cons t r =>
      rw [T.plainL, Bool.and_eq_true] at ha hb
      rw [T.rnL] at he pa ⊢
      rw [T.rnL] at he pb ⊢
      simp only [List.cons.injEq] at he
      obtain ⟨h1, h2⟩ := T.rn_rel p t A B ha.1 hb.1 hl he.1 ((T.rnL_pre ps _).trans pa) ((T.rnL_pre r _).trans pb)
      obtain ⟨h3, h4⟩ := T.rnL_rel ps r _ _ ha.2 hb.2 h2 he.2 pa pb
      exact ⟨⟨t, r, rfl, h1, h3⟩, h4⟩
end
mutual
theorem T.rel_app {R : Int → Int → Prop} {z : List Bd} (hz : ∀ v u, R v u → subFind z v = some (.mk (-1 - u) [])) : ∀ (a b : T), a.rel R b → a.app z = b
  | .mk f l, .mk g m, h => by
    rw [T.rel] at h
    split at h
    · rename_i hf
      obtain ⟨rfl, hg, hm, hr⟩ := h
      have hm' : m = [] := hm
      subst hm'
      rw [app_some hf (hz _ _ hr)]
      show T.mk (-1 - (-1 - g)) [] = T.mk g []
      rw [show -1 - (-1 - g) = g by omega]
    · rename_i hf
      obtain ⟨he, hl⟩ := h
      have he' : f = g := he
      rw [app_none (fun q => absurd q hf), T.relL_app hz l m hl, he']
theorem T.relL_app {R : Int → Int → Prop} {z : List Bd} (hz : ∀ v u, R v u → subFind z v = some (.mk (-1 - u) [])) : ∀ (l m : List T), T.relL R l m → l.map (T.app z) = m
  | [], m, h => by have : m = [] := h; subst this; rfl
  | p :: ps, m, h => by
    obtain ⟨t, r, rfl, h1, h2⟩ := h
    rw [List.map_cons, T.rel_app hz p t h1, T.relL_app hz ps r h2]
end
def zipB : List Int → List Int → List Bd
  | v :: A, u :: B => ⟨v, .mk (-1 - u) []⟩ :: zipB A B
  | _, _ => []
theorem zipB_mem : ∀ {A B : List Int} {b : Bd}, b ∈ zipB A B → b.var ∈ A
  | v :: A, u :: B, b, h => by
    rcases List.mem_cons.1 h with rfl | h
    · simp
    · exact List.mem_cons_of_mem _ (zipB_mem h)
  | [], _, _, h => nomatch h
  | _ :: _, [], _, h => nomatch h
theorem zipB_find : ∀ {A B : List Int} (hn : A.Nodup) {i : Nat} {v u : Int}, A[i]? = some v → B[i]? = some u → subFind (zipB A B) v = some (.mk (-1 - u) [])
  | a :: A, b :: B, hn, 0, v, u, h1, h2 => by
    simp at h1 h2
    subst h1 h2
    simp [zipB, subFind]
  | a :: A, b :: B, hn, i + 1, v, u, h1, h2 => by
    rw [List.nodup_cons] at hn
    rw [List.getElem?_cons_succ] at h1 h2
    have hne : ¬ a = v := fun e => hn.1 (e ▸ List.mem_of_getElem? h1)
    have := zipB_find hn.2 h1 h2
    simpa [zipB, subFind, hne] using this
  | [], _, _, _, _, _, h1, _ => by simp at h1
  | _ :: _, [], _, _, _, _, _, h2 => by simp at h2
theorem mOk_app {a : T} {z : List Bd} (ha : a.plain = true) (hb : (a.app z).plain = true) : mOk a (a.app z) [] = true := makes_is ha hb
/-- The same normal form: the one matches the other. -/
theorem mOk_rn {a b : T} (ha : a.plain = true) (hb : b.plain = true) (h : (a.rn []).1 = (b.rn []).1) : mOk a b [] = true := by
  have h1 := (T.rn_rel (FA := (a.rn []).2) (FB := (b.rn []).2) a b [] [] ha hb rfl h (List.prefix_refl _) (List.prefix_refl _)).1
  have h2 := T.rel_app (z := zipB (a.rn []).2 (b.rn []).2) (fun v u ⟨i, q1, q2⟩ => zipB_find (T.rn_nd a [] List.nodup_nil) q1 q2) a b h1
  have h3 := mOk_app (z := zipB (a.rn []).2 (b.rn []).2) ha (by rw [h2]; exact hb)
  rwa [h2] at h3
/-- One substitution and back again. -/
def Two (s s' : List Bd) (v u : Int) : Prop := (T.mk (-1 - v) []).app s = .mk (-1 - u) [] ∧ (T.mk (-1 - u) []).app s' = .mk (-1 - v) []
theorem two_bi (s s' : List Bd) : BiFun (Two s s') := by
  refine ⟨fun v u u' h1 h2 => ?_, fun v v' u h1 h2 => ?_⟩
  · have := h1.1.symm.trans h2.1
    simp at this; omega
  · have := h1.2.symm.trans h2.2
    simp at this; omega
mutual
theorem T.app_two {s s' : List Bd} : ∀ a : T, a.plain = true → (a.app s).plain = true → (a.app s).app s' = a → a.rel (Two s s') (a.app s)
  | .mk f l, hp, hq, h => by
    rw [T.rel]
    by_cases hf : f < 0
    · rw [if_pos hf]
      obtain rfl := plain_nil hp hf
      cases ht : (T.mk f []).app s with
      | mk g m =>
        rw [ht] at h hq
        have hg : g < 0 := by
          rcases Int.lt_or_le g 0 with q | q
          · exact q
          · rw [app_none (fun z => absurd z (by omega))] at h
            simp only [T.mk.injEq] at h; omega
        obtain rfl := plain_nil hq hg
        refine ⟨rfl, hg, rfl, ?_, ?_⟩
        · show (T.mk (-1 - (-1 - f)) []).app s = T.mk (-1 - (-1 - g)) []
          rw [show -1 - (-1 - f) = f by omega, show -1 - (-1 - g) = g by omega]; exact ht
        · show (T.mk (-1 - (-1 - g)) []).app s' = T.mk (-1 - (-1 - f)) []
          rw [show -1 - (-1 - f) = f by omega, show -1 - (-1 - g) = g by omega]; exact h
    · rw [if_neg hf]
      have e : (T.mk f l).app s = .mk f (l.map (T.app s)) := app_none (fun q => absurd q hf)
      rw [e] at h hq ⊢
      rw [app_none (fun q => absurd q hf)] at h
      simp only [T.mk.injEq, true_and] at h
      exact ⟨rfl, T.appL_two l (plain_args hp) (plain_args hq) h⟩
theorem T.appL_two {s s' : List Bd} : ∀ l : List T, T.plainL l = true → T.plainL (l.map (T.app s)) = true → (l.map (T.app s)).map (T.app s') = l → T.relL (Two s s') l (l.map (T.app s))
  | [], _, _, _ => rfl
  | t :: r, hp, hq, h => by
    rw [T.plainL, Bool.and_eq_true] at hp
    rw [List.map_cons, T.plainL, Bool.and_eq_true] at hq
    rw [List.map_cons, List.map_cons, List.cons.injEq] at h
    exact ⟨_, _, rfl, T.app_two t hp.1 hq.1 h.1, T.appL_two r hp.2 hq.2 h.2⟩
end
theorem mOk_app' {a b : T} (h : mOk a b [] = true) : ∃ s, a.app s = b ∧ a.plain = true ∧ b.plain = true := by
  unfold mOk at h
  rw [Bool.and_eq_true, Bool.and_eq_true] at h
  obtain ⟨s, hs⟩ := Option.isSome_iff_exists.1 h.2
  exact ⟨s, T.mt_app a [] b s s h.1.1 hs (Ext.refl s), h.1.1, h.1.2⟩
theorem var_rn {a b : T} (h1 : mOk a b [] = true) (h2 : mOk b a [] = true) : (a.rn []).1 = (b.rn []).1 := by
  obtain ⟨s, e1, p1, p2⟩ := mOk_app' h1
  obtain ⟨s', e2, _, _⟩ := mOk_app' h2
  subst e1
  exact (T.rel_rn (two_bi s s') a _ [] [] (T.app_two a p1 p2 e2) inv_nil).1
/-- Terms are variants just if their normal forms are the same. -/
theorem variant_iff {a b : T} (ha : a.plain = true) (hb : b.plain = true) : varB a b = T.same (a.rn []).1 (b.rn []).1 := by
  rw [Bool.eq_iff_iff, T.same_iff]
  unfold varB
  rw [Bool.and_eq_true]
  exact ⟨fun h => var_rn h.1 h.2, fun h => ⟨mOk_rn ha hb h, mOk_rn hb ha h.symm⟩⟩
theorem varB_comm (a b : T) : varB a b = varB b a := by unfold varB; rw [Bool.and_comm]
theorem rel_var {R : Int → Int → Prop} (hR : BiFun R) {a b : T} (ha : a.plain = true) (hb : b.plain = true) (h : a.rel R b) : varB a b = true := by
  have := (T.rel_rn hR a b [] [] h inv_nil).1
  unfold varB
  rw [mOk_rn ha hb this, mOk_rn hb ha this.symm]; rfl
end Go.Proofs.Ytcmfjnadjddboaa

/- The library's SortFunc of bindings, as its contract has it, at this program. -/
namespace Go.Proofs.Ytcmfjnadjddboaa
open Go.RowKit Go.Sort Go.Shelf Go
set_option linter.unusedVariables false
set_option linter.unusedSimpArgs false

def Try.lPdqB_ren : Go.Shelf.Ren := ⟨fun | 14 => 61 | 20 => 68 | 21 => 69 | 22 => 70 | 23 => 71 | 24 => 72 | 25 => 73 | 26 => 74 | 27 => 75 | 46 => 79 | 47 => 80 | 48 => 81 | 49 => 82 | 50 => 83 | 15 => 62 | 57 => 84 | 28 => 76 | 29 => 77 | n => n, fun | 24 => 57 | 22 => 25 | 3 => 3 | 25 => 76 | 4 => 4 | 0 => 0 | 46 => 104 | 45 => 103 | 50 => 79 | 66 => 114 | 39 => 97 | 55 => 112 | 70 => 118 | 76 => 120 | 77 => 121 | 53 => 110 | 5 => 5 | 9 => 9 | n => n, fun | n => n⟩
theorem Try.lPdqB : Go.Proofs.SlLaysF0.n14 Try.prog Try.lPdqB_ren := {
  mixed := by kernel_rfl,
  f14 := ⟨Try.f61.name, by decide, Try.func61.trans (congrArg some (by kernel_rfl))⟩,
  f15 := Try.func62.trans (congrArg some (by kernel_rfl)),
  f20 := ⟨Try.f68.name, by decide, Try.func68.trans (congrArg some (by kernel_rfl))⟩,
  f21 := ⟨Try.f69.name, by decide, Try.func69.trans (congrArg some (by kernel_rfl))⟩,
  f22 := ⟨Try.f70.name, by decide, Try.func70.trans (congrArg some (by kernel_rfl))⟩,
  f23 := ⟨Try.f71.name, by decide, Try.func71.trans (congrArg some (by kernel_rfl))⟩,
  f24 := ⟨Try.f72.name, by decide, Try.func72.trans (congrArg some (by kernel_rfl))⟩,
  f25 := ⟨Try.f73.name, by decide, Try.func73.trans (congrArg some (by kernel_rfl))⟩,
  f26 := ⟨Try.f74.name, by decide, Try.func74.trans (congrArg some (by kernel_rfl))⟩,
  f27 := ⟨Try.f75.name, by decide, Try.func75.trans (congrArg some (by kernel_rfl))⟩,
  f28 := Try.func76.trans (congrArg some (by kernel_rfl)),
  f29 := Try.func77.trans (congrArg some (by kernel_rfl)),
  f46 := ⟨Try.f79.name, by decide, Try.func79.trans (congrArg some (by kernel_rfl))⟩,
  f47 := Try.func80.trans (congrArg some (by kernel_rfl)),
  f48 := Try.func81.trans (congrArg some (by kernel_rfl)),
  f49 := ⟨Try.f82.name, by decide, Try.func82.trans (congrArg some (by kernel_rfl))⟩,
  f50 := ⟨Try.f83.name, by decide, Try.func83.trans (congrArg some (by kernel_rfl))⟩,
  f57 := ⟨Try.f84.name, by decide, Try.func84.trans (congrArg some (by kernel_rfl))⟩,
  t0 := Try.underlying0,
  a0 := Try.isAgg0,
  z0 := Try.sizeOf0,
  v0 := Try.zeroValue0,
  t3 := Try.underlying3,
  a3 := Try.isAgg3,
  z3 := Try.sizeOf3,
  v3 := Try.zeroValue3,
  t4 := Try.underlying4,
  a4 := Try.isAgg4,
  z4 := Try.sizeOf4,
  v4 := Try.zeroValue4,
  t5 := Try.underlying5,
  a5 := Try.isAgg5,
  z5 := Try.sizeOf5,
  v5 := Try.zeroValue5,
  t9 := Try.underlying9,
  a9 := Try.isAgg9,
  z9 := Try.sizeOf9,
  v9 := Try.zeroValue9,
  t22 := Try.underlying25,
  a22 := Try.isAgg25,
  z22 := Try.sizeOf25,
  v22 := Try.zeroValue25,
  t25 := Try.underlying76,
  a25 := Try.isAgg76,
  z25 := Try.sizeOf76,
  v25 := Try.zeroValue76,
  t39 := Try.underlying97,
  a39 := Try.isAgg97,
  z39 := Try.sizeOf97,
  v39 := Try.zeroValue97,
  t45 := Try.underlying103,
  a45 := Try.isAgg103,
  z45 := Try.sizeOf103,
  v45 := Try.zeroValue103,
  t46 := Try.underlying104,
  a46 := Try.isAgg104,
  z46 := Try.sizeOf104,
  v46 := Try.zeroValue104,
  t50 := Try.underlying79,
  a50 := Try.isAgg79,
  z50 := Try.sizeOf79,
  v50 := Try.zeroValue79,
  t53 := Try.underlying110,
  a53 := Try.isAgg110,
  z53 := Try.sizeOf110,
  v53 := Try.zeroValue110,
  t55 := Try.underlying112,
  a55 := Try.isAgg112,
  z55 := Try.sizeOf112,
  v55 := Try.zeroValue112,
  t66 := Try.underlying114,
  a66 := Try.isAgg114,
  z66 := Try.sizeOf114,
  v66 := Try.zeroValue114,
  t70 := Try.underlying118,
  a70 := Try.isAgg118,
  z70 := Try.sizeOf118,
  v70 := Try.zeroValue118,
  t76 := Try.underlying120,
  a76 := Try.isAgg120,
  z76 := Try.sizeOf120,
  v76 := Try.zeroValue120,
  t77 := Try.underlying121,
  a77 := Try.isAgg121,
  z77 := Try.sizeOf121,
  v77 := Try.zeroValue121 }
def Try.lCmpInt_ren : Go.Shelf.Ren := ⟨fun | 5 => 42 | 7 => 63 | n => n, fun | 22 => 3 | 3 => 3 | 4 => 4 | n => n, fun | n => n⟩
theorem Try.lCmpInt : Go.Proofs.SlLaysC2.n5 Try.prog Try.lCmpInt_ren := {
  mixed := by kernel_rfl,
  f5 := ⟨Try.f42.name, by decide, Try.func42.trans (congrArg some (by kernel_rfl))⟩,
  f7 := ⟨Try.f63.name, by decide, Try.func63.trans (congrArg some (by kernel_rfl))⟩,
  t3 := Try.underlying3,
  a3 := Try.isAgg3,
  z3 := Try.sizeOf3,
  v3 := Try.zeroValue3,
  t4 := Try.underlying4,
  a4 := Try.isAgg4,
  z4 := Try.sizeOf4,
  v4 := Try.zeroValue4,
  t22 := Try.underlying3,
  a22 := Try.isAgg3,
  z22 := Try.sizeOf3,
  v22 := Try.zeroValue3 }
end Go.Proofs.Ytcmfjnadjddboaa

/- slices.SortFunc of bindings by their variables, over a row of the call's own. -/
namespace Go.Proofs.Ytcmfjnadjddboaa
open Go.RowKit Go.Sort Go.Shelf Go
set_option linter.unusedVariables false
set_option linter.unusedSimpArgs false

def cmpB (x y : BdV) : Int := Lib.compareInt x.1.var y.1.var
theorem ltB (x y : BdV) : ltOf cmpB x y = decide (x.1.var < y.1.var) := by
  unfold ltOf cmpB Lib.compareInt
  congr 1
  (repeat' split) <;> simp <;> omega
theorem swoB : SWO (ltOf cmpB) where
  irrefl x := by rw [ltB]; simp
  trans x y z := by rw [ltB, ltB, ltB]; simp only [decide_eq_true_eq]; omega
  ntrans x y z := by rw [ltB, ltB, ltB]; simp only [decide_eq_false_iff_not]; omega

def normB (v : Value) : Value := if v.oneCell' = true then v else .int .i64 0
theorem normB_one (v : Value) : (normB v).oneCell' = true := by unfold normB; split <;> first | assumption | rfl
def encN (x : BdV) : List Value := [.int .i64 x.1.var, normB x.2.1, normB x.2.2]
theorem encN_eq {S : Nat → Prop} {w : World} {p : BdV} (h : BdOk S w p) : encN p = encB p := by
  obtain ⟨_, a, c, e, _, _, _⟩ := h.2.form
  simp only [Value.agg.injEq, Array.mk.injEq, List.cons.injEq, and_true] at e
  unfold encN encB
  rw [e.1, e.2]; rfl
theorem flat_eq {S : Nat → Prop} {w : World} : ∀ {ds : List BdV}, (∀ p ∈ ds, BdOk S w p) → ds.flatMap encN = ds.flatMap encB
  | [], _ => rfl
  | p :: r, h => by rw [List.flatMap_cons, List.flatMap_cons, encN_eq (h p (by simp)), flat_eq fun q hq => h q (by simp [hq])]
theorem len_encN (ds : List BdV) : (ds.flatMap encN).length = ds.length * 3 := by
  induction ds with
  | nil => rfl
  | cons p r ih => rw [List.flatMap_cons, List.length_append, ih, List.length_cons]; show 3 + _ = _; omega
theorem get_encN : ∀ (ds : List BdV) (t : Nat), t < ds.length * 3 → (ds.flatMap encN)[t]? = some ((encN ds.toArray[t / 3]!)[t % 3]!)
  | [], t, h => by simp at h
  | p :: r, t, h => by
    rw [List.flatMap_cons]
    by_cases h3 : t < 3
    · rw [List.getElem?_append_left (by exact h3), show t / 3 = 0 by omega, show t % 3 = t by omega]
      have e : ((p :: r).toArray[0]!) = p := by simp
      rw [e, List.getElem?_eq_getElem (show t < (encN p).length from h3), getElem!_pos (encN p) t h3]; rfl
    · rw [List.getElem?_append_right (by show 3 ≤ t; omega)]
      show (r.flatMap encN)[t - 3]? = _
      rw [get_encN r (t - 3) (by rw [List.length_cons] at h; omega), show t % 3 = (t - 3) % 3 by omega, show t / 3 = (t - 3) / 3 + 1 by omega]
      have e : ((p :: r).toArray[(t - 3) / 3 + 1]!) = r.toArray[(t - 3) / 3]! := by simp
      rw [e]
theorem flat_encN (ds : List BdV) : (flatK encN 3 ds.toArray).toList = ds.flatMap encN := by
  apply List.ext_getElem?
  intro t
  by_cases h : t < ds.length * 3
  · rw [get_encN ds t h, Array.getElem?_toList, Array.getElem?_eq_getElem (by simpa using h)]
    congr 1
    have := get_flatK encN 3 ds.toArray t (by simpa using h)
    rwa [getElem!_pos _ t (by simpa using h)] at this
  · rw [List.getElem?_eq_none (by simp; omega), List.getElem?_eq_none (by rw [len_encN]; omega)]

theorem heap_sortB {w : World} {g n : Nat} {os : Array Obj} {cur : Array Value} {e : TypeId} {fr : Nat × Nat} (F : Array Value) (hb : w.heap[g]? = some (.cells cur e fr)) :
    (grow (putRow id (Sort.ahead w n) g 0 F) os).heap[g]? = some (.cells (putCells id 0 F cur) e fr) := by
  have hg : g < w.heap.size := (Array.getElem?_eq_some_iff.1 hb).1
  rw [heap_grow_old _ _ (by simpa using hg)]
  simp [putRow, mapBlock, Sort.ahead, Array.getElem?_modify, hb, onCells]
theorem chg_sortB {w : World} {g n : Nat} {os : Array Obj} (F : Array Value) : Chg (fun b => b = g) w (grow (putRow id (Sort.ahead w n) g 0 F) os) := by
  refine ⟨rfl, rfl, rfl, by simp, fun k hk hne => ?_⟩
  rw [heap_grow_old _ _ (by simpa using hk)]
  have : g ≠ k := fun e => hne e.symm
  simp [putRow, mapBlock, Sort.ahead, Array.getElem?_modify, this]
theorem take_sortB (cur F : Array Value) (h : F.size ≤ cur.size) : (putCells id 0 F cur).toList.take F.size = F.toList := by
  apply List.ext_getElem?
  intro j
  by_cases hj : j < F.size
  · rw [List.getElem?_take_of_lt hj, Array.getElem?_toList]
    simp [putCells, hj, show j < cur.size by omega]
  · rw [List.getElem?_take_eq_none (by omega), List.getElem?_eq_none (by simp; omega)]

/-- What the comparison says. -/
def CmpIs (g : Nat) : Prop := (∀ args w, (callFunc g args).run Try.prog w = .ok (.enter g args) w) ∧ ∀ (x y : BdV) (W : World), Calls Try.prog g #[.agg (encN x).toArray, .agg (encN y).toArray] W fun e w' => e = .returned (.int .i64 (cmpB x y)) ∧ ∃ q os', w' = grow (W.drewN q) os'

theorem bitsB (n : Nat) (w : World) (hn : n ≤ 4294967296) : Calls Try.prog 62 #[.int .u64 (n : Int)] w fun e w' => e = .returned (.int .i64 (Lib.bitLen n : Nat)) ∧ w' = w := by
  have h := Any.bits_Len (SlLaysF0.n15.bits { Try.lPdqB with }) (n : Int) w (by omega) (by omega)
  rwa [Int.toNat_natCast] at h

set_option maxHeartbeats 2000000 in
/-- The library's function, about its own. -/
theorem sortF_walk {w : World} {ra : Option Addr} {rc n g : Nat} {R : World → Prop} (hl : Calls Try.prog 62 #[.int .u64 (n : Int)] w fun e w' => e = .returned (.int .i64 (Lib.bitLen n : Nat)) ∧ w' = w)
    (hp : Calls Try.prog 61 #[.slice ra n rc, .int .i64 ((0 : Nat) : Int), .int .i64 (n : Nat), .int .i64 (Lib.bitLen n : Nat), .func (.func g) #[] #[]] w fun e w' => e = .returned (.tuple #[]) ∧ R w') (hn : n ≤ 4294967296 := by omega) :
    Calls Try.prog 40 #[.slice ra n rc, .func (.func g) #[] #[]] w fun e w' => e = .returned (.tuple #[]) ∧ R w' := by
  have wr : IntKind.u64.wrap (n : Int) = n := by simp [IntKind.wrap, IntKind.bits, IntKind.signed]; omega
  go_enter Try.func40, Try.ntmps40
  go_wp2_with (first | (go_at_call 62; refine hl.mono ?_; rintro e w' ⟨rfl, rfl⟩) | (go_at_call 61; refine hp.mono ?_; rintro e w' ⟨rfl, hR⟩))
  go_end0
  exact ⟨rfl, hR⟩

set_option maxRecDepth 100000 in
theorem sortB_own {w : World} {B : Nat} {ra : Option Addr} {rc n : Nat} {l : List Bd} {g : Nat} (h : RowE eltB w B 57 ra rc n l) (hn : n ≤ 4294967296) (hc : CmpIs g) :
    Calls Try.prog 40 #[.slice ra n rc, .func (.func g) #[] #[]] w (Ret fun v' w' => ∃ l' : List Bd, v' = .tuple #[] ∧ l'.Perm l ∧ l'.Pairwise (fun x y => x.var ≤ y.var) ∧ RowE eltB w' B 57 ra rc n l' ∧ Chg (fun b => (Value.slice ra n rc).ownBlock = some b) w w') := by
  obtain ⟨⟨xs, h1, h2⟩, hl⟩ := h
  rcases h1.2 with ⟨e, h0⟩ | ⟨b, cap, cur, e, hB, hb, hcap, hm, hs, hx⟩
  · simp only [Value.slice.injEq] at e
    obtain ⟨rfl, rfl, rfl⟩ := e
    obtain rfl : l = [] := List.length_eq_zero_iff.1 hl.symm
    refine (sortF_walk (g := g) (n := 0) (bitsB 0 w (by omega)) (AnyF.pdqsortCmpFunc_none Try.lPdqB none 0 _ _ w)).mono ?_
    rintro e w' ⟨rfl, rfl⟩
    exact ⟨_, rfl, [], rfl, .refl _, .nil, RowE.nil, .refl _ _⟩
  · have e' := e
    simp only [Value.slice.injEq, true_and] at e'
    obtain ⟨rfl, rfl⟩ := e'
    obtain ⟨ds, rfl, rfl, hds⟩ := elts_bdv h2
    have hn3 : n = ds.length := by simpa using hl
    subst hn3
    have hlen := len_encB ds
    have hg : b < w.heap.size := (Array.getElem?_eq_some_iff.1 hb).1
    have hk3 : eltB.k = 3 := rfl
    rw [hk3] at hs hx
    rw [← flat_eq hds] at hx
    have hH : HoldsK encN 3 w b 0 ds.toArray := by
      intro j hj
      have hj' : j < ds.length * 3 := by simpa using hj
      have hx' : (cur.toList.take (ds.length * 3))[j]? = (ds.flatMap encN)[j]? := by rw [hx]
      rw [List.getElem?_take_of_lt (by omega), Array.getElem?_toList, get_encN ds j hj'] at hx'
      have hf := get_flatK encN 3 ds.toArray j (by simpa using hj')
      refine ⟨?_, by simp [World.frozen?, hb]⟩
      show _ = some ((flatK encN 3 ds.toArray)[j]!)
      rw [hf, ← hx']
      simp only [World.cell?, hb, Nat.zero_add]
      simp
    have hp := AnyQ.pdqsortCmpFunc_all Try.lPdqB 3 (fun _ => rfl) (fun _ => rfl) encN cmpB g #[] swoB b 0 rc ds.toArray w hc.1 (fun m os dk _ x y => hc.2 x y _)
      ⟨fun _ => rfl, fun x v hv => by simp only [encN, List.mem_cons, List.not_mem_nil, or_false] at hv; rcases hv with rfl | rfl | rfl; exact rfl; exact normB_one _; exact normB_one _, hH, hg⟩ (ds.length + 1) 0 ds.length (Lib.bitLen ds.length) ds.toArray w (by omega) (by simp) (SWK.start hH) (Nat.zero_le _) (by simp) (by simp; omega) (Nat.lt_of_le_of_lt (Lib.bitLen_le ds.length 62 (by omega) (by omega)) (by omega)) (Or.inl rfl)
    have hl := bitsB ds.length w hn
    have hsort := pdq_sorts (ltOf cmpB) swoB ds.toArray 0 ds.toArray.size (Lib.bitLen ds.length) true true (Nat.zero_le _) (Nat.le_refl _) (Or.inl rfl)
    change Calls Try.prog 61 #[.slice (some ⟨b, 0, none⟩) ds.length rc, .int .i64 ((0 : Nat) : Int), .int .i64 (ds.length : Nat), .int .i64 (Lib.bitLen ds.length : Nat), .func (.func g) #[] #[]] w _ at hp
    rw [show ds.toArray.size = ds.length from by simp] at hsort
    generalize pdq (ltOf cmpB) ds.toArray 0 ds.length (Lib.bitLen ds.length) true true = d' at hp hsort
    have hw := sortF_walk (g := g) hl hp
    obtain ⟨⟨hsz, _, hperm⟩, hsrt⟩ := hsort
    obtain ⟨ds', rfl⟩ : ∃ ds' : List BdV, d' = ds'.toArray := ⟨d'.toList, by simp⟩
    have hlen' : ds'.length = ds.length := by simpa using hsz
    have hperm' : ds'.Perm ds := by
      have e1 : (ds'.toArray.extract 0 ds.length).toList = ds' := by rw [← hlen']; simp
      have e2 : (ds.toArray.extract 0 ds.length).toList = ds := by simp
      rw [e1, e2] at hperm; exact hperm
    refine hw.mono ?_
    rintro e w' ⟨rfl, m, os, rfl⟩
    have hchg : Chg (fun k => k = b) w (sortWorldK encN 3 w b 0 m ds'.toArray os) := chg_sortB (flatK encN 3 ds'.toArray)
    have hds' : ∀ p ∈ ds', BdOk (fun k => B ≤ k ∧ k ≠ b) (sortWorldK encN 3 w b 0 m ds'.toArray os) p := fun p hp => by
      have h := hds p (hperm'.mem_iff.1 hp)
      exact ⟨h.1, InT.chg (InT.mono (fun k hk _ => ⟨hk.1, fun e => hk.2 (by rw [own_some, e])⟩) h.2) hchg (fun k hk e => hk.2 e)⟩
    refine ⟨_, rfl, ds'.map (·.1), rfl, hperm'.map _, ?_, ?_, ?_⟩
    · rw [List.pairwise_map, List.pairwise_iff_getElem]
      intro i j hi hj hij
      have h := hsrt i j (Nat.zero_le _) hij (by omega)
      rw [ltB] at h
      simp only [decide_eq_false_iff_not] at h
      rw [getElem!_pos ds'.toArray i (by simpa using hi), getElem!_pos ds'.toArray j (by simpa using hj)] at h
      simp only [List.getElem_toArray] at h
      omega
    · refine RowE.mk3 (cur := putCells id 0 (flatK encN 3 ds'.toArray) cur) (heap_sortB _ hb) hds' ?_ hcap hm (by simpa [putCells] using hs) hB hlen'.symm
      have := take_sortB cur (flatK encN 3 ds'.toArray) (by simp [hlen']; omega)
      rw [show (flatK encN 3 ds'.toArray).size = ds.length * 3 from by simp [hlen']] at this
      rw [this, flat_encN, flat_eq hds']
    · exact ⟨hchg.os, hchg.tape, hchg.output, hchg.size, fun k hk hn => hchg.block k hk (fun e => hn (by rw [e, own_some]))⟩

end Go.Proofs.Ytcmfjnadjddboaa

/- The comparison that a matcher sorts by. -/
namespace Go.Proofs.Ytcmfjnadjddboaa
open Go.RowKit Go.Sort Go.Shelf Go
set_option linter.unusedVariables false
set_option linter.unusedSimpArgs false

set_option maxHeartbeats 1000000 in
theorem mcmp1_any (x y : BdV) (W : World) : Calls Try.prog 41 #[.agg #[.int .i64 x.1.var, normB x.2.1, normB x.2.2], .agg #[.int .i64 y.1.var, normB y.2.1, normB y.2.2]] W fun e w' => e = .returned (.int .i64 (cmpB x y)) ∧ ∃ q os', w' = grow (W.drewN q) os' := by
  have hcon := fun W' => AnyG.cmp_Compare_int Try.lCmpInt x.1.var y.1.var W'
  change ∀ W', Calls Try.prog 42 _ _ _ at hcon
  unfold cmpB
  have o1 := normB_one x.2.1
  have o2 := normB_one x.2.2
  have o3 := normB_one y.2.1
  have o4 := normB_one y.2.2
  generalize Lib.compareInt x.1.var y.1.var = r at hcon ⊢
  generalize normB x.2.1 = a1 at *
  generalize normB x.2.2 = a2 at *
  generalize normB y.2.1 = a3 at *
  generalize normB y.2.2 = a4 at *
  go_enter Try.func41, Try.ntmps41
  go_wp2_with (go_at_call 42; refine (hcon _).mono ?_; rintro e w' ⟨rfl, rfl⟩)
  go_ret
  exact ⟨rfl, 0, _, by rw [alloc_eq_grow, alloc_eq_grow, grow_grow]; rfl⟩
theorem cmpIs_mat : CmpIs 41 := ⟨enters_of Try.func41 (by kernel_rfl) rfl, fun x y W => mcmp1_any x y W⟩

end Go.Proofs.Ytcmfjnadjddboaa

/- What a matcher tells: the program. -/
namespace Go.Proofs.Ytcmfjnadjddboaa
open Go.RowKit Go
set_option linter.unusedVariables false
set_option linter.unusedSimpArgs false

set_option maxRecDepth 100000 in
theorem msub_any {g : Nat} {st : List Bd} {C : Nat → Prop} (w : World) (h : MatAt w g st C) (hz : st.length ≤ 4294967296) : Calls Try.prog 23 #[.pointer (some ⟨g, 0, none⟩)] w (Ret fun v' w' => (∃ R p c, v' = .slice p R.length c ∧ SubOf st R ∧ NewBs w w' R p c) ∧ Below w.heap.size w w') := by
  obtain ⟨mb, es, cl, a, c, ps, hM⟩ := h
  have hgm := hM.gmb
  have hgl := hM.blk.lt
  have hml := hM.map.lt
  have hnd := hM.nd
  have hlp := hM.len
  refine Calls.walk (l := [.pointer (some ⟨g, 0, none⟩)]) Try.func23 rfl (by kernel_rfl) ?_
  refine WC.sub (K' := [(0, .pointer (some ⟨g, 0, none⟩))]) ⟨rfl, trivial⟩ ?_
  refine WC.seq ?_
  refine WC.region ?_
  refine WL.val (.slice none 0 0) rfl rfl rfl (fun za zC zh zk => wp_assign rfl (zh.ev rfl) zk) ?_
  refine WL.nil (WE.sub (K' := [(0, .pointer (some ⟨g, 0, none⟩)), (2, .slice none 0 0)]) ⟨rfl, rfl, trivial⟩ ?_)
  refine WE.next ?_
  refine WC.seq ?_
  refine WC.seq ?_
  refine WC.region ?_
  refine WL.val (.pointer (some ⟨g, 0, none⟩)) rfl rfl rfl (fun za zC zh zk => wp_move rfl (zh.ev rfl) zk) ?_
  refine WL.val (.bool false) rfl rfl rfl (fun za zC zh zk => eqlp_33 rfl (zh.ev rfl) (zh.ev rfl) zk) ?_
  refine WL.nil (WE.sub (K' := [(0, .pointer (some ⟨g, 0, none⟩)), (2, .slice none 0 0), (7, .bool false)]) ⟨rfl, rfl, rfl, trivial⟩ ?_)
  refine WE.next ?_
  refine WC.condF rfl rfl ?_
  refine WC.skip ?_
  refine WE.next ?_
  refine WC.seq ?_
  refine WC.region ?_
  refine WL.val (.slice none 0 0) rfl rfl rfl (fun za zC zh zk => wp_assign rfl (zh.ev rfl) zk) ?_
  refine WL.nil (WE.sub (K' := [(0, .pointer (some ⟨g, 0, none⟩)), (2, .slice none 0 0), (3, .slice none 0 0), (7, .bool false)]) ⟨rfl, rfl, rfl, rfl, trivial⟩ ?_)
  refine WE.next ?_
  refine WC.seq ?_
  refine WC.seq ?_
  refine WC.region ?_
  refine WL.val (.pointer (some ⟨g, 0, none⟩)) rfl rfl rfl (fun za zC zh zk => wp_move rfl (zh.ev rfl) zk) ?_
  refine WL.val (.pointer (some ⟨g, 0, none⟩)) rfl rfl rfl (fun za zC zh zk => nilCheck_ rfl (zh.ev rfl) zk) ?_
  refine WL.val (.pointer (some ⟨g, 0, none⟩)) rfl rfl rfl (fun za zC zh zk => fld_64_0 rfl (zh.ev rfl) zk) ?_
  refine WL.val (.map ((some mb))) rfl rfl rfl (fun za zC zh zk => ld_62 rfl (zh.ev rfl) ((hM.blk.cell 0).trans rfl) zk) ?_
  refine WL.step (post := fun v w' => NewIt w mb cl v w') rfl rfl rfl (fun za zC zh zk => wp_range_im Try.underlying62 hM.map rfl (zh.ev rfl) (fun v w' h => zk v w' h)) ?_
  rintro _ w1 ⟨g2, rfl, hg3, hI4, hb5, hs6⟩
  have hl7 : g < g2 := by have z1 := hM.blk.lt; omega
  have hl8 : mb < g2 := by have z1 := hM.map.lt; omega
  have hl9 : w.heap.size ≤ g2 := by omega
  refine WL.nil (WE.sub (K' := [(0, .pointer (some ⟨g, 0, none⟩)), (2, .slice none 0 0), (3, .slice none 0 0), (7, .bool false), (12, .pointer (some ⟨g2, 0, none⟩))]) ⟨rfl, rfl, rfl, rfl, rfl, trivial⟩ ?_)
  refine WE.next ?_
  refine WC.block ?_
  have hl10 : g < w1.heap.size := by have z1 := hM.blk.lt; have z2 := (hb5).size; omega
  have hl11 : mb < w1.heap.size := by have z1 := hM.map.lt; have z2 := (hb5).size; omega
  have hl12 : g2 < w1.heap.size := by have z1 := hI4.lt; omega
  have hl13 : w.heap.size ≤ w1.heap.size := (hb5).size
  have hR14 : RowE eltB w1 w1.heap.size 57 none 0 0 [] := RowE.nil
  refine WC.loop (X := SX) (fun x => x.rest.length) (fun x => [(0, .pointer (some ⟨g, 0, none⟩)), (2, .slice none 0 0), (3, .slice x.a x.n x.c), (7, .bool false), (12, .pointer (some ⟨g2, 0, none⟩))]) (fun x w15 => w1.heap.size ≤ (w15).heap.size ∧ ItE es ((st.map (·.var)).zip ps) x.seen x.done x.rest ∧ Below w.heap.size w w15 ∧ Blk w15 g 64 #[.map ((some mb)), .slice a st.length c] ∧ ObjAt (w15) mb (.map es cl) ∧ ObjAt (w15) g2 (.mapIter (some mb) cl x.seen cl) ∧ RowE eltB (w15) w1.heap.size 57 x.a x.c x.n ((told st x.done))) (⟨[], ((st.map (·.var)).zip ps), #[], none, 0, 0⟩) ⟨rfl, rfl, rfl, rfl, rfl, trivial⟩ ?_ ?_
  · have hB16 := hM.blk.below hb5
    have ho17 := hM.map.below hb5
    exact ⟨Nat.le_refl _, ItE.start hM.ent, hb5, hB16, ho17, hI4, (by simpa [told] using hR14)⟩
  · rintro x w15 ⟨hBw, hIt, hb18, hB19, ho20, ho21, ho22⟩
    refine WC.seq ?_
    refine WC.region ?_
    refine WL.step (post := fun v w' => (v = .tuple #[.bool false] ∧ w15 = w' ∧ x.rest = []) ∨ ∃ y rest2 seen2, v = .tuple #[.bool true, .int .i64 y.1, y.2] ∧ x.rest.Perm (y :: rest2) ∧ rest2.length < x.rest.length ∧ ItE es ((st.map (·.var)).zip ps) seen2 (x.done ++ [y]) rest2 ∧ CurE es seen2 y ∧ ObjAt w' g2 (.mapIter (some mb) cl seen2 cl) ∧ Upd g2 w15 w') rfl rfl rfl (fun za zC zh zk => wp_next_im ho20 ho21 hM.ent hIt rfl (zh.ev rfl) (fun h => zk _ _ (.inl ⟨rfl, rfl, h⟩)) (fun y r2 s2 w' h1 h2 h3 h4 h5 h6 => zk _ _ (.inr ⟨y, r2, s2, rfl, h1, h2, h3, h4, h5, h6⟩))) ?_
    rintro v w23 (⟨rfl, rfl, hre⟩ | ⟨y, rest2, seen2, rfl, hrp, hrl, hIt2, hcu, hI25, hu24⟩)
    · refine WL.val (.bool false) rfl rfl rfl (fun za zC zh zk => ext1_0 rfl (zh.ev rfl) zk) ?_
      refine WL.nil (WE.sub (K' := [(0, .pointer (some ⟨g, 0, none⟩)), (2, .slice none 0 0), (3, .slice x.a x.n x.c), (7, .bool false), (12, .pointer (some ⟨g2, 0, none⟩)), (14, .bool false)]) ⟨rfl, rfl, rfl, rfl, rfl, rfl, trivial⟩ ?_)
      refine WE.next ?_
      refine WC.seq ?_
      refine WC.condF rfl rfl ?_
      refine WC.exit ?_
      refine WE.thenExit ?_
      refine WE.thenExit ?_
      refine WE.blockIs rfl ?_
      refine WE.next ?_
      refine WC.seq ?_
      refine WC.region ?_
      refine WL.val (.slice x.a x.n x.c) rfl rfl rfl (fun za zC zh zk => wp_move rfl (zh.ev rfl) zk) ?_
      rw [hre] at hIt
      have hn9 := told_le hlp hIt
      have hn8 := ho22.len
      have hSo : ∀ b, (Value.slice x.a x.n x.c).ownBlock = some b → w1.heap.size ≤ b ∧ b < w15.heap.size := fun b h => ho22.lt b h
      refine WL.call rfl rfl rfl (fun za zh zC => wp_call (by kernel_rfl) rfl (hv2 (zh.ev rfl) (zh.ev rfl))) (sortB_own ho22 (by omega) cmpIs_mat) ?_
      rintro _ w26 ⟨ls, rfl, hps, hss, hrs, hcs⟩
      have hb27 := chg_below hb18 hcs (fun b hb => (fun h => by have h := hSo _ h; (try dsimp only at *); omega))
      have hB28 := chg_blk hB19 hcs (fun h => by have h := hSo _ h; (try dsimp only at *); omega)
      have ho29 := ho20.chg hcs (fun h => by have h := hSo _ h; (try dsimp only at *); omega)
      have ho30 := ho21.chg hcs (fun h => by have h := hSo _ h; (try dsimp only at *); omega)
      refine WL.nil (WE.sub (K' := [(0, .pointer (some ⟨g, 0, none⟩)), (2, .slice none 0 0), (3, .slice x.a x.n x.c), (7, .bool false), (12, .pointer (some ⟨g2, 0, none⟩)), (14, .bool false)]) ⟨rfl, rfl, rfl, rfl, rfl, rfl, trivial⟩ ?_)
      refine WE.next ?_
      refine WC.seq ?_
      refine WC.region ?_
      refine WL.val (.slice x.a x.n x.c) rfl rfl rfl (fun za zC zh zk => wp_move rfl (zh.ev rfl) zk) ?_
      refine WL.val (.slice x.a x.n x.c) rfl rfl rfl (fun za zC zh zk => wp_assign rfl (zh.ev rfl) zk) ?_
      refine WL.nil (WE.sub (K' := [(0, .pointer (some ⟨g, 0, none⟩)), (2, .slice x.a x.n x.c), (3, .slice x.a x.n x.c), (7, .bool false), (12, .pointer (some ⟨g2, 0, none⟩)), (14, .bool false)]) ⟨rfl, rfl, rfl, rfl, rfl, rfl, trivial⟩ ?_)
      refine WE.next ?_
      refine WC.ret ?_
      refine WE.ret1 rfl rfl ?_
      have hRo := (hrs).inRow
      rw [hRo.2.1]
      refine ⟨_, rfl, ⟨ls, _, _, rfl, subOf_sorted hnd (hps.trans (told_all hnd hlp hIt)) hss, hRo.1.mono (by decide) (fun b hb _ => by omega), by omega, hRo.2.2.2⟩, hb27⟩
    · obtain ⟨i, hi, hy1, hy2⟩ := zip_at hlp (it_mem hIt hrp)
      obtain ⟨pb, po, pa, pc, hpv, hp1, hp2, hp3⟩ := (hM.ptr i hi).isTp
      rw [hpv] at hy2
      have hi64 := hM.i64 _ (dget_mem hi)
      have hszi := hM.sz _ (dget_mem hi)
      have hbd := bdOf_at hnd hi hy1
      have htl := told_lt hlp hIt (by omega)
      have hi64b := hi64
      unfold I64 at hi64b
      rw [hy1, hy2]
      have hR31 : RowE eltB w23 w1.heap.size 57 x.a x.c x.n ((told st x.done)) := ho22.upd hu24 (by omega)
      have hb32 := upd_below hb18 hu24 (by omega)
      have hB33 := upd_blk hB19 hu24 (by omega)
      have ho34 := ho20.upd hu24 (by omega)
      refine WL.val (.bool true) rfl rfl rfl (fun za zC zh zk => ext3_0 rfl (zh.ev rfl) zk) ?_
      refine WL.nil (WE.sub (K' := [(0, .pointer (some ⟨g, 0, none⟩)), (2, .slice none 0 0), (3, .slice x.a x.n x.c), (7, .bool false), (12, .pointer (some ⟨g2, 0, none⟩)), (14, .bool true)]) ⟨rfl, rfl, rfl, rfl, rfl, rfl, trivial⟩ ?_)
      refine WE.next ?_
      refine WC.seq ?_
      refine WC.condT rfl rfl ?_
      refine WC.skip ?_
      refine WE.next ?_
      refine WC.block ?_
      refine WC.seq ?_
      refine WC.region ?_
      refine WL.val (.tuple #[.int .i64 ((dget st i).var), .pointer (some ⟨pb, po, none⟩)]) rfl rfl rfl (fun za zC zh zk => wp_entry_im ho34 hI25 hM.ent hcu rfl (zh.ev rfl) (by rw [hy1, hy2]; exact zk)) ?_
      refine WL.val (.int .i64 ((dget st i).var)) rfl rfl rfl (fun za zC zh zk => ext2_0 rfl (zh.ev rfl) zk) ?_
      refine WL.val (.pointer (some ⟨pb, po, none⟩)) rfl rfl rfl (fun za zC zh zk => ext2_1 rfl (zh.ev rfl) zk) ?_
      refine WL.val (.int .i64 ((dget st i).var)) rfl rfl rfl (fun za zC zh zk => wp_assign rfl (zh.ev rfl) zk) ?_
      refine WL.val (.pointer (some ⟨pb, po, none⟩)) rfl rfl rfl (fun za zC zh zk => wp_assign rfl (zh.ev rfl) zk) ?_
      refine WL.nil (WE.sub (K' := [(0, .pointer (some ⟨g, 0, none⟩)), (2, .slice none 0 0), (3, .slice x.a x.n x.c), (4, .int .i64 ((dget st i).var)), (5, .pointer (some ⟨pb, po, none⟩)), (7, .bool false), (12, .pointer (some ⟨g2, 0, none⟩)), (14, .bool true)]) ⟨rfl, rfl, rfl, rfl, rfl, rfl, rfl, rfl, trivial⟩ ?_)
      refine WE.next ?_
      refine WC.seq ?_
      have hc35 := bkeeps hb32 _ _ hp1
      have hc36 := bkeeps hb32 _ _ hp2
      refine WC.opt [(true, .val (.pointer (some ⟨pb, po, none⟩))), (true, .val (.pointer (some ⟨pb, po, none⟩))), (true, .val (.pointer (some ⟨pb, po, none⟩))), (true, .val (.int .i64 ((dget st i).t.f))), (true, .val (.int .i64 ((dget st i).var))), (true, .val (.int .i64 ((-1 - (dget st i).var)))), (true, .val (.bool ((((dget st i).t.f : Int) != ((-1 - (dget st i).var) : Int))))), (true, .val (.bool ((((dget st i).t.f : Int) != ((-1 - (dget st i).var) : Int))))), ((true && !(((dget st i).t.f : Int) != ((-1 - (dget st i).var) : Int))), .val (.pointer (some ⟨pb, po, none⟩))), ((true && !(((dget st i).t.f : Int) != ((-1 - (dget st i).var) : Int))), .val (.pointer (some ⟨pb, po, none⟩))), ((true && !(((dget st i).t.f : Int) != ((-1 - (dget st i).var) : Int))), .val (.pointer (some ⟨pb, po + 1, none⟩))), ((true && !(((dget st i).t.f : Int) != ((-1 - (dget st i).var) : Int))), .val (.slice pa ((dget st i).t.args.length) pc)), ((true && !(((dget st i).t.f : Int) != ((-1 - (dget st i).var) : Int))), .val (.int .i64 ((((dget st i).t.args.length : Nat) : Int)))), ((true && !(((dget st i).t.f : Int) != ((-1 - (dget st i).var) : Int))), .val (.bool ((decide ((0 : Int) < ((((dget st i).t.args.length : Nat) : Int) : Int)))))), (true, .val (.bool (((((dget st i).t.f : Int) != ((-1 - (dget st i).var) : Int)) || (decide ((0 : Int) < ((((dget st i).t.args.length : Nat) : Int) : Int)))))))] [(0, .pointer (some ⟨g, 0, none⟩)), (2, .slice none 0 0), (3, .slice x.a x.n x.c), (4, .int .i64 ((dget st i).var)), (5, .pointer (some ⟨pb, po, none⟩)), (7, .bool false), (12, .pointer (some ⟨g2, 0, none⟩)), (14, .bool true)] ⟨rfl, rfl, rfl, rfl, rfl, rfl, rfl, rfl, trivial⟩ (by kernel_rfl) (by kernel_rfl) (by kernel_rfl) ?_ ?_
      · refine ⟨⟨true, .none rfl, fun h w => optUndef h, fun zβ za zw zc => ?_⟩, ?_⟩
        · exact wp_move rfl (zc.kn.ev rfl) ⟨_, rfl, Below.refl _ _, optDef zβ rfl⟩
        refine ⟨⟨true, .none rfl, fun h w => optUndef h, fun zβ za zw zc => ?_⟩, ?_⟩
        · exact nilCheck_ rfl ((show za.eval (.tmp 18) = za.tmps.getD 18 undef from rfl).trans (optVal (zc.dep 0 18 (by kernel_rfl)) rfl rfl)) ⟨_, rfl, Below.refl _ _, optDef zβ rfl⟩
        refine ⟨⟨true, .none rfl, fun h w => optUndef h, fun zβ za zw zc => ?_⟩, ?_⟩
        · exact fld_24_0 rfl ((show za.eval (.tmp 19) = za.tmps.getD 19 undef from rfl).trans (optVal (zc.dep 1 19 (by kernel_rfl)) rfl rfl)) ⟨_, rfl, Below.refl _ _, optDef zβ rfl⟩
        refine ⟨⟨true, .none rfl, fun h w => optUndef h, fun zβ za zw zc => ?_⟩, ?_⟩
        · exact ld_3 rfl ((show za.eval (.tmp 20) = za.tmps.getD 20 undef from rfl).trans (optVal (zc.dep 2 20 (by kernel_rfl)) rfl rfl)) (bkeeps zc.below _ _ hc35) ⟨_, rfl, Below.refl _ _, optDef zβ rfl⟩
        refine ⟨⟨true, .none rfl, fun h w => optUndef h, fun zβ za zw zc => ?_⟩, ?_⟩
        · exact wp_move rfl (zc.kn.ev rfl) ⟨_, rfl, Below.refl _ _, optDef zβ rfl⟩
        refine ⟨⟨true, .none rfl, fun h w => optUndef h, fun zβ za zw zc => ?_⟩, ?_⟩
        · exact subb_3 rfl (zc.kn.ev rfl) ((show za.eval (.tmp 22) = za.tmps.getD 22 undef from rfl).trans (optVal (zc.dep 4 22 (by kernel_rfl)) rfl rfl)) (wrap_eq rfl (by omega) (by omega)) ⟨_, rfl, Below.refl _ _, optDef zβ rfl⟩
        refine ⟨⟨true, .none rfl, fun h w => optUndef h, fun zβ za zw zc => ?_⟩, ?_⟩
        · exact neq_3 rfl ((show za.eval (.tmp 21) = za.tmps.getD 21 undef from rfl).trans (optVal (zc.dep 3 21 (by kernel_rfl)) rfl rfl)) ((show za.eval (.tmp 23) = za.tmps.getD 23 undef from rfl).trans (optVal (zc.dep 5 23 (by kernel_rfl)) rfl rfl)) ⟨_, rfl, Below.refl _ _, optDef zβ rfl⟩
        refine ⟨⟨true, .none rfl, fun h w => optUndef h, fun zβ za zw zc => ?_⟩, ?_⟩
        · exact wp_move rfl ((show za.eval (.tmp 24) = za.tmps.getD 24 undef from rfl).trans (optVal (zc.dep 6 24 (by kernel_rfl)) rfl rfl)) ⟨_, rfl, Below.refl _ _, optDef zβ rfl⟩
        refine ⟨⟨(true && !(((dget st i).t.f : Int) != ((-1 - (dget st i).var) : Int))), .no (c := (((dget st i).t.f : Int) != ((-1 - (dget st i).var) : Int))) (d := true) rfl (fun v w h => h), fun h w => optUndef h, fun zβ za zw zc => ?_⟩, ?_⟩
        · exact wp_move rfl (zc.kn.ev rfl) ⟨_, rfl, Below.refl _ _, optDef zβ rfl⟩
        refine ⟨⟨(true && !(((dget st i).t.f : Int) != ((-1 - (dget st i).var) : Int))), .no (c := (((dget st i).t.f : Int) != ((-1 - (dget st i).var) : Int))) (d := true) rfl (fun v w h => h), fun h w => optUndef h, fun zβ za zw zc => ?_⟩, ?_⟩
        · exact nilCheck_ rfl ((show za.eval (.tmp 26) = za.tmps.getD 26 undef from rfl).trans (optVal (zc.dep 8 26 (by kernel_rfl)) rfl zβ)) ⟨_, rfl, Below.refl _ _, optDef zβ rfl⟩
        refine ⟨⟨(true && !(((dget st i).t.f : Int) != ((-1 - (dget st i).var) : Int))), .no (c := (((dget st i).t.f : Int) != ((-1 - (dget st i).var) : Int))) (d := true) rfl (fun v w h => h), fun h w => optUndef h, fun zβ za zw zc => ?_⟩, ?_⟩
        · exact fld_24_1 rfl ((show za.eval (.tmp 27) = za.tmps.getD 27 undef from rfl).trans (optVal (zc.dep 9 27 (by kernel_rfl)) rfl zβ)) ⟨_, rfl, Below.refl _ _, optDef zβ rfl⟩
        refine ⟨⟨(true && !(((dget st i).t.f : Int) != ((-1 - (dget st i).var) : Int))), .no (c := (((dget st i).t.f : Int) != ((-1 - (dget st i).var) : Int))) (d := true) rfl (fun v w h => h), fun h w => optUndef h, fun zβ za zw zc => ?_⟩, ?_⟩
        · exact ld_22 rfl ((show za.eval (.tmp 28) = za.tmps.getD 28 undef from rfl).trans (optVal (zc.dep 10 28 (by kernel_rfl)) rfl zβ)) (bkeeps zc.below _ _ hc36) ⟨_, rfl, Below.refl _ _, optDef zβ rfl⟩
        refine ⟨⟨(true && !(((dget st i).t.f : Int) != ((-1 - (dget st i).var) : Int))), .no (c := (((dget st i).t.f : Int) != ((-1 - (dget st i).var) : Int))) (d := true) rfl (fun v w h => h), fun h w => optUndef h, fun zβ za zw zc => ?_⟩, ?_⟩
        · exact len_22 rfl ((show za.eval (.tmp 29) = za.tmps.getD 29 undef from rfl).trans (optVal (zc.dep 11 29 (by kernel_rfl)) rfl zβ)) ⟨_, rfl, Below.refl _ _, optDef zβ rfl⟩
        refine ⟨⟨(true && !(((dget st i).t.f : Int) != ((-1 - (dget st i).var) : Int))), .no (c := (((dget st i).t.f : Int) != ((-1 - (dget st i).var) : Int))) (d := true) rfl (fun v w h => h), fun h w => optUndef h, fun zβ za zw zc => ?_⟩, ?_⟩
        · exact gtr_3 rfl ((show za.eval (.tmp 30) = za.tmps.getD 30 undef from rfl).trans (optVal (zc.dep 12 30 (by kernel_rfl)) rfl zβ)) (zc.kn.ev rfl) ⟨_, rfl, Below.refl _ _, optDef zβ rfl⟩
        refine ⟨⟨true, .none rfl, fun h w => optUndef h, fun zβ za zw zc => ?_⟩, ?_⟩
        · exact wp_or rfl ((show za.eval (.tmp 25) = za.tmps.getD 25 undef from rfl).trans (optVal (zc.dep 7 25 (by kernel_rfl)) rfl rfl)) (fun hp => ((show za.eval (.tmp 31) = za.tmps.getD 31 undef from rfl).trans (optVal (zc.dep 13 31 (by kernel_rfl)) rfl (bMkN zβ hp)))) ⟨_, rfl, Below.refl _ _, optDef zβ rfl⟩
        exact trivial
      · intro za w37 zh hb38 zu
        have zh := zh.cons (d := 32) (v := .bool (((((dget st i).t.f : Int) != ((-1 - (dget st i).var) : Int)) || (decide ((0 : Int) < ((((dget st i).t.args.length : Nat) : Int) : Int)))))) (optVal (zu 14 32 (by kernel_rfl)) rfl rfl)
        clear zu
        refine (show WE _ [(0, .pointer (some ⟨g, 0, none⟩)), (2, .slice none 0 0), (3, .slice x.a x.n x.c), (4, .int .i64 ((dget st i).var)), (5, .pointer (some ⟨pb, po, none⟩)), (7, .bool false), (12, .pointer (some ⟨g2, 0, none⟩)), (14, .bool true), (32, .bool (((((dget st i).t.f : Int) != ((-1 - (dget st i).var) : Int)) || (decide ((0 : Int) < ((((dget st i).t.args.length : Nat) : Int) : Int))))))] w37 _ .normal from ?_) za (zh.sub ⟨rfl, rfl, rfl, rfl, rfl, rfl, rfl, rfl, rfl, trivial⟩)
        refine WE.next ?_
        refine WC.cond rfl (fun h39 => ?_) (fun h39 => ?_)
        · have h39 : (((dget st i).t.f : Int) ≠ ((-1 - (dget st i).var) : Int)) ∨ ((0 : Int) < ((((dget st i).t.args.length : Nat) : Int) : Int)) := by simpa using h39
          have ho40 := hR31.below hb38
          have hc41 := bkeeps hb38 _ _ hc35
          have hc42 := bkeeps hb38 _ _ hc36
          have hb43 : Below w.heap.size w w37 := (bstep hb32 hb38)
          have hSlt : ∀ b, (fun b => (Value.slice x.a x.n x.c).ownBlock = some b) b → b < w37.heap.size := fun b h => (ho40.lt b h).2
          have hSlo : ∀ b, (fun b => (Value.slice x.a x.n x.c).ownBlock = some b) b → w1.heap.size ≤ b ∧ b < w23.heap.size := fun b h => hR31.lt b h
          have hBW : w1.heap.size ≤ w37.heap.size := by have z1 := (Nat.le_trans (Nat.le_trans hBw (Nat.le_of_eq hu24.size.symm)) hb38.size); omega
          have hlL : x.n = ((told st x.done)).length := ho40.len
          refine WC.tail3 (S := ((fun b => (Value.slice x.a x.n x.c).ownBlock = some b))) [(true, .val (.slice x.a x.n x.c)), (true, .val (.int .i64 ((dget st i).var))), (true, .val (.pointer (some ⟨pb, po, none⟩))), (true, .val (.pointer (some ⟨pb, po, none⟩))), (true, .val (.agg #[.int .i64 ((dget st i).t.f), .slice pa ((dget st i).t.args.length) pc])), (true, .mem (fun v w' => NewT w37 w' ((dget st i).t) v) (fun v w w' hc h => InT.chg h hc (fun b hb hs => by have z := hSlt b hs; omega))), (true, .mem (fun v w' => BdNew w37 w' ((dget st i)) v) (fun v w w' hc h => h.chg hc hSlt)), (true, .mem (fun v w' => OneRow eltB w37 57 ((dget st i)) v w') (fun v w w' hc h => h.chg hc hSlt)), (true, .val undef), (true, .val undef)] [(0, .pointer (some ⟨g, 0, none⟩)), (2, .slice none 0 0), (4, .int .i64 ((dget st i).var)), (5, .pointer (some ⟨pb, po, none⟩)), (7, .bool false), (12, .pointer (some ⟨g2, 0, none⟩)), (14, .bool true), (32, .bool (((((dget st i).t.f : Int) != ((-1 - (dget st i).var) : Int)) || (decide ((0 : Int) < ((((dget st i).t.args.length : Nat) : Int) : Int))))))] 8 9 ((x.n + 1)) 41 3 (fun ra rc wz => RowE eltB wz w1.heap.size 57 ra rc (x.n + 1) ((told st x.done ++ [(dget st i)]))) (by decide) (fun ra rc w w' hb h => h.below hb) ⟨rfl, rfl, rfl, rfl, rfl, rfl, rfl, rfl, trivial⟩ (by kernel_rfl) (by kernel_rfl) (by kernel_rfl) (by kernel_rfl) (by kernel_rfl) (by kernel_rfl) ?_ ?_
          · refine ⟨.inl ⟨rfl, true, .none rfl, (fun gg b h => by cases h), fun h w => optUndef h, fun zβ za zw zc => ?_⟩, ?_⟩
            · exact wp_move rfl ((show za.eval (.tmp 3) = za.tmps.getD 3 undef from rfl).trans (zc.old 3 _ rfl (by kernel_rfl))) ⟨_, rfl, Below.refl _ _, optDef zβ rfl⟩
            refine ⟨.inl ⟨rfl, true, .none rfl, (fun gg b h => by cases h), fun h w => optUndef h, fun zβ za zw zc => ?_⟩, ?_⟩
            · exact wp_move rfl (zc.kn.ev rfl) ⟨_, rfl, Below.refl _ _, optDef zβ rfl⟩
            refine ⟨.inl ⟨rfl, true, .none rfl, (fun gg b h => by cases h), fun h w => optUndef h, fun zβ za zw zc => ?_⟩, ?_⟩
            · exact wp_move rfl (zc.kn.ev rfl) ⟨_, rfl, Below.refl _ _, optDef zβ rfl⟩
            refine ⟨.inl ⟨rfl, true, .none rfl, (fun gg b h => by cases h), fun h w => optUndef h, fun zβ za zw zc => ?_⟩, ?_⟩
            · exact nilCheck_ rfl ((show za.eval (.tmp 35) = za.tmps.getD 35 undef from rfl).trans (optSVal (zc.dep 2 35 (by kernel_rfl) (by decide)) rfl rfl)) ⟨_, rfl, Below.refl _ _, optDef zβ rfl⟩
            refine ⟨.inl ⟨rfl, true, .none rfl, (fun gg b h => by cases h), fun h w => optUndef h, fun zβ za zw zc => ?_⟩, ?_⟩
            · exact ld_24 rfl ((show za.eval (.tmp 36) = za.tmps.getD 36 undef from rfl).trans (optSVal (zc.dep 3 36 (by kernel_rfl) (by decide)) rfl rfl)) (bkeeps (zc.early (by kernel_rfl)) _ _ hc41) (bkeeps (zc.early (by kernel_rfl)) _ _ hc42) ⟨_, rfl, Below.refl _ _, optDef zβ rfl⟩
            refine ⟨.inl ⟨rfl, true, .none rfl, (fun gg b h => by cases h), fun h w => optUndef h, fun zβ za zw zc => ?_⟩, ?_⟩
            · exact wp_call (by kernel_rfl) rfl (hv1 ((show za.eval (.tmp 37) = za.tmps.getD 37 undef from rfl).trans (optSVal (zc.dep 4 37 (by kernel_rfl) (by decide)) rfl rfl))) (copy_any (dget st i).t _ _ hszi (IsT.below (bstep hb43 (zc.early (by kernel_rfl))) hp3)) (fun v w' h => ⟨v, rfl, h.2, optDef zβ (InT.mono (fun b hb _ => Nat.le_trans (zc.early (by kernel_rfl)).size hb) h.1)⟩)
            refine ⟨.inl ⟨rfl, true, .none rfl, (fun gg b h => by cases h), fun h w => optUndef h, fun zβ za zw zc => ?_⟩, ?_⟩
            · have zv := (optSMem (zc.dep 5 38 (by kernel_rfl) (by decide)) rfl rfl)
              obtain ⟨_, a1, c1, e1, _⟩ := zv.form
              rw [e1] at zv
              exact build_57_0_1 rfl ((show za.eval (.tmp 34) = za.tmps.getD 34 undef from rfl).trans (optSVal (zc.dep 1 34 (by kernel_rfl) (by decide)) rfl rfl)) ((show za.eval (.tmp 38) = za.tmps.getD 38 undef from rfl).trans e1) ⟨_, rfl, Below.refl _ _, optDef zβ ⟨_, _, rfl, hi64, zv⟩⟩
            refine ⟨.inl ⟨rfl, true, .none rfl, (fun gg b h => by cases h), fun h w => optUndef h, fun zβ za zw zc => ?_⟩, ?_⟩
            · have zv := (optSMem (zc.dep 6 39 (by kernel_rfl) (by decide)) rfl rfl)
              obtain ⟨u1, u2, e1, h0, zv⟩ := zv
              exact row_26_1 rfl ((show za.eval (.tmp 39) = za.tmps.getD 39 undef from rfl).trans e1) ⟨_, rfl, balloc _ _, optDef zβ ⟨_, _, rfl, zc.chg.size, Blk.new' rfl, ⟨_, _, rfl, h0, zv.below (balloc _ _)⟩⟩⟩
            refine ⟨.inr (.inl ⟨rfl, rfl, fun za zw zc => ?_⟩), ?_⟩
            · obtain ⟨g1, cs, e1, hg1, hB1, hin⟩ := (optSMem (zc.dep 7 40 (by kernel_rfl) (by decide)) rfl rfl)
              exact wp_appE (E := eltB) (size := 3) (bytes := 40) (z := .agg #[.int .i64 0, .int .i64 0, .slice none 0 0]) rfl Try.underlying26 (by kernel_rfl) rfl (by decide) rfl ((show za.eval (.tmp 33) = za.tmps.getD 33 undef from rfl).trans (optSVal (zc.dep 0 33 (by kernel_rfl) (by decide)) rfl rfl)) ((show za.eval (.tmp 40) = za.tmps.getD 40 undef from rfl).trans e1) (ho40.below zc.below) hB1 (eltB.mono (fun b hb _ => ⟨by omega, fun e => by have z := (ho40.lt b e).2; omega⟩) hin) (by omega) (by omega) (by have z := zc.below.size; omega) (fun ra rc w' h1 h2 _ => ⟨ra, rc, rfl, h1, h2⟩)
            refine ⟨.inr (.inr ⟨rfl, rfl, 41, by kernel_rfl, rfl⟩), ?_⟩
            exact trivial
          · intro za w44 ra47 rc48 zh zv zv2 hG45 hc46 zu
            have zh := zh.cons (d := 3) zv2
            have hB49 := hB33.below hb38
            have ho50 := ho34.below hb38
            have ho51 := hI25.below hb38
            have hb52 := chg_below hb43 hc46 (fun b hb => (fun h => by have h := hSlo _ h; (try dsimp only at *); omega))
            have hB53 := chg_blk hB49 hc46 (fun h => by have h := hSlo _ h; (try dsimp only at *); omega)
            have ho54 := ho50.chg hc46 (fun h => by have h := hSlo _ h; (try dsimp only at *); omega)
            have ho55 := ho51.chg hc46 (fun h => by have h := hSlo _ h; (try dsimp only at *); omega)
            clear zu
            refine (show WE _ [(0, .pointer (some ⟨g, 0, none⟩)), (2, .slice none 0 0), (3, .slice ra47 ((x.n + 1)) rc48), (4, .int .i64 ((dget st i).var)), (5, .pointer (some ⟨pb, po, none⟩)), (7, .bool false), (12, .pointer (some ⟨g2, 0, none⟩)), (14, .bool true), (32, .bool (((((dget st i).t.f : Int) != ((-1 - (dget st i).var) : Int)) || (decide ((0 : Int) < ((((dget st i).t.args.length : Nat) : Int) : Int))))))] w44 _ .normal from ?_) za (zh.sub ⟨rfl, rfl, rfl, rfl, rfl, rfl, rfl, rfl, rfl, trivial⟩)
            refine WE.blockNormal ?_
            refine WE.round (⟨x.done ++ [y], rest2, seen2, ra47, rc48, (x.n + 1)⟩) ⟨rfl, rfl, rfl, rfl, rfl, trivial⟩ ?_ ?_
            · exact ⟨(Nat.le_trans (Nat.le_trans (Nat.le_trans hBw (Nat.le_of_eq hu24.size.symm)) hb38.size) hc46.size), hIt2, hb52, hB53, ho54, ho55, (by rw [told_new hbd (fun q => by have z := itself_iff.1 q; omega)]; exact hG45)⟩
            · exact hrl
        · have h39 : ¬ ((((dget st i).t.f : Int) ≠ ((-1 - (dget st i).var) : Int)) ∨ ((0 : Int) < ((((dget st i).t.args.length : Nat) : Int) : Int))) := by simpa using h39
          refine WC.skip ?_
          refine WE.blockNormal ?_
          refine WE.round (⟨x.done ++ [y], rest2, seen2, x.a, x.c, x.n⟩) ⟨rfl, rfl, rfl, rfl, rfl, trivial⟩ ?_ ?_
          · have hb56 : Below w.heap.size w w37 := (bstep hb32 hb38)
            have hB57 := hB33.below hb38
            have ho58 := ho34.below hb38
            have ho59 := hI25.below hb38
            have ho60 := hR31.below hb38
            exact ⟨(Nat.le_trans (Nat.le_trans hBw (Nat.le_of_eq hu24.size.symm)) hb38.size), hIt2, hb56, hB57, ho58, ho59, (by rw [told_self hbd (itself_iff.2 (by omega))]; exact ho60)⟩
          · exact hrl

theorem msubNil (w : World) : Calls Try.prog 23 #[.pointer none] w (Ret fun v' w' => v' = .slice none 0 0 ∧ Below w.heap.size w w') := by
  refine Calls.walk (l := [.pointer none]) Try.func23 rfl (by kernel_rfl) ?_
  refine WC.sub (K' := [(0, .pointer none)]) ⟨rfl, trivial⟩ ?_
  refine WC.seq ?_
  refine WC.region ?_
  refine WL.val (.slice none 0 0) rfl rfl rfl (fun za zC zh zk => wp_assign rfl (zh.ev rfl) zk) ?_
  refine WL.nil (WE.sub (K' := [(0, .pointer none), (2, .slice none 0 0)]) ⟨rfl, rfl, trivial⟩ ?_)
  refine WE.next ?_
  refine WC.seq ?_
  refine WC.seq ?_
  refine WC.region ?_
  refine WL.val (.pointer none) rfl rfl rfl (fun za zC zh zk => wp_move rfl (zh.ev rfl) zk) ?_
  refine WL.val (.bool true) rfl rfl rfl (fun za zC zh zk => eqln_33 rfl (zh.ev rfl) (zh.ev rfl) zk) ?_
  refine WL.nil (WE.sub (K' := [(0, .pointer none), (2, .slice none 0 0), (7, .bool true)]) ⟨rfl, rfl, rfl, trivial⟩ ?_)
  refine WE.next ?_
  refine WC.condT rfl rfl ?_
  refine WC.seq ?_
  refine WC.region ?_
  refine WL.val (.slice none 0 0) rfl rfl rfl (fun za zC zh zk => wp_assign rfl (zh.ev rfl) zk) ?_
  refine WL.nil (WE.sub (K' := [(0, .pointer none), (2, .slice none 0 0), (7, .bool true)]) ⟨rfl, rfl, rfl, trivial⟩ ?_)
  refine WE.next ?_
  refine WC.ret ?_
  refine WE.thenRet ?_
  refine WE.ret1 rfl rfl ?_
  exact ⟨_, rfl, rfl, (Below.refl _ _)⟩

end Go.Proofs.Ytcmfjnadjddboaa

/- Regions in whatever order, in which operations that change the memory may be guarded: one behind the other, each with what it yields. -/
namespace Go.Proofs.Ytcmfjnadjddboaa
open Go.RowKit Go
set_option linter.unusedVariables false
set_option linter.unusedSimpArgs false
section
variable {P : Program} {ops : Array Oper}
structure CtxQ (ops : Array Oper) (chain : List Nat) (R : Nat → Value → World → Prop) (G : List (Option Value) → World → Prop) (n : Fr) (K Ke : Known) (i : Nat) (o : Oper) (a : Act) (w : World) (vs : List (Option Value)) : Prop extends CtxH ops chain R G n K Ke i o a w vs where
  anc : ∀ (p c : Nat), chain[p]? = some c → o.after.any (fun e => Region.binds .any e && (ancL ops e.on).contains c) = true → ∃ v, vs[p]? = some (some v)
def SoundQ (P : Program) (ops : Array Oper) (Q : Exit → Act → World → Prop) (chain : List Nat) (R : Nat → Value → World → Prop) (Le : World → World → Prop) (G : List (Option Value) → World → Prop) (n : Fr) (K Ke : Known) (i : Nat) (o : Oper) : Prop :=
  (chain.contains i = false ∧ ∃ β, GuardIs R o β ∧ (∀ g b, o.guard = some (g, b) → chain.contains g = false) ∧ (β = false → ∀ w, R i undef w) ∧
    (β = true → ∀ (a : Act) (w : World) (vs : List (Option Value)), CtxQ ops chain R G n K Ke i o a w vs →
      o.wpIn (fen n.r) 0 P a w (fun a' w' => ∃ v, a' = Act.put a o.dst v ∧ Le w w' ∧ G vs w' ∧ R i v w') Q)) ∨
  (∃ p, chain[p]? = some i ∧ ∃ β, GuardIs R o β ∧ (∀ g b, o.guard = some (g, b) → chain.contains g = false) ∧
    (β = false → ∀ (a : Act) (w : World) (vs : List (Option Value)), CtxQ ops chain R G n K Ke i o a w vs → vs[p]? = some none → G (vs.set p (some undef)) w) ∧
    (β = true → ∀ (a : Act) (w : World) (vs : List (Option Value)), CtxQ ops chain R G n K Ke i o a w vs → vs[p]? = some none →
      o.wpIn (fen n.r) 0 P a w (fun a' w' => ∃ v, a' = Act.put a o.dst v ∧ Le w w' ∧ G (vs.set p (some v)) w') Q))
def SoundFromQ (P : Program) (ops : Array Oper) (Q : Exit → Act → World → Prop) (chain : List Nat) (R : Nat → Value → World → Prop) (Le : World → World → Prop) (G : List (Option Value) → World → Prop) (n : Fr) (K Ke : Known) : Nat → List Oper → Prop
  | _, [] => True
  | k, o :: r => SoundQ P ops Q chain R Le G n K Ke k o ∧ SoundFromQ P ops Q chain R Le G n K Ke (k + 1) r
theorem SoundFromQ.at_ {Q : Exit → Act → World → Prop} {chain : List Nat} {R : Nat → Value → World → Prop} {Le : World → World → Prop} {G : List (Option Value) → World → Prop} {n : Fr} {K Ke : Known} : ∀ {l : List Oper} {k : Nat}, SoundFromQ P ops Q chain R Le G n K Ke k l → ∀ i o, l[i]? = some o → SoundQ P ops Q chain R Le G n K Ke (k + i) o
  | [], _, _, i, o, h => by simp at h
  | x :: r, k, h, 0, o, ho => by simp at ho; subst ho; exact h.1
  | x :: r, k, h, i + 1, o, ho => by
    have := h.2.at_ i o (by simpa using ho)
    rwa [show k + 1 + i = k + (i + 1) by omega] at this

theorem wp_any_genQ {Q : Exit → Act → World → Prop} {n : Fr} {K Ke : Known} (chain : List Nat) (R : Nat → Value → World → Prop) (Le : World → World → Prop) (G : List (Option Value) → World → Prop)
    (hB : opsB ops n.n = true) (hnd : chain.Nodup) (hin : (chain.all fun c => Nat.blt c ops.size) = true) (hclear : clearB ops K = true)
    (hR : ∀ i v w w', R i v w → Le w w' → R i v w')
    (h : SoundFromQ P ops Q chain R Le G n K Ke 0 ops.toList)
    (hQ : ∀ (a : Act) (w : World) (vs : List (Option Value)), Kn n K a → vs.length = chain.length → (∀ p, p < chain.length → ∃ v, vs[p]? = some (some v)) → G vs w → (∀ i d, (ops[i]?).bind (·.dst) = some d → chain.contains i = false → R i (a.tmps.getD d undef) w) → (∀ (p c d : Nat), chain[p]? = some c → (ops[c]?).bind (·.dst) = some d → vs[p]? = some (some (a.tmps.getD d undef))) → Q .normal a w) :
    ∀ (a0 : Act) (w0 : World), Kn n K a0 → Kn n Ke a0 → G (List.replicate chain.length none) w0 → wpAnyIn (fen n.r) 0 P .any ops Q ops.size (Array.replicate ops.size false) a0 w0 := by
  have main : ∀ (fuel : Nat) (listed : Array Bool) (a : Act) (vs : List (Option Value)) (w : World), listed.toList.count false ≤ fuel → AtH ops chain R G n K Ke listed a vs w →
      wpAnyIn (fen n.r) 0 P .any ops Q fuel listed a w := by
    intro fuel
    have done : ∀ (listed : Array Bool) (a : Act) (vs : List (Option Value)) (w : World), Region.ready .any ops listed = [] → AtH ops chain R G n K Ke listed a vs w → Q .normal a w := by
      intro listed a vs w hr H
      have all : ∀ i, i < ops.size → listed.getD i false = true := fun i hi => by
        have := ready_nil hB H.size hr i hi
        have hs := H.size
        simpa [Array.getD, show i < listed.size by omega] using this
      have hin' : ∀ p c, chain[p]? = some c → c < ops.size := fun p c hc => by
        have := List.all_eq_true.1 hin _ (List.mem_of_getElem? hc)
        simpa [Nat.blt_eq] using this
      have lt_of : ∀ i d, (ops[i]?).bind (·.dst) = some d → i < ops.size := fun i d hd => by
        rcases Nat.lt_or_ge i ops.size with h | h
        · exact h
        · simp [Array.getElem?_eq_none h] at hd
      exact hQ a w vs H.kn H.len (fun p hp => (H.link p chain[p] (by simp [hp])).1 (all _ (hin' p _ (by simp [hp])))) H.now (fun i d hd hc => H.plain i d hc (all i (lt_of i d hd)) hd) (fun p c d hc hd => H.vals p c d hc (all c (hin' p c hc)) hd)
    induction fuel with
    | zero =>
      intro listed a vs w hc H
      have hr : Region.ready .any ops listed = [] := by
        cases hr : Region.ready .any ops listed with
        | nil => rfl
        | cons i r =>
          have := (mem_ready (md := .any) (ops := ops) (j := i) (listed := listed)).1 (by rw [hr]; simp)
          rw [count_zero hc i] at this
          simp at this
      exact ⟨hr, done listed a vs w hr H⟩
    | succ fuel ih =>
      intro listed a vs w hc H
      refine ⟨fun hr => done listed a vs w hr H, fun i hi => ?_⟩
      obtain ⟨hun, o, ho, haf⟩ := mem_ready.1 hi
      have hilt : i < ops.size := by
        rcases Nat.lt_or_ge i ops.size with h | h
        · exact h
        · simp [Array.getElem?_eq_none h] at ho
      have hils : i < listed.size := by have := H.size; omega
      have hun' := getD_false_of hun
      have ok := opsB_spec hB ho
      have hs2 := h.at_ i o (by simpa using ho)
      rw [Nat.zero_add] at hs2
      have after_of : ∀ j d, depB ops o j d = true → listed.getD j false = true ∧ (ops[j]?).bind (·.dst) = some d := by
        intro j d hj
        simp only [depB, Bool.and_eq_true, Array.any_eq_true, beq_iff_eq] at hj
        obtain ⟨⟨k, hk, h1, h2⟩, h3⟩ := hj
        exact ⟨h1 ▸ haf _ (Array.getElem_mem hk) h2, h3⟩
      have ctx : CtxH ops chain R G n K Ke i o a w vs := by
        have opt : ∀ p c, chain[p]? = some c → listed.getD c false = false → vs[p]? = some none := fun p c hc hl => by
          have hp : p < vs.length := by rw [H.len]; exact (List.getElem?_eq_some_iff.1 hc).1
          rw [List.getElem?_eq_getElem hp]
          cases hx : vs[p] with
          | none => rfl
          | some v =>
            have := (H.link p c hc).2 ⟨v, by rw [List.getElem?_eq_getElem hp, hx]⟩
            rw [hl] at this; cases this
        refine ⟨H.now, H.kn, fun j d hj hc => H.plain j d hc (after_of j d hj).1 (after_of j d hj).2, H.len, fun p c d hc hj => H.vals p c d hc (after_of c d hj).1 (after_of c d hj).2, fun p c hc ha => ?_, fun p c hc ha => opt p c hc ?_, fun p c hc ha => opt p c hc ?_, fun d v hd hc => H.old d v hd fun c hcd => ?_⟩
        · simp only [Array.any_eq_true, Bool.and_eq_true, beq_iff_eq] at ha
          obtain ⟨k, hk, h1, h2⟩ := ha
          exact (H.link p c hc).1 (h1 ▸ haf _ (Array.getElem_mem hk) h2)
        · cases hl : listed.getD c false with
          | false => rfl
          | true =>
            exfalso
            unfold afterB at ha
            split at ha
            · rename_i oc hoc
              simp only [Array.any_eq_true, Bool.and_eq_true, beq_iff_eq] at ha
              obtain ⟨k, hk, h1, h2⟩ := ha
              have := H.closed c oc hoc hl _ (Array.getElem_mem hk) h2
              rw [h1, hun'] at this
              cases this
            · cases ha
        · cases hl : listed.getD c false with
          | false => rfl
          | true =>
            exfalso
            have := anc_listed H.closed hl i (by simpa using ha)
            rw [hun'] at this
            cases this
        · cases hl : listed.getD c false with
          | false => rfl
          | true =>
            exfalso
            have := anc_listed H.closed hl i (by simpa using hc c hcd)
            rw [hun'] at this
            cases this
      have ctxQ : CtxQ ops chain R G n K Ke i o a w vs := ⟨ctx, fun p c hc ha => by
        simp only [Array.any_eq_true, Bool.and_eq_true] at ha
        obtain ⟨k, hk, h1, h2⟩ := ha
        exact (H.link p c hc).1 (anc_listed H.closed (haf _ (Array.getElem_mem hk) h1) c (by simpa using h2))⟩
      unfold wpOpIn
      simp only [ho]
      -- what is behind a step
      have step : ∀ (v : Value) (vs' : List (Option Value)) (w' : World), (∀ j u, R j u w → R j u w') → G vs' w' → (∀ d, o.dst = some d → chain.contains i = false → R i v w') →
          ((chain.contains i = false ∧ vs' = vs) ∨ (∃ p, chain[p]? = some i ∧ vs' = vs.set p (some v))) →
          wpAnyIn (fen n.r) 0 P .any ops Q fuel (listed.setIfInBounds i true) (Act.put a o.dst v) w' := by
        intro v vs' w' hle hG hRi hvs
        have hc' := count_set (l := listed) hils hun hc
        have hset : ∀ j, (listed.setIfInBounds i true).getD j false = true ↔ j = i ∨ listed.getD j false = true := by
          intro j
          by_cases hj : j = i
          · subst hj; simp [getD_set_eq hils]
          · rw [getD_set_ne false (Ne.symm hj)]; simp [hj]
        have hother : ∀ j k, j ≠ i → (ops[j]?).bind (·.dst) = some k → (Act.put a o.dst v).tmps.getD k undef = a.tmps.getD k undef := by
          intro j k hji hjk
          refine act_put_other (fun hd => ?_)
          have hjlt : j < ops.size := by
            rcases Nat.lt_or_ge j ops.size with h | h
            · exact h
            · simp [Array.getElem?_eq_none h] at hjk
          exact hji (ok.own k j hd hjlt hjk).symm
        have hself : ∀ d, (ops[i]?).bind (·.dst) = some d → (Act.put a o.dst v).tmps.getD d undef = v := by
          intro d hd
          rw [ho] at hd
          simp only [Option.bind_some] at hd
          rw [hd]
          exact act_put_self (by rw [H.kn.size]; exact ok.lt d hd)
        refine ih _ _ vs' w' hc' ⟨by simpa using H.size, H.kn.put_clear (fun k hk => clearB_look hclear (mem_dsts ho hk)) v, fun j d hjc hj hjd => ?_, fun p c hpc => ?_, fun p c d hpc hp hcd => ?_, ?_, fun j oj hoj hj e he hb => ?_, hG, fun d u hd hc => ?_⟩
        · by_cases hji : j = i
          · subst hji
            rw [hself d hjd]
            rw [ho] at hjd
            exact hRi d hjd hjc
          · rw [hother j d hji hjd]
            exact hle _ _ (H.plain j d hjc (((hset j).1 hj).resolve_left hji) hjd)
        · rw [hset]
          rcases hvs with ⟨hci, rfl⟩ | ⟨q, hq, rfl⟩
          · have : c ≠ i := by
              rintro rfl
              have := List.mem_of_getElem? hpc
              simp [this] at hci
            exact ⟨fun h => (H.link p c hpc).1 (h.resolve_left this), fun h => .inr ((H.link p c hpc).2 h)⟩
          · have hpl : q < vs.length := by rw [H.len]; exact (List.getElem?_eq_some_iff.1 hq).1
            by_cases hpq : p = q
            · subst hpq
              rw [hq] at hpc
              simp only [Option.some.injEq] at hpc
              subst hpc
              exact ⟨fun _ => ⟨v, by rw [List.getElem?_set_self hpl]⟩, fun _ => .inl rfl⟩
            · have hci : c ≠ i := by
                rintro rfl
                exact hpq ((List.getElem?_inj (List.getElem?_eq_some_iff.1 hpc).1 hnd).1 (hpc.trans hq.symm))
              rw [List.getElem?_set_ne (Ne.symm hpq)]
              exact ⟨fun h => (H.link p c hpc).1 (h.resolve_left hci), fun h => .inr ((H.link p c hpc).2 h)⟩
        · rcases hvs with ⟨hci, rfl⟩ | ⟨q, hq, rfl⟩
          · have hne : c ≠ i := by
              rintro rfl
              have := List.mem_of_getElem? hpc
              simp [this] at hci
            rw [hother c d hne hcd]
            exact H.vals p c d hpc (((hset c).1 hp).resolve_left hne) hcd
          · have hpl : q < vs.length := by rw [H.len]; exact (List.getElem?_eq_some_iff.1 hq).1
            by_cases hpq : p = q
            · subst hpq
              rw [hq] at hpc
              simp only [Option.some.injEq] at hpc
              subst hpc
              rw [hself d hcd, List.getElem?_set_self hpl]
            · have hne : c ≠ i := by
                rintro rfl
                exact hpq ((List.getElem?_inj (List.getElem?_eq_some_iff.1 hpc).1 hnd).1 (hpc.trans hq.symm))
              rw [hother c d hne hcd, List.getElem?_set_ne (Ne.symm hpq)]
              exact H.vals p c d hpc (((hset c).1 hp).resolve_left hne) hcd
        · rcases hvs with ⟨hci, rfl⟩ | ⟨q, hq, rfl⟩
          · exact H.len
          · rw [List.length_set]; exact H.len
        · rw [hset]
          by_cases hji : j = i
          · subst hji
            rw [ho] at hoj
            simp only [Option.some.injEq] at hoj
            subst hoj
            exact .inr (haf e he hb)
          · exact .inr (H.closed j oj hoj (((hset j).1 hj).resolve_left hji) e he hb)
        · have hne : o.dst ≠ some d := fun e => by
            have := hc i (by rw [ho]; exact e)
            rw [(hset i).2 (.inl rfl)] at this
            cases this
          rw [act_put_other hne]
          refine H.old d u hd fun c hcd => ?_
          cases hl : listed.getD c false with
          | false => rfl
          | true => have := hc c hcd; rw [(hset c).2 (.inr hl)] at this; cases this
      have known : ∀ {β : Bool}, GuardIs R o β → (∀ g b, o.guard = some (g, b) → chain.contains g = false) → Region.wanted o (yielded ops a.tmps) = β := by
        intro β hg hgc
        have known : ∀ g c d b, o.guard = some (g, b) → (∀ v w, R g v w → (d = true → v = .bool c) ∧ (d = false → v = undef)) → yielded ops a.tmps g = if d then some c else none := by
          intro g c dd b hgb hv
          obtain ⟨⟨e, he, h1, h2⟩, d, hd⟩ := ok.guard g b hgb
          have hv := hv (a.tmps.getD d undef) w (H.plain g d (hgc g b hgb) (h1 ▸ haf e he h2) hd)
          have hdlt : d < a.tmps.size := by
            obtain ⟨og, hog, hgd⟩ := Option.bind_eq_some_iff.1 hd
            rw [H.kn.size]
            exact (opsB_spec hB hog).lt d hgd
          unfold yielded
          rw [hd]
          simp only [Array.getD_eq_getD_getElem?, Array.getElem?_eq_getElem hdlt, Option.getD_some] at hv
          cases dd with
          | true => simp [hdlt, hv.1 rfl]
          | false => simp [hdlt, hv.2 rfl, undef]
        cases hg with
        | none h => unfold Region.wanted; rw [h]
        | @yes g c d h hv => have := known _ _ _ _ h hv; unfold Region.wanted; rw [h]; simp only [this]; cases d <;> simp
        | @no g c d h hv => have := known _ _ _ _ h hv; unfold Region.wanted; rw [h]; simp only [this]; cases d <;> cases c <;> simp
      rcases hs2 with ⟨hci, β, hg, hgc, hs1, hs2⟩ | ⟨p, hp, β, hg, hgc, hs1, hs2⟩
      · have hwant := known hg hgc
        cases hβ : β with
        | false =>
          rw [hβ] at hwant
          simp only [hwant, Bool.false_eq_true, if_false]
          refine ⟨fun f _ => fen_fn _ f, ?_⟩
          exact step undef vs w (fun _ _ h => h) H.now (fun _ _ _ => hs1 hβ w) (.inl ⟨hci, rfl⟩)
        | true =>
          rw [hβ] at hwant
          simp only [hwant, if_true]
          refine Oper.wpIn_mono ?_ (hs2 hβ a w vs ctxQ)
          rintro a' w' ⟨v, rfl, hle, hG, hRi⟩
          exact step v vs w' (fun j u hj => hR j u _ _ hj hle) hG (fun _ _ _ => hRi) (.inl ⟨hci, rfl⟩)
      · have hwant := known hg hgc
        have hnone : vs[p]? = some none := by
          have hp' : p < vs.length := by rw [H.len]; exact (List.getElem?_eq_some_iff.1 hp).1
          rw [List.getElem?_eq_getElem hp']
          cases hx : vs[p] with
          | none => rfl
          | some v =>
            have := (H.link p i hp).2 ⟨v, by rw [List.getElem?_eq_getElem hp', hx]⟩
            rw [hun'] at this; cases this
        have hcc : chain.contains i = true := by
          have := List.mem_of_getElem? hp
          simpa using this
        cases hβ : β with
        | false =>
          rw [hβ] at hwant
          simp only [hwant, Bool.false_eq_true, if_false]
          refine ⟨fun f _ => fen_fn _ f, ?_⟩
          exact step undef (vs.set p (some undef)) w (fun _ _ h => h) (hs1 hβ a w vs ctxQ hnone) (fun _ _ h => by rw [hcc] at h; cases h) (.inr ⟨p, hp, rfl⟩)
        | true =>
          rw [hβ] at hwant
          simp only [hwant, if_true]
          refine Oper.wpIn_mono ?_ (hs2 hβ a w vs ctxQ hnone)
          rintro a' w' ⟨v, rfl, hle, hG⟩
          exact step v (vs.set p (some v)) w' (fun j u hj => hR j u _ _ hj hle) hG (fun _ _ h => by rw [hcc] at h; cases h) (.inr ⟨p, hp, rfl⟩)
  intro a0 w0 hk0 hke h0
  have nothing' : ∀ i, (Array.replicate ops.size false).getD i false = false := fun i => by
    by_cases h : i < ops.size <;> simp [Array.getD, h]
  refine main _ _ _ (List.replicate chain.length none) _ (by simp) ⟨by simp, hk0, fun i d _ hi => ?_, fun p c hpc => ?_, fun p c d _ hp => ?_, by simp, fun i o _ hi => ?_, h0, fun d v hd _ => hke.knows d v hd⟩
  · rw [nothing'] at hi; cases hi
  · rw [nothing']
    refine ⟨fun h => (by cases h), fun ⟨v, hv⟩ => ?_⟩
    have hp := (List.getElem?_eq_some_iff.1 hpc).1
    simp [hp] at hv
  · rw [nothing'] at hp; cases hp
  · rw [nothing'] at hi; cases hi

theorem WC.genQ {id : Nat} {dr : Bool} {Q : Exit → Act → World → Prop} {n : Fr} {K : Known} {w : World} (chain : List Nat) (R : Nat → Value → World → Prop) (Le : World → World → Prop) (G : List (Option Value) → World → Prop) (K0 : Known)
    (hs : subK K0 K) (hclear : clearB ops K0 = true) (hm : P.follows .mixedOrders = true) (hB : opsB ops n.n = true) (hnd : chain.Nodup) (hin : (chain.all fun c => Nat.blt c ops.size) = true)
    (hR : ∀ i v w w', R i v w → Le w w' → R i v w') (h0 : G (List.replicate chain.length none) (bif dr then w.drew else w))
    (h : SoundFromQ P ops Q chain R Le G n K0 K 0 ops.toList)
    (hQ : ∀ (a : Act) (w : World) (vs : List (Option Value)), Kn n K0 a → vs.length = chain.length → (∀ p, p < chain.length → ∃ v, vs[p]? = some (some v)) → G vs w → (∀ i d, (ops[i]?).bind (·.dst) = some d → chain.contains i = false → R i (a.tmps.getD d undef) w) → (∀ (p c d : Nat), chain[p]? = some c → (ops[c]?).bind (·.dst) = some d → vs[p]? = some (some (a.tmps.getD d undef))) → Q .normal a w) :
    WC P n K w (.region id ops dr) Q := by
  intro a ha
  have main := wp_any_genQ (Ke := K) chain R Le G hB hnd hin hclear hR h hQ a
  cases dr with
  | true => exact wpIn_region_any hm (main _ (ha.sub hs) ha h0)
  | false => exact any_start hB (main _ (ha.sub hs) ha h0)

/-! ### Values that are told -/
/-- Which of the operations of the chain are done, and what they have yielded. -/
def Vals (vals : List Value) (m : Nat) : List (Option Value) := vals.map some ++ List.replicate (m - vals.length) none
variable {S : Nat → Prop}
def GH (S : Nat → Prop) (w0 : World) (m : Nat) (cv : List (Option (Bool × Value))) (GV : List Value → World → Prop) (vs : List (Option Value)) (w : World) : Prop :=
  ∃ vals, vals.length ≤ m ∧ vs = Vals vals m ∧ GV vals w ∧ Chg S w0 w ∧ ∀ (q : Nat) b x, cv[q]? = some (some (b, x)) → b = true → ∀ v, vals[q]? = some v → v = x
theorem vals_some {vals : List Value} {m q : Nat} {v : Value} (h : (Vals vals m)[q]? = some (some v)) : vals[q]? = some v := by
  unfold Vals at h
  rcases Nat.lt_or_ge q vals.length with hq | hq
  · rw [List.getElem?_append_left (by simpa using hq), List.getElem?_map, List.getElem?_eq_getElem hq] at h
    rw [List.getElem?_eq_getElem hq]; simpa using h
  · rw [List.getElem?_append_right (by simpa using hq), List.getElem?_replicate] at h
    split at h
    · cases h
    · cases h
theorem vals_none {vals : List Value} {m q : Nat} (h : (Vals vals m)[q]? = some none) : vals.length ≤ q := by
  unfold Vals at h
  rcases Nat.lt_or_ge q vals.length with hq | hq
  · rw [List.getElem?_append_left (by simpa using hq), List.getElem?_map, List.getElem?_eq_getElem hq] at h
    cases h
  · exact hq
theorem vals_set {vals : List Value} {m : Nat} {v : Value} (h : vals.length < m) : (Vals vals m).set vals.length (some v) = Vals (vals ++ [v]) m := by
  unfold Vals
  rw [List.set_append_right _ _ (by simp), List.map_append, List.length_append, List.append_assoc]
  congr 1
  obtain ⟨k, hk⟩ : ∃ k, m - vals.length = k + 1 := ⟨m - vals.length - 1, by omega⟩
  rw [hk, List.replicate_succ, List.length_map, Nat.sub_self, List.set_cons_zero, show m - (vals.length + [v].length) = k by simp; omega]
  rfl
/-- What an operation finds: 'l' says what the others yield, 'cv' what those of the chain do; 'early': where it must come ahead of an operation of the chain. -/
structure CtxV (ops : Array Oper) (S : Nat → Prop) (l : List (Bool × SpS S)) (chain : List Nat) (cv : List (Option (Bool × Value))) (GV : List Value → World → Prop) (n : Fr) (K Ke : Known) (w0 : World) (i : Nat) (o : Oper) (a : Act) (w : World) : Prop where
  chg : Chg S w0 w
  kn : Kn n K a
  dep : ∀ j d, depB ops o j d = true → chain.contains j = false → optS l j (a.tmps.getD d undef) w
  link : ∀ (q c d : Nat) (b : Bool) (x : Value), chain[q]? = some c → depB ops o c d = true → cv[q]? = some (some (b, x)) → b = true → a.tmps.getD d undef = x
  old : ∀ d v, look Ke d = some v → earlyB ops i d = true → a.tmps.getD d undef = v
  early : ∀ (q c : Nat), chain[q]? = some c → (ancL ops c).contains i = true → ∃ vals, vals.length ≤ q ∧ GV vals w ∧ ∀ (q' c' d : Nat), chain[q']? = some c' → depB ops o c' d = true → vals[q']? = some (a.tmps.getD d undef)
/-- .. and an operation of the chain: what was yielded before it. -/
structure CtxW (ops : Array Oper) (S : Nat → Prop) (l : List (Bool × SpS S)) (chain : List Nat) (cv : List (Option (Bool × Value))) (GV : List Value → World → Prop) (n : Fr) (K Ke : Known) (w0 : World) (i p : Nat) (o : Oper) (a : Act) (w : World) (vals : List Value) : Prop extends CtxV ops S l chain cv GV n K Ke w0 i o a w where
  len : vals.length = p
  now : GV vals w
  val : ∀ (q c d : Nat), chain[q]? = some c → depB ops o c d = true → vals[q]? = some (a.tmps.getD d undef)
/-- That the operation 'o' comes behind the one ahead of it in the chain. -/
def behind (ops : Array Oper) (chain : List Nat) (p : Nat) (o : Oper) : Bool := match p with | 0 => true | p + 1 => match chain[p]? with | some c => o.after.any (fun e => Region.binds .any e && (ancL ops e.on).contains c) | none => false
def SeqV (P : Program) (ops : Array Oper) (Q : Exit → Act → World → Prop) (l : List (Bool × SpS S)) (chain : List Nat) (cv : List (Option (Bool × Value))) (GV : List Value → World → Prop) (n : Fr) (K Ke : Known) (w0 : World) : Nat → List Oper → Prop
  | _, [] => True
  | i, o :: r => ((chain.contains i = false ∧ ∃ β, GuardIs (optS l) o β ∧ (∀ g b, o.guard = some (g, b) → chain.contains g = false) ∧ (β = false → ∀ w, optS l i undef w) ∧
      (β = true → ∀ a w, CtxV ops S l chain cv GV n K Ke w0 i o a w → o.wp P a w (fun a' w' => ∃ v, a' = Act.put a o.dst v ∧ Below w.heap.size w w' ∧ optS l i v w') Q)) ∨
    (∃ p, chain[p]? = some i ∧ behind ops chain p o = true ∧ ∃ β, GuardIs (optS l) o β ∧ (∀ g b, o.guard = some (g, b) → chain.contains g = false) ∧
      (β = false → ∀ w vals, vals.length = p → GV vals w → GV (vals ++ [undef]) w ∧ ∀ b x, cv[p]? = some (some (b, x)) → b = true → undef = x) ∧
      (β = true → ∀ a w vals, CtxW ops S l chain cv GV n K Ke w0 i p o a w vals → o.wp P a w (fun a' w' => ∃ v, a' = Act.put a o.dst v ∧ Chg S w w' ∧ GV (vals ++ [v]) w' ∧ ∀ b x, cv[p]? = some (some (b, x)) → b = true → v = x) Q))) ∧ SeqV P ops Q l chain cv GV n K Ke w0 (i + 1) r
theorem cv_snoc {cv : List (Option (Bool × Value))} {vals : List Value} {v : Value} (h : ∀ (q : Nat) b x, cv[q]? = some (some (b, x)) → b = true → ∀ v, vals[q]? = some v → v = x) (hv : ∀ b x, cv[vals.length]? = some (some (b, x)) → b = true → v = x) : ∀ (q : Nat) b x, cv[q]? = some (some (b, x)) → b = true → ∀ u, (vals ++ [v])[q]? = some u → u = x := by
  intro q b x hq hb u hu
  rcases Nat.lt_trichotomy q vals.length with c | c | c
  · rw [List.getElem?_append_left c] at hu; exact h q b x hq hb u hu
  · subst c
    rw [List.getElem?_append_right (Nat.le_refl _), Nat.sub_self] at hu
    have : v = u := by simpa using hu
    rw [← this]; exact hv b x hq hb
  · rw [List.getElem?_append_right (by omega)] at hu
    obtain ⟨k, hk⟩ : ∃ k, q - vals.length = k + 1 := ⟨q - vals.length - 1, by omega⟩
    rw [hk] at hu; cases hu
theorem SeqV.gen {Q : Exit → Act → World → Prop} {l : List (Bool × SpS S)} {chain : List Nat} {cv : List (Option (Bool × Value))} {GV : List Value → World → Prop} {n : Fr} {K Ke : Known} {w0 : World} (hGV : ∀ vals w w', Below w.heap.size w w' → GV vals w → GV vals w') : ∀ {lo : List Oper} {i : Nat}, SeqV P ops Q l chain cv GV n K Ke w0 i lo →
    SoundFromQ P ops Q chain (optS l) (Chg S) (GH S w0 chain.length cv GV) n K Ke i lo
  | [], _, _ => trivial
  | o :: r, i, ⟨h, hr⟩ => by
    refine ⟨?_, hr.gen hGV⟩
    have ctx : ∀ {a w vs vals}, CtxQ ops chain (optS l) (GH S w0 chain.length cv GV) n K Ke i o a w vs → vs = Vals vals chain.length → Chg S w0 w → (∀ (q : Nat) b x, cv[q]? = some (some (b, x)) → b = true → ∀ v, vals[q]? = some v → v = x) → GV vals w → CtxV ops S l chain cv GV n K Ke w0 i o a w := fun {a w vs vals} C e hc hv hg =>
      ⟨hc, C.kn, C.dep, fun q c d b x h1 h2 h3 h4 => hv q b x h3 h4 _ (vals_some (e ▸ C.link q c d h1 h2)), fun d v hd hb => C.old d v hd (earlyB_of hb), fun q c h1 h2 => ⟨vals, vals_none (e ▸ C.mostT q c h1 h2), hg, fun q' c' d h3 h4 => vals_some (e ▸ C.link q' c' d h3 h4)⟩⟩
    rcases h with ⟨hi, β, h1, h2, h3, h4⟩ | ⟨p, hp, hbh, β, h1, h2, h3, h4⟩
    · refine .inl ⟨hi, β, h1, h2, h3, fun hβ a w vs C => ?_⟩
      obtain ⟨vals, k1, k2, k3, k4, k5⟩ := C.now
      refine Oper.wpIn_mono ?_ (wpIn_of (h4 hβ a w (ctx C k2 k4 k5 k3)) (by rintro a' w' ⟨v, rfl, _⟩; exact put_defers _ _ _))
      rintro a' w' ⟨v, rfl, hb, hR⟩
      exact ⟨v, rfl, .ofBelow hb, ⟨vals, k1, k2, hGV _ _ _ hb k3, k4.trans (.ofBelow hb), k5⟩, hR⟩
    · have hpl : p < chain.length := (List.getElem?_eq_some_iff.1 hp).1
      have len : ∀ {a w vs vals}, CtxQ ops chain (optS l) (GH S w0 chain.length cv GV) n K Ke i o a w vs → vs = Vals vals chain.length → vs[p]? = some none → vals.length = p := fun {a w vs vals} C e hn => by
        have h5 := vals_none (e ▸ hn)
        cases p with
        | zero => omega
        | succ p =>
          unfold behind at hbh
          obtain ⟨c, hc⟩ : ∃ c, chain[p]? = some c := ⟨chain[p], List.getElem?_eq_getElem (by omega)⟩
          simp only [hc] at hbh
          obtain ⟨v, hv⟩ := C.anc p c hc hbh
          have h6 := vals_some (e ▸ hv)
          have := (List.getElem?_eq_some_iff.1 h6).1
          omega
      refine .inr ⟨p, hp, β, h1, h2, fun hβ a w vs C hn => ?_, fun hβ a w vs C hn => ?_⟩
      · obtain ⟨vals, k1, k2, k3, k4, k5⟩ := C.now
        have hl := len C k2 hn
        obtain ⟨z1, z2⟩ := h3 hβ w vals hl k3
        refine ⟨vals ++ [undef], by simp; omega, ?_, z1, k4, cv_snoc k5 (hl ▸ z2)⟩
        rw [k2, ← hl, vals_set (by omega)]
      · obtain ⟨vals, k1, k2, k3, k4, k5⟩ := C.now
        have hl := len C k2 hn
        refine Oper.wpIn_mono ?_ (wpIn_of (h4 hβ a w vals ⟨ctx C k2 k4 k5 k3, hl, k3, fun q c d z1 z2 => vals_some (k2 ▸ C.link q c d z1 z2)⟩) (by rintro a' w' ⟨v, rfl, _⟩; exact put_defers _ _ _))
        rintro a' w' ⟨v, rfl, hc, z1, z2⟩
        refine ⟨v, rfl, hc, vals ++ [v], by simp; omega, ?_, z1, k4.trans hc, cv_snoc k5 (hl ▸ z2)⟩
        rw [k2, ← hl, vals_set (by omega)]
theorem cvIs {v X : Value} {β : Bool} (h : v = X) : ∀ b x, (some (some (β, X)) : Option (Option (Bool × Value))) = some (some (b, x)) → b = true → v = x := fun b x e _ => by cases e; exact h
theorem cvOff {v X : Value} {β : Bool} (h : β = false) : ∀ b x, (some (some (β, X)) : Option (Option (Bool × Value))) = some (some (b, x)) → b = true → v = x := fun b x e hb => by cases e; rw [h] at hb; cases hb
theorem cvNo {v : Value} : ∀ b x, (some none : Option (Option (Bool × Value))) = some (some (b, x)) → b = true → v = x := fun b x e => by cases e
theorem vlen0 {l : List Value} (h : l.length = 0) : l = [] := List.length_eq_zero_iff.1 h
theorem vlen1 {l : List Value} (h : l.length = 1) : ∃ a, l = [a] := by
  match l, h with
  | [a], _ => exact ⟨a, rfl⟩
theorem vlen2 {l : List Value} (h : l.length = 2) : ∃ a b, l = [a, b] := by
  match l, h with
  | [a, b], _ => exact ⟨a, b, rfl⟩
theorem vlen3 {l : List Value} (h : l.length = 3) : ∃ a b c, l = [a, b, c] := by
  match l, h with
  | [a, b, c], _ => exact ⟨a, b, c, rfl⟩
theorem vlen4 {l : List Value} (h : l.length = 4) : ∃ a b c d, l = [a, b, c, d] := by
  match l, h with
  | [a, b, c, d], _ => exact ⟨a, b, c, d, rfl⟩
theorem vlen5 {l : List Value} (h : l.length = 5) : ∃ a b c d e, l = [a, b, c, d, e] := by
  match l, h with
  | [a, b, c, d, e], _ => exact ⟨a, b, c, d, e, rfl⟩
theorem WC.seqV {id : Nat} {dr : Bool} {Q : Exit → Act → World → Prop} {n : Fr} {K : Known} {w : World} (l : List (Bool × SpS S)) (K0 : Known) (chain : List Nat) (cv : List (Option (Bool × Value))) (GV : List Value → World → Prop) (hGV : ∀ vals w w', Below w.heap.size w w' → GV vals w → GV vals w') (hnd : chain.Nodup)
    (hs : subK K0 K) (hclear : clearB ops K0 = true) (hm : P.follows .mixedOrders = true) (hB : opsB ops n.n = true) (hin : (chain.all fun c => Nat.blt c ops.size) = true) (h0 : GV [] w)
    (h : SeqV P ops Q l chain cv GV n K0 K w 0 ops.toList)
    (hQ : ∀ (a : Act) (w' : World) (vals : List Value), Kn n K0 a → vals.length = chain.length → GV vals w' → Chg S w w' → (∀ i d, (ops[i]?).bind (·.dst) = some d → chain.contains i = false → optS l i (a.tmps.getD d undef) w') → (∀ (p c d : Nat), chain[p]? = some c → (ops[c]?).bind (·.dst) = some d → vals[p]? = some (a.tmps.getD d undef)) → (∀ (p c d : Nat) b x, chain[p]? = some c → (ops[c]?).bind (·.dst) = some d → cv[p]? = some (some (b, x)) → b = true → a.tmps.getD d undef = x) → Q .normal a w') :
    WC P n K w (.region id ops dr) Q := by
  refine WC.genQ chain (optS l) (Chg S) (GH S w chain.length cv GV) K0 hs hclear hm hB hnd hin (optSKeep l) ?_ (h.gen hGV) (fun a w' vs hk hlen hall hG hu hl => ?_)
  · refine ⟨[], Nat.zero_le _, by simp [Vals], ?_, ?_, fun q b x _ _ v hv => (nomatch hv)⟩
    · cases dr with
      | true => exact hGV _ _ _ (Below.refl _ _).drew h0
      | false => exact h0
    · cases dr with
      | true => exact .ofBelow (Below.refl _ _).drew
      | false => exact .ofBelow (Below.refl _ _)
  · obtain ⟨vals, k1, k2, k3, k4, k5⟩ := hG
    have hlv : vals.length = chain.length := by
      rcases Nat.lt_or_ge vals.length chain.length with c | c
      · obtain ⟨v, hv⟩ := hall vals.length c
        have h6 := (List.getElem?_eq_some_iff.1 (vals_some (k2 ▸ hv))).1
        omega
      · omega
    have hv : ∀ (p c d : Nat), chain[p]? = some c → (ops[c]?).bind (·.dst) = some d → vals[p]? = some (a.tmps.getD d undef) := fun p c d z1 z2 => vals_some (k2 ▸ hl p c d z1 z2)
    exact hQ a w' vals hk hlv k3 k4 hu hv (fun p c d b x z1 z2 z3 z4 => k5 p b x z3 z4 _ (hv p c d z1 z2))
end
end Go.Proofs.Ytcmfjnadjddboaa

namespace Go.Proofs.Ytcmfjnadjddboaa
open Go.RowKit Go
set_option linter.unusedVariables false
set_option linter.unusedSimpArgs false

set_option maxRecDepth 100000 in
theorem match_any (p t : T) (w : World) (u v : Value) (hp : IsT w p u) (ht : IsT w t v) (hzp : p.size ≤ 4294967296) (hzt : t.size ≤ 4294967296) : Calls Try.prog 8 #[u, v] w (Ret fun v' w' => MatchIs w w' p t v' ∧ Below w.heap.size w w') := by
  obtain ⟨hfp, pa0, pc0, rfl, _, _, _⟩ := hp.form
  obtain ⟨hft, ta0, tc0, rfl, _, _, _⟩ := ht.form
  have hpI := hp.inT
  have htI := ht.inT
  refine Calls.walk (l := [.agg #[.int .i64 p.f, .slice pa0 p.args.length pc0], .agg #[.int .i64 t.f, .slice ta0 t.args.length tc0]]) Try.func8 rfl (by kernel_rfl) ?_
  refine WC.sub (K' := [(0, .agg #[.int .i64 p.f, .slice pa0 p.args.length pc0]), (1, .agg #[.int .i64 t.f, .slice ta0 t.args.length tc0])]) ⟨rfl, rfl, trivial⟩ ?_
  refine WC.seq ?_
  refine WC.region ?_
  refine WL.step (post := NewBlk w 24 #[.int .i64 p.f, .slice pa0 p.args.length pc0]) rfl rfl rfl (fun za zC zh zk => box_24 rfl (zh.ev rfl) (zk _ _ (newBlk _ _ _))) ?_
  rintro _ w1 ⟨g2, rfl, hg3, hB4, hb5, hz6⟩
  have hl7 : w.heap.size ≤ g2 := by omega
  refine WL.step (post := NewBlk w1 24 #[.int .i64 t.f, .slice ta0 t.args.length tc0]) rfl rfl rfl (fun za zC zh zk => box_24 rfl (zh.ev rfl) (zk _ _ (newBlk _ _ _))) ?_
  rintro _ w8 ⟨g9, rfl, hg10, hB11, hb12, hz13⟩
  have hl14 : g2 < g9 := by have z1 := hB4.lt; omega
  have hl15 : w.heap.size ≤ g9 := by have z2 := (hb5).size; omega
  refine WL.val (.slice none 0 0) rfl rfl rfl (fun za zC zh zk => wp_assign rfl (zh.ev rfl) zk) ?_
  refine WL.val (.bool false) rfl rfl rfl (fun za zC zh zk => wp_assign rfl (zh.ev rfl) zk) ?_
  refine WL.nil (WE.sub (K' := [(0, .agg #[.int .i64 p.f, .slice pa0 p.args.length pc0]), (1, .agg #[.int .i64 t.f, .slice ta0 t.args.length tc0]), (2, .pointer (some ⟨g2, 0, none⟩)), (3, .pointer (some ⟨g9, 0, none⟩)), (4, .slice none 0 0), (5, .bool false)]) ⟨rfl, rfl, rfl, rfl, rfl, rfl, trivial⟩ ?_)
  refine WE.next ?_
  refine WC.seq ?_
  refine WC.region ?_
  have hB16 := hB4.below hb12
  have hl17 : g2 < w8.heap.size := hB16.lt
  have hl18 : w.heap.size ≤ g2 := by have z : w.heap.size ≤ w.heap.size := (Nat.le_refl _); omega
  have hl19 : g9 < w8.heap.size := hB11.lt
  have hl20 : w.heap.size ≤ g9 := by have z : w.heap.size ≤ w1.heap.size := hb5.size; omega
  refine WL.call rfl rfl rfl (fun za zh zC => wp_call (by kernel_rfl) rfl (hv0)) (new_any _) ?_
  rintro _ w21 ⟨⟨gm, C, rfl, hMA, hC⟩, hbn⟩
  have hwa : w.heap.size ≤ w8.heap.size := (Nat.le_trans hb5.size hb12.size)
  refine WL.val (.pointer (some ⟨gm, 0, none⟩)) rfl rfl rfl (fun za zC zh zk => wp_assign rfl (zh.ev rfl) zk) ?_
  refine WL.nil (WE.sub (K' := [(0, .agg #[.int .i64 p.f, .slice pa0 p.args.length pc0]), (1, .agg #[.int .i64 t.f, .slice ta0 t.args.length tc0]), (2, .pointer (some ⟨g2, 0, none⟩)), (3, .pointer (some ⟨g9, 0, none⟩)), (4, .slice none 0 0), (5, .bool false), (6, .pointer (some ⟨gm, 0, none⟩))]) ⟨rfl, rfl, rfl, rfl, rfl, rfl, rfl, trivial⟩ ?_)
  refine WE.next ?_
  refine WC.seq ?_
  refine WC.seq ?_
  refine WC.region ?_
  refine WL.val (.pointer (some ⟨gm, 0, none⟩)) rfl rfl rfl (fun za zC zh zk => wp_move rfl (zh.ev rfl) zk) ?_
  have hB22 := hB16.below hbn
  refine WL.val (.agg #[.int .i64 p.f, .slice pa0 p.args.length pc0]) rfl rfl rfl (fun za zC zh zk => ld_24 rfl (zh.ev rfl) ((hB22.cell 0).trans rfl) ((hB22.cell 1).trans rfl) zk) ?_
  have hB23 := hB11.below hbn
  refine WL.val (.agg #[.int .i64 t.f, .slice ta0 t.args.length tc0]) rfl rfl rfl (fun za zC zh zk => ld_24 rfl (zh.ev rfl) ((hB23.cell 0).trans rfl) ((hB23.cell 1).trans rfl) zk) ?_
  have hb24 : Below w.heap.size w w21 := (bstep (bstep hb5 hb12) hbn)
  refine WL.call rfl rfl rfl (fun za zh zC => wp_call (by kernel_rfl) rfl (hv3 (zh.ev rfl) (zh.ev rfl) (zh.ev rfl))) (term_any p t _ _ _ hMA (InT.below hb24 hpI) (IsT.below hb24 ht) (fun b q q2 => by have z := hC _ q2; omega) hzp hzt (by simp; omega)) ?_
  rintro _ w25 ⟨⟨C2, rfl, hMA2, hC2⟩, hcT⟩
  have hb26 := chg_below hb24 hcT (fun b hb => (fun h => by have z := hC _ h; (try dsimp only at *); omega))
  have hB27 := chg_blk hB22 hcT (fun h => by have z := hC _ h; (try dsimp only at *); omega)
  have hB28 := chg_blk hB23 hcT (fun h => by have z := hC _ h; (try dsimp only at *); omega)
  refine WL.val (.bool ((!(mOk p t [])))) rfl rfl rfl (fun za zC zh zk => wp_not rfl (zh.ev rfl) zk) ?_
  refine WL.nil (WE.sub (K' := [(0, .agg #[.int .i64 p.f, .slice pa0 p.args.length pc0]), (1, .agg #[.int .i64 t.f, .slice ta0 t.args.length tc0]), (2, .pointer (some ⟨g2, 0, none⟩)), (3, .pointer (some ⟨g9, 0, none⟩)), (4, .slice none 0 0), (5, .bool false), (6, .pointer (some ⟨gm, 0, none⟩)), (12, .bool ((!(mOk p t []))))]) ⟨rfl, rfl, rfl, rfl, rfl, rfl, rfl, rfl, trivial⟩ ?_)
  refine WE.next ?_
  refine WC.cond rfl (fun h29 => ?_) (fun h29 => ?_)
  · have h29 : ¬ ((mOk p t []) = true) := by simpa using h29
    refine WC.seq ?_
    refine WC.region ?_
    refine WL.val (.slice none 0 0) rfl rfl rfl (fun za zC zh zk => wp_assign rfl (zh.ev rfl) zk) ?_
    refine WL.val (.bool false) rfl rfl rfl (fun za zC zh zk => wp_assign rfl (zh.ev rfl) zk) ?_
    refine WL.nil (WE.sub (K' := [(0, .agg #[.int .i64 p.f, .slice pa0 p.args.length pc0]), (1, .agg #[.int .i64 t.f, .slice ta0 t.args.length tc0]), (2, .pointer (some ⟨g2, 0, none⟩)), (3, .pointer (some ⟨g9, 0, none⟩)), (4, .slice none 0 0), (5, .bool false), (6, .pointer (some ⟨gm, 0, none⟩)), (12, .bool ((!(mOk p t []))))]) ⟨rfl, rfl, rfl, rfl, rfl, rfl, rfl, rfl, trivial⟩ ?_)
    refine WE.next ?_
    refine WC.ret ?_
    refine WE.thenRet ?_
    refine WE.ret2 rfl rfl rfl ?_
    refine ⟨_, rfl, ?_, hb26⟩
    unfold MatchIs
    rw [if_neg (by simpa using h29)]
  · have h29 : ¬ (¬ ((mOk p t []) = true)) := by simpa using h29
    refine WC.skip ?_
    refine WE.next ?_
    refine WC.seq ?_
    refine WC.region ?_
    refine WL.val (.pointer (some ⟨gm, 0, none⟩)) rfl rfl rfl (fun za zC zh zk => wp_move rfl (zh.ev rfl) zk) ?_
    refine WL.call rfl rfl rfl (fun za zh zC => wp_call (by kernel_rfl) rfl (hv1 (zh.ev rfl))) (msub_any _ hMA2 (by have z := (mTo_take p t []).2.1; simp at z; omega)) ?_
    rintro _ w30 ⟨⟨R, ra, rc, rfl, hSO, hNB⟩, hbs⟩
    refine WL.val (.slice ra R.length rc) rfl rfl rfl (fun za zC zh zk => wp_assign rfl (zh.ev rfl) zk) ?_
    refine WL.val (.bool true) rfl rfl rfl (fun za zC zh zk => wp_assign rfl (zh.ev rfl) zk) ?_
    refine WL.nil (WE.sub (K' := [(0, .agg #[.int .i64 p.f, .slice pa0 p.args.length pc0]), (1, .agg #[.int .i64 t.f, .slice ta0 t.args.length tc0]), (2, .pointer (some ⟨g2, 0, none⟩)), (3, .pointer (some ⟨g9, 0, none⟩)), (4, .slice ra R.length rc), (5, .bool true), (6, .pointer (some ⟨gm, 0, none⟩)), (12, .bool ((!(mOk p t []))))]) ⟨rfl, rfl, rfl, rfl, rfl, rfl, rfl, rfl, trivial⟩ ?_)
    refine WE.next ?_
    refine WC.ret ?_
    refine WE.ret2 rfl rfl rfl ?_
    have hb31 : Below w.heap.size w w30 := (bstep hb26 hbs)
    refine ⟨_, rfl, ?_, hb31⟩
    unfold MatchIs
    rw [if_pos (by simpa using h29)]
    exact ⟨R, _, _, rfl, hSO, (hNB.older hb26.size).below (Below.refl _ _)⟩

set_option maxRecDepth 100000 in
theorem variant_any (p t : T) (w : World) (u v : Value) (hp : IsT w p u) (ht : IsT w t v) (hzp : p.size ≤ 4294967296) (hzt : t.size ≤ 4294967296) : Calls Try.prog 11 #[u, v] w (Ret fun v' w' => v' = .bool (varB p t) ∧ Below w.heap.size w w') := by
  obtain ⟨hfp, pa0, pc0, rfl, _, _, _⟩ := hp.form
  obtain ⟨hft, ta0, tc0, rfl, _, _, _⟩ := ht.form
  have hpI := hp.inT
  have htI := ht.inT
  refine Calls.walk (l := [.agg #[.int .i64 p.f, .slice pa0 p.args.length pc0], .agg #[.int .i64 t.f, .slice ta0 t.args.length tc0]]) Try.func11 rfl (by kernel_rfl) ?_
  refine WC.sub (K' := [(0, .agg #[.int .i64 p.f, .slice pa0 p.args.length pc0]), (1, .agg #[.int .i64 t.f, .slice ta0 t.args.length tc0])]) ⟨rfl, rfl, trivial⟩ ?_
  refine WC.seq ?_
  refine WC.region ?_
  refine WL.step (post := NewBlk w 24 #[.int .i64 p.f, .slice pa0 p.args.length pc0]) rfl rfl rfl (fun za zC zh zk => box_24 rfl (zh.ev rfl) (zk _ _ (newBlk _ _ _))) ?_
  rintro _ w1 ⟨g2, rfl, hg3, hB4, hb5, hz6⟩
  have hl7 : w.heap.size ≤ g2 := by omega
  refine WL.step (post := NewBlk w1 24 #[.int .i64 t.f, .slice ta0 t.args.length tc0]) rfl rfl rfl (fun za zC zh zk => box_24 rfl (zh.ev rfl) (zk _ _ (newBlk _ _ _))) ?_
  rintro _ w8 ⟨g9, rfl, hg10, hB11, hb12, hz13⟩
  have hl14 : g2 < g9 := by have z1 := hB4.lt; omega
  have hl15 : w.heap.size ≤ g9 := by have z2 := (hb5).size; omega
  refine WL.val (.bool false) rfl rfl rfl (fun za zC zh zk => wp_assign rfl (zh.ev rfl) zk) ?_
  refine WL.nil (WE.sub (K' := [(0, .agg #[.int .i64 p.f, .slice pa0 p.args.length pc0]), (1, .agg #[.int .i64 t.f, .slice ta0 t.args.length tc0]), (2, .pointer (some ⟨g2, 0, none⟩)), (3, .pointer (some ⟨g9, 0, none⟩)), (4, .bool false)]) ⟨rfl, rfl, rfl, rfl, rfl, trivial⟩ ?_)
  refine WE.next ?_
  refine WC.seq ?_
  have hB16 := hB4.below hb12
  have hl17 : g2 < w8.heap.size := hB16.lt
  have hl18 : w.heap.size ≤ g2 := by have z : w.heap.size ≤ w.heap.size := (Nat.le_refl _); omega
  have hl19 : g9 < w8.heap.size := hB11.lt
  have hl20 : w.heap.size ≤ g9 := by have z : w.heap.size ≤ w1.heap.size := hb5.size; omega
  have hb21 : Below w.heap.size w w8 := (bstep hb5 hb12)
  have hw01 := (hb21).size
  have hpI1 := InT.below hb21 hpI
  have htI1 := InT.below hb21 htI
  have hGV9 : ∀ (vals : List Value) (w w' : World), Below w.heap.size w w' → (fun vals wz => match vals with | [] => True | [z0] => ∃ g C, z0 = .pointer (some ⟨g, 0, none⟩) ∧ MatAt wz g [] C ∧ ∀ b, C b → w8.heap.size ≤ b | [_, _] => True | [_, _, z2] => ((mOk p t []) = true → ∃ g C, z2 = .pointer (some ⟨g, 0, none⟩) ∧ MatAt wz g [] C ∧ ∀ b, C b → w8.heap.size ≤ b) | [_, _, _, _] => True | _ => False) vals w → (fun vals wz => match vals with | [] => True | [z0] => ∃ g C, z0 = .pointer (some ⟨g, 0, none⟩) ∧ MatAt wz g [] C ∧ ∀ b, C b → w8.heap.size ≤ b | [_, _] => True | [_, _, z2] => ((mOk p t []) = true → ∃ g C, z2 = .pointer (some ⟨g, 0, none⟩) ∧ MatAt wz g [] C ∧ ∀ b, C b → w8.heap.size ≤ b) | [_, _, _, _] => True | _ => False) vals w' := by
    intro vals w w' hb h
    match vals, h with
    | [], _ => trivial
    | [z0], h =>
      obtain ⟨g, C, e, h1, h2⟩ := h
      exact ⟨g, C, e, h1.below hb, h2⟩
    | [_, _], _ => trivial
    | [_, _, z2], h =>
      exact fun e9 => by
        obtain ⟨g, C, e, h1, h2⟩ := h e9
        exact ⟨g, C, e, h1.below hb, h2⟩
    | [_, _, _, _], _ => trivial
  refine WC.seqV (S := ((fun b => w8.heap.size ≤ b))) [(true, .val undef), (true, .val (.agg #[.int .i64 p.f, .slice pa0 p.args.length pc0])), (true, .val (.agg #[.int .i64 t.f, .slice ta0 t.args.length tc0])), (true, .val undef), (true, .val (.bool ((mOk p t [])))), (true, .val undef), ((true && (mOk p t [])), .val (.agg #[.int .i64 t.f, .slice ta0 t.args.length tc0])), ((true && (mOk p t [])), .val (.agg #[.int .i64 p.f, .slice pa0 p.args.length pc0])), (true, .val undef), (true, .val (.bool (((mOk p t []) && (mOk t p []))))), (true, .val (.bool (((mOk p t []) && (mOk t p [])))))] [(0, .agg #[.int .i64 p.f, .slice pa0 p.args.length pc0]), (1, .agg #[.int .i64 t.f, .slice ta0 t.args.length tc0]), (2, .pointer (some ⟨g2, 0, none⟩)), (3, .pointer (some ⟨g9, 0, none⟩))] [0, 3, 5, 8] [none, some (true, .bool ((mOk p t []))), none, some ((true && (mOk p t [])), .bool ((mOk t p [])))] (fun vals wz => match vals with | [] => True | [z0] => ∃ g C, z0 = .pointer (some ⟨g, 0, none⟩) ∧ MatAt wz g [] C ∧ ∀ b, C b → w8.heap.size ≤ b | [_, _] => True | [_, _, z2] => ((mOk p t []) = true → ∃ g C, z2 = .pointer (some ⟨g, 0, none⟩) ∧ MatAt wz g [] C ∧ ∀ b, C b → w8.heap.size ≤ b) | [_, _, _, _] => True | _ => False) hGV9 (by decide) ⟨rfl, rfl, rfl, rfl, trivial⟩ (by kernel_rfl) (by kernel_rfl) (by kernel_rfl) (by kernel_rfl) trivial ?_ ?_
  · refine ⟨.inr ⟨0, rfl, by kernel_rfl, true, .none rfl, (fun gg b h => by cases h), (fun h => (nomatch h)), fun zβ za zw zvals zc => ?_⟩, ?_⟩
    · obtain rfl := vlen0 zc.len
      have zn := zc.now
      exact wp_call (by kernel_rfl) rfl (hv0) (new_any _) (fun v w' h => by obtain ⟨⟨gm, C, rfl, k2, k3⟩, k4⟩ := h; exact ⟨_, rfl, .ofBelow k4, ⟨gm, C, rfl, k2, fun b q => by have z := k3 b q; have z2 := zc.chg.size; omega⟩, cvNo⟩)
    refine ⟨.inl ⟨rfl, true, .none rfl, (fun gg b h => by cases h), fun h w => optUndef h, fun zβ za zw zc => ?_⟩, ?_⟩
    · exact ld_24 rfl (zc.kn.ev rfl) (chg_cell zc.chg (by (try dsimp only at *); omega) ((hB16.cell 0).trans rfl)) (chg_cell zc.chg (by (try dsimp only at *); omega) ((hB16.cell 1).trans rfl)) ⟨_, rfl, Below.refl _ _, optDef zβ rfl⟩
    refine ⟨.inl ⟨rfl, true, .none rfl, (fun gg b h => by cases h), fun h w => optUndef h, fun zβ za zw zc => ?_⟩, ?_⟩
    · exact ld_24 rfl (zc.kn.ev rfl) (chg_cell zc.chg (by (try dsimp only at *); omega) ((hB11.cell 0).trans rfl)) (chg_cell zc.chg (by (try dsimp only at *); omega) ((hB11.cell 1).trans rfl)) ⟨_, rfl, Below.refl _ _, optDef zβ rfl⟩
    refine ⟨.inr ⟨1, rfl, by kernel_rfl, true, .none rfl, (fun gg b h => by cases h), (fun h => (nomatch h)), fun zβ za zw zvals zc => ?_⟩, ?_⟩
    · obtain ⟨z0, rfl⟩ := vlen1 zc.len
      have zn := zc.now
      obtain ⟨gm, C, e0, k2, k3⟩ := zn
      have hv0 : za.tmps.getD 5 undef = .pointer (some ⟨gm, 0, none⟩) := (Option.some.inj (zc.val 0 0 5 rfl (by kernel_rfl))).symm.trans e0
      exact wp_call (by kernel_rfl) rfl (hv3 ((show za.eval (.tmp 5) = za.tmps.getD 5 undef from rfl).trans hv0) ((show za.eval (.tmp 6) = za.tmps.getD 6 undef from rfl).trans (optSVal (zc.dep 1 6 (by kernel_rfl) (by decide)) rfl rfl)) ((show za.eval (.tmp 7) = za.tmps.getD 7 undef from rfl).trans (optSVal (zc.dep 2 7 (by kernel_rfl) (by decide)) rfl rfl))) (term_any p t _ _ _ k2 (hpI1.chg zc.chg (fun b q e => by (try dsimp only at *); omega)) (htI1.chg zc.chg (fun b q e => by (try dsimp only at *); omega)).isT (fun b q q2 => by have z := k3 _ q2; omega) hzp hzt (by simp; omega)) (fun v w' h => by obtain ⟨⟨C2, rfl, _, _⟩, k5⟩ := h; exact ⟨_, rfl, k5.mono k3, trivial, cvIs rfl⟩)
    refine ⟨.inl ⟨rfl, true, .none rfl, (fun gg b h => by cases h), fun h w => optUndef h, fun zβ za zw zc => ?_⟩, ?_⟩
    · exact wp_move rfl ((show za.eval (.tmp 8) = za.tmps.getD 8 undef from rfl).trans (zc.link 1 3 8 _ _ rfl (by kernel_rfl) rfl rfl)) ⟨_, rfl, Below.refl _ _, optDef zβ rfl⟩
    refine ⟨.inr ⟨2, rfl, by kernel_rfl, (true && (mOk p t [])), .yes (c := (mOk p t [])) (d := true) rfl (fun v w h => h), (fun gg b h => by cases h; rfl), (fun h w vals hl h2 => by obtain ⟨z0, z1, rfl⟩ := vlen2 hl; exact ⟨fun e => (by rw [e] at h; cases h), cvNo⟩), fun zβ za zw zvals zc => ?_⟩, ?_⟩
    · obtain ⟨z0, z1, rfl⟩ := vlen2 zc.len
      have zn := zc.now
      exact wp_call (by kernel_rfl) rfl (hv0) (new_any _) (fun v w' h => by obtain ⟨⟨gm, C, rfl, k2, k3⟩, k4⟩ := h; exact ⟨_, rfl, .ofBelow k4, fun _ => ⟨gm, C, rfl, k2, fun b q => by have z := k3 b q; have z2 := zc.chg.size; omega⟩, cvNo⟩)
    refine ⟨.inl ⟨rfl, (true && (mOk p t [])), .yes (c := (mOk p t [])) (d := true) rfl (fun v w h => h), (fun gg b h => by cases h; rfl), fun h w => optUndef h, fun zβ za zw zc => ?_⟩, ?_⟩
    · exact ld_24 rfl (zc.kn.ev rfl) (chg_cell zc.chg (by (try dsimp only at *); omega) ((hB11.cell 0).trans rfl)) (chg_cell zc.chg (by (try dsimp only at *); omega) ((hB11.cell 1).trans rfl)) ⟨_, rfl, Below.refl _ _, optDef zβ rfl⟩
    refine ⟨.inl ⟨rfl, (true && (mOk p t [])), .yes (c := (mOk p t [])) (d := true) rfl (fun v w h => h), (fun gg b h => by cases h; rfl), fun h w => optUndef h, fun zβ za zw zc => ?_⟩, ?_⟩
    · exact ld_24 rfl (zc.kn.ev rfl) (chg_cell zc.chg (by (try dsimp only at *); omega) ((hB16.cell 0).trans rfl)) (chg_cell zc.chg (by (try dsimp only at *); omega) ((hB16.cell 1).trans rfl)) ⟨_, rfl, Below.refl _ _, optDef zβ rfl⟩
    refine ⟨.inr ⟨3, rfl, by kernel_rfl, (true && (mOk p t [])), .yes (c := (mOk p t [])) (d := true) rfl (fun v w h => h), (fun gg b h => by cases h; rfl), (fun h w vals hl h2 => by obtain ⟨z0, z1, z2, rfl⟩ := vlen3 hl; exact ⟨trivial, cvOff h⟩), fun zβ za zw zvals zc => ?_⟩, ?_⟩
    · obtain ⟨z0, z1, z2, rfl⟩ := vlen3 zc.len
      have zn := zc.now
      obtain ⟨gm, C, e0, k2, k3⟩ := zn (by simpa using zβ)
      have hv0 : za.tmps.getD 10 undef = .pointer (some ⟨gm, 0, none⟩) := (Option.some.inj (zc.val 2 5 10 rfl (by kernel_rfl))).symm.trans e0
      exact wp_call (by kernel_rfl) rfl (hv3 ((show za.eval (.tmp 10) = za.tmps.getD 10 undef from rfl).trans hv0) ((show za.eval (.tmp 11) = za.tmps.getD 11 undef from rfl).trans (optSVal (zc.dep 6 11 (by kernel_rfl) (by decide)) rfl zβ)) ((show za.eval (.tmp 12) = za.tmps.getD 12 undef from rfl).trans (optSVal (zc.dep 7 12 (by kernel_rfl) (by decide)) rfl zβ))) (term_any t p _ _ _ k2 (htI1.chg zc.chg (fun b q e => by (try dsimp only at *); omega)) (hpI1.chg zc.chg (fun b q e => by (try dsimp only at *); omega)).isT (fun b q q2 => by have z := k3 _ q2; omega) hzt hzp (by simp; omega)) (fun v w' h => by obtain ⟨⟨C2, rfl, _, _⟩, k5⟩ := h; exact ⟨_, rfl, k5.mono k3, trivial, cvIs rfl⟩)
    refine ⟨.inl ⟨rfl, true, .none rfl, (fun gg b h => by cases h), fun h w => optUndef h, fun zβ za zw zc => ?_⟩, ?_⟩
    · exact wp_and rfl ((show za.eval (.tmp 9) = za.tmps.getD 9 undef from rfl).trans (optSVal (zc.dep 4 9 (by kernel_rfl) (by decide)) rfl rfl)) (fun hp => ((show za.eval (.tmp 13) = za.tmps.getD 13 undef from rfl).trans (zc.link 3 8 13 _ _ rfl (by kernel_rfl) rfl (bMk zβ hp)))) ⟨_, rfl, Below.refl _ _, optDef zβ rfl⟩
    refine ⟨.inl ⟨rfl, true, .none rfl, (fun gg b h => by cases h), fun h w => optUndef h, fun zβ za zw zc => ?_⟩, ?_⟩
    · exact wp_assign rfl ((show za.eval (.tmp 14) = za.tmps.getD 14 undef from rfl).trans (optSVal (zc.dep 9 14 (by kernel_rfl) (by decide)) rfl rfl)) ⟨_, rfl, Below.refl _ _, optDef zβ rfl⟩
    exact trivial
  · intro za w22 zvals zh zl hG23 hc24 zu zw zk
    obtain ⟨z0, z1, z2, z3, rfl⟩ := vlen4 zl
    have zh := zh.cons (d := 4) (v := .bool (((mOk p t []) && (mOk t p [])))) (optSVal (zu 10 4 (by kernel_rfl) (by decide)) rfl rfl)
    have hb25 := chg_below hb21 hc24 (fun b hb => (fun h => by (try dsimp only at *); omega))
    have hB26 := chg_blk hB16 hc24 (fun h => by (try dsimp only at *); omega)
    have hB27 := chg_blk hB11 hc24 (fun h => by (try dsimp only at *); omega)
    clear zu zw zk
    refine (show WE _ [(0, .agg #[.int .i64 p.f, .slice pa0 p.args.length pc0]), (1, .agg #[.int .i64 t.f, .slice ta0 t.args.length tc0]), (2, .pointer (some ⟨g2, 0, none⟩)), (3, .pointer (some ⟨g9, 0, none⟩)), (4, .bool (((mOk p t []) && (mOk t p []))))] w22 _ .normal from ?_) za (zh.sub ⟨rfl, rfl, rfl, rfl, rfl, trivial⟩)
    refine WE.next ?_
    refine WC.ret ?_
    refine WE.ret1 rfl rfl ?_
    exact ⟨_, rfl, congrArg Value.bool (by unfold varB; (try simp)), hb25⟩

end Go.Proofs.Ytcmfjnadjddboaa
