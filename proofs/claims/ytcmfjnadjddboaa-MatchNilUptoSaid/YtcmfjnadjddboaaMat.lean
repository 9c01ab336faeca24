/- The matcher: how it lies in memory. -/
import Derived.Test.YtcmfjnadjddboaaMatSt
namespace Go.Proofs.Ytcmfjnadjddboaa
open Go.RowKit Go

theorem eltI_any (S S' : Nat → Prop) (w w' : World) (x : Int) (cs : List Value) (h : eltI.In S w x cs) : eltI.In S' w' x cs := h
theorem InRow.openI {S : Nat → Prop} {w : World} {l : List Int} {a : Option Addr} (h : InRow eltI S w l a) : ∃ b o : Nat, (∀ k, k < l.length → a = some ⟨b, o, none⟩) ∧ ∀ k, k < l.length → w.cell? ⟨b, o + k, none⟩ = some (.int .i64 (l.getD k 0)) := by
  rcases Nat.eq_zero_or_pos l.length with h0 | h0
  · exact ⟨0, 0, fun k hk => by omega, fun k hk => by omega⟩
  · obtain ⟨b, o, _, ha, _⟩ := h 0 h0
    refine ⟨b, o, fun _ _ => ha, fun k hk => ?_⟩
    obtain ⟨b', o', cs, ha', _, h1, h2⟩ := h k hk
    rw [ha] at ha'
    simp only [Option.some.injEq, Addr.mk.injEq, and_true] at ha'
    obtain ⟨rfl, rfl⟩ := ha'
    have h1' : cs = [.int .i64 l[k]] := h1
    subst h1'
    have := h2 0 (by decide)
    simpa [eltI, hk] using this
theorem InRow.dropI {S : Nat → Prop} {w : World} {l : List Int} {a : Option Addr} {k c : Nat} (h : InRow eltI S w l a) (hk : k ≤ l.length) (hc : l.length ≤ c) : InRow eltI S w (l.drop k) (slA a k 1 c) := fun i hi => by
  rw [List.length_drop] at hi
  obtain ⟨b, o, cs, ha, hs, h1, h2⟩ := h (k + i) (by omega)
  subst ha
  refine ⟨b, o + k, cs, by rw [slA_some (by omega), Nat.mul_one], hs, by rw [List.getElem_drop]; exact h1, fun j hj => ?_⟩
  rw [← h2 j hj, Nat.add_mul]
  have e : eltI.k = 1 := rfl
  simp only [e, Nat.mul_one, Nat.add_assoc]

/-- The matcher at the block 'g': what is bound, in the order in which it was; 'C': the blocks of its own. -/
structure MatIn (w : World) (g : Nat) (st : List Bd) (C : Nat → Prop) (mb : Nat) (es : Array MapEntry) (cl : Nat) (a : Option Addr) (c : Nat) (ps : List Value) : Prop where
  blk : Blk w g 64 #[.map (some mb), .slice a st.length c]
  map : ObjAt w mb (.map es cl)
  ent : ImE es cl ((st.map (·.var)).zip ps)
  nd : (st.map (·.var)).Nodup
  row : RowE eltI w 0 3 a c st.length (st.map (·.var))
  len : ps.length = st.length
  ptr : ∀ i, i < st.length → InTp (fun b => C b ∧ b ≠ g ∧ b ≠ mb ∧ (Value.slice a st.length c).ownBlock ≠ some b) w (dget st i).t (ps.getD i undef)
  i64 : ∀ x ∈ st, I64 x.var
  sz : ∀ x ∈ st, x.t.size ≤ 4294967296
  cg : C g
  cmb : C mb
  crow : ∀ b, (Value.slice a st.length c).ownBlock = some b → C b
  clt : ∀ b, C b → b < w.heap.size
def MatAt (w : World) (g : Nat) (st : List Bd) (C : Nat → Prop) : Prop := ∃ mb es cl a c ps, MatIn w g st C mb es cl a c ps

section
variable {w w' : World} {g : Nat} {st : List Bd} {C S : Nat → Prop} {mb : Nat} {es : Array MapEntry} {cl : Nat} {a : Option Addr} {c : Nat} {ps : List Value}
theorem MatIn.gmb (h : MatIn w g st C mb es cl a c ps) : g ≠ mb := h.map.neBlk h.blk
theorem MatIn.rowg (h : MatIn w g st C mb es cl a c ps) : (Value.slice a st.length c).ownBlock ≠ some g := h.row.neBlk h.blk (by decide)
theorem MatIn.rowmb (h : MatIn w g st C mb es cl a c ps) : (Value.slice a st.length c).ownBlock ≠ some mb := h.row.neMap h.map
theorem MatIn.cap (h : MatIn w g st C mb es cl a c ps) : st.length ≤ c ∧ c ≤ maxLen := ⟨h.row.inRow.2.2.1, h.row.inRow.2.2.2⟩
theorem MatIn.chg (h : MatIn w g st C mb es cl a c ps) (hc : Chg S w w') (hS : ∀ b, C b → ¬ S b) : MatIn w' g st C mb es cl a c ps where
  blk := chg_blk h.blk hc (hS _ h.cg)
  map := h.map.chg hc (hS _ h.cmb)
  ent := h.ent
  nd := h.nd
  row := h.row.chgOwn (fun S w w' x cs q => eltI_any S S w w' x cs q) hc (fun b q => hS b (h.crow b q))
  len := h.len
  ptr := fun i hi => (h.ptr i hi).chg hc (fun b q => hS b q.1)
  i64 := h.i64
  sz := h.sz
  cg := h.cg
  cmb := h.cmb
  crow := h.crow
  clt := fun b q => Nat.lt_of_lt_of_le (h.clt b q) hc.size
theorem MatAt.chg (h : MatAt w g st C) (hc : Chg S w w') (hS : ∀ b, C b → ¬ S b) : MatAt w' g st C := by
  obtain ⟨mb, es, cl, a, c, ps, h⟩ := h
  exact ⟨mb, es, cl, a, c, ps, h.chg hc hS⟩
theorem MatAt.below (h : MatAt w g st C) (hb : Below w.heap.size w w') : MatAt w' g st C := h.chg (S := fun _ => False) (.ofBelow hb) (fun _ _ => id)
theorem MatAt.clt (h : MatAt w g st C) : ∀ b, C b → b < w.heap.size := by
  obtain ⟨mb, es, cl, a, c, ps, h⟩ := h
  exact h.clt
theorem MatAt.lt (h : MatAt w g st C) : g < w.heap.size := by
  obtain ⟨mb, es, cl, a, c, ps, h⟩ := h
  exact h.blk.lt
theorem MatAt.nd (h : MatAt w g st C) : (st.map (·.var)).Nodup := by
  obtain ⟨mb, es, cl, a, c, ps, h⟩ := h
  exact h.nd
end
theorem imDel_mid {Z : List (Int × Value)} {m k : Nat} {v : Int} (hn : (Z.map (·.1)).Nodup) (h : m + k < Z.length) (hv : v = Z[m + k].1) : imDel (Z.take m ++ Z.drop (m + k)) v = Z.take m ++ Z.drop (m + (k + 1)) := by
  have hd : Z.drop (m + k) = Z[m + k] :: Z.drop (m + k + 1) := List.drop_eq_getElem_cons h
  have hne : ∀ x ∈ Z.take m, x.1 ≠ v := by
    intro x hx e
    obtain ⟨i, hi, rfl⟩ := List.getElem_of_mem hx
    rw [List.length_take] at hi
    rw [List.getElem_take] at e
    have := List.pairwise_iff_getElem.1 hn i (m + k) (by simp; omega) (by simp; omega) (by omega)
    rw [List.getElem_map, List.getElem_map] at this
    exact this (e.trans hv)
  have hf : ∀ (l r : List (Int × Value)) (i : Nat), (∀ x ∈ l, x.1 ≠ v) → imFind (l ++ (v, Z[m + k].2) :: r) v i = some (i + l.length, Z[m + k].2) := by
    intro l r
    induction l with
    | nil => intro i _; simp [imFind]
    | cons x l ih =>
      intro i hx
      rw [List.cons_append, imFind, if_neg (fun e => hx x (by simp) e.symm), ih (i + 1) (fun y hy => hx y (by simp [hy]))]
      simp; omega
  have e : Z[m + k] = (v, Z[m + k].2) := by rw [hv]
  unfold imDel
  rw [hd, e, hf _ _ 0 hne]
  simp only [List.length_take, Nat.zero_add]
  rw [List.eraseIdx_append_of_length_le (by rw [List.length_take]; exact Nat.le_refl _)]
  rw [List.length_take, Nat.sub_self, List.eraseIdx_cons_zero, Nat.add_assoc]
theorem zip_take {α β : Type} : ∀ (l : List α) (r : List β) (k : Nat), (l.zip r).take k = (l.take k).zip (r.take k)
  | [], _, k => by simp
  | _ :: _, [], k => by simp
  | x :: l, y :: r, 0 => by simp
  | x :: l, y :: r, k + 1 => by simp [zip_take l r k]
theorem getD_take {ps : List Value} {m i : Nat} (h : i < m) : (ps.take m).getD i undef = ps.getD i undef := by
  simp [List.getD_eq_getElem?_getD, List.getElem?_take, h]
theorem dget_take {st : List Bd} {m i : Nat} (h : i < m) : dget (st.take m) i = dget st i := by
  unfold dget
  simp [List.getD_eq_getElem?_getD, List.getElem?_take, h]
/-- Back to the first 'm'. -/
theorem MatIn.back {w w' : World} {g : Nat} {st : List Bd} {C : Nat → Prop} {mb : Nat} {es es' : Array MapEntry} {cl cl' : Nat} {a : Option Addr} {c : Nat} {ps : List Value} {m : Nat} (h : MatIn w g st C mb es cl a c ps) (hm : m ≤ st.length)
    (hB : Blk w' g 64 #[.map (some mb), .slice a m c]) (hM : ObjAt w' mb (.map es' cl')) (hE : ImE es' cl' (((st.map (·.var)).zip ps).take m)) (hc : Chg (fun b => b = g ∨ b = mb) w w') : MatIn w' g (st.take m) C mb es' cl' a c (ps.take m) where
  blk := by rw [List.length_take, Nat.min_eq_left hm]; exact hB
  map := hM
  ent := by rw [List.map_take, ← zip_take]; exact hE
  nd := by rw [List.map_take]; exact (List.take_sublist _ _).nodup h.nd
  row := by
    have h1 := h.row.chgOwn (fun S w w' x cs q => eltI_any S S w w' x cs q) hc (fun b q => by
      rintro (rfl | rfl)
      · exact h.rowg q
      · exact h.rowmb q)
    have h2 := h1.take m hm (fun S w x cs q S' => q)
    rw [List.length_take, Nat.min_eq_left hm, List.map_take]; exact h2
  len := by rw [List.length_take, List.length_take, h.len]
  ptr := fun i hi => by
    rw [List.length_take] at hi
    rw [dget_take (by omega), getD_take (by omega)]
    refine ((h.ptr i (by omega)).chg hc (fun b q => ?_)).mono (fun b q _ => ⟨q.1, q.2.1, q.2.2.1, ?_⟩)
    · rintro (e | e)
      · exact q.2.1 e
      · exact q.2.2.1 e
    · intro e
      apply q.2.2.2
      cases a with
      | none => cases e
      | some p => exact e
  i64 := fun x hx => h.i64 x (List.mem_of_mem_take hx)
  sz := fun x hx => h.sz x (List.mem_of_mem_take hx)
  cg := h.cg
  cmb := h.cmb
  crow := fun b q => h.crow b (by cases a with
    | none => cases q
    | some p => exact q)
  clt := fun b q => Nat.lt_of_lt_of_le (h.clt b q) hc.size

end Go.Proofs.Ytcmfjnadjddboaa
