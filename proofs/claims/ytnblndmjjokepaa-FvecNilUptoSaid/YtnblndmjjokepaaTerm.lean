/- Terms as finite trees, how they lie in memory, and that what reads as a term is one. -/
import Derived.Test.YtnblndmjjokepaaBase

namespace Go.Proofs.Ytnblndmjjokepaa
open Go.RowKit

inductive T where
  | mk (f : Int) (args : List T)

namespace T
def f : T → Int | .mk f _ => f
def args : T → List T | .mk _ a => a

mutual
def size : T → Nat
  | .mk _ l => 1 + sizeL l
def sizeL : List T → Nat
  | [] => 0
  | a :: r => size a + sizeL r
end

theorem ind {P : T → Prop} (h : ∀ f l, (∀ a ∈ l, P a) → P (.mk f l)) : ∀ t, P t := by
  intro t
  refine T.rec (motive_1 := P) (motive_2 := fun l => ∀ a ∈ l, P a) (fun f l ih => h f l ih) (by simp) (fun a r iha ihr => ?_) t
  intro b hb
  rcases List.mem_cons.1 hb with rfl | hb
  · exact iha
  · exact ihr b hb

theorem sizeL_take_succ (l : List T) (k : Nat) (h : k < l.length) : sizeL (l.take (k + 1)) = sizeL (l.take k) + size l[k] := by
  induction l generalizing k with
  | nil => simp at h
  | cons t r ih =>
    cases k with
    | zero => simp [sizeL]
    | succ k => simp [sizeL, ih k (by simpa using h)]; omega

theorem sizeL_take_le (l : List T) : ∀ k, sizeL (l.take k) ≤ sizeL l := by
  induction l with
  | nil => simp [sizeL]
  | cons t r ih =>
    intro k
    cases k with
    | zero => simp [sizeL]
    | succ k => simp only [List.take_succ_cons, sizeL]; have := ih k; omega
theorem size_le_sizeL {a : T} {l : List T} (h : a ∈ l) : size a ≤ sizeL l := by
  induction l with
  | nil => simp at h
  | cons t r ih =>
    simp only [sizeL]
    rcases List.mem_cons.1 h with rfl | h
    · omega
    · have := ih h; omega
@[simp] theorem f_mk (f : Int) (l : List T) : (T.mk f l).f = f := rfl
@[simp] theorem args_mk (f : Int) (l : List T) : (T.mk f l).args = l := rfl
theorem eta (t : T) : T.mk t.f t.args = t := by cases t; rfl
theorem size_eq (t : T) : t.size = 1 + sizeL t.args := by cases t; rfl
end T

mutual
/-- The value 'v' is the term 't' in the world 'w'. -/
def IsT (w : World) : T → Value → Prop
  | .mk f l, v => I64 f ∧ ∃ (a : Option Addr) (c : Nat), v = .agg #[.int .i64 f, .slice a l.length c] ∧ l.length ≤ c ∧ c ≤ maxLen ∧ IsTs w l a 0
/-- The row at the address 'a' holds from its i-th place on the terms 'l'. -/
def IsTs (w : World) : List T → Option Addr → Nat → Prop
  | [], _, _ => True
  | t :: r, a, i => (∃ (b o : Nat) (u v : Value), a = some ⟨b, o, none⟩ ∧ w.cell? ⟨b, o + i * 2, none⟩ = some u ∧ w.cell? ⟨b, o + i * 2 + 1, none⟩ = some v ∧ IsT w t (.agg #[u, v])) ∧ IsTs w r a (i + 1)
end

mutual
/-- Whatever keeps the old cells keeps a term. -/
theorem IsT.keep {w w' : World} (hb : ∀ (p : Addr) (x : Value), w.cell? p = some x → w'.cell? p = some x) : ∀ {t : T} {v : Value}, IsT w t v → IsT w' t v
  | .mk _ _, _, ⟨h0, a, c, h1, h2, h3, h4⟩ => ⟨h0, a, c, h1, h2, h3, IsTs.keep hb h4⟩
theorem IsTs.keep {w w' : World} (hb : ∀ (p : Addr) (x : Value), w.cell? p = some x → w'.cell? p = some x) : ∀ {l : List T} {a : Option Addr} {i : Nat}, IsTs w l a i → IsTs w' l a i
  | [], _, _, _ => trivial
  | _ :: _, _, _, ⟨⟨b, o, u, v, ha, h1, h2, h3⟩, h4⟩ => ⟨⟨b, o, u, v, ha, hb _ _ h1, hb _ _ h2, IsT.keep hb h3⟩, IsTs.keep hb h4⟩
end

theorem IsT.below {w w' : World} (hb : Below w.heap.size w w') {t : T} {v : Value} (h : IsT w t v) : IsT w' t v := h.keep (bkeeps hb)
theorem IsTs.below {w w' : World} (hb : Below w.heap.size w w') {l : List T} {a : Option Addr} {i : Nat} (h : IsTs w l a i) : IsTs w' l a i := h.keep (bkeeps hb)

theorem IsT.form {w : World} {t : T} {v : Value} (h : IsT w t v) : I64 t.f ∧ ∃ (a : Option Addr) (c : Nat), v = .agg #[.int .i64 t.f, .slice a t.args.length c] ∧ t.args.length ≤ c ∧ c ≤ maxLen ∧ IsTs w t.args a 0 := by
  cases t; exact h

theorem IsTs.at0 {w : World} {l : List T} : ∀ {a : Option Addr} {i : Nat}, IsTs w l a i → ∀ k (hk : k < l.length),
    ∃ (b o : Nat) (u v : Value), a = some ⟨b, o, none⟩ ∧ w.cell? ⟨b, o + (i + k) * 2, none⟩ = some u ∧ w.cell? ⟨b, o + (i + k) * 2 + 1, none⟩ = some v ∧ IsT w l[k] (.agg #[u, v]) := by
  induction l with
  | nil => intro a i _ k hk; simp at hk
  | cons t r ih =>
    intro a i h k hk
    obtain ⟨h0, h1⟩ := h
    cases k with
    | zero => exact h0
    | succ k =>
      have := ih h1 k (by simpa using hk)
      simpa [Nat.add_assoc, Nat.add_comm 1 k] using this

theorem IsTs.of_at {w : World} {l : List T} : ∀ {a : Option Addr} {i : Nat}, (∀ k (hk : k < l.length),
    ∃ (b o : Nat) (u v : Value), a = some ⟨b, o, none⟩ ∧ w.cell? ⟨b, o + (i + k) * 2, none⟩ = some u ∧ w.cell? ⟨b, o + (i + k) * 2 + 1, none⟩ = some v ∧ IsT w l[k] (.agg #[u, v])) → IsTs w l a i := by
  induction l with
  | nil => intro a i _; trivial
  | cons t r ih =>
    intro a i h
    refine ⟨h 0 (by simp), ih (fun k hk => ?_)⟩
    have := h (k + 1) (by simpa using hk)
    simpa [Nat.add_assoc, Nat.add_comm 1 k] using this

/-- A term that is an aggregate of two known cells, in its own form. -/
theorem IsT.cells {w : World} {t : T} {u v : Value} (h : IsT w t (.agg #[u, v])) : ∃ (a : Option Addr) (c : Nat), u = .int .i64 t.f ∧ v = .slice a t.args.length c := by
  obtain ⟨_, a, c, hv, _⟩ := h.form
  simp only [Value.agg.injEq, Array.mk.injEq, List.cons.injEq, and_true] at hv
  exact ⟨a, c, hv.1, hv.2⟩

theorem IsTs.at_ {w w' : World} {l : List T} {a : Option Addr} (h : IsTs w l a 0) (hb : Below w.heap.size w w') (k : Nat) (hk : k < l.length) :
    ∃ (b o : Nat) (a' : Option Addr) (c' : Nat), a = some ⟨b, o, none⟩ ∧ w'.cell? ⟨b, o + k * 2, none⟩ = some (.int .i64 l[k].f) ∧ w'.cell? ⟨b, o + k * 2 + 1, none⟩ = some (.slice a' l[k].args.length c') ∧
      IsT w' l[k] (.agg #[.int .i64 l[k].f, .slice a' l[k].args.length c']) := by
  obtain ⟨b, o, u, v, ha, h1, h2, h3⟩ := h.at0 k hk
  obtain ⟨a', c', rfl, rfl⟩ := h3.cells
  rw [Nat.zero_add] at h1 h2
  exact ⟨b, o, a', c', ha, bkeeps hb _ _ h1, bkeeps hb _ _ h2, h3.below hb⟩

/-- .. and the term as it lay at first. -/
theorem IsTs.at2 {w w' : World} {l : List T} {a : Option Addr} (h : IsTs w l a 0) (hb : Below w.heap.size w w') (k : Nat) (hk : k < l.length) :
    ∃ (b o : Nat) (a' : Option Addr) (c' : Nat), a = some ⟨b, o, none⟩ ∧ w'.cell? ⟨b, o + k * 2, none⟩ = some (.int .i64 l[k].f) ∧ w'.cell? ⟨b, o + k * 2 + 1, none⟩ = some (.slice a' l[k].args.length c') ∧
      IsT w l[k] (.agg #[.int .i64 l[k].f, .slice a' l[k].args.length c']) := by
  obtain ⟨b, o, u, v, ha, h1, h2, h3⟩ := h.at0 k hk
  obtain ⟨a', c', rfl, rfl⟩ := h3.cells
  rw [Nat.zero_add] at h1 h2
  exact ⟨b, o, a', c', ha, bkeeps hb _ _ h1, bkeeps hb _ _ h2, h3⟩

/-! ### From what is read -/

section
variable {H : Type} {enc : TypeId × Value → H} {w : World} {base : Nat} {spare : Nat → Bool} {held : Bool}

theorem sizeL_le_bulk {l : List T} : ∀ {ds : List (DataW H)}, l.length = ds.length → (∀ k (hk : k < l.length) (hd : k < ds.length), l[k].size ≤ Rows.uptoBulk ds[k]) → T.sizeL l ≤ Rows.uptoBulkAll ds := by
  induction l with
  | nil => intro ds _ _; simp [T.sizeL]
  | cons t r ih =>
    intro ds hlen h
    cases ds with
    | nil => simp at hlen
    | cons d ds =>
      have h0 := h 0 (by simp) (by simp)
      have h1 := ih (ds := ds) (by simpa using hlen) (fun k hk hd => by have := h (k + 1) (by simpa using hk) (by simpa using hd); simpa using this)
      simp only [T.sizeL, Rows.uptoBulkAll]
      simp at h0
      omega

set_option maxRecDepth 10000 in
theorem open_T : ∀ (fuel : Nat) (cs : List Value) (x : DataW H × List MemPlace), DataW.trod enc Try.prog w base spare held fuel 32 cs = some x →
    ∃ t : T, ∃ u v : Value, cs = [u, v] ∧ IsT w t (.agg #[u, v]) ∧ t.size ≤ Rows.uptoBulk x.1 := by
  intro fuel
  induction fuel using Nat.strongRecOn with
  | _ fuel ih =>
    intro cs x h
    have hC : Try.prog.cellsOf 32 = 2 := by kernel_rfl
    have hC3 : Try.prog.cellsOf 3 = 1 := by kernel_rfl
    have hC30 : Try.prog.cellsOf 30 = 1 := by kernel_rfl
    obtain ⟨xs, n, rfl, rfl, hl, hlen, hf⟩ := DataW.trod_struct Try.underlying32 h
    rw [hC] at hl
    match xs, hlen, cs, hl with
    | [y0, y1], _, [c0, c1], _ =>
      have g0 : DataW.trod enc Try.prog w base spare held n 3 [c0] = some y0 := by simpa [hC3] using hf 0 _ rfl
      have g1 : DataW.trod enc Try.prog w base spare held n 30 [c1] = some y1 := by simpa [hC30] using hf 1 _ rfl
      obtain ⟨f, e0, rfl, wf⟩ := DataW.trod_int Try.underlying3 g0
      simp only [List.cons.injEq, and_true] at e0
      subst e0
      rcases DataW.trod_slice Try.underlying30 g1 with ⟨e1, rfl⟩ | ⟨a, len, cap, elems, rest, m, rfl, e1, rfl, hb, hlc, hcm, hel, hat, _, _⟩
      · simp only [List.cons.injEq, and_true] at e1
        subst e1
        exact ⟨.mk f [], _, _, rfl, ⟨i64_wf wf, none, 0, rfl, Nat.le_refl _, Nat.zero_le _, trivial⟩, by simp [T.size, T.sizeL, Rows.uptoBulk, Rows.uptoBulkAll]⟩
      · simp only [List.cons.injEq, and_true] at e1
        subst e1
        have hspot : 0 < len → ∃ b o, a = ⟨b, o, none⟩ := by
          intro h0
          have hk := hat 0 h0
          rw [hC, List.getElem?_eq_getElem (by omega)] at hk
          obtain ⟨cs', h1, _⟩ := Option.bind_eq_some_iff.1 hk
          obtain ⟨_, hl', hcell⟩ := World.cells?_some h1
          have c0 := hcell 0 (by omega)
          rw [List.getElem?_eq_getElem (by omega)] at c0
          have := World.cell?_spot c0
          obtain ⟨b, o, spot⟩ := a
          exact ⟨b, o, by simpa [Addr.add] using this⟩
        have key : ∀ i, i < len → ∃ t : T, (∃ (b o : Nat) (u v : Value), some a = some ⟨b, o, none⟩ ∧ w.cell? ⟨b, o + i * 2, none⟩ = some u ∧ w.cell? ⟨b, o + i * 2 + 1, none⟩ = some v ∧ IsT w t (.agg #[u, v])) ∧
            ∀ (hd : i < elems.length), t.size ≤ Rows.uptoBulk elems[i].1 := by
          intro i hi
          have hk := hat i hi
          rw [hC, List.getElem?_eq_getElem (by omega)] at hk
          obtain ⟨cs', h1, h2⟩ := Option.bind_eq_some_iff.1 hk
          obtain ⟨t, u, v, rfl, ht, hsz⟩ := ih m (by omega) _ _ h2
          obtain ⟨_, _, hcell⟩ := World.cells?_some h1
          have c0 := hcell 0 (by omega)
          have c1 := hcell 1 (by omega)
          simp only [List.getElem?_cons_zero, List.getElem?_cons_succ] at c0 c1
          obtain ⟨b, o, rfl⟩ := hspot (by omega)
          rw [add_plain2, add_plain2] at c0 c1
          exact ⟨t, ⟨b, o, u, v, rfl, c0, c1, ht⟩, fun _ => hsz⟩
        have : Inhabited T := ⟨.mk 0 []⟩
        obtain ⟨F, hF⟩ := Go.Deep.choose_lt key
        have hLL : ((List.range len).map F).length = len := by simp
        refine ⟨.mk f ((List.range len).map F), _, _, rfl, ⟨i64_wf wf, some a, cap, by simp, by simpa using hlc, hcm, IsTs.of_at (fun k hk => ?_)⟩, ?_⟩
        · have := (hF k (by simpa using hk)).1
          simpa using this
        · have h1 : T.sizeL ((List.range len).map F) ≤ Rows.uptoBulkAll (elems.map (·.1)) := sizeL_le_bulk (by simp [hel]) (fun k hk hd => by
            have := (hF k (by simpa using hk)).2 (by simpa using hd)
            simpa using this)
          simp only [T.size, List.map_cons, List.map_nil, Rows.uptoBulk, Rows.uptoBulkAll]
          omega

end

end Go.Proofs.Ytnblndmjjokepaa
