/- Terms as finite trees, how they lie in memory, and that what reads as a term is one. -/
import Derived.Test.YtjkpecjlpgcalaaRows
import Derived.WalkKit
import Derived.WalkSpells
import Derived.WalkLawsBesides
import Derived.Lib.Hide
import Derived.Deep.Slices
import Derived.Lib.QuietBelow

namespace Go.Proofs.Ytjkpecjlpgcalaa
open Go.RowKit

theorem rbool {a b : Bool} (h : b = a) : Ending.returned (.bool a) = .returned (.bool b) := by rw [h]
theorem vint {k : IntKind} {a b : Int} (h : a = b) : Value.int k a = .int k b := by rw [h]
theorem rint {k : IntKind} {a b : Int} (h : b = a) : Ending.returned (.int k a) = .returned (.int k b) := by rw [h]

inductive T where
  | mk (f : Int) (args : List T)

namespace T
def f : T → Int | .mk f _ => f
def args : T → List T | .mk _ a => a

mutual
def size : T → Nat
  | .mk _ l => 1 + sizeL l
def sizeL : List T → Nat
  | [] => 0
  | a :: r => size a + sizeL r
end

theorem ind {P : T → Prop} (h : ∀ f l, (∀ a ∈ l, P a) → P (.mk f l)) : ∀ t, P t := by
  intro t
  refine T.rec (motive_1 := P) (motive_2 := fun l => ∀ a ∈ l, P a) (fun f l ih => h f l ih) (by simp) (fun a r iha ihr => ?_) t
  intro b hb
  rcases List.mem_cons.1 hb with rfl | hb
  · exact iha
  · exact ihr b hb

theorem sizeL_take_succ (l : List T) (k : Nat) (h : k < l.length) : sizeL (l.take (k + 1)) = sizeL (l.take k) + size l[k] := by
  induction l generalizing k with
  | nil => simp at h
  | cons t r ih =>
    cases k with
    | zero => simp [sizeL]
    | succ k => simp [sizeL, ih k (by simpa using h)]; omega

theorem sizeL_take_le (l : List T) : ∀ k, sizeL (l.take k) ≤ sizeL l := by
  induction l with
  | nil => simp [sizeL]
  | cons t r ih =>
    intro k
    cases k with
    | zero => simp [sizeL]
    | succ k => simp only [List.take_succ_cons, sizeL]; have := ih k; omega
theorem size_le_sizeL {a : T} {l : List T} (h : a ∈ l) : size a ≤ sizeL l := by
  induction l with
  | nil => simp at h
  | cons t r ih =>
    simp only [sizeL]
    rcases List.mem_cons.1 h with rfl | h
    · omega
    · have := ih h; omega
@[simp] theorem f_mk (f : Int) (l : List T) : (T.mk f l).f = f := rfl
@[simp] theorem args_mk (f : Int) (l : List T) : (T.mk f l).args = l := rfl
theorem eta (t : T) : T.mk t.f t.args = t := by cases t; rfl
theorem size_eq (t : T) : t.size = 1 + sizeL t.args := by cases t; rfl
end T

theorem wrap64_add (a b : Int) : wrap64 (wrap64 a + wrap64 b) = wrap64 (a + b) := by unfold wrap64; omega
theorem wrap64_add_left (a b : Int) : wrap64 (wrap64 a + b) = wrap64 (a + b) := by unfold wrap64; omega
theorem wrap64_add_right (a b : Int) : wrap64 (a + wrap64 b) = wrap64 (a + b) := by unfold wrap64; omega
theorem wrap64_id {a : Int} (h : -9223372036854775808 ≤ a ∧ a ≤ 9223372036854775807) : wrap64 a = a := by unfold wrap64; omega

/-- An integer that an int can be. -/
def I64 (f : Int) : Prop := -9223372036854775808 ≤ f ∧ f ≤ 9223372036854775807
theorem i64_wf {f : Int} (h : (Lit.int .i64 f).wf = true) : I64 f := by
  simp [Lit.wf, IntKind.min, IntKind.max, IntKind.signed, IntKind.bits] at h
  exact ⟨by omega, by omega⟩

mutual
/-- The value 'v' is the term 't' in the world 'w'. -/
def IsT (w : World) : T → Value → Prop
  | .mk f l, v => I64 f ∧ ∃ (a : Option Addr) (c : Nat), v = .agg #[.int .i64 f, .slice a l.length c] ∧ l.length ≤ c ∧ c ≤ maxLen ∧ IsTs w l a 0
/-- The row at the address 'a' holds from its i-th place on the terms 'l'. -/
def IsTs (w : World) : List T → Option Addr → Nat → Prop
  | [], _, _ => True
  | t :: r, a, i => (∃ (b o : Nat) (u v : Value), a = some ⟨b, o, none⟩ ∧ w.cell? ⟨b, o + i * 2, none⟩ = some u ∧ w.cell? ⟨b, o + i * 2 + 1, none⟩ = some v ∧ IsT w t (.agg #[u, v])) ∧ IsTs w r a (i + 1)
end

mutual
/-- Whatever keeps the old cells keeps a term. -/
theorem IsT.keep {w w' : World} (hb : ∀ (p : Addr) (x : Value), w.cell? p = some x → w'.cell? p = some x) : ∀ {t : T} {v : Value}, IsT w t v → IsT w' t v
  | .mk _ _, _, ⟨h0, a, c, h1, h2, h3, h4⟩ => ⟨h0, a, c, h1, h2, h3, IsTs.keep hb h4⟩
theorem IsTs.keep {w w' : World} (hb : ∀ (p : Addr) (x : Value), w.cell? p = some x → w'.cell? p = some x) : ∀ {l : List T} {a : Option Addr} {i : Nat}, IsTs w l a i → IsTs w' l a i
  | [], _, _, _ => trivial
  | _ :: _, _, _, ⟨⟨b, o, u, v, ha, h1, h2, h3⟩, h4⟩ => ⟨⟨b, o, u, v, ha, hb _ _ h1, hb _ _ h2, IsT.keep hb h3⟩, IsTs.keep hb h4⟩
end

theorem bkeeps {w w' : World} (hb : Below w.heap.size w w') (p : Addr) (x : Value) (h : w.cell? p = some x) : w'.cell? p = some x :=
  (hb.cell (World.block_lt_of_cell? _ _ h)).trans h
theorem calloc {w : World} {p : Addr} {x : Value} (h : w.cell? p = some x) (o : Obj) : (w.alloc o).cell? p = some x := bkeeps ((Below.refl _ _).alloc (Nat.le_refl _) _) _ _ h
/-- A block's first cells. -/
def Box (w : World) (b : Nat) (vs : List Value) : Prop := ∀ i v, vs[i]? = some v → w.cell? ⟨b, i, none⟩ = some v
theorem Box.below {w w' : World} {b : Nat} {vs : List Value} (h : Box w b vs) (hb : Below w.heap.size w w') : Box w' b vs := fun i v hi => bkeeps hb _ _ (h i v hi)
theorem Box.alloc {w : World} {b : Nat} {vs : List Value} (h : Box w b vs) (o : Obj) : Box (w.alloc o) b vs := fun i v hi => calloc (h i v hi) o
theorem Box.new (w : World) (vs : List Value) (t : TypeId) : Box (w.alloc (.cells vs.toArray t)) w.heap.size vs := by
  intro i v hi
  have h := heap_alloc_new w (.cells vs.toArray t)
  simp only [World.cell?, h]
  simpa using hi
theorem Box.new' {w : World} {b : Nat} {vs : List Value} {t : TypeId} (h : w.heap.size = b) : Box (w.alloc (.cells vs.toArray t)) b vs := by subst h; exact Box.new _ _ _
theorem heap_new' {w : World} {b : Nat} {o : Obj} (h : w.heap.size = b) : (w.alloc o).heap[b]? = some o := by subst h; exact heap_alloc_new w o
theorem Box.one {w : World} {b : Nat} {x0 : Value} (h : Box w b [x0]) : w.cell? ⟨b, 0, none⟩ = some x0 := h 0 _ rfl
theorem Box.two {w : World} {b : Nat} {x0 x1 : Value} (h : Box w b [x0, x1]) : w.cell? ⟨b, 0, none⟩ = some x0 ∧ w.cell? ⟨b, 1, none⟩ = some x1 := ⟨h 0 _ rfl, h 1 _ rfl⟩
theorem Box.four {w : World} {b : Nat} {x0 x1 x2 x3 : Value} (h : Box w b [x0, x1, x2, x3]) : w.cell? ⟨b, 0, none⟩ = some x0 ∧ w.cell? ⟨b, 1, none⟩ = some x1 ∧ w.cell? ⟨b, 2, none⟩ = some x2 ∧ w.cell? ⟨b, 3, none⟩ = some x3 := ⟨h 0 _ rfl, h 1 _ rfl, h 2 _ rfl, h 3 _ rfl⟩
theorem Box.five {w : World} {b : Nat} {x0 x1 x2 x3 x4 : Value} (h : Box w b [x0, x1, x2, x3, x4]) : w.cell? ⟨b, 0, none⟩ = some x0 ∧ w.cell? ⟨b, 1, none⟩ = some x1 ∧ w.cell? ⟨b, 2, none⟩ = some x2 ∧ w.cell? ⟨b, 3, none⟩ = some x3 ∧ w.cell? ⟨b, 4, none⟩ = some x4 := ⟨h 0 _ rfl, h 1 _ rfl, h 2 _ rfl, h 3 _ rfl, h 4 _ rfl⟩
/-- A step from a world that is as it was. -/
theorem bstep {w a b : World} (h : Below w.heap.size w a) (k : Below a.heap.size a b) : Below w.heap.size w b := h.trans (k.mono h.size)
theorem balloc (w : World) (o : Obj) : Below w.heap.size w (w.alloc o) := (Below.refl _ _).alloc (Nat.le_refl _) _
theorem balloc2 (w : World) (o o' : Obj) : Below w.heap.size w ((w.alloc o).alloc o') := bstep (balloc w o) (balloc _ o')
theorem bcall {w a : World} {o : Obj} (k : Below (w.alloc o).heap.size (w.alloc o) a) : Below w.heap.size w a := bstep (balloc w o) k
theorem box1 {w w1 : World} {xs : List Value} {t1 : TypeId} (h : Below (w.alloc (.cells xs.toArray t1)).heap.size (w.alloc (.cells xs.toArray t1)) w1) : Box w1 w.heap.size xs ∧ Below w.heap.size w w1 :=
  ⟨(Box.new _ _ _).below h, bstep (balloc _ _) h⟩
theorem box2 {w w1 : World} {xs ys : List Value} {t1 t2 : TypeId} (h : Below ((w.alloc (.cells xs.toArray t1)).alloc (.cells ys.toArray t2)).heap.size ((w.alloc (.cells xs.toArray t1)).alloc (.cells ys.toArray t2)) w1) :
    Box w1 w.heap.size xs ∧ Box w1 (w.heap.size + 1) ys ∧ Below w.heap.size w w1 := by
  obtain ⟨h2, h3⟩ := box1 h
  obtain ⟨h4, h5⟩ := box1 h3
  exact ⟨h4, by rwa [World.size_alloc] at h2, h5⟩
theorem box3 {w w1 : World} {xs ys zs : List Value} {t1 t2 t3 : TypeId} (h : Below (((w.alloc (.cells xs.toArray t1)).alloc (.cells ys.toArray t2)).alloc (.cells zs.toArray t3)).heap.size (((w.alloc (.cells xs.toArray t1)).alloc (.cells ys.toArray t2)).alloc (.cells zs.toArray t3)) w1) :
    Box w1 w.heap.size xs ∧ Box w1 (w.heap.size + 1) ys ∧ Box w1 (w.heap.size + 2) zs ∧ Below w.heap.size w w1 := by
  obtain ⟨h2, h3⟩ := box1 h
  obtain ⟨h4, h5, h6⟩ := box2 h3
  exact ⟨h4, h5, by rwa [World.size_alloc, World.size_alloc] at h2, h6⟩
theorem IsT.below {w w' : World} (hb : Below w.heap.size w w') {t : T} {v : Value} (h : IsT w t v) : IsT w' t v := h.keep (bkeeps hb)
theorem IsTs.below {w w' : World} (hb : Below w.heap.size w w') {l : List T} {a : Option Addr} {i : Nat} (h : IsTs w l a i) : IsTs w' l a i := h.keep (bkeeps hb)

theorem IsT.form {w : World} {t : T} {v : Value} (h : IsT w t v) : I64 t.f ∧ ∃ (a : Option Addr) (c : Nat), v = .agg #[.int .i64 t.f, .slice a t.args.length c] ∧ t.args.length ≤ c ∧ c ≤ maxLen ∧ IsTs w t.args a 0 := by
  cases t; exact h

theorem IsTs.at0 {w : World} {l : List T} : ∀ {a : Option Addr} {i : Nat}, IsTs w l a i → ∀ k (hk : k < l.length),
    ∃ (b o : Nat) (u v : Value), a = some ⟨b, o, none⟩ ∧ w.cell? ⟨b, o + (i + k) * 2, none⟩ = some u ∧ w.cell? ⟨b, o + (i + k) * 2 + 1, none⟩ = some v ∧ IsT w l[k] (.agg #[u, v]) := by
  induction l with
  | nil => intro a i _ k hk; simp at hk
  | cons t r ih =>
    intro a i h k hk
    obtain ⟨h0, h1⟩ := h
    cases k with
    | zero => exact h0
    | succ k =>
      have := ih h1 k (by simpa using hk)
      simpa [Nat.add_assoc, Nat.add_comm 1 k] using this

theorem IsTs.of_at {w : World} {l : List T} : ∀ {a : Option Addr} {i : Nat}, (∀ k (hk : k < l.length),
    ∃ (b o : Nat) (u v : Value), a = some ⟨b, o, none⟩ ∧ w.cell? ⟨b, o + (i + k) * 2, none⟩ = some u ∧ w.cell? ⟨b, o + (i + k) * 2 + 1, none⟩ = some v ∧ IsT w l[k] (.agg #[u, v])) → IsTs w l a i := by
  induction l with
  | nil => intro a i _; trivial
  | cons t r ih =>
    intro a i h
    refine ⟨h 0 (by simp), ih (fun k hk => ?_)⟩
    have := h (k + 1) (by simpa using hk)
    simpa [Nat.add_assoc, Nat.add_comm 1 k] using this

/-- A term that is an aggregate of two known cells, in its own form. -/
theorem IsT.cells {w : World} {t : T} {u v : Value} (h : IsT w t (.agg #[u, v])) : ∃ (a : Option Addr) (c : Nat), u = .int .i64 t.f ∧ v = .slice a t.args.length c := by
  obtain ⟨_, a, c, hv, _⟩ := h.form
  simp only [Value.agg.injEq, Array.mk.injEq, List.cons.injEq, and_true] at hv
  exact ⟨a, c, hv.1, hv.2⟩

theorem IsTs.at_ {w w' : World} {l : List T} {a : Option Addr} (h : IsTs w l a 0) (hb : Below w.heap.size w w') (k : Nat) (hk : k < l.length) :
    ∃ (b o : Nat) (a' : Option Addr) (c' : Nat), a = some ⟨b, o, none⟩ ∧ w'.cell? ⟨b, o + k * 2, none⟩ = some (.int .i64 l[k].f) ∧ w'.cell? ⟨b, o + k * 2 + 1, none⟩ = some (.slice a' l[k].args.length c') ∧
      IsT w' l[k] (.agg #[.int .i64 l[k].f, .slice a' l[k].args.length c']) := by
  obtain ⟨b, o, u, v, ha, h1, h2, h3⟩ := h.at0 k hk
  obtain ⟨a', c', rfl, rfl⟩ := h3.cells
  rw [Nat.zero_add] at h1 h2
  exact ⟨b, o, a', c', ha, bkeeps hb _ _ h1, bkeeps hb _ _ h2, h3.below hb⟩

/-- .. and the term as it lay at first. -/
theorem IsTs.at2 {w w' : World} {l : List T} {a : Option Addr} (h : IsTs w l a 0) (hb : Below w.heap.size w w') (k : Nat) (hk : k < l.length) :
    ∃ (b o : Nat) (a' : Option Addr) (c' : Nat), a = some ⟨b, o, none⟩ ∧ w'.cell? ⟨b, o + k * 2, none⟩ = some (.int .i64 l[k].f) ∧ w'.cell? ⟨b, o + k * 2 + 1, none⟩ = some (.slice a' l[k].args.length c') ∧
      IsT w l[k] (.agg #[.int .i64 l[k].f, .slice a' l[k].args.length c']) := by
  obtain ⟨b, o, u, v, ha, h1, h2, h3⟩ := h.at0 k hk
  obtain ⟨a', c', rfl, rfl⟩ := h3.cells
  rw [Nat.zero_add] at h1 h2
  exact ⟨b, o, a', c', ha, bkeeps hb _ _ h1, bkeeps hb _ _ h2, h3⟩

/-! ### From what is read -/

section
variable {H : Type} {enc : TypeId × Value → H} {w : World} {base : Nat} {spare : Nat → Bool} {held : Bool}

theorem bulkAll_le {H : Type} {l : List (DataW H)} {d : DataW H} (h : d ∈ l) : Rows.uptoBulk d ≤ Rows.uptoBulkAll l := by
  induction l with
  | nil => simp at h
  | cons x r ih =>
    simp only [Rows.uptoBulkAll]
    rcases List.mem_cons.1 h with rfl | h
    · omega
    · have := ih h; omega

theorem add_plain2 {b o i : Nat} : (Addr.mk b o none).add i = ⟨b, o + i, none⟩ := by
  unfold Addr.add
  split <;> simp_all

theorem sizeL_le_bulk {l : List T} : ∀ {ds : List (DataW H)}, l.length = ds.length → (∀ k (hk : k < l.length) (hd : k < ds.length), l[k].size ≤ Rows.uptoBulk ds[k]) → T.sizeL l ≤ Rows.uptoBulkAll ds := by
  induction l with
  | nil => intro ds _ _; simp [T.sizeL]
  | cons t r ih =>
    intro ds hlen h
    cases ds with
    | nil => simp at hlen
    | cons d ds =>
      have h0 := h 0 (by simp) (by simp)
      have h1 := ih (ds := ds) (by simpa using hlen) (fun k hk hd => by have := h (k + 1) (by simpa using hk) (by simpa using hd); simpa using this)
      simp only [T.sizeL, Rows.uptoBulkAll]
      simp at h0
      omega

theorem open_T : ∀ (fuel : Nat) (cs : List Value) (x : DataW H × List MemPlace), DataW.trod enc Try.prog w base spare held fuel 27 cs = some x →
    ∃ t : T, ∃ u v : Value, cs = [u, v] ∧ IsT w t (.agg #[u, v]) ∧ t.size ≤ Rows.uptoBulk x.1 := by
  intro fuel
  induction fuel using Nat.strongRecOn with
  | _ fuel ih =>
    intro cs x h
    have hC : Try.prog.cellsOf 27 = 2 := by kernel_rfl
    have hC3 : Try.prog.cellsOf 3 = 1 := by kernel_rfl
    have hC30 : Try.prog.cellsOf 25 = 1 := by kernel_rfl
    obtain ⟨xs, n, rfl, rfl, hl, hlen, hf⟩ := DataW.trod_struct Try.underlying27 h
    rw [hC] at hl
    match xs, hlen, cs, hl with
    | [y0, y1], _, [c0, c1], _ =>
      have g0 : DataW.trod enc Try.prog w base spare held n 3 [c0] = some y0 := by simpa [hC3] using hf 0 _ rfl
      have g1 : DataW.trod enc Try.prog w base spare held n 25 [c1] = some y1 := by simpa [hC30] using hf 1 _ rfl
      obtain ⟨f, e0, rfl, wf⟩ := DataW.trod_int Try.underlying3 g0
      simp only [List.cons.injEq, and_true] at e0
      subst e0
      rcases DataW.trod_slice Try.underlying25 g1 with ⟨e1, rfl⟩ | ⟨a, len, cap, elems, rest, m, rfl, e1, rfl, hb, hlc, hcm, hel, hat, _, _⟩
      · simp only [List.cons.injEq, and_true] at e1
        subst e1
        exact ⟨.mk f [], _, _, rfl, ⟨i64_wf wf, none, 0, rfl, Nat.le_refl _, Nat.zero_le _, trivial⟩, by simp [T.size, T.sizeL, Rows.uptoBulk, Rows.uptoBulkAll]⟩
      · simp only [List.cons.injEq, and_true] at e1
        subst e1
        have hspot : 0 < len → ∃ b o, a = ⟨b, o, none⟩ := by
          intro h0
          have hk := hat 0 h0
          rw [hC, List.getElem?_eq_getElem (by omega)] at hk
          obtain ⟨cs', h1, _⟩ := Option.bind_eq_some_iff.1 hk
          obtain ⟨_, hl', hcell⟩ := World.cells?_some h1
          have c0 := hcell 0 (by omega)
          rw [List.getElem?_eq_getElem (by omega)] at c0
          have := World.cell?_spot c0
          obtain ⟨b, o, spot⟩ := a
          exact ⟨b, o, by simpa [Addr.add] using this⟩
        have key : ∀ i, i < len → ∃ t : T, (∃ (b o : Nat) (u v : Value), some a = some ⟨b, o, none⟩ ∧ w.cell? ⟨b, o + i * 2, none⟩ = some u ∧ w.cell? ⟨b, o + i * 2 + 1, none⟩ = some v ∧ IsT w t (.agg #[u, v])) ∧
            ∀ (hd : i < elems.length), t.size ≤ Rows.uptoBulk elems[i].1 := by
          intro i hi
          have hk := hat i hi
          rw [hC, List.getElem?_eq_getElem (by omega)] at hk
          obtain ⟨cs', h1, h2⟩ := Option.bind_eq_some_iff.1 hk
          obtain ⟨t, u, v, rfl, ht, hsz⟩ := ih m (by omega) _ _ h2
          obtain ⟨_, _, hcell⟩ := World.cells?_some h1
          have c0 := hcell 0 (by omega)
          have c1 := hcell 1 (by omega)
          simp only [List.getElem?_cons_zero, List.getElem?_cons_succ] at c0 c1
          obtain ⟨b, o, rfl⟩ := hspot (by omega)
          rw [add_plain2, add_plain2] at c0 c1
          exact ⟨t, ⟨b, o, u, v, rfl, c0, c1, ht⟩, fun _ => hsz⟩
        have : Inhabited T := ⟨.mk 0 []⟩
        obtain ⟨F, hF⟩ := Go.Deep.choose_lt key
        have hLL : ((List.range len).map F).length = len := by simp
        refine ⟨.mk f ((List.range len).map F), _, _, rfl, ⟨i64_wf wf, some a, cap, by simp, by simpa using hlc, hcm, IsTs.of_at (fun k hk => ?_)⟩, ?_⟩
        · have := (hF k (by simpa using hk)).1
          simpa using this
        · have h1 : T.sizeL ((List.range len).map F) ≤ Rows.uptoBulkAll (elems.map (·.1)) := sizeL_le_bulk (by simp [hel]) (fun k hk hd => by
            have := (hF k (by simpa using hk)).2 (by simpa using hd)
            simpa using this)
          simp only [T.size, List.map_cons, List.map_nil, Rows.uptoBulk, Rows.uptoBulkAll]
          omega

end

end Go.Proofs.Ytjkpecjlpgcalaa
