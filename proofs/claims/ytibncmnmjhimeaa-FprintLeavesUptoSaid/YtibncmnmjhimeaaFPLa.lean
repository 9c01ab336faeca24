/- Substitutions: how they lie in memory. -/
import Derived.Test.YtibncmnmjhimeaaRows
import Derived.WalkKit
import Derived.WalkSpells
import Derived.WalkLawsBesides
import Derived.Lib.Hide
import Derived.Deep.Slices
import Derived.Lib.QuietBelow
import Derived.Deep.Quiet
import Derived.RangeFuncNested
import Derived.RangeFuncLeaves
import Derived.OrdersIn
import Derived.TacticsIn
import Derived.Maps.AppendAt
import Derived.Laws.MakeOwn

/- The memory: what outlives what is added to it; blocks that are known; integers. -/
namespace Go.Proofs.Ytibncmnmjhimeaa
open Go.RowKit
theorem rint {k : IntKind} {a b : Int} (h : b = a) : Ending.returned (.int k a) = .returned (.int k b) := by rw [h]
/-- An integer that an int can be. -/
def I64 (f : Int) : Prop := -9223372036854775808 ≤ f ∧ f ≤ 9223372036854775807
theorem i64_wf {f : Int} (h : (Lit.int .i64 f).wf = true) : I64 f := by
  simp [Lit.wf, IntKind.min, IntKind.max, IntKind.signed, IntKind.bits] at h
  exact ⟨by omega, by omega⟩
theorem bkeeps {w w' : World} (hb : Below w.heap.size w w') (p : Addr) (x : Value) (h : w.cell? p = some x) : w'.cell? p = some x :=
  (hb.cell (World.block_lt_of_cell? _ _ h)).trans h
theorem calloc {w : World} {p : Addr} {x : Value} (h : w.cell? p = some x) (o : Obj) : (w.alloc o).cell? p = some x := bkeeps ((Below.refl _ _).alloc (Nat.le_refl _) _) _ _ h
/-- A block's first cells. -/
def Box (w : World) (b : Nat) (vs : List Value) : Prop := ∀ i v, vs[i]? = some v → w.cell? ⟨b, i, none⟩ = some v
theorem Box.below {w w' : World} {b : Nat} {vs : List Value} (h : Box w b vs) (hb : Below w.heap.size w w') : Box w' b vs := fun i v hi => bkeeps hb _ _ (h i v hi)
theorem Box.alloc {w : World} {b : Nat} {vs : List Value} (h : Box w b vs) (o : Obj) : Box (w.alloc o) b vs := fun i v hi => calloc (h i v hi) o
theorem Box.new (w : World) (vs : List Value) (t : TypeId) : Box (w.alloc (.cells vs.toArray t)) w.heap.size vs := by
  intro i v hi
  have h := heap_alloc_new w (.cells vs.toArray t)
  simp only [World.cell?, h]
  simpa using hi
theorem heap_new' {w : World} {b : Nat} {o : Obj} (h : w.heap.size = b) : (w.alloc o).heap[b]? = some o := by subst h; exact heap_alloc_new w o
theorem Box.two {w : World} {b : Nat} {x0 x1 : Value} (h : Box w b [x0, x1]) : w.cell? ⟨b, 0, none⟩ = some x0 ∧ w.cell? ⟨b, 1, none⟩ = some x1 := ⟨h 0 _ rfl, h 1 _ rfl⟩
/-- A step from a world that is as it was. -/
theorem bstep {w a b : World} (h : Below w.heap.size w a) (k : Below a.heap.size a b) : Below w.heap.size w b := h.trans (k.mono h.size)
theorem balloc (w : World) (o : Obj) : Below w.heap.size w (w.alloc o) := (Below.refl _ _).alloc (Nat.le_refl _) _
theorem balloc2 (w : World) (o o' : Obj) : Below w.heap.size w ((w.alloc o).alloc o') := bstep (balloc w o) (balloc _ o')
theorem add_plain2 {b o i : Nat} : (Addr.mk b o none).add i = ⟨b, o + i, none⟩ := by
  unfold Addr.add
  split <;> simp_all
theorem bulkAll_le {H : Type} {l : List (DataW H)} {d : DataW H} (h : d ∈ l) : Rows.uptoBulk d ≤ Rows.uptoBulkAll l := by
  induction l with
  | nil => simp at h
  | cons x r ih =>
    simp only [Rows.uptoBulkAll]
    rcases List.mem_cons.1 h with rfl | h
    · omega
    · have := ih h; omega
end Go.Proofs.Ytibncmnmjhimeaa

/- Terms as finite trees, how they lie in memory, and that what reads as a term is one. -/
namespace Go.Proofs.Ytibncmnmjhimeaa
open Go.RowKit
inductive T where
  | mk (f : Int) (args : List T)
namespace T
def f : T → Int | .mk f _ => f
def args : T → List T | .mk _ a => a
mutual
def size : T → Nat
  | .mk _ l => 1 + sizeL l
def sizeL : List T → Nat
  | [] => 0
  | a :: r => size a + sizeL r
end
theorem ind {P : T → Prop} (h : ∀ f l, (∀ a ∈ l, P a) → P (.mk f l)) : ∀ t, P t := by
  intro t
  refine T.rec (motive_1 := P) (motive_2 := fun l => ∀ a ∈ l, P a) (fun f l ih => h f l ih) (by simp) (fun a r iha ihr => ?_) t
  intro b hb
  rcases List.mem_cons.1 hb with rfl | hb
  · exact iha
  · exact ihr b hb
theorem sizeL_take_succ (l : List T) (k : Nat) (h : k < l.length) : sizeL (l.take (k + 1)) = sizeL (l.take k) + size l[k] := by
  induction l generalizing k with
  | nil => simp at h
  | cons t r ih =>
    cases k with
    | zero => simp [sizeL]
    | succ k => simp [sizeL, ih k (by simpa using h)]; omega
theorem sizeL_take_le (l : List T) : ∀ k, sizeL (l.take k) ≤ sizeL l := by
  induction l with
  | nil => simp [sizeL]
  | cons t r ih =>
    intro k
    cases k with
    | zero => simp [sizeL]
    | succ k => simp only [List.take_succ_cons, sizeL]; have := ih k; omega
theorem size_le_sizeL {a : T} {l : List T} (h : a ∈ l) : size a ≤ sizeL l := by
  induction l with
  | nil => simp at h
  | cons t r ih =>
    simp only [sizeL]
    rcases List.mem_cons.1 h with rfl | h
    · omega
    · have := ih h; omega
@[simp] theorem f_mk (f : Int) (l : List T) : (T.mk f l).f = f := rfl
@[simp] theorem args_mk (f : Int) (l : List T) : (T.mk f l).args = l := rfl
theorem size_eq (t : T) : t.size = 1 + sizeL t.args := by cases t; rfl
end T
mutual
/-- The value 'v' is the term 't' in the world 'w'. -/
def IsT (w : World) : T → Value → Prop
  | .mk f l, v => I64 f ∧ ∃ (a : Option Addr) (c : Nat), v = .agg #[.int .i64 f, .slice a l.length c] ∧ l.length ≤ c ∧ c ≤ maxLen ∧ IsTs w l a 0
/-- The row at the address 'a' holds from its i-th place on the terms 'l'. -/
def IsTs (w : World) : List T → Option Addr → Nat → Prop
  | [], _, _ => True
  | t :: r, a, i => (∃ (b o : Nat) (u v : Value), a = some ⟨b, o, none⟩ ∧ w.cell? ⟨b, o + i * 2, none⟩ = some u ∧ w.cell? ⟨b, o + i * 2 + 1, none⟩ = some v ∧ IsT w t (.agg #[u, v])) ∧ IsTs w r a (i + 1)
end
mutual
/-- Whatever keeps the old cells keeps a term. -/
theorem IsT.keep {w w' : World} (hb : ∀ (p : Addr) (x : Value), w.cell? p = some x → w'.cell? p = some x) : ∀ {t : T} {v : Value}, IsT w t v → IsT w' t v
  | .mk _ _, _, ⟨h0, a, c, h1, h2, h3, h4⟩ => ⟨h0, a, c, h1, h2, h3, IsTs.keep hb h4⟩
theorem IsTs.keep {w w' : World} (hb : ∀ (p : Addr) (x : Value), w.cell? p = some x → w'.cell? p = some x) : ∀ {l : List T} {a : Option Addr} {i : Nat}, IsTs w l a i → IsTs w' l a i
  | [], _, _, _ => trivial
  | _ :: _, _, _, ⟨⟨b, o, u, v, ha, h1, h2, h3⟩, h4⟩ => ⟨⟨b, o, u, v, ha, hb _ _ h1, hb _ _ h2, IsT.keep hb h3⟩, IsTs.keep hb h4⟩
end
theorem IsT.below {w w' : World} (hb : Below w.heap.size w w') {t : T} {v : Value} (h : IsT w t v) : IsT w' t v := h.keep (bkeeps hb)
theorem IsTs.below {w w' : World} (hb : Below w.heap.size w w') {l : List T} {a : Option Addr} {i : Nat} (h : IsTs w l a i) : IsTs w' l a i := h.keep (bkeeps hb)
theorem IsT.form {w : World} {t : T} {v : Value} (h : IsT w t v) : I64 t.f ∧ ∃ (a : Option Addr) (c : Nat), v = .agg #[.int .i64 t.f, .slice a t.args.length c] ∧ t.args.length ≤ c ∧ c ≤ maxLen ∧ IsTs w t.args a 0 := by
  cases t; exact h
theorem IsTs.at0 {w : World} {l : List T} : ∀ {a : Option Addr} {i : Nat}, IsTs w l a i → ∀ k (hk : k < l.length),
    ∃ (b o : Nat) (u v : Value), a = some ⟨b, o, none⟩ ∧ w.cell? ⟨b, o + (i + k) * 2, none⟩ = some u ∧ w.cell? ⟨b, o + (i + k) * 2 + 1, none⟩ = some v ∧ IsT w l[k] (.agg #[u, v]) := by
  induction l with
  | nil => intro a i _ k hk; simp at hk
  | cons t r ih =>
    intro a i h k hk
    obtain ⟨h0, h1⟩ := h
    cases k with
    | zero => exact h0
    | succ k =>
      have := ih h1 k (by simpa using hk)
      simpa [Nat.add_assoc, Nat.add_comm 1 k] using this
theorem IsTs.of_at {w : World} {l : List T} : ∀ {a : Option Addr} {i : Nat}, (∀ k (hk : k < l.length),
    ∃ (b o : Nat) (u v : Value), a = some ⟨b, o, none⟩ ∧ w.cell? ⟨b, o + (i + k) * 2, none⟩ = some u ∧ w.cell? ⟨b, o + (i + k) * 2 + 1, none⟩ = some v ∧ IsT w l[k] (.agg #[u, v])) → IsTs w l a i := by
  induction l with
  | nil => intro a i _; trivial
  | cons t r ih =>
    intro a i h
    refine ⟨h 0 (by simp), ih (fun k hk => ?_)⟩
    have := h (k + 1) (by simpa using hk)
    simpa [Nat.add_assoc, Nat.add_comm 1 k] using this
/-- A term that is an aggregate of two known cells, in its own form. -/
theorem IsT.cells {w : World} {t : T} {u v : Value} (h : IsT w t (.agg #[u, v])) : ∃ (a : Option Addr) (c : Nat), u = .int .i64 t.f ∧ v = .slice a t.args.length c := by
  obtain ⟨_, a, c, hv, _⟩ := h.form
  simp only [Value.agg.injEq, Array.mk.injEq, List.cons.injEq, and_true] at hv
  exact ⟨a, c, hv.1, hv.2⟩
theorem IsTs.at_ {w w' : World} {l : List T} {a : Option Addr} (h : IsTs w l a 0) (hb : Below w.heap.size w w') (k : Nat) (hk : k < l.length) :
    ∃ (b o : Nat) (a' : Option Addr) (c' : Nat), a = some ⟨b, o, none⟩ ∧ w'.cell? ⟨b, o + k * 2, none⟩ = some (.int .i64 l[k].f) ∧ w'.cell? ⟨b, o + k * 2 + 1, none⟩ = some (.slice a' l[k].args.length c') ∧
      IsT w' l[k] (.agg #[.int .i64 l[k].f, .slice a' l[k].args.length c']) := by
  obtain ⟨b, o, u, v, ha, h1, h2, h3⟩ := h.at0 k hk
  obtain ⟨a', c', rfl, rfl⟩ := h3.cells
  rw [Nat.zero_add] at h1 h2
  exact ⟨b, o, a', c', ha, bkeeps hb _ _ h1, bkeeps hb _ _ h2, h3.below hb⟩
section
variable {H : Type} {enc : TypeId × Value → H} {w : World} {base : Nat} {spare : Nat → Bool} {held : Bool}
theorem sizeL_le_bulk {l : List T} : ∀ {ds : List (DataW H)}, l.length = ds.length → (∀ k (hk : k < l.length) (hd : k < ds.length), l[k].size ≤ Rows.uptoBulk ds[k]) → T.sizeL l ≤ Rows.uptoBulkAll ds := by
  induction l with
  | nil => intro ds _ _; simp [T.sizeL]
  | cons t r ih =>
    intro ds hlen h
    cases ds with
    | nil => simp at hlen
    | cons d ds =>
      have h0 := h 0 (by simp) (by simp)
      have h1 := ih (ds := ds) (by simpa using hlen) (fun k hk hd => by have := h (k + 1) (by simpa using hk) (by simpa using hd); simpa using this)
      simp only [T.sizeL, Rows.uptoBulkAll]
      simp at h0
      omega
set_option maxRecDepth 10000 in
theorem open_T : ∀ (fuel : Nat) (cs : List Value) (x : DataW H × List MemPlace), DataW.trod enc Try.prog w base spare held fuel 24 cs = some x →
    ∃ t : T, ∃ u v : Value, cs = [u, v] ∧ IsT w t (.agg #[u, v]) ∧ t.size ≤ Rows.uptoBulk x.1 := by
  intro fuel
  induction fuel using Nat.strongRecOn with
  | _ fuel ih =>
    intro cs x h
    have hC : Try.prog.cellsOf 24 = 2 := by kernel_rfl
    have hC3 : Try.prog.cellsOf 3 = 1 := by kernel_rfl
    have hC30 : Try.prog.cellsOf 22 = 1 := by kernel_rfl
    obtain ⟨xs, n, rfl, rfl, hl, hlen, hf⟩ := DataW.trod_struct Try.underlying24 h
    rw [hC] at hl
    match xs, hlen, cs, hl with
    | [y0, y1], _, [c0, c1], _ =>
      have g0 : DataW.trod enc Try.prog w base spare held n 3 [c0] = some y0 := by simpa [hC3] using hf 0 _ rfl
      have g1 : DataW.trod enc Try.prog w base spare held n 22 [c1] = some y1 := by simpa [hC30] using hf 1 _ rfl
      obtain ⟨f, e0, rfl, wf⟩ := DataW.trod_int Try.underlying3 g0
      simp only [List.cons.injEq, and_true] at e0
      subst e0
      rcases DataW.trod_slice Try.underlying22 g1 with ⟨e1, rfl⟩ | ⟨a, len, cap, elems, rest, m, rfl, e1, rfl, hb, hlc, hcm, hel, hat, _, _⟩
      · simp only [List.cons.injEq, and_true] at e1
        subst e1
        exact ⟨.mk f [], _, _, rfl, ⟨i64_wf wf, none, 0, rfl, Nat.le_refl _, Nat.zero_le _, trivial⟩, by simp [T.size, T.sizeL, Rows.uptoBulk, Rows.uptoBulkAll]⟩
      · simp only [List.cons.injEq, and_true] at e1
        subst e1
        have hspot : 0 < len → ∃ b o, a = ⟨b, o, none⟩ := by
          intro h0
          have hk := hat 0 h0
          rw [hC, List.getElem?_eq_getElem (by omega)] at hk
          obtain ⟨cs', h1, _⟩ := Option.bind_eq_some_iff.1 hk
          obtain ⟨_, hl', hcell⟩ := World.cells?_some h1
          have c0 := hcell 0 (by omega)
          rw [List.getElem?_eq_getElem (by omega)] at c0
          have := World.cell?_spot c0
          obtain ⟨b, o, spot⟩ := a
          exact ⟨b, o, by simpa [Addr.add] using this⟩
        have key : ∀ i, i < len → ∃ t : T, (∃ (b o : Nat) (u v : Value), some a = some ⟨b, o, none⟩ ∧ w.cell? ⟨b, o + i * 2, none⟩ = some u ∧ w.cell? ⟨b, o + i * 2 + 1, none⟩ = some v ∧ IsT w t (.agg #[u, v])) ∧
            ∀ (hd : i < elems.length), t.size ≤ Rows.uptoBulk elems[i].1 := by
          intro i hi
          have hk := hat i hi
          rw [hC, List.getElem?_eq_getElem (by omega)] at hk
          obtain ⟨cs', h1, h2⟩ := Option.bind_eq_some_iff.1 hk
          obtain ⟨t, u, v, rfl, ht, hsz⟩ := ih m (by omega) _ _ h2
          obtain ⟨_, _, hcell⟩ := World.cells?_some h1
          have c0 := hcell 0 (by omega)
          have c1 := hcell 1 (by omega)
          simp only [List.getElem?_cons_zero, List.getElem?_cons_succ] at c0 c1
          obtain ⟨b, o, rfl⟩ := hspot (by omega)
          rw [add_plain2, add_plain2] at c0 c1
          exact ⟨t, ⟨b, o, u, v, rfl, c0, c1, ht⟩, fun _ => hsz⟩
        have : Inhabited T := ⟨.mk 0 []⟩
        obtain ⟨F, hF⟩ := Go.Deep.choose_lt key
        have hLL : ((List.range len).map F).length = len := by simp
        refine ⟨.mk f ((List.range len).map F), _, _, rfl, ⟨i64_wf wf, some a, cap, by simp, by simpa using hlc, hcm, IsTs.of_at (fun k hk => ?_)⟩, ?_⟩
        · have := (hF k (by simpa using hk)).1
          simpa using this
        · have h1 : T.sizeL ((List.range len).map F) ≤ Rows.uptoBulkAll (elems.map (·.1)) := sizeL_le_bulk (by simp [hel]) (fun k hk hd => by
            have := (hF k (by simpa using hk)).2 (by simpa using hd)
            simpa using this)
          simp only [T.size, List.map_cons, List.map_nil, Rows.uptoBulk, Rows.uptoBulkAll]
          omega
end
end Go.Proofs.Ytibncmnmjhimeaa

/- Unification by nets of parts: plain. -/
namespace Go.Proofs.Ytibncmnmjhimeaa
set_option linter.unusedVariables false
set_option linter.unusedSimpArgs false
/-- A part: a symbol (or a variable), its arguments' numbers. -/
structure Pt where
  fn : Int
  args : List Nat
instance : Inhabited Pt := ⟨⟨0, []⟩⟩
def pget (N : List Pt) (i : Nat) : Pt := N.getD i default
theorem pget_lt {N : List Pt} {i : Nat} (h : i < N.length) : pget N i = N[i] := by simp [pget, h]
def aget (l : List Nat) (k : Nat) : Nat := l.getD k 0
theorem aget_lt {l : List Nat} {k : Nat} (h : k < l.length) : aget l k = l[k] := by simp [aget, h]
theorem aget_mem {l : List Nat} {k : Nat} (h : k < l.length) : aget l k ∈ l := by rw [aget_lt h]; exact List.getElem_mem h
/-- What stands for each part: 'b' and what hangs on it now hangs on 'a'. -/
def mrg (κ : Nat → Nat) (b a : Nat) : Nat → Nat := fun i => if κ i = b then a else κ i
/-- Two that are not the same are joined: what stands for each now, and what must become the same; none: they clash. -/
def stepM (N : List Pt) (κ : Nat → Nat) (a b : Nat) : Option ((Nat → Nat) × List (Nat × Nat)) :=
  if (pget N a).fn < 0 ∧ (0 ≤ (pget N b).fn ∨ (pget N a).fn < (pget N b).fn) then some (mrg κ a b, [])
  else if (pget N b).fn < 0 then some (mrg κ b a, [])
  else if (pget N a).fn ≠ (pget N b).fn ∨ (pget N a).args.length ≠ (pget N b).args.length then none
  else some (mrg κ b a, (pget N a).args.zip (pget N b).args)
/-- Pairs are joined, one behind the other, those that come of a pair ahead of the others: as they stand, or the last one first. -/
inductive Run (rv : Bool) (N : List Pt) : List (Nat × Nat) → (Nat → Nat) → Option (Nat → Nat) → Prop
  | nil (κ : Nat → Nat) : Run rv N [] κ (some κ)
  | same {i j : Nat} {r : List (Nat × Nat)} {κ : Nat → Nat} {o : Option (Nat → Nat)} : κ i = κ j → Run rv N r κ o → Run rv N ((i, j) :: r) κ o
  | clash {i j : Nat} {r : List (Nat × Nat)} {κ : Nat → Nat} : κ i ≠ κ j → stepM N κ (κ i) (κ j) = none → Run rv N ((i, j) :: r) κ none
  | step {i j : Nat} {r ps : List (Nat × Nat)} {κ κ' : Nat → Nat} {o : Option (Nat → Nat)} : κ i ≠ κ j → stepM N κ (κ i) (κ j) = some (κ', ps) → Run rv N ((if rv = true then ps.reverse else ps) ++ r) κ' o → Run rv N ((i, j) :: r) κ o
theorem Run.append {rv : Bool} {N : List Pt} {xs ys : List (Nat × Nat)} {κ : Nat → Nat} {o1 : Option (Nat → Nat)} (h : Run rv N xs κ o1) : (∀ κ' o, o1 = some κ' → Run rv N ys κ' o → Run rv N (xs ++ ys) κ o) ∧ (o1 = none → Run rv N (xs ++ ys) κ none) := by
  induction h with
  | nil κ => exact ⟨fun κ' o e h => (by cases e; exact h), fun e => (nomatch e)⟩
  | same h1 _ ih => exact ⟨fun κ' o e h => .same h1 (ih.1 κ' o e h), fun e => .same h1 (ih.2 e)⟩
  | clash h1 h2 => exact ⟨fun _ _ e => (nomatch e), fun _ => .clash h1 h2⟩
  | step h1 h2 _ ih => exact ⟨fun κ' o e h => (.step h1 h2 (by have z := ih.1 κ' o e h; rwa [List.append_assoc] at z)), fun e => .step h1 h2 (by have z := ih.2 e; rwa [List.append_assoc] at z)⟩
/-- A relation of parts that a unifier may leave. -/
structure Eqv (S : Nat → Nat → Prop) : Prop where
  refl : ∀ i, S i i
  symm : ∀ {i j}, S i j → S j i
  trans : ∀ {i j k}, S i j → S j k → S i k
structure Cld (N : List Pt) (S : Nat → Nat → Prop) : Prop extends Eqv S where
  dec : ∀ {i j}, S i j → 0 ≤ (pget N i).fn → 0 ≤ (pget N j).fn → (pget N i).fn = (pget N j).fn ∧ (pget N i).args.length = (pget N j).args.length ∧ ∀ k, k < (pget N i).args.length → S (aget (pget N i).args k) (aget (pget N j).args k)
theorem zip_mem {l m : List Nat} {p : Nat × Nat} (h : p ∈ l.zip m) (hl : l.length = m.length) : ∃ k, k < l.length ∧ p = (aget l k, aget m k) := by
  obtain ⟨k, hk, rfl⟩ := List.getElem_of_mem h
  have hk' : k < l.length ∧ k < m.length := by rw [List.length_zip] at hk; omega
  exact ⟨k, hk'.1, by rw [List.getElem_zip, aget_lt hk'.1, aget_lt hk'.2]⟩
theorem mem_zip {l m : List Nat} {k : Nat} (hk : k < l.length) (hl : l.length = m.length) : (aget l k, aget m k) ∈ l.zip m := by
  have hz : k < (l.zip m).length := by rw [List.length_zip]; omega
  have := List.getElem_mem hz
  rw [List.getElem_zip] at this
  rw [aget_lt hk, aget_lt (by omega)]; exact this
theorem rv_mem {α : Type} {rv : Bool} {ps : List α} {p : α} : p ∈ (if rv = true then ps.reverse else ps) ↔ p ∈ ps := by cases rv <;> simp
theorem mrg_in {κ : Nat → Nat} {a b i j : Nat} {S : Nat → Nat → Prop} (hS : Eqv S) (hκ : ∀ i j, κ i = κ j → S i j) (ha : κ a = a) (hb : κ b = b) (hab : S a b) (h : mrg κ b a i = mrg κ b a j) : S i j := by
  have hr : ∀ i, S i (κ i) ∨ True := fun _ => .inr trivial
  have key : ∀ i, κ i = b → S i b := fun i e => hκ i b (by rw [e, hb])
  have keya : ∀ i, κ i = a → S i a := fun i e => hκ i a (by rw [e, ha])
  unfold mrg at h
  by_cases h1 : κ i = b
  · rw [if_pos h1] at h
    by_cases h2 : κ j = b
    · exact hκ i j (by rw [h1, h2])
    · rw [if_neg h2] at h
      exact hS.trans (key i h1) (hS.trans (hS.symm hab) (hS.symm (keya j h.symm)))
  · rw [if_neg h1] at h
    by_cases h2 : κ j = b
    · rw [if_pos h2] at h
      exact hS.trans (keya i h) (hS.trans hab (hS.symm (key j h2)))
    · rw [if_neg h2] at h
      exact hκ i j h
/-- What stands for parts. -/
structure KOk (N : List Pt) (κ : Nat → Nat) : Prop where
  idem : ∀ i, κ (κ i) = κ i
  lt : ∀ i, i < N.length → κ i < N.length
  big : ∀ i, N.length ≤ i → κ i = i
  top : ∀ i, (pget N (κ i)).fn < 0 → (pget N i).fn ≤ (pget N (κ i)).fn
theorem mrg_idem {κ : Nat → Nat} {a b : Nat} (h : ∀ i, κ (κ i) = κ i) (ha : κ a = a) (hab : a ≠ b) (i : Nat) : mrg κ b a (mrg κ b a i) = mrg κ b a i := by
  unfold mrg
  by_cases h1 : κ i = b
  · rw [if_pos h1, ha, if_neg hab]
  · rw [if_neg h1, h i, if_neg h1]
theorem mrg_kok {N : List Pt} {κ : Nat → Nat} {a b : Nat} (h : KOk N κ) (ha : κ a = a) (hb : κ b = b) (hab : a ≠ b) (hla : a < N.length) (hlb : b < N.length) (ht : (pget N a).fn < 0 → (pget N b).fn < 0 ∧ (pget N b).fn ≤ (pget N a).fn) : KOk N (mrg κ b a) := by
  refine ⟨mrg_idem h.idem ha hab, fun i hi => ?_, fun i hi => ?_, fun i hi => ?_⟩
  · unfold mrg; split
    · exact hla
    · exact h.lt i hi
  · unfold mrg; rw [h.big i hi, if_neg (by omega)]
  · unfold mrg at hi ⊢
    by_cases h1 : κ i = b
    · rw [if_pos h1] at hi ⊢
      have z := ht hi
      have z2 := h.top i (by rw [h1]; exact z.1)
      rw [h1] at z2; omega
    · rw [if_neg h1] at hi ⊢
      exact h.top i hi
theorem stepM_cases {N : List Pt} {κ κ' : Nat → Nat} {a b : Nat} {ps : List (Nat × Nat)} (h : stepM N κ a b = some (κ', ps)) :
    (κ' = mrg κ a b ∧ ps = [] ∧ (pget N a).fn < 0 ∧ (0 ≤ (pget N b).fn ∨ (pget N a).fn < (pget N b).fn)) ∨ (κ' = mrg κ b a ∧ ps = [] ∧ (pget N b).fn < 0 ∧ ¬ ((pget N a).fn < 0 ∧ (pget N a).fn < (pget N b).fn)) ∨
    (κ' = mrg κ b a ∧ ps = (pget N a).args.zip (pget N b).args ∧ 0 ≤ (pget N a).fn ∧ 0 ≤ (pget N b).fn ∧ (pget N a).fn = (pget N b).fn ∧ (pget N a).args.length = (pget N b).args.length) := by
  unfold stepM at h
  split at h
  · rename_i h1
    simp only [Option.some.injEq, Prod.mk.injEq] at h
    exact .inl ⟨h.1.symm, h.2.symm, h1.1, h1.2⟩
  · rename_i h1
    split at h
    · rename_i h2
      simp only [Option.some.injEq, Prod.mk.injEq] at h
      exact .inr (.inl ⟨h.1.symm, h.2.symm, h2, fun q => h1 ⟨q.1, .inr q.2⟩⟩)
    · rename_i h2
      split at h
      · cases h
      · rename_i h3
        simp only [Option.some.injEq, Prod.mk.injEq] at h
        exact .inr (.inr ⟨h.1.symm, h.2.symm, by omega, by omega, by omega, by omega⟩)
theorem stepM_none {N : List Pt} {κ : Nat → Nat} {a b : Nat} (h : stepM N κ a b = none) : 0 ≤ (pget N a).fn ∧ 0 ≤ (pget N b).fn ∧ ((pget N a).fn ≠ (pget N b).fn ∨ (pget N a).args.length ≠ (pget N b).args.length) := by
  unfold stepM at h
  split at h
  · cases h
  · rename_i h1
    split at h
    · cases h
    · rename_i h2
      split at h
      · rename_i h3
        exact ⟨by omega, by omega, h3⟩
      · cases h
theorem stepM_kok {N : List Pt} {κ κ' : Nat → Nat} {a b : Nat} {ps : List (Nat × Nat)} (hk : KOk N κ) (ha : κ a = a) (hb : κ b = b) (hab : a ≠ b) (hla : a < N.length) (hlb : b < N.length) (h : stepM N κ a b = some (κ', ps)) : KOk N κ' := by
  rcases stepM_cases h with ⟨rfl, _, h1, h2⟩ | ⟨rfl, _, h1, h2⟩ | ⟨rfl, _, h1, h2, _⟩
  · exact mrg_kok hk hb ha (Ne.symm hab) hlb hla (fun q => ⟨h1, by omega⟩)
  · exact mrg_kok hk ha hb hab hla hlb (fun q => ⟨h1, by omega⟩)
  · exact mrg_kok hk ha hb hab hla hlb (fun q => by omega)
/-- The two whose joining is at hand have become the same, and what was the same stays so. -/
theorem stepM_join {N : List Pt} {κ κ' : Nat → Nat} {a b : Nat} {ps : List (Nat × Nat)} (ha : κ a = a) (hb : κ b = b) (h : stepM N κ a b = some (κ', ps)) : κ' a = κ' b ∧ ∀ i j, κ i = κ j → κ' i = κ' j := by
  have key : ∀ a b, κ a = a → κ b = b → mrg κ b a a = mrg κ b a b ∧ ∀ i j, κ i = κ j → mrg κ b a i = mrg κ b a j := fun a b ha hb => by
    unfold mrg
    refine ⟨?_, fun i j e => by rw [e]⟩
    rw [hb, if_pos rfl, ha]
    split <;> rfl
  rcases stepM_cases h with ⟨rfl, _⟩ | ⟨rfl, _⟩ | ⟨rfl, _⟩
  · exact ⟨(key b a hb ha).1.symm, (key b a hb ha).2⟩
  · exact key a b ha hb
  · exact key a b ha hb
/-- Arguments' numbers are those of parts. -/
def NOk (N : List Pt) : Prop := ∀ i, i < N.length → (∀ a ∈ (pget N i).args, a < i) ∧ ((pget N i).fn < 0 → (pget N i).args = [])
/-- What is the same so far has the same tops, and arguments that are the same, or are to become so. -/
def Inv (N : List Pt) (κ : Nat → Nat) (todo : List (Nat × Nat)) : Prop := ∀ i j, i < N.length → j < N.length → κ i = κ j → 0 ≤ (pget N i).fn → 0 ≤ (pget N j).fn → (pget N i).fn = (pget N j).fn ∧ (pget N i).args.length = (pget N j).args.length ∧
  ∀ S, Eqv S → (∀ i j, κ i = κ j → S i j) → (∀ p ∈ todo, S p.1 p.2) → ∀ k, k < (pget N i).args.length → S (aget (pget N i).args k) (aget (pget N j).args k)
def InR (N : List Pt) (todo : List (Nat × Nat)) : Prop := ∀ p ∈ todo, p.1 < N.length ∧ p.2 < N.length
theorem stepM_inr {N : List Pt} {κ κ' : Nat → Nat} {a b : Nat} {ps : List (Nat × Nat)} (hN : NOk N) (hla : a < N.length) (hlb : b < N.length) (h : stepM N κ a b = some (κ', ps)) : InR N ps := by
  rcases stepM_cases h with ⟨_, rfl, _⟩ | ⟨_, rfl, _⟩ | ⟨_, rfl, _, _, _, hl⟩
  · intro p hp; simp at hp
  · intro p hp; simp at hp
  · intro p hp
    obtain ⟨k, hk, rfl⟩ := zip_mem hp hl
    have z1 := (hN a hla).1 _ (aget_mem hk)
    have z2 := (hN b hlb).1 _ (aget_mem (show k < (pget N b).args.length by omega))
    exact ⟨by (try dsimp only); omega, by (try dsimp only); omega⟩
theorem stepM_inv {rv : Bool} {N : List Pt} {κ κ' : Nat → Nat} {i j : Nat} {r ps : List (Nat × Nat)} (hk : KOk N κ) (hne : κ i ≠ κ j) (hli : i < N.length) (hlj : j < N.length) (h : stepM N κ (κ i) (κ j) = some (κ', ps)) (hI : Inv N κ ((i, j) :: r)) : Inv N κ' ((if rv = true then ps.reverse else ps) ++ r) := by
  have ha := hk.idem i
  have hb := hk.idem j
  obtain ⟨hj1, hj2⟩ := stepM_join ha hb h
  have hij : κ' i = κ' j := by rw [hj2 i (κ i) ha.symm, hj2 j (κ j) hb.symm]; exact hj1
  -- what was the same
  have old : ∀ p q, p < N.length → q < N.length → κ p = κ q → 0 ≤ (pget N p).fn → 0 ≤ (pget N q).fn → (pget N p).fn = (pget N q).fn ∧ (pget N p).args.length = (pget N q).args.length ∧
      ∀ S, Eqv S → (∀ i j, κ' i = κ' j → S i j) → (∀ p ∈ (if rv = true then ps.reverse else ps) ++ r, S p.1 p.2) → ∀ k, k < (pget N p).args.length → S (aget (pget N p).args k) (aget (pget N q).args k) := fun p q hp hq e h0 h1 => by
    obtain ⟨z1, z2, z3⟩ := hI p q hp hq e h0 h1
    refine ⟨z1, z2, fun S hS hκ ht => z3 S hS (fun i j e => hκ i j (hj2 i j e)) (fun x hx => ?_)⟩
    rcases List.mem_cons.1 hx with rfl | hx
    · exact hκ _ _ hij
    · exact ht x (List.mem_append.2 (.inr hx))
  have sym : ∀ p, p < N.length → 0 ≤ (pget N p).fn → 0 ≤ (pget N (κ p)).fn := fun p hp h0 => by
    by_cases q : (pget N (κ p)).fn < 0
    · have := hk.top p q; omega
    · omega
  intro p q hp hq e h0 h1
  rcases stepM_cases h with ⟨rfl, _, h2, _⟩ | ⟨rfl, _, h2, _⟩ | ⟨rfl, rfl, h2, h3, h4, h5⟩
  · -- no symbol hangs on the first
    have np : κ p ≠ κ i := fun e2 => by have z := sym p hp h0; rw [e2] at z; omega
    have nq : κ q ≠ κ i := fun e2 => by have z := sym q hq h1; rw [e2] at z; omega
    unfold mrg at e
    rw [if_neg np, if_neg nq] at e
    exact old p q hp hq e h0 h1
  · have np : κ p ≠ κ j := fun e2 => by have z := sym p hp h0; rw [e2] at z; omega
    have nq : κ q ≠ κ j := fun e2 => by have z := sym q hq h1; rw [e2] at z; omega
    unfold mrg at e
    rw [if_neg np, if_neg nq] at e
    exact old p q hp hq e h0 h1
  · have pairs : ∀ S : Nat → Nat → Prop, (∀ x ∈ (if rv = true then ((pget N (κ i)).args.zip (pget N (κ j)).args).reverse else (pget N (κ i)).args.zip (pget N (κ j)).args) ++ r, S x.1 x.2) → ∀ k, k < (pget N (κ i)).args.length → S (aget (pget N (κ i)).args k) (aget (pget N (κ j)).args k) := fun S ht k hk => ht (_, _) (List.mem_append.2 (.inl (rv_mem.2 (mem_zip hk h5))))
    have li := hk.lt i hli
    have lj := hk.lt j hlj
    unfold mrg at e
    by_cases c1 : κ p = κ j
    · rw [if_pos c1] at e
      by_cases c2 : κ q = κ j
      · exact old p q hp hq (by rw [c1, c2]) h0 h1
      · rw [if_neg c2] at e
        obtain ⟨z1, z2, z3⟩ := old p (κ j) hp lj (by rw [c1, hb]) h0 h3
        obtain ⟨y1, y2, y3⟩ := old (κ i) q li hq (by rw [ha, e]) h2 h1
        exact ⟨by omega, by omega, fun S hS hκ ht k hk2 => hS.trans (z3 S hS hκ ht k hk2) (hS.trans (hS.symm (pairs S ht k (by omega))) (y3 S hS hκ ht k (by omega)))⟩
    · rw [if_neg c1] at e
      by_cases c2 : κ q = κ j
      · rw [if_pos c2] at e
        obtain ⟨z1, z2, z3⟩ := old p (κ i) hp li (by rw [e, ha]) h0 h2
        obtain ⟨y1, y2, y3⟩ := old (κ j) q lj hq (by rw [hb, c2]) h3 h1
        exact ⟨by omega, by omega, fun S hS hκ ht k hk2 => hS.trans (z3 S hS hκ ht k hk2) (hS.trans (pairs S ht k (by omega)) (y3 S hS hκ ht k (by omega)))⟩
      · rw [if_neg c2] at e
        exact old p q hp hq e h0 h1
/-- What comes of joining: it is closed, what was the same is so still, the pairs are; and a closed relation of all that has it all. -/
theorem Run.ok {rv : Bool} {N : List Pt} (hN : NOk N) {todo : List (Nat × Nat)} {κ : Nat → Nat} {o : Option (Nat → Nat)} (h : Run rv N todo κ o) : KOk N κ → InR N todo → Inv N κ todo →
    (∀ κ', o = some κ' → KOk N κ' ∧ Inv N κ' [] ∧ (∀ i j, κ i = κ j → κ' i = κ' j) ∧ (∀ p ∈ todo, κ' p.1 = κ' p.2)) ∧
    (∀ S, Cld N S → (∀ i j, κ i = κ j → S i j) → (∀ p ∈ todo, S p.1 p.2) → ∃ κ', o = some κ' ∧ ∀ i j, κ' i = κ' j → S i j) := by
  induction h with
  | nil κ =>
    intro hk _ hI
    exact ⟨fun κ' e => by cases e; exact ⟨hk, hI, fun _ _ e => e, fun p hp => by simp at hp⟩, fun S _ h1 _ => ⟨κ, rfl, h1⟩⟩
  | @same i j r κ o e h ih =>
    intro hk hR hI
    have hI' : Inv N κ r := fun p q hp hq e2 h0 h1 => by
      obtain ⟨z1, z2, z3⟩ := hI p q hp hq e2 h0 h1
      exact ⟨z1, z2, fun S hS hκ ht => z3 S hS hκ (fun x hx => by
        rcases List.mem_cons.1 hx with rfl | hx
        · exact hκ _ _ e
        · exact ht x hx)⟩
    obtain ⟨k1, k2⟩ := ih hk (fun p hp => hR p (List.mem_cons_of_mem _ hp)) hI'
    refine ⟨fun κ' e2 => ?_, fun S hS h1 h2 => k2 S hS h1 (fun p hp => h2 p (List.mem_cons_of_mem _ hp))⟩
    obtain ⟨m1, m2, m3, m4⟩ := k1 κ' e2
    refine ⟨m1, m2, m3, fun p hp => ?_⟩
    rcases List.mem_cons.1 hp with rfl | hp
    · exact m3 _ _ e
    · exact m4 p hp
  | @clash i j r κ hne hs =>
    intro hk hR hI
    refine ⟨fun κ' e => (nomatch e), fun S hS h1 h2 => ?_⟩
    obtain ⟨z1, z2, z3⟩ := stepM_none hs
    have hSij : S (κ i) (κ j) := hS.trans (h1 _ _ (hk.idem i)) (hS.trans (h2 (i, j) (by simp)) (hS.symm (h1 _ _ (hk.idem j))))
    obtain ⟨y1, y2, _⟩ := hS.dec hSij z1 z2
    rcases z3 with z3 | z3
    · exact absurd y1 z3
    · exact absurd y2 z3
  | @step i j r ps κ κ' o hne hs h ih =>
    intro hk hR hI
    have hij := hR (i, j) (by simp)
    have ha := hk.idem i
    have hb := hk.idem j
    have hla := hk.lt i hij.1
    have hlb := hk.lt j hij.2
    obtain ⟨hj1, hj2⟩ := stepM_join ha hb hs
    have hR' : InR N ((if rv = true then ps.reverse else ps) ++ r) := fun p hp => by
      rcases List.mem_append.1 hp with hp | hp
      · exact stepM_inr hN hla hlb hs p (rv_mem.1 hp)
      · exact hR p (List.mem_cons_of_mem _ hp)
    obtain ⟨k1, k2⟩ := ih (stepM_kok hk ha hb hne hla hlb hs) hR' (stepM_inv hk hne hij.1 hij.2 hs hI)
    have hii : κ' i = κ' j := by rw [hj2 i (κ i) ha.symm, hj2 j (κ j) hb.symm]; exact hj1
    refine ⟨fun κ2 e2 => ?_, fun S hS h1 h2 => ?_⟩
    · obtain ⟨m1, m2, m3, m4⟩ := k1 κ2 e2
      refine ⟨m1, m2, fun i j e => m3 _ _ (hj2 _ _ e), fun p hp => ?_⟩
      rcases List.mem_cons.1 hp with rfl | hp
      · exact m3 _ _ hii
      · exact m4 p (List.mem_append.2 (.inr hp))
    · have hSij : S (κ i) (κ j) := hS.trans (h1 _ _ ha) (hS.trans (h2 (i, j) (by simp)) (hS.symm (h1 _ _ hb)))
      refine k2 S hS (fun p q e => ?_) (fun p hp => ?_)
      · rcases stepM_cases hs with ⟨rfl, _⟩ | ⟨rfl, _⟩ | ⟨rfl, _⟩
        · exact mrg_in hS.toEqv h1 hb ha (hS.symm hSij) e
        · exact mrg_in hS.toEqv h1 ha hb hSij e
        · exact mrg_in hS.toEqv h1 ha hb hSij e
      · rcases List.mem_append.1 hp with hp | hp
        · have hp := rv_mem.1 hp
          rcases stepM_cases hs with ⟨_, rfl, _⟩ | ⟨_, rfl, _⟩ | ⟨_, rfl, h3, h4, _, hl⟩
          · simp at hp
          · simp at hp
          · obtain ⟨k, hk, rfl⟩ := zip_mem hp hl
            exact (hS.dec hSij h3 h4).2.2 k hk
        · exact h2 p (List.mem_cons_of_mem _ hp)
/-- What stands for parts, closed. -/
structure KCl (N : List Pt) (κ : Nat → Nat) : Prop where
  ok : KOk N κ
  inv : Inv N κ []
theorem KCl.cld {N : List Pt} {κ : Nat → Nat} (hN : NOk N) (h : KCl N κ) : Cld N (fun i j => κ i = κ j) := by
  refine ⟨⟨fun _ => rfl, fun e => e.symm, fun e f => e.trans f⟩, fun {i j} e h0 h1 => ?_⟩
  by_cases hi : i < N.length
  · by_cases hj : j < N.length
    · obtain ⟨z1, z2, z3⟩ := h.inv i j hi hj e h0 h1
      exact ⟨z1, z2, fun k hk => z3 (fun i j => κ i = κ j) ⟨fun _ => rfl, fun e => e.symm, fun e f => e.trans f⟩ (fun _ _ e => e) (fun p hp => by simp at hp) k hk⟩
    · have z := h.ok.lt i hi
      rw [e, h.ok.big j (by omega)] at z; omega
  · have z := h.ok.big i (by omega)
    by_cases hj : j < N.length
    · have z2 := h.ok.lt j hj
      rw [← e, z] at z2; omega
    · have z2 := h.ok.big j (by omega)
      have : i = j := by omega
      subst this
      exact ⟨rfl, rfl, fun _ _ => rfl⟩
end Go.Proofs.Ytibncmnmjhimeaa

/- How code is walked: what is known of a frame, slot by slot; a region in whatever order its edges allow. -/
namespace Go.Proofs.Ytibncmnmjhimeaa
open Go.RowKit Go
/-- Where code is walked: in a function's own frame, or in a round of a loop over a function. -/
def fen : Option Nat → Fence
 | none => Fence.wide
 | some l => Fence.wide.inRound l
theorem fen_fn (r : Option Nat) (f : FuncId) : (fen r).fn f := by cases r <;> exact trivial
theorem fen_round (r : Option Nat) : (fen r).round = r := by cases r <;> rfl
theorem fen_depth (r : Option Nat) : (fen r).depth = none := by cases r <;> rfl
/-- A frame: its slots, the marks on its deferred calls, the round that it is in. -/
structure Fr where
 n : Nat
 ds : List Deferred
 r : Option Nat
section
variable {P : Program}
theorem comesIn_fen {r : Option Nat} {m m' : Machine} {e : Ending} (h : Comes P m m' e) : ComesIn (Machine.fenced P (fen r)) P m m' e := by
 cases r with
 | none => exact comesIn_wide.2 h
 | some l => exact (comesIn_wide (P := P)).2 h
theorem callsIn_fen {r : Option Nat} {n : Nat} {f : FuncId} {args : Array Value} {w : World} {R : Ending → World → Prop} (h : Calls P f args w R) : CallsIn (fen r) n P f args w R :=
 ⟨fen_fn r f, fun cs _ => let ⟨e, w', fr, q, s, x⟩ := h cs; ⟨e, w', fr, q, comesIn_fen s, x⟩⟩
theorem stepsIn_fen {r : Option Nat} {m m' : Machine} (h : Steps P m m') : StepsIn (Machine.fenced P (fen r)) P m m' := by
 cases r with
 | none => exact stepsIn_wide.2 h
 | some l => exact (stepsIn_wide (P := P)).2 h
theorem uponIn_of {r : Option Nat} {o : Oper} {a : Act} {K : Act → World → Prop} {Q : Exit → Act → World → Prop} {x : Result Next} (h : o.upon P a K Q x) : o.uponIn (fen r) 0 P a K Q x := by
 have hd : (fen r).depth.isSome = true → 1 ≤ 0 := fun e => by rw [fen_depth] at e; cases e
 cases x with
 | ok n w' =>
  cases n with
  | value v => exact h
  | skip => exact h
  | defer d => exact h
  | enter f args => exact ⟨hd, callsIn_fen h⟩
  | row row args => exact ⟨hd, fun c cs _ => let ⟨v, w2, q, s⟩ := h c cs; ⟨v, w2, q, stepsIn_fen s⟩⟩
  | _ => exact h.elim
 | halt y w' => cases y <;> first | exact h | exact h.elim
theorem wpIn_of {r : Option Nat} {o : Oper} {a : Act} {w : World} {K : Act → World → Prop} {Q : Exit → Act → World → Prop} (h : o.wp P a w K Q) (hK : ∀ a' w', K a' w' → a'.defers = a.defers) : o.wpIn (fen r) 0 P a w K Q := by
 refine ⟨fun f _ => fen_fn r f, ?_⟩
 rw [fen_round]
 unfold Oper.wp at h
 by_cases hd : ∃ c, o.op = .defer c
 ·obtain ⟨c, hc⟩ := hd
  cases r with
  | none => exact uponIn_of h
  | some l =>
   unfold Oper.semAt
   unfold execOp at h
   simp only [hc, Sem.run_bind] at h ⊢
   generalize (resolve a.eval c o.type).run P w = x at h ⊢
   cases x with
   | ok d w' =>
    simp only [Result.andThen, Sem.run_pure, Oper.upon] at h
    have := congrArg List.length (hK _ _ h)
    cases ho : o.dst <;> simp [Act.put, ho] at this
   | halt y w' => cases y <;> first | exact h | exact h.elim
 ·rw [Oper.semAt_eq _ _ _ (fun c hc => hd ⟨c, hc⟩)]
  exact uponIn_of h
theorem put_defers (a : Act) (d : Option Nat) (v : Value) : (Act.put a d v).defers = a.defers := by cases d <;> rfl
end
section
variable {P : Program} {ops : Array Oper}
def depB (ops : Array Oper) (o : Oper) (j d : Nat) : Bool := o.after.any (fun e => e.on == j && Region.binds .any e) && ((ops[j]?).bind (·.dst) == some d)
def dstsOf (ops : Array Oper) : List Nat := ops.toList.filterMap (·.dst)
def opsB (ops : Array Oper) (n : Nat) : Bool :=
 (List.range ops.size).all (fun i => match ops[i]? with
  | none => false
  | some o => o.after.all (fun e => Nat.blt e.on i || !Region.binds .any e) &&
   (match o.guard with | none => true | some (g, _) => o.after.any (fun e => e.on == g && Region.binds .any e) && ((ops[g]?).bind (·.dst)).isSome) &&
   (match o.dst with | none => true | some d => Nat.blt d n && (List.range ops.size).all fun j => i == j || !((ops[j]?).bind (·.dst) == some d)))
structure OpOk (ops : Array Oper) (n i : Nat) (o : Oper) : Prop where
 after : ∀ e ∈ o.after, Region.binds .any e = true → e.on < i
 guard : ∀ g b, o.guard = some (g, b) → (∃ e ∈ o.after, e.on = g ∧ Region.binds .any e = true) ∧ ∃ d, (ops[g]?).bind (·.dst) = some d
 lt : ∀ d, o.dst = some d → d < n
 own : ∀ d j, o.dst = some d → j < ops.size → (ops[j]?).bind (·.dst) = some d → i = j
theorem opsB_spec {n : Nat} (h : opsB ops n = true) {i : Nat} {o : Oper} (ho : ops[i]? = some o) : OpOk ops n i o := by
 have hi : i < ops.size := by
  rcases Nat.lt_or_ge i ops.size with h | h
  ·exact h
  ·simp [Array.getElem?_eq_none h] at ho
 have := List.all_eq_true.1 h i (by simpa using hi)
 simp only [ho, Bool.and_eq_true] at this
 obtain ⟨⟨h1, h2⟩, h3⟩ := this
 refine ⟨fun e he hbe => ?_, fun g b hg => ?_, fun d hd => ?_, fun d j hd hj hjd => ?_⟩
 ·have := Array.all_eq_true_iff_forall_mem.1 h1 e he
  simpa [Nat.blt_eq, hbe] using this
 ·rw [hg] at h2
  simp only [Bool.and_eq_true, Array.any_eq_true, Option.isSome_iff_exists, beq_iff_eq] at h2
  obtain ⟨⟨k, hk, h5, h6⟩, h7⟩ := h2
  exact ⟨⟨_, Array.getElem_mem hk, h5, h6⟩, h7⟩
 ·rw [hd] at h3
  simp only [Bool.and_eq_true, Nat.blt_eq] at h3
  exact h3.1
 ·rw [hd] at h3
  simp only [Bool.and_eq_true] at h3
  have := List.all_eq_true.1 h3.2 j (by simpa using hj)
  rw [hjd] at this
  simpa using this
theorem count_set {l : Array Bool} {i : Nat} (hi : i < l.size) (h : l.getD i true = false) {n : Nat} (hc : l.toList.count false ≤ n + 1) : (l.setIfInBounds i true).toList.count false ≤ n := by
 rw [Array.toList_setIfInBounds, List.count_set (by simpa using hi)]
 have : l.toList[i]'(by simpa using hi) = false := by simpa [Array.getD, hi] using h
 rw [this, if_pos (by rfl : (false == false) = true), if_neg (by decide : ¬ (true == false) = true)]
 omega
theorem count_zero {l : Array Bool} (hc : l.toList.count false ≤ 0) (i : Nat) : l.getD i true = true := by
 rcases Nat.lt_or_ge i l.size with h | h
 ·have h0 : l.toList.count false = 0 := by omega
  have := (List.count_eq_zero (a := false)).1 h0
  have hm : l[i] ∈ l.toList := by simp
  simp only [Array.getD, h, dif_pos]
  cases hb : l[i] with
  | true => simpa using hb
  | false => rw [hb] at hm; exact absurd hm this
 ·simp [Array.getD, Nat.not_lt.2 h]
theorem ready_nil {n : Nat} (hB : opsB ops n = true) {listed : Array Bool} (hs : listed.size = ops.size) (h : Region.ready .any ops listed = []) (i : Nat) (hi : i < ops.size) : listed.getD i true = true := by
 induction i using Nat.strongRecOn with
 | _ i ih =>
  cases hc : listed.getD i true with
  | true => rfl
  | false =>
   obtain ⟨o, ho⟩ : ∃ o, ops[i]? = some o := ⟨ops[i], by simp [hi]⟩
   have := mem_ready (md := .any) (ops := ops) (j := i) (listed := listed) |>.2 ⟨hc, o, ho, fun e he hbe => by
    have hl := (opsB_spec hB ho).after e he hbe
    have := ih e.on hl (by omega)
    simpa [Array.getD, show e.on < listed.size by omega] using this⟩
   rw [h] at this
   simp at this
theorem mem_dsts {i : Nat} {o : Oper} {d : Nat} (ho : ops[i]? = some o) (hd : o.dst = some d) : (dstsOf ops).contains d = true := by
 simp only [dstsOf, List.contains_iff_mem, List.mem_filterMap]
 exact ⟨o, by have := Array.mem_of_getElem? ho; simpa using this, hd⟩
/-- Whether the operation is wanted, by what is known of its guard. -/
inductive GuardIs (R : Nat → Value → World → Prop) (o : Oper) : Bool → Prop where
 | none (h : o.guard = none) : GuardIs R o true
 | yes {g : Nat} {c d : Bool} (h : o.guard = some (g, true)) (hv : ∀ v w, R g v w → (d = true → v = .bool c) ∧ (d = false → v = undef)) : GuardIs R o (d && c)
 | no {g : Nat} {c d : Bool} (h : o.guard = some (g, false)) (hv : ∀ v w, R g v w → (d = true → v = .bool c) ∧ (d = false → v = undef)) : GuardIs R o (d && !c)
theorem any_list {q : Option Nat} {n : Nat} (hB : opsB ops n = true) {Q : Exit → Act → World → Prop} : ∀ (l : List Oper) (k fuel : Nat) (listed : Array Bool) (a : Act) (w : World), (∀ j, l[j]? = ops[k + j]?) → listed.size = ops.size → (∀ j, j < ops.size → (listed.getD j true = true ↔ j < k)) → l.length ≤ fuel →
  wpAnyIn (fen q) 0 P .any ops Q fuel listed a w → wpListIn (fen q) 0 P ops Q l a w
 | [], k, fuel, listed, a, w, hl, hs, hk, _, h => by
  have hge : ops.size ≤ k := by
   have := hl 0
   simp only [List.getElem?_nil, Nat.add_zero] at this
   rcases Nat.lt_or_ge k ops.size with h | h
   ·simp [h] at this
   ·exact h
  have hr : Region.ready .any ops listed = [] := by
   cases hr : Region.ready .any ops listed with
   | nil => rfl
   | cons i r =>
    obtain ⟨h1, o, ho, _⟩ := (mem_ready (md := .any) (ops := ops) (j := i) (listed := listed)).1 (by rw [hr]; simp)
    have hi : i < ops.size := by
     rcases Nat.lt_or_ge i ops.size with h | h
     ·exact h
     ·simp [Array.getElem?_eq_none h] at ho
    rw [(hk i hi).2 (by omega)] at h1
    cases h1
  cases fuel with
  | zero => exact h.2
  | succ fuel => exact h.1 hr
 | o :: r, k, fuel, listed, a, w, hl, hs, hk, hf, h => by
  have ho : ops[k]? = some o := by simpa using (hl 0).symm
  have hkl : k < ops.size := by
   rcases Nat.lt_or_ge k ops.size with h | h
   ·exact h
   ·simp [Array.getElem?_eq_none h] at ho
  cases fuel with
  | zero => simp at hf
  | succ fuel =>
   have hready : k ∈ Region.ready .any ops listed := mem_ready.2 ⟨by
    cases hc : listed.getD k true with
    | false => rfl
    | true => exact absurd ((hk k hkl).1 hc) (by omega), o, ho, fun e he hbe => by
     have := (opsB_spec hB ho).after e he hbe
     have h2 := (hk e.on (by omega)).2 this
     simpa [Array.getD, show e.on < listed.size by omega] using h2⟩
   have h2 := h.2 k hready
   unfold wpOpIn at h2
   simp only [ho] at h2
   have ih := fun a w => any_list (q := q) hB (Q := Q) r (k + 1) fuel (listed.setIfInBounds k true) a w (fun j => by have := hl (j + 1); simpa [Nat.add_assoc, Nat.add_comm 1 j] using this) (by simpa using hs) (fun j hj => by
    by_cases hjk : j = k
    ·subst hjk; simp [Array.getD, hs, hj]
    ·rw [getD_set_ne true (Ne.symm hjk), hk j hj]; omega) (by simpa using hf)
   rw [wpListIn]
   split
   ·rename_i hw
    rw [if_pos hw] at h2
    exact Oper.wpIn_mono (fun a w h => ih a w h) h2
   ·rename_i hw
    rw [if_neg hw] at h2
    exact ⟨fun f _ => fen_fn q f, ih _ _ h2.2⟩
theorem any_start {q : Option Nat} {n : Nat} (hB : opsB ops n = true) {Q : Exit → Act → World → Prop} {id : Nat} {a : Act} {w : World} (h : wpAnyIn (fen q) 0 P .any ops Q ops.size (Array.replicate ops.size false) a w) : (Code.region id ops false).wpIn (fen q) 0 P Q a w :=
 wpIn_region_list (any_list hB ops.toList 0 ops.size _ a w (by simp) (by simp) (fun j hj => by simp [Array.getD, hj]) (by simp) h)
def afterB (ops : Array Oper) (c i : Nat) : Bool := match ops[c]? with | some o => o.after.any (fun e => e.on == i && Region.binds .any e) | none => false
/-- What must have come ahead of the operation 'c'. -/
def ancL (ops : Array Oper) (c : Nat) : List Nat := (List.range c).reverse.foldl (fun acc j => bif acc.any (fun m => afterB ops m j) then j :: acc else acc) [c]
theorem anc_listed {ops : Array Oper} {listed : Array Bool} (closed : ∀ i o, ops[i]? = some o → listed.getD i false = true → ∀ e ∈ o.after, Region.binds .any e = true → listed.getD e.on false = true) {c : Nat} (hc : listed.getD c false = true) : ∀ m ∈ ancL ops c, listed.getD m false = true := by
 have key : ∀ (js acc : List Nat), (∀ m ∈ acc, listed.getD m false = true) → ∀ m ∈ js.foldl (fun acc j => bif acc.any (fun m => afterB ops m j) then j :: acc else acc) acc, listed.getD m false = true := by
  intro js
  induction js with
  | nil => exact fun acc h => h
  | cons j r ih =>
   intro acc h
   refine ih _ ?_
   show ∀ m ∈ (bif acc.any (fun m => afterB ops m j) then j :: acc else acc), listed.getD m false = true
   cases hb : acc.any (fun m => afterB ops m j) with
   | false => exact h
   | true =>
    intro m hm
    rw [cond_true] at hm
    rcases List.mem_cons.1 hm with rfl | hm
    ·obtain ⟨k, hk, ha⟩ := List.any_eq_true.1 hb
     unfold afterB at ha
     split at ha
     ·rename_i o ho
      simp only [Array.any_eq_true, Bool.and_eq_true, beq_iff_eq] at ha
      obtain ⟨q, hq, h1, h2⟩ := ha
      have := closed k o ho (h k hk) _ (Array.getElem_mem hq) h2
      rwa [h1] at this
     ·cases ha
    ·exact h m hm
 exact key _ _ (by intro m hm; rw [List.mem_singleton.1 hm]; exact hc)
theorem getD_false_of {l : Array Bool} {i : Nat} (h : l.getD i true = false) : l.getD i false = false := by
 by_cases hi : i < l.size
 ·simpa [Array.getD, hi] using h
 ·simp [Array.getD, hi]
theorem getD_set_eq {l : Array Bool} {i : Nat} (h : i < l.size) : (l.setIfInBounds i true).getD i false = true := by simp [Array.getD, h]
end
inductive Sp where
 | val (x : Value)
 | mem (p : Value → World → Prop) (h : ∀ v w w', Below w.heap.size w w' → p v w → p v w')
def Sp.holds : Sp → Value → World → Prop
 | .val x, v, _ => v = x
 | .mem p _, v, w => p v w
def optR (l : List (Bool × Sp)) (i : Nat) (v : Value) (w : World) : Prop := ((l.getD i (true, .val undef)).1 = true → (l.getD i (true, .val undef)).2.holds v w) ∧ ((l.getD i (true, .val undef)).1 = false → v = undef)
theorem optKeep (l : List (Bool × Sp)) (i : Nat) (v : Value) (w w' : World) (h : optR l i v w) (hb : Below w.heap.size w w') : optR l i v w' := by
 refine ⟨fun e => ?_, h.2⟩
 have := h.1 e
 generalize (l.getD i (true, .val undef)).2 = s at *
 cases s with
 | val x => exact this
 | mem p hp => exact hp _ _ _ hb this
theorem optVal {l : List (Bool × Sp)} {i : Nat} {v x : Value} {w : World} {β : Bool} (h : optR l i v w) (e : l.getD i (true, .val undef) = (β, .val x)) (hβ : β = true) : v = x := by
 have := h.1 (by rw [e]; exact hβ)
 rw [e] at this
 exact this
theorem optMem {l : List (Bool × Sp)} {i : Nat} {v : Value} {w : World} {β : Bool} {p : Value → World → Prop} {hp : ∀ v w w', Below w.heap.size w w' → p v w → p v w'} (h : optR l i v w) (e : l.getD i (true, .val undef) = (β, .mem p hp)) (hβ : β = true) : p v w := by
 have := h.1 (by rw [e]; exact hβ)
 rw [e] at this
 exact this
theorem hv1 {g : Operand → Value} {x : Operand} {u : Value} (h1 : g x = u) : #[x].map g = #[u] := by simp [h1]
theorem optUndef {A : Prop} {β : Bool} (h : β = false) : (β = true → A) ∧ (β = false → undef = undef) := ⟨fun e => (by rw [h] at e; cases e), fun _ => rfl⟩
theorem optDef {A B : Prop} {β : Bool} (hβ : β = true) (h : A) : (β = true → A) ∧ (β = false → B) := ⟨fun _ => h, fun e => (by rw [hβ] at e; cases e)⟩
theorem bMk {a b : Bool} (h : a = true) (h' : b = true) : (a && b) = true := by simp [h, h']
theorem bMkN {a b : Bool} (h : a = true) (h' : b = false) : (a && !b) = true := by simp [h, h']
section
variable {w : World} {a : Act} {K : Act → World → Prop} {Q : Exit → Act → World → Prop} {o : Oper}
def callB (P : Program) (F : FuncId) : Bool := match P.funcs[F]? with | some fn => !(fn.name == "runtime.NumGoroutine") && !fn.body.isNone | none => false
theorem wp_call {P : Program} {F : FuncId} {xs : Array Operand} {tys : Array TypeId} {vs : Array Value} {R : Value → World → Prop} (hF : callB P F = true) (ho : o.op = .call { callee := .value (.func F), args := xs, argTypes := tys }) (hv : xs.map a.eval = vs)
  (h : Calls P F vs w fun e w' => ∃ v, e = .returned v ∧ R v w') (hK : ∀ v w', R v w' → K (a.put o.dst v) w') : o.wp P a w K Q := by
 unfold callB at hF
 split at hF
 ·rename_i fn hfn
  simp only [Bool.and_eq_true, Bool.not_eq_true'] at hF
  have hp : (Sem.run P program w) = .ok P w := rfl
  unfold Oper.wp execOp
  simp only [ho, resolve, hv, Act.eval, Deferred.ofValue, invoke, callFunc, Sem.run_bind, Sem.run_pure, Result.andThen_ok, Array.empty_append, Array.append_empty, hp, hfn, hF.1, hF.2, Bool.false_eq_true, if_false]
  refine h.mono ?_
  rintro e w' ⟨v, rfl, hR⟩
  exact hK v w' hR
 ·simp at hF
theorem wp_move {P : Program} {x : Operand} {v : Value} (ho : o.op = .move x) (hx : a.eval x = v) (hK : K (a.put o.dst v) w) : o.wp P a w K Q := by
 unfold Oper.wp execOp
 simp only [ho, hx]
 exact hK
theorem wp_assign {P : Program} {x : Operand} {v : Value} (ho : o.op = .assign x) (hx : a.eval x = v) (hK : K (a.put o.dst v) w) : o.wp P a w K Q := by
 unfold Oper.wp execOp
 simp only [ho, hx]
 exact hK
theorem hv0 {g : Operand → Value} : #[].map g = #[] := by simp
theorem hv2 {g : Operand → Value} {x y : Operand} {u v : Value} (h1 : g x = u) (h2 : g y = v) : #[x, y].map g = #[u, v] := by simp [h1, h2]
theorem hv3 {g : Operand → Value} {x y z : Operand} {u v r : Value} (h1 : g x = u) (h2 : g y = v) (h3 : g z = r) : #[x, y, z].map g = #[u, v, r] := by simp [h1, h2, h3]
theorem wp_not {x : Operand} {b : Bool} {ty : TypeId} (ho : o.op = .unOp .not ty x) (hx : a.eval x = .bool b) (hK : K (a.put o.dst (.bool (!b))) w) : o.wp Try.prog a w K Q := by
 unfold Oper.wp execOp
 simp only [ho, hx]
 go_simp
 exact hK
theorem wp_or {x z : Operand} {p q : Bool} (ho : o.op = .pick x (.const (.bool true)) z) (hx : a.eval x = .bool p) (hz : p = false → a.eval z = .bool q) (hK : K (a.put o.dst (.bool (p || q))) w) : o.wp Try.prog a w K Q := by
 have hc : a.eval (.const (.bool true)) = .bool true := rfl
 unfold Oper.wp execOp
 cases p with
 | true => simp only [ho, hx, hc]; exact hK
 | false => simp only [ho, hx, hz rfl]; exact hK
theorem wp_and {x z : Operand} {p q : Bool} (ho : o.op = .pick x z (.const (.bool false))) (hx : a.eval x = .bool p) (hz : p = true → a.eval z = .bool q) (hK : K (a.put o.dst (.bool (p && q))) w) : o.wp Try.prog a w K Q := by
 have hc : a.eval (.const (.bool false)) = .bool false := rfl
 unfold Oper.wp execOp
 cases p with
 | true => simp only [ho, hx, hz rfl]; exact hK
 | false => simp only [ho, hx, hc]; exact hK
end
abbrev Known := List (Nat × Value)
def look : Known → Nat → Option Value
 | [], _ => none
 | (k, v) :: r, d => bif Nat.beq k d then some v else look r d
/-- The frame has 'n' slots, defers nothing, and holds what is known. -/
structure Kn (n : Fr) (K : Known) (a : Act) : Prop where
 size : a.tmps.size = n.n
 defers : a.defers = n.ds
 knows : ∀ d v, look K d = some v → a.tmps.getD d undef = v
def ev (K : Known) : Operand → Option Value
 | .tmp t => look K t
 | .const v => some v
 | .global g => some (.pointer (some ⟨g, 0, none⟩))
 | .func f => some (.func (.func f) #[] #[])
def subK : Known → Known → Prop
 | [], _ => True
 | (d, v) :: r, K => look K d = some v ∧ subK r K
theorem subK_look {K : Known} : ∀ {K' : Known}, subK K' K → ∀ d v, look K' d = some v → look K d = some v
 | [], _, _, _, h => by simp [look] at h
 | (k, x) :: r, hs, d, v, h => by
  unfold look at h
  cases hb : Nat.beq k d with
  | true =>
   rw [hb] at h
   obtain rfl := Nat.eq_of_beq_eq_true hb
   rw [← h]
   exact hs.1
  | false =>
   rw [hb] at h
   exact subK_look hs.2 d v h
section
variable {P : Program} {n : Fr} {K K' : Known} {a : Act} {w : World}
theorem Kn.ev (h : Kn n K a) {x : Operand} {v : Value} (e : ev K x = some v) : a.eval x = v := by
 cases x with
 | tmp t => exact h.knows t v e
 | const c => exact Option.some.inj e
 | global g => exact Option.some.inj e
 | func f => exact Option.some.inj e
theorem Kn.sub (h : Kn n K a) (hs : subK K' K) : Kn n K' a := ⟨h.size, h.defers, fun d v e => h.knows d v (subK_look hs d v e)⟩
theorem Kn.put (h : Kn n K a) {d : Nat} (hd : Nat.blt d n.n = true) (v : Value) : Kn n ((d, v) :: K) (a.put (some d) v) := by
 have hlt : d < a.tmps.size := by rw [h.size]; simpa [Nat.blt_eq] using hd
 refine ⟨by simpa [Act.put] using h.size, h.defers, fun k x e => ?_⟩
 unfold look at e
 cases hb : Nat.beq d k with
 | true =>
  rw [hb] at e
  obtain rfl := Nat.eq_of_beq_eq_true hb
  simp only [cond_true, Option.some.injEq] at e
  simp [Act.put, hlt, e]
 | false =>
  rw [hb] at e
  have hne : d ≠ k := by rintro rfl; rw [Nat.beq_refl] at hb; cases hb
  have := h.knows k x e
  simp only [Act.put, Array.getD_eq_getD_getElem?, Array.getElem?_setIfInBounds, hne, if_false] at this ⊢
  exact this
theorem Kn.cons (h : Kn n K a) {d : Nat} {v : Value} (e : a.tmps.getD d undef = v) : Kn n ((d, v) :: K) a := by
 refine ⟨h.size, h.defers, fun k x hk => ?_⟩
 unfold look at hk
 cases hb : Nat.beq d k with
 | true =>
  rw [hb] at hk
  obtain rfl := Nat.eq_of_beq_eq_true hb
  simp only [cond_true, Option.some.injEq] at hk
  rw [e, hk]
 | false =>
  rw [hb] at hk
  exact h.knows k x hk
def putK (K : Known) : Option Nat → Value → Known
 | some d, v => (d, v) :: K
 | none, _ => K
def dstB (n : Nat) : Option Nat → Bool
 | some d => Nat.blt d n
 | none => true
theorem Kn.puts (h : Kn n K a) {d : Option Nat} (hd : dstB n.n d = true) (v : Value) : Kn n (putK K d v) (a.put d v) := by
 cases d with
 | none => exact h
 | some d => exact h.put hd v
/-- From whatever frame of which that much is known the code comes to 'Q'. -/
def WC (P : Program) (n : Fr) (K : Known) (w : World) (c : Code) (Q : Exit → Act → World → Prop) : Prop := ∀ a, Kn n K a → c.wpIn (fen n.r) 0 P Q a w
def WE (n : Fr) (K : Known) (w : World) (Q : Exit → Act → World → Prop) (e : Exit) : Prop := ∀ a, Kn n K a → Q e a w
def WL (P : Program) (ops : Array Oper) (n : Fr) (K : Known) (w : World) (l : List Oper) (Q : Exit → Act → World → Prop) : Prop := ∀ a, Kn n K a → wpListIn (fen n.r) 0 P ops Q l a w
variable {Q : Exit → Act → World → Prop} {c x y : Code} {ops : Array Oper} {o : Oper} {rest : List Oper}
theorem WC.sub (hs : subK K' K) (h : WC P n K' w c Q) : WC P n K w c Q := fun a ha => h a (ha.sub hs)
theorem WE.sub {e : Exit} (hs : subK K' K) (h : WE n K' w Q e) : WE n K w Q e := fun a ha => h a (ha.sub hs)
theorem WC.seq (h : WC P n K w x (Exit.then (fun a w => y.wpIn (fen n.r) 0 P Q a w) Q)) : WC P n K w (.seq x y) Q := fun a ha => wpIn_seq (h a ha)
theorem WC.skip (h : WE n K w Q .normal) : WC P n K w .skip Q := fun a ha => wpIn_skip (h a ha)
theorem WC.ret (h : WE n K w Q .ret) : WC P n K w .ret Q := fun a ha => wpIn_ret (h a ha)
theorem WC.exit {id : Nat} (h : WE n K w Q (.exit id)) : WC P n K w (.exit id) Q := fun a ha => wpIn_exit (h a ha)
theorem WC.block {id : Nat} (h : WC P n K w c (Exit.inBlock id Q)) : WC P n K w (.block id c) Q := fun a ha => wpIn_block (h a ha)
theorem WC.cond {t : Operand} {b : Bool} (e : ev K t = some (.bool b)) (ht : b = true → WC P n K w x Q) (hf : b = false → WC P n K w y Q) : WC P n K w (.cond t x y) Q :=
 fun a ha => wpIn_cond_split (ha.ev e) (fun h => ht h a ha) (fun h => hf h a ha)
theorem WC.condT {t : Operand} {b : Bool} (e : ev K t = some (.bool b)) (hb : b = true) (ht : WC P n K w x Q) : WC P n K w (.cond t x y) Q :=
 WC.cond e (fun _ => ht) (fun h => by rw [hb] at h; cases h)
theorem WC.condF {t : Operand} {b : Bool} (e : ev K t = some (.bool b)) (hb : b = false) (hf : WC P n K w y Q) : WC P n K w (.cond t x y) Q :=
 WC.cond e (fun h => by rw [hb] at h; cases h) (fun _ => hf)
theorem WE.next {Q' : Exit → Act → World → Prop} (h : WC P n K w y Q) : WE n K w (Exit.then (fun a w => y.wpIn (fen n.r) 0 P Q a w) Q') .normal := h
theorem WE.thenRet {N : Act → World → Prop} (h : WE n K w Q .ret) : WE n K w (Exit.then N Q) .ret := h
theorem WE.thenExit {N : Act → World → Prop} {id : Nat} (h : WE n K w Q (.exit id)) : WE n K w (Exit.then N Q) (.exit id) := h
theorem WE.blockNormal {id : Nat} (h : WE n K w Q .normal) : WE n K w (Exit.inBlock id Q) .normal := h
theorem WE.blockRet {id : Nat} (h : WE n K w Q .ret) : WE n K w (Exit.inBlock id Q) .ret := h
theorem WE.blockIs {id id' : Nat} (e : Nat.beq id' id = true) (h : WE n K w Q .normal) : WE n K w (Exit.inBlock id Q) (.exit id') := fun a ha => by
 show (if id' = id then Q .normal a w else Q (.exit id') a w)
 rw [if_pos (Nat.eq_of_beq_eq_true e)]; exact h a ha
theorem wp_loop_ghost {q : Option Nat} {X : Type} (I : X → Act → World → Prop) (μ : X → Nat) {x0 : X} {a : Act} (h0 : I x0 a w)
  (round : ∀ x a w, I x a w → c.wpIn (fen q) 0 P (Exit.then (fun a' w' => ∃ x', I x' a' w' ∧ μ x' < μ x) Q) a w) : (Code.loop c).wpIn (fen q) 0 P Q a w := by
 intro b k cs hro hb hr
 have key : ∀ m x a w, μ x = m → I x a w →
   ∃ e a' w', Q e a' w' ∧ ArrivesIn (Machine.fenced P (fen q)) P (lone (b.atR a (.code c :: .inLoop c :: k)) cs w) b k cs e a' w' := by
  intro m
  induction m using Nat.strongRecOn with
  | _ m ih =>
   intro x a w hn hI
   obtain ⟨e, a₁, w₁, hq, harr⟩ := round x a w hI b (.inLoop c :: k) cs hro hb hr
   cases e with
   | normal =>
    obtain ⟨x', hI₁, hlt⟩ := hq
    obtain ⟨e₂, a₂, w₂, hq₂, harr₂⟩ := ih (μ x') (hn ▸ hlt) x' a₁ w₁ rfl hI₁
    exact ⟨e₂, a₂, w₂, hq₂, .of_steps (StepsIn.trans harr (.one (fenced_calm hb hr rfl) stepR_inLoop)) harr₂⟩
   | exit id => exact ⟨_, a₁, w₁, hq, .pass (x := .inLoop c) rfl (fun _ _ => .inl (by simp)) harr⟩
   | goto l => exact ⟨_, a₁, w₁, hq, .pass (x := .inLoop c) rfl (fun _ _ => .inl (by simp)) harr⟩
   | ret => exact ⟨_, a₁, w₁, hq, .pass (x := .inLoop c) rfl (fun _ _ => .inl (by simp)) harr⟩
   | panic ch => exact ⟨_, a₁, w₁, hq, .pass (x := .inLoop c) rfl (fun _ _ => .inl (by simp)) harr⟩
   | outgrown => exact ⟨_, a₁, w₁, hq, .pass (x := .inLoop c) rfl (fun _ _ => .inl (by simp)) harr⟩
 obtain ⟨e, a', w', hq, harr⟩ := key _ x0 a w rfl h0
 exact ⟨e, a', w', hq, .of_steps (.one (fenced_calm hb hr rfl) stepR_loop) harr⟩
/-- A loop: a ghost 'x' tells the frame (KI x), of the memory holds (J x), each round lowers the measure. -/
theorem WC.loop {X : Type} (μ : X → Nat) (KI : X → Known) (J : X → World → Prop) (x0 : X) (hs : subK (KI x0) K) (h0 : J x0 w)
  (round : ∀ x w, J x w → WC P n (KI x) w c (Exit.then (fun a' w' => ∃ x', (Kn n (KI x') a' ∧ J x' w') ∧ μ x' < μ x) Q)) : WC P n K w (.loop c) Q :=
 fun _ ha => wp_loop_ghost (fun x a w => Kn n (KI x) a ∧ J x w) μ (x0 := x0) ⟨ha.sub hs, h0⟩ (fun x a w h => round x w h.2 a h.1)
theorem WE.round {X : Type} {μ : X → Nat} {KI : X → Known} {J : X → World → Prop} {x : X} (x' : X) (hs : subK (KI x') K) (hJ : J x' w) (hm : μ x' < μ x) :
  WE n K w (Exit.then (fun a' w' => ∃ x', (Kn n (KI x') a' ∧ J x' w') ∧ μ x' < μ x) Q) .normal := fun _ ha => ⟨x', ⟨ha.sub hs, hJ⟩, hm⟩
/-! ### A region in the order of the text -/
theorem WC.region {id : Nat} {l : List Oper} (h : WL P l.toArray n K w l Q) : WC P n K w (.region id l.toArray false) Q := fun a ha => wpIn_region_lit (h a ha)
theorem evt (a : Act) (d : Nat) : a.eval (.tmp d) = a.tmps.getD d undef := rfl
theorem WE.go {e : Exit} (ha : Kn n K a) (h : WE n K w Q e) : Q e a w := h a ha
theorem WL.setb {d : Nat} {e b : Bool} (hl : look K d = some (.bool e)) (he : e = b) (h : WL P ops n ((d, .bool b) :: K) w rest Q) : WL P ops n K w rest Q := fun a ha => h a (ha.cons (by rw [ha.knows d _ hl, he]))
theorem WL.nil (h : WE n K w Q .normal) : WL P ops n K w [] Q := h
theorem WL.stepIn {d : Option Nat} {post : Value → World → Prop} (hd : o.dst = d) (hlt : dstB n.n d = true) (hg : o.guard = none)
  (h : ∀ a, Kn n K a → o.wpIn (fen n.r) 0 P a w (fun a' w' => ∃ v, a' = a.put o.dst v ∧ post v w') Q)
  (k : ∀ v w', post v w' → WL P ops n (putK K d v) w' rest Q) : WL P ops n K w (o :: rest) Q := fun a ha =>
 wpListIn_plain hg (fun _ hC => Oper.wpIn_mono (by rintro a' w' ⟨v, rfl, hp⟩; exact hC _ _ (by rw [hd]; exact k v w' hp _ (ha.puts hlt v))) (h a ha))
theorem WL.step {d : Option Nat} {post : Value → World → Prop} (hd : o.dst = d) (hlt : dstB n.n d = true) (hg : o.guard = none)
  (h : ∀ a C, Kn n K a → (∀ v w', post v w' → C (a.put o.dst v) w') → o.wp P a w C Q)
  (k : ∀ v w', post v w' → WL P ops n (putK K d v) w' rest Q) : WL P ops n K w (o :: rest) Q :=
 WL.stepIn hd hlt hg (fun a ha => wpIn_of (h a _ ha (fun v _ hp => ⟨v, rfl, hp⟩)) (by rintro a' w' ⟨v, rfl, _⟩; exact put_defers _ _ _)) k
/-- .. one that yields 'v' and leaves the memory alone. -/
theorem WL.val {d : Nat} (v : Value) (hd : o.dst = some d) (hlt : Nat.blt d n.n = true) (hg : o.guard = none)
  (h : ∀ a C, Kn n K a → C (a.put o.dst v) w → o.wp P a w C Q) (k : WL P ops n ((d, v) :: K) w rest Q) : WL P ops n K w (o :: rest) Q :=
 WL.step (d := some d) (post := fun v' w' => v' = v ∧ w' = w) hd hlt hg (fun a C ha hC => h a C ha (hC _ _ ⟨rfl, rfl⟩)) (by rintro _ _ ⟨rfl, rfl⟩; exact k)
theorem WL.mv {d : Nat} {x : Operand} {v : Value} (hd : o.dst = some d) (hlt : Nat.blt d n.n = true) (hg : o.guard = none) (ho : o.op = .move x) (hv : ev K x = some v) (k : WL P ops n ((d, v) :: K) w rest Q) : WL P ops n K w (o :: rest) Q :=
 WL.val v hd hlt hg (fun _ _ ha hC => wp_move ho (ha.ev hv) hC) k
theorem WL.asg {d : Nat} {x : Operand} {v : Value} (hd : o.dst = some d) (hlt : Nat.blt d n.n = true) (hg : o.guard = none) (ho : o.op = .assign x) (hv : ev K x = some v) (k : WL P ops n ((d, v) :: K) w rest Q) : WL P ops n K w (o :: rest) Q :=
 WL.val v hd hlt hg (fun _ _ ha hC => wp_assign ho (ha.ev hv) hC) k
def paramsK : Nat → List Value → Known
 | _, [] => []
 | k, v :: r => (k, v) :: paramsK (k + 1) r
theorem look_params : ∀ (l : List Value) (k d : Nat) (v : Value), look (paramsK k l) d = some v → k ≤ d ∧ l[d - k]? = some v
 | [], _, _, _, h => by simp [paramsK, look] at h
 | x :: r, k, d, v, h => by
  unfold paramsK look at h
  cases hb : Nat.beq k d with
  | true =>
   rw [hb] at h
   obtain rfl := Nat.eq_of_beq_eq_true hb
   simp only [cond_true, Option.some.injEq] at h
   simp [h]
  | false =>
   rw [hb] at h
   obtain ⟨h1, h2⟩ := look_params r (k + 1) d v h
   refine ⟨by omega, ?_⟩
   rw [show d - k = (d - (k + 1)) + 1 by omega, List.getElem?_cons_succ, h2]
theorem Kn.enter {l : List Value} {n : Nat} (hl : l.length ≤ n) : Kn ⟨n, [], none⟩ (paramsK 0 l) { tmps := l.toArray ++ Array.replicate (n - l.toArray.size) undef, defers := [] } := by
 refine ⟨by simp; omega, rfl, fun d v h => ?_⟩
 obtain ⟨_, h2⟩ := look_params l 0 d v h
 have hd : d < l.length := (List.getElem?_eq_some_iff.1 h2).1
 have : l[d] = v := by simpa [hd] using h2
 simp [Array.getD_eq_getD_getElem?, Array.getElem?_append, hd, this]
abbrev bodyPostW (P : Program) (fn : Func) (R : Ending → World → Prop) := bodyPostM Fence.wide 0 P fn R
theorem Calls.walk {f : FuncId} {fn : Func} {c : Code} {l : List Value} {R : Ending → World → Prop} (hf : P.funcs[f]? = some fn) (hb : fn.body = some c) (hl : Nat.ble l.length fn.ntmps = true)
  (h : WC P ⟨fn.ntmps, [], none⟩ (paramsK 0 l) w c (bodyPostW P fn R)) : Calls P f l.toArray w R :=
 callsIn_wide.1 (callsIn_of_wp_marks (n := 0) hf hb trivial (h _ (Kn.enter (Nat.le_of_ble_eq_true hl))))
variable {fn : Func} {R : Ending → World → Prop}
variable {N : Nat} {r : Option Nat} {ds : List Deferred} {w' : World}
theorem WE.ret1 {t : Tmp} {v : Value} (hr : fn.results = #[.tmp t]) (hv : look K t = some v) (hR : R (.returned v) w) : WE ⟨N, [], r⟩ K w (bodyPostW P fn R) .ret := fun a ha => by
 show LeavesInM _ _ _ _ _ _ a.defers _ _
 rw [ha.defers]; exact ⟨_, results_tmp hr a.tmps P w, by rw [ha.knows t v hv]; exact hR⟩
theorem WE.ret2 {t u : Tmp} {v x : Value} (hr : fn.results = #[.tmp t, .tmp u]) (hv : look K t = some v) (hx : look K u = some x) (hR : R (.returned (.tuple #[v, x])) w) : WE ⟨N, [], r⟩ K w (bodyPostW P fn R) .ret := fun a ha => by
 show LeavesInM _ _ _ _ _ _ a.defers _ _
 rw [ha.defers]; exact ⟨_, results_tmp2 hr a.tmps P w, by rw [ha.knows t v hv, ha.knows u x hx]; exact hR⟩
/-- Results that lie in memory: what is read is said for whatever frame. -/
theorem WE.retAny {v : Value} (hr : ∀ a, Kn ⟨N, [], r⟩ K a → (results fn a.tmps).run P w = .ok v w) (hR : R (.returned v) w) : WE ⟨N, [], r⟩ K w (bodyPostW P fn R) .ret := fun a ha => by
 show LeavesInM _ _ _ _ _ _ a.defers _ _
 rw [ha.defers]; exact ⟨v, hr a ha, hR⟩
end
section
variable {P : Program} {ops : Array Oper}
structure CtxG (ops : Array Oper) (chain : List Nat) (R : Nat → Value → World → Prop) (G : List (Option Value) → World → Prop) (n : Fr) (K : Known) (i : Nat) (o : Oper) (a : Act) (w : World) (vs : List (Option Value)) : Prop where
 now : G vs w
 kn : Kn n K a
 dep : ∀ j d, depB ops o j d = true → chain.contains j = false → R j (a.tmps.getD d undef) w
 len : vs.length = chain.length
 link : ∀ (p c d : Nat), chain[p]? = some c → depB ops o c d = true → vs[p]? = some (some (a.tmps.getD d undef))
 done : ∀ (p c : Nat), chain[p]? = some c → o.after.any (fun e => e.on == c && Region.binds .any e) = true → ∃ v, vs[p]? = some (some v)
 most : ∀ (p c : Nat), chain[p]? = some c → afterB ops c i = true → vs[p]? = some none
 mostT : ∀ (p c : Nat), chain[p]? = some c → (ancL ops c).contains i = true → vs[p]? = some none
def SoundG (P : Program) (ops : Array Oper) (Q : Exit → Act → World → Prop) (chain : List Nat) (R : Nat → Value → World → Prop) (Le : World → World → Prop) (G : List (Option Value) → World → Prop) (n : Fr) (K : Known) (i : Nat) (o : Oper) : Prop :=
 (chain.contains i = false ∧ ∃ β, GuardIs R o β ∧ (∀ g b, o.guard = some (g, b) → chain.contains g = false) ∧ (β = false → ∀ w, R i undef w) ∧
  (β = true → ∀ (a : Act) (w : World) (vs : List (Option Value)), CtxG ops chain R G n K i o a w vs →
   o.wpIn (fen n.r) 0 P a w (fun a' w' => ∃ v, a' = Act.put a o.dst v ∧ Le w w' ∧ G vs w' ∧ R i v w') Q)) ∨
 (∃ p, chain[p]? = some i ∧ o.guard = none ∧ ∀ (a : Act) (w : World) (vs : List (Option Value)), CtxG ops chain R G n K i o a w vs → vs[p]? = some none →
   o.wpIn (fen n.r) 0 P a w (fun a' w' => ∃ v, a' = Act.put a o.dst v ∧ Le w w' ∧ G (vs.set p (some v)) w') Q)
def SoundFromG (P : Program) (ops : Array Oper) (Q : Exit → Act → World → Prop) (chain : List Nat) (R : Nat → Value → World → Prop) (Le : World → World → Prop) (G : List (Option Value) → World → Prop) (n : Fr) (K : Known) : Nat → List Oper → Prop
 | _, [] => True
 | k, o :: r => SoundG P ops Q chain R Le G n K k o ∧ SoundFromG P ops Q chain R Le G n K (k + 1) r
theorem SoundFromG.at_ {Q : Exit → Act → World → Prop} {chain : List Nat} {R : Nat → Value → World → Prop} {Le : World → World → Prop} {G : List (Option Value) → World → Prop} {n : Fr} {K : Known} : ∀ {l : List Oper} {k : Nat}, SoundFromG P ops Q chain R Le G n K k l → ∀ i o, l[i]? = some o → SoundG P ops Q chain R Le G n K (k + i) o
 | [], _, _, i, o, h => by simp at h
 | x :: r, k, h, 0, o, ho => by simp at ho; subst ho; exact h.1
 | x :: r, k, h, i + 1, o, ho => by
  have := h.2.at_ i o (by simpa using ho)
  rwa [show k + 1 + i = k + (i + 1) by omega] at this
structure AtG (ops : Array Oper) (chain : List Nat) (R : Nat → Value → World → Prop) (G : List (Option Value) → World → Prop) (n : Fr) (K : Known) (listed : Array Bool) (a : Act) (vs : List (Option Value)) (w : World) : Prop where
 size : listed.size = ops.size
 kn : Kn n K a
 plain : ∀ i d, chain.contains i = false → listed.getD i false = true → (ops[i]?).bind (·.dst) = some d → R i (a.tmps.getD d undef) w
 link : ∀ p c : Nat, chain[p]? = some c → (listed.getD c false = true ↔ ∃ v, vs[p]? = some (some v))
 vals : ∀ (p c d : Nat), chain[p]? = some c → listed.getD c false = true → (ops[c]?).bind (·.dst) = some d → vs[p]? = some (some (a.tmps.getD d undef))
 len : vs.length = chain.length
 closed : ∀ i o, ops[i]? = some o → listed.getD i false = true → ∀ e ∈ o.after, Region.binds .any e = true → listed.getD e.on false = true
 now : G vs w
def clearB (ops : Array Oper) (K : Known) : Bool := K.all fun p => !((dstsOf ops).contains p.1)
theorem clearB_look {K : Known} (h : clearB ops K = true) {d : Nat} (hd : (dstsOf ops).contains d = true) : look K d = none := by
 induction K with
 | nil => rfl
 | cons p r ih =>
  obtain ⟨k, v⟩ := p
  simp only [clearB, List.all_cons, Bool.and_eq_true, Bool.not_eq_true'] at h
  unfold look
  cases hb : Nat.beq k d with
  | true =>
   obtain rfl := Nat.eq_of_beq_eq_true hb
   rw [hd] at h; cases h.1
  | false => exact ih (by simpa only [clearB] using h.2)
theorem act_put_other {a : Act} {d : Option Nat} {v : Value} {k : Nat} (h : d ≠ some k) : (Act.put a d v).tmps.getD k undef = a.tmps.getD k undef := by
 cases d with
 | none => rfl
 | some d =>
  have : d ≠ k := fun e => h (by rw [e])
  simp [Act.put, Array.getD_eq_getD_getElem?, this]
theorem act_put_self {a : Act} {v : Value} {k : Nat} (h : k < a.tmps.size) : (Act.put a (some k) v).tmps.getD k undef = v := by
 simp [Act.put, h]
theorem Kn.put_clear {n : Fr} {K : Known} {a : Act} (h : Kn n K a) {d : Option Nat} (hd : ∀ k, d = some k → look K k = none) (v : Value) : Kn n K (a.put d v) := by
 refine ⟨?_, ?_, fun k x e => ?_⟩
 ·cases d <;> simpa [Act.put] using h.size
 ·cases d <;> exact h.defers
 ·rw [act_put_other (fun e' => by rw [hd k e'] at e; cases e)]
  exact h.knows k x e
theorem wp_any_gen {Q : Exit → Act → World → Prop} {n : Fr} {K : Known} (chain : List Nat) (R : Nat → Value → World → Prop) (Le : World → World → Prop) (G : List (Option Value) → World → Prop)
  (hB : opsB ops n.n = true) (hnd : chain.Nodup) (hin : (chain.all fun c => Nat.blt c ops.size) = true) (hclear : clearB ops K = true)
  (hR : ∀ i v w w', R i v w → Le w w' → R i v w')
  (h : SoundFromG P ops Q chain R Le G n K 0 ops.toList)
  (hQ : ∀ (a : Act) (w : World) (vs : List (Option Value)), Kn n K a → vs.length = chain.length → (∀ p, p < chain.length → ∃ v, vs[p]? = some (some v)) → G vs w → (∀ i d, (ops[i]?).bind (·.dst) = some d → chain.contains i = false → R i (a.tmps.getD d undef) w) → (∀ (p c d : Nat), chain[p]? = some c → (ops[c]?).bind (·.dst) = some d → vs[p]? = some (some (a.tmps.getD d undef))) → Q .normal a w) :
  ∀ (a0 : Act) (w0 : World), Kn n K a0 → G (List.replicate chain.length none) w0 → wpAnyIn (fen n.r) 0 P .any ops Q ops.size (Array.replicate ops.size false) a0 w0 := by
 have main : ∀ (fuel : Nat) (listed : Array Bool) (a : Act) (vs : List (Option Value)) (w : World), listed.toList.count false ≤ fuel → AtG ops chain R G n K listed a vs w →
   wpAnyIn (fen n.r) 0 P .any ops Q fuel listed a w := by
  intro fuel
  have done : ∀ (listed : Array Bool) (a : Act) (vs : List (Option Value)) (w : World), Region.ready .any ops listed = [] → AtG ops chain R G n K listed a vs w → Q .normal a w := by
   intro listed a vs w hr H
   have all : ∀ i, i < ops.size → listed.getD i false = true := fun i hi => by
    have := ready_nil hB H.size hr i hi
    have hs := H.size
    simpa [Array.getD, show i < listed.size by omega] using this
   have hin' : ∀ p c, chain[p]? = some c → c < ops.size := fun p c hc => by
    have := List.all_eq_true.1 hin _ (List.mem_of_getElem? hc)
    simpa [Nat.blt_eq] using this
   have lt_of : ∀ i d, (ops[i]?).bind (·.dst) = some d → i < ops.size := fun i d hd => by
    rcases Nat.lt_or_ge i ops.size with h | h
    ·exact h
    ·simp [Array.getElem?_eq_none h] at hd
   exact hQ a w vs H.kn H.len (fun p hp => (H.link p chain[p] (by simp [hp])).1 (all _ (hin' p _ (by simp [hp])))) H.now (fun i d hd hc => H.plain i d hc (all i (lt_of i d hd)) hd) (fun p c d hc hd => H.vals p c d hc (all c (hin' p c hc)) hd)
  induction fuel with
  | zero =>
   intro listed a vs w hc H
   have hr : Region.ready .any ops listed = [] := by
    cases hr : Region.ready .any ops listed with
    | nil => rfl
    | cons i r =>
     have := (mem_ready (md := .any) (ops := ops) (j := i) (listed := listed)).1 (by rw [hr]; simp)
     rw [count_zero hc i] at this
     simp at this
   exact ⟨hr, done listed a vs w hr H⟩
  | succ fuel ih =>
   intro listed a vs w hc H
   refine ⟨fun hr => done listed a vs w hr H, fun i hi => ?_⟩
   obtain ⟨hun, o, ho, haf⟩ := mem_ready.1 hi
   have hilt : i < ops.size := by
    rcases Nat.lt_or_ge i ops.size with h | h
    ·exact h
    ·simp [Array.getElem?_eq_none h] at ho
   have hils : i < listed.size := by have := H.size; omega
   have hun' := getD_false_of hun
   have ok := opsB_spec hB ho
   have hs2 := h.at_ i o (by simpa using ho)
   rw [Nat.zero_add] at hs2
   have after_of : ∀ j d, depB ops o j d = true → listed.getD j false = true ∧ (ops[j]?).bind (·.dst) = some d := by
    intro j d hj
    simp only [depB, Bool.and_eq_true, Array.any_eq_true, beq_iff_eq] at hj
    obtain ⟨⟨k, hk, h1, h2⟩, h3⟩ := hj
    exact ⟨h1 ▸ haf _ (Array.getElem_mem hk) h2, h3⟩
   have ctx : CtxG ops chain R G n K i o a w vs := by
    have opt : ∀ p c, chain[p]? = some c → listed.getD c false = false → vs[p]? = some none := fun p c hc hl => by
     have hp : p < vs.length := by rw [H.len]; exact (List.getElem?_eq_some_iff.1 hc).1
     rw [List.getElem?_eq_getElem hp]
     cases hx : vs[p] with
     | none => rfl
     | some v =>
      have := (H.link p c hc).2 ⟨v, by rw [List.getElem?_eq_getElem hp, hx]⟩
      rw [hl] at this; cases this
    refine ⟨H.now, H.kn, fun j d hj hc => H.plain j d hc (after_of j d hj).1 (after_of j d hj).2, H.len, fun p c d hc hj => H.vals p c d hc (after_of c d hj).1 (after_of c d hj).2, fun p c hc ha => ?_, fun p c hc ha => opt p c hc ?_, fun p c hc ha => opt p c hc ?_⟩
    ·simp only [Array.any_eq_true, Bool.and_eq_true, beq_iff_eq] at ha
     obtain ⟨k, hk, h1, h2⟩ := ha
     exact (H.link p c hc).1 (h1 ▸ haf _ (Array.getElem_mem hk) h2)
    ·cases hl : listed.getD c false with
     | false => rfl
     | true =>
      exfalso
      unfold afterB at ha
      split at ha
      ·rename_i oc hoc
       simp only [Array.any_eq_true, Bool.and_eq_true, beq_iff_eq] at ha
       obtain ⟨k, hk, h1, h2⟩ := ha
       have := H.closed c oc hoc hl _ (Array.getElem_mem hk) h2
       rw [h1, hun'] at this
       cases this
      ·cases ha
    ·cases hl : listed.getD c false with
     | false => rfl
     | true =>
      exfalso
      have := anc_listed H.closed hl i (by simpa using ha)
      rw [hun'] at this
      cases this
   unfold wpOpIn
   simp only [ho]
   -- what is behind a step
   have step : ∀ (v : Value) (vs' : List (Option Value)) (w' : World), (∀ j u, R j u w → R j u w') → G vs' w' → (∀ d, o.dst = some d → chain.contains i = false → R i v w') →
     ((chain.contains i = false ∧ vs' = vs) ∨ (∃ p, chain[p]? = some i ∧ vs' = vs.set p (some v))) →
     wpAnyIn (fen n.r) 0 P .any ops Q fuel (listed.setIfInBounds i true) (Act.put a o.dst v) w' := by
    intro v vs' w' hle hG hRi hvs
    have hc' := count_set (l := listed) hils hun hc
    have hset : ∀ j, (listed.setIfInBounds i true).getD j false = true ↔ j = i ∨ listed.getD j false = true := by
     intro j
     by_cases hj : j = i
     ·subst hj; simp [getD_set_eq hils]
     ·rw [getD_set_ne false (Ne.symm hj)]; simp [hj]
    have hother : ∀ j k, j ≠ i → (ops[j]?).bind (·.dst) = some k → (Act.put a o.dst v).tmps.getD k undef = a.tmps.getD k undef := by
     intro j k hji hjk
     refine act_put_other (fun hd => ?_)
     have hjlt : j < ops.size := by
      rcases Nat.lt_or_ge j ops.size with h | h
      ·exact h
      ·simp [Array.getElem?_eq_none h] at hjk
     exact hji (ok.own k j hd hjlt hjk).symm
    have hself : ∀ d, (ops[i]?).bind (·.dst) = some d → (Act.put a o.dst v).tmps.getD d undef = v := by
     intro d hd
     rw [ho] at hd
     simp only [Option.bind_some] at hd
     rw [hd]
     exact act_put_self (by rw [H.kn.size]; exact ok.lt d hd)
    refine ih _ _ vs' w' hc' ⟨by simpa using H.size, H.kn.put_clear (fun k hk => clearB_look hclear (mem_dsts ho hk)) v, fun j d hjc hj hjd => ?_, fun p c hpc => ?_, fun p c d hpc hp hcd => ?_, ?_, fun j oj hoj hj e he hb => ?_, hG⟩
    ·by_cases hji : j = i
     ·subst hji
      rw [hself d hjd]
      rw [ho] at hjd
      exact hRi d hjd hjc
     ·rw [hother j d hji hjd]
      exact hle _ _ (H.plain j d hjc (((hset j).1 hj).resolve_left hji) hjd)
    ·rw [hset]
     rcases hvs with ⟨hci, rfl⟩ | ⟨q, hq, rfl⟩
     ·have : c ≠ i := by
       rintro rfl
       have := List.mem_of_getElem? hpc
       simp [this] at hci
      exact ⟨fun h => (H.link p c hpc).1 (h.resolve_left this), fun h => .inr ((H.link p c hpc).2 h)⟩
     ·have hpl : q < vs.length := by rw [H.len]; exact (List.getElem?_eq_some_iff.1 hq).1
      by_cases hpq : p = q
      ·subst hpq
       rw [hq] at hpc
       simp only [Option.some.injEq] at hpc
       subst hpc
       exact ⟨fun _ => ⟨v, by rw [List.getElem?_set_self hpl]⟩, fun _ => .inl rfl⟩
      ·have hci : c ≠ i := by
        rintro rfl
        exact hpq ((List.getElem?_inj (List.getElem?_eq_some_iff.1 hpc).1 hnd).1 (hpc.trans hq.symm))
       rw [List.getElem?_set_ne (Ne.symm hpq)]
       exact ⟨fun h => (H.link p c hpc).1 (h.resolve_left hci), fun h => .inr ((H.link p c hpc).2 h)⟩
    ·rcases hvs with ⟨hci, rfl⟩ | ⟨q, hq, rfl⟩
     ·have hne : c ≠ i := by
       rintro rfl
       have := List.mem_of_getElem? hpc
       simp [this] at hci
      rw [hother c d hne hcd]
      exact H.vals p c d hpc (((hset c).1 hp).resolve_left hne) hcd
     ·have hpl : q < vs.length := by rw [H.len]; exact (List.getElem?_eq_some_iff.1 hq).1
      by_cases hpq : p = q
      ·subst hpq
       rw [hq] at hpc
       simp only [Option.some.injEq] at hpc
       subst hpc
       rw [hself d hcd, List.getElem?_set_self hpl]
      ·have hne : c ≠ i := by
        rintro rfl
        exact hpq ((List.getElem?_inj (List.getElem?_eq_some_iff.1 hpc).1 hnd).1 (hpc.trans hq.symm))
       rw [hother c d hne hcd, List.getElem?_set_ne (Ne.symm hpq)]
       exact H.vals p c d hpc (((hset c).1 hp).resolve_left hne) hcd
    ·rcases hvs with ⟨hci, rfl⟩ | ⟨q, hq, rfl⟩
     ·exact H.len
     ·rw [List.length_set]; exact H.len
    ·rw [hset]
     by_cases hji : j = i
     ·subst hji
      rw [ho] at hoj
      simp only [Option.some.injEq] at hoj
      subst hoj
      exact .inr (haf e he hb)
     ·exact .inr (H.closed j oj hoj (((hset j).1 hj).resolve_left hji) e he hb)
   rcases hs2 with ⟨hci, β, hg, hgc, hs1, hs2⟩ | ⟨p, hp, hgn, hs2⟩
   ·have hwant : Region.wanted o (yielded ops a.tmps) = β := by
     have known : ∀ g c d b, o.guard = some (g, b) → (∀ v w, R g v w → (d = true → v = .bool c) ∧ (d = false → v = undef)) → yielded ops a.tmps g = if d then some c else none := by
      intro g c dd b hgb hv
      obtain ⟨⟨e, he, h1, h2⟩, d, hd⟩ := ok.guard g b hgb
      have hv := hv (a.tmps.getD d undef) w (H.plain g d (hgc g b hgb) (h1 ▸ haf e he h2) hd)
      have hdlt : d < a.tmps.size := by
       obtain ⟨og, hog, hgd⟩ := Option.bind_eq_some_iff.1 hd
       rw [H.kn.size]
       exact (opsB_spec hB hog).lt d hgd
      unfold yielded
      rw [hd]
      simp only [Array.getD_eq_getD_getElem?, Array.getElem?_eq_getElem hdlt, Option.getD_some] at hv
      cases dd with
      | true => simp [hdlt, hv.1 rfl]
      | false => simp [hdlt, hv.2 rfl, undef]
     cases hg with
     | none h => unfold Region.wanted; rw [h]
     | @yes g c d h hv => have := known _ _ _ _ h hv; unfold Region.wanted; rw [h]; simp only [this]; cases d <;> simp
     | @no g c d h hv => have := known _ _ _ _ h hv; unfold Region.wanted; rw [h]; simp only [this]; cases d <;> cases c <;> simp
    cases hβ : β with
    | false =>
     rw [hβ] at hwant
     simp only [hwant, Bool.false_eq_true, if_false]
     refine ⟨fun f _ => fen_fn _ f, ?_⟩
     exact step undef vs w (fun _ _ h => h) H.now (fun _ _ _ => hs1 hβ w) (.inl ⟨hci, rfl⟩)
    | true =>
     rw [hβ] at hwant
     simp only [hwant, if_true]
     refine Oper.wpIn_mono ?_ (hs2 hβ a w vs ctx)
     rintro a' w' ⟨v, rfl, hle, hG, hRi⟩
     exact step v vs w' (fun j u hj => hR j u _ _ hj hle) hG (fun _ _ _ => hRi) (.inl ⟨hci, rfl⟩)
   ·have hwant : Region.wanted o (yielded ops a.tmps) = true := by unfold Region.wanted; rw [hgn]
    have hnone : vs[p]? = some none := by
     have hp' : p < vs.length := by rw [H.len]; exact (List.getElem?_eq_some_iff.1 hp).1
     rw [List.getElem?_eq_getElem hp']
     cases hx : vs[p] with
     | none => rfl
     | some v =>
      have := (H.link p i hp).2 ⟨v, by rw [List.getElem?_eq_getElem hp', hx]⟩
      rw [hun'] at this; cases this
    simp only [hwant, if_true]
    refine Oper.wpIn_mono ?_ (hs2 a w vs ctx hnone)
    rintro a' w' ⟨v, rfl, hle, hG⟩
    have hcc : chain.contains i = true := by
     have := List.mem_of_getElem? hp
     simpa using this
    exact step v (vs.set p (some v)) w' (fun j u hj => hR j u _ _ hj hle) hG (fun _ _ h => by rw [hcc] at h; cases h) (.inr ⟨p, hp, rfl⟩)
 intro a0 w0 hk0 h0
 have nothing' : ∀ i, (Array.replicate ops.size false).getD i false = false := fun i => by
  by_cases h : i < ops.size <;> simp [Array.getD, h]
 refine main _ _ _ (List.replicate chain.length none) _ (by simp) ⟨by simp, hk0, fun i d _ hi => ?_, fun p c hpc => ?_, fun p c d _ hp => ?_, by simp, fun i o _ hi => ?_, h0⟩
 ·rw [nothing'] at hi; cases hi
 ·rw [nothing']
  refine ⟨fun h => (by cases h), fun ⟨v, hv⟩ => ?_⟩
  have hp := (List.getElem?_eq_some_iff.1 hpc).1
  simp [hp] at hv
 ·rw [nothing'] at hp; cases hp
 ·rw [nothing'] at hi; cases hi
/-- The law: of what is known of the frame 'K0' is what the region does not write. -/
theorem WC.gen {id : Nat} {dr : Bool} {Q : Exit → Act → World → Prop} {n : Fr} {K : Known} {w : World} (chain : List Nat) (R : Nat → Value → World → Prop) (Le : World → World → Prop) (G : List (Option Value) → World → Prop) (K0 : Known)
  (hs : subK K0 K) (hclear : clearB ops K0 = true) (hm : P.follows .mixedOrders = true) (hB : opsB ops n.n = true) (hnd : chain.Nodup) (hin : (chain.all fun c => Nat.blt c ops.size) = true)
  (hR : ∀ i v w w', R i v w → Le w w' → R i v w') (h0 : G (List.replicate chain.length none) (bif dr then w.drew else w))
  (h : SoundFromG P ops Q chain R Le G n K0 0 ops.toList)
  (hQ : ∀ (a : Act) (w : World) (vs : List (Option Value)), Kn n K0 a → vs.length = chain.length → (∀ p, p < chain.length → ∃ v, vs[p]? = some (some v)) → G vs w → (∀ i d, (ops[i]?).bind (·.dst) = some d → chain.contains i = false → R i (a.tmps.getD d undef) w) → (∀ (p c d : Nat), chain[p]? = some c → (ops[c]?).bind (·.dst) = some d → vs[p]? = some (some (a.tmps.getD d undef))) → Q .normal a w) :
  WC P n K w (.region id ops dr) Q := by
 intro a ha
 have main := wp_any_gen chain R Le G hB hnd hin hclear hR h hQ a
 cases dr with
 | true => exact wpIn_region_any hm (main _ (ha.sub hs) h0)
 | false => exact any_start hB (main _ (ha.sub hs) h0)
/-! ### Where no operation changes what was there -/
/-- An operation of such a region. -/
structure CtxO (ops : Array Oper) (S : List (Bool × Sp)) (n : Fr) (K : Known) (w0 : World) (o : Oper) (a : Act) (w : World) : Prop where
 below : Below w0.heap.size w0 w
 kn : Kn n K a
 dep : ∀ j d, depB ops o j d = true → optR S j (a.tmps.getD d undef) w
def SoundO (P : Program) (ops : Array Oper) (Q : Exit → Act → World → Prop) (S : List (Bool × Sp)) (n : Fr) (K : Known) (w0 : World) : Nat → List Oper → Prop
 | _, [] => True
 | i, o :: r => (∃ β, GuardIs (optR S) o β ∧ (β = false → ∀ w, optR S i undef w) ∧
  (β = true → ∀ a w, CtxO ops S n K w0 o a w → o.wp P a w (fun a' w' => ∃ v, a' = Act.put a o.dst v ∧ Below w.heap.size w w' ∧ optR S i v w') Q)) ∧ SoundO P ops Q S n K w0 (i + 1) r
theorem SoundO.gen {Q : Exit → Act → World → Prop} {S : List (Bool × Sp)} {n : Fr} {K : Known} {w0 : World} : ∀ {l : List Oper} {i : Nat}, SoundO P ops Q S n K w0 i l →
  SoundFromG P ops Q [] (optR S) (fun w w' => Below w.heap.size w w') (fun _ w => Below w0.heap.size w0 w) n K i l
 | [], _, _ => trivial
 | o :: r, i, ⟨⟨β, h1, h2, h3⟩, h4⟩ => by
  refine ⟨.inl ⟨rfl, β, h1, fun _ _ _ => rfl, h2, fun hβ a w vs C => ?_⟩, h4.gen⟩
  refine Oper.wpIn_mono ?_ (wpIn_of (h3 hβ a w ⟨C.now, C.kn, fun j d hj => C.dep j d hj rfl⟩) (by rintro a' w' ⟨v, rfl, _⟩; exact put_defers _ _ _))
  rintro a' w' ⟨v, rfl, hb, hR⟩
  exact ⟨v, rfl, hb, bstep C.now hb, hR⟩
theorem WC.opt {id : Nat} {dr : Bool} {Q : Exit → Act → World → Prop} {n : Fr} {K : Known} {w : World} (S : List (Bool × Sp)) (K0 : Known)
  (hs : subK K0 K) (hclear : clearB ops K0 = true) (hm : P.follows .mixedOrders = true) (hB : opsB ops n.n = true)
  (h : SoundO P ops Q S n K0 w 0 ops.toList)
  (hQ : ∀ (a : Act) (w' : World), Kn n K0 a → Below w.heap.size w w' → (∀ i d, (ops[i]?).bind (·.dst) = some d → optR S i (a.tmps.getD d undef) w') → Q .normal a w') :
  WC P n K w (.region id ops dr) Q := by
 refine WC.gen [] (optR S) (fun w w' => Below w.heap.size w w') (fun _ w' => Below w.heap.size w w') K0 hs hclear hm hB List.nodup_nil rfl (optKeep S) ?_ h.gen (fun a w' vs hk _ _ hG hu _ => hQ a w' hk hG (fun i d hd => hu i d hd rfl))
 cases dr with
 | true => exact (Below.refl _ _).drew
 | false => exact Below.refl _ _
end
end Go.Proofs.Ytibncmnmjhimeaa

/- A block that is known whole. -/
namespace Go.Proofs.Ytibncmnmjhimeaa
open Go.RowKit
def Blk (w : World) (g : Nat) (t : TypeId) (cs : Array Value) : Prop := w.heap[g]? = some (.cells cs t (0, 0))
section
variable {w w' : World} {g : Nat} {t : TypeId} {cs : Array Value}
theorem Blk.lt (h : Blk w g t cs) : g < w.heap.size := lt_of_block h
theorem Blk.cell (h : Blk w g t cs) (i : Nat) : w.cell? ⟨g, i, none⟩ = cs[i]? := by unfold Blk at h; simp [World.cell?, h]
theorem Blk.frozen (h : Blk w g t cs) (i : Nat) : w.frozen? ⟨g, i, none⟩ = false := by unfold Blk at h; simp [World.frozen?, h]
theorem Blk.new' {b : Nat} (h : w.heap.size = b) : Blk (w.alloc (.cells cs t)) b t cs := heap_new' h
theorem Blk.set_ (h : Blk w g t cs) (i : Nat) (u : Value) : Blk (w.setCell ⟨g, i, none⟩ u) g t (cs.setIfInBounds i u) := by
  unfold Blk at h ⊢
  simp [World.setCell, Array.getElem?_modify, h]
theorem Blk.below (h : Blk w g t cs) (hb : Below w.heap.size w w') : Blk w' g t cs := (hb.block g h.lt).trans h
end
end Go.Proofs.Ytibncmnmjhimeaa

/- What printed walks lean on. -/
namespace Go.Proofs.Ytibncmnmjhimeaa
open Go.RowKit Go
theorem wrap_eq {e r : Int} (h : e = r) (h0 : -9223372036854775808 ≤ r) (h1 : r ≤ 9223372036854775807) : IntKind.i64.wrap e = r := by
  subst h; exact IntWalk.i64_in _ (by omega)
/-- A new block. -/
def NewBlk (w : World) (t : TypeId) (cs : Array Value) (v : Value) (w' : World) : Prop :=
  ∃ g, v = .pointer (some ⟨g, 0, none⟩) ∧ w.heap.size = g ∧ Blk w' g t cs ∧ Below w.heap.size w w' ∧ w'.heap.size = g + 1
theorem newBlk (w : World) (t : TypeId) (cs : Array Value) : NewBlk w t cs (.pointer (some ⟨w.heap.size, 0, none⟩)) (w.alloc (.cells cs t)) :=
  ⟨_, rfl, rfl, Blk.new' rfl, balloc _ _, by simp⟩
/-- A new row. -/
def NewRow (w : World) (t : TypeId) (cs : Array Value) (n : Nat) (v : Value) (w' : World) : Prop :=
  ∃ g, v = .slice (some ⟨g, 0, none⟩) n n ∧ w.heap.size = g ∧ Blk w' g t cs ∧ Below w.heap.size w w' ∧ w'.heap.size = g + 1
theorem newRow (w : World) (t : TypeId) (cs : Array Value) (n : Nat) : NewRow w t cs n (.slice (some ⟨w.heap.size, 0, none⟩) n n) (w.alloc (.cells cs t)) :=
  ⟨_, rfl, rfl, Blk.new' rfl, balloc _ _, by simp⟩
/-- One block may have been written. -/
structure Upd (g : Nat) (w w' : World) : Prop where
  os : w'.os = w.os
  tape : w'.tape = w.tape
  output : w'.output = w.output
  size : w'.heap.size = w.heap.size
  block : ∀ k, k ≠ g → w'.heap[k]? = w.heap[k]?
theorem Upd.set (w : World) (p : Addr) (v : Value) : Upd p.block w (w.setCell p v) := ⟨rfl, rfl, rfl, by simp [World.setCell], fun _ hk => Below.heap_setCell _ _ _ _ hk⟩
theorem Upd.at_ (w : World) (g i : Nat) (v : Value) : Upd g w (w.setCell ⟨g, i, none⟩ v) := Upd.set w ⟨g, i, none⟩ v
theorem Upd.trans {g : Nat} {a b c : World} (h : Upd g a b) (k : Upd g b c) : Upd g a c :=
  ⟨k.os.trans h.os, k.tape.trans h.tape, k.output.trans h.output, k.size.trans h.size, fun i hi => (k.block i hi).trans (h.block i hi)⟩
theorem upd_below {g : Nat} {w0 w w' : World} (h : Below w0.heap.size w0 w) (hu : Upd g w w') (hg : w0.heap.size ≤ g) : Below w0.heap.size w0 w' :=
  h.trans ⟨hu.os, hu.tape, hu.output, Nat.le_of_eq hu.size.symm, fun k hk => hu.block k (by omega)⟩
theorem upd_blk {g b : Nat} {t : TypeId} {cs : Array Value} {w w' : World} (h : Blk w b t cs) (hu : Upd g w w') (hne : b ≠ g) : Blk w' b t cs := (hu.block b hne).trans h
/-- It returns. -/
abbrev Ret (Post : Value → World → Prop) : Ending → World → Prop := fun e w' => ∃ v, e = .returned v ∧ Post v w'
theorem ret_of {P : Program} {F : FuncId} {vs : Array Value} {w : World} {v : Value} (h : Calls P F vs w fun e w' => e = .returned v ∧ Below w.heap.size w w') :
    Calls P F vs w (Ret fun v' w' => v' = v ∧ Below w.heap.size w w') := h.mono (by rintro e w' ⟨rfl, hb⟩; exact ⟨_, rfl, rfl, hb⟩)
section
variable {P : Program} {n : Fr} {K : Known} {w : World} {ops : Array Oper} {o : Oper} {rest : List Oper} {Q : Exit → Act → World → Prop}
theorem WL.call {d : Option Nat} {F : FuncId} {vs : Array Value} {Post : Value → World → Prop} (hd : o.dst = d) (hlt : dstB n.n d = true) (hg : o.guard = none)
    (h : ∀ a, Kn n K a → ∀ C : Act → World → Prop, Calls P F vs w (Ret Post) → (∀ v w', Post v w' → C (a.put o.dst v) w') → o.wp P a w C Q)
    (hc : Calls P F vs w (Ret Post)) (k : ∀ v w', Post v w' → WL P ops n (putK K d v) w' rest Q) : WL P ops n K w (o :: rest) Q :=
  WL.step hd hlt hg (fun a C ha hC => h a ha C hc hC) k
theorem hv4 {g : Operand → Value} {x y z x4 : Operand} {u v r v4 : Value} (h1 : g x = u) (h2 : g y = v) (h3 : g z = r) (h4 : g x4 = v4) : #[x, y, z, x4].map g = #[u, v, r, v4] := by simp [h1, h2, h3, h4]
theorem hv5 {g : Operand → Value} {x y z x4 x5 : Operand} {u v r v4 v5 : Value} (h1 : g x = u) (h2 : g y = v) (h3 : g z = r) (h4 : g x4 = v4) (h5 : g x5 = v5) : #[x, y, z, x4, x5].map g = #[u, v, r, v4, v5] := by simp [h1, h2, h3, h4, h5]
variable {a : Act} {C : Act → World → Prop}
theorem mkfn {fn : Fn} {xs ys : Array Operand} {us vs : Array Value} (ho : o.op = .makeFunc fn xs ys) (hx : xs.map a.eval = us) (hy : ys.map a.eval = vs) (hK : C (a.put o.dst (.func fn us vs)) w) : o.wp P a w C Q := by
  unfold Oper.wp execOp
  simp only [ho, hx, hy]
  go_simp
  exact hK
theorem wp_callv {F : FuncId} {f : Operand} {xs : Array Operand} {tys : Array TypeId} {us first cap : Array Value} {R : Value → World → Prop} (hF : callB P F = true) (ho : o.op = .call { callee := .value f, args := xs, argTypes := tys }) (hf : a.eval f = .func (.func F) first cap) (hv : xs.map a.eval = us)
    (h : Calls P F (first ++ us ++ cap) w fun e w' => ∃ v, e = .returned v ∧ R v w') (hK : ∀ v w', R v w' → C (a.put o.dst v) w') : o.wp P a w C Q := by
  unfold callB at hF
  split at hF
  · rename_i fn hfn
    simp only [Bool.and_eq_true, Bool.not_eq_true'] at hF
    have hp : (Sem.run P program w) = .ok P w := rfl
    unfold Oper.wp execOp
    simp only [ho, resolve, hv, hf, Deferred.ofValue, invoke, callFunc, Sem.run_bind, Sem.run_pure, Result.andThen_ok, hp, hfn, hF.1, hF.2, Bool.false_eq_true, if_false]
    refine h.mono ?_
    rintro e w' ⟨v, rfl, hR⟩
    exact hK v w' hR
  · simp at hF
end
/-! ### Rows of the call's own, appended to -/
/-- What is appended: the cells of a slice. -/
def SrcIs (w : World) (x : Value) (m : Nat) (news : List Value) : Prop :=
  (∃ ad c, x = .slice (some ad) m c ∧ ∀ j u, news[j]? = some u → w.cell? (ad.add j) = some u) ∨ (∃ c, x = .slice none 0 c ∧ m = 0 ∧ news = [])
theorem SrcIs.ofBlk {w : World} {g : Nat} {t : TypeId} {cs : List Value} {m c : Nat} (h : Blk w g t cs.toArray) : SrcIs w (.slice (some ⟨g, 0, none⟩) m c) m cs := by
  refine .inl ⟨_, _, rfl, fun j u hj => ?_⟩
  rw [add_plain2, Nat.zero_add, h.cell]
  simpa using hj
/-- What an append leaves. -/
structure Grown (w : World) (base : Nat) (e : TypeId) (size : Nat) (v : Value) (n : Nat) (xs : List Value) (ra : Option Addr) (rc : Nat) (w' : World) : Prop where
  own : w'.ownsRow base e size (.slice ra n rc) n xs
  grow : w.grownBy w' v.ownBlock
  at_ : (Value.slice ra n rc).ownBlock = v.ownBlock ∨ (Value.slice ra n rc).ownBlock = some w.heap.size
theorem ownsRow_form {w : World} {base : Nat} {e : TypeId} {size : Nat} {v : Value} {n : Nat} {xs : List Value} (h : w.ownsRow base e size v n xs) : ∃ ra rc, v = .slice ra n rc := by
  rcases h.2 with ⟨rfl, rfl⟩ | ⟨g, cap, cur, rfl, _⟩
  · exact ⟨_, _, rfl⟩
  · exact ⟨_, _, rfl⟩
section
variable {P : Program} {w : World} {a : Act} {K : Act → World → Prop} {Q : Exit → Act → World → Prop} {o : Oper}
theorem wp_app {s x : Operand} {t e : TypeId} {z : Value} {size bytes base n m : Nat} {v y : Value} {xs news : List Value} (ht : P.underlying t = some (.slice e)) (hinfo : (P.info? e).map (fun i => (i.zero, i.size, i.bytes)) = some (some z, size, bytes)) (hzs : z.cells.size = size) (hsz : 0 < size)
    (ho : o.op = .call { callee := .builtin .append, args := #[s, x], argTypes := #[t, t] }) (hs : a.eval s = v) (hx : a.eval x = y) (hown : w.ownsRow base e size v n xs) (hsrc : SrcIs w y m news) (hl : news.length = m * size) (h1 : ∀ u ∈ news, u.oneCell' = true)
    (hb : (n + m) * bytes ≤ 140737488355328) (hn : n + m ≤ 9223372036854775807) (hbase : base ≤ w.heap.size) (hK : ∀ ra rc w', Grown w base e size v (n + m) (xs ++ news) ra rc w' → K (a.put o.dst (.slice ra (n + m) rc)) w') : o.wp P a w K Q := by
  obtain ⟨i, hi, hz0, hz1, hz2⟩ := info_parts hinfo
  rcases hsrc with ⟨ad, c, rfl, hnews⟩ | ⟨c, rfl, rfl, rfl⟩
  · obtain ⟨v', w', hr, h2, h3, h4, h5⟩ := run_append_own_at (P := P) w base t o.type e i z size bytes ht hi hz0 hz1 hz2 hzs hsz v n xs hown ad m c news hl hnews h1 (by unfold maxLen; omega) hb hbase
    obtain ⟨ra, rc, rfl⟩ := ownsRow_form h2
    unfold Oper.wp execOp
    simp only [ho, resolve, invoke, builtin, Sem.run_bind, Sem.run_pure, Result.andThen_ok, List.map_toArray, List.map_cons, List.map_nil, hs, hx, hr]
    exact hK _ _ _ ⟨h2, h3, h5⟩
  · obtain ⟨ra, rc, rfl⟩ := ownsRow_form hown
    have hcap : n ≤ rc := by
      rcases hown.2 with ⟨e, h⟩ | ⟨_, _, _, e, _, _, h, _⟩
      · omega
      · simp only [Value.slice.injEq] at e; omega
    have hr : (Builtin.append_ #[t, t] o.type #[.slice ra n rc, .slice none 0 c]).run P w = .ok (.slice ra n rc) w := by
      cases ra <;> simp [Builtin.append_, run_underlying ht, sizeOf, typeInfo, hi, Builtin.lenOf, Builtin.firstCells, hcap, storeCells]
    unfold Oper.wp execOp
    simp only [ho, resolve, invoke, builtin, Sem.run_bind, Sem.run_pure, Result.andThen_ok, List.map_toArray, List.map_cons, List.map_nil, hs, hx, hr]
    exact hK _ _ _ ⟨by simpa using hown, ⟨rfl, rfl, rfl, Nat.le_refl _, fun _ _ _ => rfl⟩, .inl rfl⟩
end
/-- Blocks that 'S' holds of may have been written. -/
structure Chg (S : Nat → Prop) (w w' : World) : Prop where
  os : w'.os = w.os
  tape : w'.tape = w.tape
  output : w'.output = w.output
  size : w.heap.size ≤ w'.heap.size
  block : ∀ k, k < w.heap.size → ¬ S k → w'.heap[k]? = w.heap[k]?
theorem chg_below {S : Nat → Prop} {w0 w w' : World} (h : Below w0.heap.size w0 w) (k : Chg S w w') (hS : ∀ b, b < w0.heap.size → ¬ S b) : Below w0.heap.size w0 w' :=
  h.trans ⟨k.os, k.tape, k.output, k.size, fun b hb => k.block b (Nat.lt_of_lt_of_le hb h.size) (hS b hb)⟩
theorem chg_blk {S : Nat → Prop} {b : Nat} {t : TypeId} {cs : Array Value} {w w' : World} (h : Blk w b t cs) (k : Chg S w w') (hS : ¬ S b) : Blk w' b t cs := (k.block b h.lt hS).trans h
/-- A row of the call's own, in a block that 'S' holds of. -/
def Own (w : World) (S : Nat → Prop) (e : TypeId) (size : Nat) (ra : Option Addr) (rc n : Nat) (xs : List Value) : Prop :=
  w.ownsRow 0 e size (.slice ra n rc) n xs ∧ ∀ b, (Value.slice ra n rc).ownBlock = some b → S b
section
variable {w w' : World} {S S' : Nat → Prop} {e : TypeId} {size : Nat} {ra : Option Addr} {rc n g : Nat} {xs : List Value}
theorem Own.of {base : Nat} (h : w.ownsRow base e size (.slice ra n rc) n xs) : Own w (fun b => base ≤ b) e size ra rc n xs := by
  refine ⟨⟨h.1, h.2.imp id ?_⟩, fun b hb => (h.lt b hb).1⟩
  rintro ⟨g, cap, cur, e1, _, r⟩
  exact ⟨g, cap, cur, e1, Nat.zero_le _, r⟩
end
section
variable {P : Program} {w : World} {a : Act} {K : Act → World → Prop} {Q : Exit → Act → World → Prop} {o : Oper}
end
end Go.Proofs.Ytibncmnmjhimeaa

/- Rows of terms, opened whole. -/
namespace Go.Proofs.Ytibncmnmjhimeaa
open Go.RowKit Go
def tget (l : List T) (k : Nat) : T := l.getD k (.mk 0 [])
theorem tget_lt {l : List T} {k : Nat} (h : k < l.length) : tget l k = l[k] := by simp [tget, h]
theorem tget_mem {l : List T} {k : Nat} (h : k < l.length) : tget l k ∈ l := by rw [tget_lt h]; exact List.getElem_mem h
theorem isT_row {w : World} {t : T} {f : Value} {a : Option Addr} {n c : Nat} (h : IsT w t (.agg #[f, .slice a n c])) : n = t.args.length ∧ n ≤ c ∧ c ≤ maxLen ∧ IsTs w t.args a 0 := by
  obtain ⟨_, a', c', e, h1, h2, h3⟩ := h.form
  simp only [Value.agg.injEq, Array.mk.injEq, List.cons.injEq, and_true, Value.slice.injEq] at e
  obtain ⟨_, rfl, rfl, rfl⟩ := e
  exact ⟨rfl, h1, h2, h3⟩
theorem IsTs.open {w : World} {l : List T} {a : Option Addr} (h : IsTs w l a 0) : ∃ (b o : Nat) (A : Nat → Option Addr) (C : Nat → Nat), (∀ k, k < l.length → a = some ⟨b, o, none⟩) ∧
    ∀ k, k < l.length → w.cell? ⟨b, o + k * 2, none⟩ = some (.int .i64 (tget l k).f) ∧ w.cell? ⟨b, o + k * 2 + 1, none⟩ = some (.slice (A k) (tget l k).args.length (C k)) ∧ IsT w (tget l k) (.agg #[.int .i64 (tget l k).f, .slice (A k) (tget l k).args.length (C k)]) := by
  rcases Nat.eq_zero_or_pos l.length with h0 | h0
  · exact ⟨0, 0, fun _ => none, fun _ => 0, fun k hk => by omega, fun k hk => by omega⟩
  · obtain ⟨b, o, _, _, ha, _⟩ := h.at_ (Below.refl _ _) 0 h0
    have key : ∀ k, k < l.length → ∃ p : Option Addr × Nat, w.cell? ⟨b, o + k * 2, none⟩ = some (.int .i64 (tget l k).f) ∧ w.cell? ⟨b, o + k * 2 + 1, none⟩ = some (.slice p.1 (tget l k).args.length p.2) ∧ IsT w (tget l k) (.agg #[.int .i64 (tget l k).f, .slice p.1 (tget l k).args.length p.2]) := by
      intro k hk
      obtain ⟨b', o', a', c', ha', h1, h2, h3⟩ := h.at_ (Below.refl _ _) k hk
      rw [ha] at ha'
      simp only [Option.some.injEq, Addr.mk.injEq, and_true] at ha'
      obtain ⟨rfl, rfl⟩ := ha'
      rw [tget_lt hk]
      exact ⟨(a', c'), h1, h2, h3⟩
    have : Inhabited (Option Addr × Nat) := ⟨(none, 0)⟩
    obtain ⟨F, hF⟩ := Go.Deep.choose_lt key
    exact ⟨b, o, fun k => (F k).1, fun k => (F k).2, fun _ _ => ha, hF⟩
end Go.Proofs.Ytibncmnmjhimeaa

/- 'box = append(box, x)' in a region that draws its order: the row of one, the append to a row of the call's own, the store into a box, everything else only reads. -/
namespace Go.Proofs.Ytibncmnmjhimeaa
open Go.RowKit Go
theorem Chg.refl (S : Nat → Prop) (w : World) : Chg S w w := ⟨rfl, rfl, rfl, Nat.le_refl _, fun _ _ _ => rfl⟩
theorem Chg.trans {S : Nat → Prop} {a b c : World} (h : Chg S a b) (k : Chg S b c) : Chg S a c :=
  ⟨k.os.trans h.os, k.tape.trans h.tape, k.output.trans h.output, Nat.le_trans h.size k.size, fun i hi hS => (k.block i (Nat.lt_of_lt_of_le hi h.size) hS).trans (h.block i hi hS)⟩
theorem Chg.trans2 {S S2 : Nat → Prop} {a b c : World} (h : Chg S a b) (k : Chg S2 b c) (hS : ∀ i, i < a.heap.size → S2 i → S i) : Chg S a c :=
  ⟨k.os.trans h.os, k.tape.trans h.tape, k.output.trans h.output, Nat.le_trans h.size k.size, fun i hi hn => (k.block i (Nat.lt_of_lt_of_le hi h.size) (fun e => hn (hS i hi e))).trans (h.block i hi hn)⟩
theorem Chg.mono {S S' : Nat → Prop} {a b : World} (h : Chg S a b) (hS : ∀ k, S k → S' k) : Chg S' a b := ⟨h.os, h.tape, h.output, h.size, fun i hi hn => h.block i hi (fun e => hn (hS i e))⟩
theorem Chg.ofBelow {S : Nat → Prop} {a b : World} (h : Below a.heap.size a b) : Chg S a b := ⟨h.os, h.tape, h.output, h.size, fun i hi _ => h.block i hi⟩
theorem Chg.ofUpd {S : Nat → Prop} {g : Nat} {a b : World} (h : Upd g a b) (hS : S g) : Chg S a b := ⟨h.os, h.tape, h.output, Nat.le_of_eq h.size.symm, fun i _ hn => h.block i (fun e => hn (e ▸ hS))⟩
theorem chg_cell {S : Nat → Prop} {w w' : World} {b o : Nat} {v : Value} (k : Chg S w w') (hS : ¬ S b) (h : w.cell? ⟨b, o, none⟩ = some v) : w'.cell? ⟨b, o, none⟩ = some v := by
  have hb := World.block_lt_of_cell? _ _ h
  unfold World.cell? at h ⊢
  have e := k.block b hb hS
  dsimp only at h ⊢
  rw [e]; exact h
theorem chg_old {S : Nat → Prop} {w0 w w' : World} {p : Addr} {v : Value} (hb : Below w0.heap.size w0 w) (k : Chg S w w') (hS : ∀ b, b < w0.heap.size → ¬ S b) (h : w0.cell? p = some v) : w'.cell? p = some v :=
  bkeeps (chg_below hb k hS) _ _ h
section
variable {w0 w w' : World} {S : Nat → Prop} {e size n rc m g ty i : Nat} {ra : Option Addr} {xs : List Value} {cs : Array Value} {N : List Value → Prop} {vb vp vq : Option Value}
variable {news : List Value}
end
section
variable {P : Program} {ops : Array Oper}
end
end Go.Proofs.Ytibncmnmjhimeaa

/- Elements of rows that are made: what lies in them lies in blocks that are told. -/
namespace Go.Proofs.Ytibncmnmjhimeaa
open Go.RowKit Go
set_option linter.unusedVariables false
set_option linter.unusedSimpArgs false
/-- A kind of element: so many cells, and what they hold of 'x', in blocks of 'S'. -/
structure Elt (α : Type) where
  k : Nat
  In : (Nat → Prop) → World → α → List Value → Prop
  keep : ∀ {S : Nat → Prop} {w w' : World} {x : α} {cs : List Value}, (∀ (p : Addr) (v : Value), S p.block → w.cell? p = some v → w'.cell? p = some v) → In S w x cs → In S w' x cs
  mono : ∀ {S S' : Nat → Prop} {w : World} {x : α} {cs : List Value}, (∀ b, S b → b < w.heap.size → S' b) → In S w x cs → In S' w x cs
  len : ∀ {S : Nat → Prop} {w : World} {x : α} {cs : List Value}, In S w x cs → cs.length = k
  one : ∀ {S : Nat → Prop} {w : World} {x : α} {cs : List Value}, In S w x cs → ∀ v ∈ cs, v.oneCell' = true
section
variable {α : Type} {E : Elt α} {S S' : Nat → Prop} {w w' : World}
theorem Elt.chg {S2 : Nat → Prop} {x : α} {cs : List Value} (h : E.In S w x cs) (hc : Chg S2 w w') (hS : ∀ b, S b → ¬ S2 b) : E.In S w' x cs := E.keep (fun p v hp hv => by
  have hb := World.block_lt_of_cell? _ _ hv
  unfold World.cell? at hv ⊢
  rw [hc.block p.block hb (hS _ hp)]; exact hv) h
def Elts (E : Elt α) (S : Nat → Prop) (w : World) : List α → List Value → Prop
  | [], xs => xs = []
  | x :: l, xs => ∃ cs r, xs = cs ++ r ∧ E.In S w x cs ∧ Elts E S w l r
theorem Elts.keep (hb : ∀ (p : Addr) (v : Value), S p.block → w.cell? p = some v → w'.cell? p = some v) : ∀ {l : List α} {xs : List Value}, Elts E S w l xs → Elts E S w' l xs
  | [], _, h => h
  | _ :: _, _, ⟨cs, r, e, h1, h2⟩ => ⟨cs, r, e, E.keep hb h1, Elts.keep hb h2⟩
theorem Elts.mono (hb : ∀ b, S b → b < w.heap.size → S' b) : ∀ {l : List α} {xs : List Value}, Elts E S w l xs → Elts E S' w l xs
  | [], _, h => h
  | _ :: _, _, ⟨cs, r, e, h1, h2⟩ => ⟨cs, r, e, E.mono hb h1, Elts.mono hb h2⟩
theorem Elts.snoc {x : α} {cs : List Value} (hx : E.In S w x cs) : ∀ {l : List α} {xs : List Value}, Elts E S w l xs → Elts E S w (l ++ [x]) (xs ++ cs)
  | [], _, h => by rw [h]; exact ⟨cs, [], by simp, hx, rfl⟩
  | _ :: _, _, ⟨c, r, e, h1, h2⟩ => ⟨c, r ++ cs, by rw [e, List.append_assoc], h1, Elts.snoc hx h2⟩
theorem Elts.at_ : ∀ {l : List α} {xs : List Value}, Elts E S w l xs → ∀ i (hi : i < l.length), ∃ cs, E.In S w l[i] cs ∧ ∀ j, j < E.k → xs[i * E.k + j]? = cs[j]?
  | [], _, _, i, hi => by simp at hi
  | x :: l, _, ⟨cs, r, e, h1, h2⟩, 0, _ => ⟨cs, h1, fun j hj => by rw [e, Nat.zero_mul, Nat.zero_add, List.getElem?_append_left (by rw [E.len h1]; exact hj)]⟩
  | x :: l, _, ⟨cs, r, e, h1, h2⟩, i + 1, hi => by
    obtain ⟨c, h3, h4⟩ := h2.at_ i (by simpa using hi)
    refine ⟨c, h3, fun j hj => ?_⟩
    rw [e, List.getElem?_append_right (by rw [E.len h1, Nat.add_mul]; omega), E.len h1, ← h4 j hj]
    congr 1
    rw [Nat.add_mul]; omega
/-- A row that lies in memory, in blocks of 'S', its elements too. -/
def InRow (E : Elt α) (S : Nat → Prop) (w : World) (l : List α) (a : Option Addr) : Prop :=
  ∀ i (hi : i < l.length), ∃ (b o : Nat) (cs : List Value), a = some ⟨b, o, none⟩ ∧ S b ∧ E.In S w l[i] cs ∧ ∀ j, j < E.k → w.cell? ⟨b, o + i * E.k + j, none⟩ = cs[j]?
theorem InRow.keep {l : List α} {a : Option Addr} (hb : ∀ (p : Addr) (v : Value), S p.block → w.cell? p = some v → w'.cell? p = some v) (h : InRow E S w l a) : InRow E S w' l a := fun i hi => by
  obtain ⟨b, o, cs, h1, h2, h3, h4⟩ := h i hi
  refine ⟨b, o, cs, h1, h2, E.keep hb h3, fun j hj => ?_⟩
  have := h4 j hj
  rw [List.getElem?_eq_getElem (by rw [E.len h3]; exact hj)] at this ⊢
  exact hb ⟨b, _, none⟩ _ h2 this
theorem InRow.mono {l : List α} {a : Option Addr} (hk : 0 < E.k) (hb : ∀ b, S b → b < w.heap.size → S' b) (h : InRow E S w l a) : InRow E S' w l a := fun i hi => by
  obtain ⟨b, o, cs, h1, h2, h3, h4⟩ := h i hi
  have := h4 0 hk
  rw [List.getElem?_eq_getElem (by rw [E.len h3]; exact hk)] at this
  exact ⟨b, o, cs, h1, hb b h2 (World.block_lt_of_cell? _ _ this), E.mono hb h3, h4⟩
theorem InRow.below {l : List α} {a : Option Addr} (h : InRow E S w l a) (hb : Below w.heap.size w w') : InRow E S w' l a := h.keep (fun p v _ hv => bkeeps hb p v hv)
theorem InRow.nil {a : Option Addr} : InRow E S w [] a := fun i hi => by simp at hi
/-- A row of the call's own, made by append: its block lies at or behind 'B', its elements' too, but in other blocks. -/
structure RowE (E : Elt α) (w : World) (B e : Nat) (ra : Option Addr) (rc n : Nat) (l : List α) : Prop where
  row : ∃ xs, w.ownsRow B e E.k (.slice ra n rc) n xs ∧ Elts E (fun b => B ≤ b ∧ (Value.slice ra n rc).ownBlock ≠ some b) w l xs
  len : n = l.length
variable {B e : Nat} {ra : Option Addr} {rc n : Nat} {l : List α}
theorem RowE.nil : RowE E w B e none 0 0 ([] : List α) := ⟨⟨[], World.ownsRow_nil _ _ _ _, rfl⟩, rfl⟩
theorem RowE.keep (h : RowE E w B e ra rc n l) (hb : ∀ b, B ≤ b → b < w.heap.size → w'.heap[b]? = w.heap[b]?) : RowE E w' B e ra rc n l := by
  obtain ⟨⟨xs, h1, h2⟩, h3⟩ := h
  refine ⟨⟨xs, ⟨h1.1, h1.2.imp id ?_⟩, h2.keep (fun p v hp hv => ?_)⟩, h3⟩
  · rintro ⟨g, cap, cur, e1, e2, e3, r⟩
    exact ⟨g, cap, cur, e1, e2, (hb g e2 (Array.getElem?_eq_some_iff.1 e3).1).trans e3, r⟩
  · have hlt := World.block_lt_of_cell? _ _ hv
    unfold World.cell? at hv ⊢
    rw [hb p.block hp.1 hlt]; exact hv
theorem RowE.below (h : RowE E w B e ra rc n l) (hb : Below w.heap.size w w') : RowE E w' B e ra rc n l := h.keep (fun b _ hlt => hb.block b hlt)
theorem RowE.upd {g : Nat} (h : RowE E w B e ra rc n l) (hu : Upd g w w') (hg : g < B) : RowE E w' B e ra rc n l := h.keep (fun b hB _ => hu.block b (by omega))
theorem RowE.lt (h : RowE E w B e ra rc n l) : ∀ b, (Value.slice ra n rc).ownBlock = some b → B ≤ b ∧ b < w.heap.size := by
  obtain ⟨⟨xs, h1, _⟩, _⟩ := h
  exact h1.lt
/-- What lies in the row, once it is whole. -/
theorem RowE.inRow (h : RowE E w B e ra rc n l) : InRow E (fun b => B ≤ b) w l ra ∧ n = l.length ∧ n ≤ rc ∧ rc ≤ maxLen := by
  obtain ⟨⟨xs, h1, h2⟩, rfl⟩ := h
  rcases h1.2 with ⟨e1, h0⟩ | ⟨g, cap, cur, e1, hg, hb, hc, hm, _, _⟩
  · simp only [Value.slice.injEq] at e1
    obtain ⟨_, _, rfl⟩ := e1
    exact ⟨fun i hi => by omega, rfl, by omega, by unfold maxLen; omega⟩
  · have e1' := e1
    simp only [Value.slice.injEq, true_and] at e1'
    obtain ⟨rfl, rfl⟩ := e1'
    refine ⟨fun i hi => ?_, rfl, hc, hm⟩
    obtain ⟨cs, h3, h4⟩ := h2.at_ i hi
    refine ⟨g, 0, cs, rfl, hg, E.mono (fun b hb _ => hb.1) h3, fun j hj => ?_⟩
    have hjl : j < cs.length := by rw [E.len h3]; exact hj
    have hx := h4 j hj
    rw [List.getElem?_eq_getElem hjl] at hx ⊢
    have := h1.cells (g := g) rfl _ _ hx
    rw [add_plain2] at this
    rwa [show 0 + i * E.k + j = 0 + (i * E.k + j) by omega]
/-! ### A row that is made whole, and filled one element after the other -/
variable {g : Nat} {D : List Value}
end
section
variable {α : Type} {E : Elt α} {P : Program} {w : World} {a : Act} {K : Act → World → Prop} {Q : Exit → Act → World → Prop} {o : Oper}
/-- One element more, by append. -/
theorem wp_appE {s x : Operand} {t e B : Nat} {z : Value} {size bytes n rc g1 : Nat} {ra : Option Addr} {l : List α} {y : α} {cs : List Value} (hk : E.k = size) (ht : P.underlying t = some (.slice e)) (hinfo : (P.info? e).map (fun i => (i.zero, i.size, i.bytes)) = some (some z, size, bytes)) (hzs : z.cells.size = size) (hsz : 0 < size)
    (ho : o.op = .call { callee := .builtin .append, args := #[s, x], argTypes := #[t, t] }) (hs : a.eval s = .slice ra n rc) (hx : a.eval x = .slice (some ⟨g1, 0, none⟩) 1 1) (hrow : RowE E w B e ra rc n l) (hB : Blk w g1 e cs.toArray) (hin : E.In (fun b => B ≤ b ∧ (Value.slice ra n rc).ownBlock ≠ some b) w y cs)
    (hb : (n + 1) * bytes ≤ 140737488355328) (hn : n + 1 ≤ 9223372036854775807) (hbase : B ≤ w.heap.size) (hK : ∀ ra' rc' w', RowE E w' B e ra' rc' (n + 1) (l ++ [y]) → Chg (fun b => (Value.slice ra n rc).ownBlock = some b) w w' → KeepsFrom 0 w w' → K (a.put o.dst (.slice ra' (n + 1) rc')) w') : o.wp P a w K Q := by
  subst hk
  obtain ⟨⟨xs, h1, h2⟩, rfl⟩ := hrow
  refine wp_app (m := 1) (news := cs) ht hinfo hzs hsz ho hs hx h1 (SrcIs.ofBlk hB) (by rw [E.len hin]; omega) (E.one hin) hb hn hbase (fun ra' rc' w' h => hK _ _ _ ?_ ⟨h.grow.os, h.grow.tape, h.grow.output, h.grow.size, fun k hk hSk => h.grow.block k hk (fun e => hSk e.symm)⟩ ?_)
  · have key : ∀ (p : Addr) (v : Value), (Value.slice ra l.length rc).ownBlock ≠ some p.block → w.cell? p = some v → w'.cell? p = some v := fun p v hp hv => h.grow.cell hv (Ne.symm hp)
    refine ⟨⟨xs ++ cs, h.own, ?_⟩, by simp⟩
    have far : ∀ b, (B ≤ b ∧ (Value.slice ra l.length rc).ownBlock ≠ some b) ∧ b < w.heap.size → B ≤ b ∧ (Value.slice ra' (l.length + 1) rc').ownBlock ≠ some b := fun b hb => ⟨hb.1.1, fun e => by
      rcases h.at_ with e2 | e2
      · exact hb.1.2 (e2 ▸ e)
      · rw [e2] at e; have := Option.some.inj e; omega⟩
    refine Elts.mono (fun b hb _ => far b hb) (Elts.keep (w := w) (fun p v hp hv => key p v hp.1.2 hv) ?_)
    exact Elts.snoc (E.mono (fun b hb hlt => ⟨hb, hlt⟩) hin) (Elts.mono (fun b hb hlt => ⟨hb, hlt⟩) h2)
  · refine ⟨h.grow.size, fun k o _ hk ho => (h.grow.block k (Array.getElem?_eq_some_iff.1 hk).1 (fun e => ?_)).trans hk⟩
    rcases h1.2 with ⟨e1, _⟩ | ⟨g, cap, cur, e1, _, e3, _⟩
    · rw [e1] at e; cases e
    · rw [e1] at e
      have : k = g := by simpa [Value.ownBlock] using e
      subst this
      rw [show w.heap[k]? = _ from e3] at hk
      obtain rfl := Option.some.inj hk
      cases ho
end
section
variable {P : Program} {w : World} {a : Act} {K : Act → World → Prop} {Q : Exit → Act → World → Prop} {o : Oper}
theorem wp_mkE {t e : Nat} {x y : Operand} {n size bytes : Nat} {z : Value} (ht : P.underlying t = some (.slice e)) (hinfo : (P.info? e).map (fun i => (i.zero, i.size, i.bytes)) = some (some z, size, bytes)) (hbytes : bytes ≤ 4096) (ho : o.op = .makeSlice t x y) (hx : a.eval x = .int .i64 (n : Int)) (hy : a.eval y = .int .i64 (n : Int)) (hn : n ≤ 4294967296)
    (hK : K (a.put o.dst (.slice (some ⟨w.heap.size, 0, none⟩) n n)) (w.alloc (.cells (madeCells z.cells (n * size)) e))) : o.wp P a w K Q := by
  obtain ⟨i, hi, hz0, hz1, hz2⟩ := info_parts hinfo
  have hb : n * bytes ≤ 4294967296 * 4096 := Nat.mul_le_mul hn hbytes
  have hb2 : bytes * n ≤ 4294967296 * 4096 := by rw [Nat.mul_comm]; exact hb
  have hr := run_make (P := P) w t e i z ht hi hz0 .i64 .i64 n n (by omega) (Int.le_refl _) (by rw [hz2]; (try simp only [Int.toNat_natCast]); omega) (by omega)
  simp only [Int.toNat_natCast, hz1] at hr
  unfold Oper.wp execOp
  simp only [ho, hx, hy, Sem.run_bind, Sem.run_pure, hr, Result.andThen_ok]
  exact hK
end
/-! ### Integers, as elements -/
def eltI : Elt Int where
  k := 1
  In := fun _ _ x cs => cs = [.int .i64 x]
  keep := fun _ h => h
  mono := fun _ h => h
  len := fun h => by rw [h]; rfl
  one := fun h v hv => by rw [h] at hv; simp at hv; subst hv; rfl
end Go.Proofs.Ytibncmnmjhimeaa

/- Regions in whatever order, in which what is made comes first and, last, one thing is written ('row[i] = f(..)'), or two ('box = append(box, f(..))'). -/
namespace Go.Proofs.Ytibncmnmjhimeaa
open Go.RowKit Go
set_option linter.unusedVariables false
set_option linter.unusedSimpArgs false
/-- What an operation yields: a value, or one of which something holds that blocks of 'S' do not touch. -/
inductive SpS (S : Nat → Prop) where
 | val (x : Value)
 | mem (p : Value → World → Prop) (h : ∀ v w w', Chg S w w' → p v w → p v w')
def SpS.holds {S : Nat → Prop} : SpS S → Value → World → Prop
 | .val x, v, _ => v = x
 | .mem p _, v, w => p v w
def optS {S : Nat → Prop} (l : List (Bool × SpS S)) (i : Nat) (v : Value) (w : World) : Prop := ((l.getD i (true, .val undef)).1 = true → (l.getD i (true, .val undef)).2.holds v w) ∧ ((l.getD i (true, .val undef)).1 = false → v = undef)
theorem optSKeep {S : Nat → Prop} (l : List (Bool × SpS S)) (i : Nat) (v : Value) (w w' : World) (h : optS l i v w) (hb : Chg S w w') : optS l i v w' := by
 refine ⟨fun e => ?_, h.2⟩
 have := h.1 e
 generalize (l.getD i (true, .val undef)).2 = s at *
 cases s with
 | val x => exact this
 | mem p hp => exact hp _ _ _ hb this
theorem optSVal {S : Nat → Prop} {l : List (Bool × SpS S)} {i : Nat} {v x : Value} {w : World} {β : Bool} (h : optS l i v w) (e : l.getD i (true, .val undef) = (β, .val x)) (hβ : β = true) : v = x := by
 have := h.1 (by rw [e]; exact hβ)
 rw [e] at this
 exact this
theorem optSMem {S : Nat → Prop} {l : List (Bool × SpS S)} {i : Nat} {v : Value} {w : World} {β : Bool} {p : Value → World → Prop} {hp : ∀ v w w', Chg S w w' → p v w → p v w'} (h : optS l i v w) (e : l.getD i (true, .val undef) = (β, .mem p hp)) (hβ : β = true) : p v w := by
 have := h.1 (by rw [e]; exact hβ)
 rw [e] at this
 exact this
/-- A row of one, new. -/
def OneRow {α : Type} (E : Elt α) (w0 : World) (e : TypeId) (x : α) (v : Value) (w : World) : Prop := ∃ g cs, v = .slice (some ⟨g, 0, none⟩) 1 1 ∧ w0.heap.size ≤ g ∧ Blk w g e cs.toArray ∧ E.In (fun b => w0.heap.size ≤ b) w x cs
theorem OneRow.chg {α : Type} {E : Elt α} {w0 w w' : World} {e : TypeId} {x : α} {v : Value} {S : Nat → Prop} (h : OneRow E w0 e x v w) (hc : Chg S w w') (hS : ∀ b, S b → b < w0.heap.size) : OneRow E w0 e x v w' := by
 obtain ⟨g, cs, e1, h1, h2, h3⟩ := h
 exact ⟨g, cs, e1, h1, chg_blk h2 hc (fun hs => by have := hS g hs; omega), Elt.chg h3 hc (fun b hb hs => by have := hS b hs; omega)⟩
section
variable {P : Program} {ops : Array Oper} {S : Nat → Prop}
/-- What an operation finds that does not write. -/
structure CtxA (ops : Array Oper) (l : List (Bool × SpS S)) (chain : List Nat) (first : Nat) (n : Fr) (K : Known) (w0 : World) (i : Nat) (o : Oper) (a : Act) (w : World) : Prop where
 chg : Chg S w0 w
 kn : Kn n K a
 dep : ∀ j d, depB ops o j d = true → chain.contains j = false → optS l j (a.tmps.getD d undef) w
 early : (ancL ops first).contains i = true → Below w0.heap.size w0 w
/-- What an operation finds that writes first. -/
structure CtxB (ops : Array Oper) (l : List (Bool × SpS S)) (chain : List Nat) (n : Fr) (K : Known) (w0 : World) (o : Oper) (a : Act) (w : World) : Prop where
 below : Below w0.heap.size w0 w
 kn : Kn n K a
 dep : ∀ j d, depB ops o j d = true → chain.contains j = false → optS l j (a.tmps.getD d undef) w
def Tail1 (P : Program) (ops : Array Oper) (Q : Exit → Act → World → Prop) (l : List (Bool × SpS S)) (n : Fr) (K : Known) (w0 : World) (q : Nat) (GS : World → Prop) : Nat → List Oper → Prop
 | _, [] => True
 | i, o :: r => (([q].contains i = false ∧ ∃ β, GuardIs (optS l) o β ∧ (∀ g b, o.guard = some (g, b) → [q].contains g = false) ∧ (β = false → ∀ w, optS l i undef w) ∧
   (β = true → ∀ a w, CtxA ops l [q] q n K w0 i o a w → o.wp P a w (fun a' w' => ∃ v, a' = Act.put a o.dst v ∧ Below w.heap.size w w' ∧ optS l i v w') Q)) ∨
  (i = q ∧ o.guard = none ∧ ∀ a w, CtxB ops l [q] n K w0 o a w → o.wp P a w (fun a' w' => ∃ v, a' = Act.put a o.dst v ∧ GS w' ∧ Chg S w w') Q)) ∧ Tail1 P ops Q l n K w0 q GS (i + 1) r
def G1 (S : Nat → Prop) (w0 : World) (GS : World → Prop) : List (Option Value) → World → Prop
 | [none], w => Below w0.heap.size w0 w
 | [some _], w => GS w ∧ Chg S w0 w
 | _, _ => False
theorem Tail1.gen {Q : Exit → Act → World → Prop} {l : List (Bool × SpS S)} {n : Fr} {K : Known} {w0 : World} {q : Nat} {GS : World → Prop} (hGS : ∀ w w', Below w.heap.size w w' → GS w → GS w') : ∀ {lo : List Oper} {i : Nat}, Tail1 P ops Q l n K w0 q GS i lo →
  SoundFromG P ops Q [q] (optS l) (Chg S) (G1 S w0 GS) n K i lo
 | [], _, _ => trivial
 | o :: r, i, ⟨h, hr⟩ => by
  refine ⟨?_, hr.gen hGS⟩
  rcases h with ⟨hi, β, h1, h2, h3, h4⟩ | ⟨rfl, hg, h4⟩
  ·refine .inl ⟨hi, β, h1, h2, h3, fun hβ a w vs C => ?_⟩
   have hc : Chg S w0 w := by
    match vs, C.len, C.now with
    | [none], _, h => exact .ofBelow h
    | [some _], _, h => exact h.2
   refine Oper.wpIn_mono ?_ (wpIn_of (h4 hβ a w ⟨hc, C.kn, C.dep, fun he => ?_⟩) (by rintro a' w' ⟨v, rfl, _⟩; exact put_defers _ _ _))
   ·rintro a' w' ⟨v, rfl, hb, hR⟩
    refine ⟨v, rfl, .ofBelow hb, ?_, hR⟩
    match vs, C.len, C.now with
    | [none], _, h => exact bstep h hb
    | [some _], _, h => exact ⟨hGS _ _ hb h.1, h.2.trans (.ofBelow hb)⟩
   ·have := C.mostT 0 q rfl he
    match vs, C.len, C.now, this with
    | [none], _, h, _ => exact h
  ·refine .inr ⟨0, rfl, hg, fun a w vs C hn => ?_⟩
   match vs, C.len, C.now, hn, C with
   | [none], _, h, _, C =>
    refine Oper.wpIn_mono ?_ (wpIn_of (h4 a w ⟨h, C.kn, C.dep⟩) (by rintro a' w' ⟨v, rfl, _⟩; exact put_defers _ _ _))
    rintro a' w' ⟨v, rfl, hG, hc⟩
    exact ⟨v, rfl, hc, hG, (Chg.ofBelow h).trans hc⟩
theorem WC.tail1 {id : Nat} {dr : Bool} {Q : Exit → Act → World → Prop} {n : Fr} {K : Known} {w : World} (l : List (Bool × SpS S)) (K0 : Known) (q : Nat) (GS : World → Prop) (hGS : ∀ w w', Below w.heap.size w w' → GS w → GS w')
  (hs : subK K0 K) (hclear : clearB ops K0 = true) (hm : P.follows .mixedOrders = true) (hB : opsB ops n.n = true) (hin : ([q].all fun c => Nat.blt c ops.size) = true)
  (h : Tail1 P ops Q l n K0 w q GS 0 ops.toList)
  (hQ : ∀ (a : Act) (w' : World), Kn n K0 a → GS w' → Chg S w w' → (∀ i d, (ops[i]?).bind (·.dst) = some d → [q].contains i = false → optS l i (a.tmps.getD d undef) w') → Q .normal a w') :
  WC P n K w (.region id ops dr) Q := by
 refine WC.gen [q] (optS l) (Chg S) (G1 S w GS) K0 hs hclear hm hB (by simp) hin (optSKeep l) ?_ (h.gen hGS) (fun a w' vs hk hlen hall hG hu _ => ?_)
 ·cases dr with
  | true => exact (Below.refl _ _).drew
  | false => exact Below.refl _ _
 ·obtain ⟨v, hv⟩ := hall 0 (by simp)
  match vs, hlen, hv, hG with
  | [some _], _, _, hG => exact hQ a w' hk hG.1 hG.2 hu
def Tail2 (P : Program) (ops : Array Oper) (Q : Exit → Act → World → Prop) (l : List (Bool × SpS S)) (n : Fr) (K : Known) (w0 : World) (p q N : Nat) (GA GS : Option Addr → Nat → World → Prop) : Nat → List Oper → Prop
 | _, [] => True
 | i, o :: r => (([p, q].contains i = false ∧ ∃ β, GuardIs (optS l) o β ∧ (∀ g b, o.guard = some (g, b) → [p, q].contains g = false) ∧ (β = false → ∀ w, optS l i undef w) ∧
   (β = true → ∀ a w, CtxA ops l [p, q] p n K w0 i o a w → o.wp P a w (fun a' w' => ∃ v, a' = Act.put a o.dst v ∧ Below w.heap.size w w' ∧ optS l i v w') Q)) ∨
  (i = p ∧ o.guard = none ∧ ∀ a w, CtxB ops l [p, q] n K w0 o a w → o.wp P a w (fun a' w' => ∃ ra rc, a' = Act.put a o.dst (.slice ra N rc) ∧ GA ra rc w' ∧ Chg S w w') Q) ∨
  (i = q ∧ o.guard = none ∧ ∃ d, depB ops o p d = true ∧ ∀ a w ra rc, Kn n K a → (∀ j d, depB ops o j d = true → [p, q].contains j = false → optS l j (a.tmps.getD d undef) w) → a.tmps.getD d undef = .slice ra N rc → GA ra rc w → o.wp P a w (fun a' w' => ∃ v, a' = Act.put a o.dst v ∧ GS ra rc w' ∧ Chg S w w') Q)) ∧ Tail2 P ops Q l n K w0 p q N GA GS (i + 1) r
def G2 (S : Nat → Prop) (w0 : World) (N : Nat) (GA GS : Option Addr → Nat → World → Prop) : List (Option Value) → World → Prop
 | [none, none], w => Below w0.heap.size w0 w
 | [some v, none], w => ∃ ra rc, v = .slice ra N rc ∧ GA ra rc w ∧ Chg S w0 w
 | [some v, some _], w => ∃ ra rc, v = .slice ra N rc ∧ GS ra rc w ∧ Chg S w0 w
 | _, _ => False
theorem G2.chg {w0 w : World} {N : Nat} {GA GS : Option Addr → Nat → World → Prop} : ∀ {vs : List (Option Value)}, G2 S w0 N GA GS vs w → Chg S w0 w
 | [none, none], h => .ofBelow h
 | [some _, none], h => by obtain ⟨_, _, _, _, h⟩ := h; exact h
 | [some _, some _], h => by obtain ⟨_, _, _, _, h⟩ := h; exact h
 | [none, some _], h => h.elim
 | [], h => h.elim
 | [x], h => by cases x <;> exact h.elim
 | _ :: _ :: _ :: _, h => by simp [G2] at h
theorem Tail2.gen {Q : Exit → Act → World → Prop} {l : List (Bool × SpS S)} {n : Fr} {K : Known} {w0 : World} {p q N : Nat} {GA GS : Option Addr → Nat → World → Prop} (hpq : p ≠ q) (hGA : ∀ ra rc w w', Below w.heap.size w w' → GA ra rc w → GA ra rc w') (hGS : ∀ ra rc w w', Below w.heap.size w w' → GS ra rc w → GS ra rc w') : ∀ {lo : List Oper} {i : Nat}, Tail2 P ops Q l n K w0 p q N GA GS i lo →
  SoundFromG P ops Q [p, q] (optS l) (Chg S) (G2 S w0 N GA GS) n K i lo
 | [], _, _ => trivial
 | o :: r, i, ⟨h, hr⟩ => by
  refine ⟨?_, hr.gen hpq hGA hGS⟩
  rcases h with ⟨hi, β, h1, h2, h3, h4⟩ | ⟨rfl, hg, h4⟩ | ⟨rfl, hg, d, hd, h4⟩
  ·refine .inl ⟨hi, β, h1, h2, h3, fun hβ a w vs C => ?_⟩
   refine Oper.wpIn_mono ?_ (wpIn_of (h4 hβ a w ⟨C.now.chg, C.kn, C.dep, fun he => ?_⟩) (by rintro a' w' ⟨v, rfl, _⟩; exact put_defers _ _ _))
   ·rintro a' w' ⟨v, rfl, hb, hR⟩
    refine ⟨v, rfl, .ofBelow hb, ?_, hR⟩
    match vs, C.len, C.now with
    | [none, none], _, h => exact bstep h hb
    | [some _, none], _, ⟨ra, rc, e, h, hc⟩ => exact ⟨ra, rc, e, hGA _ _ _ _ hb h, hc.trans (.ofBelow hb)⟩
    | [some _, some _], _, ⟨ra, rc, e, h, hc⟩ => exact ⟨ra, rc, e, hGS _ _ _ _ hb h, hc.trans (.ofBelow hb)⟩
    | [none, some _], _, h => exact h.elim
   ·have := C.mostT 0 p rfl he
    match vs, C.len, C.now, this with
    | [none, none], _, h, _ => exact h
    | [none, some _], _, h, _ => exact h.elim
  ·refine .inr ⟨0, rfl, hg, fun a w vs C hn => ?_⟩
   match vs, C.len, C.now, hn, C with
   | [none, none], _, h, _, C =>
    refine Oper.wpIn_mono ?_ (wpIn_of (h4 a w ⟨h, C.kn, C.dep⟩) (by rintro a' w' ⟨_, _, rfl, _⟩; exact put_defers _ _ _))
    rintro a' w' ⟨ra, rc, rfl, hG, hc⟩
    exact ⟨_, rfl, hc, ra, rc, rfl, hG, (Chg.ofBelow h).trans hc⟩
   | [none, some _], _, h, _, _ => exact h.elim
  ·refine .inr ⟨1, rfl, hg, fun a w vs C hn => ?_⟩
   have hl := C.link 0 p d rfl hd
   match vs, C.len, C.now, hn, hl, C with
   | [some v, none], _, ⟨ra, rc, e, h, hc⟩, _, hl, C =>
    have hv : v = a.tmps.getD d undef := by simpa using hl
    refine Oper.wpIn_mono ?_ (wpIn_of (h4 a w ra rc C.kn C.dep (hv ▸ e) h) (by rintro a' w' ⟨v, rfl, _⟩; exact put_defers _ _ _))
    rintro a' w' ⟨u, rfl, hG, hc2⟩
    exact ⟨u, rfl, hc2, ra, rc, e, hG, hc.trans hc2⟩
theorem WC.tail2 {id : Nat} {dr : Bool} {Q : Exit → Act → World → Prop} {n : Fr} {K : Known} {w : World} (l : List (Bool × SpS S)) (K0 : Known) (p q N dp : Nat) (GA GS : Option Addr → Nat → World → Prop) (hpq : p ≠ q) (hGA : ∀ ra rc w w', Below w.heap.size w w' → GA ra rc w → GA ra rc w') (hGS : ∀ ra rc w w', Below w.heap.size w w' → GS ra rc w → GS ra rc w')
  (hs : subK K0 K) (hclear : clearB ops K0 = true) (hm : P.follows .mixedOrders = true) (hB : opsB ops n.n = true) (hin : ([p, q].all fun c => Nat.blt c ops.size) = true) (hdp : (ops[p]?).bind (·.dst) = some dp)
  (h : Tail2 P ops Q l n K0 w p q N GA GS 0 ops.toList)
  (hQ : ∀ (a : Act) (w' : World) (ra : Option Addr) (rc : Nat), Kn n K0 a → a.tmps.getD dp undef = .slice ra N rc → GS ra rc w' → Chg S w w' → (∀ i d, (ops[i]?).bind (·.dst) = some d → [p, q].contains i = false → optS l i (a.tmps.getD d undef) w') → Q .normal a w') :
  WC P n K w (.region id ops dr) Q := by
 refine WC.gen [p, q] (optS l) (Chg S) (G2 S w N GA GS) K0 hs hclear hm hB (by simpa using hpq) hin (optSKeep l) ?_ (h.gen hpq hGA hGS) (fun a w' vs hk hlen hall hG hu hl => ?_)
 ·cases dr with
  | true => exact (Below.refl _ _).drew
  | false => exact Below.refl _ _
 ·obtain ⟨v, hv⟩ := hall 0 (by simp)
  obtain ⟨u, hu1⟩ := hall 1 (by simp)
  have hx := hl 0 p dp rfl hdp
  match vs, hlen, hv, hu1, hx, hG with
  | [some y, some _], _, _, _, hx, ⟨ra, rc, e, hG, hc⟩ =>
   have hy : y = a.tmps.getD dp undef := by simpa using hx
   exact hQ a w' ra rc hk (hy ▸ e) hG hc hu
end
end Go.Proofs.Ytibncmnmjhimeaa

/- Terms that lie within blocks of 'S'; rows of terms that are made. -/
namespace Go.Proofs.Ytibncmnmjhimeaa
open Go.RowKit Go
set_option linter.unusedVariables false
set_option linter.unusedSimpArgs false
mutual
/-- The value 'v' is the term 't', and all its rows lie in blocks of 'S'. -/
def InT (S : Nat → Prop) (w : World) : T → Value → Prop
  | .mk f l, v => I64 f ∧ ∃ (a : Option Addr) (c : Nat), v = .agg #[.int .i64 f, .slice a l.length c] ∧ l.length ≤ c ∧ c ≤ maxLen ∧ InTs S w l a 0
def InTs (S : Nat → Prop) (w : World) : List T → Option Addr → Nat → Prop
  | [], _, _ => True
  | t :: r, a, i => (∃ (b o : Nat) (u v : Value), a = some ⟨b, o, none⟩ ∧ S b ∧ w.cell? ⟨b, o + i * 2, none⟩ = some u ∧ w.cell? ⟨b, o + i * 2 + 1, none⟩ = some v ∧ InT S w t (.agg #[u, v])) ∧ InTs S w r a (i + 1)
end
mutual
theorem InT.keep {S : Nat → Prop} {w w' : World} (hb : ∀ (p : Addr) (x : Value), S p.block → w.cell? p = some x → w'.cell? p = some x) : ∀ {t : T} {v : Value}, InT S w t v → InT S w' t v
  | .mk _ _, _, ⟨h0, a, c, h1, h2, h3, h4⟩ => ⟨h0, a, c, h1, h2, h3, InTs.keep hb h4⟩
theorem InTs.keep {S : Nat → Prop} {w w' : World} (hb : ∀ (p : Addr) (x : Value), S p.block → w.cell? p = some x → w'.cell? p = some x) : ∀ {l : List T} {a : Option Addr} {i : Nat}, InTs S w l a i → InTs S w' l a i
  | [], _, _, _ => trivial
  | _ :: _, _, _, ⟨⟨b, o, u, v, ha, hs, h1, h2, h3⟩, h4⟩ => ⟨⟨b, o, u, v, ha, hs, hb ⟨b, _, none⟩ _ hs h1, hb ⟨b, _, none⟩ _ hs h2, InT.keep hb h3⟩, InTs.keep hb h4⟩
end
mutual
theorem InT.mono {S S' : Nat → Prop} {w : World} (hb : ∀ b, S b → b < w.heap.size → S' b) : ∀ {t : T} {v : Value}, InT S w t v → InT S' w t v
  | .mk _ _, _, ⟨h0, a, c, h1, h2, h3, h4⟩ => ⟨h0, a, c, h1, h2, h3, InTs.mono hb h4⟩
theorem InTs.mono {S S' : Nat → Prop} {w : World} (hb : ∀ b, S b → b < w.heap.size → S' b) : ∀ {l : List T} {a : Option Addr} {i : Nat}, InTs S w l a i → InTs S' w l a i
  | [], _, _, _ => trivial
  | _ :: _, _, _, ⟨⟨b, o, u, v, ha, hs, h1, h2, h3⟩, h4⟩ => ⟨⟨b, o, u, v, ha, hb _ hs (World.block_lt_of_cell? _ _ h1), h1, h2, InT.mono hb h3⟩, InTs.mono hb h4⟩
end
mutual
theorem InT.isT {S : Nat → Prop} {w : World} : ∀ {t : T} {v : Value}, InT S w t v → IsT w t v
  | .mk _ _, _, ⟨h0, a, c, h1, h2, h3, h4⟩ => ⟨h0, a, c, h1, h2, h3, InTs.isTs h4⟩
theorem InTs.isTs {S : Nat → Prop} {w : World} : ∀ {l : List T} {a : Option Addr} {i : Nat}, InTs S w l a i → IsTs w l a i
  | [], _, _, _ => trivial
  | _ :: _, _, _, ⟨⟨b, o, u, v, ha, hs, h1, h2, h3⟩, h4⟩ => ⟨⟨b, o, u, v, ha, h1, h2, InT.isT h3⟩, InTs.isTs h4⟩
end
mutual
theorem IsT.inT {w : World} : ∀ {t : T} {v : Value}, IsT w t v → InT (fun b => b < w.heap.size) w t v
  | .mk _ _, _, ⟨h0, a, c, h1, h2, h3, h4⟩ => ⟨h0, a, c, h1, h2, h3, IsTs.inTs h4⟩
theorem IsTs.inTs {w : World} : ∀ {l : List T} {a : Option Addr} {i : Nat}, IsTs w l a i → InTs (fun b => b < w.heap.size) w l a i
  | [], _, _, _ => trivial
  | _ :: _, _, _, ⟨⟨b, o, u, v, ha, h1, h2, h3⟩, h4⟩ => ⟨⟨b, o, u, v, ha, World.block_lt_of_cell? _ _ h1, h1, h2, IsT.inT h3⟩, IsTs.inTs h4⟩
end
theorem InT.below {S : Nat → Prop} {w w' : World} (hb : Below w.heap.size w w') {t : T} {v : Value} (h : InT S w t v) : InT S w' t v := h.keep fun p x _ hx => bkeeps hb p x hx
theorem InT.form {S : Nat → Prop} {w : World} {t : T} {v : Value} (h : InT S w t v) : I64 t.f ∧ ∃ (a : Option Addr) (c : Nat), v = .agg #[.int .i64 t.f, .slice a t.args.length c] ∧ t.args.length ≤ c ∧ c ≤ maxLen ∧ InTs S w t.args a 0 := by
  cases t; exact h
theorem InTs.at0 {S : Nat → Prop} {w : World} {l : List T} : ∀ {a : Option Addr} {i : Nat}, InTs S w l a i → ∀ k (hk : k < l.length),
    ∃ (b o : Nat) (u v : Value), a = some ⟨b, o, none⟩ ∧ S b ∧ w.cell? ⟨b, o + (i + k) * 2, none⟩ = some u ∧ w.cell? ⟨b, o + (i + k) * 2 + 1, none⟩ = some v ∧ InT S w l[k] (.agg #[u, v]) := by
  induction l with
  | nil => intro a i _ k hk; simp at hk
  | cons t r ih =>
    intro a i h k hk
    obtain ⟨h0, h1⟩ := h
    cases k with
    | zero => exact h0
    | succ k =>
      obtain ⟨b, o, u, v, h2, h3, h4, h5, h6⟩ := ih h1 k (by simpa using hk)
      refine ⟨b, o, u, v, h2, h3, ?_, ?_, by simpa using h6⟩
      · rw [show i + (k + 1) = i + 1 + k by omega]; exact h4
      · rw [show i + (k + 1) = i + 1 + k by omega]; exact h5
theorem InTs.at_ {S : Nat → Prop} {w : World} {l : List T} {a : Option Addr} (h : InTs S w l a 0) (k : Nat) (hk : k < l.length) :
    ∃ (b o : Nat) (u v : Value), a = some ⟨b, o, none⟩ ∧ S b ∧ w.cell? ⟨b, o + k * 2, none⟩ = some u ∧ w.cell? ⟨b, o + k * 2 + 1, none⟩ = some v ∧ InT S w l[k] (.agg #[u, v]) := by
  have := h.at0 k hk
  simpa using this
theorem InTs.of_at0 {S : Nat → Prop} {w : World} {a : Option Addr} : ∀ {l : List T} {i : Nat}, (∀ k (hk : k < l.length), ∃ (b o : Nat) (u v : Value), a = some ⟨b, o, none⟩ ∧ S b ∧ w.cell? ⟨b, o + (i + k) * 2, none⟩ = some u ∧ w.cell? ⟨b, o + (i + k) * 2 + 1, none⟩ = some v ∧ InT S w l[k] (.agg #[u, v])) → InTs S w l a i
  | [], _, _ => trivial
  | _ :: r, i, h => ⟨h 0 (by simp), InTs.of_at0 fun k hk => by
      obtain ⟨b, o, u, v, h1, h2, h3, h4, h5⟩ := h (k + 1) (by simpa using hk)
      refine ⟨b, o, u, v, h1, h2, ?_, ?_, by simpa using h5⟩
      · rw [show i + 1 + k = i + (k + 1) by omega]; exact h3
      · rw [show i + 1 + k = i + (k + 1) by omega]; exact h4⟩
theorem InT.chg {S S2 : Nat → Prop} {w w' : World} {t : T} {v : Value} (h : InT S w t v) (hc : Chg S2 w w') (hS : ∀ b, S b → ¬ S2 b) : InT S w' t v := h.keep fun p x hp hx => by
  have hb := World.block_lt_of_cell? _ _ hx
  unfold World.cell? at hx ⊢
  rw [hc.block p.block hb (hS _ hp)]; exact hx
def eltT : Elt T where
  k := 2
  In := fun S w t cs => ∃ u v, cs = [u, v] ∧ InT S w t (.agg #[u, v])
  keep := fun hb ⟨u, v, e, h⟩ => ⟨u, v, e, h.keep hb⟩
  mono := fun hb ⟨u, v, e, h⟩ => ⟨u, v, e, h.mono hb⟩
  len := fun ⟨_, _, e, _⟩ => by rw [e]; rfl
  one := fun ⟨u, v, e, h⟩ x hx => by
    obtain ⟨_, a, c, e2, _⟩ := h.form
    simp only [Value.agg.injEq, Array.mk.injEq, List.cons.injEq, and_true] at e2
    rw [e] at hx
    simp only [List.mem_cons, List.not_mem_nil, or_false] at hx
    rcases hx with rfl | rfl
    · rw [e2.1]; rfl
    · rw [e2.2]; rfl
theorem InRow.ts {S : Nat → Prop} {w : World} {l : List T} {a : Option Addr} (h : InRow eltT S w l a) : InTs S w l a 0 := InTs.of_at0 fun k hk => by
  obtain ⟨b, o, cs, h1, h2, ⟨u, v, rfl, h3⟩, h4⟩ := h k hk
  have c0 := h4 0 (by decide)
  have c1 := h4 1 (by decide)
  refine ⟨b, o, u, v, h1, h2, ?_, ?_, h3⟩
  · rw [Nat.zero_add]; exact c0
  · rw [Nat.zero_add]; exact c1
/-- A term in memory that has come since 'w0'. -/
abbrev NewT (w0 w : World) (t : T) (v : Value) : Prop := InT (fun b => w0.heap.size ≤ b) w t v
theorem newT_mk {w0 w : World} {f : Int} {ts : List T} {a : Option Addr} {n c : Nat} (hf : I64 f) (hn : n = ts.length) (hc : n ≤ c) (hm : c ≤ maxLen) (h : InRow eltT (fun b => w0.heap.size ≤ b) w ts a) : NewT w0 w (.mk f ts) (.agg #[.int .i64 f, .slice a n c]) := by
  subst hn
  exact ⟨hf, a, c, rfl, hc, hm, h.ts⟩
theorem newT_row {w0 w : World} {B e : Nat} {f : Int} {ts : List T} {ra : Option Addr} {n rc : Nat} (hf : I64 f) (h : RowE eltT w B e ra rc n ts) (hB : w0.heap.size ≤ B) : NewT w0 w (.mk f ts) (.agg #[.int .i64 f, .slice ra n rc]) := by
  obtain ⟨h1, h2, h3, h4⟩ := h.inRow
  exact newT_mk hf h2 h3 h4 (h1.mono (by decide) (fun b hb _ => Nat.le_trans hB hb))
end Go.Proofs.Ytibncmnmjhimeaa

namespace Go.Proofs.Ytibncmnmjhimeaa
open Go.RowKit Go
set_option linter.unusedVariables false
set_option linter.unusedSimpArgs false
structure Bd where
  var : Int
  t : T
instance : Inhabited Bd := ⟨⟨0, .mk 0 []⟩⟩
def eltB : Elt Bd where
  k := 3
  In := fun S w x cs => ∃ u v, cs = [.int .i64 x.var, u, v] ∧ I64 x.var ∧ InT S w x.t (.agg #[u, v])
  keep := fun hb ⟨u, v, e, h0, h⟩ => ⟨u, v, e, h0, h.keep hb⟩
  mono := fun hb ⟨u, v, e, h0, h⟩ => ⟨u, v, e, h0, h.mono hb⟩
  len := fun ⟨_, _, e, _⟩ => by rw [e]; rfl
  one := fun ⟨u, v, e, _, h⟩ x hx => by
    obtain ⟨_, a, c, e2, _⟩ := h.form
    simp only [Value.agg.injEq, Array.mk.injEq, List.cons.injEq, and_true] at e2
    rw [e] at hx
    simp only [List.mem_cons, List.not_mem_nil, or_false] at hx
    rcases hx with rfl | rfl | rfl
    · rfl
    · rw [e2.1]; rfl
    · rw [e2.2]; rfl
def dget (l : List Bd) (k : Nat) : Bd := l.getD k default
theorem dget_lt {l : List Bd} {k : Nat} (h : k < l.length) : dget l k = l[k] := by simp [dget, h]
theorem dget_mem {l : List Bd} {k : Nat} (h : k < l.length) : dget l k ∈ l := by rw [dget_lt h]; exact List.getElem_mem h
theorem InRow.openB {S : Nat → Prop} {w : World} {l : List Bd} {a : Option Addr} (h : InRow eltB S w l a) : ∃ (b o : Nat) (A : Nat → Option Addr) (C : Nat → Nat), (∀ k, k < l.length → a = some ⟨b, o, none⟩) ∧
    ∀ k, k < l.length → w.cell? ⟨b, o + k * 3, none⟩ = some (.int .i64 (dget l k).var) ∧ w.cell? ⟨b, o + k * 3 + 1, none⟩ = some (.int .i64 (dget l k).t.f) ∧ w.cell? ⟨b, o + k * 3 + 2, none⟩ = some (.slice (A k) (dget l k).t.args.length (C k)) ∧
      InT S w (dget l k).t (.agg #[.int .i64 (dget l k).t.f, .slice (A k) (dget l k).t.args.length (C k)]) ∧ I64 (dget l k).var := by
  rcases Nat.eq_zero_or_pos l.length with h0 | h0
  · exact ⟨0, 0, fun _ => none, fun _ => 0, fun k hk => by omega, fun k hk => by omega⟩
  · obtain ⟨b, o, _, ha, _⟩ := h 0 h0
    have key : ∀ k, k < l.length → ∃ p : Option Addr × Nat, w.cell? ⟨b, o + k * 3, none⟩ = some (.int .i64 (dget l k).var) ∧ w.cell? ⟨b, o + k * 3 + 1, none⟩ = some (.int .i64 (dget l k).t.f) ∧ w.cell? ⟨b, o + k * 3 + 2, none⟩ = some (.slice p.1 (dget l k).t.args.length p.2) ∧
      InT S w (dget l k).t (.agg #[.int .i64 (dget l k).t.f, .slice p.1 (dget l k).t.args.length p.2]) ∧ I64 (dget l k).var := by
      intro k hk
      obtain ⟨b', o', cs, ha', _, ⟨u, v, rfl, h1, h2⟩, h3⟩ := h k hk
      rw [ha] at ha'
      simp only [Option.some.injEq, Addr.mk.injEq, and_true] at ha'
      obtain ⟨rfl, rfl⟩ := ha'
      obtain ⟨_, p, c, e, _, _, _⟩ := h2.form
      simp only [Value.agg.injEq, Array.mk.injEq, List.cons.injEq, and_true] at e
      obtain ⟨rfl, rfl⟩ := e
      rw [dget_lt hk]
      have c0 := h3 0 (by decide)
      have c1 := h3 1 (by decide)
      have c2 := h3 2 (by decide)
      exact ⟨(p, c), c0, c1, c2, h2, h1⟩
    have : Inhabited (Option Addr × Nat) := ⟨(none, 0)⟩
    obtain ⟨F, hF⟩ := Go.Deep.choose_lt key
    exact ⟨b, o, fun k => (F k).1, fun k => (F k).2, fun _ _ => ha, hF⟩
def Bd.itself (b : Bd) : Bool := decide (b.t.f = -1 - b.var) && decide (b.t.args.length = 0)
def subFind (l : List Bd) (v : Int) : Option T := (l.find? fun b => decide (b.var = v)).map (·.t)
end Go.Proofs.Ytibncmnmjhimeaa
