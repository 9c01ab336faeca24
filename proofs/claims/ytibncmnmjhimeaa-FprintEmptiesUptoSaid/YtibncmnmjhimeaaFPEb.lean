/- Copies of terms: the program and the document. -/
import Derived.Test.YtibncmnmjhimeaaFPEa
import Derived.ChangeKeysEq
import Derived.Laws.MakeOwn
import Derived.Test.YtibncmnmjhimeaaProg
import Derived.Shelf.SlGeneric
import Derived.Ground.SlgmProg
import Derived.Shelf.SortM.Plain
import Derived.Shelf.SortM.SortNone
import Derived.Shelf.Slices.CompactI
import Derived.Shelf.Slices.Empties
import Derived.Shelf.Slices.Turned
import Derived.Ground.NamesProg
import Derived.Ground.Names2Prog
import Derived.Sort.OwnSortedInts
import Derived.ArgAppend

/- Terms as finite trees, how they lie in memory, and that what reads as a term is one. -/
namespace Go.Proofs.Ytibncmnmjhimeaa
open Go.RowKit
inductive T where
  | mk (f : Int) (args : List T)
namespace T
def f : T → Int | .mk f _ => f
def args : T → List T | .mk _ a => a
mutual
def size : T → Nat
  | .mk _ l => 1 + sizeL l
def sizeL : List T → Nat
  | [] => 0
  | a :: r => size a + sizeL r
end
theorem ind {P : T → Prop} (h : ∀ f l, (∀ a ∈ l, P a) → P (.mk f l)) : ∀ t, P t := by
  intro t
  refine T.rec (motive_1 := P) (motive_2 := fun l => ∀ a ∈ l, P a) (fun f l ih => h f l ih) (by simp) (fun a r iha ihr => ?_) t
  intro b hb
  rcases List.mem_cons.1 hb with rfl | hb
  · exact iha
  · exact ihr b hb
theorem size_le_sizeL {a : T} {l : List T} (h : a ∈ l) : size a ≤ sizeL l := by
  induction l with
  | nil => simp at h
  | cons t r ih =>
    simp only [sizeL]
    rcases List.mem_cons.1 h with rfl | h
    · omega
    · have := ih h; omega
@[simp] theorem f_mk (f : Int) (l : List T) : (T.mk f l).f = f := rfl
@[simp] theorem args_mk (f : Int) (l : List T) : (T.mk f l).args = l := rfl
theorem size_eq (t : T) : t.size = 1 + sizeL t.args := by cases t; rfl
end T
mutual
/-- The value 'v' is the term 't' in the world 'w'. -/
def IsT (w : World) : T → Value → Prop
  | .mk f l, v => I64 f ∧ ∃ (a : Option Addr) (c : Nat), v = .agg #[.int .i64 f, .slice a l.length c] ∧ l.length ≤ c ∧ c ≤ maxLen ∧ IsTs w l a 0
/-- The row at the address 'a' holds from its i-th place on the terms 'l'. -/
def IsTs (w : World) : List T → Option Addr → Nat → Prop
  | [], _, _ => True
  | t :: r, a, i => (∃ (b o : Nat) (u v : Value), a = some ⟨b, o, none⟩ ∧ w.cell? ⟨b, o + i * 2, none⟩ = some u ∧ w.cell? ⟨b, o + i * 2 + 1, none⟩ = some v ∧ IsT w t (.agg #[u, v])) ∧ IsTs w r a (i + 1)
end
mutual
/-- Whatever keeps the old cells keeps a term. -/
theorem IsT.keep {w w' : World} (hb : ∀ (p : Addr) (x : Value), w.cell? p = some x → w'.cell? p = some x) : ∀ {t : T} {v : Value}, IsT w t v → IsT w' t v
  | .mk _ _, _, ⟨h0, a, c, h1, h2, h3, h4⟩ => ⟨h0, a, c, h1, h2, h3, IsTs.keep hb h4⟩
theorem IsTs.keep {w w' : World} (hb : ∀ (p : Addr) (x : Value), w.cell? p = some x → w'.cell? p = some x) : ∀ {l : List T} {a : Option Addr} {i : Nat}, IsTs w l a i → IsTs w' l a i
  | [], _, _, _ => trivial
  | _ :: _, _, _, ⟨⟨b, o, u, v, ha, h1, h2, h3⟩, h4⟩ => ⟨⟨b, o, u, v, ha, hb _ _ h1, hb _ _ h2, IsT.keep hb h3⟩, IsTs.keep hb h4⟩
end
theorem IsT.below {w w' : World} (hb : Below w.heap.size w w') {t : T} {v : Value} (h : IsT w t v) : IsT w' t v := h.keep (bkeeps hb)
theorem IsTs.below {w w' : World} (hb : Below w.heap.size w w') {l : List T} {a : Option Addr} {i : Nat} (h : IsTs w l a i) : IsTs w' l a i := h.keep (bkeeps hb)
theorem IsT.form {w : World} {t : T} {v : Value} (h : IsT w t v) : I64 t.f ∧ ∃ (a : Option Addr) (c : Nat), v = .agg #[.int .i64 t.f, .slice a t.args.length c] ∧ t.args.length ≤ c ∧ c ≤ maxLen ∧ IsTs w t.args a 0 := by
  cases t; exact h
theorem IsTs.at0 {w : World} {l : List T} : ∀ {a : Option Addr} {i : Nat}, IsTs w l a i → ∀ k (hk : k < l.length),
    ∃ (b o : Nat) (u v : Value), a = some ⟨b, o, none⟩ ∧ w.cell? ⟨b, o + (i + k) * 2, none⟩ = some u ∧ w.cell? ⟨b, o + (i + k) * 2 + 1, none⟩ = some v ∧ IsT w l[k] (.agg #[u, v]) := by
  induction l with
  | nil => intro a i _ k hk; simp at hk
  | cons t r ih =>
    intro a i h k hk
    obtain ⟨h0, h1⟩ := h
    cases k with
    | zero => exact h0
    | succ k =>
      have := ih h1 k (by simpa using hk)
      simpa [Nat.add_assoc, Nat.add_comm 1 k] using this
theorem IsTs.of_at {w : World} {l : List T} : ∀ {a : Option Addr} {i : Nat}, (∀ k (hk : k < l.length),
    ∃ (b o : Nat) (u v : Value), a = some ⟨b, o, none⟩ ∧ w.cell? ⟨b, o + (i + k) * 2, none⟩ = some u ∧ w.cell? ⟨b, o + (i + k) * 2 + 1, none⟩ = some v ∧ IsT w l[k] (.agg #[u, v])) → IsTs w l a i := by
  induction l with
  | nil => intro a i _; trivial
  | cons t r ih =>
    intro a i h
    refine ⟨h 0 (by simp), ih (fun k hk => ?_)⟩
    have := h (k + 1) (by simpa using hk)
    simpa [Nat.add_assoc, Nat.add_comm 1 k] using this
/-- A term that is an aggregate of two known cells, in its own form. -/
theorem IsT.cells {w : World} {t : T} {u v : Value} (h : IsT w t (.agg #[u, v])) : ∃ (a : Option Addr) (c : Nat), u = .int .i64 t.f ∧ v = .slice a t.args.length c := by
  obtain ⟨_, a, c, hv, _⟩ := h.form
  simp only [Value.agg.injEq, Array.mk.injEq, List.cons.injEq, and_true] at hv
  exact ⟨a, c, hv.1, hv.2⟩
theorem IsTs.at_ {w w' : World} {l : List T} {a : Option Addr} (h : IsTs w l a 0) (hb : Below w.heap.size w w') (k : Nat) (hk : k < l.length) :
    ∃ (b o : Nat) (a' : Option Addr) (c' : Nat), a = some ⟨b, o, none⟩ ∧ w'.cell? ⟨b, o + k * 2, none⟩ = some (.int .i64 l[k].f) ∧ w'.cell? ⟨b, o + k * 2 + 1, none⟩ = some (.slice a' l[k].args.length c') ∧
      IsT w' l[k] (.agg #[.int .i64 l[k].f, .slice a' l[k].args.length c']) := by
  obtain ⟨b, o, u, v, ha, h1, h2, h3⟩ := h.at0 k hk
  obtain ⟨a', c', rfl, rfl⟩ := h3.cells
  rw [Nat.zero_add] at h1 h2
  exact ⟨b, o, a', c', ha, bkeeps hb _ _ h1, bkeeps hb _ _ h2, h3.below hb⟩
section
variable {H : Type} {enc : TypeId × Value → H} {w : World} {base : Nat} {spare : Nat → Bool} {held : Bool}
theorem sizeL_le_bulk {l : List T} : ∀ {ds : List (DataW H)}, l.length = ds.length → (∀ k (hk : k < l.length) (hd : k < ds.length), l[k].size ≤ Rows.uptoBulk ds[k]) → T.sizeL l ≤ Rows.uptoBulkAll ds := by
  induction l with
  | nil => intro ds _ _; simp [T.sizeL]
  | cons t r ih =>
    intro ds hlen h
    cases ds with
    | nil => simp at hlen
    | cons d ds =>
      have h0 := h 0 (by simp) (by simp)
      have h1 := ih (ds := ds) (by simpa using hlen) (fun k hk hd => by have := h (k + 1) (by simpa using hk) (by simpa using hd); simpa using this)
      simp only [T.sizeL, Rows.uptoBulkAll]
      simp at h0
      omega
set_option maxRecDepth 10000 in
theorem open_T : ∀ (fuel : Nat) (cs : List Value) (x : DataW H × List MemPlace), DataW.trod enc Try.prog w base spare held fuel 24 cs = some x →
    ∃ t : T, ∃ u v : Value, cs = [u, v] ∧ IsT w t (.agg #[u, v]) ∧ t.size ≤ Rows.uptoBulk x.1 := by
  intro fuel
  induction fuel using Nat.strongRecOn with
  | _ fuel ih =>
    intro cs x h
    have hC : Try.prog.cellsOf 24 = 2 := by kernel_rfl
    have hC3 : Try.prog.cellsOf 3 = 1 := by kernel_rfl
    have hC30 : Try.prog.cellsOf 22 = 1 := by kernel_rfl
    obtain ⟨xs, n, rfl, rfl, hl, hlen, hf⟩ := DataW.trod_struct Try.underlying24 h
    rw [hC] at hl
    match xs, hlen, cs, hl with
    | [y0, y1], _, [c0, c1], _ =>
      have g0 : DataW.trod enc Try.prog w base spare held n 3 [c0] = some y0 := by simpa [hC3] using hf 0 _ rfl
      have g1 : DataW.trod enc Try.prog w base spare held n 22 [c1] = some y1 := by simpa [hC30] using hf 1 _ rfl
      obtain ⟨f, e0, rfl, wf⟩ := DataW.trod_int Try.underlying3 g0
      simp only [List.cons.injEq, and_true] at e0
      subst e0
      rcases DataW.trod_slice Try.underlying22 g1 with ⟨e1, rfl⟩ | ⟨a, len, cap, elems, rest, m, rfl, e1, rfl, hb, hlc, hcm, hel, hat, _, _⟩
      · simp only [List.cons.injEq, and_true] at e1
        subst e1
        exact ⟨.mk f [], _, _, rfl, ⟨i64_wf wf, none, 0, rfl, Nat.le_refl _, Nat.zero_le _, trivial⟩, by simp [T.size, T.sizeL, Rows.uptoBulk, Rows.uptoBulkAll]⟩
      · simp only [List.cons.injEq, and_true] at e1
        subst e1
        have hspot : 0 < len → ∃ b o, a = ⟨b, o, none⟩ := by
          intro h0
          have hk := hat 0 h0
          rw [hC, List.getElem?_eq_getElem (by omega)] at hk
          obtain ⟨cs', h1, _⟩ := Option.bind_eq_some_iff.1 hk
          obtain ⟨_, hl', hcell⟩ := World.cells?_some h1
          have c0 := hcell 0 (by omega)
          rw [List.getElem?_eq_getElem (by omega)] at c0
          have := World.cell?_spot c0
          obtain ⟨b, o, spot⟩ := a
          exact ⟨b, o, by simpa [Addr.add] using this⟩
        have key : ∀ i, i < len → ∃ t : T, (∃ (b o : Nat) (u v : Value), some a = some ⟨b, o, none⟩ ∧ w.cell? ⟨b, o + i * 2, none⟩ = some u ∧ w.cell? ⟨b, o + i * 2 + 1, none⟩ = some v ∧ IsT w t (.agg #[u, v])) ∧
            ∀ (hd : i < elems.length), t.size ≤ Rows.uptoBulk elems[i].1 := by
          intro i hi
          have hk := hat i hi
          rw [hC, List.getElem?_eq_getElem (by omega)] at hk
          obtain ⟨cs', h1, h2⟩ := Option.bind_eq_some_iff.1 hk
          obtain ⟨t, u, v, rfl, ht, hsz⟩ := ih m (by omega) _ _ h2
          obtain ⟨_, _, hcell⟩ := World.cells?_some h1
          have c0 := hcell 0 (by omega)
          have c1 := hcell 1 (by omega)
          simp only [List.getElem?_cons_zero, List.getElem?_cons_succ] at c0 c1
          obtain ⟨b, o, rfl⟩ := hspot (by omega)
          rw [add_plain2, add_plain2] at c0 c1
          exact ⟨t, ⟨b, o, u, v, rfl, c0, c1, ht⟩, fun _ => hsz⟩
        have : Inhabited T := ⟨.mk 0 []⟩
        obtain ⟨F, hF⟩ := Go.Deep.choose_lt key
        have hLL : ((List.range len).map F).length = len := by simp
        refine ⟨.mk f ((List.range len).map F), _, _, rfl, ⟨i64_wf wf, some a, cap, by simp, by simpa using hlc, hcm, IsTs.of_at (fun k hk => ?_)⟩, ?_⟩
        · have := (hF k (by simpa using hk)).1
          simpa using this
        · have h1 : T.sizeL ((List.range len).map F) ≤ Rows.uptoBulkAll (elems.map (·.1)) := sizeL_le_bulk (by simp [hel]) (fun k hk hd => by
            have := (hF k (by simpa using hk)).2 (by simpa using hd)
            simpa using this)
          simp only [T.size, List.map_cons, List.map_nil, Rows.uptoBulk, Rows.uptoBulkAll]
          omega
end
end Go.Proofs.Ytibncmnmjhimeaa

/- Rows of terms, opened whole. -/
namespace Go.Proofs.Ytibncmnmjhimeaa
open Go.RowKit Go
def tget (l : List T) (k : Nat) : T := l.getD k (.mk 0 [])
theorem tget_lt {l : List T} {k : Nat} (h : k < l.length) : tget l k = l[k] := by simp [tget, h]
theorem tget_mem {l : List T} {k : Nat} (h : k < l.length) : tget l k ∈ l := by rw [tget_lt h]; exact List.getElem_mem h
theorem isT_row {w : World} {t : T} {f : Value} {a : Option Addr} {n c : Nat} (h : IsT w t (.agg #[f, .slice a n c])) : n = t.args.length ∧ n ≤ c ∧ c ≤ maxLen ∧ IsTs w t.args a 0 := by
  obtain ⟨_, a', c', e, h1, h2, h3⟩ := h.form
  simp only [Value.agg.injEq, Array.mk.injEq, List.cons.injEq, and_true, Value.slice.injEq] at e
  obtain ⟨_, rfl, rfl, rfl⟩ := e
  exact ⟨rfl, h1, h2, h3⟩
theorem IsTs.open {w : World} {l : List T} {a : Option Addr} (h : IsTs w l a 0) : ∃ (b o : Nat) (A : Nat → Option Addr) (C : Nat → Nat), (∀ k, k < l.length → a = some ⟨b, o, none⟩) ∧
    ∀ k, k < l.length → w.cell? ⟨b, o + k * 2, none⟩ = some (.int .i64 (tget l k).f) ∧ w.cell? ⟨b, o + k * 2 + 1, none⟩ = some (.slice (A k) (tget l k).args.length (C k)) ∧ IsT w (tget l k) (.agg #[.int .i64 (tget l k).f, .slice (A k) (tget l k).args.length (C k)]) := by
  rcases Nat.eq_zero_or_pos l.length with h0 | h0
  · exact ⟨0, 0, fun _ => none, fun _ => 0, fun k hk => by omega, fun k hk => by omega⟩
  · obtain ⟨b, o, _, _, ha, _⟩ := h.at_ (Below.refl _ _) 0 h0
    have key : ∀ k, k < l.length → ∃ p : Option Addr × Nat, w.cell? ⟨b, o + k * 2, none⟩ = some (.int .i64 (tget l k).f) ∧ w.cell? ⟨b, o + k * 2 + 1, none⟩ = some (.slice p.1 (tget l k).args.length p.2) ∧ IsT w (tget l k) (.agg #[.int .i64 (tget l k).f, .slice p.1 (tget l k).args.length p.2]) := by
      intro k hk
      obtain ⟨b', o', a', c', ha', h1, h2, h3⟩ := h.at_ (Below.refl _ _) k hk
      rw [ha] at ha'
      simp only [Option.some.injEq, Addr.mk.injEq, and_true] at ha'
      obtain ⟨rfl, rfl⟩ := ha'
      rw [tget_lt hk]
      exact ⟨(a', c'), h1, h2, h3⟩
    have : Inhabited (Option Addr × Nat) := ⟨(none, 0)⟩
    obtain ⟨F, hF⟩ := Go.Deep.choose_lt key
    exact ⟨b, o, fun k => (F k).1, fun k => (F k).2, fun _ _ => ha, hF⟩
end Go.Proofs.Ytibncmnmjhimeaa

/- Terms compared, as a plain function. -/
namespace Go.Proofs.Ytibncmnmjhimeaa
namespace T
mutual
def same : T → T → Bool
  | .mk f l, .mk g k => (f == g) && sameL l k
def sameL : List T → List T → Bool
  | [], [] => true
  | a :: r, b :: q => same a b && sameL r q
  | [], _ :: _ => false
  | _ :: _, [] => false
end
mutual
theorem same_iff : ∀ (s t : T), same s t = true ↔ s = t
  | .mk f l, .mk g k => by
    rw [same, Bool.and_eq_true, sameL_iff l k, beq_iff_eq]
    simp
theorem sameL_iff : ∀ (l k : List T), sameL l k = true ↔ l = k
  | [], [] => by simp [sameL]
  | a :: r, b :: q => by rw [sameL, Bool.and_eq_true, same_iff a b, sameL_iff r q]; simp
  | [], _ :: _ => by simp [sameL]
  | _ :: _, [] => by simp [sameL]
end
end T
end Go.Proofs.Ytibncmnmjhimeaa

/- Fingerprints, plain: letters, prints, which terms may. -/
namespace Go.Proofs.Ytibncmnmjhimeaa
set_option linter.unusedVariables false
set_option linter.unusedSimpArgs false
/-- The letter of a term at a place. -/
def ltr : T → List Nat → Int
  | t, [] => max t.f (-1)
  | .mk f l, i :: p => if f < 0 then -2 else if l.length ≤ i then -3 else ltr (tget l i) p
def pl8 : List (List Nat) := [[], [0], [1], [2], [0, 0], [0, 1], [1, 0], [1, 1]]
def prt (t : T) : List Int := [ltr t [], ltr t [0], ltr t [1], ltr t [2], ltr t [0, 0], ltr t [0, 1], ltr t [1, 0], ltr t [1, 1]]
/-- May two letters be unified? -/
def ltU (x y : Int) : Bool := if x = -2 ∨ y = -2 then true else if x = -3 ∨ y = -3 then decide (x = y) else decide (x = y) || (decide (x = -1) || decide (y = -1))
/-- May x be an instance of y? -/
def ltI (x y : Int) : Bool := if y = -2 then true else if y = -1 then decide (-1 ≤ x) else decide (x = y)
/-- The three ways: own letter, other letter. -/
def ltW : Nat → Int → Int → Bool
  | 0, x, y => ltU x y
  | 1, x, y => ltI y x
  | _, x, y => ltI x y
/-- Do two prints fit? -/
def fitP (way : Nat) : List Int → List Int → Bool
  | x :: p, y :: q => ltW way x y && fitP way p q
  | _, _ => true
/-- Numbers, in order, each once. -/
def insN (x : Int) : List Int → List Int
  | [] => [x]
  | y :: r => if x < y then x :: y :: r else if x = y then y :: r else y :: insN x r
def riseN : List Int → List Int
  | [] => []
  | x :: r => insN x (riseN r)
/-- Strictly rising. -/
def RiseP : List Int → Prop
  | [] => True
  | x :: r => (∀ y ∈ r, x < y) ∧ RiseP r
theorem insN_mem {x z : Int} : ∀ {l : List Int}, z ∈ insN x l ↔ z = x ∨ z ∈ l
  | [] => by simp [insN]
  | y :: r => by
    rw [insN]
    split
    · simp
    · split
      · rename_i h; subst h; simp
      · simp only [List.mem_cons, insN_mem (l := r)]
        constructor
        · rintro (h | h | h)
          · exact .inr (.inl h)
          · exact .inl h
          · exact .inr (.inr h)
        · rintro (h | h | h)
          · exact .inr (.inl h)
          · exact .inl h
          · exact .inr (.inr h)
theorem riseN_mem {z : Int} : ∀ {l : List Int}, z ∈ riseN l ↔ z ∈ l
  | [] => by simp [riseN]
  | x :: r => by rw [riseN, insN_mem, riseN_mem]; simp
theorem insN_rise {x : Int} : ∀ {l : List Int}, RiseP l → RiseP (insN x l)
  | [], _ => ⟨fun y h => by simp at h, trivial⟩
  | y :: r, ⟨h1, h2⟩ => by
    rw [insN]
    split
    · rename_i c
      refine ⟨fun z hz => ?_, h1, h2⟩
      rcases List.mem_cons.1 hz with rfl | hz
      · exact c
      · have := h1 z hz; omega
    · split
      · exact ⟨h1, h2⟩
      · rename_i c1 c2
        refine ⟨fun z hz => ?_, insN_rise h2⟩
        rcases insN_mem.1 hz with rfl | hz
        · omega
        · exact h1 z hz
theorem riseN_rise : ∀ l : List Int, RiseP (riseN l)
  | [] => trivial
  | _ :: r => insN_rise (riseN_rise r)
theorem RiseP.eq : ∀ {l m : List Int}, RiseP l → RiseP m → (∀ x, x ∈ l ↔ x ∈ m) → l = m
  | [], [], _, _, _ => rfl
  | [], y :: m, _, _, h => by have := (h y).2 (by simp); simp at this
  | x :: l, [], _, _, h => by have := (h x).1 (by simp); simp at this
  | x :: l, y :: m, ⟨a1, a2⟩, ⟨b1, b2⟩, h => by
    have e : x = y := by
      have h1 := (h x).1 (by simp)
      have h2 := (h y).2 (by simp)
      rcases List.mem_cons.1 h1 with h1 | h1
      · exact h1
      · rcases List.mem_cons.1 h2 with h2 | h2
        · exact h2.symm
        · have := a1 y h2; have := b1 x h1; omega
    subst e
    congr 1
    refine RiseP.eq a2 b2 (fun z => ?_)
    have hz := h z
    simp only [List.mem_cons] at hz
    constructor
    · intro q
      rcases hz.1 (.inr q) with rfl | q2
      · exact absurd (a1 z q) (Int.lt_irrefl z)
      · exact q2
    · intro q
      rcases hz.2 (.inr q) with rfl | q2
      · exact absurd (b1 z q) (Int.lt_irrefl z)
      · exact q2
theorem rise_of {l m : List Int} (hl : RiseP l) (h : ∀ x, x ∈ l ↔ x ∈ m) : l = riseN m := hl.eq (riseN_rise m) (fun x => (h x).trans riseN_mem.symm)
/-- What an index tells. -/
def askP (B : List (T × Int)) (way : Nat) (q : List Int) : List Int := riseN ((B.filter (fun r => fitP way (prt r.1) q)).map (·.2))
theorem askP_mem {B : List (T × Int)} {way : Nat} {q : List Int} {x : Int} : x ∈ askP B way q ↔ ∃ r ∈ B, fitP way (prt r.1) q = true ∧ r.2 = x := by
  unfold askP
  rw [riseN_mem, List.mem_map]
  constructor
  · rintro ⟨r, h, e⟩; rw [List.mem_filter] at h; exact ⟨r, h.1, h.2, e⟩
  · rintro ⟨r, h1, h2, e⟩; exact ⟨r, List.mem_filter.2 ⟨h1, h2⟩, e⟩
theorem askP_len (B : List (T × Int)) (way : Nat) (q : List Int) : (askP B way q).length ≤ B.length := by
  unfold askP
  have h : ∀ l : List Int, (riseN l).length ≤ l.length := by
    intro l
    induction l with
    | nil => simp [riseN]
    | cons x r ih =>
      have h2 : ∀ m : List Int, (insN x m).length ≤ m.length + 1 := by
        intro m
        induction m with
        | nil => simp [insN]
        | cons y m ih2 => rw [insN]; split; simp; split <;> simp; omega
      rw [riseN]; have := h2 (riseN r); simp; omega
  have z := h ((B.filter (fun r => fitP way (prt r.1) q)).map (·.2))
  have z2 := List.length_filter_le (fun r : T × Int => fitP way (prt r.1) q) B
  rw [List.length_map] at z
  omega
end Go.Proofs.Ytibncmnmjhimeaa

/- Prints as a map's keys. -/
namespace Go.Proofs.Ytibncmnmjhimeaa
open Go.RowKit Go
set_option linter.unusedVariables false
set_option linter.unusedSimpArgs false
def encP (x : List Int) : Value := .agg (x.map (Value.int .i64)).toArray
def okP (x : List Int) : Prop := x.length = 8
theorem encP_prt (t : T) : encP (prt t) = .agg #[.int .i64 (ltr t []), .int .i64 (ltr t [0]), .int .i64 (ltr t [1]), .int .i64 (ltr t [2]), .int .i64 (ltr t [0, 0]), .int .i64 (ltr t [0, 1]), .int .i64 (ltr t [1, 0]), .int .i64 (ltr t [1, 1])] := rfl
theorem len8 {x : List Int} (h : okP x) : ∃ a b c d e f g i, x = [a, b, c, d, e, f, g, i] := by
  match x, h with
  | [a, b, c, d, e, f, g, i], _ => exact ⟨a, b, c, d, e, f, g, i, rfl⟩
set_option maxRecDepth 100000 in
set_option maxHeartbeats 1000000 in
theorem eqP (x y : List Int) (w : World) (hx : okP x) (hy : okP y) : (Op.equal 50 (encP x) (encP y)).run Try.prog w = .ok (decide (x = y)) w := by
  obtain ⟨a0, a1, a2, a3, a4, a5, a6, a7, rfl⟩ := len8 hx
  obtain ⟨b0, b1, b2, b3, b4, b5, b6, b7, rfl⟩ := len8 hy
  have u1 := Try.underlying3
  have hi : ∃ i, Try.prog.info? 3 = some i := by
    cases h : Try.prog.info? 3 with
    | none => exact absurd (show (Try.prog.info? 3).isSome = true by kernel_rfl) (by rw [h]; decide)
    | some i => exact ⟨i, rfl⟩
  obtain ⟨i, hi⟩ := hi
  have hC : Try.prog.cellsOf 3 = 1 := by kernel_rfl
  unfold Op.equal encP
  rw [show Op.maxDepth = 9998 + 1 + 1 from rfl]
  generalize (9998 : Nat) = n
  rw [run_equalIn_array w (n + 1) _ _ Try.underlying50 hi, hC]
  rw [show List.range 8 = [0, 1, 2, 3, 4, 5, 6, 7] from rfl]
  simp only [Op.eqItems, Sem.run_bind]
  simp [part, run_underlying u1, Op.equalIn, go_sem]
  by_cases h0 : a0 = b0
  case neg => simp [h0]
  subst h0
  by_cases h1 : a1 = b1
  case neg => simp [h1]
  subst h1
  by_cases h2 : a2 = b2
  case neg => simp [h2]
  subst h2
  by_cases h3 : a3 = b3
  case neg => simp [h3]
  subst h3
  by_cases h4 : a4 = b4
  case neg => simp [h4]
  subst h4
  by_cases h5 : a5 = b5
  case neg => simp [h5]
  subst h5
  by_cases h6 : a6 = b6
  case neg => simp [h6]
  subst h6
  by_cases h7 : a7 = b7
  case neg => simp [h7]
  subst h7
  simp
set_option maxRecDepth 100000 in
theorem checkP (b : Bool) (x : List Int) (w : World) (hx : okP x) : (Instr.checkKey b 10000 50 (encP x)).run Try.prog w = .ok () w := by
  obtain ⟨a0, a1, a2, a3, a4, a5, a6, a7, rfl⟩ := len8 hx
  have u0 := Try.underlying50
  have u1 := Try.underlying3
  rw [show (10000 : Nat) = 9998 + 1 + 1 from rfl]
  generalize (9998 : Nat) = n
  unfold encP
  have e8 : List.range' 0 8 = [0, 1, 2, 3, 4, 5, 6, 7] := rfl
  simp [Instr.checkKey, run_underlying u0, run_underlying u1, go_sem, part, e8]
theorem bitsP (x : List Int) (hx : okP x) : Instr.sameBits 10000 (encP x) (encP x) = true := by
  obtain ⟨a0, a1, a2, a3, a4, a5, a6, a7, rfl⟩ := len8 hx
  rw [show (10000 : Nat) = 9998 + 1 + 1 from rfl]
  generalize (9998 : Nat) = n
  simp [Instr.sameBits, encP]
theorem keyP : KeyK Try.prog 50 encP okP := ⟨fun x y w hx hy => eqP x y w hx hy, checkP, bitsP, ⟨_, Try.underlying50, fun x e es => by simp [Instr.findNow, Instr.sameNow, encP]⟩⟩
end Go.Proofs.Ytibncmnmjhimeaa

/- Elements of rows that are made: what lies in them lies in blocks that are told. -/
namespace Go.Proofs.Ytibncmnmjhimeaa
open Go.RowKit Go
set_option linter.unusedVariables false
set_option linter.unusedSimpArgs false
/-- A kind of element: so many cells, and what they hold of 'x', in blocks of 'S'. -/
structure Elt (α : Type) where
  k : Nat
  In : (Nat → Prop) → World → α → List Value → Prop
  keep : ∀ {S : Nat → Prop} {w w' : World} {x : α} {cs : List Value}, (∀ (p : Addr) (v : Value), S p.block → w.cell? p = some v → w'.cell? p = some v) → In S w x cs → In S w' x cs
  mono : ∀ {S S' : Nat → Prop} {w : World} {x : α} {cs : List Value}, (∀ b, S b → b < w.heap.size → S' b) → In S w x cs → In S' w x cs
  len : ∀ {S : Nat → Prop} {w : World} {x : α} {cs : List Value}, In S w x cs → cs.length = k
  one : ∀ {S : Nat → Prop} {w : World} {x : α} {cs : List Value}, In S w x cs → ∀ v ∈ cs, v.oneCell' = true
section
variable {α : Type} {E : Elt α} {S S' : Nat → Prop} {w w' : World}
theorem Elt.chg {S2 : Nat → Prop} {x : α} {cs : List Value} (h : E.In S w x cs) (hc : Chg S2 w w') (hS : ∀ b, S b → ¬ S2 b) : E.In S w' x cs := E.keep (fun p v hp hv => by
  have hb := World.block_lt_of_cell? _ _ hv
  unfold World.cell? at hv ⊢
  rw [hc.block p.block hb (hS _ hp)]; exact hv) h
def Elts (E : Elt α) (S : Nat → Prop) (w : World) : List α → List Value → Prop
  | [], xs => xs = []
  | x :: l, xs => ∃ cs r, xs = cs ++ r ∧ E.In S w x cs ∧ Elts E S w l r
theorem Elts.keep (hb : ∀ (p : Addr) (v : Value), S p.block → w.cell? p = some v → w'.cell? p = some v) : ∀ {l : List α} {xs : List Value}, Elts E S w l xs → Elts E S w' l xs
  | [], _, h => h
  | _ :: _, _, ⟨cs, r, e, h1, h2⟩ => ⟨cs, r, e, E.keep hb h1, Elts.keep hb h2⟩
theorem Elts.mono (hb : ∀ b, S b → b < w.heap.size → S' b) : ∀ {l : List α} {xs : List Value}, Elts E S w l xs → Elts E S' w l xs
  | [], _, h => h
  | _ :: _, _, ⟨cs, r, e, h1, h2⟩ => ⟨cs, r, e, E.mono hb h1, Elts.mono hb h2⟩
theorem Elts.len : ∀ {l : List α} {xs : List Value}, Elts E S w l xs → xs.length = l.length * E.k
  | [], _, h => by rw [h]; simp
  | _ :: l, _, ⟨cs, r, e, h1, h2⟩ => by rw [e, List.length_append, E.len h1, h2.len, List.length_cons, Nat.add_mul]; omega
theorem Elts.snoc {x : α} {cs : List Value} (hx : E.In S w x cs) : ∀ {l : List α} {xs : List Value}, Elts E S w l xs → Elts E S w (l ++ [x]) (xs ++ cs)
  | [], _, h => by rw [h]; exact ⟨cs, [], by simp, hx, rfl⟩
  | _ :: _, _, ⟨c, r, e, h1, h2⟩ => ⟨c, r ++ cs, by rw [e, List.append_assoc], h1, Elts.snoc hx h2⟩
theorem Elts.at_ : ∀ {l : List α} {xs : List Value}, Elts E S w l xs → ∀ i (hi : i < l.length), ∃ cs, E.In S w l[i] cs ∧ ∀ j, j < E.k → xs[i * E.k + j]? = cs[j]?
  | [], _, _, i, hi => by simp at hi
  | x :: l, _, ⟨cs, r, e, h1, h2⟩, 0, _ => ⟨cs, h1, fun j hj => by rw [e, Nat.zero_mul, Nat.zero_add, List.getElem?_append_left (by rw [E.len h1]; exact hj)]⟩
  | x :: l, _, ⟨cs, r, e, h1, h2⟩, i + 1, hi => by
    obtain ⟨c, h3, h4⟩ := h2.at_ i (by simpa using hi)
    refine ⟨c, h3, fun j hj => ?_⟩
    rw [e, List.getElem?_append_right (by rw [E.len h1, Nat.add_mul]; omega), E.len h1, ← h4 j hj]
    congr 1
    rw [Nat.add_mul]; omega
theorem Elts.one : ∀ {l : List α} {xs : List Value}, Elts E S w l xs → ∀ v ∈ xs, v.oneCell' = true
  | [], _, h, v, hv => by rw [h] at hv; cases hv
  | _ :: _, _, ⟨cs, r, e, h1, h2⟩, v, hv => by
    rw [e, List.mem_append] at hv
    exact hv.elim (E.one h1 v) (h2.one v)
/-- A row that lies in memory, in blocks of 'S', its elements too. -/
def InRow (E : Elt α) (S : Nat → Prop) (w : World) (l : List α) (a : Option Addr) : Prop :=
  ∀ i (hi : i < l.length), ∃ (b o : Nat) (cs : List Value), a = some ⟨b, o, none⟩ ∧ S b ∧ E.In S w l[i] cs ∧ ∀ j, j < E.k → w.cell? ⟨b, o + i * E.k + j, none⟩ = cs[j]?
theorem InRow.keep {l : List α} {a : Option Addr} (hb : ∀ (p : Addr) (v : Value), S p.block → w.cell? p = some v → w'.cell? p = some v) (h : InRow E S w l a) : InRow E S w' l a := fun i hi => by
  obtain ⟨b, o, cs, h1, h2, h3, h4⟩ := h i hi
  refine ⟨b, o, cs, h1, h2, E.keep hb h3, fun j hj => ?_⟩
  have := h4 j hj
  rw [List.getElem?_eq_getElem (by rw [E.len h3]; exact hj)] at this ⊢
  exact hb ⟨b, _, none⟩ _ h2 this
theorem InRow.mono {l : List α} {a : Option Addr} (hk : 0 < E.k) (hb : ∀ b, S b → b < w.heap.size → S' b) (h : InRow E S w l a) : InRow E S' w l a := fun i hi => by
  obtain ⟨b, o, cs, h1, h2, h3, h4⟩ := h i hi
  have := h4 0 hk
  rw [List.getElem?_eq_getElem (by rw [E.len h3]; exact hk)] at this
  exact ⟨b, o, cs, h1, hb b h2 (World.block_lt_of_cell? _ _ this), E.mono hb h3, h4⟩
theorem InRow.below {l : List α} {a : Option Addr} (h : InRow E S w l a) (hb : Below w.heap.size w w') : InRow E S w' l a := h.keep (fun p v _ hv => bkeeps hb p v hv)
theorem InRow.nil {a : Option Addr} : InRow E S w [] a := fun i hi => by simp at hi
/-- A row of the call's own, made by append: its block lies at or behind 'B', its elements' too, but in other blocks. -/
structure RowE (E : Elt α) (w : World) (B e : Nat) (ra : Option Addr) (rc n : Nat) (l : List α) : Prop where
  row : ∃ xs, w.ownsRow B e E.k (.slice ra n rc) n xs ∧ Elts E (fun b => B ≤ b ∧ (Value.slice ra n rc).ownBlock ≠ some b) w l xs
  len : n = l.length
variable {B e : Nat} {ra : Option Addr} {rc n : Nat} {l : List α}
theorem RowE.nil : RowE E w B e none 0 0 ([] : List α) := ⟨⟨[], World.ownsRow_nil _ _ _ _, rfl⟩, rfl⟩
theorem RowE.keep (h : RowE E w B e ra rc n l) (hb : ∀ b, B ≤ b → b < w.heap.size → w'.heap[b]? = w.heap[b]?) : RowE E w' B e ra rc n l := by
  obtain ⟨⟨xs, h1, h2⟩, h3⟩ := h
  refine ⟨⟨xs, ⟨h1.1, h1.2.imp id ?_⟩, h2.keep (fun p v hp hv => ?_)⟩, h3⟩
  · rintro ⟨g, cap, cur, e1, e2, e3, r⟩
    exact ⟨g, cap, cur, e1, e2, (hb g e2 (Array.getElem?_eq_some_iff.1 e3).1).trans e3, r⟩
  · have hlt := World.block_lt_of_cell? _ _ hv
    unfold World.cell? at hv ⊢
    rw [hb p.block hp.1 hlt]; exact hv
theorem RowE.below (h : RowE E w B e ra rc n l) (hb : Below w.heap.size w w') : RowE E w' B e ra rc n l := h.keep (fun b _ hlt => hb.block b hlt)
theorem RowE.upd {g : Nat} (h : RowE E w B e ra rc n l) (hu : Upd g w w') (hg : g < B) : RowE E w' B e ra rc n l := h.keep (fun b hB _ => hu.block b (by omega))
theorem RowE.lt (h : RowE E w B e ra rc n l) : ∀ b, (Value.slice ra n rc).ownBlock = some b → B ≤ b ∧ b < w.heap.size := by
  obtain ⟨⟨xs, h1, _⟩, _⟩ := h
  exact h1.lt
/-- What lies in the row, once it is whole. -/
theorem RowE.inRow (h : RowE E w B e ra rc n l) : InRow E (fun b => B ≤ b) w l ra ∧ n = l.length ∧ n ≤ rc ∧ rc ≤ maxLen := by
  obtain ⟨⟨xs, h1, h2⟩, rfl⟩ := h
  rcases h1.2 with ⟨e1, h0⟩ | ⟨g, cap, cur, e1, hg, hb, hc, hm, _, _⟩
  · simp only [Value.slice.injEq] at e1
    obtain ⟨_, _, rfl⟩ := e1
    exact ⟨fun i hi => by omega, rfl, by omega, by unfold maxLen; omega⟩
  · have e1' := e1
    simp only [Value.slice.injEq, true_and] at e1'
    obtain ⟨rfl, rfl⟩ := e1'
    refine ⟨fun i hi => ?_, rfl, hc, hm⟩
    obtain ⟨cs, h3, h4⟩ := h2.at_ i hi
    refine ⟨g, 0, cs, rfl, hg, E.mono (fun b hb _ => hb.1) h3, fun j hj => ?_⟩
    have hjl : j < cs.length := by rw [E.len h3]; exact hj
    have hx := h4 j hj
    rw [List.getElem?_eq_getElem hjl] at hx ⊢
    have := h1.cells (g := g) rfl _ _ hx
    rw [add_plain2] at this
    rwa [show 0 + i * E.k + j = 0 + (i * E.k + j) by omega]
/-! ### A row that is made whole, and filled one element after the other -/
variable {g : Nat} {D : List Value}
end
section
variable {α : Type} {E : Elt α} {P : Program} {w : World} {a : Act} {K : Act → World → Prop} {Q : Exit → Act → World → Prop} {o : Oper}
/-- One element more, by append. -/
theorem wp_appE {s x : Operand} {t e B : Nat} {z : Value} {size bytes n rc g1 : Nat} {ra : Option Addr} {l : List α} {y : α} {cs : List Value} (hk : E.k = size) (ht : P.underlying t = some (.slice e)) (hinfo : (P.info? e).map (fun i => (i.zero, i.size, i.bytes)) = some (some z, size, bytes)) (hzs : z.cells.size = size) (hsz : 0 < size)
    (ho : o.op = .call { callee := .builtin .append, args := #[s, x], argTypes := #[t, t] }) (hs : a.eval s = .slice ra n rc) (hx : a.eval x = .slice (some ⟨g1, 0, none⟩) 1 1) (hrow : RowE E w B e ra rc n l) (hB : Blk w g1 e cs.toArray) (hin : E.In (fun b => B ≤ b ∧ (Value.slice ra n rc).ownBlock ≠ some b) w y cs)
    (hb : (n + 1) * bytes ≤ 140737488355328) (hn : n + 1 ≤ 9223372036854775807) (hbase : B ≤ w.heap.size) (hK : ∀ ra' rc' w', RowE E w' B e ra' rc' (n + 1) (l ++ [y]) → Chg (fun b => (Value.slice ra n rc).ownBlock = some b) w w' → KeepsFrom 0 w w' → K (a.put o.dst (.slice ra' (n + 1) rc')) w') : o.wp P a w K Q := by
  subst hk
  obtain ⟨⟨xs, h1, h2⟩, rfl⟩ := hrow
  refine wp_app (m := 1) (news := cs) ht hinfo hzs hsz ho hs hx h1 (SrcIs.ofBlk hB) (by rw [E.len hin]; omega) (E.one hin) hb hn hbase (fun ra' rc' w' h => hK _ _ _ ?_ ⟨h.grow.os, h.grow.tape, h.grow.output, h.grow.size, fun k hk hSk => h.grow.block k hk (fun e => hSk e.symm)⟩ ?_)
  · have key : ∀ (p : Addr) (v : Value), (Value.slice ra l.length rc).ownBlock ≠ some p.block → w.cell? p = some v → w'.cell? p = some v := fun p v hp hv => h.grow.cell hv (Ne.symm hp)
    refine ⟨⟨xs ++ cs, h.own, ?_⟩, by simp⟩
    have far : ∀ b, (B ≤ b ∧ (Value.slice ra l.length rc).ownBlock ≠ some b) ∧ b < w.heap.size → B ≤ b ∧ (Value.slice ra' (l.length + 1) rc').ownBlock ≠ some b := fun b hb => ⟨hb.1.1, fun e => by
      rcases h.at_ with e2 | e2
      · exact hb.1.2 (e2 ▸ e)
      · rw [e2] at e; have := Option.some.inj e; omega⟩
    refine Elts.mono (fun b hb _ => far b hb) (Elts.keep (w := w) (fun p v hp hv => key p v hp.1.2 hv) ?_)
    exact Elts.snoc (E.mono (fun b hb hlt => ⟨hb, hlt⟩) hin) (Elts.mono (fun b hb hlt => ⟨hb, hlt⟩) h2)
  · refine ⟨h.grow.size, fun k o _ hk ho => (h.grow.block k (Array.getElem?_eq_some_iff.1 hk).1 (fun e => ?_)).trans hk⟩
    rcases h1.2 with ⟨e1, _⟩ | ⟨g, cap, cur, e1, _, e3, _⟩
    · rw [e1] at e; cases e
    · rw [e1] at e
      have : k = g := by simpa [Value.ownBlock] using e
      subst this
      rw [show w.heap[k]? = _ from e3] at hk
      obtain rfl := Option.some.inj hk
      cases ho
end
section
variable {P : Program} {w : World} {a : Act} {K : Act → World → Prop} {Q : Exit → Act → World → Prop} {o : Oper}
end
/-! ### Integers, as elements -/
def eltI : Elt Int where
  k := 1
  In := fun _ _ x cs => cs = [.int .i64 x]
  keep := fun _ h => h
  mono := fun _ h => h
  len := fun h => by rw [h]; rfl
  one := fun h v hv => by rw [h] at hv; simp at hv; subst hv; rfl
end Go.Proofs.Ytibncmnmjhimeaa

/- Regions in whatever order, in which what is made comes first and, last, one thing is written ('row[i] = f(..)'), or two ('box = append(box, f(..))'). -/
namespace Go.Proofs.Ytibncmnmjhimeaa
open Go.RowKit Go
set_option linter.unusedVariables false
set_option linter.unusedSimpArgs false
/-- What an operation yields: a value, or one of which something holds that blocks of 'S' do not touch. -/
inductive SpS (S : Nat → Prop) where
 | val (x : Value)
 | mem (p : Value → World → Prop) (h : ∀ v w w', Chg S w w' → p v w → p v w')
def SpS.holds {S : Nat → Prop} : SpS S → Value → World → Prop
 | .val x, v, _ => v = x
 | .mem p _, v, w => p v w
def optS {S : Nat → Prop} (l : List (Bool × SpS S)) (i : Nat) (v : Value) (w : World) : Prop := ((l.getD i (true, .val undef)).1 = true → (l.getD i (true, .val undef)).2.holds v w) ∧ ((l.getD i (true, .val undef)).1 = false → v = undef)
theorem optSKeep {S : Nat → Prop} (l : List (Bool × SpS S)) (i : Nat) (v : Value) (w w' : World) (h : optS l i v w) (hb : Chg S w w') : optS l i v w' := by
 refine ⟨fun e => ?_, h.2⟩
 have := h.1 e
 generalize (l.getD i (true, .val undef)).2 = s at *
 cases s with
 | val x => exact this
 | mem p hp => exact hp _ _ _ hb this
theorem optSVal {S : Nat → Prop} {l : List (Bool × SpS S)} {i : Nat} {v x : Value} {w : World} {β : Bool} (h : optS l i v w) (e : l.getD i (true, .val undef) = (β, .val x)) (hβ : β = true) : v = x := by
 have := h.1 (by rw [e]; exact hβ)
 rw [e] at this
 exact this
theorem optSMem {S : Nat → Prop} {l : List (Bool × SpS S)} {i : Nat} {v : Value} {w : World} {β : Bool} {p : Value → World → Prop} {hp : ∀ v w w', Chg S w w' → p v w → p v w'} (h : optS l i v w) (e : l.getD i (true, .val undef) = (β, .mem p hp)) (hβ : β = true) : p v w := by
 have := h.1 (by rw [e]; exact hβ)
 rw [e] at this
 exact this
/-- A row of one, new. -/
def OneRow {α : Type} (E : Elt α) (w0 : World) (e : TypeId) (x : α) (v : Value) (w : World) : Prop := ∃ g cs, v = .slice (some ⟨g, 0, none⟩) 1 1 ∧ w0.heap.size ≤ g ∧ Blk w g e cs.toArray ∧ E.In (fun b => w0.heap.size ≤ b) w x cs
theorem OneRow.chg {α : Type} {E : Elt α} {w0 w w' : World} {e : TypeId} {x : α} {v : Value} {S : Nat → Prop} (h : OneRow E w0 e x v w) (hc : Chg S w w') (hS : ∀ b, S b → b < w0.heap.size) : OneRow E w0 e x v w' := by
 obtain ⟨g, cs, e1, h1, h2, h3⟩ := h
 exact ⟨g, cs, e1, h1, chg_blk h2 hc (fun hs => by have := hS g hs; omega), Elt.chg h3 hc (fun b hb hs => by have := hS b hs; omega)⟩
section
variable {P : Program} {ops : Array Oper} {S : Nat → Prop}
/-- What an operation finds that does not write. -/
structure CtxA (ops : Array Oper) (l : List (Bool × SpS S)) (chain : List Nat) (first : Nat) (n : Fr) (K : Known) (w0 : World) (i : Nat) (o : Oper) (a : Act) (w : World) : Prop where
 chg : Chg S w0 w
 kn : Kn n K a
 dep : ∀ j d, depB ops o j d = true → chain.contains j = false → optS l j (a.tmps.getD d undef) w
 early : (ancL ops first).contains i = true → Below w0.heap.size w0 w
/-- What an operation finds that writes first. -/
structure CtxB (ops : Array Oper) (l : List (Bool × SpS S)) (chain : List Nat) (n : Fr) (K : Known) (w0 : World) (o : Oper) (a : Act) (w : World) : Prop where
 below : Below w0.heap.size w0 w
 kn : Kn n K a
 dep : ∀ j d, depB ops o j d = true → chain.contains j = false → optS l j (a.tmps.getD d undef) w
def Tail1 (P : Program) (ops : Array Oper) (Q : Exit → Act → World → Prop) (l : List (Bool × SpS S)) (n : Fr) (K : Known) (w0 : World) (q : Nat) (GS : World → Prop) : Nat → List Oper → Prop
 | _, [] => True
 | i, o :: r => (([q].contains i = false ∧ ∃ β, GuardIs (optS l) o β ∧ (∀ g b, o.guard = some (g, b) → [q].contains g = false) ∧ (β = false → ∀ w, optS l i undef w) ∧
   (β = true → ∀ a w, CtxA ops l [q] q n K w0 i o a w → o.wp P a w (fun a' w' => ∃ v, a' = Act.put a o.dst v ∧ Below w.heap.size w w' ∧ optS l i v w') Q)) ∨
  (i = q ∧ o.guard = none ∧ ∀ a w, CtxB ops l [q] n K w0 o a w → o.wp P a w (fun a' w' => ∃ v, a' = Act.put a o.dst v ∧ GS w' ∧ Chg S w w') Q)) ∧ Tail1 P ops Q l n K w0 q GS (i + 1) r
def G1 (S : Nat → Prop) (w0 : World) (GS : World → Prop) : List (Option Value) → World → Prop
 | [none], w => Below w0.heap.size w0 w
 | [some _], w => GS w ∧ Chg S w0 w
 | _, _ => False
def Tail2 (P : Program) (ops : Array Oper) (Q : Exit → Act → World → Prop) (l : List (Bool × SpS S)) (n : Fr) (K : Known) (w0 : World) (p q N : Nat) (GA GS : Option Addr → Nat → World → Prop) : Nat → List Oper → Prop
 | _, [] => True
 | i, o :: r => (([p, q].contains i = false ∧ ∃ β, GuardIs (optS l) o β ∧ (∀ g b, o.guard = some (g, b) → [p, q].contains g = false) ∧ (β = false → ∀ w, optS l i undef w) ∧
   (β = true → ∀ a w, CtxA ops l [p, q] p n K w0 i o a w → o.wp P a w (fun a' w' => ∃ v, a' = Act.put a o.dst v ∧ Below w.heap.size w w' ∧ optS l i v w') Q)) ∨
  (i = p ∧ o.guard = none ∧ ∀ a w, CtxB ops l [p, q] n K w0 o a w → o.wp P a w (fun a' w' => ∃ ra rc, a' = Act.put a o.dst (.slice ra N rc) ∧ GA ra rc w' ∧ Chg S w w') Q) ∨
  (i = q ∧ o.guard = none ∧ ∃ d, depB ops o p d = true ∧ ∀ a w ra rc, Kn n K a → (∀ j d, depB ops o j d = true → [p, q].contains j = false → optS l j (a.tmps.getD d undef) w) → a.tmps.getD d undef = .slice ra N rc → GA ra rc w → o.wp P a w (fun a' w' => ∃ v, a' = Act.put a o.dst v ∧ GS ra rc w' ∧ Chg S w w') Q)) ∧ Tail2 P ops Q l n K w0 p q N GA GS (i + 1) r
def G2 (S : Nat → Prop) (w0 : World) (N : Nat) (GA GS : Option Addr → Nat → World → Prop) : List (Option Value) → World → Prop
 | [none, none], w => Below w0.heap.size w0 w
 | [some v, none], w => ∃ ra rc, v = .slice ra N rc ∧ GA ra rc w ∧ Chg S w0 w
 | [some v, some _], w => ∃ ra rc, v = .slice ra N rc ∧ GS ra rc w ∧ Chg S w0 w
 | _, _ => False
theorem G2.chg {w0 w : World} {N : Nat} {GA GS : Option Addr → Nat → World → Prop} : ∀ {vs : List (Option Value)}, G2 S w0 N GA GS vs w → Chg S w0 w
 | [none, none], h => .ofBelow h
 | [some _, none], h => by obtain ⟨_, _, _, _, h⟩ := h; exact h
 | [some _, some _], h => by obtain ⟨_, _, _, _, h⟩ := h; exact h
 | [none, some _], h => h.elim
 | [], h => h.elim
 | [x], h => by cases x <;> exact h.elim
 | _ :: _ :: _ :: _, h => by simp [G2] at h
theorem Tail2.gen {Q : Exit → Act → World → Prop} {l : List (Bool × SpS S)} {n : Fr} {K : Known} {w0 : World} {p q N : Nat} {GA GS : Option Addr → Nat → World → Prop} (hpq : p ≠ q) (hGA : ∀ ra rc w w', Below w.heap.size w w' → GA ra rc w → GA ra rc w') (hGS : ∀ ra rc w w', Below w.heap.size w w' → GS ra rc w → GS ra rc w') : ∀ {lo : List Oper} {i : Nat}, Tail2 P ops Q l n K w0 p q N GA GS i lo →
  SoundFromG P ops Q [p, q] (optS l) (Chg S) (G2 S w0 N GA GS) n K i lo
 | [], _, _ => trivial
 | o :: r, i, ⟨h, hr⟩ => by
  refine ⟨?_, hr.gen hpq hGA hGS⟩
  rcases h with ⟨hi, β, h1, h2, h3, h4⟩ | ⟨rfl, hg, h4⟩ | ⟨rfl, hg, d, hd, h4⟩
  ·refine .inl ⟨hi, β, h1, h2, h3, fun hβ a w vs C => ?_⟩
   refine Oper.wpIn_mono ?_ (wpIn_of (h4 hβ a w ⟨C.now.chg, C.kn, C.dep, fun he => ?_⟩) (by rintro a' w' ⟨v, rfl, _⟩; exact put_defers _ _ _))
   ·rintro a' w' ⟨v, rfl, hb, hR⟩
    refine ⟨v, rfl, .ofBelow hb, ?_, hR⟩
    match vs, C.len, C.now with
    | [none, none], _, h => exact bstep h hb
    | [some _, none], _, ⟨ra, rc, e, h, hc⟩ => exact ⟨ra, rc, e, hGA _ _ _ _ hb h, hc.trans (.ofBelow hb)⟩
    | [some _, some _], _, ⟨ra, rc, e, h, hc⟩ => exact ⟨ra, rc, e, hGS _ _ _ _ hb h, hc.trans (.ofBelow hb)⟩
    | [none, some _], _, h => exact h.elim
   ·have := C.mostT 0 p rfl he
    match vs, C.len, C.now, this with
    | [none, none], _, h, _ => exact h
    | [none, some _], _, h, _ => exact h.elim
  ·refine .inr ⟨0, rfl, hg, fun a w vs C hn => ?_⟩
   match vs, C.len, C.now, hn, C with
   | [none, none], _, h, _, C =>
    refine Oper.wpIn_mono ?_ (wpIn_of (h4 a w ⟨h, C.kn, C.dep⟩) (by rintro a' w' ⟨_, _, rfl, _⟩; exact put_defers _ _ _))
    rintro a' w' ⟨ra, rc, rfl, hG, hc⟩
    exact ⟨_, rfl, hc, ra, rc, rfl, hG, (Chg.ofBelow h).trans hc⟩
   | [none, some _], _, h, _, _ => exact h.elim
  ·refine .inr ⟨1, rfl, hg, fun a w vs C hn => ?_⟩
   have hl := C.link 0 p d rfl hd
   match vs, C.len, C.now, hn, hl, C with
   | [some v, none], _, ⟨ra, rc, e, h, hc⟩, _, hl, C =>
    have hv : v = a.tmps.getD d undef := by simpa using hl
    refine Oper.wpIn_mono ?_ (wpIn_of (h4 a w ra rc C.kn C.dep (hv ▸ e) h) (by rintro a' w' ⟨v, rfl, _⟩; exact put_defers _ _ _))
    rintro a' w' ⟨u, rfl, hG, hc2⟩
    exact ⟨u, rfl, hc2, ra, rc, e, hG, hc.trans hc2⟩
theorem WC.tail2 {id : Nat} {dr : Bool} {Q : Exit → Act → World → Prop} {n : Fr} {K : Known} {w : World} (l : List (Bool × SpS S)) (K0 : Known) (p q N dp : Nat) (GA GS : Option Addr → Nat → World → Prop) (hpq : p ≠ q) (hGA : ∀ ra rc w w', Below w.heap.size w w' → GA ra rc w → GA ra rc w') (hGS : ∀ ra rc w w', Below w.heap.size w w' → GS ra rc w → GS ra rc w')
  (hs : subK K0 K) (hclear : clearB ops K0 = true) (hm : P.follows .mixedOrders = true) (hB : opsB ops n.n = true) (hin : ([p, q].all fun c => Nat.blt c ops.size) = true) (hdp : (ops[p]?).bind (·.dst) = some dp)
  (h : Tail2 P ops Q l n K0 w p q N GA GS 0 ops.toList)
  (hQ : ∀ (a : Act) (w' : World) (ra : Option Addr) (rc : Nat), Kn n K0 a → a.tmps.getD dp undef = .slice ra N rc → GS ra rc w' → Chg S w w' → (∀ i d, (ops[i]?).bind (·.dst) = some d → [p, q].contains i = false → optS l i (a.tmps.getD d undef) w') → Q .normal a w') :
  WC P n K w (.region id ops dr) Q := by
 refine WC.gen [p, q] (optS l) (Chg S) (G2 S w N GA GS) K0 hs hclear hm hB (by simpa using hpq) hin (optSKeep l) ?_ (h.gen hpq hGA hGS) (fun a w' vs hk hlen hall hG hu hl => ?_)
 ·cases dr with
  | true => exact (Below.refl _ _).drew
  | false => exact Below.refl _ _
 ·obtain ⟨v, hv⟩ := hall 0 (by simp)
  obtain ⟨u, hu1⟩ := hall 1 (by simp)
  have hx := hl 0 p dp rfl hdp
  match vs, hlen, hv, hu1, hx, hG with
  | [some y, some _], _, _, _, hx, ⟨ra, rc, e, hG, hc⟩ =>
   have hy : y = a.tmps.getD dp undef := by simpa using hx
   exact hQ a w' ra rc hk (hy ▸ e) hG hc hu
end
end Go.Proofs.Ytibncmnmjhimeaa

/- Terms that lie within blocks of 'S'; rows of terms that are made. -/
namespace Go.Proofs.Ytibncmnmjhimeaa
open Go.RowKit Go
set_option linter.unusedVariables false
set_option linter.unusedSimpArgs false
mutual
/-- The value 'v' is the term 't', and all its rows lie in blocks of 'S'. -/
def InT (S : Nat → Prop) (w : World) : T → Value → Prop
  | .mk f l, v => I64 f ∧ ∃ (a : Option Addr) (c : Nat), v = .agg #[.int .i64 f, .slice a l.length c] ∧ l.length ≤ c ∧ c ≤ maxLen ∧ InTs S w l a 0
def InTs (S : Nat → Prop) (w : World) : List T → Option Addr → Nat → Prop
  | [], _, _ => True
  | t :: r, a, i => (∃ (b o : Nat) (u v : Value), a = some ⟨b, o, none⟩ ∧ S b ∧ w.cell? ⟨b, o + i * 2, none⟩ = some u ∧ w.cell? ⟨b, o + i * 2 + 1, none⟩ = some v ∧ InT S w t (.agg #[u, v])) ∧ InTs S w r a (i + 1)
end
mutual
theorem InT.keep {S : Nat → Prop} {w w' : World} (hb : ∀ (p : Addr) (x : Value), S p.block → w.cell? p = some x → w'.cell? p = some x) : ∀ {t : T} {v : Value}, InT S w t v → InT S w' t v
  | .mk _ _, _, ⟨h0, a, c, h1, h2, h3, h4⟩ => ⟨h0, a, c, h1, h2, h3, InTs.keep hb h4⟩
theorem InTs.keep {S : Nat → Prop} {w w' : World} (hb : ∀ (p : Addr) (x : Value), S p.block → w.cell? p = some x → w'.cell? p = some x) : ∀ {l : List T} {a : Option Addr} {i : Nat}, InTs S w l a i → InTs S w' l a i
  | [], _, _, _ => trivial
  | _ :: _, _, _, ⟨⟨b, o, u, v, ha, hs, h1, h2, h3⟩, h4⟩ => ⟨⟨b, o, u, v, ha, hs, hb ⟨b, _, none⟩ _ hs h1, hb ⟨b, _, none⟩ _ hs h2, InT.keep hb h3⟩, InTs.keep hb h4⟩
end
mutual
theorem InT.mono {S S' : Nat → Prop} {w : World} (hb : ∀ b, S b → b < w.heap.size → S' b) : ∀ {t : T} {v : Value}, InT S w t v → InT S' w t v
  | .mk _ _, _, ⟨h0, a, c, h1, h2, h3, h4⟩ => ⟨h0, a, c, h1, h2, h3, InTs.mono hb h4⟩
theorem InTs.mono {S S' : Nat → Prop} {w : World} (hb : ∀ b, S b → b < w.heap.size → S' b) : ∀ {l : List T} {a : Option Addr} {i : Nat}, InTs S w l a i → InTs S' w l a i
  | [], _, _, _ => trivial
  | _ :: _, _, _, ⟨⟨b, o, u, v, ha, hs, h1, h2, h3⟩, h4⟩ => ⟨⟨b, o, u, v, ha, hb _ hs (World.block_lt_of_cell? _ _ h1), h1, h2, InT.mono hb h3⟩, InTs.mono hb h4⟩
end
mutual
theorem InT.isT {S : Nat → Prop} {w : World} : ∀ {t : T} {v : Value}, InT S w t v → IsT w t v
  | .mk _ _, _, ⟨h0, a, c, h1, h2, h3, h4⟩ => ⟨h0, a, c, h1, h2, h3, InTs.isTs h4⟩
theorem InTs.isTs {S : Nat → Prop} {w : World} : ∀ {l : List T} {a : Option Addr} {i : Nat}, InTs S w l a i → IsTs w l a i
  | [], _, _, _ => trivial
  | _ :: _, _, _, ⟨⟨b, o, u, v, ha, hs, h1, h2, h3⟩, h4⟩ => ⟨⟨b, o, u, v, ha, h1, h2, InT.isT h3⟩, InTs.isTs h4⟩
end
theorem InT.below {S : Nat → Prop} {w w' : World} (hb : Below w.heap.size w w') {t : T} {v : Value} (h : InT S w t v) : InT S w' t v := h.keep fun p x _ hx => bkeeps hb p x hx
theorem InT.form {S : Nat → Prop} {w : World} {t : T} {v : Value} (h : InT S w t v) : I64 t.f ∧ ∃ (a : Option Addr) (c : Nat), v = .agg #[.int .i64 t.f, .slice a t.args.length c] ∧ t.args.length ≤ c ∧ c ≤ maxLen ∧ InTs S w t.args a 0 := by
  cases t; exact h
theorem InTs.of_at0 {S : Nat → Prop} {w : World} {a : Option Addr} : ∀ {l : List T} {i : Nat}, (∀ k (hk : k < l.length), ∃ (b o : Nat) (u v : Value), a = some ⟨b, o, none⟩ ∧ S b ∧ w.cell? ⟨b, o + (i + k) * 2, none⟩ = some u ∧ w.cell? ⟨b, o + (i + k) * 2 + 1, none⟩ = some v ∧ InT S w l[k] (.agg #[u, v])) → InTs S w l a i
  | [], _, _ => trivial
  | _ :: r, i, h => ⟨h 0 (by simp), InTs.of_at0 fun k hk => by
      obtain ⟨b, o, u, v, h1, h2, h3, h4, h5⟩ := h (k + 1) (by simpa using hk)
      refine ⟨b, o, u, v, h1, h2, ?_, ?_, by simpa using h5⟩
      · rw [show i + 1 + k = i + (k + 1) by omega]; exact h3
      · rw [show i + 1 + k = i + (k + 1) by omega]; exact h4⟩
theorem InT.chg {S S2 : Nat → Prop} {w w' : World} {t : T} {v : Value} (h : InT S w t v) (hc : Chg S2 w w') (hS : ∀ b, S b → ¬ S2 b) : InT S w' t v := h.keep fun p x hp hx => by
  have hb := World.block_lt_of_cell? _ _ hx
  unfold World.cell? at hx ⊢
  rw [hc.block p.block hb (hS _ hp)]; exact hx
def eltT : Elt T where
  k := 2
  In := fun S w t cs => ∃ u v, cs = [u, v] ∧ InT S w t (.agg #[u, v])
  keep := fun hb ⟨u, v, e, h⟩ => ⟨u, v, e, h.keep hb⟩
  mono := fun hb ⟨u, v, e, h⟩ => ⟨u, v, e, h.mono hb⟩
  len := fun ⟨_, _, e, _⟩ => by rw [e]; rfl
  one := fun ⟨u, v, e, h⟩ x hx => by
    obtain ⟨_, a, c, e2, _⟩ := h.form
    simp only [Value.agg.injEq, Array.mk.injEq, List.cons.injEq, and_true] at e2
    rw [e] at hx
    simp only [List.mem_cons, List.not_mem_nil, or_false] at hx
    rcases hx with rfl | rfl
    · rw [e2.1]; rfl
    · rw [e2.2]; rfl
theorem InRow.ts {S : Nat → Prop} {w : World} {l : List T} {a : Option Addr} (h : InRow eltT S w l a) : InTs S w l a 0 := InTs.of_at0 fun k hk => by
  obtain ⟨b, o, cs, h1, h2, ⟨u, v, rfl, h3⟩, h4⟩ := h k hk
  have c0 := h4 0 (by decide)
  have c1 := h4 1 (by decide)
  refine ⟨b, o, u, v, h1, h2, ?_, ?_, h3⟩
  · rw [Nat.zero_add]; exact c0
  · rw [Nat.zero_add]; exact c1
/-- A term in memory that has come since 'w0'. -/
abbrev NewT (w0 w : World) (t : T) (v : Value) : Prop := InT (fun b => w0.heap.size ≤ b) w t v
theorem newT_mk {w0 w : World} {f : Int} {ts : List T} {a : Option Addr} {n c : Nat} (hf : I64 f) (hn : n = ts.length) (hc : n ≤ c) (hm : c ≤ maxLen) (h : InRow eltT (fun b => w0.heap.size ≤ b) w ts a) : NewT w0 w (.mk f ts) (.agg #[.int .i64 f, .slice a n c]) := by
  subst hn
  exact ⟨hf, a, c, rfl, hc, hm, h.ts⟩
theorem newT_row {w0 w : World} {B e : Nat} {f : Int} {ts : List T} {ra : Option Addr} {n rc : Nat} (hf : I64 f) (h : RowE eltT w B e ra rc n ts) (hB : w0.heap.size ≤ B) : NewT w0 w (.mk f ts) (.agg #[.int .i64 f, .slice ra n rc]) := by
  obtain ⟨h1, h2, h3, h4⟩ := h.inRow
  exact newT_mk hf h2 h3 h4 (h1.mono (by decide) (fun b hb _ => Nat.le_trans hB hb))
end Go.Proofs.Ytibncmnmjhimeaa

/- Substitutions: how they lie in memory. -/
namespace Go.Proofs.Ytibncmnmjhimeaa
open Go.RowKit Go
set_option linter.unusedVariables false
set_option linter.unusedSimpArgs false
structure Bd where
  var : Int
  t : T
instance : Inhabited Bd := ⟨⟨0, .mk 0 []⟩⟩
end Go.Proofs.Ytibncmnmjhimeaa

/- Pointers to terms, in blocks that are told. -/
namespace Go.Proofs.Ytibncmnmjhimeaa
open Go.RowKit Go
set_option linter.unusedVariables false
set_option linter.unusedSimpArgs false
section
variable {S S' : Nat → Prop} {w w' : World} {t : T} {v : Value}
end
section
variable {α β : Type} {E : Elt α} {E2 : Elt β} {w w' : World} {B B2 e e2 c c2 n n2 : Nat} {a a2 : Option Addr} {l : List α} {l2 : List β}
end
section
variable {α : Type} {E : Elt α} {P : Program} {w : World} {a : Act} {K : Act → World → Prop} {Q : Exit → Act → World → Prop} {o : Oper}
end
end Go.Proofs.Ytibncmnmjhimeaa

/- Rows of one's own whose elements lie in blocks that are told. -/
namespace Go.Proofs.Ytibncmnmjhimeaa
open Go.RowKit Go
set_option linter.unusedVariables false
set_option linter.unusedSimpArgs false
section
variable {α β : Type} {E : Elt α} {E2 : Elt β} {S S' : Nat → Prop} {w w' : World} {e e2 c c2 n n2 : Nat} {a a2 : Option Addr} {l : List α} {l2 : List β}
/-- A row of one's own: its elements lie in blocks of 'S', none of which is the row's. -/
structure RowD (E : Elt α) (S : Nat → Prop) (w : World) (e : Nat) (a : Option Addr) (c n : Nat) (l : List α) : Prop where
  row : ∃ xs, w.ownsRow 0 e E.k (.slice a n c) n xs ∧ Elts E S w l xs
  len : n = l.length
  ne : ∀ b, S b → (Value.slice a n c).ownBlock ≠ some b
theorem RowD.nil : RowD E S w e none 0 0 ([] : List α) := ⟨⟨[], World.ownsRow_nil _ _ _ _, rfl⟩, rfl, fun _ _ h => (nomatch h)⟩
theorem RowD.rowE (h : RowD E S w e a c n l) : RowE E w 0 e a c n l := by
  obtain ⟨⟨xs, h1, h2⟩, h3, h4⟩ := h
  exact ⟨⟨xs, h1, Elts.mono (fun b hb _ => ⟨Nat.zero_le _, h4 b hb⟩) h2⟩, h3⟩
theorem RowD.lt (h : RowD E S w e a c n l) : ∀ b, (Value.slice a n c).ownBlock = some b → b < w.heap.size := fun b hb => (h.rowE.lt b hb).2
theorem RowD.mono (h : RowD E S w e a c n l) (hb : ∀ b, S b → b < w.heap.size → S' b) (hne : ∀ b, S' b → (Value.slice a n c).ownBlock ≠ some b) : RowD E S' w e a c n l := by
  obtain ⟨⟨xs, h1, h2⟩, h3, h4⟩ := h
  exact ⟨⟨xs, h1, Elts.mono hb h2⟩, h3, hne⟩
/-- Blocks of the row and of its elements are as they were. -/
theorem RowD.chg {Z : Nat → Prop} (h : RowD E S w e a c n l) (hc : Chg Z w w') (h1 : ∀ b, (Value.slice a n c).ownBlock = some b → ¬ Z b) (h2 : ∀ b, S b → ¬ Z b) : RowD E S w' e a c n l := by
  obtain ⟨⟨xs, k1, k2⟩, k3, k4⟩ := h
  refine ⟨⟨xs, ⟨k1.1, k1.2.imp id ?_⟩, Elts.keep (fun p v hp hv => ?_) k2⟩, k3, k4⟩
  · rintro ⟨g, cap, cur, e1, e2, e3, r⟩
    refine ⟨g, cap, cur, e1, e2, ?_, r⟩
    rw [hc.block g (Array.getElem?_eq_some_iff.1 e3).1 (h1 g (by rw [e1]; rfl))]; exact e3
  · have hb := World.block_lt_of_cell? _ _ hv
    unfold World.cell? at hv ⊢
    rw [hc.block p.block hb (h2 _ hp)]; exact hv
theorem RowD.below (h : RowD E S w e a c n l) (hb : Below w.heap.size w w') : RowD E S w' e a c n l := h.chg (Z := fun _ => False) (.ofBelow hb) (fun _ _ => id) (fun _ _ => id)
theorem RowD.inRow (h : RowD E S w e a c n l) : InRow E (fun _ => True) w l a ∧ n ≤ c ∧ c ≤ maxLen := by
  obtain ⟨h1, h2, h3, h4⟩ := h.rowE.inRow
  rcases Nat.eq_zero_or_pos E.k with hk | hk
  · exact ⟨fun i hi => by
      obtain ⟨b, o, cs, e1, _, e3, e4⟩ := h1 i hi
      exact ⟨b, o, cs, e1, trivial, E.mono (fun _ _ _ => trivial) e3, e4⟩, h3, h4⟩
  · exact ⟨h1.mono hk (fun _ _ _ => trivial), h3, h4⟩
theorem Elts.take : ∀ {l : List α} {xs : List Value} (k : Nat), Elts E S w l xs → Elts E S w (l.take k) (xs.take (k * E.k))
  | [], xs, k, h => by have : xs = [] := h; subst this; simp; exact rfl
  | x :: l, xs, 0, _ => by simp; exact rfl
  | x :: l, xs, k + 1, ⟨cs, r, e, h3, h4⟩ => by
    subst e
    refine ⟨cs, r.take (k * E.k), ?_, h3, Elts.take k h4⟩
    rw [List.take_append, E.len h3, Nat.add_mul, Nat.one_mul, Nat.add_sub_cancel, List.take_of_length_le (by rw [E.len h3]; omega)]
end
section
variable {α : Type} {E : Elt α} {P : Program} {w : World} {a : Act} {K : Act → World → Prop} {Q : Exit → Act → World → Prop} {o : Oper} {S S2 : Nat → Prop}
/-- One element more, by append. -/
theorem wp_appD {s x : Operand} {t e : Nat} {z : Value} {size bytes n rc g1 : Nat} {ra : Option Addr} {l : List α} {y : α} {cs : List Value} (hk : E.k = size) (ht : P.underlying t = some (.slice e)) (hinfo : (P.info? e).map (fun i => (i.zero, i.size, i.bytes)) = some (some z, size, bytes)) (hzs : z.cells.size = size) (hsz : 0 < size)
    (ho : o.op = .call { callee := .builtin .append, args := #[s, x], argTypes := #[t, t] }) (hs : a.eval s = .slice ra n rc) (hx : a.eval x = .slice (some ⟨g1, 0, none⟩) 1 1) (hrow : RowD E S w e ra rc n l) (hB : Blk w g1 e cs.toArray) (hin : E.In S2 w y cs) (hS2 : ∀ b, S2 b → (Value.slice ra n rc).ownBlock ≠ some b)
    (hb : (n + 1) * bytes ≤ 140737488355328) (hn : n + 1 ≤ 9223372036854775807) (hK : ∀ ra' rc' w', RowD E (fun b => (S b ∨ S2 b) ∧ b < w.heap.size) w' e ra' rc' (n + 1) (l ++ [y]) → Chg (fun b => (Value.slice ra n rc).ownBlock = some b) w w' → (∀ b, (Value.slice ra' (n + 1) rc').ownBlock = some b → (Value.slice ra n rc).ownBlock = some b ∨ w.heap.size ≤ b) → K (a.put o.dst (.slice ra' (n + 1) rc')) w') : o.wp P a w K Q := by
  subst hk
  obtain ⟨⟨xs, h1, h2⟩, rfl, h4⟩ := hrow
  refine wp_app (m := 1) (news := cs) ht hinfo hzs hsz ho hs hx h1 (SrcIs.ofBlk hB) (by rw [E.len hin]; omega) (E.one hin) hb hn (Nat.zero_le _) (fun ra' rc' w' h => hK _ _ _ ?_ ⟨h.grow.os, h.grow.tape, h.grow.output, h.grow.size, fun k hk hSk => h.grow.block k hk (fun e => hSk e.symm)⟩ ?_)
  · have key : ∀ (p : Addr) (v : Value), (Value.slice ra l.length rc).ownBlock ≠ some p.block → w.cell? p = some v → w'.cell? p = some v := fun p v hp hv => h.grow.cell hv (Ne.symm hp)
    have ne2 : ∀ b, (S b ∨ S2 b) → (Value.slice ra l.length rc).ownBlock ≠ some b := fun b q => q.elim (h4 b) (hS2 b)
    refine ⟨⟨xs ++ cs, h.own, ?_⟩, by simp, fun b hb e => ?_⟩
    · refine Elts.keep (w := w) (fun p v hp hv => key p v (ne2 _ hp.1) hv) ?_
      exact Elts.snoc (E.mono (fun b hb hlt => ⟨.inr hb, hlt⟩) hin) (Elts.mono (fun b hb hlt => ⟨.inl hb, hlt⟩) h2)
    · rcases h.at_ with e2 | e2
      · exact ne2 b hb.1 (e2 ▸ e)
      · rw [e2] at e; have := Option.some.inj e; have := hb.2; omega
  · intro b hb
    rcases h.at_ with e2 | e2
    · exact .inl (e2 ▸ hb)
    · rw [e2] at hb; exact .inr (Nat.le_of_eq (Option.some.inj hb))
end
end Go.Proofs.Ytibncmnmjhimeaa

/- Unification by nets of parts: plain. -/
namespace Go.Proofs.Ytibncmnmjhimeaa
set_option linter.unusedVariables false
set_option linter.unusedSimpArgs false
/-- A part: a symbol (or a variable), its arguments' numbers. -/
structure Pt where
  fn : Int
  args : List Nat
instance : Inhabited Pt := ⟨⟨0, []⟩⟩
def aget (l : List Nat) (k : Nat) : Nat := l.getD k 0
theorem aget_lt {l : List Nat} {k : Nat} (h : k < l.length) : aget l k = l[k] := by simp [aget, h]
end Go.Proofs.Ytibncmnmjhimeaa

/- Unification by nets of parts: terms put into the net, measures, what variables become; plain. -/
namespace Go.Proofs.Ytibncmnmjhimeaa
set_option linter.unusedVariables false
set_option linter.unusedSimpArgs false
end Go.Proofs.Ytibncmnmjhimeaa

/- Parts in memory: rows of numbers, rows of parts; numbers written in place. -/
namespace Go.Proofs.Ytibncmnmjhimeaa
open Go.RowKit Go
set_option linter.unusedVariables false
set_option linter.unusedSimpArgs false
/-- Numbers, as elements. -/
def eltN : Elt Nat where
  k := 1
  In := fun _ _ x cs => cs = [.int .i64 (x : Int)]
  keep := fun _ h => h
  mono := fun _ h => h
  len := fun h => by rw [h]; rfl
  one := fun h v hv => by rw [h] at hv; simp at hv; subst hv; rfl
section
variable {S : Nat → Prop} {w w' : World} {a : Option Addr} {c n e : Nat}
theorem InRow.openN {l : List Nat} (h : InRow eltN S w l a) : ∃ b o : Nat, (∀ k, k < l.length → a = some ⟨b, o, none⟩) ∧ ∀ k, k < l.length → w.cell? ⟨b, o + k, none⟩ = some (.int .i64 ((aget l k : Nat) : Int)) := by
  rcases Nat.eq_zero_or_pos l.length with h0 | h0
  · exact ⟨0, 0, fun k hk => by omega, fun k hk => by omega⟩
  · obtain ⟨b, o, _, ha, _⟩ := h 0 h0
    refine ⟨b, o, fun _ _ => ha, fun k hk => ?_⟩
    obtain ⟨b2, o2, cs, e1, _, h3, h4⟩ := h k hk
    rw [ha] at e1
    simp only [Option.some.injEq, Addr.mk.injEq, and_true] at e1
    obtain ⟨rfl, rfl⟩ := e1
    have h3' : cs = [.int .i64 ((l[k] : Nat) : Int)] := h3
    subst h3'
    rw [aget_lt hk]
    have := h4 0 (by decide)
    simpa [eltN] using this
end
end Go.Proofs.Ytibncmnmjhimeaa

/- Rows of numbers: opened, one's own. -/
namespace Go.Proofs.Ytibncmnmjhimeaa
open Go.RowKit Go
set_option linter.unusedVariables false
set_option linter.unusedSimpArgs false
abbrev obk (a : Option Addr) (n c : Nat) : Option Nat := (Value.slice a n c).ownBlock
section
variable {S : Nat → Prop} {w w' : World} {a : Option Addr} {c n e : Nat}
end
end Go.Proofs.Ytibncmnmjhimeaa

/- An index by fingerprints in memory: buckets in a map. -/
namespace Go.Proofs.Ytibncmnmjhimeaa
open Go.RowKit Go
set_option linter.unusedVariables false
set_option linter.unusedSimpArgs false
abbrev TI := T × Int
local instance : Inhabited T := ⟨.mk 0 []⟩
def eltR : Elt TI where
  k := 3
  In := fun S w x cs => ∃ u v, cs = [u, v, .int .i64 x.2] ∧ InT S w x.1 (.agg #[u, v])
  keep := fun hb ⟨u, v, e, h⟩ => ⟨u, v, e, h.keep hb⟩
  mono := fun hb ⟨u, v, e, h⟩ => ⟨u, v, e, h.mono hb⟩
  len := fun ⟨_, _, e, _⟩ => by rw [e]; rfl
  one := fun ⟨u, v, e, h⟩ x hx => by
    obtain ⟨_, a, c, e1, _⟩ := h.form
    simp only [Value.agg.injEq, Array.mk.injEq, List.cons.injEq, and_true] at e1
    obtain ⟨rfl, rfl⟩ := e1
    rw [e] at hx
    simp only [List.mem_cons, List.not_mem_nil, or_false] at hx
    rcases hx with rfl | rfl | rfl <;> rfl
/-- A bucket: its key, where its row lies, its rows. -/
structure Bk where
  key : List Int
  a : Option Addr
  c : Nat
  rows : List TI
abbrev bkV (x : Bk) : List Int × Value := (x.key, .slice x.a x.rows.length x.c)
abbrev bkO (x : Bk) : Option Nat := obk x.a x.rows.length x.c
/-- The rows of a bag that have a key. -/
def bag (B : List TI) (k : List Int) : List TI := B.filter (fun r => decide (prt r.1 = k))
structure FpO (w : World) (g m : Nat) (es : Array MapEntry) (clock : Nat) (KL : List Bk) (S : Nat → Prop) (B : List TI) : Prop where
  blk : Blk w g 48 #[.map (some m), .int .i64 ((B.length : Nat) : Int)]
  obj : ObjAt w m (.map es clock)
  ent : GmE encP okP es clock (KL.map bkV)
  nd : (KL.map (·.key)).Nodup
  row : ∀ x ∈ KL, RowD eltR S w 54 x.a x.c x.rows.length x.rows
  bags : ∀ x ∈ KL, x.rows = bag B x.key ∧ x.rows ≠ []
  all : ∀ r ∈ B, ∃ x ∈ KL, x.key = prt r.1
  own : ∀ x ∈ KL, ∀ b, bkO x = some b → b ≠ g ∧ b ≠ m ∧ ¬ S b
  apart : ∀ x ∈ KL, ∀ y ∈ KL, x.key ≠ y.key → ∀ b, bkO x = some b → bkO y ≠ some b
  sS : ∀ b, S b → b ≠ g ∧ b ≠ m ∧ b < w.heap.size
  ids : ∀ r ∈ B, I64 r.2 ∧ r.1.size ≤ 4294967296
def FpZ (g m : Nat) (KL : List Bk) (S : Nat → Prop) : Nat → Prop := fun b => b = g ∨ b = m ∨ S b ∨ ∃ x ∈ KL, bkO x = some b
section
variable {w w' : World} {g m clock : Nat} {es : Array MapEntry} {KL : List Bk} {S : Nat → Prop} {B : List TI}
theorem FpO.gm (h : FpO w g m es clock KL S B) : g ≠ m := h.obj.neBlk h.blk
theorem FpO.lt (h : FpO w g m es clock KL S B) : ∀ b, FpZ g m KL S b → b < w.heap.size := fun b q => by
  rcases q with rfl | rfl | q | ⟨x, hx, q⟩
  · exact h.blk.lt
  · exact h.obj.lt
  · exact (h.sS b q).2.2
  · exact (h.row x hx).lt b q
theorem FpO.chg {Z : Nat → Prop} (h : FpO w g m es clock KL S B) (hc : Chg Z w w') (hZ : ∀ b, FpZ g m KL S b → ¬ Z b) : FpO w' g m es clock KL S B :=
  ⟨chg_blk h.blk hc (hZ _ (.inl rfl)), h.obj.chg hc (hZ _ (.inr (.inl rfl))), h.ent, h.nd, fun x hx => (h.row x hx).chg hc (fun b q => hZ b (.inr (.inr (.inr ⟨x, hx, q⟩)))) (fun b q => hZ b (.inr (.inr (.inl q)))), h.bags, h.all, h.own, h.apart, fun b q => ⟨(h.sS b q).1, (h.sS b q).2.1, Nat.lt_of_lt_of_le (h.sS b q).2.2 hc.size⟩, h.ids⟩
theorem FpO.c0 (h : FpO w g m es clock KL S B) : w.cell? ⟨g, 0, none⟩ = some (.map (some m)) := (h.blk.cell 0).trans rfl
theorem FpO.c1 (h : FpO w g m es clock KL S B) : w.cell? ⟨g, 1, none⟩ = some (.int .i64 ((B.length : Nat) : Int)) := (h.blk.cell 1).trans rfl
/-- What the map tells of a key. -/
theorem FpO.look (h : FpO w g m es clock KL S B) (k : List Int) : ∃ a c, (gmLook (KL.map bkV) k).getD (.slice none 0 0) = .slice a (bag B k).length c ∧ RowD eltR S w 54 a c (bag B k).length (bag B k) ∧
    (∀ b, obk a (bag B k).length c = some b → b ≠ g ∧ b ≠ m ∧ ¬ S b ∧ b < w.heap.size ∧ FpZ g m KL S b ∧ ∀ y ∈ KL, y.key ≠ k → bkO y ≠ some b) ∧ ((bag B k ≠ []) → ∃ i : Nat, ∃ x ∈ KL, KL[i]? = some x ∧ x.key = k ∧ x.a = a ∧ x.c = c ∧ x.rows = bag B k) := by
  by_cases hk : ∃ x ∈ KL, x.key = k
  · obtain ⟨x, hx, rfl⟩ := hk
    obtain ⟨i, hi, rfl⟩ := List.getElem_of_mem hx
    have hr := (h.bags _ hx).1
    have hl : gmLook (KL.map bkV) (KL[i]).key = some (.slice (KL[i]).a (KL[i]).rows.length (KL[i]).c) := by
      unfold gmLook
      cases hf : gmFind (KL.map bkV) (KL[i]).key 0 with
      | none => exact absurd rfl (gmFind_none.1 hf (bkV KL[i]) (List.mem_map_of_mem hx))
      | some p =>
        obtain ⟨j, v⟩ := p
        obtain ⟨_, hat⟩ := gmFind_at hf
        rw [Nat.sub_zero, List.getElem?_map] at hat
        cases hj : KL[j]? with
        | none => rw [hj] at hat; cases hat
        | some y =>
          rw [hj] at hat
          simp only [Option.map_some, Option.some.injEq, Prod.mk.injEq] at hat
          have hjl := (List.getElem?_eq_some_iff.1 hj).1
          have : j = i := by
            have hn := h.nd
            have e1 : (KL.map (·.key))[j]? = (KL.map (·.key))[i]? := by
              rw [List.getElem?_map, List.getElem?_map, hj, List.getElem?_eq_getElem hi]
              simp [hat.1]
            exact (List.getElem?_inj (by simpa using hjl) hn).1 e1
          subst this
          rw [List.getElem?_eq_getElem hi] at hj
          cases hj
          rw [← hat.2]; rfl
    refine ⟨(KL[i]).a, (KL[i]).c, by rw [hl, ← hr]; rfl, by rw [← hr]; exact h.row _ hx, fun b q => ?_, fun _ => ⟨i, _, hx, List.getElem?_eq_getElem hi, rfl, rfl, rfl, hr⟩⟩
    rw [← hr] at q
    have ho := h.own _ hx b q
    exact ⟨ho.1, ho.2.1, ho.2.2, (h.row _ hx).lt b q, .inr (.inr (.inr ⟨_, hx, q⟩)), fun y hy hne => h.apart _ hx y hy (fun e => hne e.symm) b q⟩
  · have hb : bag B k = [] := by
      unfold bag
      rw [List.filter_eq_nil_iff]
      intro r hr
      simp only [decide_eq_true_eq]
      intro e
      obtain ⟨x, hx, e2⟩ := h.all r hr
      exact hk ⟨x, hx, e2.trans e⟩
    have hl : gmLook (KL.map bkV) k = none := by
      unfold gmLook
      rw [gmFind_none.2 (fun y hy => by
        obtain ⟨x, hx, rfl⟩ := List.mem_map.1 hy
        exact fun e => hk ⟨x, hx, e⟩)]
      rfl
    refine ⟨none, 0, by rw [hl, hb]; rfl, by rw [hb]; exact RowD.nil, fun b q => ?_, fun hne => absurd hb hne⟩
    rw [hb] at q; cases q
end
/-- An index, whose blocks are 'Z'. -/
def FpIs (w : World) (g : Nat) (Z : Nat → Prop) (B : List TI) : Prop := ∃ m es clock KL S, FpO w g m es clock KL S B ∧ (∀ b, FpZ g m KL S b → Z b) ∧ ∀ b, Z b → b < w.heap.size
section
variable {w w' : World} {g : Nat} {Z X : Nat → Prop} {B : List TI}
theorem FpIs.chg (h : FpIs w g Z B) (hc : Chg X w w') (hX : ∀ b, Z b → ¬ X b) : FpIs w' g Z B := by
  obtain ⟨m, es, clock, KL, S, h1, h2, h3⟩ := h
  exact ⟨m, es, clock, KL, S, h1.chg hc (fun b q => hX b (h2 b q)), h2, fun b q => Nat.lt_of_lt_of_le (h3 b q) hc.size⟩
theorem FpIs.below (h : FpIs w g Z B) (hb : Below w.heap.size w w') : FpIs w' g Z B := h.chg (X := fun _ => False) (.ofBelow hb) (fun _ _ => id)
theorem FpIs.lt (h : FpIs w g Z B) : ∀ b, Z b → b < w.heap.size := by obtain ⟨m, es, clock, KL, S, h1, h2, h3⟩ := h; exact h3
end
theorem bag_snoc_eq {B : List TI} {t : T} {id : Int} : bag (B ++ [(t, id)]) (prt t) = bag B (prt t) ++ [(t, id)] := by
  unfold bag; rw [List.filter_append, List.filter_cons, if_pos (by simp)]; rfl
theorem bag_snoc_ne {B : List TI} {t : T} {id : Int} {k : List Int} (h : k ≠ prt t) : bag (B ++ [(t, id)]) k = bag B k := by
  unfold bag; rw [List.filter_append, List.filter_cons, if_neg (by simpa using fun e => h e.symm)]; simp
/-- A bucket is told anew. -/
def KLput (KL : List Bk) (x : Bk) : List Bk := match gmFind (KL.map bkV) x.key 0 with | some (i, _) => KL.set i x | none => KL ++ [x]
theorem KLput_map (KL : List Bk) (x : Bk) : (KLput KL x).map bkV = gmPut (KL.map bkV) x.key (.slice x.a x.rows.length x.c) := by
  unfold KLput gmPut
  cases gmFind (KL.map bkV) x.key 0 with
  | none => simp
  | some p => simp [List.map_set]
theorem KLput_mem {KL : List Bk} {x y : Bk} (hn : (KL.map (·.key)).Nodup) (h : y ∈ KLput KL x) : y = x ∨ (y ∈ KL ∧ y.key ≠ x.key) := by
  unfold KLput at h
  cases hf : gmFind (KL.map bkV) x.key 0 with
  | none =>
    rw [hf] at h
    rcases List.mem_append.1 h with h | h
    · exact .inr ⟨h, gmFind_none.1 hf (bkV y) (List.mem_map_of_mem h)⟩
    · exact .inl (List.mem_singleton.1 h)
  | some p =>
    obtain ⟨i, v⟩ := p
    rw [hf] at h
    obtain ⟨_, hat⟩ := gmFind_at hf
    rw [Nat.sub_zero, List.getElem?_map] at hat
    obtain ⟨z, hz, hz2⟩ := Option.map_eq_some_iff.1 hat
    have hil := (List.getElem?_eq_some_iff.1 hz).1
    obtain ⟨j, hj, rfl⟩ := List.getElem_of_mem h
    rw [List.getElem_set]
    split
    · exact .inl rfl
    · rename_i c
      refine .inr ⟨List.getElem_mem _, fun e => c ?_⟩
      have hjl : j < KL.length := by simpa using hj
      have e1 : (KL.map (·.key))[i]? = (KL.map (·.key))[j]? := by
        rw [List.getElem?_map, List.getElem?_map, hz, List.getElem?_eq_getElem hjl]
        simp only [Option.map_some, e]
        exact congrArg some (congrArg Prod.fst hz2)
      exact (List.getElem?_inj (by simpa using hil) hn).1 e1
theorem KLput_has {KL : List Bk} {x : Bk} : x ∈ KLput KL x := by
  unfold KLput
  cases hf : gmFind (KL.map bkV) x.key 0 with
  | none => simp
  | some p =>
    obtain ⟨i, v⟩ := p
    obtain ⟨_, hat⟩ := gmFind_at hf
    rw [Nat.sub_zero, List.getElem?_map] at hat
    obtain ⟨z, hz, _⟩ := Option.map_eq_some_iff.1 hat
    exact List.mem_set (List.getElem?_eq_some_iff.1 hz).1 x
theorem KLput_keep {KL : List Bk} {x y : Bk} (h : y ∈ KL) (hne : y.key ≠ x.key) : y ∈ KLput KL x := by
  unfold KLput
  cases hf : gmFind (KL.map bkV) x.key 0 with
  | none => simp [h]
  | some p =>
    obtain ⟨i, v⟩ := p
    obtain ⟨_, hat⟩ := gmFind_at hf
    rw [Nat.sub_zero, List.getElem?_map] at hat
    obtain ⟨z, hz, hz2⟩ := Option.map_eq_some_iff.1 hat
    obtain ⟨j, hj, rfl⟩ := List.getElem_of_mem h
    have hji : i ≠ j := by
      rintro rfl
      rw [List.getElem?_eq_getElem hj] at hz
      cases hz
      exact hne (congrArg Prod.fst hz2)
    show KL[j] ∈ KL.set i x
    refine List.mem_iff_getElem.2 ⟨j, by simpa using hj, ?_⟩
    rw [List.getElem_set, if_neg hji]
theorem KLput_nd {KL : List Bk} {x : Bk} (hn : (KL.map (·.key)).Nodup) : ((KLput KL x).map (·.key)).Nodup := by
  unfold KLput
  cases hf : gmFind (KL.map bkV) x.key 0 with
  | none =>
    rw [List.map_append, List.map_singleton, List.nodup_append]
    refine ⟨hn, by simp, fun a ha b hb => ?_⟩
    obtain ⟨y, hy, rfl⟩ := List.mem_map.1 ha
    rw [List.mem_singleton.1 hb]
    exact gmFind_none.1 hf (bkV y) (List.mem_map_of_mem hy)
  | some p =>
    obtain ⟨i, v⟩ := p
    obtain ⟨_, hat⟩ := gmFind_at hf
    rw [Nat.sub_zero, List.getElem?_map] at hat
    obtain ⟨z, hz, hz2⟩ := Option.map_eq_some_iff.1 hat
    show ((KL.set i x).map (·.key)).Nodup
    rw [List.map_set]
    have : (KL.map (·.key)).set i x.key = KL.map (·.key) := by
      apply List.ext_getElem
      · simp
      · intro q q1 q2
        rw [List.getElem_set]
        split
        · rename_i c
          subst c
          have hil := (List.getElem?_eq_some_iff.1 hz).1
          rw [List.getElem?_eq_getElem hil] at hz
          cases hz
          simp only [List.getElem_map]
          exact (congrArg Prod.fst hz2).symm
        · rfl
    rw [this]; exact hn
section
variable {w u : World} {g m clock clock' : Nat} {es es' : Array MapEntry} {KL : List Bk} {S S2 : Nat → Prop} {B : List TI}
/-- A term more has come. -/
theorem FpO.added {t : T} {id : Int} {a ra : Option Addr} {c rc : Nat} (h : FpO w g m es clock KL S B) (hid : I64 id ∧ t.size ≤ 4294967296)
    (hlook : ∀ b, obk a (bag B (prt t)).length c = some b → b ≠ g ∧ b ≠ m ∧ ¬ S b ∧ b < w.heap.size ∧ FpZ g m KL S b ∧ ∀ y ∈ KL, y.key ≠ prt t → bkO y ≠ some b)
    (hB : Blk u g 48 #[.map (some m), .int .i64 (((B.length + 1 : Nat)) : Int)]) (hO : ObjAt u m (.map es' clock')) (hE : GmE encP okP es' clock' (gmPut (KL.map bkV) (prt t) (.slice ra ((bag B (prt t)).length + 1) rc)))
    (hr : RowD eltR S2 u 54 ra rc ((bag B (prt t)).length + 1) (bag B (prt t) ++ [(t, id)])) (hS2 : ∀ b, S b → S2 b) (hS2n : ∀ b, S2 b → S b ∨ (w.heap.size ≤ b ∧ b < u.heap.size ∧ obk ra ((bag B (prt t)).length + 1) rc ≠ some b))
    (ho : ∀ b, obk ra ((bag B (prt t)).length + 1) rc = some b → obk a (bag B (prt t)).length c = some b ∨ w.heap.size ≤ b) (hc : Chg (fun b => b = g ∨ b = m ∨ obk a (bag B (prt t)).length c = some b) w u) :
    FpO u g m es' clock' (KLput KL ⟨prt t, ra, rc, bag B (prt t) ++ [(t, id)]⟩) S2 (B ++ [(t, id)]) := by
  have hl : (bag B (prt t) ++ [(t, id)]).length = (bag B (prt t)).length + 1 := by simp
  have hgl := h.blk.lt
  have hml := h.obj.lt
  have hrl := hr.lt
  have old : ∀ y ∈ KL, y.key ≠ prt t → RowD eltR S2 u 54 y.a y.c y.rows.length y.rows := fun y hy hne => by
    refine ((h.row y hy).chg hc (fun b q k => ?_) (fun b q k => ?_)).mono (fun b q _ => hS2 b q) (fun b q k => ?_)
    · rcases k with k | k | k
      · exact (h.own y hy b q).1 k
      · exact (h.own y hy b q).2.1 k
      · exact (hlook b k).2.2.2.2.2 y hy hne q
    · rcases k with k | k | k
      · exact (h.sS b q).1 k
      · exact (h.sS b q).2.1 k
      · exact (hlook b k).2.2.1 q
    · rcases hS2n b q with z | z
      · exact (h.own y hy b k).2.2 z
      · have := (h.row y hy).lt b k; omega
  have own2 : ∀ b, obk ra ((bag B (prt t)).length + 1) rc = some b → b ≠ g ∧ b ≠ m ∧ ¬ S2 b ∧ ∀ y ∈ KL, y.key ≠ prt t → bkO y ≠ some b := fun b q => by
    refine ⟨?_, ?_, fun k => hr.ne b k q, fun y hy hne k => ?_⟩
    · rcases ho b q with z | z
      · exact (hlook b z).1
      · omega
    · rcases ho b q with z | z
      · exact (hlook b z).2.1
      · omega
    · rcases ho b q with z | z
      · exact (hlook b z).2.2.2.2.2 y hy hne k
      · have := (h.row y hy).lt b k; omega
  refine ⟨by simpa using hB, hO, by rw [KLput_map, hl]; exact hE, KLput_nd h.nd, fun x hx => ?_, fun x hx => ?_, fun r hr2 => ?_, fun x hx b q => ?_, fun x hx y hy hne b q => ?_, fun b q => ?_, fun r hr2 => ?_⟩
  · rcases KLput_mem h.nd hx with rfl | ⟨hx, hne⟩
    · rw [hl]; exact hr
    · exact old x hx hne
  · rcases KLput_mem h.nd hx with rfl | ⟨hx, hne⟩
    · exact ⟨bag_snoc_eq.symm, by simp⟩
    · rw [bag_snoc_ne hne]; exact h.bags x hx
  · rcases List.mem_append.1 hr2 with hr2 | hr2
    · obtain ⟨x, hx, e⟩ := h.all r hr2
      by_cases hk : x.key = prt t
      · exact ⟨_, KLput_has, by rw [← e, hk]⟩
      · exact ⟨x, KLput_keep hx hk, e⟩
    · obtain rfl := List.mem_singleton.1 hr2
      exact ⟨_, KLput_has, rfl⟩
  · rcases KLput_mem h.nd hx with rfl | ⟨hx, hne⟩
    · have q : obk ra (bag B (prt t) ++ [(t, id)]).length rc = some b := q
      rw [hl] at q
      exact ⟨(own2 b q).1, (own2 b q).2.1, (own2 b q).2.2.1⟩
    · refine ⟨(h.own x hx b q).1, (h.own x hx b q).2.1, fun k => ?_⟩
      rcases hS2n b k with z | z
      · exact (h.own x hx b q).2.2 z
      · have := (h.row x hx).lt b q; omega
  · rcases KLput_mem h.nd hx with rfl | ⟨hx, hnx⟩
    · have q : obk ra (bag B (prt t) ++ [(t, id)]).length rc = some b := q
      rw [hl] at q
      rcases KLput_mem h.nd hy with rfl | ⟨hy, hny⟩
      · exact absurd rfl hne
      · exact (own2 b q).2.2.2 y hy hny
    · rcases KLput_mem h.nd hy with rfl | ⟨hy, hny⟩
      · intro k
        have k : obk ra (bag B (prt t) ++ [(t, id)]).length rc = some b := k
        rw [hl] at k
        exact (own2 b k).2.2.2 x hx hnx q
      · exact h.apart x hx y hy hne b q
  · rcases hS2n b q with z | z
    · exact ⟨(h.sS b z).1, (h.sS b z).2.1, Nat.lt_of_lt_of_le (h.sS b z).2.2 hc.size⟩
    · exact ⟨by omega, by omega, z.2.1⟩
  · rcases List.mem_append.1 hr2 with hr2 | hr2
    · exact h.ids r hr2
    · obtain rfl := List.mem_singleton.1 hr2; exact hid
end
end Go.Proofs.Ytibncmnmjhimeaa

/- The library's Sort, Compact and Contains of integers, as their contracts have it, at this program. -/
namespace Go.Proofs.Ytibncmnmjhimeaa
open Go.RowKit Go.Sort Go.Shelf Go
def Try.lSort_ren : Go.Shelf.Ren := ⟨fun | 5 => 50 | 8 => 56 | 7 => 55 | 19 => 67 | 20 => 68 | 10 => 58 | 11 => 59 | 12 => 60 | 13 => 61 | 14 => 62 | 15 => 63 | 16 => 64 | 17 => 65 | 18 => 66 | 30 => 69 | 31 => 70 | 32 => 71 | 33 => 72 | 34 => 73 | 35 => 74 | 40 => 75 | n => n, fun | 23 => 31 | 25 => 3 | 3 => 3 | 32 => 95 | 22 => 31 | 0 => 0 | 44 => 106 | 46 => 108 | 4 => 4 | 36 => 99 | 35 => 98 | 41 => 103 | 5 => 5 | 9 => 9 | 53 => 109 | 57 => 113 | 63 => 116 | 64 => 117 | n => n, fun | n => n⟩
theorem Try.lSort : Go.Proofs.SlLaysM.n5 Try.prog Try.lSort_ren := {
  mixed := by kernel_rfl,
  f5 := ⟨Try.f50.name, by decide, Try.func50.trans (congrArg some (by kernel_rfl))⟩,
  f7 := ⟨Try.f55.name, by decide, Try.func55.trans (congrArg some (by kernel_rfl))⟩,
  f8 := Try.func56.trans (congrArg some (by kernel_rfl)),
  f10 := ⟨Try.f58.name, by decide, Try.func58.trans (congrArg some (by kernel_rfl))⟩,
  f11 := ⟨Try.f59.name, by decide, Try.func59.trans (congrArg some (by kernel_rfl))⟩,
  f12 := ⟨Try.f60.name, by decide, Try.func60.trans (congrArg some (by kernel_rfl))⟩,
  f13 := ⟨Try.f61.name, by decide, Try.func61.trans (congrArg some (by kernel_rfl))⟩,
  f14 := ⟨Try.f62.name, by decide, Try.func62.trans (congrArg some (by kernel_rfl))⟩,
  f15 := ⟨Try.f63.name, by decide, Try.func63.trans (congrArg some (by kernel_rfl))⟩,
  f16 := ⟨Try.f64.name, by decide, Try.func64.trans (congrArg some (by kernel_rfl))⟩,
  f17 := ⟨Try.f65.name, by decide, Try.func65.trans (congrArg some (by kernel_rfl))⟩,
  f18 := ⟨Try.f66.name, by decide, Try.func66.trans (congrArg some (by kernel_rfl))⟩,
  f19 := Try.func67.trans (congrArg some (by kernel_rfl)),
  f20 := Try.func68.trans (congrArg some (by kernel_rfl)),
  f30 := ⟨Try.f69.name, by decide, Try.func69.trans (congrArg some (by kernel_rfl))⟩,
  f31 := Try.func70.trans (congrArg some (by kernel_rfl)),
  f32 := Try.func71.trans (congrArg some (by kernel_rfl)),
  f33 := ⟨Try.f72.name, by decide, Try.func72.trans (congrArg some (by kernel_rfl))⟩,
  f34 := ⟨Try.f73.name, by decide, Try.func73.trans (congrArg some (by kernel_rfl))⟩,
  f35 := ⟨Try.f74.name, by decide, Try.func74.trans (congrArg some (by kernel_rfl))⟩,
  f40 := ⟨Try.f75.name, by decide, Try.func75.trans (congrArg some (by kernel_rfl))⟩,
  t0 := Try.underlying0,
  a0 := Try.isAgg0,
  z0 := Try.sizeOf0,
  v0 := Try.zeroValue0,
  t3 := Try.underlying3,
  a3 := Try.isAgg3,
  z3 := Try.sizeOf3,
  v3 := Try.zeroValue3,
  t4 := Try.underlying4,
  a4 := Try.isAgg4,
  z4 := Try.sizeOf4,
  v4 := Try.zeroValue4,
  t5 := Try.underlying5,
  a5 := Try.isAgg5,
  z5 := Try.sizeOf5,
  v5 := Try.zeroValue5,
  t9 := Try.underlying9,
  a9 := Try.isAgg9,
  z9 := Try.sizeOf9,
  v9 := Try.zeroValue9,
  t22 := Try.underlying31,
  a22 := Try.isAgg31,
  z22 := Try.sizeOf31,
  v22 := Try.zeroValue31,
  t23 := Try.underlying31,
  a23 := Try.isAgg31,
  z23 := Try.sizeOf31,
  v23 := Try.zeroValue31,
  t25 := Try.underlying3,
  a25 := Try.isAgg3,
  z25 := Try.sizeOf3,
  v25 := Try.zeroValue3,
  t32 := Try.underlying95,
  a32 := Try.isAgg95,
  z32 := Try.sizeOf95,
  v32 := Try.zeroValue95,
  t35 := Try.underlying98,
  a35 := Try.isAgg98,
  z35 := Try.sizeOf98,
  v35 := Try.zeroValue98,
  t36 := Try.underlying99,
  a36 := Try.isAgg99,
  z36 := Try.sizeOf99,
  v36 := Try.zeroValue99,
  t41 := Try.underlying103,
  a41 := Try.isAgg103,
  z41 := Try.sizeOf103,
  v41 := Try.zeroValue103,
  t44 := Try.underlying106,
  a44 := Try.isAgg106,
  z44 := Try.sizeOf106,
  v44 := Try.zeroValue106,
  t46 := Try.underlying108,
  a46 := Try.isAgg108,
  z46 := Try.sizeOf108,
  v46 := Try.zeroValue108,
  t53 := Try.underlying109,
  a53 := Try.isAgg109,
  z53 := Try.sizeOf109,
  v53 := Try.zeroValue109,
  t57 := Try.underlying113,
  a57 := Try.isAgg113,
  z57 := Try.sizeOf113,
  v57 := Try.zeroValue113,
  t63 := Try.underlying116,
  a63 := Try.isAgg116,
  z63 := Try.sizeOf116,
  v63 := Try.zeroValue116,
  t64 := Try.underlying117,
  a64 := Try.isAgg117,
  z64 := Try.sizeOf117,
  v64 := Try.zeroValue117 }
def Try.lCompact_ren : Go.Shelf.Ren := ⟨fun | 20 => 51 | n => n, fun | 22 => 31 | 3 => 3 | 4 => 4 | 0 => 0 | n => n, fun | n => n⟩
theorem Try.lCompact : Go.Proofs.Lays2.n20 Try.prog Try.lCompact_ren := {
  mixed := by kernel_rfl,
  f20 := Try.func51.trans (congrArg some (by kernel_rfl)),
  t0 := Try.underlying0,
  a0 := Try.isAgg0,
  z0 := Try.sizeOf0,
  v0 := Try.zeroValue0,
  t3 := Try.underlying3,
  a3 := Try.isAgg3,
  z3 := Try.sizeOf3,
  v3 := Try.zeroValue3,
  t4 := Try.underlying4,
  a4 := Try.isAgg4,
  z4 := Try.sizeOf4,
  v4 := Try.zeroValue4,
  t22 := Try.underlying31,
  a22 := Try.isAgg31,
  z22 := Try.sizeOf31,
  v22 := Try.zeroValue31,
  i3 := by kernel_rfl }
end Go.Proofs.Ytibncmnmjhimeaa

/- The library's Sort and Compact over a row of integers of the call's own: in order, each once. -/
namespace Go.Proofs.Ytibncmnmjhimeaa
open Go.RowKit Go.Sort Go.Shelf Go
set_option linter.unusedVariables false
set_option linter.unusedSimpArgs false
theorem compact_sub (d : Array Int) (m : Nat) (x : Int) (h : x ∈ Lib.compactUpTo d m) : ∃ j, j < m ∧ d[j]! = x := by
  unfold Lib.compactUpTo at h
  simp only [List.mem_map, List.mem_filter, List.mem_range] at h
  obtain ⟨j, ⟨h1, _⟩, h2⟩ := h
  exact ⟨j, h1, h2⟩
theorem compact_sup (d : Array Int) (m : Nat) : ∀ j, j < m → d[j]! ∈ Lib.compactUpTo d m := by
  intro j
  induction j using Nat.strongRecOn with
  | ind j ih =>
    intro hj
    unfold Lib.compactUpTo
    simp only [List.mem_map, List.mem_filter, List.mem_range]
    by_cases hk : Lib.keeps d j = true
    · exact ⟨j, ⟨hj, hk⟩, rfl⟩
    · have h0 : j ≠ 0 := by rintro rfl; exact hk (Lib.keeps_lt_one d 0 (by omega))
      have he : d[j]! = d[j - 1]! := by
        unfold Lib.keeps at hk
        simp only [decide_eq_true_eq, ne_eq] at hk
        by_cases e : d[j]! = d[j - 1]!
        · exact e
        · exact absurd (by first | exact .inr e | exact .inr (fun h => e h.symm) | exact .inr (Ne.symm e)) hk
      have := ih (j - 1) (by omega) (by omega)
      unfold Lib.compactUpTo at this
      simp only [List.mem_map, List.mem_filter, List.mem_range] at this
      rw [he]; exact this
theorem compact_mem (l : List Int) (x : Int) : x ∈ Lib.compact l ↔ x ∈ l := by
  unfold Lib.compact
  have e : ∀ j, j < l.length → l.toArray[j]! = l[j]! := fun j hj => by simp
  constructor
  · intro h
    obtain ⟨j, hj, rfl⟩ := compact_sub _ _ _ h
    rw [e j hj, getElem!_pos l j hj]; exact List.getElem_mem hj
  · intro h
    obtain ⟨j, hj, rfl⟩ := List.getElem_of_mem h
    have := compact_sup l.toArray l.length j hj
    rwa [e j hj, getElem!_pos l j hj] at this
theorem compact_le (l : List Int) : (Lib.compact l).length ≤ l.length := by
  unfold Lib.compact Lib.compactUpTo
  rw [List.length_map]
  exact Nat.le_trans (List.length_filter_le _ _) (by simp)
theorem RiseP.of : ∀ {l : List Int}, l.Pairwise (· < ·) → RiseP l
  | [], _ => trivial
  | x :: r, h => by
    rw [List.pairwise_cons] at h
    exact ⟨h.1, RiseP.of h.2⟩
theorem compact_rise (l : List Int) (h : l.Pairwise (· ≤ ·)) : RiseP (Lib.compact l) := by
  refine RiseP.of ?_
  unfold Lib.compact Lib.compactUpTo
  rw [List.pairwise_map]
  have e : ∀ j, j < l.length → l.toArray[j]! = l[j]! := fun j hj => by simp
  have hs : ∀ i j, i ≤ j → (hj : j < l.length) → l[i]! ≤ l[j]! := fun i j hij hj => by
    rcases Nat.lt_or_ge i j with c | c
    · rw [getElem!_pos l i (by omega), getElem!_pos l j hj]
      exact List.pairwise_iff_getElem.1 h i j (by omega) hj c
    · obtain rfl : i = j := by omega
      exact Int.le_refl _
  refine (List.Pairwise.filter _ List.pairwise_lt_range).imp_of_mem (fun {i j} hi hj hij => ?_)
  rw [List.mem_filter, List.mem_range] at hi hj
  rw [e i hi.1, e j hj.1]
  have hk := hj.2
  unfold Lib.keeps at hk
  simp only [decide_eq_true_eq] at hk
  have h1 := hs i (j - 1) (by omega) (by omega)
  have h2 := hs (j - 1) j (by omega) hj.1
  have h3 : l[j - 1]! ≠ l[j]! := by
    rw [e j hj.1, e (j - 1) (by omega)] at hk
    rcases hk with hk | hk
    · omega
    · first | exact hk | exact Ne.symm hk
  omega
section
variable {w : World} {S : Nat → Prop} {ra : Option Addr} {rc n : Nat} {L : List Int}
theorem holds_own {g : Nat} (h : w.ownsRow 0 3 1 (.slice (some ⟨g, 0, none⟩) n rc) n (L.map (Value.int .i64))) : Holds (Value.int .i64) w g 0 L.toArray := by
  rcases h.2 with ⟨e, _⟩ | ⟨g', cap, cur, e, _, hb, hc, hm, hs, hx⟩
  · cases e
  · cases e
    have hl : L.length = n := by have := h.1; simpa using this
    intro j hj
    have hj' : j < L.length := by simpa using hj
    have hx' := congrArg (fun l => l[j]?) hx
    simp only [Nat.mul_one, List.getElem?_map] at hx'
    rw [List.getElem?_take_of_lt (by omega), Array.getElem?_toList, List.getElem?_eq_getElem hj'] at hx'
    refine ⟨?_, ?_⟩
    · simp only [World.cell?, hb, Nat.zero_add]
      simp [hx', hj']
    · simp [World.frozen?, hb]
theorem sort_own (h : Own w S 3 1 ra rc n (L.map (Value.int .i64))) (hz : n ≤ 4294967296) :
    Calls Try.prog 50 #[.slice ra n rc] w (Ret fun v' w' => ∃ L' : List Int, v' = .tuple #[] ∧ ((∀ x, x ∈ L' ↔ x ∈ L) ∧ L'.Pairwise (· ≤ ·)) ∧ Own w' S 3 1 ra rc n (L'.map (Value.int .i64)) ∧ Chg S w w') := by
  have hl : L.length = n := by have := h.1.1; simpa using this
  have h0 := h
  rcases h.1.2 with ⟨e, h0⟩ | ⟨g, cap, cur, e, h1, hb, hc, hm, hs, hx⟩
  · simp only [Value.slice.injEq] at e
    obtain ⟨rfl, rfl, rfl⟩ := e
    refine (AnyM.slices_Sort_int_none Try.lSort none 0 w).mono ?_
    rintro e w' ⟨rfl, rfl⟩
    obtain rfl : L = [] := List.length_eq_zero_iff.1 hl
    exact ⟨_, rfl, [], rfl, ⟨fun _ => Iff.rfl, .nil⟩, h, .refl _ _⟩
  · simp only [Value.slice.injEq, true_and] at e
    obtain ⟨rfl, rfl⟩ := e
    subst hl
    have hg : g < w.heap.size := (Array.getElem?_eq_some_iff.1 hb).1
    refine (AnyM.slices_Sort_int Try.lSort g 0 rc L w (holds_own h.1) hg (by omega)).mono ?_
    rintro e w' ⟨rfl, m, os, rfl⟩
    have hS : S g := h.2 g rfl
    have hL : (L.mergeSort fun x y => decide (x ≤ y)).length = L.length := by simp
    have hP : (L.mergeSort fun x y => decide (x ≤ y)).Pairwise (· ≤ ·) := (List.pairwise_mergeSort (le := fun x y => decide (x ≤ y)) (fun a b c h1 h2 => by simp at *; omega) (fun a b => by simp; omega) L).imp (fun {a b} h => by simpa using h)
    refine ⟨_, rfl, L.mergeSort fun x y => decide (x ≤ y), rfl, ⟨fun x => List.mem_mergeSort, hP⟩, ⟨ownsRow_sortedI hL h1 hb hc hm hs, h.2⟩, ?_⟩
    have hG := grownBy_sortedI (w := w) (g := g) (n := m) (os := os) (L.mergeSort fun x y => decide (x ≤ y)).toArray
    exact ⟨hG.os, hG.tape, hG.output, hG.size, fun k hk hn => hG.block k hk (fun e => hn (Option.some.inj e ▸ hS))⟩
theorem compact_own (h : Own w S 3 1 ra rc n (L.map (Value.int .i64))) (hz : n ≤ 4294967296) (hp : L.Pairwise (· ≤ ·)) :
    Calls Try.prog 51 #[.slice ra n rc] w (Ret fun v' w' => ∃ (l : List Int) (a : Option Addr) (c : Nat), v' = .slice a l.length c ∧ l.length ≤ c ∧ c ≤ maxLen ∧ InRow eltI S w' l a ∧ ((∀ x, x ∈ l ↔ x ∈ L) ∧ RiseP l) ∧ Chg S w w') := by
  have hl : L.length = n := by have := h.1.1; simpa using this
  rcases h.1.2 with ⟨e, h0⟩ | ⟨g, cap, cur, e, h1, hb, hc, hm, hs, hx⟩
  · simp only [Value.slice.injEq] at e
    obtain ⟨rfl, rfl, rfl⟩ := e
    refine (Any.slices_Compact_int_empty Try.lCompact none 0 w).mono ?_
    rintro e w' ⟨rfl, rfl⟩
    obtain rfl : L = [] := List.length_eq_zero_iff.1 hl
    exact ⟨_, rfl, [], none, 0, rfl, Nat.le_refl _, Nat.zero_le _, fun k hk => by simp at hk, ⟨fun _ => Iff.rfl, trivial⟩, .refl _ _⟩
  · simp only [Value.slice.injEq, true_and] at e
    obtain ⟨rfl, rfl⟩ := e
    subst hl
    refine (Any.slices_Compact_int Try.lCompact g 0 rc L w (holds_own h.1) (by omega) hc).mono ?_
    rintro e w' ⟨rfl, m, rfl⟩
    have hle := compact_le L
    have hS : S g := h.2 g rfl
    have hlen : (Lib.compact L ++ List.replicate (L.length - (Lib.compact L).length) (0 : Int)).length = L.length := by simp; omega
    have hG := grownBy_sortedI (w := w) (g := g) (n := m) (os := #[]) (Lib.compact L ++ List.replicate (L.length - (Lib.compact L).length) 0).toArray
    have hO := ownsRow_sortedI (w := w) (n := m) (os := #[]) hlen h1 hb hc hm hs
    rw [grow_empty] at hG hO
    have hH := holds_own hO
    refine ⟨_, rfl, Lib.compact L, _, rc, rfl, by omega, hm, fun k hk => ⟨g, 0, [.int .i64 (Lib.compact L)[k]], rfl, hS, rfl, fun j hj => ?_⟩, ⟨fun x => compact_mem L x, compact_rise L hp⟩, ⟨hG.os, hG.tape, hG.output, hG.size, fun k hk hn => hG.block k hk (fun e => hn (Option.some.inj e ▸ hS))⟩⟩
    have hj0 : j = 0 := by have z : j < 1 := hj; omega
    subst hj0
    have := (hH k (by simp; omega)).1
    simp only [Nat.zero_add, Nat.mul_one, Nat.add_zero, List.getElem?_cons_zero, show eltI.k = 1 from rfl] at this ⊢
    rw [this]
    simp [hk, List.getElem?_append_left hk]
end
end Go.Proofs.Ytibncmnmjhimeaa

/- What an index tells, walked over: what is told of the buckets gone by. -/
namespace Go.Proofs.Ytibncmnmjhimeaa
open Go.RowKit Go
set_option linter.unusedVariables false
set_option linter.unusedSimpArgs false
theorem fitP_at {way : Nat} {p q : List Int} {i : Nat} (hp : i < p.length) (hq : i < q.length) : fitP way (p.drop i) (q.drop i) = (ltW way (p.getD i 0) (q.getD i 0) && fitP way (p.drop (i + 1)) (q.drop (i + 1))) := by
  rw [List.drop_eq_getElem_cons hp, List.drop_eq_getElem_cons hq, fitP, List.getD_eq_getElem?_getD, List.getD_eq_getElem?_getD, List.getElem?_eq_getElem hp, List.getElem?_eq_getElem hq]
  rfl
theorem cell8 {w : World} {g t : Nat} {l : List Int} (h : Blk w g t ((l.map (Value.int .i64)).toArray)) {i : Nat} (hi : i < l.length) : w.cell? ⟨g, 0 + i, none⟩ = some (.int .i64 (l.getD i 0)) := by
  refine (h.cell (0 + i)).trans ?_
  rw [Nat.zero_add, List.getD_eq_getElem?_getD, List.getElem?_eq_getElem hi]
  simp [hi]
/-- What is told of buckets. -/
def askOf (B : List TI) (way : Nat) (q : List Int) (done : List (List Int × Value)) : List Int := done.flatMap (fun z => if fitP way z.1 q = true then (bag B z.1).map (·.2) else [])
theorem askOf_yes {B : List TI} {way : Nat} {q : List Int} {done : List (List Int × Value)} {z : List Int × Value} (h : fitP way z.1 q = true) : askOf B way q (done ++ [z]) = askOf B way q done ++ (bag B z.1).map (·.2) := by
  unfold askOf; rw [List.flatMap_append, List.flatMap_singleton, if_pos h]
theorem askOf_no {B : List TI} {way : Nat} {q : List Int} {done : List (List Int × Value)} {z : List Int × Value} (h : fitP way z.1 q = false) : askOf B way q (done ++ [z]) = askOf B way q done := by
  unfold askOf; rw [List.flatMap_append, List.flatMap_singleton, if_neg (by rw [h]; decide), List.append_nil]
def bagSum (B : List TI) (ks : List (List Int)) : Nat := (ks.map (fun k => (bag B k).length)).sum
theorem ind_zero (x : List Int) : ∀ {ks : List (List Int)}, x ∉ ks → (ks.map (fun k => if x = k then 1 else 0)).sum = 0
  | [], _ => rfl
  | k :: ks, h => by
    rw [List.map_cons, List.sum_cons, if_neg (fun e => h (by rw [e]; exact List.mem_cons_self)), ind_zero x (fun q => h (List.mem_cons_of_mem _ q))]
theorem ind_nodup (x : List Int) : ∀ {ks : List (List Int)}, ks.Nodup → (ks.map (fun k => if x = k then 1 else 0)).sum ≤ 1
  | [], _ => Nat.zero_le _
  | k :: ks, h => by
    rw [List.nodup_cons] at h
    rw [List.map_cons, List.sum_cons]
    by_cases e : x = k
    · subst e
      rw [ind_zero x h.1, if_pos rfl]; exact Nat.le_refl _
    · rw [if_neg e]; have := ind_nodup x h.2; omega
theorem sum_add2 {α : Type} (f g : α → Nat) : ∀ l : List α, (l.map (fun x => f x + g x)).sum = (l.map f).sum + (l.map g).sum
  | [] => rfl
  | x :: l => by simp only [List.map_cons, List.sum_cons, sum_add2 f g l]; omega
theorem bagSum_le : ∀ (B : List TI) {ks : List (List Int)}, ks.Nodup → bagSum B ks ≤ B.length
  | [], ks, _ => by
    unfold bagSum
    have : ∀ l : List (List Int), (l.map (fun k => (bag [] k).length)).sum = 0 := by
      intro l
      induction l with
      | nil => rfl
      | cons k l ih => rw [List.map_cons, List.sum_cons, ih]; rfl
    rw [this]; exact Nat.zero_le _
  | r :: B, ks, h => by
    have e : ∀ k : List Int, (bag (r :: B) k).length = (if prt r.1 = k then 1 else 0) + (bag B k).length := fun k => by
      unfold bag
      rw [List.filter_cons]
      by_cases q : prt r.1 = k
      · rw [if_pos (by simpa using q), if_pos q]; simp; omega
      · rw [if_neg (by simpa using q), if_neg q]; simp
    unfold bagSum
    simp only [e]
    rw [sum_add2]
    have h1 := bagSum_le B h
    have h2 := ind_nodup (prt r.1) h
    unfold bagSum at h1
    rw [List.length_cons]; omega
theorem askOf_len {B : List TI} {way : Nat} {q : List Int} : ∀ {done : List (List Int × Value)}, (askOf B way q done).length ≤ bagSum B (done.map (·.1))
  | [] => Nat.zero_le _
  | z :: done => by
    have h := askOf_len (B := B) (way := way) (q := q) (done := done)
    unfold askOf bagSum at *
    rw [List.flatMap_cons, List.length_append, List.map_cons, List.map_cons, List.sum_cons]
    have : (if fitP way z.1 q = true then (bag B z.1).map (·.2) else []).length ≤ (bag B z.1).length := by split <;> simp
    omega
theorem bagSum_append {B : List TI} {a b : List (List Int)} : bagSum B (a ++ b) = bagSum B a + bagSum B b := by
  unfold bagSum; rw [List.map_append, List.sum_append]
section
variable {B : List TI} {way : Nat} {q : List Int} {KL : List Bk} {es : Array MapEntry} {seen : Array Nat} {done rest rest2 : List (List Int × Value)} {y : List Int × Value}
theorem keys_bkV (KL : List Bk) : (KL.map bkV).map (·.1) = KL.map (·.key) := by rw [List.map_map]; rfl
theorem ItG.room (h : ItG encP es (KL.map bkV) seen done rest) (hn : (KL.map (·.key)).Nodup) (hp : rest.Perm (y :: rest2)) : (askOf B way q done).length + (bag B y.1).length ≤ B.length := by
  have h1 : (done ++ (y :: rest2)).Perm (KL.map bkV) := (List.Perm.append_left done hp.symm).trans h.perm
  have h2 := h1.map (·.1)
  rw [keys_bkV] at h2
  have h3 := bagSum_le B (h2.nodup_iff.2 hn)
  rw [List.map_append, List.map_cons, bagSum_append] at h3
  have h4 := askOf_len (B := B) (way := way) (q := q) (done := done)
  unfold bagSum at h3 h4
  rw [List.map_cons, List.sum_cons] at h3
  omega
theorem ItG.total (h : ItG encP es (KL.map bkV) seen done rest) (hn : (KL.map (·.key)).Nodup) : (askOf B way q done).length ≤ B.length := by
  have h2 := h.perm.map (·.1)
  rw [keys_bkV] at h2
  have h3 := bagSum_le B (h2.nodup_iff.2 hn)
  rw [List.map_append, bagSum_append] at h3
  have h4 := askOf_len (B := B) (way := way) (q := q) (done := done)
  omega
theorem ItG.memL (h : ItG encP es (KL.map bkV) seen done rest) (hp : rest.Perm (y :: rest2)) : ∃ b ∈ KL, bkV b = y := by
  have h1 : (done ++ (y :: rest2)).Perm (KL.map bkV) := (List.Perm.append_left done hp.symm).trans h.perm
  exact List.mem_map.1 (h1.mem_iff.1 (by simp))
theorem askOf_done {w : World} {g m clock : Nat} {S : Nat → Prop} {l : List Int} (hO : FpO w g m es clock KL S B) (h : ItG encP es (KL.map bkV) seen done []) (hl : RiseP l) (hm : ∀ x, x ∈ l ↔ x ∈ askOf B way q done) : l = askP B way q := by
  refine rise_of hl (fun x => (hm x).trans ?_)
  have hp := h.perm
  rw [List.append_nil] at hp
  unfold askOf
  rw [List.mem_flatMap, List.mem_map]
  constructor
  · rintro ⟨z, hz, hx⟩
    split at hx
    · rename_i hf
      obtain ⟨r, hr, rfl⟩ := List.mem_map.1 hx
      unfold bag at hr
      rw [List.mem_filter] at hr
      have e : prt r.1 = z.1 := by simpa using hr.2
      exact ⟨r, List.mem_filter.2 ⟨hr.1, by rw [e]; exact hf⟩, rfl⟩
    · cases hx
  · rintro ⟨r, hr, rfl⟩
    rw [List.mem_filter] at hr
    obtain ⟨b, hb, e⟩ := hO.all r hr.1
    refine ⟨bkV b, hp.mem_iff.2 (List.mem_map_of_mem hb), ?_⟩
    have e : (bkV b).1 = prt r.1 := e
    rw [e, if_pos hr.2]
    exact List.mem_map_of_mem (List.mem_filter.2 ⟨hr.1, by simp⟩)
end
/-- The rows of a bucket, opened. -/
theorem InRow.openR {S : Nat → Prop} {w : World} {l : List TI} {a : Option Addr} (h : InRow eltR S w l a) : ∃ (b o : Nat) (F : Nat → Int) (N : Nat → Nat) (A : Nat → Option Addr) (C : Nat → Nat), (∀ k, k < l.length → a = some ⟨b, o, none⟩) ∧ ∀ k, k < l.length →
    w.cell? ⟨b, o + k * 3, none⟩ = some (.int .i64 (F k)) ∧ w.cell? ⟨b, o + k * 3 + 1, none⟩ = some (.slice (A k) (N k) (C k)) ∧ w.cell? ⟨b, o + k * 3 + 2, none⟩ = some (.int .i64 ((l.map (·.2)).getD k 0)) := by
  rcases Nat.eq_zero_or_pos l.length with h0 | h0
  · exact ⟨0, 0, fun _ => 0, fun _ => 0, fun _ => none, fun _ => 0, fun k hk => by omega, fun k hk => by omega⟩
  · obtain ⟨b, o, cs0, e0, _, _, _⟩ := h 0 h0
    have key : ∀ k : Nat, ∃ z : Int × Nat × Option Addr × Nat, k < l.length → w.cell? ⟨b, o + k * 3, none⟩ = some (.int .i64 z.1) ∧ w.cell? ⟨b, o + k * 3 + 1, none⟩ = some (.slice z.2.2.1 z.2.1 z.2.2.2) ∧ w.cell? ⟨b, o + k * 3 + 2, none⟩ = some (.int .i64 ((l.map (·.2)).getD k 0)) := fun k => by
      by_cases hk : k < l.length
      · obtain ⟨b2, o2, cs, e1, _, ⟨u, v, e2, hT⟩, h4⟩ := h k hk
        rw [e0] at e1
        simp only [Option.some.injEq, Addr.mk.injEq, and_true] at e1
        obtain ⟨rfl, rfl⟩ := e1
        obtain ⟨_, a1, c1, e3, _⟩ := hT.form
        simp only [Value.agg.injEq, Array.mk.injEq, List.cons.injEq, and_true] at e3
        obtain ⟨rfl, rfl⟩ := e3
        subst e2
        refine ⟨⟨l[k].1.f, l[k].1.args.length, a1, c1⟩, fun _ => ?_⟩
        have c0 := h4 0 (by decide)
        have c1 := h4 1 (by decide)
        have c2 := h4 2 (by decide)
        rw [show eltR.k = 3 from rfl] at c0 c1 c2
        refine ⟨c0, c1, ?_⟩
        rw [List.getD_eq_getElem?_getD, List.getElem?_map, List.getElem?_eq_getElem hk]
        exact c2
      · exact ⟨⟨0, 0, none, 0⟩, fun q => absurd q hk⟩
    refine ⟨b, o, fun k => (Classical.choose (key k)).1, fun k => (Classical.choose (key k)).2.1, fun k => (Classical.choose (key k)).2.2.1, fun k => (Classical.choose (key k)).2.2.2, fun k hk => ?_, fun k hk => Classical.choose_spec (key k) hk⟩
    exact e0
theorem elts_int {S : Nat → Prop} {w : World} : ∀ {l : List Int} {xs : List Value}, Elts eltI S w l xs → xs = l.map (Value.int .i64)
  | [], xs, h => h
  | x :: l, xs, ⟨cs, r, e, h3, h4⟩ => by
    have h3 : cs = [.int .i64 x] := h3
    rw [e, h3, elts_int h4]; rfl
theorem RowE.own {w : World} {B e c n : Nat} {a : Option Addr} {l : List Int} (h : RowE eltI w B e a c n l) : Own w (fun b => B ≤ b) e 1 a c n (l.map (Value.int .i64)) := by
  obtain ⟨⟨xs, h1, h2⟩, h3⟩ := h
  rw [← elts_int h2]
  exact Own.of h1
structure FX where
  done : List (List Int × Value)
  rest : List (List Int × Value)
  seen : Array Nat
  ra : Option Addr
  rc : Nat
  n : Nat
structure FU where
  k : Nat
  ra : Option Addr
  rc : Nat
  n : Nat
end Go.Proofs.Ytibncmnmjhimeaa

/- 'append(l[:j:j], l[j+1:]...)': a row without one of its elements. -/
namespace Go.Proofs.Ytibncmnmjhimeaa
open Go.RowKit Go
set_option linter.unusedVariables false
set_option linter.unusedSimpArgs false
section
variable {α : Type} {E : Elt α} {S : Nat → Prop} {w : World}
theorem Elts.app {l q : List α} : ∀ {xs ys : List Value}, Elts E S w l xs → Elts E S w q ys → Elts E S w (l ++ q) (xs ++ ys) := by
  induction l with
  | nil => intro xs ys h k; rw [show xs = [] from h]; exact k
  | cons x l ih =>
    rintro xs ys ⟨cs, r, rfl, h1, h2⟩ k
    exact ⟨cs, r ++ ys, by rw [List.append_assoc], h1, ih h2 k⟩
end
section
variable {α : Type} {E : Elt α} {P : Program} {w : World} {a : Act} {K : Act → World → Prop} {Q : Exit → Act → World → Prop} {o : Oper}
end
end Go.Proofs.Ytibncmnmjhimeaa

/- A row of one's own without one of its elements, in place: append(l[:i], l[i+1:]...), clear of what is left behind. -/
namespace Go.Proofs.Ytibncmnmjhimeaa
open Go.RowKit Go
set_option linter.unusedVariables false
set_option linter.unusedSimpArgs false
theorem row_arr {α : Type} {E : Elt α} {S : Nat → Prop} {w : World} {e g c n : Nat} {l : List α} (h : RowD E S w e (some ⟨g, 0, none⟩) c n l) : ∃ cur : Array Value, Blk w g e cur ∧ n ≤ c ∧ c ≤ maxLen ∧ cur.size = c * E.k ∧ Elts E S w l (cur.toList.take (n * E.k)) ∧ n = l.length ∧ ¬ S g := by
  obtain ⟨⟨xs, h1, h2⟩, h3, h4⟩ := h
  rcases h1.2 with ⟨e1, _⟩ | ⟨b, cap, cur, e1, _, e3, e4, e5, e6, e7⟩
  · simp at e1
  · simp only [Value.slice.injEq, Option.some.injEq, Addr.mk.injEq, and_true] at e1
    obtain ⟨rfl, _, rfl⟩ := e1
    exact ⟨cur, e3, e4, e5, e6, by rw [e7]; exact h2, h3, fun q => h4 _ q rfl⟩
theorem row_of_arr {α : Type} {E : Elt α} {S : Nat → Prop} {w : World} {e g c n : Nat} {l : List α} {cur : Array Value} (hB : Blk w g e cur) (h1 : n ≤ c) (h2 : c ≤ maxLen) (h3 : cur.size = c * E.k) (h4 : Elts E S w l (cur.toList.take (n * E.k))) (h5 : n = l.length) (h6 : ¬ S g) : RowD E S w e (some ⟨g, 0, none⟩) c n l := by
  refine ⟨⟨_, ⟨?_, .inr ⟨g, c, cur, rfl, Nat.zero_le _, hB, h1, h2, h3, rfl⟩⟩, h4⟩, h5, fun b hb e => ?_⟩
  · rw [h4.len, ← h5]
  · have e : g = b := Option.some.inj e
    subst e
    exact h6 hb
theorem Elts.drop {α : Type} {E : Elt α} {S : Nat → Prop} {w : World} : ∀ {l : List α} {xs : List Value} (k : Nat), Elts E S w l xs → Elts E S w (l.drop k) (xs.drop (k * E.k))
  | [], xs, k, h => by have : xs = [] := h; subst this; simp; exact rfl
  | x :: l, xs, 0, h => by simpa using h
  | x :: l, xs, k + 1, ⟨cs, r, e, h3, h4⟩ => by
    subst e
    rw [List.drop_succ_cons, Nat.add_mul, Nat.one_mul, List.drop_append, show cs.drop (k * E.k + E.k) = [] from List.drop_of_length_le (by rw [E.len h3]; omega), List.nil_append, E.len h3, Nat.add_sub_cancel]
    exact Elts.drop k h4
theorem upd_setRow {w : World} {g e : Nat} {cur cs : Array Value} (h : Blk w g e cur) : Upd g w (w.setRow g cs) ∧ Blk (w.setRow g cs) g e cs :=
  ⟨⟨rfl, rfl, rfl, by simp [World.setRow], fun k hk => setRow_other w g k cs hk⟩, setRow_heap w g cur cs e (0, 0) h⟩
section
variable {α : Type} {E : Elt α} {S : Nat → Prop} {P : Program} {w : World} {a : Act} {K : Act → World → Prop} {Q : Exit → Act → World → Prop} {o : Oper} {e g c n i : Nat} {l : List α}
theorem wp_appDel {s x : Operand} {t : Nat} {ti : TypeInfo} (hsz : 0 < E.k) (ht : P.underlying t = some (.slice e)) (hi : P.info? e = some ti) (his : ti.size = E.k) (ho : o.op = .call { callee := .builtin .append, args := #[s, x], argTypes := #[t, t] })
    (hs : a.eval s = .slice (some ⟨g, 0, none⟩) i c) (hx : a.eval x = .slice (slA (some ⟨g, 0, none⟩) (i + 1) E.k c) (n - (i + 1)) (c - (i + 1))) (h : RowD E S w e (some ⟨g, 0, none⟩) c n l) (hil : i < n)
    (hK : ∀ w', Upd g w w' → RowD E S w' e (some ⟨g, 0, none⟩) c (n - 1) (l.eraseIdx i) → K (a.put o.dst (.slice (some ⟨g, 0, none⟩) (n - 1) c)) w') : o.wp P a w K Q := by
  obtain ⟨cur, hB, h1, h2, h3, h4, h5, h6⟩ := row_arr h
  obtain ⟨k, hk⟩ : ∃ k, k = E.k := ⟨_, rfl⟩
  rw [← hk] at hsz his hx h3 h4
  have hnk : n * k ≤ c * k := Nat.mul_le_mul_right _ h1
  have hik : (i + 1) * k ≤ n * k := Nat.mul_le_mul_right _ hil
  have hi1 : (i + 1) * k = i * k + k := by rw [Nat.add_mul, Nat.one_mul]
  have hn1 : (n - (i + 1)) * k = n * k - (i + 1) * k := Nat.mul_sub_right_distrib _ _ _
  have hn2 : (n - 1) * k = n * k - k := by rw [Nat.mul_sub_right_distrib, Nat.one_mul]
  obtain ⟨news, hnews⟩ : ∃ news, news = (cur.toList.take (n * k)).drop ((i + 1) * k) := ⟨_, rfl⟩
  have hnl : news.length = (n - (i + 1)) * k := by rw [hnews]; simp; omega
  obtain ⟨ad, had, hrd⟩ : ∃ ad : Addr, slA (some ⟨g, 0, none⟩) (i + 1) k c = some ad ∧ ∀ j u, news[j]? = some u → w.cell? (ad.add j) = some u := by
    by_cases hc : c = i + 1
    · refine ⟨⟨g, 0, none⟩, by unfold slA; rw [if_pos hc], fun j u hj => ?_⟩
      have := (List.getElem?_eq_some_iff.1 hj).1
      rw [hnl, show n - (i + 1) = 0 by omega] at this
      omega
    · refine ⟨⟨g, 0 + (i + 1) * k, none⟩, slA_some (by omega), fun j u hj => ?_⟩
      have hlt := (List.getElem?_eq_some_iff.1 hj).1
      rw [hnl] at hlt
      rw [add_plain2, hB.cell, Nat.zero_add, ← hj, hnews, List.getElem?_drop, List.getElem?_take_of_lt (by omega), Array.getElem?_toList]
  have hone : ∀ u ∈ news, u.oneCell' = true := fun u hu => by rw [hnews] at hu; exact h4.one u (List.mem_of_mem_drop hu)
  have hrun := run_append_room (P := P) w t o.type e ti ht hi g i c cur hB ad (n - (i + 1)) (c - (i + 1)) news (by rw [his]; exact hnl) hrd hone (by omega) (by rw [his, hnl, h3]; omega)
  rw [his, show i + (n - (i + 1)) = n - 1 by omega] at hrun
  obtain ⟨hu, hB2⟩ := upd_setRow (cs := (cur.toList.take (i * k) ++ news ++ cur.toList.drop (i * k + news.length)).toArray) hB
  unfold Oper.wp execOp
  simp only [ho, resolve, invoke, builtin, Sem.run_bind, Sem.run_pure, Result.andThen_ok, List.map_toArray, List.map_cons, List.map_nil, hs, hx, had, hrun]
  refine hK _ hu (row_of_arr hB2 (by omega) h2 ?_ ?_ ?_ h6)
  · rw [← hk]; simp; rw [hnl, h3]; omega
  · rw [← hk]
    have e1 : (cur.toList.take (i * k) ++ news ++ cur.toList.drop (i * k + news.length)).toArray.toList.take ((n - 1) * k) = (cur.toList.take (n * k)).take (i * k) ++ news := by
      show (cur.toList.take (i * k) ++ news ++ cur.toList.drop (i * k + news.length)).take ((n - 1) * k) = _
      rw [List.take_append_of_le_length (by simp; rw [hnl, h3]; omega), List.take_of_length_le (by simp; rw [hnl, h3]; omega), List.take_take, Nat.min_eq_left (by omega)]
    refine Elts.keep (w := w) (fun p v hp hv => by
      have e := hu.block p.block (fun q => h6 (q ▸ hp))
      unfold World.cell? at hv ⊢
      rw [e]; exact hv) ?_
    rw [e1, hnews, List.eraseIdx_eq_take_drop_succ]
    have q1 := h4.take i
    have q2 := h4.drop (i + 1)
    rw [← hk] at q1 q2
    exact q1.app q2
  · rw [List.length_eraseIdx_of_lt (by omega)]; omega
end
theorem zeroCells_one (z : Array Value) (hz : ∀ v ∈ z, v.oneCell' = true) (hs : 0 < z.size) (n : Nat) : ∀ v ∈ (Builtin.zeroCells z n).toList, v.oneCell' = true := by
  intro v hv
  unfold Builtin.zeroCells at hv
  simp only [Array.toList_map, Array.toList_range, List.mem_map, List.mem_range] at hv
  obtain ⟨i, _, rfl⟩ := hv
  have hlt : i % z.size < z.size := Nat.mod_lt _ hs
  rw [getElem!_pos z _ hlt]
  exact hz _ (Array.getElem_mem hlt)
theorem setCells_up {e g : Nat} : ∀ (vs : List Value) (o : Nat) (w : World) (cs : Array Value), Blk w g e cs → ∃ cs', Blk (w.setCells g o vs) g e cs' ∧ cs'.size = cs.size ∧ (∀ k, k < o → cs'[k]? = cs[k]?) ∧ Upd g w (w.setCells g o vs)
  | [], _, _, cs, h => ⟨cs, h, rfl, fun _ _ => rfl, ⟨rfl, rfl, rfl, rfl, fun _ _ => rfl⟩⟩
  | v :: r, o, w, cs, h => by
    obtain ⟨cs', h1, h2, h3, h4⟩ := setCells_up r (o + 1) _ _ (h.set_ o v)
    refine ⟨cs', h1, by simpa using h2, fun k hk => ?_, (Upd.at_ _ _ _ _).trans h4⟩
    rw [h3 k (by omega), Array.getElem?_setIfInBounds_ne (by omega)]
set_option maxRecDepth 100000 in
theorem wp_clearR {o : Oper} {x : Operand} {a : Act} {w : World} {K : Act → World → Prop} {Q : Exit → Act → World → Prop} {S : Nat → Prop} {c n m q g : Nat} {L : List TI} (ho : o.op = .call { callee := .builtin .clear, args := #[x], argTypes := #[52] }) (hx : a.eval x = .slice (slA (some ⟨g, 0, none⟩) n 3 c) m q)
    (h : RowD eltR S w 54 (some ⟨g, 0, none⟩) c n L) (hm : n + m ≤ c) (h0 : 0 < m) (hK : ∀ w', Upd g w w' → RowD eltR S w' 54 (some ⟨g, 0, none⟩) c n L → K (a.put o.dst (.tuple #[])) w') : o.wp Try.prog a w K Q := by
  obtain ⟨cur, hB, h1, h2, h3, h4, h5, h6⟩ := row_arr h
  have hk : eltR.k = 3 := rfl
  rw [hk] at h3 h4
  rw [slA_some (by omega)] at hx
  have hst := run_storeCells_cells (P := Try.prog) g (0 + n * 3) (Builtin.zeroCells #[.int .i64 0, .slice none 0 0, .int .i64 0] m).toList 0 w
    (fun j hj => by rw [hB.cell, Array.getElem?_eq_getElem (by simp [Builtin.zeroCells] at hj; omega)]; rfl) (fun j hj => hB.frozen _) (zeroCells_one _ (by simp [Value.oneCell']) (by decide) m)
  rw [Nat.add_zero] at hst
  obtain ⟨cs', k1, k2, k3, hu⟩ := setCells_up (Builtin.zeroCells #[.int .i64 0, .slice none 0 0, .int .i64 0] m).toList (0 + n * 3) w cur hB
  have hz : ∀ w, (zeroValue 54).run Try.prog w = .ok (.agg #[.int .i64 0, .slice none 0 0, .int .i64 0]) w := fun w => rfl
  have hun : ∀ w, (underlying 52).run Try.prog w = .ok (.slice 54) w := fun w => rfl
  have hrun : (Builtin.clear_ #[52] o.type #[.slice (some ⟨g, 0 + n * 3, none⟩) m q]).run Try.prog w = .ok (.tuple #[]) (w.setCells g (0 + n * 3) (Builtin.zeroCells #[.int .i64 0, .slice none 0 0, .int .i64 0] m).toList) := by
    obtain ⟨m', rfl⟩ : ∃ m', m = m' + 1 := ⟨m - 1, by omega⟩
    generalize 0 + n * 3 = q at *
    simp [Builtin.clear_, hun, hz, hst, Value.cells]
  unfold Oper.wp execOp
  simp only [ho, resolve, invoke, builtin, Sem.run_bind, Sem.run_pure, Result.andThen_ok, List.map_toArray, List.map_cons, List.map_nil, hx, hrun]
  refine hK _ hu (row_of_arr k1 h1 h2 (by rw [k2]; exact h3) ?_ h5 h6)
  have e1 : cs'.toList.take (n * eltR.k) = cur.toList.take (n * 3) := by
    show cs'.toList.take (n * 3) = _
    apply List.ext_getElem?
    intro k
    by_cases hlt : k < n * 3
    · rw [List.getElem?_take_of_lt hlt, List.getElem?_take_of_lt hlt, Array.getElem?_toList, Array.getElem?_toList, k3 k (by omega)]
    · rw [List.getElem?_eq_none (by simp; omega), List.getElem?_eq_none (by simp; omega)]
  rw [e1]
  exact Elts.keep (fun p v hp hv => by
    have e := hu.block p.block (fun q => h6 (q ▸ hp))
    unfold World.cell? at hv ⊢
    rw [e]; exact hv) h4
end Go.Proofs.Ytibncmnmjhimeaa

/- A term less in an index. -/
namespace Go.Proofs.Ytibncmnmjhimeaa
open Go.RowKit Go
set_option linter.unusedVariables false
set_option linter.unusedSimpArgs false
/-- Is the row the term's? -/
def hitR (t : T) (id : Int) (x : TI) : Bool := decide (x.2 = id) && T.same x.1 t
theorem hitR_iff {t : T} {id : Int} {x : TI} : hitR t id x = true ↔ x = (t, id) := by
  obtain ⟨a, b⟩ := x
  unfold hitR
  rw [Bool.and_eq_true, decide_eq_true_eq, T.same_iff, Prod.mk.injEq]
  exact And.comm
/-- The first of its kind is taken out. -/
def delB (t : T) (id : Int) : List TI → List TI
  | [] => []
  | x :: l => if hitR t id x = true then l else x :: delB t id l
theorem delB_first {t : T} {id : Int} : ∀ {l : List TI} {i : Nat} (hi : i < l.length), hitR t id l[i] = true → (∀ j (hj : j < i), hitR t id (l[j]'(by omega)) = false) → l.eraseIdx i = delB t id l
  | x :: l, 0, _, h, _ => by
    have h : hitR t id x = true := h
    rw [delB, if_pos h]; rfl
  | x :: l, i + 1, hi, h, hf => by
    have h0 : hitR t id x = false := hf 0 (by omega)
    rw [delB, if_neg (by rw [h0]; decide), List.eraseIdx_cons_succ, delB_first (l := l) (i := i) (by simpa using hi) h (fun j hj => hf (j + 1) (by omega))]
theorem delB_perm {t : T} {id : Int} : ∀ {l : List TI}, (t, id) ∈ l → l.Perm ((t, id) :: delB t id l)
  | x :: l, h => by
    rw [delB]
    split
    · rename_i q; rw [hitR_iff.1 q]
    · rename_i q
      rcases List.mem_cons.1 h with rfl | h
      · exact absurd (hitR_iff.2 rfl) q
      · exact ((delB_perm h).cons x).trans (List.Perm.swap _ _ _)
theorem delB_len {t : T} {id : Int} {l : List TI} (h : (t, id) ∈ l) : (delB t id l).length + 1 = l.length := by
  have := (delB_perm h).length_eq
  simpa using this.symm
theorem bag_del_eq {t : T} {id : Int} : ∀ {B : List TI}, bag (delB t id B) (prt t) = delB t id (bag B (prt t))
  | [] => rfl
  | x :: B => by
    rw [delB]
    have e : bag (x :: B) (prt t) = if prt x.1 = prt t then x :: bag B (prt t) else bag B (prt t) := by
      unfold bag; rw [List.filter_cons]; by_cases q : prt x.1 = prt t <;> simp [q]
    have e2 : bag (x :: delB t id B) (prt t) = if prt x.1 = prt t then x :: bag (delB t id B) (prt t) else bag (delB t id B) (prt t) := by
      unfold bag; rw [List.filter_cons]; by_cases q : prt x.1 = prt t <;> simp [q]
    rw [e]
    split
    · rename_i q
      have := hitR_iff.1 q
      subst this
      rw [if_pos rfl, delB, if_pos q]
    · rename_i q
      rw [e2]
      split
      · rw [delB, if_neg q, bag_del_eq]
      · exact bag_del_eq
theorem bag_del_ne {t : T} {id : Int} {k : List Int} (hk : k ≠ prt t) : ∀ {B : List TI}, bag (delB t id B) k = bag B k
  | [] => rfl
  | x :: B => by
    have e : ∀ C : List TI, bag (x :: C) k = if prt x.1 = k then x :: bag C k else bag C k := fun C => by
      unfold bag; rw [List.filter_cons]; by_cases q : prt x.1 = k <;> simp [q]
    rw [delB]
    split
    · rename_i q
      have := hitR_iff.1 q
      subst this
      rw [e, if_neg (fun q => hk q.symm)]
    · rw [e, e, bag_del_ne hk]
theorem delB_mem {t : T} {id : Int} : ∀ {l : List TI} {r : TI}, r ∈ delB t id l → r ∈ l
  | [], _, h => h
  | x :: l, r, h => by
    rw [delB] at h
    split at h
    · exact List.mem_cons_of_mem _ h
    · rcases List.mem_cons.1 h with rfl | h
      · exact List.mem_cons_self
      · exact List.mem_cons_of_mem _ (delB_mem h)
theorem obk_nn {a : Option Addr} {n n' c : Nat} : obk a n c = obk a n' c := by cases a <;> rfl
/-- A bucket is struck. -/
def KLdel (KL : List Bk) (k : List Int) : List Bk := match gmFind (KL.map bkV) k 0 with | some (i, _) => KL.eraseIdx i | none => KL
theorem KLdel_map (KL : List Bk) (k : List Int) : (KLdel KL k).map bkV = gmDel (KL.map bkV) k := by
  unfold KLdel gmDel
  cases gmFind (KL.map bkV) k 0 with
  | none => rfl
  | some p => simp [map_eraseIdx']
theorem KLdel_mem {KL : List Bk} {k : List Int} {y : Bk} (hn : (KL.map (·.key)).Nodup) (h : y ∈ KLdel KL k) : y ∈ KL ∧ y.key ≠ k := by
  unfold KLdel at h
  cases hf : gmFind (KL.map bkV) k 0 with
  | none => rw [hf] at h; exact ⟨h, gmFind_none.1 hf (bkV y) (List.mem_map_of_mem h)⟩
  | some p =>
    obtain ⟨i, v⟩ := p
    rw [hf] at h
    have h : y ∈ KL.eraseIdx i := h
    obtain ⟨_, hat⟩ := gmFind_at hf
    rw [Nat.sub_zero, List.getElem?_map] at hat
    obtain ⟨z, hz, hz2⟩ := Option.map_eq_some_iff.1 hat
    obtain ⟨hil, hz3⟩ := List.getElem?_eq_some_iff.1 hz
    refine ⟨(List.eraseIdx_sublist _ _).subset h, fun e => ?_⟩
    obtain ⟨j, hj1, hj⟩ := List.mem_eraseIdx_iff_getElem.1 h
    obtain ⟨hjl, hj2⟩ := hj
    have e1 : (KL.map (·.key))[i]? = (KL.map (·.key))[j]? := by
      rw [List.getElem?_map, List.getElem?_map, hz, List.getElem?_eq_getElem hj1]
      simp only [Option.map_some, hj2, e]
      exact congrArg some (congrArg Prod.fst hz2)
    exact hjl ((List.getElem?_inj (by simpa using hil) hn).1 e1).symm
theorem KLdel_keep {KL : List Bk} {k : List Int} {y : Bk} (h : y ∈ KL) (hne : y.key ≠ k) : y ∈ KLdel KL k := by
  unfold KLdel
  cases hf : gmFind (KL.map bkV) k 0 with
  | none => exact h
  | some p =>
    obtain ⟨i, v⟩ := p
    obtain ⟨_, hat⟩ := gmFind_at hf
    rw [Nat.sub_zero, List.getElem?_map] at hat
    obtain ⟨z, hz, hz2⟩ := Option.map_eq_some_iff.1 hat
    obtain ⟨j, hj, rfl⟩ := List.getElem_of_mem h
    refine List.mem_eraseIdx_iff_getElem.2 ⟨j, hj, ?_, rfl⟩
    rintro rfl
    rw [List.getElem?_eq_getElem hj] at hz
    cases hz
    exact hne (congrArg Prod.fst hz2)
theorem KLdel_nd {KL : List Bk} {k : List Int} (hn : (KL.map (·.key)).Nodup) : ((KLdel KL k).map (·.key)).Nodup := by
  unfold KLdel
  cases gmFind (KL.map bkV) k 0 with
  | none => exact hn
  | some p => exact ((List.eraseIdx_sublist _ _).map _).nodup hn
section
variable {w u : World} {g m clock clock' : Nat} {es es' : Array MapEntry} {KL KL2 : List Bk} {S : Nat → Prop} {B : List TI}
/-- A term has gone. -/
theorem FpO.removed {t : T} {id : Int} {a : Option Addr} {c : Nat} (h : FpO w g m es clock KL S B) (hin : (t, id) ∈ B)
    (hlook : ∀ b, obk a (bag B (prt t)).length c = some b → b ≠ g ∧ b ≠ m ∧ ¬ S b ∧ b < w.heap.size ∧ FpZ g m KL S b ∧ ∀ y ∈ KL, y.key ≠ prt t → bkO y ≠ some b)
    (hB : Blk u g 48 #[.map (some m), .int .i64 (((B.length - 1 : Nat)) : Int)]) (hO : ObjAt u m (.map es' clock')) (hE : GmE encP okP es' clock' (KL2.map bkV)) (hn2 : (KL2.map (·.key)).Nodup)
    (hr : RowD eltR S u 54 a c ((bag B (prt t)).length - 1) (delB t id (bag B (prt t))))
    (hmem : ∀ y ∈ KL2, (y = ⟨prt t, a, c, delB t id (bag B (prt t))⟩ ∧ delB t id (bag B (prt t)) ≠ []) ∨ (y ∈ KL ∧ y.key ≠ prt t))
    (hkeep : ∀ y ∈ KL, y.key ≠ prt t → y ∈ KL2) (hhas : delB t id (bag B (prt t)) ≠ [] → (⟨prt t, a, c, delB t id (bag B (prt t))⟩ : Bk) ∈ KL2)
    (hc : Chg (fun b => b = g ∨ b = m ∨ obk a (bag B (prt t)).length c = some b) w u) :
    FpO u g m es' clock' KL2 S (delB t id B) := by
  have hgl := h.blk.lt
  have hml := h.obj.lt
  have hl2 : (delB t id B).length = B.length - 1 := by have := delB_len hin; omega
  have old : ∀ y ∈ KL, y.key ≠ prt t → RowD eltR S u 54 y.a y.c y.rows.length y.rows := fun y hy hne => by
    refine (h.row y hy).chg hc (fun b q k => ?_) (fun b q k => ?_)
    · rcases k with k | k | k
      · exact (h.own y hy b q).1 k
      · exact (h.own y hy b q).2.1 k
      · exact (hlook b k).2.2.2.2.2 y hy hne q
    · rcases k with k | k | k
      · exact (h.sS b q).1 k
      · exact (h.sS b q).2.1 k
      · exact (hlook b k).2.2.1 q
  have hln : (delB t id (bag B (prt t))).length = (bag B (prt t)).length - 1 := hr.len.symm
  refine ⟨by rw [hl2]; exact hB, hO, hE, hn2, fun x hx => ?_, fun x hx => ?_, fun r hr2 => ?_, fun x hx b q => ?_, fun x hx y hy hne b q => ?_, fun b q => ?_, fun r hr2 => h.ids r (delB_mem hr2)⟩
  · rcases hmem x hx with ⟨rfl, _⟩ | ⟨hx, hne⟩
    · rw [← hln] at hr; exact hr
    · exact old x hx hne
  · rcases hmem x hx with ⟨rfl, q⟩ | ⟨hx, hne⟩
    · exact ⟨bag_del_eq.symm, q⟩
    · rw [bag_del_ne hne]; exact h.bags x hx
  · by_cases hk : prt r.1 = prt t
    · refine ⟨_, hhas (fun e => ?_), hk.symm⟩
      have : r ∈ bag (delB t id B) (prt t) := List.mem_filter.2 ⟨hr2, by simpa using hk⟩
      rw [bag_del_eq, e] at this
      cases this
    · obtain ⟨x, hx, e⟩ := h.all r (delB_mem hr2)
      exact ⟨x, hkeep x hx (by rw [e]; exact hk), e⟩
  · rcases hmem x hx with ⟨rfl, _⟩ | ⟨hx, hne⟩
    · have q : obk a (bag B (prt t)).length c = some b := obk_nn.trans q
      exact ⟨(hlook b q).1, (hlook b q).2.1, (hlook b q).2.2.1⟩
    · exact h.own x hx b q
  · rcases hmem x hx with ⟨rfl, _⟩ | ⟨hx, hnx⟩
    · have q : obk a (bag B (prt t)).length c = some b := obk_nn.trans q
      rcases hmem y hy with ⟨rfl, _⟩ | ⟨hy, hny⟩
      · exact absurd rfl hne
      · exact (hlook b q).2.2.2.2.2 y hy hny
    · rcases hmem y hy with ⟨rfl, _⟩ | ⟨hy, hny⟩
      · intro k
        have k : obk a (bag B (prt t)).length c = some b := obk_nn.trans k
        exact (hlook b k).2.2.2.2.2 x hx hnx q
      · exact h.apart x hx y hy hne b q
  · exact ⟨(h.sS b q).1, (h.sS b q).2.1, Nat.lt_of_lt_of_le (h.sS b q).2.2 hc.size⟩
end
end Go.Proofs.Ytibncmnmjhimeaa

/- Maps from keys of a kind: an entry is taken ('m[k] op= ..'), and told anew by its stamp. -/
namespace Go.Proofs.Ytibncmnmjhimeaa
open Go.RowKit Go
set_option linter.unusedVariables false
set_option linter.unusedSimpArgs false
section
variable {κ : Type} [DecidableEq κ] {enc : κ → Value} {ok : κ → Prop}
/-- An entry's stamp. -/
def gmStamp (es : Array MapEntry) (clock : Nat) (l : List (κ × Value)) (n : κ) : Nat := match gmFind l n 0 with | some (i, _) => ((es[i]?).map (·.born)).getD 0 | none => clock
def StampG (es : Array MapEntry) (st : Nat) (l : List (κ × Value)) (n : κ) : Prop := ∃ i u, es.findIdx? (fun e => (e.born : Int) == (st : Int)) = some i ∧ gmFind l n 0 = some (i, u)
theorem modify_id {α : Type} {f : α → α} {a : Array α} {i : Nat} (h : ∀ hi : i < a.size, f a[i] = a[i]) : a.modify i f = a := by
  apply Array.ext
  · simp
  · intro q q1 q2
    rw [Array.getElem_modify]
    split
    · rename_i c; subst c; exact h q2
    · rfl
theorem set_same {l : List (κ × Value)} {i : Nat} {n : κ} {u : Value} (h : gmFind l n 0 = some (i, u)) : l.set i (n, u) = l := by
  obtain ⟨_, hat⟩ := gmFind_at h
  rw [Nat.sub_zero] at hat
  obtain ⟨hi, e⟩ := List.getElem?_eq_some_iff.1 hat
  apply List.ext_getElem
  · simp
  · intro q q1 q2
    rw [List.getElem_set]
    split
    · rename_i c; subst c; exact e.symm
    · rfl
theorem gmFind_shift : ∀ (l : List (κ × Value)) (k : κ) (i : Nat), gmFind l k (i + 1) = (gmFind l k i).map (fun x => (x.1 + 1, x.2))
  | [], k, i => rfl
  | x :: l, k, i => by
    rw [gmFind, gmFind]
    split
    · rfl
    · exact gmFind_shift l k (i + 1)
theorem gmFind_snoc {l : List (κ × Value)} {n : κ} {v : Value} (h : gmFind l n 0 = none) : gmFind (l ++ [(n, v)]) n 0 = some (l.length, v) := by
  induction l with
  | nil => simp [gmFind]
  | cons x r ih =>
    have hx : n ≠ x.1 := fun e => gmFind_none.1 h x (by simp) e.symm
    have hr : gmFind r n 0 = none := gmFind_none.2 (fun y hy => gmFind_none.1 h y (List.mem_cons_of_mem _ hy))
    rw [List.cons_append, gmFind, if_neg hx, gmFind_shift, ih hr]; simp
theorem gmFind_set {l : List (κ × Value)} {n : κ} {i : Nat} {u v : Value} (h : gmFind l n 0 = some (i, u)) : gmFind (l.set i (n, v)) n 0 = some (i, v) := by
  induction l generalizing i with
  | nil => simp [gmFind] at h
  | cons x r ih =>
    rw [gmFind] at h
    by_cases hx : n = x.1
    · rw [if_pos hx] at h
      simp only [Option.some.injEq, Prod.mk.injEq] at h
      obtain ⟨rfl, rfl⟩ := h
      rw [List.set_cons_zero, gmFind, if_pos rfl]
    · rw [if_neg hx, gmFind_shift] at h
      obtain ⟨⟨j, w⟩, hj, e⟩ := Option.map_eq_some_iff.1 h
      simp only [Prod.mk.injEq] at e
      obtain ⟨rfl, rfl⟩ := e
      rw [List.set_cons_succ, gmFind, if_neg hx, gmFind_shift, ih hj]; rfl
theorem gmPut_none {l : List (κ × Value)} {n : κ} {v : Value} (h : gmFind l n 0 = none) : gmPut l n v = l ++ [(n, v)] := by unfold gmPut; rw [h]
theorem gmPut_some {l : List (κ × Value)} {n : κ} {i : Nat} {u v : Value} (h : gmFind l n 0 = some (i, u)) : gmPut l n v = l.set i (n, v) := by unfold gmPut; rw [h]
theorem gmPut_put {l : List (κ × Value)} {n : κ} {u v : Value} : gmPut (gmPut l n u) n v = gmPut l n v := by
  cases h : gmFind l n 0 with
  | none => rw [gmPut_none h, gmPut_none h, gmPut_some (gmFind_snoc h)]; simp [List.set_append_right]
  | some p => obtain ⟨i, z⟩ := p; rw [gmPut_some h, gmPut_some h, gmPut_some (gmFind_set h)]; simp
theorem findIdx_born {es : Array MapEntry} (hn : (es.toList.map (·.born)).Nodup) {i : Nat} (hi : i < es.size) : es.findIdx? (fun e => (e.born : Int) == ((es[i].born : Nat) : Int)) = some i := by
  rw [Array.findIdx?_eq_some_iff_getElem]
  refine ⟨hi, by simp, fun j hj => ?_⟩
  have hne : es[j].born ≠ es[i].born := fun e => by
    have e1 : (es.toList.map (·.born))[j]? = (es.toList.map (·.born))[i]? := by
      rw [List.getElem?_map, List.getElem?_map, Array.getElem?_toList, Array.getElem?_toList, Array.getElem?_eq_getElem hi, Array.getElem?_eq_getElem (by omega)]
      simp [e]
    have := (List.getElem?_inj (by simp; omega) hn).1 e1
    omega
  simp; omega
variable {P : Program} {w : World} {t k e : TypeId} {r : Nat} {es : Array MapEntry} {clock : Nat} {l : List (κ × Value)} {a : Act} {K : Act → World → Prop} {Q : Exit → Act → World → Prop} {o : Oper}
/-- 'm[k] op= ..': the entry is taken. -/
theorem wp_entryAt_gm (hk : KeyK P k enc ok) {x y : Operand} {z : Value} {n : κ} (hn : ok n) (ht : P.underlying t = some (.map k e)) (hz : (zeroValue e).run P w = .ok z w) (hM : ObjAt w r (.map es clock)) (h : GmE enc ok es clock l)
    (ho : o.op = .mapEntry t x y) (hx : a.eval x = .map (some r)) (hy : a.eval y = enc n)
    (hK : ∀ w' es' clock', ObjAt w' r (.map es' clock') → GmE enc ok es' clock' (gmPut l n ((gmLook l n).getD z)) → StampG es' (gmStamp es clock l n) (gmPut l n ((gmLook l n).getD z)) n → Upd r w w' → K (a.put o.dst (.tuple #[(gmLook l n).getD z, .int .i64 ((gmStamp es clock l n : Nat) : Int)])) w') : o.wp P a w K Q := by
  have hs := h.size
  unfold Oper.wp execOp
  simp only [ho, hx, hy, Instr.mapEntry, Sem.run_bind, Sem.run_pure, run_underlying ht, Result.andThen_ok, run_getObj_im hM, hk.check _ _ _ hn, run_findKey_gm hk h hn]
  cases hf : gmFind l n 0 with
  | none =>
    have hl : (gmLook l n).getD z = z := by unfold gmLook; rw [hf]; rfl
    have hst : gmStamp es clock l n = clock := by unfold gmStamp; rw [hf]
    have hp : gmPut l n z = l ++ [(n, z)] := by unfold gmPut; rw [hf]
    rw [hl, hst, hp] at hK
    have hE := h.push hn z
    have hidx := findIdx_born hE.nd (i := es.size) (by simp)
    simp only [Array.getElem_push_eq] at hidx
    simp only [hz, Result.andThen_ok, run_setObj_im hM, Sem.run_bind, Sem.run_pure]
    exact hK _ _ _ (upd_setObj hM _).2 hE ⟨es.size, z, hidx, by rw [hs]; exact gmFind_snoc hf⟩ (upd_setObj hM _).1
  | some p =>
    obtain ⟨i, u⟩ := p
    obtain ⟨_, hat⟩ := gmFind_at hf
    rw [Nat.sub_zero] at hat
    obtain ⟨hil, _⟩ := List.getElem?_eq_some_iff.1 hat
    have hie : i < es.size := by omega
    have e1 := congrArg (fun q => q[i]?) h.kv
    simp only [List.getElem?_map, hat, Option.map_some, Array.getElem?_toList, Array.getElem?_eq_getElem hie, Option.some.injEq, Prod.mk.injEq] at e1
    have hl : (gmLook l n).getD z = u := by unfold gmLook; rw [hf]; rfl
    have hst0 : gmStamp es clock l n = es[i].born := by unfold gmStamp; rw [hf]; simp [hie]
    have hp : gmPut l n u = l := by unfold gmPut; rw [hf]; exact set_same hf
    rw [hl, hst0, hp] at hK
    have hkey : (es[i]?.map (·.key)).getD (enc n) = enc n := by simp [hie, e1.1]
    have hst : (Instr.keyThatStays ((es[i]?.map (·.key)).getD (enc n)) (enc n)).run P w = .ok (enc n) w := by
      rw [hkey]; unfold Instr.keyThatStays; rw [hk.bits _ hn]; simp
    have hmod : (es.modify i fun e => { e with key := enc n }) = es := modify_id (fun hi => by
      have : es[i].key = enc n := e1.1
      cases hq : es[i]
      rw [hq] at this
      simp only at this ⊢
      rw [this])
    have hb : (Option.map (fun x : MapEntry => ((x.born : Nat) : Int)) es[i]?).getD 0 = ((es[i].born : Nat) : Int) := by simp [hie]
    simp only [Sem.run_bind, hst, Result.andThen_ok, run_setObj_im hM, hmod, Sem.run_pure, hb, goInt]
    exact hK _ _ _ (upd_setObj hM _).2 h ⟨i, u, findIdx_born h.nd hie, hf⟩ (upd_setObj hM _).1
/-- .. and told anew. -/
theorem wp_entryStore_gm {x y q : Operand} {n : κ} {st : Nat} {v : Value} (hn : ok n) (hM : ObjAt w r (.map es clock)) (h : GmE enc ok es clock l) (hst : StampG es st l n)
    (ho : o.op = .entryStore t x y q) (hx : a.eval x = .map (some r)) (hy : a.eval y = .int .i64 ((st : Nat) : Int)) (hq : a.eval q = v)
    (hK : ∀ w' es' clock', ObjAt w' r (.map es' clock') → GmE enc ok es' clock' (gmPut l n v) → Upd r w w' → K (a.put o.dst undef) w') : o.wp P a w K Q := by
  obtain ⟨i, u, h1, h2⟩ := hst
  have hs := h.size
  obtain ⟨_, hat⟩ := gmFind_at h2
  rw [Nat.sub_zero] at hat
  obtain ⟨hil, _⟩ := List.getElem?_eq_some_iff.1 hat
  have hie : i < es.size := by omega
  have e1 := congrArg (fun q => q[i]?) h.kv
  simp only [List.getElem?_map, hat, Option.map_some, Array.getElem?_toList, Array.getElem?_eq_getElem hie, Option.some.injEq, Prod.mk.injEq] at e1
  have hp : gmPut l n v = l.set i (n, v) := by unfold gmPut; rw [h2]
  have hmod : (es.modify i fun e => { e with val := v }) = es.modify i fun e => { e with key := enc n, val := v } := by
    apply Array.ext
    · simp
    · intro j j1 j2
      rw [Array.getElem_modify, Array.getElem_modify]
      split
      · rename_i c; subst c; rw [e1.1]
      · rfl
  rw [hp] at hK
  unfold Oper.wp execOp
  simp only [ho, hx, hy, hq, Instr.entryStore, asInt, asIntOf, Sem.run_bind, Sem.run_pure, Result.andThen_ok, run_getObj_im hM, h1, run_setObj_im hM, hmod]
  exact hK _ _ _ (upd_setObj hM _).2 (h.over hn (by rw [hat]; rfl)) (upd_setObj hM _).1
end
end Go.Proofs.Ytibncmnmjhimeaa

/- An index while a term is added: what is done, one behind the other. -/
namespace Go.Proofs.Ytibncmnmjhimeaa
open Go.RowKit Go
set_option linter.unusedVariables false
set_option linter.unusedSimpArgs false
/-- The map, with an entry told anew. -/
def FpMap (w : World) (m : Nat) (KV : List (List Int × Value)) (st : Option (Nat × List Int)) : Prop := ∃ es clock, ObjAt w m (.map es clock) ∧ GmE encP okP es clock KV ∧ ∀ s k, st = some (s, k) → StampG es s KV k
theorem FpMap.below {w w' : World} {m : Nat} {KV : List (List Int × Value)} {st : Option (Nat × List Int)} (h : FpMap w m KV st) (hb : Below w.heap.size w w') : FpMap w' m KV st := by
  obtain ⟨es, clock, h1, h2⟩ := h
  exact ⟨es, clock, h1.below hb, h2⟩
theorem FpMap.chg {w w' : World} {m : Nat} {KV : List (List Int × Value)} {st : Option (Nat × List Int)} {Z : Nat → Prop} (h : FpMap w m KV st) (hc : Chg Z w w') (hZ : ¬ Z m) : FpMap w' m KV st := by
  obtain ⟨es, clock, h1, h2⟩ := h
  exact ⟨es, clock, h1.chg hc hZ, h2⟩
/-- The bucket's new row. -/
def FpRow (u : World) (W : Nat) (S : Nat → Prop) (a : Option Addr) (n c : Nat) (L : List TI) (ra : Option Addr) (rc : Nat) : Prop :=
  RowD eltR (fun b => S b ∨ (W ≤ b ∧ obk ra (n + 1) rc ≠ some b)) u 54 ra rc (n + 1) L ∧ ∀ b, obk ra (n + 1) rc = some b → obk a n c = some b ∨ W ≤ b
theorem FpRow.chg {u u' : World} {W n c : Nat} {S Z : Nat → Prop} {a ra : Option Addr} {rc : Nat} {L : List TI} (h : FpRow u W S a n c L ra rc) (hc : Chg Z u u') (h1 : ∀ b, S b → ¬ Z b) (h2 : ∀ b, W ≤ b → ¬ Z b) (h3 : ∀ b, obk a n c = some b → ¬ Z b) : FpRow u' W S a n c L ra rc :=
  ⟨h.1.chg hc (fun b q => (h.2 b q).elim (h3 b) (h2 b)) (fun b q => q.elim (h1 b) (fun z => h2 b z.1)), h.2⟩
theorem FpRow.below {u u' : World} {W n c : Nat} {S : Nat → Prop} {a ra : Option Addr} {rc : Nat} {L : List TI} (h : FpRow u W S a n c L ra rc) (hb : Below u.heap.size u u') : FpRow u' W S a n c L ra rc := h.chg (Z := fun _ => False) (.ofBelow hb) (fun _ _ => id) (fun _ _ => id) (fun _ _ => id)
/-- The steps of 'x.at[p] = append(x.at[p], row{copied(t), id})'. -/
def AddG (w0 : World) (m : Nat) (S : Nat → Prop) (KV : List (List Int × Value)) (t : T) (id : Int) (k : List Int) (a : Option Addr) (c : Nat) (L : List TI) (st : Nat) : List Value → World → Prop
  | [], w => Below w0.heap.size w0 w
  | [v0], w => Below w0.heap.size w0 w ∧ InT (fun b => w0.heap.size ≤ b) w t v0
  | [_, v1], w => Below w0.heap.size w0 w ∧ ∃ u1 u2, v1 = .agg #[u1, u2, .int .i64 id] ∧ InT (fun b => w0.heap.size ≤ b) w t (.agg #[u1, u2])
  | [_, _, v2], w => Below w0.heap.size w0 w ∧ OneRow eltR w0 54 (t, id) v2 w
  | [_, _, v2, _], w => FpMap w m (gmPut KV k (.slice a L.length c)) (some (st, k)) ∧ RowD eltR S w 54 a c L.length L ∧ OneRow eltR w0 54 (t, id) v2 w ∧ w0.heap.size ≤ w.heap.size
  | [_, _, _, _, v4], w => FpMap w m (gmPut KV k (.slice a L.length c)) (some (st, k)) ∧ ∃ ra rc, v4 = .slice ra (L.length + 1) rc ∧ FpRow w w0.heap.size S a L.length c (L ++ [(t, id)]) ra rc
  | [_, _, _, _, _, _], w => ∃ ra rc, FpMap w m (gmPut KV k (.slice ra (L.length + 1) rc)) none ∧ FpRow w w0.heap.size S a L.length c (L ++ [(t, id)]) ra rc
  | _, _ => False
theorem AddG.below {w0 : World} {m : Nat} {S : Nat → Prop} {KV : List (List Int × Value)} {t : T} {id : Int} {k : List Int} {a : Option Addr} {c : Nat} {L : List TI} {st : Nat} : ∀ (vals : List Value) (w w' : World), Below w.heap.size w w' → AddG w0 m S KV t id k a c L st vals w → AddG w0 m S KV t id k a c L st vals w'
  | [], w, w', hb, h => bstep h hb
  | [_], w, w', hb, h => ⟨bstep h.1 hb, InT.below hb h.2⟩
  | [_, _], w, w', hb, ⟨h1, u1, u2, e, h2⟩ => ⟨bstep h1 hb, u1, u2, e, InT.below hb h2⟩
  | [_, _, _], w, w', hb, h => ⟨bstep h.1 hb, h.2.chg (S := fun _ => False) (.ofBelow hb) (fun _ q => q.elim)⟩
  | [_, _, _, _], w, w', hb, h => ⟨h.1.below hb, h.2.1.below hb, h.2.2.1.chg (S := fun _ => False) (.ofBelow hb) (fun _ q => q.elim), Nat.le_trans h.2.2.2 hb.size⟩
  | [_, _, _, _, _], w, w', hb, ⟨h1, ra, rc, e, h2⟩ => ⟨h1.below hb, ra, rc, e, h2.below hb⟩
  | [_, _, _, _, _, _], w, w', hb, ⟨ra, rc, h1, h2⟩ => ⟨ra, rc, h1.below hb, h2.below hb⟩
  | _ :: _ :: _ :: _ :: _ :: _ :: _ :: _, _, _, _, h => h.elim
theorem AddG.early {w0 : World} {m : Nat} {S : Nat → Prop} {KV : List (List Int × Value)} {t : T} {id : Int} {k : List Int} {a : Option Addr} {c : Nat} {L : List TI} {st : Nat} {w : World} : ∀ {vals : List Value}, vals.length ≤ 3 → AddG w0 m S KV t id k a c L st vals w → Below w0.heap.size w0 w
  | [], _, h => h
  | [_], _, h => h.1
  | [_, _], _, h => h.1
  | [_, _, _], _, h => h.1
  | _ :: _ :: _ :: _ :: _, h, _ => by simp at h
end Go.Proofs.Ytibncmnmjhimeaa

/- Terms whose variables have no arguments. -/
namespace Go.Proofs.Ytibncmnmjhimeaa
open Go.RowKit Go
set_option linter.unusedVariables false
set_option linter.unusedSimpArgs false
end Go.Proofs.Ytibncmnmjhimeaa

namespace Go.Proofs.Ytibncmnmjhimeaa
open Go.RowKit Go
set_option linter.unusedVariables false
set_option linter.unusedSimpArgs false
theorem len_le_sizeL (l : List T) : l.length ≤ T.sizeL l := by
  induction l with
  | nil => simp [T.sizeL]
  | cons t r ih => simp only [List.length_cons, T.sizeL]; have : 1 ≤ t.size := by rw [T.size_eq]; omega
                   omega
theorem take_snocT {l : List T} {k : Nat} (h : k < l.length) : l.take k ++ [tget l k] = l.take (k + 1) := by
  rw [List.take_succ_eq_append_getElem h, tget_lt h]
theorem size_at {l : List T} {k N : Nat} {f : Int} (h : k < l.length) (hz : (T.mk f l).size ≤ N) : (tget l k).size ≤ N := by
  have h1 := T.size_le_sizeL (tget_mem h)
  simp only [T.size] at hz
  omega
end Go.Proofs.Ytibncmnmjhimeaa
