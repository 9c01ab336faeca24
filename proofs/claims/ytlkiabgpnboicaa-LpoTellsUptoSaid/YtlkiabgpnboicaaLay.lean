/- A term laid out in a row of its parts: how it lies in memory while it grows. -/
import Derived.Test.YtlkiabgpnboicaaTRows
import Derived.Test.YtlkiabgpnboicaaLpoPlain
import Derived.Test.YtlkiabgpnboicaaGrowR
namespace Go.Proofs.Ytlkiabgpnboicaa
open Go.RowKit Go

def natV (n : Nat) : Value := .int .i64 n

/-- The numbers lie at X, in a block that N holds of. -/
def ArgRow (w : World) (N : Nat → Prop) (X : Option Addr) (args : List Nat) : Prop :=
  args = [] ∨ ∃ g, X = some ⟨g, 0, none⟩ ∧ N g ∧ g < w.heap.size ∧ ∀ j, j < args.length → w.cell? ⟨g, j, none⟩ = some (natV (args.getD j 0))
/-- The cells are those of the parts. -/
def NdsAt (w0 w : World) (N : Nat → Prop) : List Nd → List Value → Prop
  | [], xs => xs = []
  | d :: r, xs => ∃ (A : Option Addr) (C : Nat) (X : Option Addr) (Z : Nat) (ys : List Value), xs = .int .i64 d.t.f :: .slice A d.t.args.length C :: .slice X d.args.length Z :: ys ∧
      IsT w0 d.t (.agg #[.int .i64 d.t.f, .slice A d.t.args.length C]) ∧ ArgRow w N X d.args ∧ NdsAt w0 w N r ys

section
variable {w0 w w' : World} {N N' S : Nat → Prop}
theorem ArgRow.keep {X : Option Addr} {args : List Nat} (h : ArgRow w N X args) (hc : Chg S w w') (hN : ∀ g, g < w.heap.size → N g → ¬ S g ∧ N' g) : ArgRow w' N' X args := by
  rcases h with h | ⟨g, h1, h2, h3, h4⟩
  · exact .inl h
  · have := hN g h3 h2
    exact .inr ⟨g, h1, this.2, Nat.lt_of_lt_of_le h3 hc.size, fun j hj => chg_cell hc this.1 (h4 j hj)⟩
theorem NdsAt.keep : ∀ {l : List Nd} {xs : List Value}, NdsAt w0 w N l xs → Chg S w w' → (∀ g, g < w.heap.size → N g → ¬ S g ∧ N' g) → NdsAt w0 w' N' l xs
  | [], _, h, _, _ => h
  | _ :: _, _, ⟨A, C, X, Z, ys, h1, h2, h3, h4⟩, hc, hN => ⟨A, C, X, Z, ys, h1, h2, h3.keep hc hN, NdsAt.keep h4 hc hN⟩
theorem NdsAt.append : ∀ {l r : List Nd} {xs ys : List Value}, NdsAt w0 w N l xs → NdsAt w0 w N r ys → NdsAt w0 w N (l ++ r) (xs ++ ys)
  | [], _, _, _, h, k => by
    have h : _ = [] := h
    subst h; exact k
  | _ :: _, _, _, _, ⟨A, C, X, Z, zs, h1, h2, h3, h4⟩, k => ⟨A, C, X, Z, zs ++ _, by rw [h1]; rfl, h2, h3, NdsAt.append h4 k⟩
theorem NdsAt.len : ∀ {l : List Nd} {xs : List Value}, NdsAt w0 w N l xs → xs.length = l.length * 3
  | [], _, h => by have h : _ = [] := h; subst h; rfl
  | _ :: r, _, ⟨_, _, _, _, ys, h1, _, _, h4⟩ => by rw [h1]; have := NdsAt.len h4; simp only [List.length_cons]; omega
theorem NdsAt.at_ : ∀ {l : List Nd} {xs : List Value}, NdsAt w0 w N l xs → ∀ k, k < l.length →
    ∃ (A : Option Addr) (C : Nat) (X : Option Addr) (Z : Nat), xs[k * 3]? = some (.int .i64 (ndget l k).t.f) ∧ xs[k * 3 + 1]? = some (.slice A (ndget l k).t.args.length C) ∧ xs[k * 3 + 2]? = some (.slice X (ndget l k).args.length Z) ∧
      IsT w0 (ndget l k).t (.agg #[.int .i64 (ndget l k).t.f, .slice A (ndget l k).t.args.length C]) ∧ ArgRow w N X (ndget l k).args
  | [], _, _, k, hk => by simp at hk
  | d :: r, _, ⟨A, C, X, Z, ys, h1, h2, h3, h4⟩, k, hk => by
    cases k with
    | zero => exact ⟨A, C, X, Z, by rw [h1]; rfl, by rw [h1]; rfl, by rw [h1]; rfl, h2, h3⟩
    | succ k =>
      obtain ⟨A', C', X', Z', e1, e2, e3, e4, e5⟩ := NdsAt.at_ h4 k (by simpa using hk)
      have e : ndget (d :: r) (k + 1) = ndget r k := by simp [ndget]
      rw [e]
      refine ⟨A', C', X', Z', ?_, ?_, ?_, e4, e5⟩
      · rw [h1, show (k + 1) * 3 = k * 3 + 3 by omega]; exact e1
      · rw [h1, show (k + 1) * 3 + 1 = k * 3 + 1 + 3 by omega]; exact e2
      · rw [h1, show (k + 1) * 3 + 2 = k * 3 + 2 + 3 by omega]; exact e3

variable {e size : Nat} {ra : Option Addr} {rc n b c : Nat} {xs : List Value}
/-- A row that is not empty lies in one block. -/
theorem own_pick (h : Own w S e size ra rc n xs) (hn : 0 < n) : ∃ b, S b ∧ ra = some ⟨b, 0, none⟩ ∧ b < w.heap.size ∧ Own w (fun k => k = b) e size (some ⟨b, 0, none⟩) rc n xs := by
  rcases h.1.2 with ⟨_, h0⟩ | ⟨g, cap, cur, e1, h1, hb, r⟩
  · omega
  · simp only [Value.slice.injEq, true_and] at e1
    obtain ⟨rfl, rfl⟩ := e1
    exact ⟨g, h.2 g rfl, rfl, (Array.getElem?_eq_some_iff.1 hb).1, h.1, fun k hk => (Option.some.inj hk).symm⟩
theorem own_cell (h : Own w S e size (some ⟨b, 0, none⟩) rc n xs) {i : Nat} {v : Value} (hi : xs[i]? = some v) : w.cell? ⟨b, i, none⟩ = some v := by
  have := h.1.cells (g := b) rfl i v hi
  rwa [add_plain2, Nat.zero_add] at this
/-- A cell of such a row, written. -/
theorem own_set (h : Own w S e size (some ⟨b, 0, none⟩) rc n xs) (i : Nat) (v : Value) : Own (w.setCell ⟨b, i, none⟩ v) S e size (some ⟨b, 0, none⟩) rc n (xs.set i v) := by
  refine ⟨⟨by rw [List.length_set]; exact h.1.1, ?_⟩, h.2⟩
  rcases h.1.2 with ⟨e1, _⟩ | ⟨g, cap, cur, e1, h1, hb, h2, h3, h4, h5⟩
  · cases e1
  · simp only [Value.slice.injEq, Option.some.injEq, Addr.mk.injEq, and_true, true_and] at e1
    obtain ⟨rfl, rfl⟩ := e1
    have hg := (Array.getElem?_eq_some_iff.1 hb).1
    refine .inr ⟨b, rc, cur.setIfInBounds i v, rfl, h1, ?_, h2, h3, by simpa using h4, ?_⟩
    · have hB : Blk w b e cur := hb
      exact hB.set_ i v
    · rw [← h5, Array.toList_setIfInBounds, List.take_set]
theorem own_mono (h : Own w S e size ra rc n xs) (hS : ∀ b, S b → N b) : Own w N e size ra rc n xs := ⟨h.1, fun b hb => hS b (h.2 b hb)⟩
theorem own_len (h : Own w S e size ra rc n xs) : xs.length = n * size := h.1.1
theorem own_upd (_ : Own w S e size (some ⟨b, 0, none⟩) rc n xs) (i : Nat) (v : Value) : Upd b w (w.setCell ⟨b, i, none⟩ v) := Upd.at_ _ _ _ _
end

/-- The state in the middle of a part: q of its arguments are laid out, m of them are numbered. -/
structure LaySt (E : TypeId) (w0 : World) (sz : Nat) (n : Nat) (xs : List Value) (f : Int) (a : Option Addr) (c : Nat) (l : List T) (bm rc : Nat) (xa : Option Addr) (xz ba la : Nat) (ys : List Value) (q m : Nat) (w : World) : Prop where
  main : Own w (fun g => g = bm) E 3 (some ⟨bm, 0, none⟩) rc (n + 1 + T.sizeL (l.take q)) (xs ++ [.int .i64 f, .slice a l.length c, .slice xa m xz] ++ ys)
  args : Own w (fun g => g = ba ∧ g < la) 3 1 xa xz m ((kids (l.take m) (n + 1)).map natV)
  nds : NdsAt w0 w (fun g => g ≠ bm ∧ ¬ (g = ba ∧ g < la) ∧ sz ≤ g) (layL (l.take q) (n + 1)) ys
  ne : ¬ (bm = ba ∧ bm < la)
  lt : bm < w.heap.size
  hla : la ≤ w.heap.size
  hba : ba < la → sz ≤ ba
/-- What laying out a term leaves. -/
def LayP (E : TypeId) (w0 w : World) (bm lo n : Nat) (xs : List Value) (t : T) (v' : Value) (w' : World) : Prop :=
  ∃ (bm' rc' : Nat) (ys : List Value), v' = .slice (some ⟨bm', 0, none⟩) (n + t.size) rc' ∧ Own w' (fun g => g = bm') E 3 (some ⟨bm', 0, none⟩) rc' (n + t.size) (xs ++ ys) ∧ NdsAt w0 w' (fun g => g ≠ bm' ∧ w.heap.size ≤ g) (lay t n) ys ∧ bm' < w'.heap.size ∧
    Chg (fun k => k = bm ∧ k < lo) w w' ∧ ((bm' = bm ∧ bm' < lo) ∨ w.heap.size ≤ bm')

theorem lay_cell {xs ys : List Value} {u v z : Value} {n : Nat} (hx : xs.length = n * 3) : (xs ++ [u, v, z] ++ ys)[0 + n * 3 + 2]? = some z := by
  rw [List.append_assoc, List.getElem?_append_right (by omega), show 0 + n * 3 + 2 - xs.length = 2 by omega]; rfl
theorem lay_set {xs ys : List Value} {u v z z' : Value} {n : Nat} (hx : xs.length = n * 3) : (xs ++ [u, v, z] ++ ys).set (0 + n * 3 + 2) z' = xs ++ [u, v, z'] ++ ys := by
  rw [List.append_assoc, List.append_assoc, List.set_append_right _ _ (by omega), show 0 + n * 3 + 2 - xs.length = 2 by omega]; rfl
theorem sizeL_take_t {l : List T} {k : Nat} (h : k < l.length) : T.sizeL (l.take (k + 1)) = T.sizeL (l.take k) + (tget l k).size := by rw [T.sizeL_take_succ l k h, tget_lt h]
theorem layL_take {l : List T} {k n : Nat} (h : k < l.length) : layL (l.take (k + 1)) n = layL (l.take k) n ++ lay (tget l k) (n + T.sizeL (l.take k)) := by
  rw [List.take_succ_eq_append_getElem h, layL_append, tget_lt h]; simp [layL]
theorem kids_take {l : List T} {k n : Nat} (h : k < l.length) : kids (l.take (k + 1)) n = kids (l.take k) n ++ [n + T.sizeL (l.take k)] := by
  rw [List.take_succ_eq_append_getElem h, kids_append]; simp [kids]

section
variable {E : TypeId} {w0 w w' w'' : World} {sz n : Nat} {xs : List Value} {f : Int} {a : Option Addr} {c : Nat} {l : List T} {bm rc : Nat} {xa : Option Addr} {xz ba la : Nat} {ys : List Value} {q m : Nat}
theorem LaySt.below (h : LaySt E w0 sz n xs f a c l bm rc xa xz ba la ys q m w) (hb : Below w.heap.size w w') : LaySt E w0 sz n xs f a c l bm rc xa xz ba la ys q m w' :=
  ⟨h.main.below hb, h.args.below hb, h.nds.keep (S := fun _ => False) (.ofBelow hb) (fun _ _ h => ⟨id, h⟩), h.ne, Nat.lt_of_lt_of_le h.lt hb.size, Nat.le_trans h.hla hb.size, h.hba⟩
/-- The first part is laid. -/
theorem LaySt.start (h : Own w (fun g => g = bm) E 3 (some ⟨bm, 0, none⟩) rc (n + 1) (xs ++ [.int .i64 f, .slice a l.length c, .slice none 0 0])) (hlt : bm < w.heap.size) : LaySt E w0 sz n xs f a c l bm rc none 0 0 0 [] 0 0 w :=
  ⟨by simpa [T.sizeL] using h, own_nil, rfl, by omega, hlt, Nat.zero_le _, fun h => by omega⟩
/-- One more argument is numbered. -/
theorem LaySt.app {ba' rc' v : Nat} (h : LaySt E w0 sz n xs f a c l bm rc xa xz ba la ys q m w) (hx : xs.length = n * 3) (hc : Chg (fun g => (g = ba ∧ g < la) ∨ g = w.heap.size) w w') (hsz : sz ≤ w.heap.size)
    (hA : Own w' (fun g => g = ba') 3 1 (some ⟨ba', 0, none⟩) rc' (m + 1) ((kids (l.take m) (n + 1)).map natV ++ [natV v])) (hS : (ba' = ba ∧ ba' < la) ∨ ba' = w.heap.size) (hb : ba' < w'.heap.size) (hv : v = n + 1 + T.sizeL (l.take m)) (hm : m < l.length)
    (hw : w'' = w'.setCell ⟨bm, 0 + n * 3 + 2, none⟩ (.slice (some ⟨ba', 0, none⟩) (m + 1) rc')) :
    LaySt E w0 sz n xs f a c l bm rc (some ⟨ba', 0, none⟩) rc' ba' (ba' + 1) ys q (m + 1) w'' := by
  subst hw
  have hlt := h.lt
  have hne := h.ne
  have hla := h.hla
  have hba := h.hba
  have hM := h.main.chg hc (fun b hb => by omega)
  have hM' := own_set hM (0 + n * 3 + 2) (.slice (some ⟨ba', 0, none⟩) (m + 1) rc')
  rw [lay_set hx] at hM'
  have hu := own_upd hM (0 + n * 3 + 2) (.slice (some ⟨ba', 0, none⟩) (m + 1) rc')
  have hN := h.nds.keep hc (N' := fun g => g ≠ bm ∧ ¬ (g = ba' ∧ g < ba' + 1) ∧ sz ≤ g) (fun g hg hn => ⟨by omega, by omega⟩)
  refine ⟨hM', ?_, hN.keep (S := fun g => g = bm) (.ofUpd hu rfl) (fun g _ hn => ⟨hn.1, hn⟩), by omega, by rw [hu.size]; exact Nat.lt_of_lt_of_le hlt hc.size, by rw [hu.size]; omega, fun _ => by omega⟩
  rw [kids_take hm, List.map_append, List.map_cons, List.map_nil, ← hv]
  exact own_mono (hA.upd hu (by omega)) (fun b hb => ⟨hb, by omega⟩)
/-- One more argument is laid out. -/
theorem LaySt.call {v' : Value} (h : LaySt E w0 sz n xs f a c l bm rc xa xz ba la ys q m w) (hsz : sz ≤ w.heap.size) (hq : q < l.length) (hP : LayP E w0 w bm (bm + 1) (n + 1 + T.sizeL (l.take q)) (xs ++ [.int .i64 f, .slice a l.length c, .slice xa m xz] ++ ys) (tget l q) v' w') :
    ∃ (bm' rc' : Nat) (ys' : List Value), v' = .slice (some ⟨bm', 0, none⟩) (n + 1 + T.sizeL (l.take (q + 1))) rc' ∧ LaySt E w0 sz n xs f a c l bm' rc' xa xz ba la ys' (q + 1) m w' ∧ Chg (fun g => g = bm) w w' ∧ (bm' = bm ∨ w.heap.size ≤ bm') := by
  obtain ⟨bm', rc', ys', rfl, h1, h2, h3, h4, h5⟩ := hP
  have hlt := h.lt
  have hne := h.ne
  have hla := h.hla
  have hba := h.hba
  have e : n + 1 + T.sizeL (l.take q) + (tget l q).size = n + 1 + T.sizeL (l.take (q + 1)) := by rw [sizeL_take_t hq, Nat.add_assoc]
  rw [e] at h1 ⊢
  refine ⟨bm', rc', ys ++ ys', rfl, ⟨by rw [← List.append_assoc]; exact h1, h.args.chg h4 (fun b hb => by omega), ?_, by omega, h3, Nat.le_trans hla h4.size, hba⟩, h4.mono (fun k hk => hk.1), by omega⟩
  rw [layL_take hq]
  refine NdsAt.append (h.nds.keep h4 (fun g hg hn => ⟨by omega, by omega⟩)) (h2.keep (S := fun _ => False) (.refl _ _) (fun g hg hn => ⟨id, ?_⟩))
  have hn1 : g ≠ bm' := hn.1
  have hn2 : w.heap.size ≤ g := hn.2
  exact ⟨hn1, by omega, by omega⟩
/-- All is laid out. -/
theorem LaySt.done {lo bm0 : Nat} (h : LaySt E w0 w.heap.size n xs f a c l bm rc xa xz ba la ys q m w') (hT : IsT w0 (.mk f l) (.agg #[.int .i64 f, .slice a l.length c])) (hq : l.length ≤ q) (hm : m = l.length) (hC : Chg (fun k => k = bm0 ∧ k < lo) w w') (hb : (bm = bm0 ∧ bm < lo) ∨ w.heap.size ≤ bm) :
    LayP E w0 w bm0 lo n xs (.mk f l) (.slice (some ⟨bm, 0, none⟩) (n + 1 + T.sizeL (l.take q)) rc) w' := by
  have hM := h.main
  have hN := h.nds
  have hA := h.args
  have hne := h.ne
  have hba := h.hba
  rw [List.take_of_length_le (by omega)] at hM hN hA ⊢
  have e : n + 1 + T.sizeL l = n + (T.mk f l).size := by rw [T.size]; omega
  rw [e] at hM ⊢
  subst hm
  refine ⟨bm, rc, [.int .i64 f, .slice a l.length c, .slice xa l.length xz] ++ ys, rfl, by rw [← List.append_assoc]; exact hM, ?_, h.lt, hC, hb⟩
  rw [lay]
  refine ⟨a, c, xa, xz, ys, by rw [kids_len]; rfl, hT, ?_, hN.keep (S := fun _ => False) (.refl _ _) (fun g _ hn => ⟨id, hn.1, hn.2.2⟩)⟩
  rcases Nat.eq_zero_or_pos l.length with h0 | h0
  · obtain rfl : l = [] := List.length_eq_zero_iff.1 h0
    exact .inl rfl
  · obtain ⟨b, hb1, hb2, hb3, hb4⟩ := own_pick hA h0
    refine .inr ⟨b, hb2, ⟨by omega, by omega⟩, hb3, fun j hj => own_cell hb4 ?_⟩
    have hj : j < (kids l (n + 1)).length := hj
    simp [List.getD_eq_getElem?_getD, List.getElem?_eq_getElem hj]
end

/-- The addresses in the middle of a part. -/
structure LayX where
  bm : Nat
  rc : Nat
  xa : Option Addr
  xz : Nat
  ba : Nat
  la : Nat
  ys : List Value
  k : Nat

end Go.Proofs.Ytlkiabgpnboicaa
