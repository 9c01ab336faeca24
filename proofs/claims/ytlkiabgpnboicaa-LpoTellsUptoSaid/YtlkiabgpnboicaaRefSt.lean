/- Two terms laid out, and the table of what was found of their parts (the document's way): how it lies in memory. -/
import Derived.Test.YtlkiabgpnboicaaLpoSt
namespace Go.Proofs.Ytlkiabgpnboicaa
open Go.RowKit Go

structure RefQ where
  gw : Nat
  fb : Nat
  fc : Nat
  lo : Nat
  hi : Nat
  F : Nat → Nat
  b1 : Nat
  b2 : Nat
  r1 : Nat
  r2 : Nat
  A1 : Nat → Option Addr
  A2 : Nat → Option Addr
  X1 : Nat → Option Addr
  X2 : Nat → Option Addr
  C1 : Nat → Nat
  C2 : Nat → Nat
  Z1 : Nat → Nat
  Z2 : Nat → Nat
  x1 : Nat → Nat
  x2 : Nat → Nat
  p1 : Option Addr
  p2 : Option Addr
  k1 : Nat
  k2 : Nat

/-- What is found is right. -/
def FoundOk (m : Int) (b : Bool) : Prop := m = 0 ∨ m = if b then 1 else 2
structure RefSt (o : Od) (L1 L2 : List Nd) (q : RefQ) (w0 w1 : World) (E : Nat → Nat → Prop) (w : World) : Prop where
  below : Below w0.heap.size w0 w
  below1 : Below w1.heap.size w1 w
  prec : IsInts w0 o.prec q.p1
  m1 : NdRow w0 L1 q.b1 q.A1 q.X1 q.C1 q.Z1 q.x1 w1
  m2 : NdRow w0 L2 q.b2 q.A2 q.X2 q.C2 q.Z2 q.x2 w1
  blk : Blk w q.gw 67 #[.bool o.lpo, .slice q.p1 o.prec.length q.k1, .slice q.p2 o.weights.length q.k2, .int .i64 o.var, .slice (some ⟨q.b1, 0, none⟩) L1.length q.r1, .slice (some ⟨q.b2, 0, none⟩) L2.length q.r2, .slice (some ⟨q.fb, 0, none⟩) L1.length q.fc]
  outer : ∀ i, i < L1.length → w.cell? ⟨q.fb, 0 + i, none⟩ = some (.slice (some ⟨q.F i, 0, none⟩) L2.length L2.length)
  inner : ∀ i, i < L1.length → ∃ cur, Blk w (q.F i) 3 cur ∧ cur.size = L2.length ∧ ∀ k, k < L2.length → ∃ m : Int, cur[k]? = some (.int .i64 m) ∧ (E i k → m = 2) ∧ (¬ E i k → FoundOk m (o.lg (ndget L1 i).t (ndget L2 k).t))
  mid : ∀ i, i < L1.length → q.lo ≤ q.F i ∧ q.F i ≤ q.hi ∧ q.F i ≠ q.fb
  inj : ∀ i j, i < L1.length → j < L1.length → q.F i = q.F j → i = j
  hi : q.hi < w.heap.size
  lo : q.gw < q.lo ∧ w1.heap.size ≤ q.lo ∧ w0.heap.size ≤ w1.heap.size
section
variable {o : Od} {L1 L2 : List Nd} {q : RefQ} {w0 w1 w w' : World} {E E' : Nat → Nat → Prop}
theorem RefSt.n1 (h : RefSt o L1 L2 q w0 w1 E w) : NdRow w0 L1 q.b1 q.A1 q.X1 q.C1 q.Z1 q.x1 w := h.m1.keep (fun _ _ _ hv => bkeeps h.below1 _ _ hv)
theorem RefSt.n2 (h : RefSt o L1 L2 q w0 w1 E w) : NdRow w0 L2 q.b2 q.A2 q.X2 q.C2 q.Z2 q.x2 w := h.m2.keep (fun _ _ _ hv => bkeeps h.below1 _ _ hv)
theorem RefSt.glt (h : RefSt o L1 L2 q w0 w1 E w) : q.gw < q.lo ∧ q.hi < w.heap.size ∧ w0.heap.size ≤ q.lo ∧ w0.heap.size ≤ w.heap.size := by
  have h1 := h.lo
  exact ⟨h1.1, h.hi, by omega, h.below.size⟩
theorem RefSt.bel (h : RefSt o L1 L2 q w0 w1 E w) (hb : Below w.heap.size w w') : RefSt o L1 L2 q w0 w1 E w' :=
  ⟨bstep h.below hb, bstep h.below1 hb, h.prec, h.m1, h.m2, h.blk.below hb, fun i hi => bkeeps hb _ _ (h.outer i hi), fun i hi => by
    obtain ⟨cur, h1, h2⟩ := h.inner i hi
    exact ⟨cur, h1.below hb, h2⟩, h.mid, h.inj, Nat.lt_of_lt_of_le h.hi hb.size, h.lo⟩
theorem RefSt.get (h : RefSt o L1 L2 q w0 w1 E w) {i k : Nat} (hi : i < L1.length) (hk : k < L2.length) : ∃ m : Int, w.cell? ⟨q.F i, 0 + k, none⟩ = some (.int .i64 m) ∧ (E i k → m = 2) ∧ (¬ E i k → FoundOk m (o.lg (ndget L1 i).t (ndget L2 k).t)) := by
  obtain ⟨cur, h1, h2, h3⟩ := h.inner i hi
  obtain ⟨m, h4, h5⟩ := h3 k hk
  exact ⟨m, (by rw [Nat.zero_add, h1.cell]; exact h4), h5⟩
theorem RefSt.row (h : RefSt o L1 L2 q w0 w1 E w) {i : Nat} (hi : i < L1.length) : ∃ cur, Blk w (q.F i) 3 cur ∧ cur.size = L2.length := by
  obtain ⟨cur, h1, h2, _⟩ := h.inner i hi
  exact ⟨cur, h1, h2⟩
theorem RefSt.put (h : RefSt o L1 L2 q w0 w1 E w) {i k : Nat} {m : Int} (hi : i < L1.length) (hk : k < L2.length) (hE : ∀ a b, ¬ E' a b → ¬ E a b ∨ (a = i ∧ b = k)) (hE2 : ∀ a b, E' a b → E a b ∨ (a = i ∧ b = k)) (hm2 : E' i k → m = 2) (hm : ¬ E' i k → FoundOk m (o.lg (ndget L1 i).t (ndget L2 k).t)) (hw : w' = w.setCell ⟨q.F i, 0 + k, none⟩ (.int .i64 m)) :
    RefSt o L1 L2 q w0 w1 E' w' ∧ Chg (fun b => q.lo ≤ b ∧ b ≤ q.hi) w w' ∧ w'.cell? ⟨q.F i, 0 + k, none⟩ = some (.int .i64 m) := by
  have hu : Upd (q.F i) w w' := by rw [hw]; exact Upd.at_ _ _ _ _
  have hmi := h.mid i hi
  have hlo := h.lo
  refine ⟨⟨upd_below h.below hu (by omega), upd_below h.below1 hu (by omega), h.prec, h.m1, h.m2, upd_blk h.blk hu (by omega), fun j hj => ?_, fun j hj => ?_, h.mid, h.inj, by rw [hu.size]; exact h.hi, h.lo⟩, .ofUpd hu (by omega), ?_⟩
  · exact chg_cell (S := fun b => b = q.F i) (.ofUpd hu rfl) (fun e => hmi.2.2 e.symm) (h.outer j hj)
  · obtain ⟨cur, h1, h2, h3⟩ := h.inner j hj
    by_cases e : j = i
    · subst e
      refine ⟨cur.setIfInBounds (0 + k) (.int .i64 m), ?_, by simpa using h2, fun b hb => ?_⟩
      · rw [hw]; exact h1.set_ (0 + k) _
      · obtain ⟨m', h4, h5⟩ := h3 b hb
        by_cases e2 : b = k
        · subst e2
          exact ⟨m, by simp [h2, hb], hm2, hm⟩
        · refine ⟨m', ?_, fun hn => h5.1 (by rcases hE2 j b hn with z | z; exact z; exact absurd z.2 e2), fun hn => h5.2 (by rcases hE j b hn with z | z; exact z; exact absurd z.2 e2)⟩
          rw [Array.getElem?_setIfInBounds, if_neg (by omega)]; exact h4
    · refine ⟨cur, upd_blk h1 hu (fun e2 => e (h.inj j i hj hi e2)), h2, fun b hb => ?_⟩
      obtain ⟨m', h4, h5⟩ := h3 b hb
      exact ⟨m', h4, fun hn => h5.1 (by rcases hE2 j b hn with z | z; exact z; exact absurd z.1 e), fun hn => h5.2 (by rcases hE j b hn with z | z; exact z; exact absurd z.1 e)⟩
  · obtain ⟨cur, h1, h2, _⟩ := h.inner i hi
    have := (h1.set_ (0 + k) (.int .i64 m)).cell (0 + k)
    rw [hw, this]
    simp [h2, hk]
/-- A pair is no longer in progress. -/
theorem RefSt.settle {i k : Nat} (h : RefSt o L1 L2 q w0 w1 (fun a b => E a b ∨ (a = i ∧ b = k)) w) (hn : ¬ E i k) (hlg : o.lg (ndget L1 i).t (ndget L2 k).t = false) : RefSt o L1 L2 q w0 w1 E w := by
  refine ⟨h.below, h.below1, h.prec, h.m1, h.m2, h.blk, h.outer, fun j hj => ?_, h.mid, h.inj, h.hi, h.lo⟩
  obtain ⟨cur, h1, h2, h3⟩ := h.inner j hj
  refine ⟨cur, h1, h2, fun b hb => ?_⟩
  obtain ⟨m, h4, h5, h6⟩ := h3 b hb
  refine ⟨m, h4, fun e => h5 (.inl e), fun e => ?_⟩
  by_cases e2 : j = i ∧ b = k
  · obtain ⟨rfl, rfl⟩ := e2
    rw [h5 (.inr ⟨rfl, rfl⟩), hlg]; exact .inr rfl
  · exact h6 (fun z => z.elim e e2)
end

abbrev nsz (L1 L2 : List Nd) (i k : Nat) : Nat := (ndget L1 i).t.size + (ndget L2 k).t.size
/-- To so many parts, above tells what is right. -/
def RAboveOK (o : Od) (L1 L2 : List Nd) (q : RefQ) (w0 w1 : World) (n : Nat) : Prop :=
  ∀ (i k : Nat) (E : Nat → Nat → Prop) (w : World), i < L1.length → k < L2.length → (ndget L1 i).t.size + (ndget L2 k).t.size ≤ n → (∀ a b, E a b → (ndget L1 i).t.size + (ndget L2 k).t.size < nsz L1 L2 a b) → RefSt o L1 L2 q w0 w1 E w →
    Calls Try.prog 34 #[.pointer (some ⟨q.gw, 0, none⟩), .int .i64 (i : Int), .int .i64 (k : Int)] w (Ret fun v' w' => v' = .bool (o.lg (ndget L1 i).t (ndget L2 k).t) ∧ RefSt o L1 L2 q w0 w1 E w' ∧ Chg (fun b => q.lo ≤ b ∧ b ≤ q.hi) w w')

end Go.Proofs.Ytlkiabgpnboicaa
