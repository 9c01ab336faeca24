/- Two terms laid out, what was found of their parts: how it lies in memory. -/
import Derived.Test.YtlkiabgpnboicaaLay
import Derived.Test.YtlkiabgpnboicaaPrMap
import Derived.Test.YtlkiabgpnboicaaRegC
namespace Go.Proofs.Ytlkiabgpnboicaa
open Go.RowKit Go

/-- A row of parts, cell by cell. -/
structure NdRow (w0 : World) (L : List Nd) (b : Nat) (A X : Nat → Option Addr) (C Z xb : Nat → Nat) (w : World) : Prop where
  c0 : ∀ k, k < L.length → w.cell? ⟨b, 0 + k * 3, none⟩ = some (.int .i64 (ndget L k).t.f)
  c1 : ∀ k, k < L.length → w.cell? ⟨b, 0 + k * 3 + 1, none⟩ = some (.slice (A k) (ndget L k).t.args.length (C k))
  c2 : ∀ k, k < L.length → w.cell? ⟨b, 0 + k * 3 + 2, none⟩ = some (.slice (X k) (ndget L k).args.length (Z k))
  t : ∀ k, k < L.length → IsT w0 (ndget L k).t (.agg #[.int .i64 (ndget L k).t.f, .slice (A k) (ndget L k).t.args.length (C k)])
  x : ∀ k j, k < L.length → j < (ndget L k).args.length → X k = some ⟨xb k, 0, none⟩ ∧ w.cell? ⟨xb k, 0 + j, none⟩ = some (.int .i64 (((ndget L k).args.getD j 0 : Nat) : Int))
theorem NdRow.keep {w0 w w' : World} {L : List Nd} {b : Nat} {A X : Nat → Option Addr} {C Z xb : Nat → Nat} (h : NdRow w0 L b A X C Z xb w) (hk : ∀ b i v, w.cell? ⟨b, i, none⟩ = some v → w'.cell? ⟨b, i, none⟩ = some v) : NdRow w0 L b A X C Z xb w' :=
  ⟨fun k h1 => hk _ _ _ (h.c0 k h1), fun k h1 => hk _ _ _ (h.c1 k h1), fun k h1 => hk _ _ _ (h.c2 k h1), h.t, fun k j h1 h2 => ⟨(h.x k j h1 h2).1, hk _ _ _ (h.x k j h1 h2).2⟩⟩

theorem NdRow.of {w0 w : World} {N S : Nat → Prop} {E b rc n : Nat} {L : List Nd} {xs : List Value} (h : NdsAt w0 w N L xs) (hO : Own w S E 3 (some ⟨b, 0, none⟩) rc n xs) : ∃ (A X : Nat → Option Addr) (C Z xb : Nat → Nat), NdRow w0 L b A X C Z xb w := by
  have key : ∀ k, k < L.length → ∃ p : Option Addr × Nat × Option Addr × Nat × Nat, xs[k * 3]? = some (.int .i64 (ndget L k).t.f) ∧ xs[k * 3 + 1]? = some (.slice p.1 (ndget L k).t.args.length p.2.1) ∧ xs[k * 3 + 2]? = some (.slice p.2.2.1 (ndget L k).args.length p.2.2.2.1) ∧
      IsT w0 (ndget L k).t (.agg #[.int .i64 (ndget L k).t.f, .slice p.1 (ndget L k).t.args.length p.2.1]) ∧ ∀ j, j < (ndget L k).args.length → p.2.2.1 = some ⟨p.2.2.2.2, 0, none⟩ ∧ w.cell? ⟨p.2.2.2.2, 0 + j, none⟩ = some (.int .i64 (((ndget L k).args.getD j 0 : Nat) : Int)) := by
    intro k hk
    obtain ⟨A, C, X, Z, e1, e2, e3, e4, e5⟩ := h.at_ k hk
    rcases e5 with e5 | ⟨g, e5, _, _, e6⟩
    · exact ⟨(A, C, X, Z, 0), e1, e2, e3, e4, fun j hj => by rw [e5] at hj; simp at hj⟩
    · exact ⟨(A, C, X, Z, g), e1, e2, e3, e4, fun j hj => ⟨e5, by rw [Nat.zero_add]; exact e6 j hj⟩⟩
  have : Inhabited (Option Addr × Nat × Option Addr × Nat × Nat) := ⟨(none, 0, none, 0, 0)⟩
  obtain ⟨F, hF⟩ := Go.Deep.choose_lt key
  refine ⟨fun k => (F k).1, fun k => (F k).2.2.1, fun k => (F k).2.1, fun k => (F k).2.2.2.1, fun k => (F k).2.2.2.2, fun k hk => ?_, fun k hk => ?_, fun k hk => ?_, fun k hk => (hF k hk).2.2.2.1, fun k j hk hj => (hF k hk).2.2.2.2 j hj⟩
  · rw [Nat.zero_add]; exact own_cell hO (hF k hk).1
  · rw [Nat.zero_add]; exact own_cell hO (hF k hk).2.1
  · rw [Nat.zero_add]; exact own_cell hO (hF k hk).2.2.1

/-- The addresses. -/
structure LpoQ where
  gw : Nat
  gm : Nat
  b1 : Nat
  b2 : Nat
  r1 : Nat
  r2 : Nat
  A1 : Nat → Option Addr
  A2 : Nat → Option Addr
  X1 : Nat → Option Addr
  X2 : Nat → Option Addr
  C1 : Nat → Nat
  C2 : Nat → Nat
  Z1 : Nat → Nat
  Z2 : Nat → Nat
  x1 : Nat → Nat
  x2 : Nat → Nat
  p1 : Option Addr
  p2 : Option Addr
  k1 : Nat
  k2 : Nat

/-- What is known of the two rows. -/
structure LpoH (o : Od) (L1 L2 : List Nd) : Prop where
  g1 : ∀ k, k < L1.length → GoodAt L1 k
  g2 : ∀ k, k < L2.length → GoodAt L2 k
  k1 : ∀ k, k < L1.length → o.lknows (ndget L1 k).t = true
  k2 : ∀ k, k < L2.length → o.lknows (ndget L2 k).t = true
  z1 : ∀ k, k < L1.length → (ndget L1 k).t.size ≤ 4294967296
  z2 : ∀ k, k < L2.length → (ndget L2 k).t.size ≤ 4294967296
theorem args_le (t : T) : t.args.length < t.size := by
  have h : ∀ l : List T, l.length ≤ T.sizeL l := by
    intro l
    induction l with
    | nil => simp
    | cons a r ih =>
      have := T.size_eq a
      rw [T.sizeL, List.length_cons]; omega
  have := T.size_eq t
  have := h t.args
  omega
theorem nd_child {L : List Nd} {k j : Nat} (h : GoodAt L k) (hj : j < (ndget L k).t.args.length) : (ndget L k).args.getD j 0 < L.length ∧ (ndget L ((ndget L k).args.getD j 0)).t = tget (ndget L k).t.args j := by
  have := h.2 j hj
  rw [tget_lt hj]; exact this

def LpoBlk (o : Od) (L1 L2 : List Nd) (q : LpoQ) : Array Value := #[.bool o.lpo, .slice q.p1 o.prec.length q.k1, .slice q.p2 o.weights.length q.k2, .int .i64 o.var, .slice (some ⟨q.b1, 0, none⟩) L1.length q.r1, .slice (some ⟨q.b2, 0, none⟩) L2.length q.r2, .map (some q.gm)]
/-- What was found is right. -/
def LpoR (o : Od) (L1 L2 : List Nd) (x : Nat × Nat) (b : Bool) : Prop := b = o.lg (ndget L1 x.1).t (ndget L2 x.2).t
structure LpoSt (o : Od) (L1 L2 : List Nd) (q : LpoQ) (w0 w : World) : Prop where
  below : Below w0.heap.size w0 w
  prec : IsInts w0 o.prec q.p1
  n1 : NdRow w0 L1 q.b1 q.A1 q.X1 q.C1 q.Z1 q.x1 w
  n2 : NdRow w0 L2 q.b2 q.A2 q.X2 q.C2 q.Z2 q.x2 w
  map : PrMap w q.gm (LpoR o L1 L2)
  blk : Blk w q.gw 75 #[.bool o.lpo, .slice q.p1 o.prec.length q.k1, .slice q.p2 o.weights.length q.k2, .int .i64 o.var, .slice (some ⟨q.b1, 0, none⟩) L1.length q.r1, .slice (some ⟨q.b2, 0, none⟩) L2.length q.r2, .map (some q.gm)]
  hgm : w0.heap.size ≤ q.gm
section
variable {o : Od} {L1 L2 : List Nd} {q : LpoQ} {w0 w w' : World}
theorem LpoSt.step (h : LpoSt o L1 L2 q w0 w) (hc : Chg (fun b => b = q.gm) w w') (hm : PrMap w' q.gm (LpoR o L1 L2)) : LpoSt o L1 L2 q w0 w' := by
  have hk : ∀ b i v, w.cell? ⟨b, i, none⟩ = some v → w'.cell? ⟨b, i, none⟩ = some v := fun b i v hv => chg_cell hc (h.map.ne hv) hv
  have hg := h.hgm
  exact ⟨chg_below h.below hc (fun b hb => by omega), h.prec, h.n1.keep hk, h.n2.keep hk, hm, chg_blk h.blk hc (h.map.ne (h.blk.cell 0)), hg⟩
theorem LpoSt.bel (h : LpoSt o L1 L2 q w0 w) (hb : Below w.heap.size w w') : LpoSt o L1 L2 q w0 w' := h.step (.ofBelow hb) (h.map.below hb)
theorem LpoSt.glt (h : LpoSt o L1 L2 q w0 w) : q.gm < w.heap.size ∧ q.gw < w.heap.size ∧ q.gw ≠ q.gm ∧ w0.heap.size ≤ w.heap.size := ⟨h.map.lt, h.blk.lt, h.map.ne (h.blk.cell 0), h.below.size⟩
end

/-- To so many parts, above tells what is right. -/
def AboveOK (o : Od) (L1 L2 : List Nd) (q : LpoQ) (w0 : World) (n : Nat) : Prop :=
  ∀ (i k : Nat) (w : World), i < L1.length → k < L2.length → (ndget L1 i).t.size + (ndget L2 k).t.size ≤ n → LpoSt o L1 L2 q w0 w →
    Calls Try.prog 37 #[.pointer (some ⟨q.gw, 0, none⟩), .int .i64 (i : Int), .int .i64 (k : Int)] w (Ret fun v' w' => v' = .bool (o.lg (ndget L1 i).t (ndget L2 k).t) ∧ LpoSt o L1 L2 q w0 w' ∧ Chg (fun b => b = q.gm) w w')

end Go.Proofs.Ytlkiabgpnboicaa
