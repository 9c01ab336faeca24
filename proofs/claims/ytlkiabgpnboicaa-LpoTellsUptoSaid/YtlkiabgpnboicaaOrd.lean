/- Rows of integers, orders of terms, how they lie in memory, and that what reads as one is one. -/
import Derived.Test.YtlkiabgpnboicaaClauseRow
import Derived.Test.YtlkiabgpnboicaaKboPlain
namespace Go.Proofs.Ytlkiabgpnboicaa
open Go.RowKit

def IsInt (_ : World) (n : Int) (cs : List Value) : Prop := cs = [.int .i64 n] ∧ I64 n
def IsInts (w : World) (l : List Int) (a : Option Addr) : Prop := IsRow w 1 IsInt l a
theorem IsInts.below {w w' : World} (hb : Below w.heap.size w w') {l : List Int} {a : Option Addr} (h : IsInts w l a) : IsInts w' l a := IsRow.keep h hb (fun _ _ h => h)
theorem IsInts.at_ {w w' : World} {l : List Int} {a : Option Addr} (h : IsInts w l a) (hb : Below w.heap.size w w') (k : Nat) (hk : k < l.length) :
    ∃ (b o : Nat), a = some ⟨b, o, none⟩ ∧ w'.cell? ⟨b, o + k, none⟩ = some (.int .i64 l[k]) ∧ I64 l[k] := by
  obtain ⟨b, o, cs, h1, _, h3, rfl, h4⟩ := h k hk
  have e0 := h3 0 (by omega)
  simp only [List.getElem?_cons_zero, Nat.add_zero, Nat.mul_one] at e0
  exact ⟨b, o, h1, bkeeps hb _ _ e0, h4⟩

/-- The value is the order. -/
def IsOd (w : World) (x : Od) (v : Value) : Prop := ∃ (a1 a2 : Option Addr) (c1 c2 : Nat), v = .agg #[.bool x.lpo, .slice a1 x.prec.length c1, .slice a2 x.weights.length c2, .int .i64 x.var] ∧
  x.prec.length ≤ c1 ∧ c1 ≤ maxLen ∧ x.weights.length ≤ c2 ∧ c2 ≤ maxLen ∧ IsInts w x.prec a1 ∧ IsInts w x.weights a2 ∧ I64 x.var
theorem IsOd.below {w w' : World} (hb : Below w.heap.size w w') {x : Od} {v : Value} (h : IsOd w x v) : IsOd w' x v := by
  obtain ⟨a1, a2, c1, c2, h0, h1, h2, h3, h4, h5, h6, h7⟩ := h
  exact ⟨a1, a2, c1, c2, h0, h1, h2, h3, h4, h5.below hb, h6.below hb, h7⟩

section
variable {H : Type} {enc : TypeId × Value → H} {w : World} {base : Nat} {spare : Nat → Bool} {held : Bool}

set_option maxRecDepth 10000 in
theorem open_Ints (fuel : Nat) (cs : List Value) (x : DataW H × List MemPlace) (h : DataW.trod enc Try.prog w base spare held fuel 22 cs = some x) :
    ∃ (l : List Int) (a : Option Addr) (cap : Nat), cs = [.slice a l.length cap] ∧ l.length ≤ cap ∧ cap ≤ maxLen ∧ IsInts w l a := by
  obtain ⟨l, a, cap, ds, sp, rfl, h1, h2, h3, _⟩ := open_row Try.underlying22 (k := 1) (by kernel_rfl) (by omega) h (R := IsInt) (S := fun _ _ => True) (fun n cs x hx => by
    obtain ⟨m, rfl, rfl, wf⟩ := DataW.trod_int Try.underlying3 hx
    exact ⟨m, ⟨rfl, i64_wf wf⟩, trivial⟩)
  exact ⟨l, a, cap, rfl, h1, h2, h3⟩

set_option maxRecDepth 10000 in
theorem open_Od (fuel : Nat) (cs : List Value) (x : DataW H × List MemPlace) (h : DataW.trod enc Try.prog w base spare held fuel 24 cs = some x) :
    ∃ (y : Od) (v0 v1 v2 v3 : Value), cs = [v0, v1, v2, v3] ∧ IsOd w y (.agg #[v0, v1, v2, v3]) := by
  have hC : Try.prog.cellsOf 24 = 4 := by kernel_rfl
  have hC4 : Try.prog.cellsOf 4 = 1 := by kernel_rfl
  have hC3 : Try.prog.cellsOf 3 = 1 := by kernel_rfl
  have hC27 : Try.prog.cellsOf 22 = 1 := by kernel_rfl
  obtain ⟨xs, n, rfl, rfl, hl, hlen, hf⟩ := DataW.trod_struct Try.underlying24 h
  rw [hC] at hl
  match xs, hlen, cs, hl with
  | [y0, y1, y2, y3], _, [c0, c1, c2, c3], _ =>
    have g0 : DataW.trod enc Try.prog w base spare held n 4 [c0] = some y0 := by simpa [hC4] using hf 0 _ rfl
    have g1 : DataW.trod enc Try.prog w base spare held n 22 [c1] = some y1 := by simpa [hC27] using hf 1 _ rfl
    have g2 : DataW.trod enc Try.prog w base spare held n 22 [c2] = some y2 := by simpa [hC27] using hf 2 _ rfl
    have g3 : DataW.trod enc Try.prog w base spare held n 3 [c3] = some y3 := by simpa [hC3] using hf 3 _ rfl
    obtain ⟨b, e0, rfl⟩ := DataW.trod_bool Try.underlying4 g0
    obtain ⟨l1, a1, k1, e1, p1, q1, r1⟩ := open_Ints _ _ _ g1
    obtain ⟨l2, a2, k2, e2, p2, q2, r2⟩ := open_Ints _ _ _ g2
    obtain ⟨m, e3, rfl, wf⟩ := DataW.trod_int Try.underlying3 g3
    simp only [List.cons.injEq, and_true] at e0 e1 e2 e3
    subst e0 e1 e2 e3
    exact ⟨⟨b, l1, l2, m⟩, _, _, _, _, rfl, a1, a2, k1, k2, rfl, p1, q1, p2, q2, r1, r2, i64_wf wf⟩
end

end Go.Proofs.Ytlkiabgpnboicaa
