/- Substitutions: how they lie in memory. -/
import Derived.Test.YtcmfjnadjddboaaInT
namespace Go.Proofs.Ytcmfjnadjddboaa
open Go.RowKit Go

structure Bd where
  var : Int
  t : T
instance : Inhabited Bd := ⟨⟨0, .mk 0 []⟩⟩

def eltB : Elt Bd where
  k := 3
  In := fun S w x cs => ∃ u v, cs = [.int .i64 x.var, u, v] ∧ I64 x.var ∧ InT S w x.t (.agg #[u, v])
  keep := fun hb ⟨u, v, e, h0, h⟩ => ⟨u, v, e, h0, h.keep hb⟩
  mono := fun hb ⟨u, v, e, h0, h⟩ => ⟨u, v, e, h0, h.mono hb⟩
  len := fun ⟨_, _, e, _⟩ => by rw [e]; rfl
  one := fun ⟨u, v, e, _, h⟩ x hx => by
    obtain ⟨_, a, c, e2, _⟩ := h.form
    simp only [Value.agg.injEq, Array.mk.injEq, List.cons.injEq, and_true] at e2
    rw [e] at hx
    simp only [List.mem_cons, List.not_mem_nil, or_false] at hx
    rcases hx with rfl | rfl | rfl
    · rfl
    · rw [e2.1]; rfl
    · rw [e2.2]; rfl

def dget (l : List Bd) (k : Nat) : Bd := l.getD k default
theorem dget_lt {l : List Bd} {k : Nat} (h : k < l.length) : dget l k = l[k] := by simp [dget, h]
theorem dget_mem {l : List Bd} {k : Nat} (h : k < l.length) : dget l k ∈ l := by rw [dget_lt h]; exact List.getElem_mem h

/-- A substitution that came in. -/
abbrev IsBs (w : World) (l : List Bd) (a : Option Addr) : Prop := InRow eltB (fun _ => True) w l a
theorem InRow.openB {S : Nat → Prop} {w : World} {l : List Bd} {a : Option Addr} (h : InRow eltB S w l a) : ∃ (b o : Nat) (A : Nat → Option Addr) (C : Nat → Nat), (∀ k, k < l.length → a = some ⟨b, o, none⟩) ∧
    ∀ k, k < l.length → w.cell? ⟨b, o + k * 3, none⟩ = some (.int .i64 (dget l k).var) ∧ w.cell? ⟨b, o + k * 3 + 1, none⟩ = some (.int .i64 (dget l k).t.f) ∧ w.cell? ⟨b, o + k * 3 + 2, none⟩ = some (.slice (A k) (dget l k).t.args.length (C k)) ∧
      InT S w (dget l k).t (.agg #[.int .i64 (dget l k).t.f, .slice (A k) (dget l k).t.args.length (C k)]) ∧ I64 (dget l k).var := by
  rcases Nat.eq_zero_or_pos l.length with h0 | h0
  · exact ⟨0, 0, fun _ => none, fun _ => 0, fun k hk => by omega, fun k hk => by omega⟩
  · obtain ⟨b, o, _, ha, _⟩ := h 0 h0
    have key : ∀ k, k < l.length → ∃ p : Option Addr × Nat, w.cell? ⟨b, o + k * 3, none⟩ = some (.int .i64 (dget l k).var) ∧ w.cell? ⟨b, o + k * 3 + 1, none⟩ = some (.int .i64 (dget l k).t.f) ∧ w.cell? ⟨b, o + k * 3 + 2, none⟩ = some (.slice p.1 (dget l k).t.args.length p.2) ∧
      InT S w (dget l k).t (.agg #[.int .i64 (dget l k).t.f, .slice p.1 (dget l k).t.args.length p.2]) ∧ I64 (dget l k).var := by
      intro k hk
      obtain ⟨b', o', cs, ha', _, ⟨u, v, rfl, h1, h2⟩, h3⟩ := h k hk
      rw [ha] at ha'
      simp only [Option.some.injEq, Addr.mk.injEq, and_true] at ha'
      obtain ⟨rfl, rfl⟩ := ha'
      obtain ⟨_, p, c, e, _, _, _⟩ := h2.form
      simp only [Value.agg.injEq, Array.mk.injEq, List.cons.injEq, and_true] at e
      obtain ⟨rfl, rfl⟩ := e
      rw [dget_lt hk]
      have c0 := h3 0 (by decide)
      have c1 := h3 1 (by decide)
      have c2 := h3 2 (by decide)
      exact ⟨(p, c), c0, c1, c2, h2, h1⟩
    have : Inhabited (Option Addr × Nat) := ⟨(none, 0)⟩
    obtain ⟨F, hF⟩ := Go.Deep.choose_lt key
    exact ⟨b, o, fun k => (F k).1, fun k => (F k).2, fun _ _ => ha, hF⟩

/-- A pointer to a term. -/
def IsTp (w : World) (t : T) (v : Value) : Prop := ∃ (b o : Nat) (a : Option Addr) (c : Nat), v = .pointer (some ⟨b, o, none⟩) ∧ w.cell? ⟨b, o, none⟩ = some (.int .i64 t.f) ∧ w.cell? ⟨b, o + 1, none⟩ = some (.slice a t.args.length c) ∧ IsT w t (.agg #[.int .i64 t.f, .slice a t.args.length c])
theorem IsTp.below {w w' : World} {t : T} {v : Value} (hb : Below w.heap.size w w') (h : IsTp w t v) : IsTp w' t v := by
  obtain ⟨b, o, a, c, e, h1, h2, h3⟩ := h
  exact ⟨b, o, a, c, e, bkeeps hb _ _ h1, bkeeps hb _ _ h2, IsT.below hb h3⟩
/-- A pointer to a term, or none. -/
def IsTo (w : World) (t : Option T) (v : Value) : Prop := match t with | none => v = .pointer none | some t => IsTp w t v
theorem IsTo.below {w w' : World} {t : Option T} {v : Value} (hb : Below w.heap.size w w') (h : IsTo w t v) : IsTo w' t v := by
  cases t with
  | none => exact h
  | some t => exact IsTp.below hb h

def Bd.itself (b : Bd) : Bool := decide (b.t.f = -1 - b.var) && decide (b.t.args.length = 0)
def subOk : Int → List Bd → Bool
  | _, [] => true
  | last, b :: r => if b.var ≤ last ∨ b.itself = true then false else subOk b.var r
def subCheck (l : List Bd) : Int := if subOk (-1) l then 0 else 2
def subFind (l : List Bd) (v : Int) : Option T := (l.find? fun b => decide (b.var = v)).map (·.t)

end Go.Proofs.Ytcmfjnadjddboaa
