/- Signatures: how they lie in memory, that what reads as one is one; which ones may be, as plain functions. -/
import Derived.Test.YtbnjppmmhhjjbaaDoorClauseRow
namespace Go.Proofs.YtbnjppmmhhjjbaaDoor
open Go.RowKit

/-- A symbol. -/
structure Sy where
  name : ByteArray
  ar : Int
  pred : Bool
  deriving DecidableEq
instance : Inhabited Sy := ⟨⟨ByteArray.empty, 0, false⟩⟩

def IsSy (_ : World) (x : Sy) (cs : List Value) : Prop := cs = [.string x.name, .int .i64 x.ar, .bool x.pred] ∧ I64 x.ar ∧ x.name.size ≤ maxLen
def IsSys (w : World) (l : List Sy) (a : Option Addr) : Prop := IsRow w 3 IsSy l a
theorem IsSys.below {w w' : World} (hb : Below w.heap.size w w') {l : List Sy} {a : Option Addr} (h : IsSys w l a) : IsSys w' l a := IsRow.keep h hb (fun _ _ h => h)

theorem IsSys.at_ {w w' : World} {l : List Sy} {a : Option Addr} (h : IsSys w l a) (hb : Below w.heap.size w w') (k : Nat) (hk : k < l.length) :
    ∃ (b o : Nat), a = some ⟨b, o, none⟩ ∧ w'.cell? ⟨b, o + k * 3, none⟩ = some (.string l[k].name) ∧ w'.cell? ⟨b, o + k * 3 + 1, none⟩ = some (.int .i64 l[k].ar) ∧ w'.cell? ⟨b, o + k * 3 + 2, none⟩ = some (.bool l[k].pred) ∧ I64 l[k].ar ∧ l[k].name.size ≤ maxLen := by
  obtain ⟨b, o, cs, h1, _, h3, rfl, h4, h5⟩ := h k hk
  have e0 := h3 0 (by omega)
  have e1 := h3 1 (by omega)
  have e2 := h3 2 (by omega)
  simp only [List.getElem?_cons_zero, List.getElem?_cons_succ, Nat.add_zero] at e0 e1 e2
  exact ⟨b, o, h1, bkeeps hb _ _ e0, bkeeps hb _ _ e1, bkeeps hb _ _ e2, h4, h5⟩

/-- The value is the signature. -/
def IsSig (w : World) (l : List Sy) (v : Value) : Prop := ∃ (a : Option Addr) (c : Nat), v = .agg #[.slice a l.length c] ∧ l.length ≤ c ∧ c ≤ maxLen ∧ IsSys w l a
theorem IsSig.below {w w' : World} (hb : Below w.heap.size w w') {l : List Sy} {v : Value} (h : IsSig w l v) : IsSig w' l v := by
  obtain ⟨a, c, h1, h2, h3, h4⟩ := h
  exact ⟨a, c, h1, h2, h3, h4.below hb⟩

section
variable {H : Type} {enc : TypeId × Value → H} {w : World} {base : Nat} {spare : Nat → Bool} {held : Bool}

set_option maxRecDepth 100000 in
theorem open_Sy (fuel : Nat) (cs : List Value) (x : DataW H × List MemPlace) (h : DataW.trod enc Tryd.prog w base spare held fuel 26 cs = some x) : ∃ y : Sy, IsSy w y cs := by
  have hC : Tryd.prog.cellsOf 26 = 3 := by kernel_rfl
  have hC1 : Tryd.prog.cellsOf 9 = 1 := by kernel_rfl
  have hC2 : Tryd.prog.cellsOf 3 = 1 := by kernel_rfl
  have hC3 : Tryd.prog.cellsOf 4 = 1 := by kernel_rfl
  obtain ⟨xs, n, rfl, rfl, hl, hlen, hf⟩ := DataW.trod_struct Tryd.underlying26 h
  rw [hC] at hl
  match xs, hlen, cs, hl with
  | [y0, y1, y2], _, [c0, c1, c2], _ =>
    have g0 : DataW.trod enc Tryd.prog w base spare held n 9 [c0] = some y0 := by simpa [hC1] using hf 0 _ rfl
    have g1 : DataW.trod enc Tryd.prog w base spare held n 3 [c1] = some y1 := by simpa [hC2] using hf 1 _ rfl
    have g2 : DataW.trod enc Tryd.prog w base spare held n 4 [c2] = some y2 := by simpa [hC3] using hf 2 _ rfl
    obtain ⟨s, e0, rfl, hs⟩ := DataW.trod_string Tryd.underlying9 g0
    obtain ⟨m, e1, rfl, wf⟩ := DataW.trod_int Tryd.underlying3 g1
    obtain ⟨b, e2, rfl⟩ := DataW.trod_bool Tryd.underlying4 g2
    simp only [List.cons.injEq, and_true] at e0 e1 e2
    subst e0 e1 e2
    exact ⟨⟨s, m, b⟩, rfl, i64_wf wf, hs⟩

set_option maxRecDepth 100000 in
theorem open_Sys (fuel : Nat) (cs : List Value) (x : DataW H × List MemPlace) (h : DataW.trod enc Tryd.prog w base spare held fuel 22 cs = some x) :
    ∃ (l : List Sy) (a : Option Addr) (cap : Nat), cs = [.slice a l.length cap] ∧ l.length ≤ cap ∧ cap ≤ maxLen ∧ IsSys w l a := by
  obtain ⟨l, a, cap, ds, sp, rfl, h1, h2, h3, _⟩ := open_row Tryd.underlying22 (k := 3) (by kernel_rfl) (by omega) h (R := IsSy) (S := fun _ _ => True) (fun n cs x hx => by
    obtain ⟨y, hy⟩ := open_Sy _ _ _ hx
    exact ⟨y, hy, trivial⟩)
  exact ⟨l, a, cap, rfl, h1, h2, h3⟩

set_option maxRecDepth 100000 in
theorem open_Sig (fuel : Nat) (cs : List Value) (x : DataW H × List MemPlace) (h : DataW.trod enc Tryd.prog w base spare held fuel 24 cs = some x) :
    ∃ (l : List Sy) (v : Value), cs = [v] ∧ IsSig w l (.agg #[v]) := by
  have hC : Tryd.prog.cellsOf 24 = 1 := by kernel_rfl
  have hC1 : Tryd.prog.cellsOf 22 = 1 := by kernel_rfl
  obtain ⟨xs, n, rfl, rfl, hl, hlen, hf⟩ := DataW.trod_struct Tryd.underlying24 h
  rw [hC] at hl
  match xs, hlen, cs, hl with
  | [y0], _, [c0], _ =>
    have g0 : DataW.trod enc Tryd.prog w base spare held n 22 [c0] = some y0 := by simpa [hC1] using hf 0 _ rfl
    obtain ⟨l, a, cap, e, h1, h2, h3⟩ := open_Sys _ _ _ g0
    simp only [List.cons.injEq, and_true] at e
    subst e
    exact ⟨l, _, rfl, a, cap, rfl, h1, h2, h3⟩
end

/-! ### The plain functions -/

def byteOk (c : UInt8) : Bool := (97 ≤ c && c ≤ 122) || (65 ≤ c && c ≤ 90) || (48 ≤ c && c ≤ 57) || c == 95
def named (s : ByteArray) : Bool := decide (1 ≤ s.size ∧ s.size ≤ 40) && s.data.toList.all byteOk
def Sy.one (x : Sy) : Int := if named x.name then (if x.ar < 0 ∨ 6 < x.ar then 112 else 0) else 111
def truth : Sy := ⟨⟨#[36, 116, 114, 117, 101]⟩, 0, true⟩
/-- A symbol's place in a row, from 'k' on. -/
def syAt (x : Sy) : List Sy → Int → Int
  | [], _ => -1
  | y :: r, k => if y = x then k else syAt x r (k + 1)
/-- The first error among the symbols from the k-th on. -/
def symsErr (all : List Sy) : List Sy → Int → Int
  | [], _ => 0
  | x :: r, k => if x.one ≠ 0 then x.one else if syAt x all 0 < k then 113 else symsErr all r (k + 1)
def sigCheck (l : List Sy) : Int :=
  if 96 < l.length then 3 else if l.head? ≠ some truth then 110 else symsErr l (l.drop 1) 1

end Go.Proofs.YtbnjppmmhhjjbaaDoor
