/- What orders and terms that may be over a signature have, plainly. -/
import Derived.Test.YtjkpecjlpgcalaaPrecCheck
import Derived.Test.YtjkpecjlpgcalaaSigCheck
import Derived.Test.YtjkpecjlpgcalaaTermCheck
namespace Go.Proofs.Ytjkpecjlpgcalaa

def SymOk (o : Od) (x : Sy) (i : Nat) : Prop := (0 ≤ o.weights.getD i 0 ∧ o.weights.getD i 0 ≤ 1000) ∧ (x.ar = 0 → o.var ≤ o.weights.getD i 0) ∧ (x.ar = 1 → o.weights.getD i 0 = 0 → ∀ k, k < o.prec.length → o.prec.getD k 0 ≤ o.prec.getD i 0)
/-- What an order that may be over a signature has. -/
structure OrdOk (sg : List Sy) (o : Od) : Prop where
  sig : sigCheck sg = 0
  len : o.prec.length = sg.length
  ranks : Ranks o.prec
  kbo : o.lpo = false → o.weights.length = sg.length ∧ 1 ≤ o.var ∧ o.var ≤ 1000 ∧ o.weights.getD 0 0 = o.var ∧
    ∀ i (h : i < sg.length), SymOk o sg[i] i

theorem sigCheck_pos {sg : List Sy} (h : sigCheck sg = 0) : 0 < sg.length := by
  cases sg with
  | nil => unfold sigCheck at h; simp at h
  | cons a r => simp

/-- May the term be over the signature? -/
def T.check (sg : List Sy) (t : T) : Int := if sigCheck sg = 0 ∧ t.small 48 = true ∧ t.over sg true = true then 0 else 2

def FitsOk (sg : List Sy) (o : Od) (l : List T) : Prop := o.lpo = false ∧ OrdOk sg o ∧ ∀ t ∈ l, t.check sg = 0

end Go.Proofs.Ytjkpecjlpgcalaa
