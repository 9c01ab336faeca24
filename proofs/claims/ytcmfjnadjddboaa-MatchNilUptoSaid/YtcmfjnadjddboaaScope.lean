/- Scopes (functions with labels) through which the run goes without a goto. -/
import Derived.Test.YtcmfjnadjddboaaWalk
import Derived.Scope
namespace Go.Proofs.Ytcmfjnadjddboaa
open Go.RowKit Go
section
variable {P : Program} {n : Fr} {K : Known} {w : World} {Q : Exit → Act → World → Prop} {c : Code}
theorem WC.scope (hr : n.r = none) (h : WC P n K w c (Exit.noGoto Q)) : WC P n K w (.scope c) Q := fun a ha => by
  have z := h a ha
  rw [hr] at z ⊢
  exact wpIn_wide.2 (wp_scope_straight (wpIn_wide.1 z))
theorem WE.scopeNormal (h : WE n K w Q .normal) : WE n K w (Exit.noGoto Q) .normal := h
theorem WE.scopeRet (h : WE n K w Q .ret) : WE n K w (Exit.noGoto Q) .ret := h
theorem WE.scopeExit {i : Nat} (h : WE n K w Q (.exit i)) : WE n K w (Exit.noGoto Q) (.exit i) := h
end
end Go.Proofs.Ytcmfjnadjddboaa
