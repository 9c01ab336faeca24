/- A map from integers to integers, read as a function that is nought where nothing stands. -/
import Derived.Test.YtjkpecjlpgcalaaTerm
import Derived.Maps.OwnOps
import Derived.Maps.OwnSet
import Derived.Maps.RangeWalk
namespace Go.Proofs.Ytjkpecjlpgcalaa
open Go.RowKit Go.Maps Go

theorem rbool2 {a b c d : Bool} (h : a = c) (h' : b = d) : Ending.returned (.tuple #[.bool a, .bool b]) = .returned (.tuple #[.bool c, .bool d]) := by rw [h, h']
theorem lawInt : Keyed Try.prog 3 := int_keyed Try.underlying3
theorem zeroInt (w : World) : (zeroValue 3).run Try.prog w = .ok (.int .i64 0) w := by kernel_rfl

/-- The map reads as the function. -/
def MapF (D : DataW Unit) (F : Int → Int) : Prop := ∀ v, (Lit.int .i64 v).wf = true → D.atKey (.int .i64 v) (.lit (.int .i64 0)) = .lit (.int .i64 (F v))

def updF (F : Int → Int) (f x : Int) : Int → Int := fun v => if v = f then x else F v

theorem mapF_nil : MapF (.map []) (fun _ => 0) := fun v _ => by simp [DataW.atKey]
theorem mapF_eq {D : DataW Unit} {F : Int → Int} (h : MapF D F) {v c : Int} (hv : (Lit.int .i64 v).wf = true) (hat : D.atKey (.int .i64 v) (.lit (.int .i64 0)) = .lit (.int .i64 c)) : c = F v := by
  have := h v hv
  rw [hat] at this
  simpa using this
theorem i64_mk {f : Int} (h1 : -9223372036854775808 ≤ f) (h2 : f ≤ 9223372036854775807) : (Lit.int .i64 f).wf = true := by
  simp [Lit.wf, IntKind.min, IntKind.max, IntKind.signed, IntKind.bits]; omega

theorem mapF_put {D : DataW Unit} {F : Int → Int} (hD : Maps.IsMap D) (h : MapF D F) {f x : Int} : MapF (D.put (.int .i64 f) (.lit (.int .i64 x))) (updF F f x) := by
  intro v hv
  unfold updF
  by_cases e : v = f
  · subst e
    rw [Maps.atKey_put_same hD (show WideAt.IsKeyLit (.int .i64 v) from trivial), if_pos rfl]
  · rw [Maps.atKey_put_other (by simpa using e), if_neg e]
    exact h v hv
theorem mapF_congr {D : DataW Unit} {F G : Int → Int} (h : MapF D F) (e : ∀ v, F v = G v) : MapF D G := fun v hv => by rw [h v hv, e v]

end Go.Proofs.Ytjkpecjlpgcalaa
