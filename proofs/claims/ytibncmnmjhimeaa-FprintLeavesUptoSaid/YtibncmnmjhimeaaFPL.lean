/- FprintLeaves: nothing is left out: what unifies with a term, matches it, is matched by it, is told, for every input whose reading is of bulk at most 1048576, the law answers true, panics nowhere, and leaves what it was given as it was. -/
import Derived.Test.YtibncmnmjhimeaaFPLj

namespace Go.Proofs.Ytibncmnmjhimeaa
open Go.RowKit Go.ChangeShapes Go.WideShapes Go.ChangeAt
set_option maxRecDepth 100000 in
theorem fprintLeaves_contract (H : Type) (enc : TypeId × Value → H) (W : World) (base : Nat) (args : Array Value) (ds gs : List (DataW H)) (before : List MemPlace)
    (hval : ∀ (j : Nat) t v, Try.f3.params[j]? = some t → args[j]? = some v → Value.okWide Try.prog W .any base t v)
    (hW : DataW.Whole enc Try.prog Try.f3.params.toList Rows.fprintLeavesSpec.vars false W args.toList ds gs before) (hk : Rows.uptoSmall H (ds ++ gs) = true) :
    Calls Try.prog 3 args W fun e W' => ∃ v, e = .returned v ∧ Rows.fprintLeavesSpec.post enc Try.prog Try.f3 false true false false W args v W' := by
  have hW' := hW
  obtain ⟨p, q, hA0, hV, rfl, hfz, hnd⟩ := hW
  have hA : DataW.TrodAll enc Try.prog W 0 (fun _ => true) true Try.f3.params.toList args.toList ds p := hA0
  rw [Try.params3] at hA hval
  obtain ⟨v0, vs0, d0, ds0, p0, q0, hargs, rfl, rfl, h0, r0⟩ := trodAll_cons hA
  obtain ⟨v1, vs1, d1, ds1, p1, q1, rfl, rfl, rfl, h1, r1⟩ := trodAll_cons r0
  obtain ⟨rfl, rfl, rfl⟩ := trodAll_nil r1
  obtain rfl : args = #[v0, v1] := by cases args; simp_all
  have b0 := bulk_mem hk (d := d0) (by simp)
  obtain ⟨x0, a0, c0, rfl, k0, m0, y0, z0⟩ := arg_Ts (hval 0 22 v0 rfl rfl) h0
  have b1 := bulk_mem hk (d := d1) (by simp)
  obtain ⟨x1, y1, z1⟩ := arg_T (hval 1 24 v1 rfl rfl) h1
  refine (leaves_any x0 x1 W a0 c0 v1 y0 k0 (by omega) y1 (by omega)).mono fun e W' ⟨v, he, hv, hg⟩ => ?_
  subst he hv
  exact ⟨_, rfl, law_post (by kernel_rfl) (readable_all (by kernel_rfl)) Try.underlying4 rfl rfl rfl hW' hg⟩
set_option maxRecDepth 100000 in
theorem fprintLeaves_lifted (os : Os) (started : os.Started) (H : Type) (enc : TypeId × Value → H) (F : Stop.Interp) :
    ReturnsInHanded {} Try.checked os 3 .any ((Rows.OpenSpec.upto Rows.fprintLeavesSpec).pre6 enc Try.prog Try.f3 Rows.fprintLeavesUptoRow.domain false) (((Rows.OpenSpec.upto Rows.fprintLeavesSpec).at F).post enc Try.prog Try.f3 false true false false) := by
  refine returnsInHanded_of_cond (C := Try.checked) (s := Rows.OpenSpec.upto Rows.fprintLeavesSpec) (k := Rows.uptoSmall) rfl own started (by kernel_rfl) Try.func3
    (OpenSpec.witness (enc := enc) (C := Try.checked) (s := Rows.OpenSpec.upto Rows.fprintLeavesSpec) (k := Rows.uptoSmall) rfl false ⟨#[], #[.slice none 0 0, .agg #[.int .i64 0, .slice none 0 0]], []⟩ 8 (by kernel_rfl) (by kernel_rfl) (by kernel_rfl)
      (x := ([.nil, .agg [.lit (.int .i64 0), .nil]], [], [])) (by kernel_rfl) rfl (by kernel_rfl)) ?_
  intro W base args ds gs before hval hW _ hk _
  exact fprintLeaves_contract H enc W base args ds gs before hval hW hk
theorem fprintLeaves_proved : Rows.FprintLeavesUptoSaid :=
  OpenClaim.holds_of_cond 3 Try.f3 rfl rfl rfl rfl rfl rfl rfl ⟨rfl, rfl, rfl, rfl, rfl⟩ rfl rfl rfl rfl rfl (by kernel_rfl) Try.func3 (by kernel_rfl)
    (of_decide_eq_true (by kernel_rfl)) (by unfold Func.isWrapper; first | (rw [if_pos (by decide +kernel)]; kernel_rfl) | (rw [if_neg (by decide +kernel)]; exact ⟨rfl, rfl⟩))
    (fun os started H enc _ F => fprintLeaves_lifted os started H enc F)
end Go.Proofs.Ytibncmnmjhimeaa
