/- FprintEmpties: the order of Adds does not matter; behind Dels of all there is nothing, for every input whose reading is of bulk at most 1048576, the law answers true, panics nowhere, and leaves what it was given as it was. -/
import Derived.Test.YtibncmnmjhimeaaFPEe

namespace Go.Proofs.Ytibncmnmjhimeaa
open Go.RowKit Go.ChangeShapes Go.WideShapes Go.ChangeAt
set_option maxRecDepth 100000 in
theorem fprintEmpties_contract (H : Type) (enc : TypeId × Value → H) (W : World) (base : Nat) (args : Array Value) (ds gs : List (DataW H)) (before : List MemPlace)
    (hval : ∀ (j : Nat) t v, Try.f5.params[j]? = some t → args[j]? = some v → Value.okWide Try.prog W .any base t v)
    (hW : DataW.Whole enc Try.prog Try.f5.params.toList Rows.fprintEmptiesSpec.vars false W args.toList ds gs before) (hk : Rows.uptoSmall H (ds ++ gs) = true) :
    Calls Try.prog 5 args W fun e W' => ∃ v, e = .returned v ∧ Rows.fprintEmptiesSpec.post enc Try.prog Try.f5 false true false false W args v W' := by
  have hW' := hW
  obtain ⟨p, q, hA0, hV, rfl, hfz, hnd⟩ := hW
  have hA : DataW.TrodAll enc Try.prog W 0 (fun _ => true) true Try.f5.params.toList args.toList ds p := hA0
  rw [Try.params5] at hA hval
  obtain ⟨v0, vs0, d0, ds0, p0, q0, hargs, rfl, rfl, h0, r0⟩ := trodAll_cons hA
  obtain ⟨v1, vs1, d1, ds1, p1, q1, rfl, rfl, rfl, h1, r1⟩ := trodAll_cons r0
  obtain ⟨v2, vs2, d2, ds2, p2, q2, rfl, rfl, rfl, h2, r2⟩ := trodAll_cons r1
  obtain ⟨v3, vs3, d3, ds3, p3, q3, rfl, rfl, rfl, h3, r3⟩ := trodAll_cons r2
  obtain ⟨rfl, rfl, rfl⟩ := trodAll_nil r3
  obtain rfl : args = #[v0, v1, v2, v3] := by cases args; simp_all
  have b0 := bulk_mem hk (d := d0) (by simp)
  obtain ⟨x0, a0, c0, rfl, k0, m0, y0, z0⟩ := arg_Ts (hval 0 22 v0 rfl rfl) h0
  have b1 := bulk_mem hk (d := d1) (by simp)
  obtain ⟨x1, a1, c1, rfl, y1, z1⟩ := arg_Is (hval 1 31 v1 rfl rfl) h1 b1
  have b2 := bulk_mem hk (d := d2) (by simp)
  obtain ⟨x2, y2, z2⟩ := arg_T (hval 2 24 v2 rfl rfl) h2
  have b3 := bulk_mem hk (d := d3) (by simp)
  obtain ⟨x3, rfl, y3⟩ := arg_int (hval 3 3 v3 rfl rfl) h3
  refine (empties_any x0 x1 x2 x3 W a0 a1 c0 c1 v2 y0 k0 (by omega) y1 z1 y2 y3).mono fun e W' ⟨v, he, hv, hg⟩ => ?_
  subst he hv
  exact ⟨_, rfl, law_post (by kernel_rfl) (readable_all (by kernel_rfl)) Try.underlying4 rfl rfl rfl hW' hg⟩
set_option maxRecDepth 100000 in
theorem fprintEmpties_lifted (os : Os) (started : os.Started) (H : Type) (enc : TypeId × Value → H) (F : Stop.Interp) :
    ReturnsInHanded {} Try.checked os 5 .any ((Rows.OpenSpec.upto Rows.fprintEmptiesSpec).pre6 enc Try.prog Try.f5 Rows.fprintEmptiesUptoRow.domain false) (((Rows.OpenSpec.upto Rows.fprintEmptiesSpec).at F).post enc Try.prog Try.f5 false true false false) := by
  refine returnsInHanded_of_cond (C := Try.checked) (s := Rows.OpenSpec.upto Rows.fprintEmptiesSpec) (k := Rows.uptoSmall) rfl own started (by kernel_rfl) Try.func5
    (OpenSpec.witness (enc := enc) (C := Try.checked) (s := Rows.OpenSpec.upto Rows.fprintEmptiesSpec) (k := Rows.uptoSmall) rfl false ⟨#[], #[.slice none 0 0, .slice none 0 0, .agg #[.int .i64 0, .slice none 0 0], .int .i64 0], []⟩ 8 (by kernel_rfl) (by kernel_rfl) (by kernel_rfl)
      (x := ([.nil, .nil, .agg [.lit (.int .i64 0), .nil], .lit (.int .i64 0)], [], [])) (by kernel_rfl) rfl (by kernel_rfl)) ?_
  intro W base args ds gs before hval hW _ hk _
  exact fprintEmpties_contract H enc W base args ds gs before hval hW hk
theorem fprintEmpties_proved : Rows.FprintEmptiesUptoSaid :=
  OpenClaim.holds_of_cond 5 Try.f5 rfl rfl rfl rfl rfl rfl rfl ⟨rfl, rfl, rfl, rfl, rfl⟩ rfl rfl rfl rfl rfl (by kernel_rfl) Try.func5 (by kernel_rfl)
    (of_decide_eq_true (by kernel_rfl)) (by unfold Func.isWrapper; first | (rw [if_pos (by decide +kernel)]; kernel_rfl) | (rw [if_neg (by decide +kernel)]; exact ⟨rfl, rfl⟩))
    (fun os started H enc _ F => fprintEmpties_lifted os started H enc F)
end Go.Proofs.Ytibncmnmjhimeaa
