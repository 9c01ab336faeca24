/- Arguments of a law, opened: terms, integers, truth values; rows in general. -/
import Derived.Test.YtnblndmjjokepaaInT
import Derived.Test.YtnblndmjjokepaaClauseRow
import Derived.Test.YtnblndmjjokepaaLaw
import Derived.WalkKit
import Derived.ProofKit
import Derived.JoinedCond
import Derived.OpenShut
namespace Go.Proofs.Ytnblndmjjokepaa
open Go.ChangeShapes Go.WideShapes Go.ChangeAt Go.RowKit

theorem own : ownKnob Try.prog.godebug = none := by kernel_rfl

theorem one_le_bulk {H : Type} (d : DataW H) : 1 ≤ Rows.uptoBulk d := by
  cases d with
  | lit l => cases l <;> simp [Rows.uptoBulk]
  | _ => simp [Rows.uptoBulk]
theorem len_le_bulk {H : Type} (ds : List (DataW H)) : ds.length ≤ Rows.uptoBulkAll ds := by
  induction ds with
  | nil => simp
  | cons d r ih => have := one_le_bulk d; simp only [List.length_cons, Rows.uptoBulkAll]; omega
theorem readable_all {P : Program} {ts : List TypeId} (h : (ts.all fun t => P.readableRec t && Nat.blt t P.types.size) = true) : ∀ t ∈ ts, P.readableRec t = true ∧ t < P.types.size := by
  intro t ht
  have := List.all_eq_true.1 h t ht
  simp only [Bool.and_eq_true, Nat.blt_eq] at this
  exact this
theorem bulk_mem {H : Type} {l : List (DataW H)} (hk : Rows.uptoSmall H l = true) {d : DataW H} (h : d ∈ l) : Rows.uptoBulk d ≤ 1048576 :=
  Nat.le_trans (bulkAll_le h) (of_decide_eq_true hk)

section
variable {H : Type} {enc : TypeId × Value → H} {w : World} {base : Nat} {spare : Nat → Bool} {held : Bool}
set_option maxRecDepth 100000 in
theorem arg_T {r : Reach} {b : Nat} {v : Value} {d : DataW H} {p : List MemPlace} (h : Value.okWide Try.prog w r b 32 v) (ht : DataW.Trod enc Try.prog w base spare held 32 v d p) :
    ∃ t : T, IsT w t v ∧ t.size ≤ Rows.uptoBulk d := by
  obtain ⟨cs, rfl, _⟩ := okWide_struct Try.underlying32 h
  obtain ⟨fuel, hf⟩ := ht
  obtain ⟨t, u, v, e, h1, h2⟩ := open_T _ _ _ hf
  have e' : cs = #[u, v] := by
    apply Array.toList_inj.1
    exact e
  subst e'
  exact ⟨t, h1, h2⟩
set_option maxRecDepth 100000 in
theorem arg_int {r : Reach} {b : Nat} {v : Value} {d : DataW H} {p : List MemPlace} (h : Value.okWide Try.prog w r b 3 v) (ht : DataW.Trod enc Try.prog w base spare held 3 v d p) :
    ∃ n : Int, v = .int .i64 n ∧ I64 n := by
  obtain ⟨n, rfl⟩ := okWide_int Try.underlying3 h
  obtain ⟨fuel, hf⟩ := ht
  obtain ⟨m, e, _, wf⟩ := DataW.trod_int Try.underlying3 hf
  have e' : (.int .i64 n : Value) = .int .i64 m := by simpa [Value.cells] using e
  simp only [Value.int.injEq, true_and] at e'
  exact ⟨n, rfl, by rw [e']; exact i64_wf wf⟩

theorem bulk_at {H : Type} : ∀ {ds : List (DataW H)} {d : DataW H}, d ∈ ds → Rows.uptoBulk d ≤ Rows.uptoBulkAll ds
  | [], _, h => nomatch h
  | x :: r, d, h => by
    rw [Rows.uptoBulkAll]
    rcases List.mem_cons.1 h with rfl | h
    · omega
    · have := bulk_at h; omega
/-- A row that was opened, as the rows of elements have it. -/
theorem inRow_of {α : Type} {E : Elt α} {R : World → α → List Value → Prop} {l : List α} {a : Option Addr} (hR : ∀ x cs, R w x cs → E.In (fun _ => True) w x cs) (h : IsRow w E.k R l a) : InRow E (fun _ => True) w l a := fun i hi => by
  obtain ⟨b, o, cs, h1, _, h3, h4⟩ := h i hi
  exact ⟨b, o, cs, h1, trivial, hR _ _ h4, h3⟩
theorem IsT.inTrue {t : T} {v : Value} (h : IsT w t v) : InT (fun _ => True) w t v := InT.mono (fun _ _ _ => trivial) (IsT.inT h)
end

end Go.Proofs.Ytnblndmjjokepaa
