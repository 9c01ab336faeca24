/- Arguments of a law, opened: rows of symbols, signatures, integers; their lengths lie within the bulk. -/
import Derived.Test.YtbnjppmmhhjjbaaDoorSig
import Derived.Test.YtbnjppmmhhjjbaaDoorLaw
import Derived.WalkKit
import Derived.ProofKit
import Derived.JoinedCond
import Derived.OpenShut
namespace Go.Proofs.YtbnjppmmhhjjbaaDoor
open Go.ChangeShapes Go.WideShapes Go.ChangeAt Go.RowKit

theorem own : ownKnob Tryd.prog.godebug = none := by kernel_rfl

theorem one_le_bulk {H : Type} (d : DataW H) : 1 ≤ Rows.uptoBulk d := by
  cases d with
  | lit l => cases l <;> simp [Rows.uptoBulk]
  | _ => simp [Rows.uptoBulk]
theorem len_le_bulk {H : Type} (ds : List (DataW H)) : ds.length ≤ Rows.uptoBulkAll ds := by
  induction ds with
  | nil => simp
  | cons d r ih => have := one_le_bulk d; simp only [List.length_cons, Rows.uptoBulkAll]; omega

theorem readable_all {P : Program} {ts : List TypeId} (h : (ts.all fun t => P.readableRec t && Nat.blt t P.types.size) = true) : ∀ t ∈ ts, P.readableRec t = true ∧ t < P.types.size := by
  intro t ht
  have := List.all_eq_true.1 h t ht
  simp only [Bool.and_eq_true, Nat.blt_eq] at this
  exact this

theorem bulk_mem {H : Type} {l : List (DataW H)} (hk : Rows.uptoSmall H l = true) {d : DataW H} (h : d ∈ l) : Rows.uptoBulk d ≤ 1048576 :=
  Nat.le_trans (bulkAll_le h) (of_decide_eq_true hk)

section
variable {H : Type} {enc : TypeId × Value → H} {w : World} {base : Nat} {spare : Nat → Bool} {held : Bool}

theorem open_SysN (fuel : Nat) (cs : List Value) (x : DataW H × List MemPlace) (h : DataW.trod enc Tryd.prog w base spare held fuel 22 cs = some x) :
    ∃ (l : List Sy) (a : Option Addr) (cap : Nat), cs = [.slice a l.length cap] ∧ l.length ≤ cap ∧ cap ≤ maxLen ∧ IsSys w l a ∧ l.length ≤ Rows.uptoBulk x.1 := by
  obtain ⟨l, a, cap, ds, sp, rfl, h1, h2, h3, h4, h5, _⟩ := open_row Tryd.underlying22 (k := 3) (by kernel_rfl) (by omega) h (R := IsSy) (S := fun _ _ => True) (fun n cs x hx => by
    obtain ⟨y, hy⟩ := open_Sy _ _ _ hx
    exact ⟨y, hy, trivial⟩)
  refine ⟨l, a, cap, rfl, h1, h2, h3, ?_⟩
  rcases h5 with ⟨_, rfl, _⟩ | e
  · simp
  · have := len_le_bulk ds
    rw [e]; simp only [Rows.uptoBulk]; omega

theorem arg_Sys {r : Reach} {b : Nat} {v : Value} {d : DataW H} {p : List MemPlace} (h : Value.okWide Tryd.prog w r b 22 v) (ht : DataW.Trod enc Tryd.prog w base spare held 22 v d p) :
    ∃ (l : List Sy) (a : Option Addr) (c : Nat), v = .slice a l.length c ∧ l.length ≤ c ∧ c ≤ maxLen ∧ IsSys w l a ∧ l.length ≤ Rows.uptoBulk d := by
  obtain ⟨a, n, c, rfl⟩ := okWide_slice Tryd.underlying22 h
  obtain ⟨fuel, hf⟩ := ht
  obtain ⟨l, a', c', e, h1, h2, h3, h4⟩ := open_SysN _ _ _ hf
  have e' : Value.slice a n c = .slice a' l.length c' := by simpa [Value.cells] using e
  exact ⟨l, a', c', e', h1, h2, h3, h4⟩

theorem arg_Sig {r : Reach} {b : Nat} {v : Value} {d : DataW H} {p : List MemPlace} (h : Value.okWide Tryd.prog w r b 24 v) (ht : DataW.Trod enc Tryd.prog w base spare held 24 v d p) :
    ∃ l : List Sy, IsSig w l v ∧ l.length ≤ Rows.uptoBulk d := by
  have hC : Tryd.prog.cellsOf 24 = 1 := by kernel_rfl
  have hC1 : Tryd.prog.cellsOf 22 = 1 := by kernel_rfl
  obtain ⟨cs, rfl, _⟩ := okWide_struct Tryd.underlying24 h
  obtain ⟨fuel, hf⟩ := ht
  obtain ⟨xs, n, rfl, hx, hl, hlen, hf⟩ := DataW.trod_struct Tryd.underlying24 hf
  rw [hC] at hl
  match xs, hlen, hx with
  | [y0], _, hx =>
    have hl' : cs.toList.length = 1 := hl
    match e : cs.toList, hl' with
    | [c0], _ =>
      have hcs : cs = #[c0] := by apply Array.toList_inj.1; exact e
      subst hcs
      have g0 : DataW.trod enc Tryd.prog w base spare held n 22 [c0] = some y0 := by simpa [hC1, Value.cells] using hf 0 _ rfl
      obtain ⟨l, a, cap, e, h1, h2, h3, h4⟩ := open_SysN _ _ _ g0
      simp only [List.cons.injEq, and_true] at e
      subst e
      refine ⟨l, ⟨a, cap, rfl, h1, h2, h3⟩, ?_⟩
      have hd : d = .agg [y0.1] := congrArg Prod.fst hx
      rw [hd]; simp only [Rows.uptoBulk, Rows.uptoBulkAll]; omega

theorem arg_int {r : Reach} {b : Nat} {v : Value} {d : DataW H} {p : List MemPlace} (h : Value.okWide Tryd.prog w r b 3 v) (ht : DataW.Trod enc Tryd.prog w base spare held 3 v d p) :
    ∃ n : Int, v = .int .i64 n ∧ I64 n := by
  obtain ⟨n, rfl⟩ := okWide_int Tryd.underlying3 h
  obtain ⟨fuel, hf⟩ := ht
  obtain ⟨m, e, _, wf⟩ := DataW.trod_int Tryd.underlying3 hf
  have e' : (.int .i64 n : Value) = .int .i64 m := by simpa [Value.cells] using e
  simp only [Value.int.injEq, true_and] at e'
  exact ⟨n, rfl, by rw [e']; exact i64_wf wf⟩
end

end Go.Proofs.YtbnjppmmhhjjbaaDoor
