/- Arguments of a law, opened: signatures, rows of terms. -/
import Derived.Test.YtbohlpfndiiimaaBKSa
import Derived.WalkKit
import Derived.ProofKit
import Derived.JoinedCond
import Derived.OpenShut
import Derived.Test.YtbohlpfndiiimaaBKSd
import Derived.Test.YtbohlpfndiiimaaBKSe

/- What a law's statement asks behind its call, where the call answers true and leaves all that was there as it was. -/
namespace Go.Proofs.Ytbohlpfndiiimaa
open Go.ChangeShapes Go.WideShapes Go.ChangeAt Go.RowKit
section
variable {H : Type} {enc : TypeId × Value → H} {P : Program}
theorem trodAll_below (hl : laidOutB P = true) {W W' : World} (hb : Below W.heap.size W W') : ∀ {ts : List TypeId} {vs : List Value} {ds : List (DataW H)} {ps : List MemPlace},
    (∀ t ∈ ts, P.readableRec t = true ∧ t < P.types.size) → (∀ x ∈ ps, x.block < W.heap.size) → DataW.TrodAll enc P W 0 (fun _ => true) true ts vs ds ps →
    DataW.TrodAll enc P W' 0 (fun b => decide (b < W.heap.size)) true ts vs ds ps
  | [], [], [], _, _, _, h => h
  | t :: ts, v :: vs, d :: ds, ps, hr, hlt, ⟨p, q, h1, h2, e⟩ => by
    subst e
    exact ⟨p, q, Below.trod hl (hr t (by simp)).1 (hr t (by simp)).2 h1 hb (fun x hx => hlt x (by simp [hx])), trodAll_below hl hb (fun t ht => hr t (by simp [ht])) (fun x hx => hlt x (by simp [hx])) h2, rfl⟩
  | [], _ :: _, _, _, _, _, h => h.elim
  | [], [], _ :: _, _, _, _, h => h.elim
  | _ :: _, [], _, _, _, _, h => h.elim
  | _ :: _, _ :: _, [], _, _, _, h => h.elim
theorem law_post {f : Func} {s : ChangeSpec} {W W' : World} {args : Array Value} {ds gs : List (DataW H)} {before : List MemPlace} {tb : TypeId} (hl : laidOutB P = true) (hr : ∀ t ∈ f.params.toList, P.readableRec t = true ∧ t < P.types.size)
    (htb : P.underlying tb = some .bool) (hrt : f.resultTypes = #[tb]) (hv : s.vars = []) (hs : s.fn H ds = { results := [.lit (.bool true)], args := ds })
    (hW : DataW.Whole enc P f.params.toList s.vars false W args.toList ds gs before) (hb : Below W.heap.size W W') : s.post enc P f false true false false W args (.bool true) W' := by
  have hlt : ∀ p ∈ before, p.block < W.heap.size := fun p hp => hW.lt p hp
  have hW0 := hW
  obtain ⟨p, q, hA, hV, hpq, _, _⟩ := hW
  rw [hv] at hV
  obtain ⟨rfl, rfl⟩ := trodVars_none hV
  refine ⟨ds, [], before, [], p, [], hW0, ?_, ?_, ?_, hb.frame _, fun h => by cases h⟩
  · rw [List.append_nil, hs, hrt]
    exact trodAll_cons_mk (shut_bool htb _) trodAll_mk0
  · rw [List.append_nil, hs]
    refine trodAll_below hl hb hr (fun x hx => hlt x ?_) hA
    rw [hpq]; simp [hx]
  · rw [List.append_nil, hv]
    have : (s.fn H ds).vars = [] := by rw [hs]
    rw [this]
    rfl
end
end Go.Proofs.Ytbohlpfndiiimaa

/- Arguments of a law, opened: terms, integers, truth values; rows in general. -/
namespace Go.Proofs.Ytbohlpfndiiimaa
open Go.ChangeShapes Go.WideShapes Go.ChangeAt Go.RowKit
theorem own : ownKnob Try.prog.godebug = none := by kernel_rfl
theorem one_le_bulk {H : Type} (d : DataW H) : 1 ≤ Rows.uptoBulk d := by
  cases d with
  | lit l => cases l <;> simp [Rows.uptoBulk]
  | _ => simp [Rows.uptoBulk]
theorem len_le_bulk {H : Type} (ds : List (DataW H)) : ds.length ≤ Rows.uptoBulkAll ds := by
  induction ds with
  | nil => simp
  | cons d r ih => have := one_le_bulk d; simp only [List.length_cons, Rows.uptoBulkAll]; omega
theorem readable_all {P : Program} {ts : List TypeId} (h : (ts.all fun t => P.readableRec t && Nat.blt t P.types.size) = true) : ∀ t ∈ ts, P.readableRec t = true ∧ t < P.types.size := by
  intro t ht
  have := List.all_eq_true.1 h t ht
  simp only [Bool.and_eq_true, Nat.blt_eq] at this
  exact this
theorem bulk_mem {H : Type} {l : List (DataW H)} (hk : Rows.uptoSmall H l = true) {d : DataW H} (h : d ∈ l) : Rows.uptoBulk d ≤ 1048576 :=
  Nat.le_trans (bulkAll_le h) (of_decide_eq_true hk)
section
variable {H : Type} {enc : TypeId × Value → H} {w : World} {base : Nat} {spare : Nat → Bool} {held : Bool}
end
end Go.Proofs.Ytbohlpfndiiimaa

namespace Go.Proofs.Ytbohlpfndiiimaa
open Go.ChangeShapes Go.WideShapes Go.ChangeAt Go.RowKit
local instance : Inhabited T := ⟨.mk 0 []⟩
section
variable {H : Type} {enc : TypeId × Value → H} {w : World} {base : Nat} {spare : Nat → Bool} {held : Bool}
set_option maxRecDepth 100000 in
theorem open_SysN (fuel : Nat) (cs : List Value) (x : DataW H × List MemPlace) (h : DataW.trod enc Try.prog w base spare held fuel 22 cs = some x) :
    ∃ (l : List Sy) (a : Option Addr) (cap : Nat), cs = [.slice a l.length cap] ∧ l.length ≤ cap ∧ cap ≤ maxLen ∧ IsSys w l a ∧ l.length ≤ Rows.uptoBulk x.1 := by
  obtain ⟨l, a, cap, ds, sp, rfl, h1, h2, h3, h4, h5, _⟩ := open_row Try.underlying22 (k := 3) (by kernel_rfl) (by omega) h (R := IsSy) (S := fun _ _ => True) (fun n cs x hx => by
    obtain ⟨y, hy⟩ := open_Sy _ _ _ hx
    exact ⟨y, hy, trivial⟩)
  refine ⟨l, a, cap, rfl, h1, h2, h3, ?_⟩
  rcases h5 with ⟨_, rfl, _⟩ | e
  · simp
  · have := len_le_bulk ds
    rw [e]; simp only [Rows.uptoBulk]; omega
set_option maxRecDepth 100000 in
theorem arg_Sig {r : Reach} {b : Nat} {v : Value} {d : DataW H} {p : List MemPlace} (h : Value.okWide Try.prog w r b 24 v) (ht : DataW.Trod enc Try.prog w base spare held 24 v d p) :
    ∃ l : List Sy, IsSig w l v ∧ l.length ≤ Rows.uptoBulk d := by
  have hC : Try.prog.cellsOf 24 = 1 := by kernel_rfl
  have hC1 : Try.prog.cellsOf 22 = 1 := by kernel_rfl
  obtain ⟨cs, rfl, _⟩ := okWide_struct Try.underlying24 h
  obtain ⟨fuel, hf⟩ := ht
  obtain ⟨xs, n, rfl, hx, hl, hlen, hf⟩ := DataW.trod_struct Try.underlying24 hf
  rw [hC] at hl
  match xs, hlen, hx with
  | [y0], _, hx =>
    have hl' : cs.toList.length = 1 := hl
    match e : cs.toList, hl' with
    | [c0], _ =>
      have hcs : cs = #[c0] := by apply Array.toList_inj.1; exact e
      subst hcs
      have g0 : DataW.trod enc Try.prog w base spare held n 22 [c0] = some y0 := by simpa [hC1, Value.cells] using hf 0 _ rfl
      obtain ⟨l, a, cap, e, h1, h2, h3, h4⟩ := open_SysN _ _ _ g0
      simp only [List.cons.injEq, and_true] at e
      subst e
      refine ⟨l, ⟨a, cap, rfl, h1, h2, h3⟩, ?_⟩
      have hd : d = .agg [y0.1] := congrArg Prod.fst hx
      rw [hd]; simp only [Rows.uptoBulk, Rows.uptoBulkAll]; omega
set_option maxRecDepth 100000 in
theorem open_Ts (fuel : Nat) (cs : List Value) (x : DataW H × List MemPlace) (h : DataW.trod enc Try.prog w base spare held fuel 25 cs = some x) :
    ∃ (l : List T) (a : Option Addr) (c : Nat), cs = [.slice a l.length c] ∧ l.length ≤ c ∧ c ≤ maxLen ∧ IsTs w l a 0 ∧ T.sizeL l ≤ Rows.uptoBulk x.1 := by
  obtain ⟨l, a, c, ds, sp, rfl, h1, h2, h3, h4, h5, h6⟩ := open_row Try.underlying25 (k := 2) (by kernel_rfl) (by omega) h (R := fun w t cs => ∃ u v, cs = [u, v] ∧ IsT w t (.agg #[u, v])) (S := fun t d => t.size ≤ Rows.uptoBulk d) (fun n cs x hx => by
    obtain ⟨t, u, v, h1, h2, h3⟩ := open_T _ _ _ hx
    exact ⟨t, ⟨u, v, h1, h2⟩, h3⟩)
  refine ⟨l, a, c, rfl, h1, h2, IsTs.of_at fun k hk => ?_, ?_⟩
  · obtain ⟨b, o, cs, e1, _, e3, u, v, rfl, e4⟩ := h3 k hk
    have c0 := e3 0 (by omega)
    have c1 := e3 1 (by omega)
    simp only [List.getElem?_cons_zero, List.getElem?_cons_succ, Nat.add_zero] at c0 c1
    exact ⟨b, o, u, v, e1, (by first | exact c0 | simpa using c0), (by first | exact c1 | simpa using c1), e4⟩
  · have := sizeL_le_bulk h4.symm h6
    rcases h5 with ⟨_, rfl, _⟩ | e
    · simp [T.sizeL]
    · rw [e]
      simp only [Rows.uptoBulk]
      omega
set_option maxRecDepth 100000 in
theorem arg_Ts {r : Reach} {b : Nat} {v : Value} {d : DataW H} {p : List MemPlace} (h : Value.okWide Try.prog w r b 25 v) (ht : DataW.Trod enc Try.prog w base spare held 25 v d p) :
    ∃ (l : List T) (a : Option Addr) (c : Nat), v = .slice a l.length c ∧ l.length ≤ c ∧ c ≤ maxLen ∧ IsTs w l a 0 ∧ T.sizeL l ≤ Rows.uptoBulk d := by
  obtain ⟨a, n, c, rfl⟩ := okWide_slice Try.underlying25 h
  obtain ⟨fuel, hf⟩ := ht
  obtain ⟨l, a', c', e, h1, h2, h3, h4⟩ := open_Ts _ _ _ hf
  have e' : Value.slice a n c = .slice a' l.length c' := by simpa [Value.cells] using e
  exact ⟨l, a', c', e', h1, h2, h3, h4⟩
end
end Go.Proofs.Ytbohlpfndiiimaa
