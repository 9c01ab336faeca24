/- SubstNormal: a normal form of a clause is that of the document, for every input whose reading is of bulk at most 1048576, the law answers true, panics nowhere, and leaves what it was given as it was. -/
import Derived.Test.YtgechlgdnnpoeaaNBa
import Derived.WalkKit
import Derived.ProofKit
import Derived.JoinedCond
import Derived.OpenShut
import Derived.Test.YtgechlgdnnpoeaaNBb
import Derived.Test.YtgechlgdnnpoeaaNBl

/- Rows of things of several cells, how they lie in memory. -/
namespace Go.Proofs.Ytgechlgdnnpoeaa
open Go.RowKit

/-- The row at 'a' holds the things 'l', 'k' cells each. -/
def IsRow {α : Type} (w : World) (k : Nat) (R : World → α → List Value → Prop) (l : List α) (a : Option Addr) : Prop :=
  ∀ i (hi : i < l.length), ∃ (b o : Nat) (cs : List Value), a = some ⟨b, o, none⟩ ∧ cs.length = k ∧ (∀ j, j < k → w.cell? ⟨b, o + i * k + j, none⟩ = cs[j]?) ∧ R w l[i] cs

theorem IsRow.keep {α : Type} {w w' : World} {k : Nat} {R : World → α → List Value → Prop} {l : List α} {a : Option Addr} (h : IsRow w k R l a) (hb : Below w.heap.size w w') (hR : ∀ x cs, R w x cs → R w' x cs) : IsRow w' k R l a := by
  intro i hi
  obtain ⟨b, o, cs, h1, h2, h3, h4⟩ := h i hi
  refine ⟨b, o, cs, h1, h2, fun j hj => ?_, hR _ _ h4⟩
  have := h3 j hj
  rw [List.getElem?_eq_getElem (by omega)] at this ⊢
  exact bkeeps hb _ _ this

section
variable {H : Type} {enc : TypeId × Value → H} {P : Program} {w : World} {base : Nat} {spare : Nat → Bool} {held : Bool}

/-- A slice opened: its things, one by one. -/
theorem open_row {α : Type} [Inhabited α] {t e : TypeId} {k : Nat} {fuel : Nat} {cs : List Value} {x : DataW H × List MemPlace} (ht : P.underlying t = some (.slice e)) (hC : P.cellsOf e = k) (hk : 0 < k)
    (h : DataW.trod enc P w base spare held fuel t cs = some x) {R : World → α → List Value → Prop} {S : α → DataW H → Prop}
    (hel : ∀ n cs x, DataW.trod enc P w base spare held n e cs = some x → ∃ a : α, R w a cs ∧ S a x.1) :
    ∃ (l : List α) (a : Option Addr) (cap : Nat) (ds sp : List (DataW H)), cs = [.slice a l.length cap] ∧ l.length ≤ cap ∧ cap ≤ maxLen ∧ IsRow w k R l a ∧ ds.length = l.length ∧ (x.1 = .nil ∧ l = [] ∧ ds = [] ∨ x.1 = .slice ds sp) ∧
      ∀ i (hi : i < l.length) (hd : i < ds.length), S l[i] ds[i] := by
  rcases DataW.trod_slice ht h with ⟨rfl, rfl⟩ | ⟨a, len, cap, elems, rest, m, rfl, rfl, rfl, hb, hlc, hcm, hlen, hat, _, _⟩
  · exact ⟨[], none, 0, [], [], rfl, Nat.le_refl _, Nat.zero_le _, fun i hi => absurd hi (by simp), rfl, .inl ⟨rfl, rfl, rfl⟩, fun i hi => absurd hi (by simp)⟩
  · have hspot : 0 < len → ∃ b o, a = ⟨b, o, none⟩ := by
      intro h0
      have hk := hat 0 h0
      rw [hC, List.getElem?_eq_getElem (by omega)] at hk
      obtain ⟨cs', h1, _⟩ := Option.bind_eq_some_iff.1 hk
      obtain ⟨_, hl', hcell⟩ := World.cells?_some h1
      have c0 := hcell 0 (by omega)
      rw [List.getElem?_eq_getElem (by omega)] at c0
      have := World.cell?_spot c0
      obtain ⟨b, o, spot⟩ := a
      exact ⟨b, o, by simpa [Addr.add] using this⟩
    have key : ∀ i, i < len → ∃ t : α, (∃ (b o : Nat) (cs : List Value), some a = some ⟨b, o, none⟩ ∧ cs.length = k ∧ (∀ j, j < k → w.cell? ⟨b, o + i * k + j, none⟩ = cs[j]?) ∧ R w t cs) ∧
        ∀ (hd : i < elems.length), S t elems[i].1 := by
      intro i hi
      have hk := hat i hi
      rw [hC, List.getElem?_eq_getElem (by omega)] at hk
      obtain ⟨cs', h1, h2⟩ := Option.bind_eq_some_iff.1 hk
      obtain ⟨t, hR, hS⟩ := hel _ _ _ h2
      obtain ⟨_, hl', hcell⟩ := World.cells?_some h1
      obtain ⟨b, o, rfl⟩ := hspot (by omega)
      refine ⟨t, ⟨b, o, cs', rfl, hl', fun j hj => ?_, hR⟩, fun _ => hS⟩
      have := hcell j hj
      rwa [add_plain2, add_plain2] at this
    obtain ⟨F, hF⟩ := Go.Deep.choose_lt key
    have hLL : ((List.range len).map F).length = len := by simp
    refine ⟨(List.range len).map F, some a, cap, elems.map (·.1), rest.map (·.1), by rw [hLL], by rw [hLL]; exact hlc, hcm, fun i hi => ?_, by rw [hLL]; simpa using hlen, .inr rfl, fun i hi hd => ?_⟩
    · have := (hF i (by simpa using hi)).1
      simpa using this
    · have := (hF i (by simpa using hi)).2 (by simpa using hd)
      simpa using this
end


end Go.Proofs.Ytgechlgdnnpoeaa

/- What a law's statement asks behind its call, where the call answers true and leaves all that was there as it was. -/
namespace Go.Proofs.Ytgechlgdnnpoeaa
open Go.ChangeShapes Go.WideShapes Go.ChangeAt Go.RowKit

section
variable {H : Type} {enc : TypeId × Value → H} {P : Program}

theorem trodAll_below (hl : laidOutB P = true) {W W' : World} (hb : Below W.heap.size W W') : ∀ {ts : List TypeId} {vs : List Value} {ds : List (DataW H)} {ps : List MemPlace},
    (∀ t ∈ ts, P.readableRec t = true ∧ t < P.types.size) → (∀ x ∈ ps, x.block < W.heap.size) → DataW.TrodAll enc P W 0 (fun _ => true) true ts vs ds ps →
    DataW.TrodAll enc P W' 0 (fun b => decide (b < W.heap.size)) true ts vs ds ps
  | [], [], [], _, _, _, h => h
  | t :: ts, v :: vs, d :: ds, ps, hr, hlt, ⟨p, q, h1, h2, e⟩ => by
    subst e
    exact ⟨p, q, Below.trod hl (hr t (by simp)).1 (hr t (by simp)).2 h1 hb (fun x hx => hlt x (by simp [hx])), trodAll_below hl hb (fun t ht => hr t (by simp [ht])) (fun x hx => hlt x (by simp [hx])) h2, rfl⟩
  | [], _ :: _, _, _, _, _, h => h.elim
  | [], [], _ :: _, _, _, _, h => h.elim
  | _ :: _, [], _, _, _, _, h => h.elim
  | _ :: _, _ :: _, [], _, _, _, h => h.elim

theorem law_post {f : Func} {s : ChangeSpec} {W W' : World} {args : Array Value} {ds gs : List (DataW H)} {before : List MemPlace} {tb : TypeId} (hl : laidOutB P = true) (hr : ∀ t ∈ f.params.toList, P.readableRec t = true ∧ t < P.types.size)
    (htb : P.underlying tb = some .bool) (hrt : f.resultTypes = #[tb]) (hv : s.vars = []) (hs : s.fn H ds = { results := [.lit (.bool true)], args := ds })
    (hW : DataW.Whole enc P f.params.toList s.vars false W args.toList ds gs before) (hb : Below W.heap.size W W') : s.post enc P f false true false false W args (.bool true) W' := by
  have hlt : ∀ p ∈ before, p.block < W.heap.size := fun p hp => hW.lt p hp
  have hW0 := hW
  obtain ⟨p, q, hA, hV, hpq, _, _⟩ := hW
  rw [hv] at hV
  obtain ⟨rfl, rfl⟩ := trodVars_none hV
  refine ⟨ds, [], before, [], p, [], hW0, ?_, ?_, ?_, hb.frame _, fun h => by cases h⟩
  · rw [List.append_nil, hs, hrt]
    exact trodAll_cons_mk (shut_bool htb _) trodAll_mk0
  · rw [List.append_nil, hs]
    refine trodAll_below hl hb hr (fun x hx => hlt x ?_) hA
    rw [hpq]; simp [hx]
  · rw [List.append_nil, hv]
    have : (s.fn H ds).vars = [] := by rw [hs]
    rw [this]
    rfl
end

end Go.Proofs.Ytgechlgdnnpoeaa

/- Arguments of a law, opened: terms, integers, truth values; rows in general. -/
namespace Go.Proofs.Ytgechlgdnnpoeaa
open Go.ChangeShapes Go.WideShapes Go.ChangeAt Go.RowKit

theorem own : ownKnob Try.prog.godebug = none := by kernel_rfl

theorem one_le_bulk {H : Type} (d : DataW H) : 1 ≤ Rows.uptoBulk d := by
  cases d with
  | lit l => cases l <;> simp [Rows.uptoBulk]
  | _ => simp [Rows.uptoBulk]
theorem len_le_bulk {H : Type} (ds : List (DataW H)) : ds.length ≤ Rows.uptoBulkAll ds := by
  induction ds with
  | nil => simp
  | cons d r ih => have := one_le_bulk d; simp only [List.length_cons, Rows.uptoBulkAll]; omega
theorem readable_all {P : Program} {ts : List TypeId} (h : (ts.all fun t => P.readableRec t && Nat.blt t P.types.size) = true) : ∀ t ∈ ts, P.readableRec t = true ∧ t < P.types.size := by
  intro t ht
  have := List.all_eq_true.1 h t ht
  simp only [Bool.and_eq_true, Nat.blt_eq] at this
  exact this
theorem bulk_mem {H : Type} {l : List (DataW H)} (hk : Rows.uptoSmall H l = true) {d : DataW H} (h : d ∈ l) : Rows.uptoBulk d ≤ 1048576 :=
  Nat.le_trans (bulkAll_le h) (of_decide_eq_true hk)

section
variable {H : Type} {enc : TypeId × Value → H} {w : World} {base : Nat} {spare : Nat → Bool} {held : Bool}
set_option maxRecDepth 100000 in
theorem arg_T {r : Reach} {b : Nat} {v : Value} {d : DataW H} {p : List MemPlace} (h : Value.okWide Try.prog w r b 32 v) (ht : DataW.Trod enc Try.prog w base spare held 32 v d p) :
    ∃ t : T, IsT w t v ∧ t.size ≤ Rows.uptoBulk d := by
  obtain ⟨cs, rfl, _⟩ := okWide_struct Try.underlying32 h
  obtain ⟨fuel, hf⟩ := ht
  obtain ⟨t, u, v, e, h1, h2⟩ := open_T _ _ _ hf
  have e' : cs = #[u, v] := by
    apply Array.toList_inj.1
    exact e
  subst e'
  exact ⟨t, h1, h2⟩
set_option maxRecDepth 100000 in
theorem arg_int {r : Reach} {b : Nat} {v : Value} {d : DataW H} {p : List MemPlace} (h : Value.okWide Try.prog w r b 3 v) (ht : DataW.Trod enc Try.prog w base spare held 3 v d p) :
    ∃ n : Int, v = .int .i64 n ∧ I64 n := by
  obtain ⟨n, rfl⟩ := okWide_int Try.underlying3 h
  obtain ⟨fuel, hf⟩ := ht
  obtain ⟨m, e, _, wf⟩ := DataW.trod_int Try.underlying3 hf
  have e' : (.int .i64 n : Value) = .int .i64 m := by simpa [Value.cells] using e
  simp only [Value.int.injEq, true_and] at e'
  exact ⟨n, rfl, by rw [e']; exact i64_wf wf⟩

theorem bulk_at {H : Type} : ∀ {ds : List (DataW H)} {d : DataW H}, d ∈ ds → Rows.uptoBulk d ≤ Rows.uptoBulkAll ds
  | [], _, h => nomatch h
  | x :: r, d, h => by
    rw [Rows.uptoBulkAll]
    rcases List.mem_cons.1 h with rfl | h
    · omega
    · have := bulk_at h; omega
/-- A row that was opened, as the rows of elements have it. -/
theorem inRow_of {α : Type} {E : Elt α} {R : World → α → List Value → Prop} {l : List α} {a : Option Addr} (hR : ∀ x cs, R w x cs → E.In (fun _ => True) w x cs) (h : IsRow w E.k R l a) : InRow E (fun _ => True) w l a := fun i hi => by
  obtain ⟨b, o, cs, h1, _, h3, h4⟩ := h i hi
  exact ⟨b, o, cs, h1, trivial, hR _ _ h4, h3⟩
theorem IsT.inTrue {t : T} {v : Value} (h : IsT w t v) : InT (fun _ => True) w t v := InT.mono (fun _ _ _ => trivial) (IsT.inT h)
end

end Go.Proofs.Ytgechlgdnnpoeaa

/- Arguments of a law, opened: literals, clauses. -/
namespace Go.Proofs.Ytgechlgdnnpoeaa
open Go.ChangeShapes Go.WideShapes Go.ChangeAt Go.RowKit

section
variable {H : Type} {enc : TypeId × Value → H} {w : World} {base : Nat} {spare : Nat → Bool} {held : Bool}
def IsLiC (w : World) (x : Li) (cs : List Value) : Prop := eltL.In (fun _ => True) w x cs
set_option maxRecDepth 100000 in
theorem open_Li (fuel : Nat) (cs : List Value) (x : DataW H × List MemPlace) (h : DataW.trod enc Try.prog w base spare held fuel 44 cs = some x) :
    ∃ y : Li, IsLiC w y cs ∧ 1 + y.size ≤ Rows.uptoBulk x.1 := by
  have hC : Try.prog.cellsOf 44 = 5 := by kernel_rfl
  have hC4 : Try.prog.cellsOf 4 = 1 := by kernel_rfl
  have hC32 : Try.prog.cellsOf 32 = 2 := by kernel_rfl
  obtain ⟨xs, n, rfl, rfl, hl, hlen, hf⟩ := DataW.trod_struct Try.underlying44 h
  rw [hC] at hl
  match xs, hlen, cs, hl with
  | [y0, y1, y2], _, [c0, c1, c2, c3, c4], _ =>
    have g0 : DataW.trod enc Try.prog w base spare held n 4 [c0] = some y0 := by simpa [hC4] using hf 0 _ rfl
    have g1 : DataW.trod enc Try.prog w base spare held n 32 [c1, c2] = some y1 := by simpa [hC32] using hf 1 _ rfl
    have g2 : DataW.trod enc Try.prog w base spare held n 32 [c3, c4] = some y2 := by simpa [hC32] using hf 2 _ rfl
    obtain ⟨b, e0, rfl⟩ := DataW.trod_bool Try.underlying4 g0
    simp only [List.cons.injEq, and_true] at e0
    subst e0
    obtain ⟨t1, u1, u2, e1, h1, s1⟩ := open_T _ _ _ g1
    obtain ⟨t2, u3, u4, e2, h2, s2⟩ := open_T _ _ _ g2
    simp only [List.cons.injEq, and_true] at e1 e2
    obtain ⟨rfl, rfl⟩ := e1
    obtain ⟨rfl, rfl⟩ := e2
    exact ⟨⟨b, t1, t2⟩, ⟨_, _, _, _, rfl, h1.inTrue, h2.inTrue⟩, by simp only [List.map_cons, List.map_nil, Rows.uptoBulk, Rows.uptoBulkAll, Li.size]; omega⟩
set_option maxRecDepth 100000 in
theorem arg_Cl {r : Reach} {b : Nat} {v : Value} {d : DataW H} {p : List MemPlace} (h : Value.okWide Try.prog w r b 42 v) (ht : DataW.Trod enc Try.prog w base spare held 42 v d p) (hk : Rows.uptoBulk d ≤ 1048576) :
    ∃ (l : List Li) (a : Option Addr) (c : Nat), v = .slice a l.length c ∧ IsCl w l a c ∧ l.length ≤ 1048576 ∧ ∀ x ∈ l, x.size ≤ 1048576 := by
  obtain ⟨a, n, c, rfl⟩ := okWide_slice Try.underlying42 h
  obtain ⟨fuel, hf⟩ := ht
  obtain ⟨l, a', c', ds, sp, e, h1, h2, h3, h4, h5, h6⟩ := open_row Try.underlying42 (k := 5) (by kernel_rfl) (by omega) hf (R := IsLiC) (S := fun y d => 1 + y.size ≤ Rows.uptoBulk d) (fun n cs x hx => open_Li n cs x hx)
  have e' : Value.slice a n c = .slice a' l.length c' := by simpa [Value.cells] using e
  have hlen : l.length ≤ 1048576 := by
    rcases h5 with ⟨_, rfl, _⟩ | e
    · simp
    · have := len_le_bulk ds
      have e2 : d = .slice ds sp := e
      rw [e2] at hk; simp only [Rows.uptoBulk] at hk; omega
  have hsz : ∀ x ∈ l, x.size ≤ 1048576 := fun x hx => by
    obtain ⟨i, hi, rfl⟩ := List.getElem_of_mem hx
    have hs := h6 i hi (by omega)
    rcases h5 with ⟨_, rfl, _⟩ | e
    · simp at hi
    · have := bulk_at (List.getElem_mem (show i < ds.length by omega))
      have e2 : d = .slice ds sp := e
      rw [e2] at hk; simp only [Rows.uptoBulk] at hk; omega
  exact ⟨l, a', c', e', ⟨inRow_of (E := eltL) (fun _ _ h => h) h3, h1, h2, by omega, fun x hx => by have := hsz x hx; unfold Li.size at this; omega, fun x hx => by have := hsz x hx; unfold Li.size at this; omega⟩, hlen, hsz⟩
end

end Go.Proofs.Ytgechlgdnnpoeaa

namespace Go.Proofs.Ytgechlgdnnpoeaa
open Go.RowKit Go.ChangeShapes Go.WideShapes Go.ChangeAt

set_option maxRecDepth 100000 in
theorem substNormal_contract (H : Type) (enc : TypeId × Value → H) (W : World) (base : Nat) (args : Array Value) (ds gs : List (DataW H)) (before : List MemPlace)
    (hval : ∀ (j : Nat) t v, Try.f6.params[j]? = some t → args[j]? = some v → Value.okWide Try.prog W .any base t v)
    (hW : DataW.Whole enc Try.prog Try.f6.params.toList Rows.substNormalSpec.vars false W args.toList ds gs before) (hk : Rows.uptoSmall H (ds ++ gs) = true) :
    Calls Try.prog 6 args W fun e W' => ∃ v, e = .returned v ∧ Rows.substNormalSpec.post enc Try.prog Try.f6 false true false false W args v W' := by
  have hW' := hW
  obtain ⟨p, q, hA0, hV, rfl, hfz, hnd⟩ := hW
  have hA : DataW.TrodAll enc Try.prog W 0 (fun _ => true) true Try.f6.params.toList args.toList ds p := hA0
  rw [Try.params6] at hA hval
  obtain ⟨v0, vs0, d0, ds0, p0, q0, hargs, rfl, rfl, h0, r0⟩ := trodAll_cons hA
  obtain ⟨rfl, rfl, rfl⟩ := trodAll_nil r0
  obtain rfl : args = #[v0] := by cases args; simp_all
  have b0 := bulk_mem hk (d := d0) (by simp)
  obtain ⟨x0, a0, c0, rfl, y0, k0, z0⟩ := arg_Cl (hval 0 42 v0 rfl rfl) h0 b0
  refine (normal_law x0 W a0 c0 y0).mono fun e W' ⟨v, he, hv, hg⟩ => ?_
  subst he hv
  exact ⟨_, rfl, law_post (by kernel_rfl) (readable_all (by kernel_rfl)) Try.underlying4 rfl rfl rfl hW' hg⟩

set_option maxRecDepth 100000 in
theorem substNormal_lifted (os : Os) (started : os.Started) (H : Type) (enc : TypeId × Value → H) (F : Stop.Interp) :
    ReturnsInHanded {} Try.checked os 6 .any ((Rows.OpenSpec.upto Rows.substNormalSpec).pre6 enc Try.prog Try.f6 Rows.substNormalUptoRow.domain false) (((Rows.OpenSpec.upto Rows.substNormalSpec).at F).post enc Try.prog Try.f6 false true false false) := by
  refine returnsInHanded_of_cond (C := Try.checked) (s := Rows.OpenSpec.upto Rows.substNormalSpec) (k := Rows.uptoSmall) rfl own started (by kernel_rfl) Try.func6
    (OpenSpec.witness (enc := enc) (C := Try.checked) (s := Rows.OpenSpec.upto Rows.substNormalSpec) (k := Rows.uptoSmall) rfl false ⟨#[], #[.slice none 0 0], []⟩ 8 (by kernel_rfl) (by kernel_rfl) (by kernel_rfl)
      (x := ([.nil], [], [])) (by kernel_rfl) rfl (by kernel_rfl)) ?_
  intro W base args ds gs before hval hW _ hk _
  exact substNormal_contract H enc W base args ds gs before hval hW hk

theorem substNormal_proved : Rows.SubstNormalUptoSaid :=
  OpenClaim.holds_of_cond 6 Try.f6 rfl rfl rfl rfl rfl rfl rfl ⟨rfl, rfl, rfl, rfl, rfl⟩ rfl rfl rfl rfl rfl (by kernel_rfl) Try.func6 (by kernel_rfl)
    (of_decide_eq_true (by kernel_rfl)) (by unfold Func.isWrapper; first | (rw [if_pos (by decide +kernel)]; kernel_rfl) | (rw [if_neg (by decide +kernel)]; exact ⟨rfl, rfl⟩))
    (fun os started H enc _ F => substNormal_lifted os started H enc F)

end Go.Proofs.Ytgechlgdnnpoeaa
