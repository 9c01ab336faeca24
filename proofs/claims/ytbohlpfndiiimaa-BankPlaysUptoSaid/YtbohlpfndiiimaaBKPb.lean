/- Is a number in a row: slices.Contains. -/
import Derived.Test.YtbohlpfndiiimaaBKPa
import Derived.Laws.IdiomStrings
import Derived.Laws.MakeOwn
import Derived.WalkKit

/- Banks of terms, plain: entries by numbers; a term put, found, told back. -/
namespace Go.Proofs.Ytbohlpfndiiimaa
set_option linter.unusedVariables false
set_option linter.unusedSimpArgs false
/-- An entry: a symbol (or a variable), its arguments' numbers. -/
structure En where
  fn : Int
  args : List Nat
deriving DecidableEq
instance : Inhabited En := ⟨⟨0, []⟩⟩
def eget (N : List En) (i : Nat) : En := N.getD i default
theorem eget_lt {N : List En} {i : Nat} (h : i < N.length) : eget N i = N[i] := by simp [eget, h]
theorem eget_mem {N : List En} {i : Nat} (h : i < N.length) : eget N i ∈ N := by rw [eget_lt h]; exact List.getElem_mem h
theorem eget_app {N M : List En} {i : Nat} (h : i < N.length) : eget (N ++ M) i = eget N i := by
  unfold eget; rw [List.getD_eq_getElem?_getD, List.getD_eq_getElem?_getD, List.getElem?_append_left h]
theorem eget_new {N : List En} {x : En} : eget (N ++ [x]) N.length = x := by
  unfold eget; rw [List.getD_eq_getElem?_getD, List.getElem?_append_right (Nat.le_refl _)]; simp
/-- An entry's number. -/
def idxE : List En → En → Option Nat
  | [], _ => none
  | y :: r, x => if y = x then some 0 else (idxE r x).map (· + 1)
theorem idxE_some : ∀ {N : List En} {x : En} {n : Nat}, idxE N x = some n → n < N.length ∧ eget N n = x
  | y :: r, x, n, h => by
    rw [idxE] at h
    by_cases c : y = x
    · rw [if_pos c] at h
      cases h
      exact ⟨by simp, by rw [eget_lt (by simp)]; exact c⟩
    · rw [if_neg c] at h
      obtain ⟨m, hm, rfl⟩ := Option.map_eq_some_iff.1 h
      obtain ⟨h1, h2⟩ := idxE_some hm
      refine ⟨by simp; omega, ?_⟩
      rw [eget_lt (by simp; omega)]
      rw [eget_lt h1] at h2
      simpa using h2
theorem idxE_none : ∀ {N : List En} {x : En}, idxE N x = none → x ∉ N
  | [], x, _ => by simp
  | y :: r, x, h => by
    rw [idxE] at h
    by_cases c : y = x
    · rw [if_pos c] at h; cases h
    · rw [if_neg c] at h
      have := idxE_none (Option.map_eq_none_iff.1 h)
      intro q
      rcases List.mem_cons.1 q with q | q
      · exact c q.symm
      · exact this q
/-- A bank that may be: arguments come ahead; no entry is there twice. -/
structure BOk (N : List En) : Prop where
  args : ∀ i, i < N.length → ∀ a ∈ (eget N i).args, a < i
  one : ∀ i j, i < N.length → j < N.length → eget N i = eget N j → i = j
theorem BOk.nil : BOk [] := ⟨fun i h => by simp at h, fun i j h => by simp at h⟩
theorem BOk.idx {N : List En} (h : BOk N) {i : Nat} (hi : i < N.length) : idxE N (eget N i) = some i := by
  cases hq : idxE N (eget N i) with
  | none => exact absurd (eget_mem hi) (idxE_none hq)
  | some n =>
    obtain ⟨h1, h2⟩ := idxE_some hq
    rw [h.one n i h1 hi h2]
theorem BOk.snoc {N : List En} (h : BOk N) {x : En} (hx : ∀ a ∈ x.args, a < N.length) (hn : idxE N x = none) : BOk (N ++ [x]) := by
  have hl : (N ++ [x]).length = N.length + 1 := by simp
  refine ⟨fun i hi => ?_, fun i j hi hj e => ?_⟩
  · rw [hl] at hi
    by_cases c : i < N.length
    · rw [eget_app c]; exact h.args i c
    · obtain rfl : i = N.length := by omega
      rw [eget_new]; exact hx
  · rw [hl] at hi hj
    by_cases c : i < N.length
    · by_cases d : j < N.length
      · rw [eget_app c, eget_app d] at e; exact h.one i j c d e
      · obtain rfl : j = N.length := by omega
        rw [eget_app c, eget_new] at e
        exact absurd (e ▸ eget_mem c) (idxE_none hn)
    · obtain rfl : i = N.length := by omega
      by_cases d : j < N.length
      · rw [eget_app d, eget_new] at e
        exact absurd (e.symm ▸ eget_mem d) (idxE_none hn)
      · omega
def addE (N : List En) (x : En) : List En × Nat := match idxE N x with
  | some n => (N, n)
  | none => (N ++ [x], N.length)
mutual
def T.bput : T → List En → List En × Nat
  | .mk f l, N => addE (T.bputL l N).1 ⟨f, (T.bputL l N).2⟩
def T.bputL : List T → List En → List En × List Nat
  | [], N => (N, [])
  | t :: r, N => ((T.bputL r (t.bput N).1).1, (t.bput N).2 :: (T.bputL r (t.bput N).1).2)
end
theorem bputL_snoc (t : T) : ∀ (l : List T) (N : List En), T.bputL (l ++ [t]) N = ((t.bput (T.bputL l N).1).1, (T.bputL l N).2 ++ [(t.bput (T.bputL l N).1).2])
  | [], N => by simp [T.bputL]
  | x :: r, N => by rw [List.cons_append, T.bputL, bputL_snoc t r, T.bputL]; rfl
mutual
def T.bfind : T → List En → Option Nat
  | .mk f l, N => (T.bfindL l N).bind (fun q => idxE N ⟨f, q⟩)
def T.bfindL : List T → List En → Option (List Nat)
  | [], _ => some []
  | t :: r, N => (t.bfind N).bind (fun n => (T.bfindL r N).map (n :: ·))
end
/-- The term with a number. -/
def tmEF (N : List En) : Nat → Nat → T
  | 0, _ => .mk 0 []
  | k + 1, i => .mk (eget N i).fn ((eget N i).args.map (tmEF N k))
def tmE (N : List En) (i : Nat) : T := tmEF N (i + 1) i
theorem mapmem {β : Type} {f g : Nat → β} : ∀ {l : List Nat}, (∀ a ∈ l, f a = g a) → l.map f = l.map g
  | [], _ => rfl
  | x :: r, h => by rw [List.map_cons, List.map_cons, h x (by simp), mapmem (fun a q => h a (List.mem_cons_of_mem _ q))]
theorem tmEF_stable {N : List En} (h : BOk N) : ∀ (n m i : Nat), i < N.length → i < n → i < m → tmEF N n i = tmEF N m i
  | 0, _, _, _, h1, _ => absurd h1 (Nat.not_lt_zero _)
  | _ + 1, 0, _, _, _, h2 => absurd h2 (Nat.not_lt_zero _)
  | n + 1, m + 1, i, hi, h1, h2 => by
    rw [tmEF, tmEF]
    congr 1
    exact mapmem (fun a ha => by have := h.args i hi a ha; exact tmEF_stable h n m a (by omega) (by omega) (by omega))
theorem tmE_eq {N : List En} (h : BOk N) {i : Nat} (hi : i < N.length) : tmE N i = .mk (eget N i).fn ((eget N i).args.map (tmE N)) := by
  unfold tmE; rw [tmEF]
  congr 1
  exact mapmem (fun a ha => by have := h.args i hi a ha; exact tmEF_stable h _ _ a (by omega) (by omega) (by omega))
theorem tmEF_app {N M : List En} (h : BOk N) : ∀ (n i : Nat), i < N.length → tmEF (N ++ M) n i = tmEF N n i
  | 0, _, _ => rfl
  | n + 1, i, hi => by
    rw [tmEF, tmEF, eget_app hi]
    congr 1
    exact mapmem (fun a ha => by have := h.args i hi a ha; exact tmEF_app h n a (by omega))
theorem tmE_app {N M : List En} (h : BOk N) {i : Nat} (hi : i < N.length) : tmE (N ++ M) i = tmE N i := tmEF_app h _ _ hi
mutual
theorem bfind_some {N : List En} (h : BOk N) : ∀ {t : T} {n : Nat}, t.bfind N = some n → n < N.length ∧ tmE N n = t
  | .mk f l, n, e => by
    rw [T.bfind] at e
    obtain ⟨q, h1, h2⟩ := Option.bind_eq_some_iff.1 e
    obtain ⟨h3, h4⟩ := idxE_some h2
    obtain ⟨h5, h6⟩ := bfindL_some h h1
    refine ⟨h3, ?_⟩
    rw [tmE_eq h h3, h4]
    show T.mk f (q.map (tmE N)) = _
    rw [h6]
theorem bfindL_some {N : List En} (h : BOk N) : ∀ {l : List T} {q : List Nat}, T.bfindL l N = some q → (∀ a ∈ q, a < N.length) ∧ q.map (tmE N) = l
  | [], q, e => by rw [T.bfindL] at e; cases e; exact ⟨fun a ha => by simp at ha, rfl⟩
  | t :: r, q, e => by
    rw [T.bfindL] at e
    obtain ⟨n, h1, h2⟩ := Option.bind_eq_some_iff.1 e
    obtain ⟨q', h3, rfl⟩ := Option.map_eq_some_iff.1 h2
    obtain ⟨k1, k2⟩ := bfind_some h h1
    obtain ⟨k3, k4⟩ := bfindL_some h h3
    refine ⟨fun a ha => ?_, by rw [List.map_cons, k2, k4]⟩
    rcases List.mem_cons.1 ha with rfl | ha
    · exact k1
    · exact k3 a ha
end
mutual
theorem bfind_tm {N : List En} (h : BOk N) : ∀ {t : T} {n : Nat}, n < N.length → tmE N n = t → t.bfind N = some n
  | .mk f l, n, hn, e => by
    rw [tmE_eq h hn] at e
    obtain ⟨e1, e2⟩ := T.mk.inj e
    rw [T.bfind, bfindL_tm h (fun a ha => by have := h.args n hn a ha; omega) e2, Option.bind_some]
    have : (⟨f, (eget N n).args⟩ : En) = eget N n := by cases hx : eget N n; rw [hx] at e1; simp only at e1 ⊢; rw [e1]
    rw [this, h.idx hn]
theorem bfindL_tm {N : List En} (h : BOk N) : ∀ {l : List T} {q : List Nat}, (∀ a ∈ q, a < N.length) → q.map (tmE N) = l → T.bfindL l N = some q
  | [], [], _, _ => by rw [T.bfindL]
  | [], _ :: _, _, e => by simp at e
  | _ :: _, [], _, e => by simp at e
  | t :: r, n :: q, hq, e => by
    rw [List.map_cons] at e
    obtain ⟨e1, e2⟩ := List.cons.inj e
    rw [T.bfindL, bfind_tm h (hq n (by simp)) e1, Option.bind_some, bfindL_tm h (fun a ha => hq a (List.mem_cons_of_mem _ ha)) e2, Option.map_some]
end
/-- What putting in leaves. -/
structure BPut (N N' : List En) : Prop where
  ok : BOk N'
  ext : ∃ M, N' = N ++ M
theorem BPut.refl {N : List En} (h : BOk N) : BPut N N := ⟨h, [], by simp⟩
theorem BPut.trans {N N2 N3 : List En} (h : BPut N N2) (k : BPut N2 N3) : BPut N N3 := by
  obtain ⟨M, e⟩ := h.ext
  obtain ⟨M2, e2⟩ := k.ext
  exact ⟨k.ok, M ++ M2, by rw [e2, e, List.append_assoc]⟩
theorem BPut.le {N N' : List En} (h : BPut N N') : N.length ≤ N'.length := by obtain ⟨M, e⟩ := h.ext; rw [e, List.length_append]; omega
theorem BPut.tm {N N' : List En} (h0 : BOk N) (h : BPut N N') {i : Nat} (hi : i < N.length) : tmE N' i = tmE N i := by obtain ⟨M, e⟩ := h.ext; rw [e, tmE_app h0 hi]
theorem addE_ok {N : List En} {x : En} (h : BOk N) (hx : ∀ a ∈ x.args, a < N.length) : BPut N (addE N x).1 ∧ (addE N x).2 < (addE N x).1.length ∧ eget (addE N x).1 (addE N x).2 = x ∧ (addE N x).1.length ≤ N.length + 1 := by
  unfold addE
  cases hq : idxE N x with
  | some n =>
    obtain ⟨h1, h2⟩ := idxE_some hq
    exact ⟨.refl h, h1, h2, by (try dsimp only); omega⟩
  | none => exact ⟨⟨h.snoc hx hq, [x], rfl⟩, by simp, eget_new, by simp⟩
mutual
theorem bput_ok : ∀ (t : T) (N : List En), BOk N → BPut N (t.bput N).1 ∧ (t.bput N).2 < (t.bput N).1.length ∧ tmE (t.bput N).1 (t.bput N).2 = t ∧ (t.bput N).1.length ≤ N.length + t.size
  | .mk f l, N, h => by
    rw [T.bput]
    obtain ⟨h1, h2, h3, h4⟩ := bputL_ok l N h
    obtain ⟨k1, k2, k3, k4⟩ := addE_ok (x := ⟨f, (T.bputL l N).2⟩) h1.ok h2
    refine ⟨h1.trans k1, k2, ?_, by rw [T.size]; omega⟩
    rw [tmE_eq k1.ok k2, k3]
    show T.mk f ((T.bputL l N).2.map (tmE (addE (T.bputL l N).1 ⟨f, (T.bputL l N).2⟩).1)) = _
    rw [mapmem (fun a ha => k1.tm h1.ok (h2 a ha))]
    exact congrArg (T.mk f) h3
theorem bputL_ok : ∀ (l : List T) (N : List En), BOk N → BPut N (T.bputL l N).1 ∧ (∀ a ∈ (T.bputL l N).2, a < (T.bputL l N).1.length) ∧ (T.bputL l N).2.map (tmE (T.bputL l N).1) = l ∧ (T.bputL l N).1.length ≤ N.length + T.sizeL l
  | [], N, h => by rw [T.bputL]; exact ⟨.refl h, fun a ha => by simp at ha, rfl, by simp [T.sizeL]⟩
  | t :: r, N, h => by
    obtain ⟨h1, h2, h3, h4⟩ := bput_ok t N h
    obtain ⟨k1, k2, k3, k4⟩ := bputL_ok r _ h1.ok
    rw [T.bputL]
    refine ⟨h1.trans k1, fun a ha => ?_, ?_, by rw [T.sizeL]; (try dsimp only); omega⟩
    · rcases List.mem_cons.1 ha with rfl | ha
      · exact Nat.lt_of_lt_of_le h2 k1.le
      · exact k2 a ha
    · show ((t.bput N).2 :: (T.bputL r (t.bput N).1).2).map (tmE (T.bputL r (t.bput N).1).1) = _
      rw [List.map_cons, k3, k1.tm h1.ok h2, h3]
end
/-- Of which an entry is an argument. -/
def usersE (N : List En) (i : Nat) : List Nat := (List.range N.length).filter (fun j => decide (i ∈ (eget N j).args))
theorem usersE_snoc {N : List En} {x : En} (i : Nat) : usersE (N ++ [x]) i = usersE N i ++ (if i ∈ x.args then [N.length] else []) := by
  unfold usersE
  rw [List.length_append, List.length_singleton, List.range_succ, List.filter_append]
  congr 1
  · refine List.filter_congr (fun j hj => ?_)
    rw [eget_app (List.mem_range.1 hj)]
  · rw [List.filter_cons, eget_new]
    by_cases c : i ∈ x.args
    · rw [if_pos c]; simp [c]
    · rw [if_neg c]; simp [c]
mutual
def T.gnd : T → Bool
  | .mk f l => decide (0 ≤ f) && T.gndL l
def T.gndL : List T → Bool
  | [] => true
  | t :: r => t.gnd && T.gndL r
end
theorem gndL_snoc (t : T) : ∀ l : List T, T.gndL (l ++ [t]) = (T.gndL l && t.gnd)
  | [] => by simp [T.gndL]
  | x :: r => by rw [List.cons_append, T.gndL, gndL_snoc t r, T.gndL, Bool.and_assoc]
end Go.Proofs.Ytbohlpfndiiimaa

/- Texts of numbers; keys that bear them; maps from such keys to numbers. -/
namespace Go.Proofs.Ytbohlpfndiiimaa
open Go.RowKit Go
set_option linter.unusedVariables false
set_option linter.unusedSimpArgs false
/-- The eight bytes of a number, the least first. -/
def b8 (n : Nat) : List UInt8 := (List.range 8).map (fun i => UInt8.ofNat (n / 2 ^ (8 * i)))
def kbs (l : List Nat) : List UInt8 := l.flatMap b8
def kba (l : List Nat) : ByteArray := ⟨(kbs l).toArray⟩
theorem b8_len (n : Nat) : (b8 n).length = 8 := by simp [b8]
theorem kbs_len : ∀ l : List Nat, (kbs l).length = 8 * l.length
  | [] => rfl
  | n :: r => by unfold kbs; rw [List.flatMap_cons, List.length_append, b8_len]; have := kbs_len r; unfold kbs at this; rw [this, List.length_cons]; omega
theorem b8_take {n k : Nat} (h : k < 8) : (b8 n).take (k + 1) = (b8 n).take k ++ [UInt8.ofNat (n / 2 ^ (8 * k))] := by
  rw [List.take_succ_eq_append_getElem (by rw [b8_len]; exact h)]
  simp [b8]
theorem kbs_snoc (l : List Nat) (n : Nat) : kbs (l ++ [n]) = kbs l ++ b8 n := by unfold kbs; rw [List.flatMap_append]; simp
theorem b8_inj {n m : Nat} (hn : n < 2 ^ 64) (hm : m < 2 ^ 64) (h : b8 n = b8 m) : n = m := by
  have key : ∀ i, i < 8 → n / 2 ^ (8 * i) % 256 = m / 2 ^ (8 * i) % 256 := fun i hi => by
    have e := congrArg (fun x => x[i]?) h
    simp only [b8, List.getElem?_map, List.getElem?_range hi, Option.map_some, Option.some.injEq] at e
    have e2 := congrArg UInt8.toNat e
    simpa using e2
  have k0 := key 0 (by omega)
  have k1 := key 1 (by omega)
  have k2 := key 2 (by omega)
  have k3 := key 3 (by omega)
  have k4 := key 4 (by omega)
  have k5 := key 5 (by omega)
  have k6 := key 6 (by omega)
  have k7 := key 7 (by omega)
  simp only [Nat.reduceMul, Nat.reducePow, Nat.pow_zero, Nat.mul_zero, Nat.div_one] at k0 k1 k2 k3 k4 k5 k6 k7 hn hm
  omega
theorem kbs_inj : ∀ {l m : List Nat}, (∀ a ∈ l, a < 2 ^ 64) → (∀ a ∈ m, a < 2 ^ 64) → kbs l = kbs m → l = m
  | [], [], _, _, _ => rfl
  | [], n :: r, _, _, h => by have := congrArg List.length h; rw [kbs_len, kbs_len] at this; simp at this
  | n :: r, [], _, _, h => by have := congrArg List.length h; rw [kbs_len, kbs_len] at this; simp at this
  | n :: r, m :: q, h1, h2, h => by
    unfold kbs at h
    rw [List.flatMap_cons, List.flatMap_cons] at h
    obtain ⟨e1, e2⟩ := List.append_inj h (by rw [b8_len, b8_len])
    rw [b8_inj (h1 n (by simp)) (h2 m (by simp)) e1, kbs_inj (fun a ha => h1 a (List.mem_cons_of_mem _ ha)) (fun a ha => h2 a (List.mem_cons_of_mem _ ha)) e2]
theorem kba_inj {l m : List Nat} (h1 : ∀ a ∈ l, a < 2 ^ 64) (h2 : ∀ a ∈ m, a < 2 ^ 64) (h : kba l = kba m) : l = m := by
  refine kbs_inj h1 h2 ?_
  unfold kba at h
  have := congrArg ByteArray.data h
  simpa using this
/-- A key. -/
def keyV (x : En) : Value := .agg #[.int .i64 x.fn, .string (kba x.args)]
def EnOk (x : En) : Prop := ∀ a ∈ x.args, a < 2 ^ 64
theorem keyV_inj {x y : En} (hx : EnOk x) (hy : EnOk y) (h : x.fn = y.fn ∧ kba x.args = kba y.args) : x = y := by
  cases x; cases y
  simp only at h
  obtain ⟨rfl, h2⟩ := h
  exact congrArg (En.mk _) (kba_inj hx hy h2)
/-! ### Bytes, as elements -/
def eltU : Elt UInt8 where
  k := 1
  In := fun _ _ x cs => cs = [.int .u8 (x.toNat : Int)]
  keep := fun _ h => h
  mono := fun _ h => h
  len := fun h => by rw [h]; rfl
  one := fun h v hv => by rw [h] at hv; simp at hv; subst hv; rfl
section
variable {P : Program} {w w' : World} {a : Act} {K : Act → World → Prop} {Q : Exit → Act → World → Prop} {o : Oper} {t e : TypeId}
/-- 'make([]T, 0, n)'. -/
theorem wp_mk0 {α : Type} {E : Elt α} {x y : Operand} {n size bytes : Nat} {z : Value} (hk : E.k = size) (ht : P.underlying t = some (.slice e)) (hinfo : (P.info? e).map (fun i => (i.zero, i.size, i.bytes)) = some (some z, size, bytes)) (ho : o.op = .makeSlice t x y) (hx : a.eval x = .int .i64 0) (hy : a.eval y = .int .i64 (n : Int)) (hb : bytes * n ≤ 281474976710656) (hn : n ≤ maxLen)
    (hK : ∀ w', RowD E (fun _ => False) w' e (some ⟨w.heap.size, 0, none⟩) n 0 [] → Below w.heap.size w w' → w'.heap.size = w'.heap.size → K (a.put o.dst (.slice (some ⟨w.heap.size, 0, none⟩) 0 n)) w') : o.wp P a w K Q := by
  obtain ⟨i, hi, hz0, hz1, hz2⟩ := info_parts hinfo
  obtain ⟨w', hrun, r1, r2⟩ := run_make_own (P := P) (w := w) 0 t e i z size ht hi hz0 hz1 .i64 .i64 n (by rw [hz2]; exact hb) hn (Nat.zero_le _)
  unfold Oper.wp execOp
  simp only [ho, hx, hy, Sem.run_bind, Sem.run_pure, hrun, Result.andThen_ok]
  exact hK w' ⟨⟨[], by rw [hk]; exact r1, rfl⟩, rfl, fun _ h => h.elim⟩ ⟨r2.os, r2.tape, r2.output, r2.size, fun k hk => r2.block k hk (by simp)⟩ rfl
theorem wp_cvt {x : Operand} {k k' : IntKind} {s : TypeId} {n : Int} (hs0 : (P.underlying s).isSome = true) (ht : P.underlying t = some (.int k)) (ho : o.op = .convert s t x) (hx : a.eval x = .int k' n) (hK : K (a.put o.dst (.int k (k.wrap n))) w) : o.wp P a w K Q := by
  obtain ⟨u, hs⟩ := Option.isSome_iff_exists.1 hs0
  unfold Oper.wp execOp
  simp only [ho, hx, Go.convert, Sem.run_bind, run_underlying hs, run_underlying ht, Result.andThen_ok, Conv.intToInt, Sem.run_pure]
  exact hK
theorem wp_shr {x y : Operand} {k k' : IntKind} {m : Nat} {n : Int} {s : TypeId} (ho : o.op = .binOp .shr t x y s) (hx : a.eval x = .int k n) (hy : a.eval y = .int k' (m : Int)) (hm : m ≤ k.bits) (hK : K (a.put o.dst (.int k (n.fdiv (2 ^ m)))) w) : o.wp P a w K Q := by
  have h0 : ¬ ((m : Int) < 0) := by omega
  have h1 : min ((m : Int)).toNat k.bits = m := by simp; omega
  unfold Oper.wp execOp
  simp only [ho, hx, hy, Go.binOp, Go.Op.shift, if_neg h0, h1, Sem.run_bind, Sem.run_pure, Result.andThen_ok, eqGuard]
  go_simp
  exact hK
theorem wp_b2s {x : Operand} {s : TypeId} {ra : Option Addr} {rc n : Nat} {l : List UInt8} (hs : P.underlying s = some (.slice e)) (he : P.underlying e = some (.int .u8)) (ht : P.underlying t = some .string) (ho : o.op = .convert s t x) (hx : a.eval x = .slice ra n rc) (hra : ra ≠ none) (hR : RowD eltU (fun _ => False) w e ra rc n l) (hK : K (a.put o.dst (.string ⟨l.toArray⟩)) w) : o.wp P a w K Q := by
  obtain ⟨hi, _, _⟩ := hR.inRow
  have hn := hR.len
  subst hn
  match ra, hra with
  | some q, _ =>
    have hc : ∀ j (hj : j < l.length), w.cell? (q.add j) = some (.int .u8 (l[j].toNat : Int)) := fun j hj => by
      obtain ⟨b, off, cs, e1, _, e2, e3⟩ := hi j hj
      have e2' : cs = [.int .u8 (l[j].toNat : Int)] := e2
      subst e2'
      have := e3 0 (by decide)
      have e4 := Option.some.inj e1
      subst e4
      have e5 : (⟨b, off, none⟩ : Addr).add j = ⟨b, off + j, none⟩ := by
        unfold Addr.add
        by_cases c : j = 0
        · subst c; simp
        · simp [c]
      rw [e5]
      simpa [eltU] using this
    have hr := run_convert_bytes_back (P := P) w s t e q rc l hs he ht hc
    unfold Oper.wp execOp
    simp only [ho, hx, Sem.run_bind, hr, Result.andThen_ok]
    exact hK
end
theorem u64_id {n : Nat} (h : n < 18446744073709551616) : IntKind.wrap .u64 ((n : Nat) : Int) = (n : Int) := by
  simp [IntKind.wrap, IntKind.signed, IntKind.bits]
  omega
theorem u8_of {n : Nat} : IntKind.wrap .u8 ((n : Nat) : Int) = (((UInt8.ofNat n).toNat : Nat) : Int) := by
  simp [IntKind.wrap, IntKind.signed, IntKind.bits]
theorem fdiv_pow (n k : Nat) : Int.fdiv ((n : Nat) : Int) (2 ^ k) = ((n / 2 ^ k : Nat) : Int) := by
  have e : (2 : Int) ^ k = ((2 ^ k : Nat) : Int) := by simp
  rw [e, Int.fdiv_eq_ediv_of_nonneg _ (Int.natCast_nonneg _)]
  exact (Int.natCast_ediv n (2 ^ k)).symm
end Go.Proofs.Ytbohlpfndiiimaa

/- Maps from keys to numbers: the entries of a bank. -/
namespace Go.Proofs.Ytbohlpfndiiimaa
open Go.RowKit Go
set_option linter.unusedVariables false
set_option linter.unusedSimpArgs false
theorem bytes_ext2 {n m : ByteArray} (h : n.toList = m.toList) : n = m := by
  rw [ByteArray.toList_eq, ByteArray.toList_eq] at h
  exact ByteArray.ext (Array.toList_inj.1 h)
theorem eqKey (n m : ByteArray) (a b : Int) (w : World) : (binOp .eql 77 (.agg #[.int .i64 a, .string n]) (.agg #[.int .i64 b, .string m])).run Try.prog w = .ok (.bool (decide (a = b ∧ n = m))) w := by
  have hS : Try.prog.underlying 77 = some (.struct (Try.prog.fieldsOf 77)) := by kernel_rfl
  have hp : Try.prog.stoodInHeld 77 = false := by kernel_rfl
  have u1 := Try.underlying9
  have u2 := Try.underlying3
  rw [run_eql_struct, show (10000 : Nat) = 9999 + 1 from rfl, run_equalIn_agg w 9999 77 _ _ hS hp]
  simp only [Program.fieldsOf, Try.underlying77]
  go_simp
  have hn : ¬ n = m → ¬ n.toList = m.toList := fun h e => h (bytes_ext2 e)
  by_cases h1 : n = m <;> by_cases h2 : a = b <;> simp_all
theorem run_equal_key (x y : En) (w : World) : (Op.equal 77 (keyV x) (keyV y)).run Try.prog w = .ok (decide (x.fn = y.fn ∧ kba x.args = kba y.args)) w := by
  have h := eqKey (kba x.args) (kba y.args) x.fn y.fn w
  have e : (binOp .eql 77 (keyV x) (keyV y)).run Try.prog w = ((Op.equal 77 (keyV x) (keyV y)).run Try.prog w).andThen fun b w' => .ok (.bool b) w' := by
    simp [binOp, keyV]
  unfold keyV at *
  rw [e] at h
  cases hr : (Op.equal 77 (.agg #[.int .i64 x.fn, .string (kba x.args)]) (.agg #[.int .i64 y.fn, .string (kba y.args)])).run Try.prog w with
  | ok b w' =>
    rw [hr] at h
    simp only [Result.andThen_ok, Result.ok.injEq, Value.bool.injEq] at h ⊢
    exact h
  | halt z w' => rw [hr] at h; simp [Result.andThen] at h
set_option maxRecDepth 20000 in
theorem run_checkKey_key (b : Bool) (x : En) (w : World) : (Instr.checkKey b 10000 77 (keyV x)).run Try.prog w = .ok () w := by
  have u0 := Try.underlying77
  have u1 := Try.underlying9
  have u2 := Try.underlying3
  rw [show (10000 : Nat) = 9998 + 1 + 1 from rfl]
  generalize (9998 : Nat) = n
  unfold keyV
  simp [Instr.checkKey, run_underlying u0, run_underlying u1, run_underlying u2, go_sem]
/-- The map's entries: the bank's entries' keys, with their numbers. -/
structure MapK (w : World) (r : Nat) (N : List En) : Prop where
  at_ : ∃ es clock, w.heap[r]? = some (.map es clock) ∧ es.toList.map (fun e => (e.key, e.val)) = (N.zipIdx).map (fun p => (keyV p.1, Value.int .i64 (p.2 : Nat)))
  ok : ∀ y ∈ N, EnOk y
theorem run_findAsking_key {x : En} (hx : EnOk x) (w : World) : ∀ (es : List MapEntry) (N : List En) (i j : Nat), es.map (fun e => (e.key, e.val)) = (N.zipIdx j).map (fun p => (keyV p.1, Value.int .i64 (p.2 : Nat))) → (∀ y ∈ N, EnOk y) →
    (Instr.findAsking 77 (keyV x) es i).run Try.prog w = .ok ((idxE N x).map (fun n => (i + n, Value.int .i64 ((j + n : Nat) : Int)))) w
  | [], N, i, j, h, _ => by
    have : N = [] := by
      have := congrArg List.length h
      simp at this
      exact List.eq_nil_of_length_eq_zero this.symm
    subst this
    simp [Instr.findAsking, idxE]
  | e :: es, [], i, j, h, _ => by simp at h
  | e :: es, y :: N, i, j, h, hN => by
    rw [List.zipIdx_cons, List.map_cons, List.map_cons] at h
    simp only [List.cons.injEq, Prod.mk.injEq] at h
    obtain ⟨⟨hk, hv⟩, h⟩ := h
    unfold Instr.findAsking
    simp only [Sem.run_bind, hk, run_equal_key, Result.andThen_ok]
    rw [idxE]
    by_cases hxy : y = x
    · subst hxy
      rw [decide_eq_true ⟨rfl, rfl⟩, if_pos rfl]
      simp [hv]
    · rw [decide_eq_false (fun q => hxy (keyV_inj (hN y (by simp)) hx ⟨q.1.symm, q.2.symm⟩)), if_neg hxy]
      have hr := run_findAsking_key hx w es N (i + 1) (j + 1) h (fun z hz => hN z (List.mem_cons_of_mem _ hz))
      simp only [Bool.false_eq_true, if_false]
      rw [hr, Option.map_map]
      congr 2
      funext n
      simp only [Function.comp]
      rw [show i + 1 + n = i + (n + 1) by omega, show j + 1 + n = j + (n + 1) by omega]
theorem run_findKey_key {x : En} (hx : EnOk x) (w : World) (es : List MapEntry) (N : List En) (h : es.map (fun e => (e.key, e.val)) = (N.zipIdx).map (fun p => (keyV p.1, Value.int .i64 (p.2 : Nat)))) (hN : ∀ y ∈ N, EnOk y) :
    (Instr.findKey 77 (keyV x) es).run Try.prog w = .ok ((idxE N x).map (fun n => (n, Value.int .i64 (n : Nat)))) w := by
  have u0 := Try.underlying77
  cases es with
  | nil =>
    have : N = [] := by
      have := congrArg List.length h
      simp at this
      exact List.eq_nil_of_length_eq_zero this.symm
    subst this
    simp [Instr.findKey, run_underlying u0, Instr.findNow, idxE]
  | cons e es =>
    have hs : Instr.findNow (.struct (Try.prog.fieldsOf 77)) (keyV x) (e :: es) 0 = none := by
      simp [Instr.findNow, Instr.sameNow]
    have hU : Try.prog.underlying 77 = some (.struct (Try.prog.fieldsOf 77)) := by kernel_rfl
    have hr := run_findAsking_key hx w (e :: es) N 0 0 h hN
    simp only [Nat.zero_add] at hr
    unfold Instr.findKey
    simp only [Sem.run_bind, run_underlying hU, Result.andThen_ok, hs]
    exact hr
section
variable {w w' : World} {a : Act} {K : Act → World → Prop} {Q : Exit → Act → World → Prop} {o : Oper} {N : List En} {r : Nat}
theorem wp_lookup_key {x y : Operand} {z : En} (hz : EnOk z) (ho : o.op = .lookup 67 x y true) (hx : a.eval x = .map (some r)) (hy : a.eval y = keyV z) (hM : MapK w r N)
    (hK : K (a.put o.dst (.tuple #[.int .i64 (((idxE N z).getD 0 : Nat) : Int), .bool (idxE N z).isSome])) w) : o.wp Try.prog a w K Q := by
  obtain ⟨⟨es, clock, h1, h2⟩, h3⟩ := hM
  have h4 := run_findKey_key hz w es.toList N h2 h3
  have um := Try.underlying67
  have hg : (getObj r).run Try.prog w = .ok (.map es clock) w := by simp [getObj, Sem.run, h1]
  have hi : (Try.prog.info? 3).map (fun i => i.zero) = some (some (.int .i64 0)) := by kernel_rfl
  unfold Oper.wp execOp
  simp only [ho, hx, hy, Instr.lookup, Sem.run_bind, Sem.run_pure, run_underlying um, Result.andThen_ok, hg, run_checkKey_key, h4]
  cases hq : idxE N z with
  | some n =>
    rw [hq] at hK
    simp
    exact hK
  | none =>
    rw [hq] at hK
    go_simp
    exact hK
theorem wp_mapUpdate_key {x y v : Operand} {z : En} (hz : EnOk z) (ho : o.op = .mapUpdate 67 x y v) (hx : a.eval x = .map (some r)) (hy : a.eval y = keyV z) (hv : a.eval v = .int .i64 ((N.length : Nat) : Int)) (hM : MapK w r N) (hn : idxE N z = none)
    (hK : ∀ u w', MapK w' r (N ++ [z]) → Upd r w w' → K (a.put o.dst u) w') : o.wp Try.prog a w K Q := by
  obtain ⟨⟨es, clock, h1, h2⟩, h3⟩ := hM
  have h4 := run_findKey_key hz w es.toList N h2 h3
  rw [hn] at h4
  have um := Try.underlying67
  have hg : (getObj r).run Try.prog w = .ok (.map es clock) w := by simp [getObj, Sem.run, h1]
  have hset : (setObj r (.map (es.push { key := keyV z, val := .int .i64 ((N.length : Nat) : Int), born := clock }) (clock + 1))).run Try.prog w = .ok () { w with heap := w.heap.setIfInBounds r (.map (es.push { key := keyV z, val := .int .i64 ((N.length : Nat) : Int), born := clock }) (clock + 1)) } := by
    simp [setObj, Sem.run, h1]
  have hlt : r < w.heap.size := (Array.getElem?_eq_some_iff.1 h1).1
  have := hK undef { w with heap := w.heap.setIfInBounds r (.map (es.push { key := keyV z, val := .int .i64 ((N.length : Nat) : Int), born := clock }) (clock + 1)) } ⟨⟨es.push { key := keyV z, val := .int .i64 ((N.length : Nat) : Int), born := clock }, clock + 1, by simp [hlt], by
      rw [Array.toList_push, List.map_append, h2, List.zipIdx_append, List.map_append]
      simp⟩, fun q hq => by
        rcases List.mem_append.1 hq with hq | hq
        · exact h3 q hq
        · obtain rfl := List.mem_singleton.1 hq; exact hz⟩ ⟨rfl, rfl, rfl, by simp, fun k hk => by simp [Ne.symm hk]⟩
  unfold Oper.wp execOp
  simp only [ho, hx, hy, hv, Instr.mapUpdate, Sem.run_bind, Sem.run_pure, run_underlying um, Result.andThen_ok, hg, run_checkKey_key, h4, Option.map_none, hset]
  exact this
theorem wp_makeMap_key (ho : o.op = .makeMap 67 none) (hK : ∀ g w', MapK w' g [] → w.heap.size = g → Below w.heap.size w w' → w'.heap.size = g + 1 → K (a.put o.dst (.map (some g))) w') : o.wp Try.prog a w K Q := by
  have := hK w.heap.size (w.alloc (.map #[] 0)) ⟨⟨#[], 0, heap_alloc_new w _, rfl⟩, fun y hy => by simp at hy⟩ rfl (balloc _ _) (by simp)
  unfold Oper.wp execOp
  simp only [ho]
  go_simp
  exact this
theorem MapK.lt (h : MapK w r N) : r < w.heap.size := by
  obtain ⟨⟨es, clock, h1, _⟩, _⟩ := h
  exact (Array.getElem?_eq_some_iff.1 h1).1
theorem MapK.chg {S : Nat → Prop} (h : MapK w r N) (hb : Chg S w w') (hr : ¬ S r) : MapK w' r N := by
  obtain ⟨⟨es, clock, h1, h2⟩, h3⟩ := h
  exact ⟨⟨es, clock, (hb.block r (Array.getElem?_eq_some_iff.1 h1).1 hr).trans h1, h2⟩, h3⟩
theorem MapK.below (h : MapK w r N) (hb : Below w.heap.size w w') : MapK w' r N := h.chg (S := fun _ => False) (.ofBelow hb) id
theorem MapK.neBlk {g t : Nat} {cs : Array Value} (h : MapK w r N) (hB : Blk w g t cs) : g ≠ r := by
  obtain ⟨⟨es, clock, h1, _⟩, _⟩ := h
  rintro rfl
  unfold Blk at hB
  rw [h1] at hB; cases hB
end
end Go.Proofs.Ytbohlpfndiiimaa

/- A bank in memory. -/
namespace Go.Proofs.Ytbohlpfndiiimaa
open Go.RowKit Go
set_option linter.unusedVariables false
set_option linter.unusedSimpArgs false
section
variable {α : Type} {E : Elt α} {S : Nat → Prop} {w w' : World} {a : Option Addr} {c n e : Nat}
theorem Elts.setX {y : α} {v : Value} {t : Nat} (ht : t < E.k) (hE : ∀ x cs, E.In S w x cs → E.In S w x cs) : ∀ {l : List α} {xs : List Value} {i : Nat} (hi : i < l.length), (∀ cs, E.In S w l[i] cs → E.In S w y (cs.set t v)) → Elts E S w l xs → Elts E S w (l.set i y) (xs.set (i * E.k + t) v)
  | [], _, i, hi, _, _ => by simp at hi
  | x :: l, _, 0, hi, h, ⟨cs, r, e, h1, h2⟩ => by
    have hl := E.len h1
    refine ⟨cs.set t v, r, ?_, h cs h1, h2⟩
    rw [e, Nat.zero_mul, Nat.zero_add, List.set_append, if_pos (by omega)]
  | x :: l, _, i + 1, hi, h, ⟨cs, r, e, h1, h2⟩ => by
    have hl := E.len h1
    refine ⟨cs, r.set (i * E.k + t) v, ?_, h1, Elts.setX ht hE (by simpa using hi) (fun cs hc => h cs (by simpa using hc)) h2⟩
    rw [e, List.set_append, if_neg (by rw [hl, Nat.add_mul]; omega), hl]
    congr 2
    rw [Nat.add_mul]; omega
/-- A cell of an element of one's own row is written. -/
theorem RowD.setX {l : List α} (h : RowD E S w e a c n l) {i t : Nat} {v : Value} {y : α} (hi : i < l.length) (ht : t < E.k) (hv : v.oneCell' = true) (hE : ∀ cs, E.In S w l[i] cs → E.In S w y (cs.set t v)) : ∃ b : Nat, a = some ⟨b, 0, none⟩ ∧ obk a n c = some b ∧ (∃ cs, Blk w b e cs ∧ 0 + i * E.k + t < cs.size) ∧ RowD E S (w.setCell ⟨b, 0 + i * E.k + t, none⟩ v) e a c n (l.set i y) := by
  obtain ⟨⟨xs, h1, h2⟩, rfl, h4⟩ := h
  rcases h1.2 with ⟨e1, e2⟩ | ⟨g, cap, cur, e1, _, hb, hc, hm, hs, hx⟩
  · omega
  · have e1' := e1
    simp only [Value.slice.injEq, true_and] at e1'
    obtain ⟨rfl, rfl⟩ := e1'
    have hlx := h2.len
    have hcur : l.length * E.k ≤ cur.size := by rw [hs]; exact Nat.mul_le_mul_right _ hc
    have hpos : i * E.k + t < l.length * E.k := by
      have := Nat.mul_le_mul_right E.k (show i + 1 ≤ l.length by omega)
      rw [Nat.add_mul] at this; omega
    refine ⟨g, rfl, rfl, ⟨cur, hb, by omega⟩, ?_⟩
    rw [Nat.zero_add]
    have hB' := Blk.set_ (show Blk w g e cur from hb) (i * E.k + t) v
    have hu := Upd.at_ w g (i * E.k + t) v
    refine ⟨⟨xs.set (i * E.k + t) v, ⟨?_, .inr ⟨g, c, cur.setIfInBounds (i * E.k + t) v, rfl, Nat.zero_le _, hB', hc, hm, by simpa using hs, ?_⟩⟩, ?_⟩, by simp, h4⟩
    · have := h1.1; simpa using this
    · rw [Array.toList_setIfInBounds, List.take_set, hx]
    · refine Elts.keep (w := w) (fun p x hp hx2 => ?_) (Elts.setX ht (fun _ _ q => q) hi hE h2)
      have hne : p.block ≠ g := fun q => h4 _ hp (by rw [q]; rfl)
      unfold World.cell? at hx2 ⊢
      rw [hu.block _ hne]; exact hx2
end
/-- An entry as it lies in the row. -/
structure Ex where
  en : En
  sz : Nat
  gr : Bool
  ua : Option Addr
  un : Nat
  uc : Nat
instance : Inhabited Ex := ⟨⟨default, 0, false, none, 0, 0⟩⟩
def xget (L : List Ex) (i : Nat) : Ex := L.getD i default
theorem xget_lt {L : List Ex} {i : Nat} (h : i < L.length) : xget L i = L[i] := by simp [xget, h]
theorem xget_app {L M : List Ex} {i : Nat} (h : i < L.length) : xget (L ++ M) i = xget L i := by
  unfold xget; rw [List.getD_eq_getElem?_getD, List.getD_eq_getElem?_getD, List.getElem?_append_left h]
theorem xget_new {L : List Ex} {x : Ex} : xget (L ++ [x]) L.length = x := by
  unfold xget; rw [List.getD_eq_getElem?_getD, List.getElem?_append_right (Nat.le_refl _)]; simp
theorem xget_set {L : List Ex} {i j : Nat} {x : Ex} (h : i < L.length) : xget (L.set i x) j = if j = i then x else xget L j := by
  unfold xget
  rw [List.getD_eq_getElem?_getD, List.getElem?_set]
  by_cases q : i = j
  · subst q; rw [if_pos rfl, if_pos h, if_pos rfl]; rfl
  · rw [if_neg q, if_neg (Ne.symm q), List.getD_eq_getElem?_getD]
def eltX : Elt Ex where
  k := 5
  In := fun S w x cs => ∃ a c, cs = [.int .i64 (x.sz : Int), .bool x.gr, .int .i64 x.en.fn, .slice a x.en.args.length c, .slice x.ua x.un x.uc] ∧ InRow eltN S w x.en.args a
  keep := fun hb ⟨a, c, e, h⟩ => ⟨a, c, e, h.keep hb⟩
  mono := fun hb ⟨a, c, e, h⟩ => ⟨a, c, e, h.mono (by decide) hb⟩
  len := fun ⟨_, _, e, _⟩ => by rw [e]; rfl
  one := fun ⟨_, _, e, _⟩ v hv => by
    rw [e] at hv
    simp only [List.mem_cons, List.not_mem_nil, or_false] at hv
    rcases hv with rfl | rfl | rfl | rfl | rfl <;> rfl
abbrev ens (L : List Ex) : List En := L.map (·.en)
theorem ens_get {L : List Ex} {i : Nat} (h : i < L.length) : eget (ens L) i = (xget L i).en := by
  rw [eget_lt (by simpa using h), xget_lt h]; simp
/-- The bank's parts: its box (which may still tell an elder row), its map, the row of entries, the rows of users (which may lie elsewhere already). -/
structure BK (w : World) (g : Nat) (sg : Value) (S : Nat → Prop) (m : Nat) (bl : Option Addr × Nat × Nat) (la : Option Addr) (lc : Nat) (L : List Ex) (M : List En) (R : Nat → Option Addr × Nat × Nat) (Us : Nat → List Nat) : Prop where
  blk : Blk w g 70 #[sg, .slice bl.1 bl.2.1 bl.2.2, .map (some m)]
  map : MapK w m M
  row : RowD eltX S w 83 la lc L.length L
  us : ∀ i, i < L.length → RowD eltN (fun _ => False) w 3 (R i).1 (R i).2.2 (R i).2.1 (Us i)
  lS : ∀ b, obk la L.length lc = some b → b ≠ g ∧ b ≠ m
  sS : ∀ b, S b → b ≠ g ∧ b ≠ m ∧ b < w.heap.size
  uS : ∀ i, i < L.length → ∀ b, obk (R i).1 (R i).2.1 (R i).2.2 = some b → ¬ S b ∧ b ≠ g ∧ b ≠ m ∧ obk la L.length lc ≠ some b
  uu : ∀ i j, i < L.length → j < L.length → i ≠ j → ∀ b, obk (R i).1 (R i).2.1 (R i).2.2 = some b → obk (R j).1 (R j).2.1 (R j).2.2 ≠ some b
/-- The bank's blocks. -/
def BZ (g m : Nat) (S : Nat → Prop) (la : Option Addr) (lc n : Nat) (R : Nat → Option Addr × Nat × Nat) : Nat → Prop := fun b => b = g ∨ b = m ∨ S b ∨ obk la n lc = some b ∨ ∃ i, i < n ∧ obk (R i).1 (R i).2.1 (R i).2.2 = some b
section
variable {w w' : World} {g m lc : Nat} {sg : Value} {S S2 : Nat → Prop} {bl : Option Addr × Nat × Nat} {la : Option Addr} {L : List Ex} {M : List En} {R : Nat → Option Addr × Nat × Nat} {Us : Nat → List Nat}
theorem BK.gm (h : BK w g sg S m bl la lc L M R Us) : g ≠ m := h.map.neBlk h.blk
theorem BK.lt (h : BK w g sg S m bl la lc L M R Us) : ∀ b, BZ g m S la lc L.length R b → b < w.heap.size := fun b q => by
  rcases q with rfl | rfl | q | q | ⟨i, hi, q⟩
  · exact h.blk.lt
  · exact h.map.lt
  · exact (h.sS b q).2.2
  · exact h.row.lt b q
  · exact (h.us i hi).lt b q
theorem BK.chg {Z : Nat → Prop} (h : BK w g sg S m bl la lc L M R Us) (hc : Chg Z w w') (hZ : ∀ b, BZ g m S la lc L.length R b → ¬ Z b) : BK w' g sg S m bl la lc L M R Us :=
  ⟨chg_blk h.blk hc (hZ _ (.inl rfl)), h.map.chg hc (hZ _ (.inr (.inl rfl))), h.row.chg hc (fun b q => hZ b (.inr (.inr (.inr (.inl q))))) (fun b q => hZ b (.inr (.inr (.inl q)))),
    fun i hi => (h.us i hi).chg hc (fun b q => hZ b (.inr (.inr (.inr (.inr ⟨i, hi, q⟩))))) (fun b q => q.elim), h.lS, fun b q => ⟨(h.sS b q).1, (h.sS b q).2.1, Nat.lt_of_lt_of_le (h.sS b q).2.2 hc.size⟩, h.uS, h.uu⟩
theorem BK.below (h : BK w g sg S m bl la lc L M R Us) (hb : Below w.heap.size w w') : BK w' g sg S m bl la lc L M R Us := h.chg (Z := fun _ => False) (.ofBelow hb) (fun _ _ => id)
theorem BK.c0 (h : BK w g sg S m bl la lc L M R Us) : w.cell? ⟨g, 0, none⟩ = some sg := (h.blk.cell 0).trans rfl
theorem BK.c1 (h : BK w g sg S m bl la lc L M R Us) : w.cell? ⟨g, 1, none⟩ = some (.slice bl.1 bl.2.1 bl.2.2) := (h.blk.cell 1).trans rfl
theorem BK.c2 (h : BK w g sg S m bl la lc L M R Us) : w.cell? ⟨g, 2, none⟩ = some (.map (some m)) := (h.blk.cell 2).trans rfl
/-- The entries' cells. -/
theorem BK.opn (h : BK w g sg S m bl la lc L M R Us) (h0 : 0 < L.length) : ∃ (b : Nat) (A : Nat → Option Addr) (C : Nat → Nat), la = some ⟨b, 0, none⟩ ∧ obk la L.length lc = some b ∧
    ∀ k, k < L.length → w.cell? ⟨b, 0 + k * 5, none⟩ = some (.int .i64 ((xget L k).sz : Int)) ∧ w.cell? ⟨b, 0 + k * 5 + 1, none⟩ = some (.bool (xget L k).gr) ∧ w.cell? ⟨b, 0 + k * 5 + 2, none⟩ = some (.int .i64 (xget L k).en.fn) ∧
      w.cell? ⟨b, 0 + k * 5 + 3, none⟩ = some (.slice (A k) (xget L k).en.args.length (C k)) ∧ w.cell? ⟨b, 0 + k * 5 + 4, none⟩ = some (.slice (xget L k).ua (xget L k).un (xget L k).uc) ∧ InRow eltN S w (xget L k).en.args (A k) := by
  obtain ⟨b, e1, e2, h3⟩ := h.row.opn h0
  have key : ∀ k, k < L.length → ∃ p : Option Addr × Nat, w.cell? ⟨b, 0 + k * 5, none⟩ = some (.int .i64 ((xget L k).sz : Int)) ∧ w.cell? ⟨b, 0 + k * 5 + 1, none⟩ = some (.bool (xget L k).gr) ∧ w.cell? ⟨b, 0 + k * 5 + 2, none⟩ = some (.int .i64 (xget L k).en.fn) ∧
      w.cell? ⟨b, 0 + k * 5 + 3, none⟩ = some (.slice p.1 (xget L k).en.args.length p.2) ∧ w.cell? ⟨b, 0 + k * 5 + 4, none⟩ = some (.slice (xget L k).ua (xget L k).un (xget L k).uc) ∧ InRow eltN S w (xget L k).en.args p.1 := by
    intro k hk
    obtain ⟨cs, ⟨a', c', h4, h5⟩, h6⟩ := h3 k hk
    subst h4
    rw [xget_lt hk]
    exact ⟨(a', c'), h6 0 (by decide), h6 1 (by decide), h6 2 (by decide), h6 3 (by decide), h6 4 (by decide), h5⟩
  have : Inhabited (Option Addr × Nat) := ⟨(none, 0)⟩
  obtain ⟨F, hF⟩ := Go.Deep.choose_lt key
  exact ⟨b, fun k => (F k).1, fun k => (F k).2, e1, e2, hF⟩
/-- The map tells one entry more. -/
theorem BK.setM {M' : List En} (h : BK w g sg S m bl la lc L M R Us) (hu : Upd m w w') (hM : MapK w' m M') : BK w' g sg S m bl la lc L M' R Us := by
  have hc : Chg (fun b => b = m) w w' := .ofUpd hu rfl
  refine ⟨chg_blk h.blk hc (fun e => h.gm e), hM, h.row.chg hc (fun b q e => (h.lS b q).2 e) (fun b q e => (h.sS b q).2.1 e), fun i hi => (h.us i hi).chg hc (fun b q e => (h.uS i hi b q).2.2.1 e) (fun b q => q.elim), h.lS, fun b q => ⟨(h.sS b q).1, (h.sS b q).2.1, Nat.lt_of_lt_of_le (h.sS b q).2.2 hc.size⟩, h.uS, h.uu⟩
/-- The row of entries has grown. -/
theorem BK.growL {y : Ex} {ra : Option Addr} {rc : Nat} (h : BK w g sg S m bl la lc L M R Us) (hy : y.ua = none ∧ y.un = 0 ∧ y.uc = 0) (hS2 : ∀ b, S2 b → b ≠ g ∧ b ≠ m ∧ b < w.heap.size ∧ ∀ i, i < L.length → obk (R i).1 (R i).2.1 (R i).2.2 ≠ some b) (hR : ∀ i, L.length ≤ i → R i = (none, 0, 0)) (hU : ∀ i, L.length ≤ i → Us i = [])
    (hr : RowD eltX (fun b => (S b ∨ S2 b) ∧ b < w.heap.size) w' 83 ra rc (L.length + 1) (L ++ [y])) (hc : Chg (fun b => obk la L.length lc = some b) w w') (ho : ∀ b, obk ra (L.length + 1) rc = some b → obk la L.length lc = some b ∨ w.heap.size ≤ b) :
    BK w' g sg (fun b => (S b ∨ S2 b) ∧ b < w.heap.size) m bl ra rc (L ++ [y]) M R Us := by
  have hl : (L ++ [y]).length = L.length + 1 := by simp
  have hg := h.blk.lt
  have hm := h.map.lt
  refine ⟨chg_blk h.blk hc (fun q => (h.lS _ q).1 rfl), h.map.chg hc (fun q => (h.lS _ q).2 rfl), by rw [hl]; exact hr, fun i hi => ?_, fun b q => ?_, fun b q => ⟨?_, ?_, Nat.lt_of_lt_of_le q.2 hc.size⟩, fun i hi b q => ?_, fun i j hi hj hij b q => ?_⟩
  · rw [hl] at hi
    by_cases c : i < L.length
    · exact (h.us i c).chg hc (fun b q e => (h.uS i c b q).2.2.2 e) (fun b q => q.elim)
    · rw [hR i (by omega), hU i (by omega)]; exact RowD.nil
  · rw [hl] at q
    rcases ho b q with z | z
    · exact h.lS b z
    · omega
  · exact q.1.elim (fun z => (h.sS b z).1) (fun z => (hS2 b z).1)
  · exact q.1.elim (fun z => (h.sS b z).2.1) (fun z => (hS2 b z).2.1)
  · rw [hl] at hi
    by_cases c : i < L.length
    · obtain ⟨k1, k2, k3, k4⟩ := h.uS i c b q
      refine ⟨fun z => z.1.elim k1 (fun z => (hS2 b z).2.2.2 i c q), k2, k3, fun z => ?_⟩
      rw [hl] at z
      rcases ho b z with z | z
      · exact k4 z
      · have := (h.us i c).lt b q; omega
    · rw [hR i (by omega)] at q; cases q
  · rw [hl] at hi hj
    by_cases c : i < L.length
    · by_cases d : j < L.length
      · exact h.uu i j c d hij b q
      · rw [hR j (by omega)]; exact fun z => nomatch z
    · rw [hR i (by omega)] at q; cases q
theorem BK.storeL (h : BK w g sg S m bl la lc L M R Us) : BK (w.setCell ⟨g, 1, none⟩ (.slice la L.length lc)) g sg S m (la, L.length, lc) la lc L M R Us := by
  have hu := Upd.at_ w g 1 (.slice la L.length lc)
  have hc : Chg (fun b => b = g) w (w.setCell ⟨g, 1, none⟩ (.slice la L.length lc)) := .ofUpd hu rfl
  refine ⟨h.blk.set_ 1 _, h.map.chg hc (fun e => h.gm (Eq.symm e)), h.row.chg hc (fun b q e => (h.lS b q).1 e) (fun b q e => (h.sS b q).1 e), fun i hi => (h.us i hi).chg hc (fun b q e => (h.uS i hi b q).2.1 e) (fun b q => q.elim), h.lS, fun b q => ⟨(h.sS b q).1, (h.sS b q).2.1, Nat.lt_of_lt_of_le (h.sS b q).2.2 hc.size⟩, h.uS, h.uu⟩
/-- A row of users has grown. -/
theorem BK.growU {i0 x : Nat} {ra : Option Addr} {rc : Nat} (h : BK w g sg S m bl la lc L M R Us) (hi0 : i0 < L.length) (hr : RowD eltN (fun _ => False) w' 3 ra rc ((R i0).2.1 + 1) (Us i0 ++ [x])) (hc : Chg (fun b => obk (R i0).1 (R i0).2.1 (R i0).2.2 = some b) w w') (ho : ∀ b, obk ra ((R i0).2.1 + 1) rc = some b → obk (R i0).1 (R i0).2.1 (R i0).2.2 = some b ∨ w.heap.size ≤ b) :
    BK w' g sg S m bl la lc L M (fun i => if i = i0 then (ra, (R i0).2.1 + 1, rc) else R i) (fun i => if i = i0 then Us i0 ++ [x] else Us i) := by
  have hg := h.blk.lt
  have hm := h.map.lt
  refine ⟨chg_blk h.blk hc (fun q => (h.uS i0 hi0 _ q).2.1 rfl), h.map.chg hc (fun q => (h.uS i0 hi0 _ q).2.2.1 rfl), h.row.chg hc (fun b q e => (h.uS i0 hi0 b e).2.2.2 q) (fun b q e => (h.uS i0 hi0 b e).1 q), fun i hi => ?_, h.lS, fun b q => ⟨(h.sS b q).1, (h.sS b q).2.1, Nat.lt_of_lt_of_le (h.sS b q).2.2 hc.size⟩, fun i hi b q => ?_, fun i j hi hj hij b q => ?_⟩
  · by_cases c : i = i0
    · subst c; simp only [if_pos rfl]; exact hr
    · simp only [if_neg c]; exact (h.us i hi).chg hc (fun b q e => h.uu i i0 hi hi0 c b q e) (fun b q => q.elim)
  · by_cases c : i = i0
    · subst c
      simp only [if_pos rfl] at q
      rcases ho b q with z | z
      · exact h.uS i hi0 b z
      · exact ⟨fun k => by have := (h.sS b k).2.2; omega, by omega, by omega, fun k => by have := h.row.lt b k; omega⟩
    · simp only [if_neg c] at q; exact h.uS i hi b q
  · by_cases c : i = i0
    · subst c
      simp only [if_pos rfl] at q
      simp only [if_neg (Ne.symm hij)]
      rcases ho b q with z | z
      · exact h.uu i j hi hj hij b z
      · exact fun k => by have := (h.us j hj).lt b k; omega
    · simp only [if_neg c] at q
      by_cases d : j = i0
      · subst d
        simp only [if_pos rfl]
        intro k
        rcases ho b k with z | z
        · exact h.uu i j hi hj hij b q z
        · have := (h.us i hi).lt b q; omega
      · simp only [if_neg d]; exact h.uu i j hi hj hij b q
/-- An entry is told where its users are. -/
theorem BK.storeU {i0 : Nat} {ra : Option Addr} {rn rc : Nat} (h : BK w g sg S m bl la lc L M R Us) (hi0 : i0 < L.length) : ∃ b : Nat, la = some ⟨b, 0, none⟩ ∧ obk la L.length lc = some b ∧ (∃ cs, Blk w b 83 cs ∧ 0 + i0 * 5 + 4 < cs.size) ∧
    BK (w.setCell ⟨b, 0 + i0 * 5 + 4, none⟩ (.slice ra rn rc)) g sg S m bl la lc (L.set i0 ⟨(xget L i0).en, (xget L i0).sz, (xget L i0).gr, ra, rn, rc⟩) M R Us := by
  obtain ⟨b, e1, e2, e3, hr⟩ := h.row.setX (t := 4) (v := .slice ra rn rc) (y := ⟨(xget L i0).en, (xget L i0).sz, (xget L i0).gr, ra, rn, rc⟩) hi0 (by decide) rfl (fun cs ⟨a', c', k1, k2⟩ => ⟨a', c', by rw [k1, xget_lt hi0]; rfl, by rw [xget_lt hi0]; exact k2⟩)
  have hu := Upd.at_ w b (0 + i0 * 5 + 4) (.slice ra rn rc)
  have hc : Chg (fun k => k = b) w (w.setCell ⟨b, 0 + i0 * 5 + 4, none⟩ (.slice ra rn rc)) := .ofUpd hu rfl
  have hl : ∀ x : Ex, (L.set i0 x).length = L.length := fun x => by simp
  refine ⟨b, e1, e2, e3, chg_blk h.blk hc (fun q => (h.lS b e2).1 q.symm), h.map.chg hc (fun q => (h.lS b e2).2 (Eq.symm q)), by rw [hl]; exact hr, fun i hi => ?_, fun k q => ?_, fun k q => ⟨(h.sS k q).1, (h.sS k q).2.1, Nat.lt_of_lt_of_le (h.sS k q).2.2 hc.size⟩, fun i hi k q => ?_, fun i j hi hj => ?_⟩
  · rw [hl] at hi
    exact (h.us i hi).chg hc (fun k q e => (h.uS i hi k q).2.2.2 (by rw [show k = b from e]; exact e2)) (fun k q => q.elim)
  · rw [hl] at q; exact h.lS k q
  · rw [hl] at hi ⊢; exact h.uS i hi k q
  · rw [hl] at hi hj; exact h.uu i j hi hj
end
end Go.Proofs.Ytbohlpfndiiimaa

/- A bank in memory, whole; its blocks are known, or have come since. -/
namespace Go.Proofs.Ytbohlpfndiiimaa
open Go.RowKit Go
set_option linter.unusedVariables false
set_option linter.unusedSimpArgs false
theorem chg_fresh {w0 w w' : World} {Z Z2 : Nat → Prop} (h : Chg Z w0 w) (k : Chg Z2 w w') (hz : ∀ b, Z2 b → Z b ∨ w0.heap.size ≤ b) : Chg Z w0 w' :=
  ⟨k.os.trans h.os, k.tape.trans h.tape, k.output.trans h.output, Nat.le_trans h.size k.size, fun b hb hn => (k.block b (Nat.lt_of_lt_of_le hb h.size) (fun q => by rcases hz b q with z | z; exact hn z; omega)).trans (h.block b hb hn)⟩
theorem usersE_ge {N : List En} (h : BOk N) {i : Nat} (hi : N.length ≤ i) : usersE N i = [] := by
  unfold usersE
  rw [List.filter_eq_nil_iff]
  intro j hj
  have hj := List.mem_range.1 hj
  simp only [decide_eq_true_eq]
  intro hm
  have := h.args j hj i hm
  omega
/-- What the bank's entries are. -/
structure BW (L : List Ex) (N : List En) (R : Nat → Option Addr × Nat × Nat) : Prop where
  ens : ens L = N
  ok : BOk N
  tell : ∀ i, i < L.length → (xget L i).sz = (tmE N i).size ∧ (xget L i).gr = (tmE N i).gnd
  us : ∀ i, i < L.length → R i = ((xget L i).ua, (xget L i).un, (xget L i).uc)
  no : ∀ i, L.length ≤ i → R i = (none, 0, 0)
theorem BW.len {L : List Ex} {N : List En} {R : Nat → Option Addr × Nat × Nat} (h : BW L N R) : L.length = N.length := by rw [← h.ens]; simp
theorem BW.at_ {L : List Ex} {N : List En} {R : Nat → Option Addr × Nat × Nat} (h : BW L N R) {i : Nat} (hi : i < L.length) : (xget L i).en = eget N i := by rw [← h.ens, ens_get hi]
/-- A bank, whose blocks are 'Z'. -/
def BkIs (w : World) (g : Nat) (sg : Value) (Z : Nat → Prop) (N : List En) : Prop := ∃ S m la lc L R, BK w g sg S m (la, L.length, lc) la lc L N R (usersE N) ∧ BW L N R ∧ (∀ b, BZ g m S la lc L.length R b → Z b) ∧ ∀ b, Z b → b < w.heap.size
section
variable {w w' : World} {g B : Nat} {sg : Value} {Z X X2 : Nat → Prop} {N : List En}
theorem BkIs.chg (h : BkIs w g sg Z N) (hc : Chg X w w') (hX : ∀ b, Z b → ¬ X b) : BkIs w' g sg Z N := by
  obtain ⟨S, m, la, lc, L, R, h1, h2, h3, h4⟩ := h
  exact ⟨S, m, la, lc, L, R, h1.chg hc (fun b q => hX b (h3 b q)), h2, h3, fun b q => Nat.lt_of_lt_of_le (h4 b q) hc.size⟩
theorem BkIs.below (h : BkIs w g sg Z N) (hb : Below w.heap.size w w') : BkIs w' g sg Z N := h.chg (X := fun _ => False) (.ofBelow hb) (fun _ _ => id)
theorem BkIs.lt (h : BkIs w g sg Z N) : ∀ b, Z b → b < w.heap.size := by obtain ⟨S, m, la, lc, L, R, h1, h2, h3, h4⟩ := h; exact h4
theorem BkIs.hg (h : BkIs w g sg Z N) : Z g := by obtain ⟨S, m, la, lc, L, R, h1, h2, h3, h4⟩ := h; exact h3 g (.inl rfl)
theorem BkIs.ok (h : BkIs w g sg Z N) : BOk N := by obtain ⟨S, m, la, lc, L, R, h1, h2, h3, h4⟩ := h; exact h2.ok
/-- A bank whose blocks are of 'Z', or came from 'B' on, and none of them of 'X'. -/
def BkJ (w : World) (B : Nat) (Z : Nat → Prop) (g : Nat) (sg : Value) (N : List En) (X : Nat → Prop) : Prop := ∃ Z', BkIs w g sg Z' N ∧ (∀ b, Z' b → Z b ∨ B ≤ b) ∧ ∀ b, X b → ¬ Z' b
end
end Go.Proofs.Ytbohlpfndiiimaa

/- A bank while the users of a new entry's arguments are told. -/
namespace Go.Proofs.Ytbohlpfndiiimaa
open Go.RowKit Go
set_option linter.unusedVariables false
set_option linter.unusedSimpArgs false
section
variable {w w' : World} {g m lc : Nat} {sg : Value} {S S2 : Nat → Prop} {bl : Option Addr × Nat × Nat} {la : Option Addr} {L : List Ex} {M : List En} {R : Nat → Option Addr × Nat × Nat} {Us : Nat → List Nat}
theorem BK.monoS {S' : Nat → Prop} (h : BK w g sg S m bl la lc L M R Us) (h1 : ∀ b, S' b → S b ∨ False) (h2 : ∀ b, S b → S' b) : BK w g sg S' m bl la lc L M R Us := by
  have e : ∀ b, S' b ↔ S b := fun b => ⟨fun q => (h1 b q).elim id False.elim, h2 b⟩
  have : S' = S := funext fun b => propext (e b)
  rw [this]; exact h
theorem BK.setM' {w1 : World} {M' : List En} (h : BK w g sg S m bl la lc L M R Us) (hb : Below w.heap.size w w1) (hM : MapK w' m M') (hu : Upd m w1 w') : BK w' g sg S m bl la lc L M' R Us := (h.below hb).setM hu hM
theorem BK.growL2 {y : Ex} {ra : Option Addr} {rc : Nat} (h : BK w g sg S m bl la lc L M R Us) (hy : y.ua = none ∧ y.un = 0 ∧ y.uc = 0) (hS2 : ∀ b, S2 b → b ≠ g ∧ b ≠ m ∧ b < w.heap.size ∧ ∀ i, i < L.length → obk (R i).1 (R i).2.1 (R i).2.2 ≠ some b) (hR : ∀ i, L.length ≤ i → R i = (none, 0, 0)) (hU : ∀ i, L.length ≤ i → Us i = [])
    (hr : RowD eltX (fun b => (S b ∨ S2 b) ∧ b < w.heap.size) w' 83 ra rc (L.length + 1) (L ++ [y])) (hc : Chg (fun b => obk la L.length lc = some b) w w') (ho : ∀ b, obk ra (L.length + 1) rc = some b → obk la L.length lc = some b ∨ w.heap.size ≤ b) :
    BK w' g sg (fun b => S b ∨ S2 b) m bl ra rc (L ++ [y]) M R Us := by
  have z := h.growL hy hS2 hR hU hr hc ho
  have e : ∀ b, (S b ∨ S2 b) → b < w.heap.size := fun b q => q.elim (fun k => (h.sS b k).2.2) (fun k => (hS2 b k).2.2.1)
  exact z.monoS (fun b q => .inl ⟨q, e b q⟩) (fun b q => q.1)
theorem BK.storeL2 {y : Ex} {ra : Option Addr} {rc : Nat} (h : BK w g sg S m bl ra rc (L ++ [y]) M R Us) : BK (w.setCell ⟨g, 1, none⟩ (.slice ra (L.length + 1) rc)) g sg S m (ra, L.length + 1, rc) ra rc (L ++ [y]) M R Us := by
  have z := h.storeL
  have e : (L ++ [y]).length = L.length + 1 := by simp
  rw [e] at z; exact z
end
/-- The users, when so many of the new entry's arguments have been gone through. -/
def UsK (N : List En) (xs : List Nat) (k : Nat) : Nat → List Nat := fun i => usersE N i ++ (if i ∈ xs.take k then [N.length] else [])
theorem usK_le {N : List En} {xs : List Nat} {k i B : Nat} (h : N.length + 1 ≤ B) : (UsK N xs k i).length ≤ B := by
  unfold UsK usersE
  rw [List.length_append]
  have z := List.length_filter_le (fun j => decide (i ∈ (eget N j).args)) (List.range N.length)
  rw [List.length_range] at z
  have z2 : (if i ∈ xs.take k then [N.length] else ([] : List Nat)).length ≤ 1 := by split <;> simp
  omega
theorem usK0 (N : List En) (xs : List Nat) : UsK N xs 0 = usersE N := by funext i; simp [UsK]
theorem take1 {xs : List Nat} {k : Nat} (hk : k < xs.length) (i : Nat) : i ∈ xs.take (k + 1) ↔ i ∈ xs.take k ∨ i = aget xs k := by
  rw [List.take_succ_eq_append_getElem hk, List.mem_append, List.mem_singleton, aget_lt hk]
theorem usK_skip {N : List En} {xs : List Nat} {k : Nat} (hk : k < xs.length) (h : aget xs k ∈ xs.take k) : UsK N xs (k + 1) = UsK N xs k := by
  funext i
  unfold UsK
  by_cases c : i ∈ xs.take k
  · rw [if_pos c, if_pos ((take1 hk i).2 (.inl c))]
  · rw [if_neg c, if_neg (fun q => by rcases (take1 hk i).1 q with q | q; exact c q; (rw [q] at c; exact c h))]
theorem usK_grow {N : List En} {xs : List Nat} {k : Nat} (hk : k < xs.length) (h : aget xs k ∉ xs.take k) : UsK N xs (k + 1) = fun i => if i = aget xs k then UsK N xs k (aget xs k) ++ [N.length] else UsK N xs k i := by
  funext i
  unfold UsK
  by_cases c : i = aget xs k
  · rw [if_pos c, c, if_pos ((take1 hk _).2 (.inr rfl)), if_neg h, List.append_nil]
  · rw [if_neg c]
    by_cases d : i ∈ xs.take k
    · rw [if_pos d, if_pos ((take1 hk i).2 (.inl d))]
    · rw [if_neg d, if_neg (fun q => by rcases (take1 hk i).1 q with q | q; exact d q; exact c q)]
theorem usK_end {N : List En} {f : Int} {xs : List Nat} {k : Nat} (hk : xs.length ≤ k) : UsK N xs k = usersE (N ++ [⟨f, xs⟩]) := by
  funext i
  rw [usersE_snoc]
  unfold UsK
  rw [List.take_of_length_le hk]
theorem BW.grow {L : List Ex} {N : List En} {R : Nat → Option Addr × Nat × Nat} {y : Ex} (h : BW L N R) (hok : BOk (N ++ [y.en])) (hy : y.ua = none ∧ y.un = 0 ∧ y.uc = 0) (ht : y.sz = (tmE (N ++ [y.en]) N.length).size ∧ y.gr = (tmE (N ++ [y.en]) N.length).gnd) : BW (L ++ [y]) (N ++ [y.en]) R := by
  have hl : (L ++ [y]).length = L.length + 1 := by simp
  have hn := h.len
  refine ⟨by unfold Go.Proofs.Ytbohlpfndiiimaa.ens; rw [List.map_append, ← h.ens]; rfl, hok, fun i hi => ?_, fun i hi => ?_, fun i hi => ?_⟩
  · rw [hl] at hi
    by_cases c : i < L.length
    · rw [xget_app c, tmE_app h.ok (by omega)]; exact h.tell i c
    · obtain rfl : i = L.length := by omega
      rw [xget_new, hn]; exact ht
  · rw [hl] at hi
    by_cases c : i < L.length
    · rw [xget_app c]; exact h.us i c
    · obtain rfl : i = L.length := by omega
      rw [xget_new, h.no _ (Nat.le_refl _), hy.1, hy.2.1, hy.2.2]
  · rw [hl] at hi; exact h.no i (by omega)
/-- The bank, so far. -/
def UJ (u w : World) (Z : Nat → Prop) (g : Nat) (sg : Value) (S : Nat → Prop) (m : Nat) (la : Option Addr) (lc : Nat) (M N : List En) (xs : List Nat) (k : Nat) : Prop := ∃ L R, BK u g sg S m (la, L.length, lc) la lc L M R (UsK N xs k) ∧ BW L M R ∧ ∀ b, BZ g m S la lc L.length R b → Z b ∨ w.heap.size ≤ b
section
variable {u u' w : World} {g m lc : Nat} {sg : Value} {S Z : Nat → Prop} {la : Option Addr} {M N : List En} {xs : List Nat} {k : Nat}
theorem UJ.below (h : UJ u w Z g sg S m la lc M N xs k) (hb : Below u.heap.size u u') : UJ u' w Z g sg S m la lc M N xs k := by
  obtain ⟨L, R, h1, h2⟩ := h
  exact ⟨L, R, h1.below hb, h2⟩
theorem UJ.skip (h : UJ u w Z g sg S m la lc M N xs k) (hk : k < xs.length) (hm : aget xs k ∈ xs.take k) : UJ u w Z g sg S m la lc M N xs (k + 1) := by
  obtain ⟨L, R, h1, h2⟩ := h
  exact ⟨L, R, by rw [usK_skip hk hm]; exact h1, h2⟩
theorem UJ.fin {f : Int} (h : UJ u w Z g sg S m la lc (N ++ [⟨f, xs⟩]) N xs k) (hk : xs.length ≤ k) : ∃ Z', BkIs u g sg Z' (N ++ [⟨f, xs⟩]) ∧ ∀ b, Z' b → Z b ∨ w.heap.size ≤ b := by
  obtain ⟨L, R, h1, h2, h3⟩ := h
  rw [usK_end (f := f) hk] at h1
  exact ⟨_, ⟨S, m, la, lc, L, R, h1, h2, fun b q => q, h1.lt⟩, h3⟩
/-- One entry's users have grown, and it tells where they are. -/
theorem UJ.grown {L : List Ex} {R : Nat → Option Addr × Nat × Nat} {i0 : Nat} {ra : Option Addr} {rn rc : Nat} (hk : k < xs.length) (hm : aget xs k ∉ xs.take k) (hi : i0 = aget xs k) (hi0 : i0 < L.length)
    (h1 : BK u g sg S m (la, L.length, lc) la lc (L.set i0 ⟨(xget L i0).en, (xget L i0).sz, (xget L i0).gr, ra, rn, rc⟩) M (fun i => if i = i0 then (ra, rn, rc) else R i) (fun i => if i = i0 then UsK N xs k i0 ++ [N.length] else UsK N xs k i)) (h2 : BW L M R) (h3 : ∀ b, BZ g m S la lc L.length R b → Z b ∨ w.heap.size ≤ b) (h4 : ∀ b, obk ra rn rc = some b → Z b ∨ w.heap.size ≤ b) : UJ u w Z g sg S m la lc M N xs (k + 1) := by
  have hl : ∀ x : Ex, (L.set i0 x).length = L.length := fun x => by simp
  refine ⟨L.set i0 ⟨(xget L i0).en, (xget L i0).sz, (xget L i0).gr, ra, rn, rc⟩, fun i => if i = i0 then (ra, rn, rc) else R i, ?_, ?_, ?_⟩
  · rw [usK_grow hk hm, ← hi]
    rw [hl]
    exact h1
  · refine ⟨?_, h2.ok, fun i hi2 => ?_, fun i hi2 => ?_, fun i hi2 => ?_⟩
    · rw [← h2.ens]
      unfold ens
      rw [List.map_set]
      apply List.ext_getElem
      · simp
      · intro q q1 q2
        rw [List.getElem_set]
        split
        · rename_i e; subst e; simp [xget_lt hi0]
        · rfl
    · rw [hl] at hi2
      rw [xget_set hi0]
      split
      · rename_i e; subst e; exact h2.tell i hi0
      · exact h2.tell i hi2
    · rw [hl] at hi2
      rw [xget_set hi0]
      by_cases c : i = i0
      · rw [if_pos c, if_pos c]
      · rw [if_neg c, if_neg c]; exact h2.us i hi2
    · rw [hl] at hi2
      rw [if_neg (by omega)]; exact h2.no i hi2
  · intro b q
    rw [hl] at q
    rcases q with q | q | q | q | ⟨i, hi2, q⟩
    · exact h3 b (.inl q)
    · exact h3 b (.inr (.inl q))
    · exact h3 b (.inr (.inr (.inl q)))
    · exact h3 b (.inr (.inr (.inr (.inl q))))
    · by_cases c : i = i0
      · simp only [if_pos c] at q; exact h4 b q
      · simp only [if_neg c] at q; exact h3 b (.inr (.inr (.inr (.inr ⟨i, hi2, q⟩))))
end
end Go.Proofs.Ytbohlpfndiiimaa

/- Operations, one law a kind and type. -/
namespace Go.Proofs.Ytbohlpfndiiimaa
open Go.RowKit Go
set_option linter.unusedVariables false
set_option linter.unusedSimpArgs false
set_option maxRecDepth 100000
theorem box_24 {w : World} {a : Act} {K : Act → World → Prop} {Q : Exit → Act → World → Prop} {o : Oper} {x : Operand} {c0 : Value} (ho : o.op = .box 24 x) (hx : a.eval x = .agg #[c0]) (hK : K (a.put o.dst (.pointer (some ⟨w.heap.size, 0, none⟩))) (w.alloc (.cells #[c0] 24))) : o.wp Try.prog a w K Q := by
  unfold Oper.wp execOp
  simp only [ho, hx]
  go_simp
  exact hK
theorem ld_24 {w : World} {a : Act} {K : Act → World → Prop} {Q : Exit → Act → World → Prop} {o : Oper} {x : Operand} {b p : Nat} {c0 : Value} (ho : o.op = .load 24 x) (hx : a.eval x = .pointer (some ⟨b, p, none⟩)) (h0 : w.cell? ⟨b, p, none⟩ = some c0) (hK : K (a.put o.dst (.agg #[c0])) w) : o.wp Try.prog a w K Q := by
  unfold Oper.wp execOp
  simp only [ho, hx]
  go_simp
  exact hK
theorem neq_27 {w : World} {a : Act} {K : Act → World → Prop} {Q : Exit → Act → World → Prop} {o : Oper} {x y : Operand} {m n : Int} (ho : o.op = .binOp .neq 27 x y 27) (hx : a.eval x = .int .i64 m) (hy : a.eval y = .int .i64 n) (hK : K (a.put o.dst (.bool (m != n))) w) : o.wp Try.prog a w K Q := by
  unfold Oper.wp execOp
  simp only [ho, hx, hy]
  go_simp
  exact hK
theorem fld_24_0 {w : World} {a : Act} {K : Act → World → Prop} {Q : Exit → Act → World → Prop} {o : Oper} {x : Operand} {b p : Nat} (ho : o.op = .fieldAddr 24 x 0) (hx : a.eval x = .pointer (some ⟨b, p, none⟩)) (hK : K (a.put o.dst (.pointer (some ⟨b, p, none⟩))) w) : o.wp Try.prog a w K Q := by
  unfold Oper.wp execOp
  simp only [ho, hx]
  go_simp
  exact hK
theorem ld_22 {w : World} {a : Act} {K : Act → World → Prop} {Q : Exit → Act → World → Prop} {o : Oper} {x : Operand} {p : Addr} {v : Value} (ho : o.op = .load 22 x) (hx : a.eval x = .pointer (some p)) (hc : w.cell? p = some v) (hK : K (a.put o.dst (v)) w) : o.wp Try.prog a w K Q := by
  unfold Oper.wp execOp
  simp only [ho, hx]
  go_simp
  exact hK
theorem build_24_0 {w : World} {a : Act} {K : Act → World → Prop} {Q : Exit → Act → World → Prop} {o : Oper} {x0 : Operand} {c0a : Option Addr} {c0n c0c : Nat} (ho : o.op = .build 24 #[(0, x0)]) (h0 : a.eval x0 = .slice c0a c0n c0c) (hK : K (a.put o.dst (.agg #[.slice c0a c0n c0c])) w) : o.wp Try.prog a w K Q := by
  unfold Oper.wp execOp
  simp only [ho, List.map_toArray, List.map_cons, List.map_nil, h0]
  go_simp
  exact hK
theorem build_70_0_2 {w : World} {a : Act} {K : Act → World → Prop} {Q : Exit → Act → World → Prop} {o : Oper} {x0 x1 : Operand} {c0 : Value} {c2 : Option Nat} (ho : o.op = .build 70 #[(0, x0), (2, x1)]) (h0 : a.eval x0 = .agg #[c0]) (h1 : a.eval x1 = .map c2) (hK : K (a.put o.dst (.agg #[c0, .slice none 0 0, .map c2])) w) : o.wp Try.prog a w K Q := by
  unfold Oper.wp execOp
  simp only [ho, List.map_toArray, List.map_cons, List.map_nil, h0, h1]
  go_simp
  exact hK
theorem box_70 {w : World} {a : Act} {K : Act → World → Prop} {Q : Exit → Act → World → Prop} {o : Oper} {x : Operand} {c0 c1 c2 : Value} (ho : o.op = .box 70 x) (hx : a.eval x = .agg #[c0, c1, c2]) (hK : K (a.put o.dst (.pointer (some ⟨w.heap.size, 0, none⟩))) (w.alloc (.cells #[c0, c1, c2] 70))) : o.wp Try.prog a w K Q := by
  unfold Oper.wp execOp
  simp only [ho, hx]
  go_simp
  exact hK
theorem alloc_77 {w : World} {a : Act} {K : Act → World → Prop} {Q : Exit → Act → World → Prop} {o : Oper} (ho : o.op = .alloc 77) (hK : K (a.put o.dst (.pointer (some ⟨w.heap.size, 0, none⟩))) (w.alloc (.cells #[.int .i64 0, .string ⟨#[]⟩] 77))) : o.wp Try.prog a w K Q := by
  unfold Oper.wp execOp
  simp only [ho]
  go_simp
  exact hK
theorem len_31 {w : World} {a : Act} {K : Act → World → Prop} {Q : Exit → Act → World → Prop} {o : Oper} {x : Operand} {r : Option Addr} {n c : Nat} (ho : o.op = .call { callee := .builtin .len, args := #[x], argTypes := #[31] }) (hx : a.eval x = .slice r n c) (hK : K (a.put o.dst (.int .i64 n)) w) : o.wp Try.prog a w K Q := by
  unfold Oper.wp execOp
  simp only [ho, resolve, List.map_toArray, List.map_cons, List.map_nil, hx]
  go_simp
  exact hK
theorem mulb_3 {w : World} {a : Act} {K : Act → World → Prop} {Q : Exit → Act → World → Prop} {o : Oper} {x y : Operand} {m n r : Int} (ho : o.op = .binOp .mul 3 x y 3) (hx : a.eval x = .int .i64 m) (hy : a.eval y = .int .i64 n) (hr : IntKind.i64.wrap (m * n) = r) (hK : K (a.put o.dst (.int .i64 r)) w) : o.wp Try.prog a w K Q := by
  subst hr
  unfold Oper.wp execOp
  simp only [ho, hx, hy]
  go_simp
  exact hK
theorem lss_3 {w : World} {a : Act} {K : Act → World → Prop} {Q : Exit → Act → World → Prop} {o : Oper} {x y : Operand} {m n : Int} (ho : o.op = .binOp .lss 3 x y 3) (hx : a.eval x = .int .i64 m) (hy : a.eval y = .int .i64 n) (hK : K (a.put o.dst (.bool (decide (m < n)))) w) : o.wp Try.prog a w K Q := by
  unfold Oper.wp execOp
  simp only [ho, hx, hy]
  go_simp
  exact hK
theorem ix_31 {w : World} {a : Act} {K : Act → World → Prop} {Q : Exit → Act → World → Prop} {o : Oper} {x y : Operand} {r : Option Addr} {b p n c k : Nat} (ho : o.op = .indexAddr 31 x y) (hx : a.eval x = .slice r n c) (hr : r = some ⟨b, p, none⟩) (hy : a.eval y = .int .i64 (k : Int)) (hk : k < n) (hK : K (a.put o.dst (.pointer (some ⟨b, p + k, none⟩))) w) : o.wp Try.prog a w K Q := by
  subst hr
  have h0 : (0 : Int) ≤ (k : Int) := by omega
  have h1 : (k : Int) < (n : Int) := by omega
  unfold Oper.wp execOp
  simp only [ho, hx, hy]
  go_simp
  exact hK
theorem ld_3 {w : World} {a : Act} {K : Act → World → Prop} {Q : Exit → Act → World → Prop} {o : Oper} {x : Operand} {p : Addr} {v : Value} (ho : o.op = .load 3 x) (hx : a.eval x = .pointer (some p)) (hc : w.cell? p = some v) (hK : K (a.put o.dst (v)) w) : o.wp Try.prog a w K Q := by
  unfold Oper.wp execOp
  simp only [ho, hx]
  go_simp
  exact hK
theorem row_100_1 {w : World} {a : Act} {K : Act → World → Prop} {Q : Exit → Act → World → Prop} {o : Oper} {x0 : Operand} {c0 : Int} (ho : o.op = .buildSlice 100 1 #[(0, x0)]) (h0 : a.eval x0 = .int .u8 c0) (hK : K (a.put o.dst (.slice (some ⟨w.heap.size, 0, none⟩) 1 1)) (w.alloc (.cells #[.int .u8 c0] 5))) : o.wp Try.prog a w K Q := by
  unfold Oper.wp execOp
  simp only [ho, List.map_toArray, List.map_cons, List.map_nil, h0]
  go_simp
  exact hK
theorem addb_3 {w : World} {a : Act} {K : Act → World → Prop} {Q : Exit → Act → World → Prop} {o : Oper} {x y : Operand} {m n r : Int} (ho : o.op = .binOp .add 3 x y 3) (hx : a.eval x = .int .i64 m) (hy : a.eval y = .int .i64 n) (hr : IntKind.i64.wrap (m + n) = r) (hK : K (a.put o.dst (.int .i64 r)) w) : o.wp Try.prog a w K Q := by
  subst hr
  unfold Oper.wp execOp
  simp only [ho, hx, hy]
  go_simp
  exact hK
theorem build_77_0_1 {w : World} {a : Act} {K : Act → World → Prop} {Q : Exit → Act → World → Prop} {o : Oper} {x0 x1 : Operand} {c0 : Int} {c1 : ByteArray} (ho : o.op = .build 77 #[(0, x0), (1, x1)]) (h0 : a.eval x0 = .int .i64 c0) (h1 : a.eval x1 = .string c1) (hK : K (a.put o.dst (.agg #[.int .i64 c0, .string c1])) w) : o.wp Try.prog a w K Q := by
  unfold Oper.wp execOp
  simp only [ho, List.map_toArray, List.map_cons, List.map_nil, h0, h1]
  go_simp
  exact hK
theorem st_77 {w : World} {a : Act} {K : Act → World → Prop} {Q : Exit → Act → World → Prop} {o : Oper} {x y : Operand} {g p : Nat} {ty : TypeId} {cs : Array Value} {c0 c1 : Value} (ho : o.op = .store 77 x y) (hx : a.eval x = .pointer (some ⟨g, p, none⟩)) (hy : a.eval y = .agg #[c0, c1]) (k0 : c0.oneCell' = true) (k1 : c1.oneCell' = true) (hB : Blk w g ty cs) (hp : p + 1 < cs.size) (hK : ∀ v, K (a.put o.dst v) ((w.setCell ⟨g, p, none⟩ c0).setCell ⟨g, p + 1, none⟩ c1)) : o.wp Try.prog a w K Q := by
  have h0 := (hB.cell (p)).trans (Array.getElem?_eq_getElem (by first | omega | (simp; omega)))
  have f0 := hB.frozen (p)
  have hB := hB.set_ (p) c0
  have h1 := (hB.cell (p + 1)).trans (Array.getElem?_eq_getElem (by first | omega | (simp; omega)))
  have f1 := hB.frozen (p + 1)
  have s0 := fun w a m => run_store Try.prog w a c0 m k0
  have s1 := fun w a m => run_store Try.prog w a c1 m k1
  clear hB
  unfold Oper.wp execOp
  simp only [ho, hx, hy]
  go_simp
  exact hK _
theorem box_26 {w : World} {a : Act} {K : Act → World → Prop} {Q : Exit → Act → World → Prop} {o : Oper} {x : Operand} {c0 : Option Addr} (ho : o.op = .box 26 x) (hx : a.eval x = .pointer c0) (hK : K (a.put o.dst (.pointer (some ⟨w.heap.size, 0, none⟩))) (w.alloc (.cells #[.pointer c0] 26))) : o.wp Try.prog a w K Q := by
  unfold Oper.wp execOp
  simp only [ho, hx]
  go_simp
  exact hK
theorem box_35 {w : World} {a : Act} {K : Act → World → Prop} {Q : Exit → Act → World → Prop} {o : Oper} {x : Operand} {c0 c1 : Value} (ho : o.op = .box 35 x) (hx : a.eval x = .agg #[c0, c1]) (hK : K (a.put o.dst (.pointer (some ⟨w.heap.size, 0, none⟩))) (w.alloc (.cells #[c0, c1] 35))) : o.wp Try.prog a w K Q := by
  unfold Oper.wp execOp
  simp only [ho, hx]
  go_simp
  exact hK
theorem alloc_73 {w : World} {a : Act} {K : Act → World → Prop} {Q : Exit → Act → World → Prop} {o : Oper} (ho : o.op = .alloc 73) (hK : K (a.put o.dst (.pointer (some ⟨w.heap.size, 0, none⟩))) (w.alloc (.cells #[.nilFunc] 73))) : o.wp Try.prog a w K Q := by
  unfold Oper.wp execOp
  simp only [ho]
  go_simp
  exact hK
theorem st_73 {w : World} {a : Act} {K : Act → World → Prop} {Q : Exit → Act → World → Prop} {o : Oper} {x y : Operand} {g p : Nat} {ty : TypeId} {cs : Array Value} {c0f : Fn} {c0x c0y : Array Value} (ho : o.op = .store 73 x y) (hx : a.eval x = .pointer (some ⟨g, p, none⟩)) (hy : a.eval y = .func c0f c0x c0y) (hB : Blk w g ty cs) (hp : p + 0 < cs.size) (hK : ∀ v, K (a.put o.dst v) (w.setCell ⟨g, p, none⟩ (.func c0f c0x c0y))) : o.wp Try.prog a w K Q := by
  have h0 := (hB.cell (p)).trans (Array.getElem?_eq_getElem (by first | omega | (simp; omega)))
  have f0 := hB.frozen (p)
  have s0 := fun w a m => run_store Try.prog w a (.func c0f c0x c0y) m rfl
  clear hB
  unfold Oper.wp execOp
  simp only [ho, hx, hy]
  go_simp
  exact hK _
theorem ld_73 {w : World} {a : Act} {K : Act → World → Prop} {Q : Exit → Act → World → Prop} {o : Oper} {x : Operand} {p : Addr} {v : Value} (ho : o.op = .load 73 x) (hx : a.eval x = .pointer (some p)) (hc : w.cell? p = some v) (hK : K (a.put o.dst (v)) w) : o.wp Try.prog a w K Q := by
  unfold Oper.wp execOp
  simp only [ho, hx]
  go_simp
  exact hK
theorem ld_35 {w : World} {a : Act} {K : Act → World → Prop} {Q : Exit → Act → World → Prop} {o : Oper} {x : Operand} {b p : Nat} {c0 c1 : Value} (ho : o.op = .load 35 x) (hx : a.eval x = .pointer (some ⟨b, p, none⟩)) (h0 : w.cell? ⟨b, p, none⟩ = some c0) (h1 : w.cell? ⟨b, p + 1, none⟩ = some c1) (hK : K (a.put o.dst (.agg #[c0, c1])) w) : o.wp Try.prog a w K Q := by
  unfold Oper.wp execOp
  simp only [ho, hx]
  go_simp
  exact hK
theorem fld_35_0 {w : World} {a : Act} {K : Act → World → Prop} {Q : Exit → Act → World → Prop} {o : Oper} {x : Operand} {b p : Nat} (ho : o.op = .fieldAddr 35 x 0) (hx : a.eval x = .pointer (some ⟨b, p, none⟩)) (hK : K (a.put o.dst (.pointer (some ⟨b, p, none⟩))) w) : o.wp Try.prog a w K Q := by
  unfold Oper.wp execOp
  simp only [ho, hx]
  go_simp
  exact hK
theorem geq_3 {w : World} {a : Act} {K : Act → World → Prop} {Q : Exit → Act → World → Prop} {o : Oper} {x y : Operand} {m n : Int} (ho : o.op = .binOp .geq 3 x y 3) (hx : a.eval x = .int .i64 m) (hy : a.eval y = .int .i64 n) (hK : K (a.put o.dst (.bool (decide (n ≤ m)))) w) : o.wp Try.prog a w K Q := by
  unfold Oper.wp execOp
  simp only [ho, hx, hy]
  go_simp
  exact hK
theorem build_81_0_1 {w : World} {a : Act} {K : Act → World → Prop} {Q : Exit → Act → World → Prop} {o : Oper} {x0 x1 : Operand} {c0 : Int} {c1 : Bool} (ho : o.op = .build 81 #[(0, x0), (1, x1)]) (h0 : a.eval x0 = .int .i64 c0) (h1 : a.eval x1 = .bool c1) (hK : K (a.put o.dst (.agg #[.int .i64 c0, .bool c1])) w) : o.wp Try.prog a w K Q := by
  unfold Oper.wp execOp
  simp only [ho, List.map_toArray, List.map_cons, List.map_nil, h0, h1]
  go_simp
  exact hK
theorem alloc_81 {w : World} {a : Act} {K : Act → World → Prop} {Q : Exit → Act → World → Prop} {o : Oper} (ho : o.op = .alloc 81) (hK : K (a.put o.dst (.pointer (some ⟨w.heap.size, 0, none⟩))) (w.alloc (.cells #[.int .i64 0, .bool false] 81))) : o.wp Try.prog a w K Q := by
  unfold Oper.wp execOp
  simp only [ho]
  go_simp
  exact hK
theorem st_81 {w : World} {a : Act} {K : Act → World → Prop} {Q : Exit → Act → World → Prop} {o : Oper} {x y : Operand} {g p : Nat} {ty : TypeId} {cs : Array Value} {c0 c1 : Value} (ho : o.op = .store 81 x y) (hx : a.eval x = .pointer (some ⟨g, p, none⟩)) (hy : a.eval y = .agg #[c0, c1]) (k0 : c0.oneCell' = true) (k1 : c1.oneCell' = true) (hB : Blk w g ty cs) (hp : p + 1 < cs.size) (hK : ∀ v, K (a.put o.dst v) ((w.setCell ⟨g, p, none⟩ c0).setCell ⟨g, p + 1, none⟩ c1)) : o.wp Try.prog a w K Q := by
  have h0 := (hB.cell (p)).trans (Array.getElem?_eq_getElem (by first | omega | (simp; omega)))
  have f0 := hB.frozen (p)
  have hB := hB.set_ (p) c0
  have h1 := (hB.cell (p + 1)).trans (Array.getElem?_eq_getElem (by first | omega | (simp; omega)))
  have f1 := hB.frozen (p + 1)
  have s0 := fun w a m => run_store Try.prog w a c0 m k0
  have s1 := fun w a m => run_store Try.prog w a c1 m k1
  clear hB
  unfold Oper.wp execOp
  simp only [ho, hx, hy]
  go_simp
  exact hK _
theorem fld_35_1 {w : World} {a : Act} {K : Act → World → Prop} {Q : Exit → Act → World → Prop} {o : Oper} {x : Operand} {b p : Nat} (ho : o.op = .fieldAddr 35 x 1) (hx : a.eval x = .pointer (some ⟨b, p, none⟩)) (hK : K (a.put o.dst (.pointer (some ⟨b, p + 1, none⟩))) w) : o.wp Try.prog a w K Q := by
  unfold Oper.wp execOp
  simp only [ho, hx]
  go_simp
  exact hK
theorem ld_25 {w : World} {a : Act} {K : Act → World → Prop} {Q : Exit → Act → World → Prop} {o : Oper} {x : Operand} {p : Addr} {v : Value} (ho : o.op = .load 25 x) (hx : a.eval x = .pointer (some p)) (hc : w.cell? p = some v) (hK : K (a.put o.dst (v)) w) : o.wp Try.prog a w K Q := by
  unfold Oper.wp execOp
  simp only [ho, hx]
  go_simp
  exact hK
theorem len_25 {w : World} {a : Act} {K : Act → World → Prop} {Q : Exit → Act → World → Prop} {o : Oper} {x : Operand} {r : Option Addr} {n c : Nat} (ho : o.op = .call { callee := .builtin .len, args := #[x], argTypes := #[25] }) (hx : a.eval x = .slice r n c) (hK : K (a.put o.dst (.int .i64 n)) w) : o.wp Try.prog a w K Q := by
  unfold Oper.wp execOp
  simp only [ho, resolve, List.map_toArray, List.map_cons, List.map_nil, hx]
  go_simp
  exact hK
theorem ix_25 {w : World} {a : Act} {K : Act → World → Prop} {Q : Exit → Act → World → Prop} {o : Oper} {x y : Operand} {r : Option Addr} {b p n c k : Nat} (ho : o.op = .indexAddr 25 x y) (hx : a.eval x = .slice r n c) (hr : r = some ⟨b, p, none⟩) (hy : a.eval y = .int .i64 (k : Int)) (hk : k < n) (hK : K (a.put o.dst (.pointer (some ⟨b, p + k * 2, none⟩))) w) : o.wp Try.prog a w K Q := by
  subst hr
  have h0 : (0 : Int) ≤ (k : Int) := by omega
  have h1 : (k : Int) < (n : Int) := by omega
  unfold Oper.wp execOp
  simp only [ho, hx, hy]
  go_simp
  exact hK
theorem alloc_35 {w : World} {a : Act} {K : Act → World → Prop} {Q : Exit → Act → World → Prop} {o : Oper} (ho : o.op = .alloc 35) (hK : K (a.put o.dst (.pointer (some ⟨w.heap.size, 0, none⟩))) (w.alloc (.cells #[.int .i64 0, .slice none 0 0] 35))) : o.wp Try.prog a w K Q := by
  unfold Oper.wp execOp
  simp only [ho]
  go_simp
  exact hK
theorem st_35 {w : World} {a : Act} {K : Act → World → Prop} {Q : Exit → Act → World → Prop} {o : Oper} {x y : Operand} {g p : Nat} {ty : TypeId} {cs : Array Value} {c0 c1 : Value} (ho : o.op = .store 35 x y) (hx : a.eval x = .pointer (some ⟨g, p, none⟩)) (hy : a.eval y = .agg #[c0, c1]) (k0 : c0.oneCell' = true) (k1 : c1.oneCell' = true) (hB : Blk w g ty cs) (hp : p + 1 < cs.size) (hK : ∀ v, K (a.put o.dst v) ((w.setCell ⟨g, p, none⟩ c0).setCell ⟨g, p + 1, none⟩ c1)) : o.wp Try.prog a w K Q := by
  have h0 := (hB.cell (p)).trans (Array.getElem?_eq_getElem (by first | omega | (simp; omega)))
  have f0 := hB.frozen (p)
  have hB := hB.set_ (p) c0
  have h1 := (hB.cell (p + 1)).trans (Array.getElem?_eq_getElem (by first | omega | (simp; omega)))
  have f1 := hB.frozen (p + 1)
  have s0 := fun w a m => run_store Try.prog w a c0 m k0
  have s1 := fun w a m => run_store Try.prog w a c1 m k1
  clear hB
  unfold Oper.wp execOp
  simp only [ho, hx, hy]
  go_simp
  exact hK _
theorem row_31_1 {w : World} {a : Act} {K : Act → World → Prop} {Q : Exit → Act → World → Prop} {o : Oper} {x0 : Operand} {c0 : Int} (ho : o.op = .buildSlice 31 1 #[(0, x0)]) (h0 : a.eval x0 = .int .i64 c0) (hK : K (a.put o.dst (.slice (some ⟨w.heap.size, 0, none⟩) 1 1)) (w.alloc (.cells #[.int .i64 c0] 3))) : o.wp Try.prog a w K Q := by
  unfold Oper.wp execOp
  simp only [ho, List.map_toArray, List.map_cons, List.map_nil, h0]
  go_simp
  exact hK
theorem app_31 {w : World} {a : Act} {K : Act → World → Prop} {Q : Exit → Act → World → Prop} {o : Oper} {s x : Operand} {n m rc : Nat} {S : Nat → Prop} {ra : Option Addr} {y : Value} {xs news : List Value} (ho : o.op = .call { callee := .builtin .append, args := #[s, x], argTypes := #[31, 31] }) (hs : a.eval s = .slice ra n rc) (hx : a.eval x = y) (hown : Own w S 3 1 ra rc n xs) (hsrc : SrcIs w y m news) (hl : news.length = m * 1) (h1 : ∀ u ∈ news, u.oneCell' = true)
    (hb : (n + m) * 8 ≤ 140737488355328) (hn : n + m ≤ 9223372036854775807) (hS : S w.heap.size) (hK : ∀ ra rc w', Own w' S 3 1 ra rc (n + m) (xs ++ news) → Chg S w w' → K (a.put o.dst (.slice ra (n + m) rc)) w') : o.wp Try.prog a w K Q :=
  wp_own Try.underlying31 (z := .int .i64 0) (size := 1) (bytes := 8) (by kernel_rfl) rfl (by decide) ho hs hx hown hsrc hl h1 hb hn hS hK
theorem fld_81_0 {w : World} {a : Act} {K : Act → World → Prop} {Q : Exit → Act → World → Prop} {o : Oper} {x : Operand} {b p : Nat} (ho : o.op = .fieldAddr 81 x 0) (hx : a.eval x = .pointer (some ⟨b, p, none⟩)) (hK : K (a.put o.dst (.pointer (some ⟨b, p, none⟩))) w) : o.wp Try.prog a w K Q := by
  unfold Oper.wp execOp
  simp only [ho, hx]
  go_simp
  exact hK
theorem ld_26 {w : World} {a : Act} {K : Act → World → Prop} {Q : Exit → Act → World → Prop} {o : Oper} {x : Operand} {p : Addr} {v : Value} (ho : o.op = .load 26 x) (hx : a.eval x = .pointer (some p)) (hc : w.cell? p = some v) (hK : K (a.put o.dst (v)) w) : o.wp Try.prog a w K Q := by
  unfold Oper.wp execOp
  simp only [ho, hx]
  go_simp
  exact hK
theorem nilCheck_ {w : World} {a : Act} {K : Act → World → Prop} {Q : Exit → Act → World → Prop} {o : Oper} {x : Operand} {p : Addr} (ho : o.op = .nilCheck x) (hx : a.eval x = .pointer (some p)) (hK : K (a.put o.dst (.pointer (some p))) w) : o.wp Try.prog a w K Q := by
  unfold Oper.wp execOp
  simp only [ho, hx]
  go_simp
  exact hK
theorem fld_70_1 {w : World} {a : Act} {K : Act → World → Prop} {Q : Exit → Act → World → Prop} {o : Oper} {x : Operand} {b p : Nat} (ho : o.op = .fieldAddr 70 x 1) (hx : a.eval x = .pointer (some ⟨b, p, none⟩)) (hK : K (a.put o.dst (.pointer (some ⟨b, p + 1, none⟩))) w) : o.wp Try.prog a w K Q := by
  unfold Oper.wp execOp
  simp only [ho, hx]
  go_simp
  exact hK
theorem ld_68 {w : World} {a : Act} {K : Act → World → Prop} {Q : Exit → Act → World → Prop} {o : Oper} {x : Operand} {p : Addr} {v : Value} (ho : o.op = .load 68 x) (hx : a.eval x = .pointer (some p)) (hc : w.cell? p = some v) (hK : K (a.put o.dst (v)) w) : o.wp Try.prog a w K Q := by
  unfold Oper.wp execOp
  simp only [ho, hx]
  go_simp
  exact hK
theorem ix_68 {w : World} {a : Act} {K : Act → World → Prop} {Q : Exit → Act → World → Prop} {o : Oper} {x y : Operand} {r : Option Addr} {b p n c k : Nat} (ho : o.op = .indexAddr 68 x y) (hx : a.eval x = .slice r n c) (hr : r = some ⟨b, p, none⟩) (hy : a.eval y = .int .i64 (k : Int)) (hk : k < n) (hK : K (a.put o.dst (.pointer (some ⟨b, p + k * 5, none⟩))) w) : o.wp Try.prog a w K Q := by
  subst hr
  have h0 : (0 : Int) ≤ (k : Int) := by omega
  have h1 : (k : Int) < (n : Int) := by omega
  unfold Oper.wp execOp
  simp only [ho, hx, hy]
  go_simp
  exact hK
theorem fld_83_0 {w : World} {a : Act} {K : Act → World → Prop} {Q : Exit → Act → World → Prop} {o : Oper} {x : Operand} {b p : Nat} (ho : o.op = .fieldAddr 83 x 0) (hx : a.eval x = .pointer (some ⟨b, p, none⟩)) (hK : K (a.put o.dst (.pointer (some ⟨b, p, none⟩))) w) : o.wp Try.prog a w K Q := by
  unfold Oper.wp execOp
  simp only [ho, hx]
  go_simp
  exact hK
theorem st_3 {w : World} {a : Act} {K : Act → World → Prop} {Q : Exit → Act → World → Prop} {o : Oper} {x y : Operand} {g p : Nat} {ty : TypeId} {cs : Array Value} {c0 : Int} (ho : o.op = .store 3 x y) (hx : a.eval x = .pointer (some ⟨g, p, none⟩)) (hy : a.eval y = .int .i64 c0) (hB : Blk w g ty cs) (hp : p + 0 < cs.size) (hK : ∀ v, K (a.put o.dst v) (w.setCell ⟨g, p, none⟩ (.int .i64 c0))) : o.wp Try.prog a w K Q := by
  have h0 := (hB.cell (p)).trans (Array.getElem?_eq_getElem (by first | omega | (simp; omega)))
  have f0 := hB.frozen (p)
  clear hB
  unfold Oper.wp execOp
  simp only [ho, hx, hy]
  go_simp
  exact hK _
theorem fld_81_1 {w : World} {a : Act} {K : Act → World → Prop} {Q : Exit → Act → World → Prop} {o : Oper} {x : Operand} {b p : Nat} (ho : o.op = .fieldAddr 81 x 1) (hx : a.eval x = .pointer (some ⟨b, p, none⟩)) (hK : K (a.put o.dst (.pointer (some ⟨b, p + 1, none⟩))) w) : o.wp Try.prog a w K Q := by
  unfold Oper.wp execOp
  simp only [ho, hx]
  go_simp
  exact hK
theorem ld_4 {w : World} {a : Act} {K : Act → World → Prop} {Q : Exit → Act → World → Prop} {o : Oper} {x : Operand} {p : Addr} {v : Value} (ho : o.op = .load 4 x) (hx : a.eval x = .pointer (some p)) (hc : w.cell? p = some v) (hK : K (a.put o.dst (v)) w) : o.wp Try.prog a w K Q := by
  unfold Oper.wp execOp
  simp only [ho, hx]
  go_simp
  exact hK
theorem st_4 {w : World} {a : Act} {K : Act → World → Prop} {Q : Exit → Act → World → Prop} {o : Oper} {x y : Operand} {g p : Nat} {ty : TypeId} {cs : Array Value} {c0 : Bool} (ho : o.op = .store 4 x y) (hx : a.eval x = .pointer (some ⟨g, p, none⟩)) (hy : a.eval y = .bool c0) (hB : Blk w g ty cs) (hp : p + 0 < cs.size) (hK : ∀ v, K (a.put o.dst v) (w.setCell ⟨g, p, none⟩ (.bool c0))) : o.wp Try.prog a w K Q := by
  have h0 := (hB.cell (p)).trans (Array.getElem?_eq_getElem (by first | omega | (simp; omega)))
  have f0 := hB.frozen (p)
  clear hB
  unfold Oper.wp execOp
  simp only [ho, hx, hy]
  go_simp
  exact hK _
theorem fld_70_2 {w : World} {a : Act} {K : Act → World → Prop} {Q : Exit → Act → World → Prop} {o : Oper} {x : Operand} {b p : Nat} (ho : o.op = .fieldAddr 70 x 2) (hx : a.eval x = .pointer (some ⟨b, p, none⟩)) (hK : K (a.put o.dst (.pointer (some ⟨b, p + 2, none⟩))) w) : o.wp Try.prog a w K Q := by
  unfold Oper.wp execOp
  simp only [ho, hx]
  go_simp
  exact hK
theorem ld_67 {w : World} {a : Act} {K : Act → World → Prop} {Q : Exit → Act → World → Prop} {o : Oper} {x : Operand} {p : Addr} {v : Value} (ho : o.op = .load 67 x) (hx : a.eval x = .pointer (some p)) (hc : w.cell? p = some v) (hK : K (a.put o.dst (v)) w) : o.wp Try.prog a w K Q := by
  unfold Oper.wp execOp
  simp only [ho, hx]
  go_simp
  exact hK
theorem ld_77 {w : World} {a : Act} {K : Act → World → Prop} {Q : Exit → Act → World → Prop} {o : Oper} {x : Operand} {b p : Nat} {c0 c1 : Value} (ho : o.op = .load 77 x) (hx : a.eval x = .pointer (some ⟨b, p, none⟩)) (h0 : w.cell? ⟨b, p, none⟩ = some c0) (h1 : w.cell? ⟨b, p + 1, none⟩ = some c1) (hK : K (a.put o.dst (.agg #[c0, c1])) w) : o.wp Try.prog a w K Q := by
  unfold Oper.wp execOp
  simp only [ho, hx]
  go_simp
  exact hK
theorem ext2_0 {w : World} {a : Act} {K : Act → World → Prop} {Q : Exit → Act → World → Prop} {o : Oper} {x : Operand} {v0 v1 : Value} (ho : o.op = .extract x 0) (hx : a.eval x = .tuple #[v0, v1]) (hK : K (a.put o.dst (v0)) w) : o.wp Try.prog a w K Q := by
  unfold Oper.wp execOp
  simp only [ho, hx]
  go_simp
  exact hK
theorem ext2_1 {w : World} {a : Act} {K : Act → World → Prop} {Q : Exit → Act → World → Prop} {o : Oper} {x : Operand} {v0 v1 : Value} (ho : o.op = .extract x 1) (hx : a.eval x = .tuple #[v0, v1]) (hK : K (a.put o.dst (v1)) w) : o.wp Try.prog a w K Q := by
  unfold Oper.wp execOp
  simp only [ho, hx]
  go_simp
  exact hK
theorem len_68 {w : World} {a : Act} {K : Act → World → Prop} {Q : Exit → Act → World → Prop} {o : Oper} {x : Operand} {r : Option Addr} {n c : Nat} (ho : o.op = .call { callee := .builtin .len, args := #[x], argTypes := #[68] }) (hx : a.eval x = .slice r n c) (hK : K (a.put o.dst (.int .i64 n)) w) : o.wp Try.prog a w K Q := by
  unfold Oper.wp execOp
  simp only [ho, resolve, List.map_toArray, List.map_cons, List.map_nil, hx]
  go_simp
  exact hK
theorem ld_81 {w : World} {a : Act} {K : Act → World → Prop} {Q : Exit → Act → World → Prop} {o : Oper} {x : Operand} {b p : Nat} {c0 c1 : Value} (ho : o.op = .load 81 x) (hx : a.eval x = .pointer (some ⟨b, p, none⟩)) (h0 : w.cell? ⟨b, p, none⟩ = some c0) (h1 : w.cell? ⟨b, p + 1, none⟩ = some c1) (hK : K (a.put o.dst (.agg #[c0, c1])) w) : o.wp Try.prog a w K Q := by
  unfold Oper.wp execOp
  simp only [ho, hx]
  go_simp
  exact hK
theorem build_83_0_1_2_3 {w : World} {a : Act} {K : Act → World → Prop} {Q : Exit → Act → World → Prop} {o : Oper} {x0 x1 x2 x3 : Operand} {c0 c1 : Value} {c2 : Int} {c3a : Option Addr} {c3n c3c : Nat} {c4a : Option Addr} {c4n c4c : Nat} (ho : o.op = .build 83 #[(0, x0), (1, x1), (2, x2), (3, x3)]) (h0 : a.eval x0 = .agg #[c0, c1]) (h1 : a.eval x1 = .int .i64 c2) (h2 : a.eval x2 = .slice c3a c3n c3c) (h3 : a.eval x3 = .slice c4a c4n c4c) (hK : K (a.put o.dst (.agg #[c0, c1, .int .i64 c2, .slice c3a c3n c3c, .slice c4a c4n c4c])) w) : o.wp Try.prog a w K Q := by
  unfold Oper.wp execOp
  simp only [ho, List.map_toArray, List.map_cons, List.map_nil, h0, h1, h2, h3]
  go_simp
  exact hK
theorem row_68_1 {w : World} {a : Act} {K : Act → World → Prop} {Q : Exit → Act → World → Prop} {o : Oper} {x0 : Operand} {c0 c1 c2 c3 c4 : Value} (ho : o.op = .buildSlice 68 1 #[(0, x0)]) (h0 : a.eval x0 = .agg #[c0, c1, c2, c3, c4]) (hK : K (a.put o.dst (.slice (some ⟨w.heap.size, 0, none⟩) 1 1)) (w.alloc (.cells #[c0, c1, c2, c3, c4] 83))) : o.wp Try.prog a w K Q := by
  unfold Oper.wp execOp
  simp only [ho, List.map_toArray, List.map_cons, List.map_nil, h0]
  go_simp
  exact hK
theorem st_68 {w : World} {a : Act} {K : Act → World → Prop} {Q : Exit → Act → World → Prop} {o : Oper} {x y : Operand} {g p : Nat} {ty : TypeId} {cs : Array Value} {c0a : Option Addr} {c0n c0c : Nat} (ho : o.op = .store 68 x y) (hx : a.eval x = .pointer (some ⟨g, p, none⟩)) (hy : a.eval y = .slice c0a c0n c0c) (hB : Blk w g ty cs) (hp : p + 0 < cs.size) (hK : ∀ v, K (a.put o.dst v) (w.setCell ⟨g, p, none⟩ (.slice c0a c0n c0c))) : o.wp Try.prog a w K Q := by
  have h0 := (hB.cell (p)).trans (Array.getElem?_eq_getElem (by first | omega | (simp; omega)))
  have f0 := hB.frozen (p)
  clear hB
  unfold Oper.wp execOp
  simp only [ho, hx, hy]
  go_simp
  exact hK _
theorem shi_31 {w : World} {a : Act} {K : Act → World → Prop} {Q : Exit → Act → World → Prop} {o : Oper} {x hi : Operand} {r : Option Addr} {n c k : Nat} (ho : o.op = .slice 31 x none (some hi) none) (hx : a.eval x = .slice r n c) (hl : a.eval hi = .int .i64 (k : Int)) (hk : k ≤ c) (hK : K (a.put o.dst (.slice r k c)) w) : o.wp Try.prog a w K Q := by
  have h0 : (0 : Int) ≤ (k : Int) := by omega
  have h1 : (k : Int) ≤ (c : Int) := by omega
  unfold Oper.wp execOp
  simp only [ho, hx, hl, Option.map_some, Option.map_none]
  go_simp
  exact hK
theorem fld_83_3 {w : World} {a : Act} {K : Act → World → Prop} {Q : Exit → Act → World → Prop} {o : Oper} {x : Operand} {b p : Nat} (ho : o.op = .fieldAddr 83 x 3) (hx : a.eval x = .pointer (some ⟨b, p, none⟩)) (hK : K (a.put o.dst (.pointer (some ⟨b, p + 4, none⟩))) w) : o.wp Try.prog a w K Q := by
  unfold Oper.wp execOp
  simp only [ho, hx]
  go_simp
  exact hK
theorem ld_31 {w : World} {a : Act} {K : Act → World → Prop} {Q : Exit → Act → World → Prop} {o : Oper} {x : Operand} {p : Addr} {v : Value} (ho : o.op = .load 31 x) (hx : a.eval x = .pointer (some p)) (hc : w.cell? p = some v) (hK : K (a.put o.dst (v)) w) : o.wp Try.prog a w K Q := by
  unfold Oper.wp execOp
  simp only [ho, hx]
  go_simp
  exact hK
theorem st_31 {w : World} {a : Act} {K : Act → World → Prop} {Q : Exit → Act → World → Prop} {o : Oper} {x y : Operand} {g p : Nat} {ty : TypeId} {cs : Array Value} {c0a : Option Addr} {c0n c0c : Nat} (ho : o.op = .store 31 x y) (hx : a.eval x = .pointer (some ⟨g, p, none⟩)) (hy : a.eval y = .slice c0a c0n c0c) (hB : Blk w g ty cs) (hp : p + 0 < cs.size) (hK : ∀ v, K (a.put o.dst v) (w.setCell ⟨g, p, none⟩ (.slice c0a c0n c0c))) : o.wp Try.prog a w K Q := by
  have h0 := (hB.cell (p)).trans (Array.getElem?_eq_getElem (by first | omega | (simp; omega)))
  have f0 := hB.frozen (p)
  clear hB
  unfold Oper.wp execOp
  simp only [ho, hx, hy]
  go_simp
  exact hK _
theorem fld_70_0 {w : World} {a : Act} {K : Act → World → Prop} {Q : Exit → Act → World → Prop} {o : Oper} {x : Operand} {b p : Nat} (ho : o.op = .fieldAddr 70 x 0) (hx : a.eval x = .pointer (some ⟨b, p, none⟩)) (hK : K (a.put o.dst (.pointer (some ⟨b, p, none⟩))) w) : o.wp Try.prog a w K Q := by
  unfold Oper.wp execOp
  simp only [ho, hx]
  go_simp
  exact hK
theorem build_35_ {w : World} {a : Act} {K : Act → World → Prop} {Q : Exit → Act → World → Prop} {o : Oper}   (ho : o.op = .build 35 #[])  (hK : K (a.put o.dst (.agg #[.int .i64 0, .slice none 0 0])) w) : o.wp Try.prog a w K Q := by
  unfold Oper.wp execOp
  simp only [ho, List.map_toArray, List.map_cons, List.map_nil, ]
  go_simp
  exact hK
theorem ld_83 {w : World} {a : Act} {K : Act → World → Prop} {Q : Exit → Act → World → Prop} {o : Oper} {x : Operand} {b p : Nat} {c0 c1 c2 c3 c4 : Value} (ho : o.op = .load 83 x) (hx : a.eval x = .pointer (some ⟨b, p, none⟩)) (h0 : w.cell? ⟨b, p, none⟩ = some c0) (h1 : w.cell? ⟨b, p + 1, none⟩ = some c1) (h2 : w.cell? ⟨b, p + 2, none⟩ = some c2) (h3 : w.cell? ⟨b, p + 3, none⟩ = some c3) (h4 : w.cell? ⟨b, p + 4, none⟩ = some c4) (hK : K (a.put o.dst (.agg #[c0, c1, c2, c3, c4])) w) : o.wp Try.prog a w K Q := by
  unfold Oper.wp execOp
  simp only [ho, hx]
  go_simp
  exact hK
theorem alloc_83 {w : World} {a : Act} {K : Act → World → Prop} {Q : Exit → Act → World → Prop} {o : Oper} (ho : o.op = .alloc 83) (hK : K (a.put o.dst (.pointer (some ⟨w.heap.size, 0, none⟩))) (w.alloc (.cells #[.int .i64 0, .bool false, .int .i64 0, .slice none 0 0, .slice none 0 0] 83))) : o.wp Try.prog a w K Q := by
  unfold Oper.wp execOp
  simp only [ho]
  go_simp
  exact hK
theorem st_83 {w : World} {a : Act} {K : Act → World → Prop} {Q : Exit → Act → World → Prop} {o : Oper} {x y : Operand} {g p : Nat} {ty : TypeId} {cs : Array Value} {c0 c1 c2 c3 c4 : Value} (ho : o.op = .store 83 x y) (hx : a.eval x = .pointer (some ⟨g, p, none⟩)) (hy : a.eval y = .agg #[c0, c1, c2, c3, c4]) (k0 : c0.oneCell' = true) (k1 : c1.oneCell' = true) (k2 : c2.oneCell' = true) (k3 : c3.oneCell' = true) (k4 : c4.oneCell' = true) (hB : Blk w g ty cs) (hp : p + 4 < cs.size) (hK : ∀ v, K (a.put o.dst v) (((((w.setCell ⟨g, p, none⟩ c0).setCell ⟨g, p + 1, none⟩ c1).setCell ⟨g, p + 2, none⟩ c2).setCell ⟨g, p + 3, none⟩ c3).setCell ⟨g, p + 4, none⟩ c4)) : o.wp Try.prog a w K Q := by
  have h0 := (hB.cell (p)).trans (Array.getElem?_eq_getElem (by first | omega | (simp; omega)))
  have f0 := hB.frozen (p)
  have hB := hB.set_ (p) c0
  have h1 := (hB.cell (p + 1)).trans (Array.getElem?_eq_getElem (by first | omega | (simp; omega)))
  have f1 := hB.frozen (p + 1)
  have hB := hB.set_ (p + 1) c1
  have h2 := (hB.cell (p + 2)).trans (Array.getElem?_eq_getElem (by first | omega | (simp; omega)))
  have f2 := hB.frozen (p + 2)
  have hB := hB.set_ (p + 2) c2
  have h3 := (hB.cell (p + 3)).trans (Array.getElem?_eq_getElem (by first | omega | (simp; omega)))
  have f3 := hB.frozen (p + 3)
  have hB := hB.set_ (p + 3) c3
  have h4 := (hB.cell (p + 4)).trans (Array.getElem?_eq_getElem (by first | omega | (simp; omega)))
  have f4 := hB.frozen (p + 4)
  have s0 := fun w a m => run_store Try.prog w a c0 m k0
  have s1 := fun w a m => run_store Try.prog w a c1 m k1
  have s2 := fun w a m => run_store Try.prog w a c2 m k2
  have s3 := fun w a m => run_store Try.prog w a c3 m k3
  have s4 := fun w a m => run_store Try.prog w a c4 m k4
  clear hB
  unfold Oper.wp execOp
  simp only [ho, hx, hy]
  go_simp
  exact hK _
theorem fld_83_1 {w : World} {a : Act} {K : Act → World → Prop} {Q : Exit → Act → World → Prop} {o : Oper} {x : Operand} {b p : Nat} (ho : o.op = .fieldAddr 83 x 1) (hx : a.eval x = .pointer (some ⟨b, p, none⟩)) (hK : K (a.put o.dst (.pointer (some ⟨b, p + 2, none⟩))) w) : o.wp Try.prog a w K Q := by
  unfold Oper.wp execOp
  simp only [ho, hx]
  go_simp
  exact hK
theorem build_35_0 {w : World} {a : Act} {K : Act → World → Prop} {Q : Exit → Act → World → Prop} {o : Oper} {x0 : Operand} {c0 : Int} (ho : o.op = .build 35 #[(0, x0)]) (h0 : a.eval x0 = .int .i64 c0) (hK : K (a.put o.dst (.agg #[.int .i64 c0, .slice none 0 0])) w) : o.wp Try.prog a w K Q := by
  unfold Oper.wp execOp
  simp only [ho, List.map_toArray, List.map_cons, List.map_nil, h0]
  go_simp
  exact hK
theorem fld_83_2 {w : World} {a : Act} {K : Act → World → Prop} {Q : Exit → Act → World → Prop} {o : Oper} {x : Operand} {b p : Nat} (ho : o.op = .fieldAddr 83 x 2) (hx : a.eval x = .pointer (some ⟨b, p, none⟩)) (hK : K (a.put o.dst (.pointer (some ⟨b, p + 3, none⟩))) w) : o.wp Try.prog a w K Q := by
  unfold Oper.wp execOp
  simp only [ho, hx]
  go_simp
  exact hK
theorem row_25_1 {w : World} {a : Act} {K : Act → World → Prop} {Q : Exit → Act → World → Prop} {o : Oper} {x0 : Operand} {c0 c1 : Value} (ho : o.op = .buildSlice 25 1 #[(0, x0)]) (h0 : a.eval x0 = .agg #[c0, c1]) (hK : K (a.put o.dst (.slice (some ⟨w.heap.size, 0, none⟩) 1 1)) (w.alloc (.cells #[c0, c1] 35))) : o.wp Try.prog a w K Q := by
  unfold Oper.wp execOp
  simp only [ho, List.map_toArray, List.map_cons, List.map_nil, h0]
  go_simp
  exact hK
theorem st_25 {w : World} {a : Act} {K : Act → World → Prop} {Q : Exit → Act → World → Prop} {o : Oper} {x y : Operand} {g p : Nat} {ty : TypeId} {cs : Array Value} {c0a : Option Addr} {c0n c0c : Nat} (ho : o.op = .store 25 x y) (hx : a.eval x = .pointer (some ⟨g, p, none⟩)) (hy : a.eval y = .slice c0a c0n c0c) (hB : Blk w g ty cs) (hp : p + 0 < cs.size) (hK : ∀ v, K (a.put o.dst v) (w.setCell ⟨g, p, none⟩ (.slice c0a c0n c0c))) : o.wp Try.prog a w K Q := by
  have h0 := (hB.cell (p)).trans (Array.getElem?_eq_getElem (by first | omega | (simp; omega)))
  have f0 := hB.frozen (p)
  clear hB
  unfold Oper.wp execOp
  simp only [ho, hx, hy]
  go_simp
  exact hK _
theorem neqp_26 {w : World} {a : Act} {K : Act → World → Prop} {Q : Exit → Act → World → Prop} {o : Oper} {x y : Operand} {p : Addr} (ho : o.op = .binOp .neq 26 x y 26) (hx : a.eval x = .pointer (some p)) (hy : a.eval y = .pointer none) (hK : K (a.put o.dst (.bool true)) w) : o.wp Try.prog a w K Q := by
  unfold Oper.wp execOp
  simp only [ho, hx, hy]
  go_simp
  exact hK
theorem alloc_31 {w : World} {a : Act} {K : Act → World → Prop} {Q : Exit → Act → World → Prop} {o : Oper} (ho : o.op = .alloc 31) (hK : K (a.put o.dst (.pointer (some ⟨w.heap.size, 0, none⟩))) (w.alloc (.cells #[.slice none 0 0] 31))) : o.wp Try.prog a w K Q := by
  unfold Oper.wp execOp
  simp only [ho]
  go_simp
  exact hK
theorem box_3 {w : World} {a : Act} {K : Act → World → Prop} {Q : Exit → Act → World → Prop} {o : Oper} {x : Operand} {c0 : Int} (ho : o.op = .box 3 x) (hx : a.eval x = .int .i64 c0) (hK : K (a.put o.dst (.pointer (some ⟨w.heap.size, 0, none⟩))) (w.alloc (.cells #[.int .i64 c0] 3))) : o.wp Try.prog a w K Q := by
  unfold Oper.wp execOp
  simp only [ho, hx]
  go_simp
  exact hK
theorem eqlfn_85 {w : World} {a : Act} {K : Act → World → Prop} {Q : Exit → Act → World → Prop} {o : Oper} {x y : Operand} {f : Fn} {xs ys : Array Value} (ho : o.op = .binOp .eql 85 x y 85) (hx : a.eval x = .func f xs ys) (hy : a.eval y = .nilFunc) (hK : K (a.put o.dst (.bool false)) w) : o.wp Try.prog a w K Q := by
  unfold Oper.wp execOp
  simp only [ho, hx, hy]
  go_simp
  exact hK
theorem eql_3 {w : World} {a : Act} {K : Act → World → Prop} {Q : Exit → Act → World → Prop} {o : Oper} {x y : Operand} {m n : Int} (ho : o.op = .binOp .eql 3 x y 3) (hx : a.eval x = .int .i64 m) (hy : a.eval y = .int .i64 n) (hK : K (a.put o.dst (.bool (m == n))) w) : o.wp Try.prog a w K Q := by
  unfold Oper.wp execOp
  simp only [ho, hx, hy]
  go_simp
  exact hK
theorem alloc_24 {w : World} {a : Act} {K : Act → World → Prop} {Q : Exit → Act → World → Prop} {o : Oper} (ho : o.op = .alloc 24) (hK : K (a.put o.dst (.pointer (some ⟨w.heap.size, 0, none⟩))) (w.alloc (.cells #[.slice none 0 0] 24))) : o.wp Try.prog a w K Q := by
  unfold Oper.wp execOp
  simp only [ho]
  go_simp
  exact hK
theorem build_66_0 {w : World} {a : Act} {K : Act → World → Prop} {Q : Exit → Act → World → Prop} {o : Oper} {x0 : Operand} {c0 : ByteArray} (ho : o.op = .build 66 #[(0, x0)]) (h0 : a.eval x0 = .string c0) (hK : K (a.put o.dst (.agg #[.string c0, .int .i64 0, .bool false])) w) : o.wp Try.prog a w K Q := by
  unfold Oper.wp execOp
  simp only [ho, List.map_toArray, List.map_cons, List.map_nil, h0]
  go_simp
  exact hK
theorem build_66_0_1 {w : World} {a : Act} {K : Act → World → Prop} {Q : Exit → Act → World → Prop} {o : Oper} {x0 x1 : Operand} {c0 : ByteArray} {c1 : Int} (ho : o.op = .build 66 #[(0, x0), (1, x1)]) (h0 : a.eval x0 = .string c0) (h1 : a.eval x1 = .int .i64 c1) (hK : K (a.put o.dst (.agg #[.string c0, .int .i64 c1, .bool false])) w) : o.wp Try.prog a w K Q := by
  unfold Oper.wp execOp
  simp only [ho, List.map_toArray, List.map_cons, List.map_nil, h0, h1]
  go_simp
  exact hK
theorem build_66_0_1_2 {w : World} {a : Act} {K : Act → World → Prop} {Q : Exit → Act → World → Prop} {o : Oper} {x0 x1 x2 : Operand} {c0 : ByteArray} {c1 : Int} {c2 : Bool} (ho : o.op = .build 66 #[(0, x0), (1, x1), (2, x2)]) (h0 : a.eval x0 = .string c0) (h1 : a.eval x1 = .int .i64 c1) (h2 : a.eval x2 = .bool c2) (hK : K (a.put o.dst (.agg #[.string c0, .int .i64 c1, .bool c2])) w) : o.wp Try.prog a w K Q := by
  unfold Oper.wp execOp
  simp only [ho, List.map_toArray, List.map_cons, List.map_nil, h0, h1, h2]
  go_simp
  exact hK
theorem row_22_4 {w : World} {a : Act} {K : Act → World → Prop} {Q : Exit → Act → World → Prop} {o : Oper} {x0 x1 x2 x3 : Operand} {c0 c1 c2 : Value} {c3 c4 c5 : Value} {c6 c7 c8 : Value} {c9 c10 c11 : Value} (ho : o.op = .buildSlice 22 4 #[(0, x0), (1, x1), (2, x2), (3, x3)]) (h0 : a.eval x0 = .agg #[c0, c1, c2]) (h1 : a.eval x1 = .agg #[c3, c4, c5]) (h2 : a.eval x2 = .agg #[c6, c7, c8]) (h3 : a.eval x3 = .agg #[c9, c10, c11]) (hK : K (a.put o.dst (.slice (some ⟨w.heap.size, 0, none⟩) 4 4)) (w.alloc (.cells #[c0, c1, c2, c3, c4, c5, c6, c7, c8, c9, c10, c11] 66))) : o.wp Try.prog a w K Q := by
  unfold Oper.wp execOp
  simp only [ho, List.map_toArray, List.map_cons, List.map_nil, h0, h1, h2, h3]
  go_simp
  exact hK
theorem st_24 {w : World} {a : Act} {K : Act → World → Prop} {Q : Exit → Act → World → Prop} {o : Oper} {x y : Operand} {g p : Nat} {ty : TypeId} {cs : Array Value} {c0 : Value} (ho : o.op = .store 24 x y) (hx : a.eval x = .pointer (some ⟨g, p, none⟩)) (hy : a.eval y = .agg #[c0]) (k0 : c0.oneCell' = true) (hB : Blk w g ty cs) (hp : p + 0 < cs.size) (hK : ∀ v, K (a.put o.dst v) (w.setCell ⟨g, p, none⟩ c0)) : o.wp Try.prog a w K Q := by
  have h0 := (hB.cell (p)).trans (Array.getElem?_eq_getElem (by first | omega | (simp; omega)))
  have f0 := hB.frozen (p)
  have s0 := fun w a m => run_store Try.prog w a c0 m k0
  clear hB
  unfold Oper.wp execOp
  simp only [ho, hx, hy]
  go_simp
  exact hK _
theorem eqlp_26 {w : World} {a : Act} {K : Act → World → Prop} {Q : Exit → Act → World → Prop} {o : Oper} {x y : Operand} {p : Addr} (ho : o.op = .binOp .eql 26 x y 26) (hx : a.eval x = .pointer (some p)) (hy : a.eval y = .pointer none) (hK : K (a.put o.dst (.bool false)) w) : o.wp Try.prog a w K Q := by
  unfold Oper.wp execOp
  simp only [ho, hx, hy]
  go_simp
  exact hK
theorem eqln_26 {w : World} {a : Act} {K : Act → World → Prop} {Q : Exit → Act → World → Prop} {o : Oper} {x y : Operand} (ho : o.op = .binOp .eql 26 x y 26) (hx : a.eval x = .pointer none) (hy : a.eval y = .pointer none) (hK : K (a.put o.dst (.bool true)) w) : o.wp Try.prog a w K Q := by
  unfold Oper.wp execOp
  simp only [ho, hx, hy]
  go_simp
  exact hK
theorem row_25_2 {w : World} {a : Act} {K : Act → World → Prop} {Q : Exit → Act → World → Prop} {o : Oper} {x0 x1 : Operand} {c0 c1 : Value} {c2 c3 : Value} (ho : o.op = .buildSlice 25 2 #[(0, x0), (1, x1)]) (h0 : a.eval x0 = .agg #[c0, c1]) (h1 : a.eval x1 = .agg #[c2, c3]) (hK : K (a.put o.dst (.slice (some ⟨w.heap.size, 0, none⟩) 2 2)) (w.alloc (.cells #[c0, c1, c2, c3] 35))) : o.wp Try.prog a w K Q := by
  unfold Oper.wp execOp
  simp only [ho, List.map_toArray, List.map_cons, List.map_nil, h0, h1]
  go_simp
  exact hK
theorem build_35_0_1 {w : World} {a : Act} {K : Act → World → Prop} {Q : Exit → Act → World → Prop} {o : Oper} {x0 x1 : Operand} {c0 : Int} {c1a : Option Addr} {c1n c1c : Nat} (ho : o.op = .build 35 #[(0, x0), (1, x1)]) (h0 : a.eval x0 = .int .i64 c0) (h1 : a.eval x1 = .slice c1a c1n c1c) (hK : K (a.put o.dst (.agg #[.int .i64 c0, .slice c1a c1n c1c])) w) : o.wp Try.prog a w K Q := by
  unfold Oper.wp execOp
  simp only [ho, List.map_toArray, List.map_cons, List.map_nil, h0, h1]
  go_simp
  exact hK
theorem build_24_ {w : World} {a : Act} {K : Act → World → Prop} {Q : Exit → Act → World → Prop} {o : Oper}   (ho : o.op = .build 24 #[])  (hK : K (a.put o.dst (.agg #[.slice none 0 0])) w) : o.wp Try.prog a w K Q := by
  unfold Oper.wp execOp
  simp only [ho, List.map_toArray, List.map_cons, List.map_nil, ]
  go_simp
  exact hK
theorem eql_27 {w : World} {a : Act} {K : Act → World → Prop} {Q : Exit → Act → World → Prop} {o : Oper} {x y : Operand} {m n : Int} (ho : o.op = .binOp .eql 27 x y 27) (hx : a.eval x = .int .i64 m) (hy : a.eval y = .int .i64 n) (hK : K (a.put o.dst (.bool (m == n))) w) : o.wp Try.prog a w K Q := by
  unfold Oper.wp execOp
  simp only [ho, hx, hy]
  go_simp
  exact hK
theorem gtr_3 {w : World} {a : Act} {K : Act → World → Prop} {Q : Exit → Act → World → Prop} {o : Oper} {x y : Operand} {m n : Int} (ho : o.op = .binOp .gtr 3 x y 3) (hx : a.eval x = .int .i64 m) (hy : a.eval y = .int .i64 n) (hK : K (a.put o.dst (.bool (decide (n < m)))) w) : o.wp Try.prog a w K Q := by
  unfold Oper.wp execOp
  simp only [ho, hx, hy]
  go_simp
  exact hK
theorem neq_4 {w : World} {a : Act} {K : Act → World → Prop} {Q : Exit → Act → World → Prop} {o : Oper} {x y : Operand} {m n : Bool} (ho : o.op = .binOp .neq 4 x y 4) (hx : a.eval x = .bool m) (hy : a.eval y = .bool n) (hK : K (a.put o.dst (.bool (m != n))) w) : o.wp Try.prog a w K Q := by
  unfold Oper.wp execOp
  simp only [ho, hx, hy]
  go_simp
  exact hK
theorem neq_3 {w : World} {a : Act} {K : Act → World → Prop} {Q : Exit → Act → World → Prop} {o : Oper} {x y : Operand} {m n : Int} (ho : o.op = .binOp .neq 3 x y 3) (hx : a.eval x = .int .i64 m) (hy : a.eval y = .int .i64 n) (hK : K (a.put o.dst (.bool (m != n))) w) : o.wp Try.prog a w K Q := by
  unfold Oper.wp execOp
  simp only [ho, hx, hy]
  go_simp
  exact hK
theorem alloc_4 {w : World} {a : Act} {K : Act → World → Prop} {Q : Exit → Act → World → Prop} {o : Oper} (ho : o.op = .alloc 4) (hK : K (a.put o.dst (.pointer (some ⟨w.heap.size, 0, none⟩))) (w.alloc (.cells #[.bool false] 4))) : o.wp Try.prog a w K Q := by
  unfold Oper.wp execOp
  simp only [ho]
  go_simp
  exact hK
theorem len_22 {w : World} {a : Act} {K : Act → World → Prop} {Q : Exit → Act → World → Prop} {o : Oper} {x : Operand} {r : Option Addr} {n c : Nat} (ho : o.op = .call { callee := .builtin .len, args := #[x], argTypes := #[22] }) (hx : a.eval x = .slice r n c) (hK : K (a.put o.dst (.int .i64 n)) w) : o.wp Try.prog a w K Q := by
  unfold Oper.wp execOp
  simp only [ho, resolve, List.map_toArray, List.map_cons, List.map_nil, hx]
  go_simp
  exact hK
theorem ix_22 {w : World} {a : Act} {K : Act → World → Prop} {Q : Exit → Act → World → Prop} {o : Oper} {x y : Operand} {r : Option Addr} {b p n c k : Nat} (ho : o.op = .indexAddr 22 x y) (hx : a.eval x = .slice r n c) (hr : r = some ⟨b, p, none⟩) (hy : a.eval y = .int .i64 (k : Int)) (hk : k < n) (hK : K (a.put o.dst (.pointer (some ⟨b, p + k * 3, none⟩))) w) : o.wp Try.prog a w K Q := by
  subst hr
  have h0 : (0 : Int) ≤ (k : Int) := by omega
  have h1 : (k : Int) < (n : Int) := by omega
  unfold Oper.wp execOp
  simp only [ho, hx, hy]
  go_simp
  exact hK
theorem fld_66_1 {w : World} {a : Act} {K : Act → World → Prop} {Q : Exit → Act → World → Prop} {o : Oper} {x : Operand} {b p : Nat} (ho : o.op = .fieldAddr 66 x 1) (hx : a.eval x = .pointer (some ⟨b, p, none⟩)) (hK : K (a.put o.dst (.pointer (some ⟨b, p + 1, none⟩))) w) : o.wp Try.prog a w K Q := by
  unfold Oper.wp execOp
  simp only [ho, hx]
  go_simp
  exact hK
theorem fld_66_2 {w : World} {a : Act} {K : Act → World → Prop} {Q : Exit → Act → World → Prop} {o : Oper} {x : Operand} {b p : Nat} (ho : o.op = .fieldAddr 66 x 2) (hx : a.eval x = .pointer (some ⟨b, p, none⟩)) (hK : K (a.put o.dst (.pointer (some ⟨b, p + 2, none⟩))) w) : o.wp Try.prog a w K Q := by
  unfold Oper.wp execOp
  simp only [ho, hx]
  go_simp
  exact hK
theorem alloc_3 {w : World} {a : Act} {K : Act → World → Prop} {Q : Exit → Act → World → Prop} {o : Oper} (ho : o.op = .alloc 3) (hK : K (a.put o.dst (.pointer (some ⟨w.heap.size, 0, none⟩))) (w.alloc (.cells #[.int .i64 0] 3))) : o.wp Try.prog a w K Q := by
  unfold Oper.wp execOp
  simp only [ho]
  go_simp
  exact hK
theorem alloc_107 {w : World} {a : Act} {K : Act → World → Prop} {Q : Exit → Act → World → Prop} {o : Oper} (ho : o.op = .alloc 107) (hK : K (a.put o.dst (.pointer (some ⟨w.heap.size, 0, none⟩))) (w.alloc (.cells #[.nilFunc] 107))) : o.wp Try.prog a w K Q := by
  unfold Oper.wp execOp
  simp only [ho]
  go_simp
  exact hK
theorem st_107 {w : World} {a : Act} {K : Act → World → Prop} {Q : Exit → Act → World → Prop} {o : Oper} {x y : Operand} {g p : Nat} {ty : TypeId} {cs : Array Value} {c0f : Fn} {c0x c0y : Array Value} (ho : o.op = .store 107 x y) (hx : a.eval x = .pointer (some ⟨g, p, none⟩)) (hy : a.eval y = .func c0f c0x c0y) (hB : Blk w g ty cs) (hp : p + 0 < cs.size) (hK : ∀ v, K (a.put o.dst v) (w.setCell ⟨g, p, none⟩ (.func c0f c0x c0y))) : o.wp Try.prog a w K Q := by
  have h0 := (hB.cell (p)).trans (Array.getElem?_eq_getElem (by first | omega | (simp; omega)))
  have f0 := hB.frozen (p)
  have s0 := fun w a m => run_store Try.prog w a (.func c0f c0x c0y) m rfl
  clear hB
  unfold Oper.wp execOp
  simp only [ho, hx, hy]
  go_simp
  exact hK _
theorem ld_107 {w : World} {a : Act} {K : Act → World → Prop} {Q : Exit → Act → World → Prop} {o : Oper} {x : Operand} {p : Addr} {v : Value} (ho : o.op = .load 107 x) (hx : a.eval x = .pointer (some p)) (hc : w.cell? p = some v) (hK : K (a.put o.dst (v)) w) : o.wp Try.prog a w K Q := by
  unfold Oper.wp execOp
  simp only [ho, hx]
  go_simp
  exact hK
theorem negb_3 {w : World} {a : Act} {K : Act → World → Prop} {Q : Exit → Act → World → Prop} {o : Oper} {x : Operand} {m r : Int} (ho : o.op = .unOp .neg 3 x) (hx : a.eval x = .int .i64 m) (hr : IntKind.i64.wrap (-m) = r) (hK : K (a.put o.dst (.int .i64 r)) w) : o.wp Try.prog a w K Q := by
  subst hr
  unfold Oper.wp execOp
  simp only [ho, hx]
  go_simp
  exact hK
theorem geq_5 {w : World} {a : Act} {K : Act → World → Prop} {Q : Exit → Act → World → Prop} {o : Oper} {x y : Operand} {m n : Int} (ho : o.op = .binOp .geq 5 x y 5) (hx : a.eval x = .int .u8 m) (hy : a.eval y = .int .u8 n) (hK : K (a.put o.dst (.bool (decide (n ≤ m)))) w) : o.wp Try.prog a w K Q := by
  unfold Oper.wp execOp
  simp only [ho, hx, hy]
  go_simp
  exact hK
theorem leq_5 {w : World} {a : Act} {K : Act → World → Prop} {Q : Exit → Act → World → Prop} {o : Oper} {x y : Operand} {m n : Int} (ho : o.op = .binOp .leq 5 x y 5) (hx : a.eval x = .int .u8 m) (hy : a.eval y = .int .u8 n) (hK : K (a.put o.dst (.bool (decide (m ≤ n)))) w) : o.wp Try.prog a w K Q := by
  unfold Oper.wp execOp
  simp only [ho, hx, hy]
  go_simp
  exact hK
theorem eql_5 {w : World} {a : Act} {K : Act → World → Prop} {Q : Exit → Act → World → Prop} {o : Oper} {x y : Operand} {m n : Int} (ho : o.op = .binOp .eql 5 x y 5) (hx : a.eval x = .int .u8 m) (hy : a.eval y = .int .u8 n) (hK : K (a.put o.dst (.bool (m == n))) w) : o.wp Try.prog a w K Q := by
  unfold Oper.wp execOp
  simp only [ho, hx, hy]
  go_simp
  exact hK
theorem len_9 {w : World} {a : Act} {K : Act → World → Prop} {Q : Exit → Act → World → Prop} {o : Oper} {x : Operand} {s : ByteArray} (ho : o.op = .call { callee := .builtin .len, args := #[x], argTypes := #[9] }) (hx : a.eval x = .string s) (hK : K (a.put o.dst (.int .i64 s.size)) w) : o.wp Try.prog a w K Q := by
  unfold Oper.wp execOp
  simp only [ho, resolve, List.map_toArray, List.map_cons, List.map_nil, hx]
  go_simp
  exact hK
theorem bix_9 {w : World} {a : Act} {K : Act → World → Prop} {Q : Exit → Act → World → Prop} {o : Oper} {x y : Operand} {s : ByteArray} {k : Nat} (ho : o.op = .index 9 x y) (hx : a.eval x = .string s) (hy : a.eval y = .int .i64 (k : Int)) (hk : k < s.size) (hK : K (a.put o.dst (.int .u8 (bget s k))) w) : o.wp Try.prog a w K Q := by
  have h0 : (0 : Int) ≤ (k : Int) := by omega
  have h1 : (k : Int) < (s.size : Int) := by omega
  have hb : bget s k = (s[k].toNat : Int) := bget_lt hk
  rw [hb] at hK
  unfold Oper.wp execOp
  simp only [ho, hx, hy]
  go_simp
  exact hK
theorem neq_9 {w : World} {a : Act} {K : Act → World → Prop} {Q : Exit → Act → World → Prop} {o : Oper} {x y : Operand} {m n : ByteArray} (ho : o.op = .binOp .neq 9 x y 9) (hx : a.eval x = .string m) (hy : a.eval y = .string n) (hK : K (a.put o.dst (.bool (!decide (m = n)))) w) : o.wp Try.prog a w K Q := by
  rw [← bytes_eq m n] at hK
  unfold Oper.wp execOp
  simp only [ho, hx, hy]
  go_simp
  exact hK
theorem leq_3 {w : World} {a : Act} {K : Act → World → Prop} {Q : Exit → Act → World → Prop} {o : Oper} {x y : Operand} {m n : Int} (ho : o.op = .binOp .leq 3 x y 3) (hx : a.eval x = .int .i64 m) (hy : a.eval y = .int .i64 n) (hK : K (a.put o.dst (.bool (decide (m ≤ n)))) w) : o.wp Try.prog a w K Q := by
  unfold Oper.wp execOp
  simp only [ho, hx, hy]
  go_simp
  exact hK
theorem box_66 {w : World} {a : Act} {K : Act → World → Prop} {Q : Exit → Act → World → Prop} {o : Oper} {x : Operand} {c0 c1 c2 : Value} (ho : o.op = .box 66 x) (hx : a.eval x = .agg #[c0, c1, c2]) (hK : K (a.put o.dst (.pointer (some ⟨w.heap.size, 0, none⟩))) (w.alloc (.cells #[c0, c1, c2] 66))) : o.wp Try.prog a w K Q := by
  unfold Oper.wp execOp
  simp only [ho, hx]
  go_simp
  exact hK
theorem fld_66_0 {w : World} {a : Act} {K : Act → World → Prop} {Q : Exit → Act → World → Prop} {o : Oper} {x : Operand} {b p : Nat} (ho : o.op = .fieldAddr 66 x 0) (hx : a.eval x = .pointer (some ⟨b, p, none⟩)) (hK : K (a.put o.dst (.pointer (some ⟨b, p, none⟩))) w) : o.wp Try.prog a w K Q := by
  unfold Oper.wp execOp
  simp only [ho, hx]
  go_simp
  exact hK
theorem ld_9 {w : World} {a : Act} {K : Act → World → Prop} {Q : Exit → Act → World → Prop} {o : Oper} {x : Operand} {p : Addr} {v : Value} (ho : o.op = .load 9 x) (hx : a.eval x = .pointer (some p)) (hc : w.cell? p = some v) (hK : K (a.put o.dst (v)) w) : o.wp Try.prog a w K Q := by
  unfold Oper.wp execOp
  simp only [ho, hx]
  go_simp
  exact hK
theorem alloc_66 {w : World} {a : Act} {K : Act → World → Prop} {Q : Exit → Act → World → Prop} {o : Oper} (ho : o.op = .alloc 66) (hK : K (a.put o.dst (.pointer (some ⟨w.heap.size, 0, none⟩))) (w.alloc (.cells #[.string ⟨#[]⟩, .int .i64 0, .bool false] 66))) : o.wp Try.prog a w K Q := by
  unfold Oper.wp execOp
  simp only [ho]
  go_simp
  exact hK
theorem build_66_0_2 {w : World} {a : Act} {K : Act → World → Prop} {Q : Exit → Act → World → Prop} {o : Oper} {x0 x1 : Operand} {c0 : ByteArray} {c2 : Bool} (ho : o.op = .build 66 #[(0, x0), (2, x1)]) (h0 : a.eval x0 = .string c0) (h1 : a.eval x1 = .bool c2) (hK : K (a.put o.dst (.agg #[.string c0, .int .i64 0, .bool c2])) w) : o.wp Try.prog a w K Q := by
  unfold Oper.wp execOp
  simp only [ho, List.map_toArray, List.map_cons, List.map_nil, h0, h1]
  go_simp
  exact hK
theorem st_66 {w : World} {a : Act} {K : Act → World → Prop} {Q : Exit → Act → World → Prop} {o : Oper} {x y : Operand} {g p : Nat} {ty : TypeId} {cs : Array Value} {c0 c1 c2 : Value} (ho : o.op = .store 66 x y) (hx : a.eval x = .pointer (some ⟨g, p, none⟩)) (hy : a.eval y = .agg #[c0, c1, c2]) (k0 : c0.oneCell' = true) (k1 : c1.oneCell' = true) (k2 : c2.oneCell' = true) (hB : Blk w g ty cs) (hp : p + 2 < cs.size) (hK : ∀ v, K (a.put o.dst v) (((w.setCell ⟨g, p, none⟩ c0).setCell ⟨g, p + 1, none⟩ c1).setCell ⟨g, p + 2, none⟩ c2)) : o.wp Try.prog a w K Q := by
  have h0 := (hB.cell (p)).trans (Array.getElem?_eq_getElem (by first | omega | (simp; omega)))
  have f0 := hB.frozen (p)
  have hB := hB.set_ (p) c0
  have h1 := (hB.cell (p + 1)).trans (Array.getElem?_eq_getElem (by first | omega | (simp; omega)))
  have f1 := hB.frozen (p + 1)
  have hB := hB.set_ (p + 1) c1
  have h2 := (hB.cell (p + 2)).trans (Array.getElem?_eq_getElem (by first | omega | (simp; omega)))
  have f2 := hB.frozen (p + 2)
  have s0 := fun w a m => run_store Try.prog w a c0 m k0
  have s1 := fun w a m => run_store Try.prog w a c1 m k1
  have s2 := fun w a m => run_store Try.prog w a c2 m k2
  clear hB
  unfold Oper.wp execOp
  simp only [ho, hx, hy]
  go_simp
  exact hK _
theorem ld_66 {w : World} {a : Act} {K : Act → World → Prop} {Q : Exit → Act → World → Prop} {o : Oper} {x : Operand} {b p : Nat} {c0 c1 c2 : Value} (ho : o.op = .load 66 x) (hx : a.eval x = .pointer (some ⟨b, p, none⟩)) (h0 : w.cell? ⟨b, p, none⟩ = some c0) (h1 : w.cell? ⟨b, p + 1, none⟩ = some c1) (h2 : w.cell? ⟨b, p + 2, none⟩ = some c2) (hK : K (a.put o.dst (.agg #[c0, c1, c2])) w) : o.wp Try.prog a w K Q := by
  unfold Oper.wp execOp
  simp only [ho, hx]
  go_simp
  exact hK
theorem slo_22 {w : World} {a : Act} {K : Act → World → Prop} {Q : Exit → Act → World → Prop} {o : Oper} {x lo : Operand} {r : Option Addr} {n c k : Nat} (ho : o.op = .slice 22 x (some lo) none none) (hx : a.eval x = .slice r n c) (hl : a.eval lo = .int .i64 (k : Int)) (hk : k ≤ n) (hc : n ≤ c) (hK : K (a.put o.dst (.slice (slA r k 3 c) (n - k) (c - k))) w) : o.wp Try.prog a w K Q := by
  have h0 : (0 : Int) ≤ (k : Int) := by omega
  have h1 : (k : Int) ≤ (n : Int) := by omega
  unfold slA at hK
  unfold Oper.wp execOp
  simp only [ho, hx, hl, Option.map_some, Option.map_none]
  go_simp
  exact hK
theorem eqlnil_22 {w : World} {a : Act} {K : Act → World → Prop} {Q : Exit → Act → World → Prop} {o : Oper} {x y : Operand} {r : Option Addr} {n c : Nat} (ho : o.op = .binOp .eql 22 x y 22) (hx : a.eval x = .slice r n c) (hy : a.eval y = .slice none 0 0) (hK : K (a.put o.dst (.bool (r.isNone))) w) : o.wp Try.prog a w K Q := by
  unfold Oper.wp execOp
  simp only [ho, hx, hy]
  cases r
  · go_simp; exact hK
  · go_simp; exact hK
theorem row_22_0 {w : World} {a : Act} {K : Act → World → Prop} {Q : Exit → Act → World → Prop} {o : Oper}   (ho : o.op = .buildSlice 22 0 #[])  (hK : K (a.put o.dst (.slice (some ⟨w.heap.size, 0, none⟩) 0 0)) (w.alloc (.cells #[] 66))) : o.wp Try.prog a w K Q := by
  unfold Oper.wp execOp
  simp only [ho, List.map_toArray, List.map_cons, List.map_nil, ]
  go_simp
  exact hK
theorem app_22 {w : World} {a : Act} {K : Act → World → Prop} {Q : Exit → Act → World → Prop} {o : Oper} {s x : Operand} {n m rc : Nat} {S : Nat → Prop} {ra : Option Addr} {y : Value} {xs news : List Value} (ho : o.op = .call { callee := .builtin .append, args := #[s, x], argTypes := #[22, 22] }) (hs : a.eval s = .slice ra n rc) (hx : a.eval x = y) (hown : Own w S 66 3 ra rc n xs) (hsrc : SrcIs w y m news) (hl : news.length = m * 3) (h1 : ∀ u ∈ news, u.oneCell' = true)
    (hb : (n + m) * 32 ≤ 140737488355328) (hn : n + m ≤ 9223372036854775807) (hS : S w.heap.size) (hK : ∀ ra rc w', Own w' S 66 3 ra rc (n + m) (xs ++ news) → Chg S w w' → K (a.put o.dst (.slice ra (n + m) rc)) w') : o.wp Try.prog a w K Q :=
  wp_own Try.underlying22 (z := .agg #[.string ⟨#[]⟩, .int .i64 0, .bool false]) (size := 3) (bytes := 32) (by kernel_rfl) rfl (by decide) ho hs hx hown hsrc hl h1 hb hn hS hK
end Go.Proofs.Ytbohlpfndiiimaa

/- The text of numbers: the key of an entry. -/
namespace Go.Proofs.Ytbohlpfndiiimaa
open Go.RowKit Go
set_option linter.unusedVariables false
set_option linter.unusedSimpArgs false
/-- The row of bytes while it grows: it lies in a block of its own, behind 'B', not in 'g'. -/
def KR (w : World) (B g : Nat) (a : Option Addr) (c n : Nat) (L : List UInt8) : Prop := RowD eltU (fun _ => False) w 5 a c n L ∧ (∀ b, obk a n c = some b → B ≤ b ∧ b ≠ g) ∧ a ≠ none
theorem KR.below {w w' : World} {B g c n : Nat} {a : Option Addr} {L : List UInt8} (h : KR w B g a c n L) (hb : Below w.heap.size w w') : KR w' B g a c n L := ⟨h.1.below hb, h.2⟩
theorem KR.upd {w w' : World} {B g c n q : Nat} {a : Option Addr} {L : List UInt8} (h : KR w B g a c n L) (hu : Upd q w w') (hq : q = g ∨ q < B) : KR w' B g a c n L :=
 ⟨h.1.chg (Z := fun b => b = q) (.ofUpd hu rfl) (fun b e e2 => by have z := h.2.1 b e; have e3 : b = q := e2; omega) (fun b e => e.elim), h.2⟩
set_option maxRecDepth 100000 in
theorem keyOf_any (f : Int) (l : List Nat) (hlz : l.length ≤ 4294967296) (hlb : ∀ x ∈ l, x < 9223372036854775808) (S : Nat → Prop) (w : World) (a : Option Addr) (c : Nat) (hl : InRow eltN S w l a) :
  Calls Try.prog 35 #[.int .i64 f, .slice a l.length c] w (Ret fun v' w' => v' = keyV ⟨f, l⟩ ∧ Below w.heap.size w w') := by
 obtain ⟨lb, lo, hla, hlc⟩ := InRow.openN hl
 refine Calls.walk (l := [.int .i64 f, .slice a l.length c]) Try.func35 rfl (by kernel_rfl) ?_
 refine WC.sub (K' := [(0, .int .i64 f), (1, .slice a l.length c)]) ⟨rfl, rfl, trivial⟩ ?_
 refine WC.seq (WC.region ?_)
 refine WL.step (post := NewBlk w 77 #[.int .i64 0, .string (⟨#[]⟩)]) rfl rfl rfl (fun za zC zh zk => alloc_77 rfl (zk _ _ (newBlk _ _ _))) ?_
 rintro _ w1 ⟨g2, rfl, hg3, hB4, hb5, hz6⟩
 have hl7 : w.heap.size ≤ g2 := by omega
 refine WL.nil (WE.next (WC.seq (WC.region (WL.mv rfl rfl rfl rfl rfl ?_))))
 refine WL.val (.int .i64 (((l.length : Nat) : Int))) rfl rfl rfl (fun za zC zh zk => len_31 rfl (zh.ev rfl) zk) ?_
 refine WL.val (.int .i64 ((((8 * l.length) : Nat) : Int))) rfl rfl rfl (fun za zC zh zk => mulb_3 rfl (zh.ev rfl) (zh.ev rfl) (wrap_eq (by omega) (by omega) (by omega)) zk) ?_
 have hb11 : Below w.heap.size w w1 := hb5
 have hgw : w.heap.size ≤ g2 := by omega
 have hgl := hB4.lt
 refine WL.step (post := fun v w' => ∃ r, v = .slice (some ⟨r, 0, none⟩) 0 (8 * l.length) ∧ RowD eltU (fun _ => False) w' 5 (some ⟨r, 0, none⟩) (8 * l.length) 0 [] ∧ Below w1.heap.size w1 w' ∧ r = w1.heap.size) rfl rfl rfl (fun za zC zh zk => wp_mk0 (E := eltU) (size := 1) (bytes := 1) (z := .int .u8 0) rfl Try.underlying100 (by kernel_rfl) rfl (zh.ev rfl) (zh.ev rfl) (by omega) (by unfold maxLen; omega) (fun w' h1 h2 _ => zk _ _ ⟨_, rfl, h1, h2, rfl⟩)) ?_
 rintro _ w8 ⟨r12, rfl, hr9, hb10, rfl⟩
 have hkr0 : KR w8 w.heap.size g2 ((some ⟨w1.heap.size, 0, none⟩)) ((8 * l.length)) 0 ([]) := ⟨hr9, fun b e => by have e2 : w1.heap.size = b := Option.some.inj e; have z := hb11.size; omega, fun e => nomatch e⟩
 refine WL.asg rfl rfl rfl rfl rfl (WL.nil (WE.next (WC.seq (WC.seq (WC.region (WL.mv rfl rfl rfl rfl rfl ?_))))))
 refine WL.val (.int .i64 (((l.length : Nat) : Int))) rfl rfl rfl (fun za zC zh zk => len_31 rfl (zh.ev rfl) zk) ?_
 refine WL.mv rfl rfl rfl rfl rfl (WL.nil (WE.next (WC.block ?_)))
 refine WC.loop (X := Option Addr × Nat × Nat × Nat) (fun x => l.length - x.2.2.2) (fun x => [(0, .int .i64 f), (1, .slice a l.length c), (4, .pointer (some ⟨g2, 0, none⟩)), (5, .slice x.1 x.2.2.1 x.2.1), (13, .slice a l.length c), (14, .int .i64 (((l.length : Nat) : Int))), (15, .int .i64 (((x.2.2.2 : Nat) : Int)))]) (fun x w14 => x.2.2.2 ≤ l.length ∧ x.2.2.1 = 8 * x.2.2.2 ∧ Below w.heap.size w w14 ∧ Blk w14 g2 77 #[.int .i64 0, (.string ⟨#[]⟩)] ∧ KR (w14) w.heap.size g2 x.1 x.2.1 x.2.2.1 ((kbs (l.take x.2.2.2)))) (((some ⟨w1.heap.size, 0, none⟩), (8 * l.length), 0, 0)) ⟨rfl, rfl, rfl, rfl, rfl, rfl, rfl, trivial⟩ ?_ ?_
 ·have hb15 : Below w.heap.size w w8 := (bstep hb5 hb10)
  have hB16 := hB4.below hb10
  exact ⟨Nat.zero_le _, rfl, hb15, hB16, hkr0⟩
 ·rintro x w14 ⟨hkx, hnx, hb17, hB18, ho19⟩
  refine WC.seq (WC.region ?_)
  refine WL.val (.bool ((decide ((((x.2.2.2 : Nat) : Int) : Int) < (((l.length : Nat) : Int) : Int))))) rfl rfl rfl (fun za zC zh zk => lss_3 rfl (zh.ev rfl) (zh.ev rfl) zk) ?_
  refine WL.nil (WE.next (WC.seq ?_))
  refine WC.cond rfl (fun h20 => ?_) (fun h20 => ?_)
  ·have h20 : (((x.2.2.2 : Nat) : Int) : Int) < (((l.length : Nat) : Int) : Int) := by simpa using h20
   refine WC.skip (WE.next (WC.seq (WC.block (WC.seq (WC.region ?_)))))
   refine WL.val _ rfl rfl rfl (fun za zC zh zk => ix_31 (k := x.2.2.2) rfl (zh.ev rfl) (hla x.2.2.2 (by first | omega | (simp; omega))) (zh.ev rfl) (by first | omega | (simp; omega)) zk) ?_
   refine WL.val _ rfl rfl rfl (fun za zC zh zk => ld_3 rfl (zh.ev rfl) (bkeeps hb17 _ _ (hlc x.2.2.2 (by first | omega | (simp; omega)))) zk) ?_
   refine WL.asg rfl rfl rfl rfl rfl (WL.nil (WE.next (WC.seq (WC.region (WL.asg rfl rfl rfl rfl rfl (WL.nil (WE.next (WC.block ?_))))))))
   refine WC.loop (X := Option Addr × Nat × Nat × Nat) (fun y => 8 - y.2.2.2) (fun y => [(0, .int .i64 f), (1, .slice a l.length c), (4, .pointer (some ⟨g2, 0, none⟩)), (5, .slice y.1 y.2.2.1 y.2.1), (7, .int .i64 ((((aget l x.2.2.2) : Nat) : Int))), (8, .int .i64 ((((8 * y.2.2.2) : Nat) : Int))), (13, .slice a l.length c), (14, .int .i64 (((l.length : Nat) : Int))), (15, .int .i64 (((x.2.2.2 : Nat) : Int))), (16, .bool ((decide ((((x.2.2.2 : Nat) : Int) : Int) < (((l.length : Nat) : Int) : Int)))))]) (fun y w21 => y.2.2.2 ≤ 8 ∧ y.2.2.1 = x.2.2.1 + y.2.2.2 ∧ Below w.heap.size w w21 ∧ Blk w21 g2 77 #[.int .i64 0, (.string ⟨#[]⟩)] ∧ KR (w21) w.heap.size g2 y.1 y.2.1 y.2.2.1 (((kbs (l.take x.2.2.2)) ++ (b8 (aget l x.2.2.2)).take y.2.2.2))) ((x.1, x.2.1, x.2.2.1, 0)) ⟨rfl, rfl, rfl, rfl, rfl, rfl, rfl, rfl, rfl, rfl, trivial⟩ ?_ ?_
   ·exact ⟨Nat.zero_le _, rfl, hb17, hB18, (by (try dsimp only); rw [List.take_zero, List.append_nil]; exact ho19)⟩
   ·rintro y w21 ⟨hjy, hny, hb22, hB23, ho24⟩
    refine WC.seq (WC.seq (WC.region (WL.mv rfl rfl rfl rfl rfl ?_)))
    refine WL.val (.bool ((decide (((((8 * y.2.2.2) : Nat) : Int) : Int) < (64 : Int))))) rfl rfl rfl (fun za zC zh zk => lss_3 rfl (zh.ev rfl) (zh.ev rfl) zk) ?_
    refine WL.nil (WE.next ?_)
    refine WC.cond rfl (fun h25 => ?_) (fun h25 => ?_)
    ·have h25 : ((((8 * y.2.2.2) : Nat) : Int) : Int) < (64 : Int) := by simpa using h25
     refine WC.skip (WE.next (WC.seq (WC.block (WC.region (WL.mv rfl rfl rfl rfl rfl (WL.mv rfl rfl rfl rfl rfl (WL.mv rfl rfl rfl rfl rfl ?_)))))))
     refine WL.val (.int .u64 ((8 * y.2.2.2 : Nat) : Int)) rfl rfl rfl (fun za zC zh zk => wp_cvt (by kernel_rfl) (by kernel_rfl) rfl (zh.ev rfl) (by rw [show IntKind.wrap .u64 ((8 * y.2.2.2 : Nat) : Int) = ((8 * y.2.2.2 : Nat) : Int) from u64_id (by omega)]; exact zk)) ?_
     refine WL.val (.int .i64 (((aget l x.2.2.2 / 2 ^ (8 * y.2.2.2)) : Nat) : Int)) rfl rfl rfl (fun za zC zh zk => wp_shr rfl (zh.ev rfl) (zh.ev rfl) (by show _ ≤ 64; omega) (by rw [show Int.fdiv ((aget l x.2.2.2 : Nat) : Int) (2 ^ (8 * y.2.2.2)) = (((aget l x.2.2.2 / 2 ^ (8 * y.2.2.2)) : Nat) : Int) from fdiv_pow _ _]; exact zk)) ?_
     refine WL.val (.int .u8 (((UInt8.ofNat (aget l x.2.2.2 / 2 ^ (8 * y.2.2.2))).toNat : Nat) : Int)) rfl rfl rfl (fun za zC zh zk => wp_cvt (by kernel_rfl) (by kernel_rfl) rfl (zh.ev rfl) (by rw [u8_of]; exact zk)) ?_
     refine WL.step (post := NewRow w21 5 #[.int .u8 ((((UInt8.ofNat (aget l x.2.2.2 / 2 ^ (8 * y.2.2.2))).toNat : Nat) : Int))] 1) rfl rfl rfl (fun za zC zh zk => row_100_1 rfl (zh.ev rfl) (zk _ _ (newRow _ _ _ _))) ?_
     rintro _ w26 ⟨g27, rfl, hg28, hB29, hb30, hz31⟩
     have hl32 : g2 < g27 := by have z1 := hB23.lt; omega
     have hl33 : w.heap.size ≤ g27 := by have z2 := (hb22).size; omega
     have hl34 : w21.heap.size ≤ g27 := by omega
     have hB35 := hB23.below hb30
     have ho36 := ho24.below hb30
     have hb38 : Below w.heap.size w w26 := (bstep hb22 hb30)
     have hb37 : Below w.heap.size w w26 := hb38
     have hsz5 := hb37.size
     refine WL.step (post := fun v w' => ∃ ra rc, v = .slice ra (y.2.2.1 + 1) rc ∧ KR w' w.heap.size g2 ra rc (y.2.2.1 + 1) (((kbs (l.take x.2.2.2)) ++ (b8 (aget l x.2.2.2)).take y.2.2.2) ++ [(UInt8.ofNat (aget l x.2.2.2 / 2 ^ (8 * y.2.2.2)))]) ∧ Chg (fun b => obk y.1 y.2.2.1 y.2.1 = some b) w26 w') rfl rfl rfl (fun za zC zh zk => wp_appD (E := eltU) (S2 := fun _ => False) (y := (UInt8.ofNat (aget l x.2.2.2 / 2 ^ (8 * y.2.2.2)))) (size := 1) (bytes := 1) (z := .int .u8 0) rfl Try.underlying100 (by kernel_rfl) rfl (by decide) rfl (zh.ev rfl) (zh.ev rfl) ho36.1 hB29 rfl (fun b q => q.elim) (by omega) (by omega) (fun ra rc w' h1 h2 h3 => zk _ _ ⟨ra, rc, rfl, ⟨h1.mono (fun b q _ => by rcases q.1 with q | q <;> exact q) (fun b q => q.elim), fun b e => by rcases h3 b e with z | z; exact ho36.2.1 b z; (have z2 := hB35.lt; exact ⟨by omega, by omega⟩), fun e => by obtain ⟨b, e2, _⟩ := h1.opn (by omega); rw [e2] at e; cases e⟩, h2⟩)) ?_
     rintro _ w39 ⟨ra40, rc41, rfl, hv42, hc43⟩
     have hb44 := chg_below hb37 hc43 (fun b hb e => by have z := (ho36.2.1 b e).1; omega)
     have hB45 := chg_blk hB35 hc43 (fun e => (ho36.2.1 _ e).2 rfl)
     have hv46 : KR w39 w.heap.size g2 ra40 rc41 ((y.2.2.1 + 1)) (((kbs (l.take x.2.2.2)) ++ (b8 (aget l x.2.2.2)).take (y.2.2.2 + 1))) := by
      have z := hv42
      rw [List.append_assoc, ← b8_take (by omega)] at z; exact z
     refine WL.asg rfl rfl rfl rfl rfl (WL.nil (WE.blockNormal (WE.next (WC.region (WL.mv rfl rfl rfl rfl rfl ?_)))))
     refine WL.val (.int .i64 ((((8 * (y.2.2.2 + 1)) : Nat) : Int))) rfl rfl rfl (fun za zC zh zk => addb_3 rfl (zh.ev rfl) (zh.ev rfl) (wrap_eq (by omega) (by omega) (by omega)) zk) ?_
     refine WL.asg rfl rfl rfl rfl rfl (WL.nil ?_)
     refine WE.round ((ra40, rc41, (y.2.2.1 + 1), y.2.2.2 + 1)) ⟨rfl, rfl, rfl, rfl, rfl, rfl, rfl, rfl, rfl, rfl, trivial⟩ ?_ ?_
     ·exact ⟨(by (try dsimp only); omega), (by (try dsimp only); omega), hb44, hB45, hv46⟩
     ·(try dsimp only); omega
    ·have h25 : ¬ (((((8 * y.2.2.2) : Nat) : Int) : Int) < (64 : Int)) := by simpa using h25
     refine WC.exit (WE.thenExit (WE.thenExit (WE.blockIs rfl (WE.blockNormal (WE.next (WC.region ?_))))))
     refine WL.val (.int .i64 ((((x.2.2.2 + 1) : Nat) : Int))) rfl rfl rfl (fun za zC zh zk => addb_3 rfl (zh.ev rfl) (zh.ev rfl) (wrap_eq (by omega) (by omega) (by omega)) zk) ?_
     refine WL.mv rfl rfl rfl rfl rfl (WL.nil ?_)
     have hy8 : y.2.2.2 = 8 := by omega
     have hv47 : KR w21 w.heap.size g2 y.1 y.2.1 y.2.2.1 ((kbs (l.take (x.2.2.2 + 1)))) := by
      have z := ho24
      rw [hy8, show (b8 (aget l x.2.2.2)).take 8 = b8 (aget l x.2.2.2) from List.take_of_length_le (by rw [b8_len]; exact Nat.le_refl _), ← kbs_snoc, aget_lt (by omega), ← List.take_succ_eq_append_getElem (by omega)] at z; exact z
     refine WE.round ((y.1, y.2.1, y.2.2.1, x.2.2.2 + 1)) ⟨rfl, rfl, rfl, rfl, rfl, rfl, rfl, trivial⟩ ?_ ?_
     ·exact ⟨(by (try dsimp only); omega), (by (try dsimp only); omega), hb22, hB23, hv47⟩
     ·(try dsimp only); omega
  ·have h20 : ¬ ((((x.2.2.2 : Nat) : Int) : Int) < (((l.length : Nat) : Int) : Int)) := by simpa using h20
   refine WC.exit (WE.thenExit (WE.thenExit (WE.blockIs rfl (WE.next (WC.seq (WC.region (WL.mv rfl rfl rfl rfl rfl (WL.mv rfl rfl rfl rfl rfl ?_))))))))
   have hxk : x.2.2.2 = l.length := by omega
   refine WL.val (.string (kba l)) rfl rfl rfl (fun za zC zh zk => wp_b2s (l := kbs l) (by kernel_rfl) (by kernel_rfl) (by kernel_rfl) rfl (zh.ev rfl) ho19.2.2 (by have z := ho19.1; rw [hxk, List.take_of_length_le (Nat.le_refl _)] at z; exact z) zk) ?_
   refine WL.val (.agg #[.int .i64 f, .string ((kba l))]) rfl rfl rfl (fun za zC zh zk => build_77_0_1 rfl (zh.ev rfl) (zh.ev rfl) zk) ?_
   refine WL.step (post := fun _ w' => Upd g2 w14 w' ∧ Blk w' g2 77 #[.int .i64 f, .string ((kba l))]) rfl rfl rfl (fun za zC zh zk => st_77 rfl (zh.ev rfl) (zh.ev rfl) rfl rfl hB18 (by first | decide | simp) (fun v => zk v _ ⟨(Upd.at_ _ _ _ _).trans (Upd.at_ _ _ _ _), (hB18.set_ 0 _).set_ 1 _⟩)) ?_
   rintro v51 w48 ⟨hu49, hB50⟩
   have hb52 := upd_below hb17 hu49 (by omega)
   have ho53 := ho19.upd hu49 (by omega)
   refine WL.nil (WE.next (WC.ret ?_))
   refine WE.retAny (v := .agg #[.int .i64 f, .string ((kba l))]) (fun za zh => ?_) ?_
   ·have z0 : za.tmps[4]?.getD undef = .pointer (some ⟨g2, 0, none⟩) := by rw [← Array.getD_eq_getD_getElem?]; exact zh.knows 4 _ rfl
    have y0_0 : w48.cell? ⟨g2, 0, none⟩ = some (.int .i64 f) := ((hB50.cell 0).trans rfl)
    have y0_1 : w48.cell? ⟨g2, 1, none⟩ = some (.string ((kba l))) := ((hB50.cell 1).trans rfl)
    simp [results, Try.results35, z0, y0_0, y0_1, go_sem]
   ·exact ⟨_, rfl, rfl, hb52⟩
end Go.Proofs.Ytbohlpfndiiimaa

/- Operations, one law a kind and type. -/
namespace Go.Proofs.Ytbohlpfndiiimaa
open Go.RowKit Go
set_option linter.unusedVariables false
set_option linter.unusedSimpArgs false
set_option maxRecDepth 100000
theorem eqlnil_31 {w : World} {a : Act} {K : Act → World → Prop} {Q : Exit → Act → World → Prop} {o : Oper} {x y : Operand} {r : Option Addr} {n c : Nat} (ho : o.op = .binOp .eql 31 x y 31) (hx : a.eval x = .slice r n c) (hy : a.eval y = .slice none 0 0) (hK : K (a.put o.dst (.bool (r.isNone))) w) : o.wp Try.prog a w K Q := by
  unfold Oper.wp execOp
  simp only [ho, hx, hy]
  cases r
  · go_simp; exact hK
  · go_simp; exact hK
theorem row_31_0 {w : World} {a : Act} {K : Act → World → Prop} {Q : Exit → Act → World → Prop} {o : Oper}   (ho : o.op = .buildSlice 31 0 #[])  (hK : K (a.put o.dst (.slice (some ⟨w.heap.size, 0, none⟩) 0 0)) (w.alloc (.cells #[] 3))) : o.wp Try.prog a w K Q := by
  unfold Oper.wp execOp
  simp only [ho, List.map_toArray, List.map_cons, List.map_nil, ]
  go_simp
  exact hK
end Go.Proofs.Ytbohlpfndiiimaa

namespace Go.Proofs.Ytbohlpfndiiimaa
open Go.RowKit Go
set_option linter.unusedVariables false
set_option linter.unusedSimpArgs false
theorem idxN_no {l : List Nat} {x : Nat} (h : ∀ q, q < l.length → aget l q ≠ x) : x ∉ l := fun hm => by
 obtain ⟨q, hq, e⟩ := List.getElem_of_mem hm
 exact h q hq (by rw [aget_lt hq]; exact e)
set_option maxRecDepth 100000 in
theorem nindex_any (l : List Nat) (x : Nat) (S : Nat → Prop) (w : World) (a : Option Addr) (c : Nat) (hl : InRow eltN S w l a) (hz : l.length ≤ 4294967296) : Calls Try.prog 66 #[.slice a l.length c, .int .i64 (x : Int)] w (Ret fun v' w' => (∃ r : Int, v' = .int .i64 r ∧ (0 ≤ r ↔ x ∈ l)) ∧ Below w.heap.size w w') := by
 obtain ⟨lb, lo, hla, hlc⟩ := InRow.openN hl
 refine Calls.walk (l := [.slice a l.length c, .int .i64 (((x : Nat) : Int))]) Try.func66 rfl (by kernel_rfl) ?_
 refine WC.sub (K' := [(0, .slice a l.length c), (1, .int .i64 (((x : Nat) : Int)))]) ⟨rfl, rfl, trivial⟩ ?_
 refine WC.seq (WC.region (WL.asg rfl rfl rfl rfl rfl (WL.nil (WE.next (WC.seq (WC.seq (WC.region (WL.mv rfl rfl rfl rfl rfl ?_))))))))
 refine WL.val (.int .i64 (((l.length : Nat) : Int))) rfl rfl rfl (fun za zC zh zk => len_31 rfl (zh.ev rfl) zk) ?_
 refine WL.mv rfl rfl rfl rfl rfl (WL.nil (WE.next (WC.block ?_)))
 refine WC.loop (X := Nat) (fun k => l.length - k) (fun k => [(0, .slice a l.length c), (1, .int .i64 (((x : Nat) : Int))), (7, .int .i64 (((l.length : Nat) : Int))), (8, .int .i64 (((k : Nat) : Int)))]) (fun k w1 => k ≤ l.length ∧ (∀ q, q < k → aget l q ≠ x) ∧ Below w.heap.size w w1) 0 ⟨rfl, rfl, rfl, rfl, trivial⟩ ?_ ?_
 ·exact ⟨Nat.zero_le _, fun q h => absurd h (Nat.not_lt_zero q), (Below.refl _ _)⟩
 ·rintro k w1 ⟨hk, hall, hb2⟩
  refine WC.seq (WC.region ?_)
  refine WL.val (.bool ((decide ((((k : Nat) : Int) : Int) < (((l.length : Nat) : Int) : Int))))) rfl rfl rfl (fun za zC zh zk => lss_3 rfl (zh.ev rfl) (zh.ev rfl) zk) ?_
  refine WL.nil (WE.next (WC.seq ?_))
  refine WC.cond rfl (fun h3 => ?_) (fun h3 => ?_)
  ·have h3 : (((k : Nat) : Int) : Int) < (((l.length : Nat) : Int) : Int) := by simpa using h3
   refine WC.skip (WE.next (WC.seq (WC.block (WC.seq (WC.region (WL.mv rfl rfl rfl rfl rfl (WL.asg rfl rfl rfl rfl rfl (WL.nil (WE.next (WC.seq (WC.region (WL.mv rfl rfl rfl rfl rfl (WL.mv rfl rfl rfl rfl rfl (WL.mv rfl rfl rfl rfl rfl ?_))))))))))))))
   refine WL.val _ rfl rfl rfl (fun za zC zh zk => ix_31 (k := k) rfl (zh.ev rfl) (hla k (by first | omega | (simp; omega))) (zh.ev rfl) (by first | omega | (simp; omega)) zk) ?_
   refine WL.val _ rfl rfl rfl (fun za zC zh zk => ld_3 rfl (zh.ev rfl) (bkeeps hb2 _ _ (hlc k (by first | omega | (simp; omega)))) zk) ?_
   refine WL.val (.bool (((((x : Nat) : Int) : Int) == ((((aget l k) : Nat) : Int) : Int)))) rfl rfl rfl (fun za zC zh zk => eql_3 rfl (zh.ev rfl) (zh.ev rfl) zk) ?_
   refine WL.nil (WE.next ?_)
   refine WC.cond rfl (fun h4 => ?_) (fun h4 => ?_)
   ·have h4 : (((x : Nat) : Int) : Int) = ((((aget l k) : Nat) : Int) : Int) := by simpa using h4
    refine WC.seq (WC.region (WL.mv rfl rfl rfl rfl rfl (WL.asg rfl rfl rfl rfl rfl (WL.nil (WE.next (WC.ret (WE.blockRet (WE.thenRet (WE.thenRet (WE.blockRet (WE.thenRet (WE.ret1 rfl rfl ?_))))))))))))
    have hxm : x ∈ l := by
     have z : x = aget l k := by omega
     rw [z]; exact aget_mem (by omega)
    exact ⟨_, rfl, ⟨_, rfl, ⟨fun _ => hxm, fun _ => by omega⟩⟩, hb2⟩
   ·have h4 : ¬ ((((x : Nat) : Int) : Int) = ((((aget l k) : Nat) : Int) : Int)) := by simpa using h4
    refine WC.skip (WE.blockNormal (WE.next (WC.region ?_)))
    refine WL.val (.int .i64 ((((k + 1) : Nat) : Int))) rfl rfl rfl (fun za zC zh zk => addb_3 rfl (zh.ev rfl) (zh.ev rfl) (wrap_eq (by omega) (by omega) (by omega)) zk) ?_
    refine WL.mv rfl rfl rfl rfl rfl (WL.nil ?_)
    refine WE.round (k + 1) ⟨rfl, rfl, rfl, rfl, trivial⟩ ?_ ?_
    ·exact ⟨by omega, fun q hq => by
       by_cases e : q = k
       ·rw [e]; omega
       ·exact hall q (by omega), hb2⟩
    ·omega
  ·have h3 : ¬ ((((k : Nat) : Int) : Int) < (((l.length : Nat) : Int) : Int)) := by simpa using h3
   refine WC.exit (WE.thenExit (WE.thenExit (WE.blockIs rfl (WE.next (WC.seq (WC.region (WL.asg rfl rfl rfl rfl rfl (WL.nil (WE.next (WC.ret (WE.ret1 rfl rfl ?_)))))))))))
   exact ⟨_, rfl, ⟨_, rfl, ⟨fun h => absurd h (by decide), fun h => absurd h (idxN_no (fun q hq => hall q (by omega)))⟩⟩, hb2⟩
set_option maxRecDepth 100000 in
theorem ncont_any (l : List Nat) (x : Nat) (S : Nat → Prop) (w : World) (a : Option Addr) (c : Nat) (hl : InRow eltN S w l a) (hz : l.length ≤ 4294967296) : Calls Try.prog 56 #[.slice a l.length c, .int .i64 (x : Int)] w (Ret fun v' w' => v' = .bool (decide (x ∈ l)) ∧ Below w.heap.size w w') := by
 skip
 refine Calls.walk (l := [.slice a l.length c, .int .i64 (((x : Nat) : Int))]) Try.func56 rfl (by kernel_rfl) ?_
 refine WC.sub (K' := [(0, .slice a l.length c), (1, .int .i64 (((x : Nat) : Int)))]) ⟨rfl, rfl, trivial⟩ ?_
 refine WC.seq (WC.region (WL.asg rfl rfl rfl rfl rfl (WL.nil (WE.next (WC.seq (WC.region (WL.mv rfl rfl rfl rfl rfl (WL.mv rfl rfl rfl rfl rfl ?_))))))))
 refine WL.call rfl rfl rfl (fun za zh zC => wp_call (by kernel_rfl) rfl (hv2 (zh.ev rfl) (zh.ev rfl))) (nindex_any l x S _ _ _ (hl.below (Below.refl _ _)) hz) ?_
 rintro _ w1 ⟨⟨r, rfl, hr⟩, hbc⟩
 refine WL.val (.bool ((decide ((0 : Int) ≤ (r : Int))))) rfl rfl rfl (fun za zC zh zk => geq_3 rfl (zh.ev rfl) (zh.ev rfl) zk) ?_
 refine WL.asg rfl rfl rfl rfl rfl (WL.nil (WE.next (WC.ret (WE.ret1 rfl rfl ?_))))
 exact ⟨_, rfl, congrArg Value.bool (by rw [decide_eq_decide]; exact hr), hbc⟩
theorem InRow.takeN {S : Nat → Prop} {w : World} {l : List Nat} {a : Option Addr} (h : InRow eltN S w l a) (n : Nat) : InRow eltN S w (l.take n) a := fun i hi => by
 rw [List.length_take] at hi
 obtain ⟨b, o, cs, h1, h2, h3, h4⟩ := h i (by omega)
 exact ⟨b, o, cs, h1, h2, by rw [List.getElem_take]; exact h3, h4⟩
theorem ncontT_any (l : List Nat) (x n : Nat) (S : Nat → Prop) (w : World) (a : Option Addr) (c : Nat) (hl : InRow eltN S w l a) (hz : l.length ≤ 4294967296) (hn : n ≤ l.length) : Calls Try.prog 56 #[.slice a n c, .int .i64 (x : Int)] w (Ret fun v' w' => v' = .bool (decide (x ∈ l.take n)) ∧ Below w.heap.size w w') := by
 have h := ncont_any (l.take n) x S w a c (hl.takeN n) (by rw [List.length_take]; omega)
 rw [List.length_take, Nat.min_eq_left hn] at h
 exact h
end Go.Proofs.Ytbohlpfndiiimaa
