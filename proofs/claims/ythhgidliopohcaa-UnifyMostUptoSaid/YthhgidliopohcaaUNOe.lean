/- Is a term small? The program. -/
import Derived.Test.YthhgidliopohcaaUNOb
import Derived.Test.YthhgidliopohcaaUNOd
import Derived.Deep.MidRow
import Derived.Test.YthhgidliopohcaaUNOa
import Derived.Scope
import Derived.Test.YthhgidliopohcaaUNOc

/- All pairs are joined, plain: how it stands behind so many of them. -/
namespace Go.Proofs.Ythhgidliopohcaa
open Go.RowKit Go
set_option linter.unusedVariables false
set_option linter.unusedSimpArgs false
mutual
/-- The symbols are ints. -/
def T.sy : T → Prop
  | .mk f l => I64 f ∧ T.syL l
def T.syL : List T → Prop
  | [] => True
  | t :: r => t.sy ∧ T.syL r
end
mutual
theorem IsT.sy {w : World} : ∀ {t : T} {v : Value}, IsT w t v → t.sy
  | .mk f l, v, ⟨h1, _, _, _, _, _, h2⟩ => ⟨h1, IsTs.syL h2⟩
theorem IsTs.syL {w : World} : ∀ {l : List T} {a : Option Addr} {i : Nat}, IsTs w l a i → T.syL l
  | [], _, _, _ => trivial
  | t :: r, a, i, ⟨⟨_, _, _, _, _, _, _, h3⟩, h4⟩ => ⟨IsT.sy h3, IsTs.syL h4⟩
end
def NSy (N : List Pt) : Prop := ∀ p ∈ N, I64 p.fn
theorem NSy.app {N : List Pt} {x : Pt} (h : NSy N) (hx : I64 x.fn) : NSy (N ++ [x]) := fun p hp => by
  rcases List.mem_append.1 hp with q | q
  · exact h p q
  · rw [List.mem_singleton.1 q]; exact hx
theorem NSy.at_ {N : List Pt} (h : NSy N) {i : Nat} (hi : i < N.length) : I64 (pget N i).fn := by rw [pget_lt hi]; exact h _ (List.getElem_mem hi)
mutual
theorem put_sy : ∀ (t : T) (st : NS), t.sy → NSy st.N → NSy (t.put st).1.N
  | .mk f l, st, ⟨h1, h2⟩, h => by
    rw [T.put]
    split
    · unfold NS.var
      split
      · exact h
      · exact h.app h1
    · exact (putL_sy l st h2 h).app h1
theorem putL_sy : ∀ (l : List T) (st : NS), T.syL l → NSy st.N → NSy (T.putL l st).1.N
  | [], st, _, h => h
  | t :: r, st, ⟨h1, h2⟩, h => by rw [T.putL]; exact putL_sy r _ h2 (put_sy t st h1 h)
end
/-- So many pairs have been joined. -/
structure SolveGo (rv : Bool) (l : List (T × T)) (k : Nat) (st : NS) (κ : Nat → Nat) : Prop where
  run : NRun rv (l.take k) ⟨[], fun _ => 0⟩ id (some (st, κ))
  ok : NetOk st
  cl : KCl st.N κ
  len : st.N.length ≤ k * 600
  arg : argN st.N ≤ k * 600
  sy : NSy st.N
theorem SolveGo.start (rv : Bool) (l : List (T × T)) : SolveGo rv l 0 ⟨[], fun _ => 0⟩ id := ⟨.nil _ _, net0_ok, kcl0, Nat.zero_le _, Nat.le_refl _, fun p hp => by simp at hp⟩
theorem prtake_succ {l : List (T × T)} {k : Nat} (h : k < l.length) : l.take (k + 1) = l.take k ++ [((prget l k).1, (prget l k).2)] := by
  rw [List.take_succ_eq_append_getElem h, prget_lt h]
theorem prdrop {l : List (T × T)} {k : Nat} (h : k < l.length) : l = l.take k ++ ((prget l k).1, (prget l k).2) :: l.drop (k + 1) := by
  conv => lhs; rw [← List.take_append_drop k l, List.drop_eq_getElem_cons h, ← prget_lt h]
/-- One pair more: put, and then joined. -/
structure SolvePut (rv : Bool) (l : List (T × T)) (k : Nat) (st st1 st2 : NS) (κ : Nat → Nat) (i j : Nat) : Prop where
  ok1 : NetOk st1
  ok2 : NetOk st2
  len1 : st1.N.length ≤ k * 600 + 300
  len2 : st2.N.length ≤ (k + 1) * 600
  le : st.N.length ≤ st1.N.length
  arg2 : argN st2.N ≤ (k + 1) * 600
  cl : KCl st2.N κ
  hi : i < st2.N.length
  hj : j < st2.N.length
  yes : ∀ κ', Run rv st2.N [(i, j)] κ (some κ') → SolveGo rv l (k + 1) st2 κ'
  no : Run rv st2.N [(i, j)] κ none → NRun rv l ⟨[], fun _ => 0⟩ id none
theorem SolveGo.put {rv : Bool} {l : List (T × T)} {k : Nat} {st : NS} {κ : Nat → Nat} (h : SolveGo rv l k st κ) (hk : k < l.length) (h1 : (prget l k).1.size ≤ 300) (h2 : (prget l k).2.size ≤ 300) (s1 : (prget l k).1.sy) (s2 : (prget l k).2.sy) :
    SolvePut rv l k st ((prget l k).1.put st).1 ((prget l k).2.put ((prget l k).1.put st).1).1 κ ((prget l k).1.put st).2 ((prget l k).2.put ((prget l k).1.put st).1).2 := by
  have p1 := put_ok (prget l k).1 st h.ok
  have p2 := put_ok (prget l k).2 _ p1.1.ok
  have a1 := put_argN (prget l k).1 st h.ok
  have a2 := put_argN (prget l k).2 _ p1.1.ok
  have y1 := put_sy _ st s1 h.sy
  have y2 := put_sy _ _ s2 y1
  have l1 := p1.1.len
  have l2 := p2.1.len
  have e1 := p2.1.le
  have hl := h.len
  have ha := h.arg
  have hc : KCl ((prget l k).2.put ((prget l k).1.put st).1).1.N κ := by
    obtain ⟨M1, m1⟩ := p1.1.ext
    obtain ⟨M2, m2⟩ := p2.1.ext
    rw [m2, m1]; exact h.cl.grow.grow
  have hi : ((prget l k).1.put st).2 < ((prget l k).2.put ((prget l k).1.put st).1).1.N.length := by have := p1.2; omega
  have hIR : InR ((prget l k).2.put ((prget l k).1.put st).1).1.N [(((prget l k).1.put st).2, ((prget l k).2.put ((prget l k).1.put st).1).2)] := fun p hp => by
    rw [List.mem_singleton.1 hp]; exact ⟨hi, p2.2⟩
  refine ⟨p1.1.ok, p2.1.ok, by omega, by omega, p1.1.le, by omega, hc, hi, p2.2, fun κ' hr => ?_, fun hr => ?_⟩
  · have hin : Inv ((prget l k).2.put ((prget l k).1.put st).1).1.N κ [(((prget l k).1.put st).2, ((prget l k).2.put ((prget l k).1.put st).1).2)] := fun p q hp hq e h0 h1 => by
      obtain ⟨z1, z2, z3⟩ := hc.inv p q hp hq e h0 h1
      exact ⟨z1, z2, fun S hS hκ ht => z3 S hS hκ (fun x hx => by simp at hx)⟩
    obtain ⟨hz, _⟩ := Run.ok p2.1.ok.args hr hc.ok hIR hin
    obtain ⟨k1, k2, _⟩ := hz κ' rfl
    exact ⟨by rw [prtake_succ hk]; exact (NRun.snoc h.run).1 κ' hr, p2.1.ok, ⟨k1, k2⟩, by omega, by omega, y2⟩
  · have := (NRun.snoc h.run).2 hr (l.drop (k + 1))
    rw [← prdrop hk] at this; exact this
/-- What may be asked. -/
def wideB (l : List (T × T)) : Bool := decide (l.length ≤ 64) && l.all (fun p => p.1.small 96 && p.2.small 96)
theorem wide_at {l : List (T × T)} (h : l.length ≤ 64) : wideB l = true ↔ ∀ k, k < l.length → (prget l k).1.small 96 = true ∧ (prget l k).2.small 96 = true := by
  unfold wideB
  rw [Bool.and_eq_true, decide_eq_true_eq, List.all_eq_true]
  constructor
  · intro ⟨_, h2⟩ k hk
    have := h2 _ (prget_mem hk)
    rwa [Bool.and_eq_true] at this
  · intro h2
    refine ⟨h, fun p hp => ?_⟩
    obtain ⟨k, hk, rfl⟩ := List.getElem_of_mem hp
    rw [← prget_lt hk, Bool.and_eq_true]; exact h2 k hk
theorem wide_no {l : List (T × T)} {k : Nat} (hk : k < l.length) (h : ¬ ((prget l k).1.small 96 = true ∧ (prget l k).2.small 96 = true)) : wideB l = false := by
  rw [Bool.eq_false_iff]; intro e
  have h64 : l.length ≤ 64 := by unfold wideB at e; rw [Bool.and_eq_true, decide_eq_true_eq] at e; exact e.1
  exact h ((wide_at h64).1 e k hk)
theorem wide_len {l : List (T × T)} (h : 64 < l.length) : wideB l = false := by
  unfold wideB; rw [decide_eq_false (by omega)]; rfl
theorem small_low {t : T} (h : t.small 96 = true) : t.size ≤ 300 ∧ t.low 96 = true := by
  unfold T.small at h
  rw [Bool.and_eq_true, Bool.and_eq_true, decide_eq_true_eq] at h
  exact ⟨h.1.1, h.2⟩
end Go.Proofs.Ythhgidliopohcaa

/- A new net; its variables, read all at once. -/
namespace Go.Proofs.Ythhgidliopohcaa
open Go.RowKit Go
set_option linter.unusedVariables false
set_option linter.unusedSimpArgs false
section
variable {w : World} {a : Act} {K : Act → World → Prop} {Q : Exit → Act → World → Prop} {o : Oper}
def net0 : Array Value := netC none 0 0 none 0 0 (fun _ => 0)
theorem build_net (ho : o.op = .build 54 #[]) (hK : K (a.put o.dst (.agg net0)) w) : o.wp Try.prog a w K Q := by
  have e : (Try.prog.built 54 (((#[] : Array (Nat × Operand)).map fun (i, x) => (i, a.eval x)).toList)) = some net0 := by
    simp only [List.map_toArray, List.map_nil]
    kernel_rfl
  refine wp_build _ _ ho (by rw [e]; rfl) ?_
  rw [e]; exact hK
theorem box_net {x : Operand} {cs : Array Value} (ho : o.op = .box 54 x) (hx : a.eval x = .agg cs) (hK : K (a.put o.dst (.pointer (some ⟨w.heap.size, 0, none⟩))) (w.alloc (.cells cs 54))) : o.wp Try.prog a w K Q := by
  unfold Oper.wp execOp
  simp only [ho, hx]
  go_simp
  exact hK
def varsC (V : Nat → Nat) : List Value := (List.range 96).map (fun v => Value.int .i64 ((V v : Nat) : Int))
theorem ld_vars {x : Operand} {g : Nat} {V : Nat → Nat} (ho : o.op = .load 52 x) (hx : a.eval x = .pointer (some ⟨g, 2, none⟩)) (hc : ∀ v, v < 96 → w.cell? ⟨g, 2 + v, none⟩ = some (.int .i64 ((V v : Nat) : Int))) (hK : K (a.put o.dst (.agg (varsC V).toArray)) w) : o.wp Try.prog a w K Q :=
  wp_load_mid 52 x ho g 2 hx (varsC V) (.array 96 3) (fun j v hv => by
    unfold varsC at hv
    rw [List.getElem?_map] at hv
    by_cases hj : j < 96
    · rw [List.getElem?_range hj] at hv
      obtain rfl := Option.some.inj hv
      exact hc j hj
    · rw [List.getElem?_eq_none (by simpa using hj)] at hv; cases hv) Try.underlying52 rfl (by
      rw [show (varsC V).length = 96 by simp [varsC]]; kernel_rfl) hK
theorem ix_vars {x y : Operand} {V : Nat → Nat} {k : Nat} (ho : o.op = .index 52 x y) (hx : a.eval x = .agg (varsC V).toArray) (hy : a.eval y = .int .i64 (k : Int)) (hk : k < 96) (hK : K (a.put o.dst (.int .i64 ((V k : Nat) : Int))) w) : o.wp Try.prog a w K Q := by
  have h : (varsC V)[k]? = some (.int .i64 ((V k : Nat) : Int)) := by
    unfold varsC
    rw [List.getElem?_map, List.getElem?_range hk]; rfl
  have h0 : (0 : Int) ≤ (k : Int) := by omega
  have h1 : (k : Int) < 96 := by omega
  unfold Oper.wp execOp
  simp only [ho, hx, hy, Instr.index]
  go_simp
  exact hK
end
/-- A new net holds nothing. -/
theorem NetX.new {w : World} {g : Nat} (hB : Blk w g 54 net0) : NetX w g (fun b => b = g) [] [] (fun _ => 0) :=
  ⟨fun _ => False, none, 0, none, 0, ⟨hB, RowD.nil, RowD.nil, (fun b q => nomatch q), (fun b q => nomatch q), (fun b q => q.elim)⟩, (fun b q => by
    rcases q with q | q | q | q
    · exact q
    · cases q
    · cases q
    · cases q), (fun b q => by rw [show b = g from q]; exact hB.lt)⟩
theorem reps0 : Reps [] id (fun _ => 0) := ⟨fun i hi => by simp at hi⟩
theorem MB.made {w : World} {b n : Nat} (hB : Blk w b 59 (madeCells (Value.cells (.agg #[.int .i64 0, .int .i64 0, .bool false])) (n * 3))) : MB w b (List.replicate n ⟨0, 0, false⟩) := by
  refine ⟨_, hB, by rw [size_madeCells, List.length_replicate], fun k hk t ht => ?_⟩
  rw [List.length_replicate] at hk
  have e : mget (List.replicate n (⟨0, 0, false⟩ : Ms)) k = ⟨0, 0, false⟩ := by rw [mget_lt (by simpa using hk)]; simp
  rw [e]
  have hz : Value.cells (.agg #[.int .i64 0, .int .i64 0, .bool false]) = #[.int .i64 0, .int .i64 0, .bool false] := rfl
  unfold madeCells
  rw [hz, Array.getElem?_map, Array.getElem?_range, if_pos (by omega)]
  have hm : (k * 3 + t) % 3 = t := by omega
  show some _ = _
  simp only [Option.map_some, List.size_toArray, List.length_cons, List.length_nil, Nat.zero_add, Nat.reduceAdd, hm]
  match t, ht with
  | 0, _ => rfl
  | 1, _ => rfl
  | 2, _ => rfl
theorem AskOk.new (N : List Pt) (κ : Nat → Nat) : AskOk N κ (List.replicate N.length ⟨0, 0, false⟩) := by
  have e : ∀ k, (mget (List.replicate N.length (⟨0, 0, false⟩ : Ms)) k).sz = 0 := fun k => by
    by_cases h : k < N.length
    · rw [mget_lt (by simpa using h)]; simp
    · rw [mget_ge (by simpa using h)]
  exact ⟨by simp, fun r h => by rw [e] at h; omega, fun r h => by rw [e] at h; omega⟩
end Go.Proofs.Ythhgidliopohcaa

/- Scopes (functions with labels) through which the run goes without a goto. -/
namespace Go.Proofs.Ythhgidliopohcaa
open Go.RowKit Go
set_option linter.unusedVariables false
set_option linter.unusedSimpArgs false
section
variable {P : Program} {n : Fr} {K : Known} {w : World} {Q : Exit → Act → World → Prop} {c : Code}
theorem WC.scope (hr : n.r = none) (h : WC P n K w c (Exit.noGoto Q)) : WC P n K w (.scope c) Q := fun a ha => by
  have z := h a ha
  rw [hr] at z ⊢
  exact wpIn_wide.2 (wp_scope_straight (wpIn_wide.1 z))
theorem WE.scopeRet (h : WE n K w Q .ret) : WE n K w (Exit.noGoto Q) .ret := h
end
end Go.Proofs.Ythhgidliopohcaa

/- Parts are made the same: the program. -/
namespace Go.Proofs.Ythhgidliopohcaa
open Go.RowKit Go
set_option linter.unusedVariables false
set_option linter.unusedSimpArgs false
set_option maxRecDepth 100000 in
theorem pjoin_any (κ d : Nat → Nat) (U : List Nat) (N : List Pt) (V : Nat → Nat) (g : Nat) (Z : Nat → Prop) (i j : Nat) (w : World) (h : NetX w g Z U N V) (hR : Reps U κ d) (hk : KOk N κ) (hN : NOk N) (hi : i < N.length) (hj : j < N.length) (hn : N.length ≤ 1048576) (hs : argN N ≤ 1048576) :
  Calls Try.prog 43 #[.pointer (some ⟨g, 0, none⟩), .int .i64 (i : Int), .int .i64 (j : Int)] w (Ret fun v' w' => ∃ o, Run true N [(i, j)] κ o ∧ v' = .bool o.isSome ∧ Chg Z w w' ∧ ∀ κ', o = some κ' → ∃ U' d', Reps U' κ' d' ∧ NetX w' g Z U' N V) := by
 have hZl := h.lt
 have hC0 := Chg.refl Z w
 refine Calls.walk (l := [.pointer (some ⟨g, 0, none⟩), .int .i64 (((i : Nat) : Int)), .int .i64 (((j : Nat) : Int))]) Try.func43 rfl (by kernel_rfl) ?_
 refine WC.sub (K' := [(0, .pointer (some ⟨g, 0, none⟩)), (1, .int .i64 (((i : Nat) : Int))), (2, .int .i64 (((j : Nat) : Int)))]) ⟨rfl, rfl, rfl, trivial⟩ ?_
 refine WC.seq (WC.region (WL.asg rfl rfl rfl rfl rfl (WL.nil (WE.next (WC.scope rfl (WC.seq (WC.region (WL.mv rfl rfl rfl rfl rfl (WL.mv rfl rfl rfl rfl rfl ?_)))))))))
 refine WL.val (.agg #[.int .i64 (((i : Nat) : Int)), .int .i64 (((j : Nat) : Int))]) rfl rfl rfl (fun za zC zh zk => build_94_0_1 rfl (zh.ev rfl) (zh.ev rfl) zk) ?_
 refine WL.step (post := NewRow w 94 #[.int .i64 (((i : Nat) : Int)), .int .i64 (((j : Nat) : Int))] 1) rfl rfl rfl (fun za zC zh zk => row_95_1 rfl (zh.ev rfl) (zk _ _ (newRow _ _ _ _))) ?_
 rintro _ w1 ⟨g2, rfl, hg3, hB4, hb5, hz6⟩
 have hl7 : w.heap.size ≤ g2 := by omega
 refine WL.asg rfl rfl rfl rfl rfl (WL.nil (WE.next (WC.seq (WC.label (WE.next (WC.seq (WC.block ?_)))))))
 have ho8 := h.below hb5
 have hg1w : w.heap.size ≤ g2 := by omega
 have hr0 : RowD eltQ (fun _ => False) w1 94 ((some ⟨g2, 0, none⟩)) 1 1 ([(i, j)]) := RowD.ofBlk rfl hB4 (fun q => q)
 have hC9 := Chg.trans hC0 (.ofBelow hb5)
 refine WC.loop (X := JS) (fun x => aSum N x.κ + x.n) (fun x => [(0, .pointer (some ⟨g, 0, none⟩)), (1, .int .i64 (((i : Nat) : Int))), (2, .int .i64 (((j : Nat) : Int))), (7, .slice x.ra x.n x.rc)]) (fun x w10 => Reps x.U x.κ x.d ∧ KOk N x.κ ∧ InR N x.L ∧ (∀ o, Run true N x.L.reverse x.κ o → Run true N [(i, j)] κ o) ∧ aSum N x.κ + x.n ≤ 1048577 ∧ (∀ q, obk x.ra x.n x.rc = some q → w.heap.size ≤ q) ∧ Chg Z w w10 ∧ NetX (w10) g Z x.U N V ∧ RowD eltQ (fun _ => False) (w10) 94 x.ra x.rc x.n x.L) (⟨U, κ, d, 1, [(i, j)], (some ⟨g2, 0, none⟩), 1⟩) ⟨rfl, rfl, rfl, rfl, trivial⟩ ?_ ?_
 ·exact ⟨hR, hk, (fun p hp => by have e : p = (i, j) := (by simpa using hp); subst e; exact ⟨hi, hj⟩), (fun o h => h), (by have z := aSum_le N κ; (try dsimp only); omega), (fun q e => by have z : g2 = q := Option.some.inj e; omega), hC9, ho8, hr0⟩
 ·rintro x w10 ⟨hRx, hkx, hIx, hrx, hsx, hownx, hCx, ho11, ho12⟩
  have hnL := ho12.len
  have hwW := hCx.size
  refine WC.seq (WC.seq (WC.region (WL.mv rfl rfl rfl rfl rfl ?_)))
  refine WL.val (.int .i64 (((x.n : Nat) : Int))) rfl rfl rfl (fun za zC zh zk => len_95 rfl (zh.ev rfl) zk) ?_
  refine WL.val (.bool ((decide ((0 : Int) < (((x.n : Nat) : Int) : Int))))) rfl rfl rfl (fun za zC zh zk => gtr_3 rfl (zh.ev rfl) (zh.ev rfl) zk) ?_
  refine WL.nil (WE.next ?_)
  refine WC.cond rfl (fun h13 => ?_) (fun h13 => ?_)
  ·have h13 : (0 : Int) < (((x.n : Nat) : Int) : Int) := by simpa using h13
   have hn0 : 0 < x.n := by omega
   have hrl := rev_last (L := x.L) (by omega)
   rw [← hnL] at hrl
   have hle9 : x.n ≤ x.rc := ho12.inRow.2.1
   have hpin : (qget x.L (x.n - 1)).1 < N.length ∧ (qget x.L (x.n - 1)).2 < N.length := by
    rw [qget_lt (by omega)]; exact hIx _ (List.getElem_mem _)
   have hInL : InR N (x.L.take (x.n - 1)) := fun p hp => hIx p (List.mem_of_mem_take hp)
   have hownL : ∀ q, obk x.ra (x.n - 1) x.rc = some q → w.heap.size ≤ q := fun q e => hownx q (obk_n.trans e)
   have hla : (x.κ (qget x.L (x.n - 1)).1) < N.length := hkx.lt _ hpin.1
   have hlb : (x.κ (qget x.L (x.n - 1)).2) < N.length := hkx.lt _ hpin.2
   have hka : x.κ (x.κ (qget x.L (x.n - 1)).1) = (x.κ (qget x.L (x.n - 1)).1) := hkx.idem _
   have hkb : x.κ (x.κ (qget x.L (x.n - 1)).2) = (x.κ (qget x.L (x.n - 1)).2) := hkx.idem _
   refine WC.skip (WE.next (WC.block (WC.seq (WC.region (WL.mv rfl rfl rfl rfl rfl (WL.mv rfl rfl rfl rfl rfl ?_))))))
   refine WL.val (.int .i64 (((x.n : Nat) : Int))) rfl rfl rfl (fun za zC zh zk => len_95 rfl (zh.ev rfl) zk) ?_
   refine WL.val (.int .i64 ((((x.n - 1) : Nat) : Int))) rfl rfl rfl (fun za zC zh zk => subb_3 rfl (zh.ev rfl) (zh.ev rfl) (wrap_eq (by omega) (by omega) (by omega)) zk) ?_
   obtain ⟨b14, ha15, ho16, hc17⟩ := RowD.blkQ ho12 (by omega)
   refine WL.val _ rfl rfl rfl (fun za zC zh zk => ix_95 (k := (x.n - 1)) rfl (zh.ev rfl) ha15 (zh.ev rfl) (by first | omega | (simp; omega)) zk) ?_
   refine WL.val _ rfl rfl rfl (fun za zC zh zk => ld_94 rfl (zh.ev rfl) (hc17 ((x.n - 1)) (by first | omega | (simp; omega))).1 (hc17 ((x.n - 1)) (by first | omega | (simp; omega))).2 zk) ?_
   refine WL.step (post := NewBlk w10 94 #[.int .i64 0, .int .i64 0]) rfl rfl rfl (fun za zC zh zk => alloc_94 rfl (zk _ _ (newBlk _ _ _))) ?_
   rintro _ w18 ⟨g19, rfl, hg20, hB21, hb22, hz23⟩
   have hl24 : w10.heap.size ≤ g19 := by omega
   refine WL.step (post := fun _ w' => Upd g19 w18 w' ∧ Blk w' g19 94 #[.int .i64 ((((qget x.L ((x.n - 1))).1 : Nat) : Int)), .int .i64 ((((qget x.L ((x.n - 1))).2 : Nat) : Int))]) rfl rfl rfl (fun za zC zh zk => st_94 rfl (zh.ev rfl) (zh.ev rfl) rfl rfl hB21 (by first | decide | simp) (fun v => zk v _ ⟨(Upd.at_ _ _ _ _).trans (Upd.at_ _ _ _ _), (hB21.set_ 0 _).set_ 1 _⟩)) ?_
   rintro v28 w25 ⟨hu26, hB27⟩
   have hb29 := upd_below hb22 hu26 (by omega)
   refine WL.nil (WE.next (WC.seq (WC.region (WL.mv rfl rfl rfl rfl rfl (WL.mv rfl rfl rfl rfl rfl ?_)))))
   refine WL.val (.int .i64 (((x.n : Nat) : Int))) rfl rfl rfl (fun za zC zh zk => len_95 rfl (zh.ev rfl) zk) ?_
   refine WL.val (.int .i64 ((((x.n - 1) : Nat) : Int))) rfl rfl rfl (fun za zC zh zk => subb_3 rfl (zh.ev rfl) (zh.ev rfl) (wrap_eq (by omega) (by omega) (by omega)) zk) ?_
   refine WL.val (.slice x.ra ((x.n - 1)) x.rc) rfl rfl rfl (fun za zC zh zk => shi_95 (k := (x.n - 1)) rfl (zh.ev rfl) (zh.ev rfl) (by omega) zk) ?_
   refine WL.asg rfl rfl rfl rfl rfl (WL.nil (WE.next (WC.seq ?_)))
   have ho30 := ho12.below hb29
   have hr31 := ho30.take (x.n - 1) (by omega)
   have ho32 := ho11.below hb29
   have hC33 := Chg.trans hCx (.ofBelow hb29)
   refine WC.seqV (S := Z) [(true, .val (.pointer (some ⟨g, 0, none⟩))), (true, .val (.pointer (some ⟨g, 0, none⟩))), (true, .val (.pointer (some ⟨g, 0, none⟩))), (true, .val (.pointer (some ⟨g19, 0, none⟩))), (true, .val (.int .i64 ((((qget x.L ((x.n - 1))).1 : Nat) : Int)))), (true, .val undef), (true, .val (.pointer (some ⟨g, 0, none⟩))), (true, .val (.pointer (some ⟨g, 0, none⟩))), (true, .val (.pointer (some ⟨g, 0, none⟩))), (true, .val (.pointer (some ⟨g19, 1, none⟩))), (true, .val (.int .i64 ((((qget x.L ((x.n - 1))).2 : Nat) : Int)))), (true, .val undef), (true, .val (.int .i64 ((((x.κ (qget x.L (x.n - 1)).1) : Nat) : Int)))), (true, .val (.int .i64 ((((x.κ (qget x.L (x.n - 1)).2) : Nat) : Int))))] [(0, .pointer (some ⟨g, 0, none⟩)), (1, .int .i64 (((i : Nat) : Int))), (2, .int .i64 (((j : Nat) : Int))), (7, .slice x.ra ((x.n - 1)) x.rc), (8, .pointer (some ⟨g19, 0, none⟩)), (20, .bool ((decide ((0 : Int) < (((x.n : Nat) : Int) : Int)))))] [5, 11] [some (true, .int .i64 ((((x.κ (qget x.L (x.n - 1)).1) : Nat) : Int))), some (true, .int .i64 ((((x.κ (qget x.L (x.n - 1)).2) : Nat) : Int)))] (fun _ wz => ∃ U1, Reps U1 x.κ x.d ∧ NetX wz g Z U1 N V) ((fun _ _ _ hb h => by obtain ⟨U1, k1, k2⟩ := h; exact ⟨U1, k1, k2.below hb⟩)) (by decide) ⟨rfl, rfl, rfl, rfl, rfl, rfl, trivial⟩ (by kernel_rfl) (by kernel_rfl) (by kernel_rfl) (by kernel_rfl) (⟨x.U, hRx, ho32⟩) ?_ ?_
   ·refine ⟨.inl ⟨rfl, true, .none rfl, (fun gg b h => by cases h), fun h w => optUndef h, fun zβ za zw zc => ?_⟩, ?_⟩
    ·exact wp_move rfl (zc.kn.ev rfl) ⟨_, rfl, Below.refl _ _, optDef zβ rfl⟩
    refine ⟨.inl ⟨rfl, true, .none rfl, (fun gg b h => by cases h), fun h w => optUndef h, fun zβ za zw zc => ?_⟩, ?_⟩
    ·exact nilCheck_ rfl ((evt za 32).trans (optSVal (zc.dep 0 32 (by kernel_rfl) (by decide)) rfl rfl)) ⟨_, rfl, Below.refl _ _, optDef zβ rfl⟩
    refine ⟨.inl ⟨rfl, true, .none rfl, (fun gg b h => by cases h), fun h w => optUndef h, fun zβ za zw zc => ?_⟩, ?_⟩
    ·exact fld_54_0 rfl ((evt za 33).trans (optSVal (zc.dep 1 33 (by kernel_rfl) (by decide)) rfl rfl)) ⟨_, rfl, Below.refl _ _, optDef zβ rfl⟩
    refine ⟨.inl ⟨rfl, true, .none rfl, (fun gg b h => by cases h), fun h w => optUndef h, fun zβ za zw zc => ?_⟩, ?_⟩
    ·exact ixa_94 (k := 0) rfl (zc.kn.ev rfl) (zc.kn.ev rfl) (by decide) ⟨_, rfl, Below.refl _ _, optDef zβ rfl⟩
    refine ⟨.inl ⟨rfl, true, .none rfl, (fun gg b h => by cases h), fun h w => optUndef h, fun zβ za zw zc => ?_⟩, ?_⟩
    ·exact ld_3 rfl ((evt za 35).trans (optSVal (zc.dep 3 35 (by kernel_rfl) (by decide)) rfl rfl)) (chg_cell zc.chg (by intro h9; have z := hZl _ h9; omega) ((hB27.cell 0).trans rfl)) ⟨_, rfl, Below.refl _ _, optDef zβ rfl⟩
    refine ⟨.inr ⟨0, rfl, by kernel_rfl, true, .none rfl, (fun gg b h => by cases h), (fun h => (nomatch h)), fun zβ za zw zvals zc => ?_⟩, ?_⟩
    ·obtain rfl := vlen0 zc.len
     have zn := zc.now
     obtain ⟨U1, k1, k2⟩ := zn
     exact wp_call (by kernel_rfl) rfl (hv2 ((evt za 34).trans (optSVal (zc.dep 2 34 (by kernel_rfl) (by decide)) rfl rfl)) ((evt za 36).trans (optSVal (zc.dep 4 36 (by kernel_rfl) (by decide)) rfl rfl))) (ptop_any x.κ x.d U1 N V g Z _ _ k2 k1 hpin.1 hn) (fun v w' h => by obtain ⟨m1, ⟨U2, m2, m3⟩, m4⟩ := h; exact ⟨v, rfl, m4, ⟨U2, m2, m3⟩, cvIs m1⟩)
    refine ⟨.inl ⟨rfl, true, .none rfl, (fun gg b h => by cases h), fun h w => optUndef h, fun zβ za zw zc => ?_⟩, ?_⟩
    ·exact wp_move rfl (zc.kn.ev rfl) ⟨_, rfl, Below.refl _ _, optDef zβ rfl⟩
    refine ⟨.inl ⟨rfl, true, .none rfl, (fun gg b h => by cases h), fun h w => optUndef h, fun zβ za zw zc => ?_⟩, ?_⟩
    ·exact nilCheck_ rfl ((evt za 38).trans (optSVal (zc.dep 6 38 (by kernel_rfl) (by decide)) rfl rfl)) ⟨_, rfl, Below.refl _ _, optDef zβ rfl⟩
    refine ⟨.inl ⟨rfl, true, .none rfl, (fun gg b h => by cases h), fun h w => optUndef h, fun zβ za zw zc => ?_⟩, ?_⟩
    ·exact fld_54_0 rfl ((evt za 39).trans (optSVal (zc.dep 7 39 (by kernel_rfl) (by decide)) rfl rfl)) ⟨_, rfl, Below.refl _ _, optDef zβ rfl⟩
    refine ⟨.inl ⟨rfl, true, .none rfl, (fun gg b h => by cases h), fun h w => optUndef h, fun zβ za zw zc => ?_⟩, ?_⟩
    ·exact ixa_94 (k := 1) rfl (zc.kn.ev rfl) (zc.kn.ev rfl) (by decide) ⟨_, rfl, Below.refl _ _, optDef zβ rfl⟩
    refine ⟨.inl ⟨rfl, true, .none rfl, (fun gg b h => by cases h), fun h w => optUndef h, fun zβ za zw zc => ?_⟩, ?_⟩
    ·exact ld_3 rfl ((evt za 41).trans (optSVal (zc.dep 9 41 (by kernel_rfl) (by decide)) rfl rfl)) (chg_cell zc.chg (by intro h9; have z := hZl _ h9; omega) ((hB27.cell 1).trans rfl)) ⟨_, rfl, Below.refl _ _, optDef zβ rfl⟩
    refine ⟨.inr ⟨1, rfl, by kernel_rfl, true, .none rfl, (fun gg b h => by cases h), (fun h => (nomatch h)), fun zβ za zw zvals zc => ?_⟩, ?_⟩
    ·obtain ⟨z0, rfl⟩ := vlen1 zc.len
     have zn := zc.now
     obtain ⟨U1, k1, k2⟩ := zn
     exact wp_call (by kernel_rfl) rfl (hv2 ((evt za 40).trans (optSVal (zc.dep 8 40 (by kernel_rfl) (by decide)) rfl rfl)) ((evt za 42).trans (optSVal (zc.dep 10 42 (by kernel_rfl) (by decide)) rfl rfl))) (ptop_any x.κ x.d U1 N V g Z _ _ k2 k1 hpin.2 hn) (fun v w' h => by obtain ⟨m1, ⟨U2, m2, m3⟩, m4⟩ := h; exact ⟨v, rfl, m4, ⟨U2, m2, m3⟩, cvIs m1⟩)
    refine ⟨.inl ⟨rfl, true, .none rfl, (fun gg b h => by cases h), fun h w => optUndef h, fun zβ za zw zc => ?_⟩, ?_⟩
    ·exact wp_assign rfl ((evt za 37).trans (zc.link 0 5 37 _ _ rfl (by kernel_rfl) rfl rfl)) ⟨_, rfl, Below.refl _ _, optDef zβ rfl⟩
    refine ⟨.inl ⟨rfl, true, .none rfl, (fun gg b h => by cases h), fun h w => optUndef h, fun zβ za zw zc => ?_⟩, ?_⟩
    ·exact wp_assign rfl ((evt za 43).trans (zc.link 1 11 43 _ _ rfl (by kernel_rfl) rfl rfl)) ⟨_, rfl, Below.refl _ _, optDef zβ rfl⟩
    exact trivial
   ·intro za w34 zvals zh zl hG35 hc36 zu zw zk
    obtain ⟨z0, z1, rfl⟩ := vlen2 zl
    obtain ⟨U1, hR1, hN1⟩ := hG35
    have zh := zh.cons (d := 9) (v := .int .i64 ((((x.κ (qget x.L (x.n - 1)).1) : Nat) : Int))) (optSVal (zu 12 9 (by kernel_rfl) (by decide)) rfl rfl)
    have zh := zh.cons (d := 10) (v := .int .i64 ((((x.κ (qget x.L (x.n - 1)).2) : Nat) : Int))) (optSVal (zu 13 10 (by kernel_rfl) (by decide)) rfl rfl)
    have hC37 := Chg.trans hC33 hc36
    have hr38 := hr31.chg hc36 (fun q e h9 => by have z := hownL q e; have z2 := hZl q h9; omega) (fun q e => e.elim)
    clear zu zw zk
    refine WE.go zh ?_
    refine WE.next (WC.seq (WC.seq (WC.region (WL.mv rfl rfl rfl rfl rfl (WL.mv rfl rfl rfl rfl rfl ?_)))))
    refine WL.val (.bool ((((((x.κ (qget x.L (x.n - 1)).1) : Nat) : Int) : Int) == ((((x.κ (qget x.L (x.n - 1)).2) : Nat) : Int) : Int)))) rfl rfl rfl (fun za zC zh zk => eql_3 rfl (zh.ev rfl) (zh.ev rfl) zk) ?_
    refine WL.nil (WE.sub (K' := [(0, .pointer (some ⟨g, 0, none⟩)), (1, .int .i64 (((i : Nat) : Int))), (2, .int .i64 (((j : Nat) : Int))), (7, .slice x.ra ((x.n - 1)) x.rc), (8, .pointer (some ⟨g19, 0, none⟩)), (9, .int .i64 ((((x.κ (qget x.L (x.n - 1)).1) : Nat) : Int))), (10, .int .i64 ((((x.κ (qget x.L (x.n - 1)).2) : Nat) : Int))), (20, .bool ((decide ((0 : Int) < (((x.n : Nat) : Int) : Int))))), (46, .bool ((((((x.κ (qget x.L (x.n - 1)).1) : Nat) : Int) : Int) == ((((x.κ (qget x.L (x.n - 1)).2) : Nat) : Int) : Int))))]) ⟨rfl, rfl, rfl, rfl, rfl, rfl, rfl, rfl, rfl, trivial⟩ ?_)
    refine WE.next ?_
    refine WC.cond rfl (fun h39 => ?_) (fun h39 => ?_)
    ·have h39 : ((((x.κ (qget x.L (x.n - 1)).1) : Nat) : Int) : Int) = ((((x.κ (qget x.L (x.n - 1)).2) : Nat) : Int) : Int) := by simpa using h39
     have heq9 : (x.κ (qget x.L (x.n - 1)).1) = (x.κ (qget x.L (x.n - 1)).2) := by omega
     refine WC.exit (WE.thenExit (WE.blockIs rfl ?_))
     refine WE.round (⟨U1, x.κ, x.d, x.n - 1, (x.L.take (x.n - 1)), x.ra, x.rc⟩) ⟨rfl, rfl, rfl, rfl, trivial⟩ ?_ ?_
     ·exact ⟨hR1, hkx, hInL, (fun o h9 => hrx o (by rw [hrl]; exact Run.same (i := (qget x.L (x.n - 1)).1) (j := (qget x.L (x.n - 1)).2) heq9 h9)), (by (try dsimp only); omega), hownL, hC37, hN1, hr38⟩
     ·(try dsimp only); omega
    ·have h39 : ¬ (((((x.κ (qget x.L (x.n - 1)).1) : Nat) : Int) : Int) = ((((x.κ (qget x.L (x.n - 1)).2) : Nat) : Int) : Int)) := by simpa using h39
     have hne : (x.κ (qget x.L (x.n - 1)).1) ≠ (x.κ (qget x.L (x.n - 1)).2) := by omega
     refine WC.skip (WE.next (WC.seq ?_))
     have hw7 : w.heap.size ≤ w34.heap.size := hC37.size
     obtain ⟨S9, ua, uc, oa, oc, hP9, hZ9, _⟩ := hN1
     obtain ⟨ub, rfl, hub⟩ := hP9.ub (by omega)
     obtain ⟨ob, A9, C9, rfl, hob, hcP⟩ := hP9.ofP (by omega)
     have hubZ : Z ub := hZ9 ub (.inr (.inl hub))
     have hubw := hZl ub hubZ
     have hSZ9 : ∀ b, S9 b → Z b := fun b q => hZ9 b (.inr (.inr (.inr q)))
     have hSub : ∀ b, S9 b → b ≠ ub := fun b q e => (hP9.uS ub hub).1 (e ▸ q)
     refine WC.box2 (fun zS zw zv => zv = .agg #[.int .i64 ((pget N ((x.κ (qget x.L (x.n - 1)).1))).fn), .slice ((A9 ((x.κ (qget x.L (x.n - 1)).1)))) ((pget N ((x.κ (qget x.L (x.n - 1)).1))).args.length) ((C9 ((x.κ (qget x.L (x.n - 1)).1))))]) (fun zS zw zv => zv = .agg #[.int .i64 ((pget N ((x.κ (qget x.L (x.n - 1)).2))).fn), .slice ((A9 ((x.κ (qget x.L (x.n - 1)).2)))) ((pget N ((x.κ (qget x.L (x.n - 1)).2))).args.length) ((C9 ((x.κ (qget x.L (x.n - 1)).2))))]) (fun _ _ _ _ _ h => h) (fun _ _ _ _ _ h => h) (fun _ _ _ _ _ h => h) (fun _ _ _ _ _ h => h) [(true, .pointer (some ⟨g, 0, none⟩)), (true, .pointer (some ⟨g, 0, none⟩)), (true, .pointer (some ⟨g, 0, none⟩)), (true, .pointer (some ⟨g, 1, none⟩)), (true, .slice ((some ⟨ob, 0, none⟩)) N.length oc), (true, .int .i64 ((((x.κ (qget x.L (x.n - 1)).1) : Nat) : Int))), (true, .pointer (some ⟨ob, 0 + ((x.κ (qget x.L (x.n - 1)).1)) * 2, none⟩)), (true, undef), (true, .pointer (some ⟨g, 0, none⟩)), (true, .pointer (some ⟨g, 0, none⟩)), (true, .pointer (some ⟨g, 0, none⟩)), (true, .pointer (some ⟨g, 1, none⟩)), (true, .slice ((some ⟨ob, 0, none⟩)) N.length oc), (true, .int .i64 ((((x.κ (qget x.L (x.n - 1)).2) : Nat) : Int))), (true, .pointer (some ⟨ob, 0 + ((x.κ (qget x.L (x.n - 1)).2)) * 2, none⟩)), (true, undef), (true, undef), (true, undef), (true, undef), (true, undef)] [(0, .pointer (some ⟨g, 0, none⟩)), (1, .int .i64 (((i : Nat) : Int))), (2, .int .i64 (((j : Nat) : Int))), (7, .slice x.ra ((x.n - 1)) x.rc), (8, .pointer (some ⟨g19, 0, none⟩)), (9, .int .i64 ((((x.κ (qget x.L (x.n - 1)).1) : Nat) : Int))), (10, .int .i64 ((((x.κ (qget x.L (x.n - 1)).2) : Nat) : Int))), (20, .bool ((decide ((0 : Int) < (((x.n : Nat) : Int) : Int))))), (46, .bool ((((((x.κ (qget x.L (x.n - 1)).1) : Nat) : Int) : Int) == ((((x.κ (qget x.L (x.n - 1)).2) : Nat) : Int) : Int))))] (t1 := 57) (z1 := #[.int .i64 0, .slice none 0 0]) (t2 := 57) (z2 := #[.int .i64 0, .slice none 0 0]) 7 15 16 17 18 19 11 12 (by decide) (by kernel_rfl) rfl rfl ⟨rfl, rfl, rfl, rfl, rfl, rfl, rfl, rfl, rfl, trivial⟩ (by kernel_rfl) (by kernel_rfl) (by kernel_rfl) ?_ ?_
     ·refine ⟨.inl ⟨by decide, rfl, fun za zw zc => ?_⟩, ?_⟩
      ·exact wp_move rfl (zc.kn.ev rfl) ⟨_, rfl, rfl, fun _ => rfl⟩
      refine ⟨.inl ⟨by decide, rfl, fun za zw zc => ?_⟩, ?_⟩
      ·exact nilCheck_ rfl ((evt za 47).trans (valVal2 (zc.dep 0 47 (by kernel_rfl) (by decide)) rfl rfl)) ⟨_, rfl, rfl, fun _ => rfl⟩
      refine ⟨.inl ⟨by decide, rfl, fun za zw zc => ?_⟩, ?_⟩
      ·exact fld_54_0 rfl ((evt za 48).trans (valVal2 (zc.dep 1 48 (by kernel_rfl) (by decide)) rfl rfl)) ⟨_, rfl, rfl, fun _ => rfl⟩
      refine ⟨.inl ⟨by decide, rfl, fun za zw zc => ?_⟩, ?_⟩
      ·exact fld_51_1 rfl ((evt za 49).trans (valVal2 (zc.dep 2 49 (by kernel_rfl) (by decide)) rfl rfl)) ⟨_, rfl, rfl, fun _ => rfl⟩
      refine ⟨.inl ⟨by decide, rfl, fun za zw zc => ?_⟩, ?_⟩
      ·exact ld_49 rfl ((evt za 50).trans (valVal2 (zc.dep 3 50 (by kernel_rfl) (by decide)) rfl rfl)) (bkeeps zc.below _ _ hP9.c1) ⟨_, rfl, rfl, fun _ => rfl⟩
      refine ⟨.inl ⟨by decide, rfl, fun za zw zc => ?_⟩, ?_⟩
      ·exact wp_move rfl (zc.kn.ev rfl) ⟨_, rfl, rfl, fun _ => rfl⟩
      refine ⟨.inl ⟨by decide, rfl, fun za zw zc => ?_⟩, ?_⟩
      ·exact ix_49 (k := (x.κ (qget x.L (x.n - 1)).1)) rfl ((evt za 51).trans (valVal2 (zc.dep 4 51 (by kernel_rfl) (by decide)) rfl rfl)) rfl ((evt za 52).trans (valVal2 (zc.dep 5 52 (by kernel_rfl) (by decide)) rfl rfl)) (by first | omega | (simp; omega)) ⟨_, rfl, rfl, fun _ => rfl⟩
      refine ⟨.inr (.inl ⟨rfl, rfl, fun za zw zc => ?_⟩), ?_⟩
      ·exact ld_57 rfl ((evt za 53).trans (valVal2 (zc.dep 6 53 (by kernel_rfl) (by decide)) rfl rfl)) (bkeeps zc.below _ _ (hcP ((x.κ (qget x.L (x.n - 1)).1)) (by first | omega | (simp; omega))).1) (bkeeps zc.below _ _ (hcP ((x.κ (qget x.L (x.n - 1)).1)) (by first | omega | (simp; omega))).2.1) ⟨_, rfl, Below.refl _ _, rfl⟩
      refine ⟨.inl ⟨by decide, rfl, fun za zw zc => ?_⟩, ?_⟩
      ·exact wp_move rfl (zc.kn.ev rfl) ⟨_, rfl, rfl, fun _ => rfl⟩
      refine ⟨.inl ⟨by decide, rfl, fun za zw zc => ?_⟩, ?_⟩
      ·exact nilCheck_ rfl ((evt za 55).trans (valVal2 (zc.dep 8 55 (by kernel_rfl) (by decide)) rfl rfl)) ⟨_, rfl, rfl, fun _ => rfl⟩
      refine ⟨.inl ⟨by decide, rfl, fun za zw zc => ?_⟩, ?_⟩
      ·exact fld_54_0 rfl ((evt za 56).trans (valVal2 (zc.dep 9 56 (by kernel_rfl) (by decide)) rfl rfl)) ⟨_, rfl, rfl, fun _ => rfl⟩
      refine ⟨.inl ⟨by decide, rfl, fun za zw zc => ?_⟩, ?_⟩
      ·exact fld_51_1 rfl ((evt za 57).trans (valVal2 (zc.dep 10 57 (by kernel_rfl) (by decide)) rfl rfl)) ⟨_, rfl, rfl, fun _ => rfl⟩
      refine ⟨.inl ⟨by decide, rfl, fun za zw zc => ?_⟩, ?_⟩
      ·exact ld_49 rfl ((evt za 58).trans (valVal2 (zc.dep 11 58 (by kernel_rfl) (by decide)) rfl rfl)) (bkeeps zc.below _ _ hP9.c1) ⟨_, rfl, rfl, fun _ => rfl⟩
      refine ⟨.inl ⟨by decide, rfl, fun za zw zc => ?_⟩, ?_⟩
      ·exact wp_move rfl (zc.kn.ev rfl) ⟨_, rfl, rfl, fun _ => rfl⟩
      refine ⟨.inl ⟨by decide, rfl, fun za zw zc => ?_⟩, ?_⟩
      ·exact ix_49 (k := (x.κ (qget x.L (x.n - 1)).2)) rfl ((evt za 59).trans (valVal2 (zc.dep 12 59 (by kernel_rfl) (by decide)) rfl rfl)) rfl ((evt za 60).trans (valVal2 (zc.dep 13 60 (by kernel_rfl) (by decide)) rfl rfl)) (by first | omega | (simp; omega)) ⟨_, rfl, rfl, fun _ => rfl⟩
      refine ⟨.inr (.inr (.inl ⟨rfl, rfl, fun za zw zc => ?_⟩)), ?_⟩
      ·exact ld_57 rfl ((evt za 61).trans (valVal2 (zc.dep 14 61 (by kernel_rfl) (by decide)) rfl rfl)) (bkeeps zc.below _ _ (hcP ((x.κ (qget x.L (x.n - 1)).2)) (by first | omega | (simp; omega))).1) (bkeeps zc.below _ _ (hcP ((x.κ (qget x.L (x.n - 1)).2)) (by first | omega | (simp; omega))).2.1) ⟨_, rfl, Below.refl _ _, rfl⟩
      refine ⟨.inr (.inr (.inr (.inl ⟨rfl, rfl, fun za zw zc => ?_⟩))), ?_⟩
      ·exact alloc_57 rfl ⟨rfl, rfl⟩
      refine ⟨.inr (.inr (.inr (.inr (.inl ⟨rfl, rfl, fun za zw zc => ?_⟩)))), ?_⟩
      ·exact alloc_57 rfl ⟨rfl, rfl⟩
      refine ⟨.inr (.inr (.inr (.inr (.inr (.inl ⟨rfl, rfl, 11, 54, by kernel_rfl, by kernel_rfl, fun za zw g zS zc z1 zB zP => ?_⟩))))), ?_⟩
      ·rw [zP]
       exact st_57 rfl ((evt za 11).trans z1) ((evt za 54).trans zP) rfl rfl zB (by first | decide | simp) (fun v => ⟨v, rfl, (Upd.at_ _ _ _ _).trans (Upd.at_ _ _ _ _), (zB.set_ 0 _).set_ 1 _⟩)
      refine ⟨.inr (.inr (.inr (.inr (.inr (.inr ⟨rfl, rfl, 12, 62, by kernel_rfl, by kernel_rfl, fun za zw g zS zc z1 zB zP => ?_⟩))))), ?_⟩
      ·rw [zP]
       exact st_57 rfl ((evt za 12).trans z1) ((evt za 62).trans zP) rfl rfl zB (by first | decide | simp) (fun v => ⟨v, rfl, (Upd.at_ _ _ _ _).trans (Upd.at_ _ _ _ _), (zB.set_ 0 _).set_ 1 _⟩)
      exact trivial
     ·intro za w40 g41 g42 zv1 zv2 zS1 zS2 zh hb43 hg44 hg45 hne46 hB47 hB48 hp49 hp50 zs1 zs2 za1 za2 zu
      have hl51 : w34.heap.size ≤ g41 := by omega
      have hl52 : w34.heap.size ≤ g42 := by omega
      subst hp49 hp50
      have hB53 : Blk w40 g41 57 #[.int .i64 ((pget N ((x.κ (qget x.L (x.n - 1)).1))).fn), .slice ((A9 ((x.κ (qget x.L (x.n - 1)).1)))) ((pget N ((x.κ (qget x.L (x.n - 1)).1))).args.length) ((C9 ((x.κ (qget x.L (x.n - 1)).1))))] := hB47
      have hB54 : Blk w40 g42 57 #[.int .i64 ((pget N ((x.κ (qget x.L (x.n - 1)).2))).fn), .slice ((A9 ((x.κ (qget x.L (x.n - 1)).2)))) ((pget N ((x.κ (qget x.L (x.n - 1)).2))).args.length) ((C9 ((x.κ (qget x.L (x.n - 1)).2))))] := hB48
      have zh := zh.cons (d := 11) za1
      have zh := zh.cons (d := 12) za2
      clear zu
      refine WE.go zh ?_
      refine WE.next (WC.seq (WC.block (WC.seq ?_)))
      refine WC.opt [(true, .val (.pointer (some ⟨g41, 0, none⟩))), (true, .val (.int .i64 ((pget N ((x.κ (qget x.L (x.n - 1)).1))).fn))), (true, .val (.bool ((decide (((pget N ((x.κ (qget x.L (x.n - 1)).1))).fn : Int) < (0 : Int)))))), (true, .val (.bool ((decide (((pget N ((x.κ (qget x.L (x.n - 1)).1))).fn : Int) < (0 : Int)))))), ((true && (decide (((pget N ((x.κ (qget x.L (x.n - 1)).1))).fn : Int) < (0 : Int)))), .val (.pointer (some ⟨g42, 0, none⟩))), ((true && (decide (((pget N ((x.κ (qget x.L (x.n - 1)).1))).fn : Int) < (0 : Int)))), .val (.int .i64 ((pget N ((x.κ (qget x.L (x.n - 1)).2))).fn))), ((true && (decide (((pget N ((x.κ (qget x.L (x.n - 1)).1))).fn : Int) < (0 : Int)))), .val (.bool ((decide ((0 : Int) ≤ ((pget N ((x.κ (qget x.L (x.n - 1)).2))).fn : Int)))))), ((true && (decide (((pget N ((x.κ (qget x.L (x.n - 1)).1))).fn : Int) < (0 : Int)))), .val (.bool ((decide ((0 : Int) ≤ ((pget N ((x.κ (qget x.L (x.n - 1)).2))).fn : Int)))))), (((true && (decide (((pget N ((x.κ (qget x.L (x.n - 1)).1))).fn : Int) < (0 : Int)))) && !(decide ((0 : Int) ≤ ((pget N ((x.κ (qget x.L (x.n - 1)).2))).fn : Int)))), .val (.pointer (some ⟨g42, 0, none⟩))), (((true && (decide (((pget N ((x.κ (qget x.L (x.n - 1)).1))).fn : Int) < (0 : Int)))) && !(decide ((0 : Int) ≤ ((pget N ((x.κ (qget x.L (x.n - 1)).2))).fn : Int)))), .val (.int .i64 ((pget N ((x.κ (qget x.L (x.n - 1)).2))).fn))), (((true && (decide (((pget N ((x.κ (qget x.L (x.n - 1)).1))).fn : Int) < (0 : Int)))) && !(decide ((0 : Int) ≤ ((pget N ((x.κ (qget x.L (x.n - 1)).2))).fn : Int)))), .val (.pointer (some ⟨g41, 0, none⟩))), (((true && (decide (((pget N ((x.κ (qget x.L (x.n - 1)).1))).fn : Int) < (0 : Int)))) && !(decide ((0 : Int) ≤ ((pget N ((x.κ (qget x.L (x.n - 1)).2))).fn : Int)))), .val (.int .i64 ((pget N ((x.κ (qget x.L (x.n - 1)).1))).fn))), (((true && (decide (((pget N ((x.κ (qget x.L (x.n - 1)).1))).fn : Int) < (0 : Int)))) && !(decide ((0 : Int) ≤ ((pget N ((x.κ (qget x.L (x.n - 1)).2))).fn : Int)))), .val (.bool ((decide (((pget N ((x.κ (qget x.L (x.n - 1)).1))).fn : Int) < ((pget N ((x.κ (qget x.L (x.n - 1)).2))).fn : Int)))))), ((true && (decide (((pget N ((x.κ (qget x.L (x.n - 1)).1))).fn : Int) < (0 : Int)))), .val (.bool (((decide ((0 : Int) ≤ ((pget N ((x.κ (qget x.L (x.n - 1)).2))).fn : Int))) || (decide (((pget N ((x.κ (qget x.L (x.n - 1)).1))).fn : Int) < ((pget N ((x.κ (qget x.L (x.n - 1)).2))).fn : Int))))))), (true, .val (.bool (((decide (((pget N ((x.κ (qget x.L (x.n - 1)).1))).fn : Int) < (0 : Int))) && ((decide ((0 : Int) ≤ ((pget N ((x.κ (qget x.L (x.n - 1)).2))).fn : Int))) || (decide (((pget N ((x.κ (qget x.L (x.n - 1)).1))).fn : Int) < ((pget N ((x.κ (qget x.L (x.n - 1)).2))).fn : Int)))))))), (true, .val (.bool (((decide (((pget N ((x.κ (qget x.L (x.n - 1)).1))).fn : Int) < (0 : Int))) && ((decide ((0 : Int) ≤ ((pget N ((x.κ (qget x.L (x.n - 1)).2))).fn : Int))) || (decide (((pget N ((x.κ (qget x.L (x.n - 1)).1))).fn : Int) < ((pget N ((x.κ (qget x.L (x.n - 1)).2))).fn : Int))))))))] [(0, .pointer (some ⟨g, 0, none⟩)), (1, .int .i64 (((i : Nat) : Int))), (2, .int .i64 (((j : Nat) : Int))), (7, .slice x.ra ((x.n - 1)) x.rc), (8, .pointer (some ⟨g19, 0, none⟩)), (9, .int .i64 ((((x.κ (qget x.L (x.n - 1)).1) : Nat) : Int))), (10, .int .i64 ((((x.κ (qget x.L (x.n - 1)).2) : Nat) : Int))), (11, .pointer (some ⟨g41, 0, none⟩)), (12, .pointer (some ⟨g42, 0, none⟩)), (20, .bool ((decide ((0 : Int) < (((x.n : Nat) : Int) : Int))))), (46, .bool ((((((x.κ (qget x.L (x.n - 1)).1) : Nat) : Int) : Int) == ((((x.κ (qget x.L (x.n - 1)).2) : Nat) : Int) : Int))))] ⟨rfl, rfl, rfl, rfl, rfl, rfl, rfl, rfl, rfl, rfl, rfl, trivial⟩ (by kernel_rfl) (by kernel_rfl) (by kernel_rfl) ?_ ?_
      ·refine ⟨⟨true, .none rfl, fun h w => optUndef h, fun zβ za zw zc => ?_⟩, ?_⟩
       ·exact fld_57_0 rfl (zc.kn.ev rfl) ⟨_, rfl, Below.refl _ _, optDef zβ rfl⟩
       refine ⟨⟨true, .none rfl, fun h w => optUndef h, fun zβ za zw zc => ?_⟩, ?_⟩
       ·exact ld_3 rfl ((evt za 64).trans (optVal (zc.dep 0 64 (by kernel_rfl)) rfl rfl)) (bkeeps zc.below _ _ ((hB53.cell 0).trans rfl)) ⟨_, rfl, Below.refl _ _, optDef zβ rfl⟩
       refine ⟨⟨true, .none rfl, fun h w => optUndef h, fun zβ za zw zc => ?_⟩, ?_⟩
       ·exact lss_3 rfl ((evt za 65).trans (optVal (zc.dep 1 65 (by kernel_rfl)) rfl rfl)) (zc.kn.ev rfl) ⟨_, rfl, Below.refl _ _, optDef zβ rfl⟩
       refine ⟨⟨true, .none rfl, fun h w => optUndef h, fun zβ za zw zc => ?_⟩, ?_⟩
       ·exact wp_move rfl ((evt za 66).trans (optVal (zc.dep 2 66 (by kernel_rfl)) rfl rfl)) ⟨_, rfl, Below.refl _ _, optDef zβ rfl⟩
       refine ⟨⟨_, .yes (c := (decide (((pget N ((x.κ (qget x.L (x.n - 1)).1))).fn : Int) < (0 : Int)))) (d := true) rfl (fun v w h => h), fun h w => optUndef h, fun zβ za zw zc => ?_⟩, ?_⟩
       ·exact fld_57_0 rfl (zc.kn.ev rfl) ⟨_, rfl, Below.refl _ _, optDef zβ rfl⟩
       refine ⟨⟨_, .yes (c := (decide (((pget N ((x.κ (qget x.L (x.n - 1)).1))).fn : Int) < (0 : Int)))) (d := true) rfl (fun v w h => h), fun h w => optUndef h, fun zβ za zw zc => ?_⟩, ?_⟩
       ·exact ld_3 rfl ((evt za 68).trans (optVal (zc.dep 4 68 (by kernel_rfl)) rfl zβ)) (bkeeps zc.below _ _ ((hB54.cell 0).trans rfl)) ⟨_, rfl, Below.refl _ _, optDef zβ rfl⟩
       refine ⟨⟨_, .yes (c := (decide (((pget N ((x.κ (qget x.L (x.n - 1)).1))).fn : Int) < (0 : Int)))) (d := true) rfl (fun v w h => h), fun h w => optUndef h, fun zβ za zw zc => ?_⟩, ?_⟩
       ·exact geq_3 rfl ((evt za 69).trans (optVal (zc.dep 5 69 (by kernel_rfl)) rfl zβ)) (zc.kn.ev rfl) ⟨_, rfl, Below.refl _ _, optDef zβ rfl⟩
       refine ⟨⟨_, .yes (c := (decide (((pget N ((x.κ (qget x.L (x.n - 1)).1))).fn : Int) < (0 : Int)))) (d := true) rfl (fun v w h => h), fun h w => optUndef h, fun zβ za zw zc => ?_⟩, ?_⟩
       ·exact wp_move rfl ((evt za 70).trans (optVal (zc.dep 6 70 (by kernel_rfl)) rfl zβ)) ⟨_, rfl, Below.refl _ _, optDef zβ rfl⟩
       refine ⟨⟨_, .no (c := (decide ((0 : Int) ≤ ((pget N ((x.κ (qget x.L (x.n - 1)).2))).fn : Int)))) (d := (true && (decide (((pget N ((x.κ (qget x.L (x.n - 1)).1))).fn : Int) < (0 : Int))))) rfl (fun v w h => h), fun h w => optUndef h, fun zβ za zw zc => ?_⟩, ?_⟩
       ·exact fld_57_0 rfl (zc.kn.ev rfl) ⟨_, rfl, Below.refl _ _, optDef zβ rfl⟩
       refine ⟨⟨_, .no (c := (decide ((0 : Int) ≤ ((pget N ((x.κ (qget x.L (x.n - 1)).2))).fn : Int)))) (d := (true && (decide (((pget N ((x.κ (qget x.L (x.n - 1)).1))).fn : Int) < (0 : Int))))) rfl (fun v w h => h), fun h w => optUndef h, fun zβ za zw zc => ?_⟩, ?_⟩
       ·exact ld_3 rfl ((evt za 72).trans (optVal (zc.dep 8 72 (by kernel_rfl)) rfl zβ)) (bkeeps zc.below _ _ ((hB54.cell 0).trans rfl)) ⟨_, rfl, Below.refl _ _, optDef zβ rfl⟩
       refine ⟨⟨_, .no (c := (decide ((0 : Int) ≤ ((pget N ((x.κ (qget x.L (x.n - 1)).2))).fn : Int)))) (d := (true && (decide (((pget N ((x.κ (qget x.L (x.n - 1)).1))).fn : Int) < (0 : Int))))) rfl (fun v w h => h), fun h w => optUndef h, fun zβ za zw zc => ?_⟩, ?_⟩
       ·exact fld_57_0 rfl (zc.kn.ev rfl) ⟨_, rfl, Below.refl _ _, optDef zβ rfl⟩
       refine ⟨⟨_, .no (c := (decide ((0 : Int) ≤ ((pget N ((x.κ (qget x.L (x.n - 1)).2))).fn : Int)))) (d := (true && (decide (((pget N ((x.κ (qget x.L (x.n - 1)).1))).fn : Int) < (0 : Int))))) rfl (fun v w h => h), fun h w => optUndef h, fun zβ za zw zc => ?_⟩, ?_⟩
       ·exact ld_3 rfl ((evt za 74).trans (optVal (zc.dep 10 74 (by kernel_rfl)) rfl zβ)) (bkeeps zc.below _ _ ((hB53.cell 0).trans rfl)) ⟨_, rfl, Below.refl _ _, optDef zβ rfl⟩
       refine ⟨⟨_, .no (c := (decide ((0 : Int) ≤ ((pget N ((x.κ (qget x.L (x.n - 1)).2))).fn : Int)))) (d := (true && (decide (((pget N ((x.κ (qget x.L (x.n - 1)).1))).fn : Int) < (0 : Int))))) rfl (fun v w h => h), fun h w => optUndef h, fun zβ za zw zc => ?_⟩, ?_⟩
       ·exact gtr_3 rfl ((evt za 73).trans (optVal (zc.dep 9 73 (by kernel_rfl)) rfl zβ)) ((evt za 75).trans (optVal (zc.dep 11 75 (by kernel_rfl)) rfl zβ)) ⟨_, rfl, Below.refl _ _, optDef zβ rfl⟩
       refine ⟨⟨_, .yes (c := (decide (((pget N ((x.κ (qget x.L (x.n - 1)).1))).fn : Int) < (0 : Int)))) (d := true) rfl (fun v w h => h), fun h w => optUndef h, fun zβ za zw zc => ?_⟩, ?_⟩
       ·exact wp_or rfl ((evt za 71).trans (optVal (zc.dep 7 71 (by kernel_rfl)) rfl zβ)) (fun hp => ((evt za 76).trans (optVal (zc.dep 12 76 (by kernel_rfl)) rfl (bMkN zβ hp)))) ⟨_, rfl, Below.refl _ _, optDef zβ rfl⟩
       refine ⟨⟨true, .none rfl, fun h w => optUndef h, fun zβ za zw zc => ?_⟩, ?_⟩
       ·exact wp_and rfl ((evt za 67).trans (optVal (zc.dep 3 67 (by kernel_rfl)) rfl rfl)) (fun hp => ((evt za 77).trans (optVal (zc.dep 13 77 (by kernel_rfl)) rfl (bMk zβ hp)))) ⟨_, rfl, Below.refl _ _, optDef zβ rfl⟩
       refine ⟨⟨true, .none rfl, fun h w => optUndef h, fun zβ za zw zc => ?_⟩, ?_⟩
       ·exact wp_assign rfl ((evt za 78).trans (optVal (zc.dep 14 78 (by kernel_rfl)) rfl rfl)) ⟨_, rfl, Below.refl _ _, optDef zβ rfl⟩
       exact trivial
      ·intro za w55 zh hb56 zu
       have zh := zh.cons (d := 63) (v := .bool (((decide (((pget N ((x.κ (qget x.L (x.n - 1)).1))).fn : Int) < (0 : Int))) && ((decide ((0 : Int) ≤ ((pget N ((x.κ (qget x.L (x.n - 1)).2))).fn : Int))) || (decide (((pget N ((x.κ (qget x.L (x.n - 1)).1))).fn : Int) < ((pget N ((x.κ (qget x.L (x.n - 1)).2))).fn : Int))))))) (optVal (zu 15 63 (by kernel_rfl)) rfl rfl)
       clear zu
       refine WE.go zh ?_
       refine WE.next ?_
       refine WC.cond rfl (fun h57 => ?_) (fun h57 => ?_)
       ·have h57 : (((pget N ((x.κ (qget x.L (x.n - 1)).1))).fn : Int) < (0 : Int)) ∧ (((0 : Int) ≤ ((pget N ((x.κ (qget x.L (x.n - 1)).2))).fn : Int)) ∨ (((pget N ((x.κ (qget x.L (x.n - 1)).1))).fn : Int) < ((pget N ((x.κ (qget x.L (x.n - 1)).2))).fn : Int))) := by simpa using h57
        refine WC.seq (WC.region (WL.mv rfl rfl rfl rfl rfl ?_))
        refine WL.val _ rfl rfl rfl (fun za zC zh zk => nilCheck_ rfl (zh.ev rfl) zk) ?_
        refine WL.val _ rfl rfl rfl (fun za zC zh zk => fld_54_0 rfl (zh.ev rfl) zk) ?_
        refine WL.val _ rfl rfl rfl (fun za zC zh zk => fld_51_0 rfl (zh.ev rfl) zk) ?_
        have hb59 : Below w34.heap.size w34 w55 := (bstep hb43 hb56)
        have ho58 := hP9.below hb59
        refine WL.val _ rfl rfl rfl (fun za zC zh zk => ld_48 rfl (zh.ev rfl) ho58.c0 zk) ?_
        refine WL.mv rfl rfl rfl rfl rfl (WL.mv rfl rfl rfl rfl rfl ?_)
        refine WL.val _ rfl rfl rfl (fun za zC zh zk => ix_48 (k := (x.κ (qget x.L (x.n - 1)).1)) rfl (zh.ev rfl) rfl (zh.ev rfl) (by first | omega | (simp; omega)) zk) ?_
        have ho60 := hr38.below hb59
        have ho61 := (hcP (x.κ (qget x.L (x.n - 1)).1) hla).2.2.below hb59
        have ho62 := (hcP (x.κ (qget x.L (x.n - 1)).2) hlb).2.2.below hb59
        have hB63 := hB53.below hb56
        have hB64 := hB54.below hb56
        have hC65 := Chg.trans hC37 (.ofBelow hb59)
        obtain ⟨⟨cs66, hB67, hs68⟩, hP69⟩ := PN.setU (i := ((x.κ (qget x.L (x.n - 1)).1))) (v := (x.κ (qget x.L (x.n - 1)).2)) ho58 (by omega)
        refine WL.step (post := fun _ w' => Chg (fun q => q = ub) w55 w' ∧ PN w' g S9 (some ⟨ub, 0, none⟩) uc (some ⟨ob, 0, none⟩) oc ((U1.set ((x.κ (qget x.L (x.n - 1)).1)) ((x.κ (qget x.L (x.n - 1)).2)))) N V) rfl rfl rfl (fun za zC zh zk => st_3 rfl (zh.ev rfl) (zh.ev rfl) hB67 hs68 (fun v => zk v _ ⟨.ofUpd (Upd.at_ _ _ _ _) rfl, hP69⟩)) ?_
        rintro u70 w71 ⟨hu72, hP73⟩
        have hC74 := Chg.trans hC65 (Chg.mono (S' := Z) hu72 (fun q e => by rw [show q = ub from e]; exact hubZ))
        have hr75 := ho60.chg hu72 (fun q e h9 => by have z := hownL q e; have z2 : q = ub := h9; omega) (fun q e => e.elim)
        have ha76 := ho61.chgS hu72 (fun q e h9 => hSub q e h9)
        have hb77 := ho62.chgS hu72 (fun q e h9 => hSub q e h9)
        have hB78 := chg_blk hB63 hu72 (fun e => by have e2 : g41 = ub := e; omega)
        have hB79 := chg_blk hB64 hu72 (fun e => by have e2 : g42 = ub := e; omega)
        refine WL.nil (WE.next (WC.exit (WE.blockNot rfl (WE.thenExit (WE.blockIs rfl ?_)))))
        have hst : stepM N x.κ (x.κ (qget x.L (x.n - 1)).1) (x.κ (qget x.L (x.n - 1)).2) = some (mrg x.κ (x.κ (qget x.L (x.n - 1)).1) (x.κ (qget x.L (x.n - 1)).2), []) := by
         unfold stepM; rw [if_pos (by omega)]
        have hR2 := hR1.merge (a := (x.κ (qget x.L (x.n - 1)).2)) (b := (x.κ (qget x.L (x.n - 1)).1)) (by have z := hP73.len; rw [List.length_set] at z; omega) (by have z := hP73.len; rw [List.length_set] at z; omega) hkb hka hne.symm hkx.idem
        have hN80 : NetX w71 g Z ((U1.set ((x.κ (qget x.L (x.n - 1)).1)) ((x.κ (qget x.L (x.n - 1)).2)))) N V := ⟨S9, _, uc, _, oc, hP73, hZ9, fun q e => Nat.lt_of_lt_of_le (hZl q e) (hC74).size⟩
        refine WE.round (⟨(U1.set ((x.κ (qget x.L (x.n - 1)).1)) ((x.κ (qget x.L (x.n - 1)).2))), (mrg x.κ (x.κ (qget x.L (x.n - 1)).1) (x.κ (qget x.L (x.n - 1)).2)), (fun z => if x.κ z = (x.κ (qget x.L (x.n - 1)).1) then x.d z + x.d (x.κ (qget x.L (x.n - 1)).2) + 1 else x.d z), x.n - 1, (x.L.take (x.n - 1)), x.ra, x.rc⟩) ⟨rfl, rfl, rfl, rfl, trivial⟩ ?_ ?_
        ·exact ⟨hR2, stepM_kok hkx hka hkb hne hla hlb hst, hInL, (fun o h9 => hrx o (by rw [hrl]; exact Run.step (i := (qget x.L (x.n - 1)).1) (j := (qget x.L (x.n - 1)).2) hne hst h9)), (by have z := stepM_sum hka hkb hne hla hlb hst; (try dsimp only at *); (try simp only [List.length_nil] at z); omega), hownL, hC74, hN80, hr75⟩
        ·(have z := stepM_sum hka hkb hne hla hlb hst; (try dsimp only at *); (try simp only [List.length_nil] at z); omega)
       ·have h57 : ¬ ((((pget N ((x.κ (qget x.L (x.n - 1)).1))).fn : Int) < (0 : Int)) ∧ (((0 : Int) ≤ ((pget N ((x.κ (qget x.L (x.n - 1)).2))).fn : Int)) ∨ (((pget N ((x.κ (qget x.L (x.n - 1)).1))).fn : Int) < ((pget N ((x.κ (qget x.L (x.n - 1)).2))).fn : Int)))) := by simpa using h57
        refine WC.seq (WC.region ?_)
        refine WL.val _ rfl rfl rfl (fun za zC zh zk => fld_57_0 rfl (zh.ev rfl) zk) ?_
        have hB81 := hB54.below hb56
        refine WL.val _ rfl rfl rfl (fun za zC zh zk => ld_3 rfl (zh.ev rfl) ((hB81.cell 0).trans rfl) zk) ?_
        refine WL.val (.bool ((decide (((pget N ((x.κ (qget x.L (x.n - 1)).2))).fn : Int) < (0 : Int))))) rfl rfl rfl (fun za zC zh zk => lss_3 rfl (zh.ev rfl) (zh.ev rfl) zk) ?_
        refine WL.asg rfl rfl rfl rfl rfl (WL.nil (WE.next ?_))
        refine WC.cond rfl (fun h82 => ?_) (fun h82 => ?_)
        ·have h82 : ((pget N ((x.κ (qget x.L (x.n - 1)).2))).fn : Int) < (0 : Int) := by simpa using h82
         refine WC.seq (WC.region (WL.mv rfl rfl rfl rfl rfl ?_))
         refine WL.val _ rfl rfl rfl (fun za zC zh zk => nilCheck_ rfl (zh.ev rfl) zk) ?_
         refine WL.val _ rfl rfl rfl (fun za zC zh zk => fld_54_0 rfl (zh.ev rfl) zk) ?_
         refine WL.val _ rfl rfl rfl (fun za zC zh zk => fld_51_0 rfl (zh.ev rfl) zk) ?_
         have hb84 : Below w34.heap.size w34 w55 := (bstep hb43 hb56)
         have ho83 := hP9.below hb84
         refine WL.val _ rfl rfl rfl (fun za zC zh zk => ld_48 rfl (zh.ev rfl) ho83.c0 zk) ?_
         refine WL.mv rfl rfl rfl rfl rfl (WL.mv rfl rfl rfl rfl rfl ?_)
         refine WL.val _ rfl rfl rfl (fun za zC zh zk => ix_48 (k := (x.κ (qget x.L (x.n - 1)).2)) rfl (zh.ev rfl) rfl (zh.ev rfl) (by first | omega | (simp; omega)) zk) ?_
         have ho85 := hr38.below hb84
         have ho86 := (hcP (x.κ (qget x.L (x.n - 1)).1) hla).2.2.below hb84
         have ho87 := (hcP (x.κ (qget x.L (x.n - 1)).2) hlb).2.2.below hb84
         have hB88 := hB53.below hb56
         have hC89 := Chg.trans hC37 (.ofBelow hb84)
         obtain ⟨⟨cs90, hB91, hs92⟩, hP93⟩ := PN.setU (i := ((x.κ (qget x.L (x.n - 1)).2))) (v := (x.κ (qget x.L (x.n - 1)).1)) ho83 (by omega)
         refine WL.step (post := fun _ w' => Chg (fun q => q = ub) w55 w' ∧ PN w' g S9 (some ⟨ub, 0, none⟩) uc (some ⟨ob, 0, none⟩) oc ((U1.set ((x.κ (qget x.L (x.n - 1)).2)) ((x.κ (qget x.L (x.n - 1)).1)))) N V) rfl rfl rfl (fun za zC zh zk => st_3 rfl (zh.ev rfl) (zh.ev rfl) hB91 hs92 (fun v => zk v _ ⟨.ofUpd (Upd.at_ _ _ _ _) rfl, hP93⟩)) ?_
         rintro u94 w95 ⟨hu96, hP97⟩
         have hC98 := Chg.trans hC89 (Chg.mono (S' := Z) hu96 (fun q e => by rw [show q = ub from e]; exact hubZ))
         have hr99 := ho85.chg hu96 (fun q e h9 => by have z := hownL q e; have z2 : q = ub := h9; omega) (fun q e => e.elim)
         have ha100 := ho86.chgS hu96 (fun q e h9 => hSub q e h9)
         have hb101 := ho87.chgS hu96 (fun q e h9 => hSub q e h9)
         have hB102 := chg_blk hB88 hu96 (fun e => by have e2 : g41 = ub := e; omega)
         have hB103 := chg_blk hB81 hu96 (fun e => by have e2 : g42 = ub := e; omega)
         refine WL.nil (WE.sub (K' := [(0, .pointer (some ⟨g, 0, none⟩)), (1, .int .i64 (((i : Nat) : Int))), (2, .int .i64 (((j : Nat) : Int))), (7, .slice x.ra ((x.n - 1)) x.rc), (8, .pointer (some ⟨g19, 0, none⟩)), (9, .int .i64 ((((x.κ (qget x.L (x.n - 1)).1) : Nat) : Int))), (10, .int .i64 ((((x.κ (qget x.L (x.n - 1)).2) : Nat) : Int))), (11, .pointer (some ⟨g41, 0, none⟩)), (12, .pointer (some ⟨g42, 0, none⟩)), (20, .bool ((decide ((0 : Int) < (((x.n : Nat) : Int) : Int))))), (46, .bool ((((((x.κ (qget x.L (x.n - 1)).1) : Nat) : Int) : Int) == ((((x.κ (qget x.L (x.n - 1)).2) : Nat) : Int) : Int)))), (63, .bool (((decide (((pget N ((x.κ (qget x.L (x.n - 1)).1))).fn : Int) < (0 : Int))) && ((decide ((0 : Int) ≤ ((pget N ((x.κ (qget x.L (x.n - 1)).2))).fn : Int))) || (decide (((pget N ((x.κ (qget x.L (x.n - 1)).1))).fn : Int) < ((pget N ((x.κ (qget x.L (x.n - 1)).2))).fn : Int))))))), (87, .bool ((decide (((pget N ((x.κ (qget x.L (x.n - 1)).2))).fn : Int) < (0 : Int)))))]) ⟨rfl, rfl, rfl, rfl, rfl, rfl, rfl, rfl, rfl, rfl, rfl, rfl, rfl, trivial⟩ ?_)
         refine WE.next (WC.exit (WE.blockNot rfl (WE.thenExit (WE.blockIs rfl ?_))))
         have hst : stepM N x.κ (x.κ (qget x.L (x.n - 1)).1) (x.κ (qget x.L (x.n - 1)).2) = some (mrg x.κ (x.κ (qget x.L (x.n - 1)).2) (x.κ (qget x.L (x.n - 1)).1), []) := by
          unfold stepM; rw [if_neg (by omega), if_pos (by omega)]
         have hR2 := hR1.merge (a := (x.κ (qget x.L (x.n - 1)).1)) (b := (x.κ (qget x.L (x.n - 1)).2)) (by have z := hP97.len; rw [List.length_set] at z; omega) (by have z := hP97.len; rw [List.length_set] at z; omega) hka hkb hne hkx.idem
         have hN104 : NetX w95 g Z ((U1.set ((x.κ (qget x.L (x.n - 1)).2)) ((x.κ (qget x.L (x.n - 1)).1)))) N V := ⟨S9, _, uc, _, oc, hP97, hZ9, fun q e => Nat.lt_of_lt_of_le (hZl q e) (hC98).size⟩
         refine WE.round (⟨(U1.set ((x.κ (qget x.L (x.n - 1)).2)) ((x.κ (qget x.L (x.n - 1)).1))), (mrg x.κ (x.κ (qget x.L (x.n - 1)).2) (x.κ (qget x.L (x.n - 1)).1)), (fun z => if x.κ z = (x.κ (qget x.L (x.n - 1)).2) then x.d z + x.d (x.κ (qget x.L (x.n - 1)).1) + 1 else x.d z), x.n - 1, (x.L.take (x.n - 1)), x.ra, x.rc⟩) ⟨rfl, rfl, rfl, rfl, trivial⟩ ?_ ?_
         ·exact ⟨hR2, stepM_kok hkx hka hkb hne hla hlb hst, hInL, (fun o h9 => hrx o (by rw [hrl]; exact Run.step (i := (qget x.L (x.n - 1)).1) (j := (qget x.L (x.n - 1)).2) hne hst h9)), (by have z := stepM_sum hka hkb hne hla hlb hst; (try dsimp only at *); (try simp only [List.length_nil] at z); omega), hownL, hC98, hN104, hr99⟩
         ·(have z := stepM_sum hka hkb hne hla hlb hst; (try dsimp only at *); (try simp only [List.length_nil] at z); omega)
        ·have h82 : ¬ (((pget N ((x.κ (qget x.L (x.n - 1)).2))).fn : Int) < (0 : Int)) := by simpa using h82
         refine WC.seq ?_
         have hB105 := hB53.below hb56
         refine WC.opt [(true, .val (.pointer (some ⟨g41, 0, none⟩))), (true, .val (.int .i64 ((pget N ((x.κ (qget x.L (x.n - 1)).1))).fn))), (true, .val (.pointer (some ⟨g42, 0, none⟩))), (true, .val (.int .i64 ((pget N ((x.κ (qget x.L (x.n - 1)).2))).fn))), (true, .val (.bool ((((pget N ((x.κ (qget x.L (x.n - 1)).1))).fn : Int) != ((pget N ((x.κ (qget x.L (x.n - 1)).2))).fn : Int))))), (true, .val (.bool ((((pget N ((x.κ (qget x.L (x.n - 1)).1))).fn : Int) != ((pget N ((x.κ (qget x.L (x.n - 1)).2))).fn : Int))))), ((true && !(((pget N ((x.κ (qget x.L (x.n - 1)).1))).fn : Int) != ((pget N ((x.κ (qget x.L (x.n - 1)).2))).fn : Int))), .val (.pointer (some ⟨g41, 1, none⟩))), ((true && !(((pget N ((x.κ (qget x.L (x.n - 1)).1))).fn : Int) != ((pget N ((x.κ (qget x.L (x.n - 1)).2))).fn : Int))), .val (.slice ((A9 ((x.κ (qget x.L (x.n - 1)).1)))) ((pget N ((x.κ (qget x.L (x.n - 1)).1))).args.length) ((C9 ((x.κ (qget x.L (x.n - 1)).1)))))), ((true && !(((pget N ((x.κ (qget x.L (x.n - 1)).1))).fn : Int) != ((pget N ((x.κ (qget x.L (x.n - 1)).2))).fn : Int))), .val (.int .i64 ((((pget N ((x.κ (qget x.L (x.n - 1)).1))).args.length : Nat) : Int)))), ((true && !(((pget N ((x.κ (qget x.L (x.n - 1)).1))).fn : Int) != ((pget N ((x.κ (qget x.L (x.n - 1)).2))).fn : Int))), .val (.pointer (some ⟨g42, 1, none⟩))), ((true && !(((pget N ((x.κ (qget x.L (x.n - 1)).1))).fn : Int) != ((pget N ((x.κ (qget x.L (x.n - 1)).2))).fn : Int))), .val (.slice ((A9 ((x.κ (qget x.L (x.n - 1)).2)))) ((pget N ((x.κ (qget x.L (x.n - 1)).2))).args.length) ((C9 ((x.κ (qget x.L (x.n - 1)).2)))))), ((true && !(((pget N ((x.κ (qget x.L (x.n - 1)).1))).fn : Int) != ((pget N ((x.κ (qget x.L (x.n - 1)).2))).fn : Int))), .val (.int .i64 ((((pget N ((x.κ (qget x.L (x.n - 1)).2))).args.length : Nat) : Int)))), ((true && !(((pget N ((x.κ (qget x.L (x.n - 1)).1))).fn : Int) != ((pget N ((x.κ (qget x.L (x.n - 1)).2))).fn : Int))), .val (.bool ((((((pget N ((x.κ (qget x.L (x.n - 1)).1))).args.length : Nat) : Int) : Int) != ((((pget N ((x.κ (qget x.L (x.n - 1)).2))).args.length : Nat) : Int) : Int))))), (true, .val (.bool (((((pget N ((x.κ (qget x.L (x.n - 1)).1))).fn : Int) != ((pget N ((x.κ (qget x.L (x.n - 1)).2))).fn : Int)) || (((((pget N ((x.κ (qget x.L (x.n - 1)).1))).args.length : Nat) : Int) : Int) != ((((pget N ((x.κ (qget x.L (x.n - 1)).2))).args.length : Nat) : Int) : Int)))))), (true, .val (.bool (((((pget N ((x.κ (qget x.L (x.n - 1)).1))).fn : Int) != ((pget N ((x.κ (qget x.L (x.n - 1)).2))).fn : Int)) || (((((pget N ((x.κ (qget x.L (x.n - 1)).1))).args.length : Nat) : Int) : Int) != ((((pget N ((x.κ (qget x.L (x.n - 1)).2))).args.length : Nat) : Int) : Int))))))] [(0, .pointer (some ⟨g, 0, none⟩)), (1, .int .i64 (((i : Nat) : Int))), (2, .int .i64 (((j : Nat) : Int))), (7, .slice x.ra ((x.n - 1)) x.rc), (8, .pointer (some ⟨g19, 0, none⟩)), (9, .int .i64 ((((x.κ (qget x.L (x.n - 1)).1) : Nat) : Int))), (10, .int .i64 ((((x.κ (qget x.L (x.n - 1)).2) : Nat) : Int))), (11, .pointer (some ⟨g41, 0, none⟩)), (12, .pointer (some ⟨g42, 0, none⟩)), (20, .bool ((decide ((0 : Int) < (((x.n : Nat) : Int) : Int))))), (46, .bool ((((((x.κ (qget x.L (x.n - 1)).1) : Nat) : Int) : Int) == ((((x.κ (qget x.L (x.n - 1)).2) : Nat) : Int) : Int)))), (63, .bool (((decide (((pget N ((x.κ (qget x.L (x.n - 1)).1))).fn : Int) < (0 : Int))) && ((decide ((0 : Int) ≤ ((pget N ((x.κ (qget x.L (x.n - 1)).2))).fn : Int))) || (decide (((pget N ((x.κ (qget x.L (x.n - 1)).1))).fn : Int) < ((pget N ((x.κ (qget x.L (x.n - 1)).2))).fn : Int))))))), (87, .bool ((decide (((pget N ((x.κ (qget x.L (x.n - 1)).2))).fn : Int) < (0 : Int)))))] ⟨rfl, rfl, rfl, rfl, rfl, rfl, rfl, rfl, rfl, rfl, rfl, rfl, rfl, trivial⟩ (by kernel_rfl) (by kernel_rfl) (by kernel_rfl) ?_ ?_
         ·refine ⟨⟨true, .none rfl, fun h w => optUndef h, fun zβ za zw zc => ?_⟩, ?_⟩
          ·exact fld_57_0 rfl (zc.kn.ev rfl) ⟨_, rfl, Below.refl _ _, optDef zβ rfl⟩
          refine ⟨⟨true, .none rfl, fun h w => optUndef h, fun zβ za zw zc => ?_⟩, ?_⟩
          ·exact ld_3 rfl ((evt za 100).trans (optVal (zc.dep 0 100 (by kernel_rfl)) rfl rfl)) (bkeeps zc.below _ _ ((hB105.cell 0).trans rfl)) ⟨_, rfl, Below.refl _ _, optDef zβ rfl⟩
          refine ⟨⟨true, .none rfl, fun h w => optUndef h, fun zβ za zw zc => ?_⟩, ?_⟩
          ·exact fld_57_0 rfl (zc.kn.ev rfl) ⟨_, rfl, Below.refl _ _, optDef zβ rfl⟩
          refine ⟨⟨true, .none rfl, fun h w => optUndef h, fun zβ za zw zc => ?_⟩, ?_⟩
          ·exact ld_3 rfl ((evt za 102).trans (optVal (zc.dep 2 102 (by kernel_rfl)) rfl rfl)) (bkeeps zc.below _ _ ((hB81.cell 0).trans rfl)) ⟨_, rfl, Below.refl _ _, optDef zβ rfl⟩
          refine ⟨⟨true, .none rfl, fun h w => optUndef h, fun zβ za zw zc => ?_⟩, ?_⟩
          ·exact neq_3 rfl ((evt za 101).trans (optVal (zc.dep 1 101 (by kernel_rfl)) rfl rfl)) ((evt za 103).trans (optVal (zc.dep 3 103 (by kernel_rfl)) rfl rfl)) ⟨_, rfl, Below.refl _ _, optDef zβ rfl⟩
          refine ⟨⟨true, .none rfl, fun h w => optUndef h, fun zβ za zw zc => ?_⟩, ?_⟩
          ·exact wp_move rfl ((evt za 104).trans (optVal (zc.dep 4 104 (by kernel_rfl)) rfl rfl)) ⟨_, rfl, Below.refl _ _, optDef zβ rfl⟩
          refine ⟨⟨_, .no (c := (((pget N ((x.κ (qget x.L (x.n - 1)).1))).fn : Int) != ((pget N ((x.κ (qget x.L (x.n - 1)).2))).fn : Int))) (d := true) rfl (fun v w h => h), fun h w => optUndef h, fun zβ za zw zc => ?_⟩, ?_⟩
          ·exact fld_57_1 rfl (zc.kn.ev rfl) ⟨_, rfl, Below.refl _ _, optDef zβ rfl⟩
          refine ⟨⟨_, .no (c := (((pget N ((x.κ (qget x.L (x.n - 1)).1))).fn : Int) != ((pget N ((x.κ (qget x.L (x.n - 1)).2))).fn : Int))) (d := true) rfl (fun v w h => h), fun h w => optUndef h, fun zβ za zw zc => ?_⟩, ?_⟩
          ·exact ld_48 rfl ((evt za 106).trans (optVal (zc.dep 6 106 (by kernel_rfl)) rfl zβ)) (bkeeps zc.below _ _ ((hB105.cell 1).trans rfl)) ⟨_, rfl, Below.refl _ _, optDef zβ rfl⟩
          refine ⟨⟨_, .no (c := (((pget N ((x.κ (qget x.L (x.n - 1)).1))).fn : Int) != ((pget N ((x.κ (qget x.L (x.n - 1)).2))).fn : Int))) (d := true) rfl (fun v w h => h), fun h w => optUndef h, fun zβ za zw zc => ?_⟩, ?_⟩
          ·exact len_48 rfl ((evt za 107).trans (optVal (zc.dep 7 107 (by kernel_rfl)) rfl zβ)) ⟨_, rfl, Below.refl _ _, optDef zβ rfl⟩
          refine ⟨⟨_, .no (c := (((pget N ((x.κ (qget x.L (x.n - 1)).1))).fn : Int) != ((pget N ((x.κ (qget x.L (x.n - 1)).2))).fn : Int))) (d := true) rfl (fun v w h => h), fun h w => optUndef h, fun zβ za zw zc => ?_⟩, ?_⟩
          ·exact fld_57_1 rfl (zc.kn.ev rfl) ⟨_, rfl, Below.refl _ _, optDef zβ rfl⟩
          refine ⟨⟨_, .no (c := (((pget N ((x.κ (qget x.L (x.n - 1)).1))).fn : Int) != ((pget N ((x.κ (qget x.L (x.n - 1)).2))).fn : Int))) (d := true) rfl (fun v w h => h), fun h w => optUndef h, fun zβ za zw zc => ?_⟩, ?_⟩
          ·exact ld_48 rfl ((evt za 109).trans (optVal (zc.dep 9 109 (by kernel_rfl)) rfl zβ)) (bkeeps zc.below _ _ ((hB81.cell 1).trans rfl)) ⟨_, rfl, Below.refl _ _, optDef zβ rfl⟩
          refine ⟨⟨_, .no (c := (((pget N ((x.κ (qget x.L (x.n - 1)).1))).fn : Int) != ((pget N ((x.κ (qget x.L (x.n - 1)).2))).fn : Int))) (d := true) rfl (fun v w h => h), fun h w => optUndef h, fun zβ za zw zc => ?_⟩, ?_⟩
          ·exact len_48 rfl ((evt za 110).trans (optVal (zc.dep 10 110 (by kernel_rfl)) rfl zβ)) ⟨_, rfl, Below.refl _ _, optDef zβ rfl⟩
          refine ⟨⟨_, .no (c := (((pget N ((x.κ (qget x.L (x.n - 1)).1))).fn : Int) != ((pget N ((x.κ (qget x.L (x.n - 1)).2))).fn : Int))) (d := true) rfl (fun v w h => h), fun h w => optUndef h, fun zβ za zw zc => ?_⟩, ?_⟩
          ·exact neq_3 rfl ((evt za 108).trans (optVal (zc.dep 8 108 (by kernel_rfl)) rfl zβ)) ((evt za 111).trans (optVal (zc.dep 11 111 (by kernel_rfl)) rfl zβ)) ⟨_, rfl, Below.refl _ _, optDef zβ rfl⟩
          refine ⟨⟨true, .none rfl, fun h w => optUndef h, fun zβ za zw zc => ?_⟩, ?_⟩
          ·exact wp_or rfl ((evt za 105).trans (optVal (zc.dep 5 105 (by kernel_rfl)) rfl rfl)) (fun hp => ((evt za 112).trans (optVal (zc.dep 12 112 (by kernel_rfl)) rfl (bMkN zβ hp)))) ⟨_, rfl, Below.refl _ _, optDef zβ rfl⟩
          refine ⟨⟨true, .none rfl, fun h w => optUndef h, fun zβ za zw zc => ?_⟩, ?_⟩
          ·exact wp_assign rfl ((evt za 113).trans (optVal (zc.dep 13 113 (by kernel_rfl)) rfl rfl)) ⟨_, rfl, Below.refl _ _, optDef zβ rfl⟩
          exact trivial
         ·intro za w106 zh hb107 zu
          have zh := zh.cons (d := 99) (v := .bool (((((pget N ((x.κ (qget x.L (x.n - 1)).1))).fn : Int) != ((pget N ((x.κ (qget x.L (x.n - 1)).2))).fn : Int)) || (((((pget N ((x.κ (qget x.L (x.n - 1)).1))).args.length : Nat) : Int) : Int) != ((((pget N ((x.κ (qget x.L (x.n - 1)).2))).args.length : Nat) : Int) : Int))))) (optVal (zu 14 99 (by kernel_rfl)) rfl rfl)
          clear zu
          refine WE.go zh ?_
          refine WE.next ?_
          refine WC.cond rfl (fun h108 => ?_) (fun h108 => ?_)
          ·have h108 : (((pget N ((x.κ (qget x.L (x.n - 1)).1))).fn : Int) ≠ ((pget N ((x.κ (qget x.L (x.n - 1)).2))).fn : Int)) ∨ (((((pget N ((x.κ (qget x.L (x.n - 1)).1))).args.length : Nat) : Int) : Int) ≠ ((((pget N ((x.κ (qget x.L (x.n - 1)).2))).args.length : Nat) : Int) : Int)) := by simpa using h108
           refine WC.seq (WC.region (WL.asg rfl rfl rfl rfl rfl (WL.nil (WE.next (WC.ret (WE.blockRet (WE.thenRet (WE.blockRet (WE.thenRet (WE.blockRet (WE.thenRet (WE.scopeRet (WE.ret1 rfl rfl ?_)))))))))))))
           have hb110 : Below w34.heap.size w34 w106 := (bstep (bstep hb43 hb56) hb107)
           have hC109 := Chg.trans hC37 (.ofBelow hb110)
           have hst : stepM N x.κ (x.κ (qget x.L (x.n - 1)).1) (x.κ (qget x.L (x.n - 1)).2) = none := by
            unfold stepM; rw [if_neg (by omega), if_neg (by omega), if_pos (by omega)]
           exact ⟨_, rfl, none, hrx none (by rw [hrl]; exact Run.clash (i := (qget x.L (x.n - 1)).1) (j := (qget x.L (x.n - 1)).2) hne hst), rfl, hC109, fun κ2 e => nomatch e⟩
          ·have h108 : ¬ ((((pget N ((x.κ (qget x.L (x.n - 1)).1))).fn : Int) ≠ ((pget N ((x.κ (qget x.L (x.n - 1)).2))).fn : Int)) ∨ (((((pget N ((x.κ (qget x.L (x.n - 1)).1))).args.length : Nat) : Int) : Int) ≠ ((((pget N ((x.κ (qget x.L (x.n - 1)).2))).args.length : Nat) : Int) : Int))) := by simpa using h108
           refine WC.skip (WE.blockNormal (WE.next (WC.seq (WC.region (WL.mv rfl rfl rfl rfl rfl ?_)))))
           refine WL.val _ rfl rfl rfl (fun za zC zh zk => nilCheck_ rfl (zh.ev rfl) zk) ?_
           refine WL.val _ rfl rfl rfl (fun za zC zh zk => fld_54_0 rfl (zh.ev rfl) zk) ?_
           refine WL.val _ rfl rfl rfl (fun za zC zh zk => fld_51_0 rfl (zh.ev rfl) zk) ?_
           have hb112 : Below w34.heap.size w34 w106 := (bstep (bstep hb43 hb56) hb107)
           have ho111 := hP9.below hb112
           refine WL.val _ rfl rfl rfl (fun za zC zh zk => ld_48 rfl (zh.ev rfl) ho111.c0 zk) ?_
           refine WL.mv rfl rfl rfl rfl rfl (WL.mv rfl rfl rfl rfl rfl ?_)
           refine WL.val _ rfl rfl rfl (fun za zC zh zk => ix_48 (k := (x.κ (qget x.L (x.n - 1)).2)) rfl (zh.ev rfl) rfl (zh.ev rfl) (by first | omega | (simp; omega)) zk) ?_
           have ho113 := hr38.below hb112
           have ho114 := (hcP (x.κ (qget x.L (x.n - 1)).1) hla).2.2.below hb112
           have ho115 := (hcP (x.κ (qget x.L (x.n - 1)).2) hlb).2.2.below hb112
           have hB116 := hB105.below hb107
           have hB117 := hB81.below hb107
           have hC118 := Chg.trans hC37 (.ofBelow hb112)
           obtain ⟨⟨cs119, hB120, hs121⟩, hP122⟩ := PN.setU (i := ((x.κ (qget x.L (x.n - 1)).2))) (v := (x.κ (qget x.L (x.n - 1)).1)) ho111 (by omega)
           refine WL.step (post := fun _ w' => Chg (fun q => q = ub) w106 w' ∧ PN w' g S9 (some ⟨ub, 0, none⟩) uc (some ⟨ob, 0, none⟩) oc ((U1.set ((x.κ (qget x.L (x.n - 1)).2)) ((x.κ (qget x.L (x.n - 1)).1)))) N V) rfl rfl rfl (fun za zC zh zk => st_3 rfl (zh.ev rfl) (zh.ev rfl) hB120 hs121 (fun v => zk v _ ⟨.ofUpd (Upd.at_ _ _ _ _) rfl, hP122⟩)) ?_
           rintro u123 w124 ⟨hu125, hP126⟩
           have hC127 := Chg.trans hC118 (Chg.mono (S' := Z) hu125 (fun q e => by rw [show q = ub from e]; exact hubZ))
           have hr128 := ho113.chg hu125 (fun q e h9 => by have z := hownL q e; have z2 : q = ub := h9; omega) (fun q e => e.elim)
           have ha129 := ho114.chgS hu125 (fun q e h9 => hSub q e h9)
           have hb130 := ho115.chgS hu125 (fun q e h9 => hSub q e h9)
           have hB131 := chg_blk hB116 hu125 (fun e => by have e2 : g41 = ub := e; omega)
           have hB132 := chg_blk hB117 hu125 (fun e => by have e2 : g42 = ub := e; omega)
           refine WL.nil (WE.sub (K' := [(0, .pointer (some ⟨g, 0, none⟩)), (1, .int .i64 (((i : Nat) : Int))), (2, .int .i64 (((j : Nat) : Int))), (7, .slice x.ra ((x.n - 1)) x.rc), (8, .pointer (some ⟨g19, 0, none⟩)), (9, .int .i64 ((((x.κ (qget x.L (x.n - 1)).1) : Nat) : Int))), (10, .int .i64 ((((x.κ (qget x.L (x.n - 1)).2) : Nat) : Int))), (11, .pointer (some ⟨g41, 0, none⟩)), (12, .pointer (some ⟨g42, 0, none⟩)), (20, .bool ((decide ((0 : Int) < (((x.n : Nat) : Int) : Int))))), (46, .bool ((((((x.κ (qget x.L (x.n - 1)).1) : Nat) : Int) : Int) == ((((x.κ (qget x.L (x.n - 1)).2) : Nat) : Int) : Int)))), (63, .bool (((decide (((pget N ((x.κ (qget x.L (x.n - 1)).1))).fn : Int) < (0 : Int))) && ((decide ((0 : Int) ≤ ((pget N ((x.κ (qget x.L (x.n - 1)).2))).fn : Int))) || (decide (((pget N ((x.κ (qget x.L (x.n - 1)).1))).fn : Int) < ((pget N ((x.κ (qget x.L (x.n - 1)).2))).fn : Int))))))), (87, .bool ((decide (((pget N ((x.κ (qget x.L (x.n - 1)).2))).fn : Int) < (0 : Int))))), (99, .bool (((((pget N ((x.κ (qget x.L (x.n - 1)).1))).fn : Int) != ((pget N ((x.κ (qget x.L (x.n - 1)).2))).fn : Int)) || (((((pget N ((x.κ (qget x.L (x.n - 1)).1))).args.length : Nat) : Int) : Int) != ((((pget N ((x.κ (qget x.L (x.n - 1)).2))).args.length : Nat) : Int) : Int)))))]) ⟨rfl, rfl, rfl, rfl, rfl, rfl, rfl, rfl, rfl, rfl, rfl, rfl, rfl, rfl, trivial⟩ ?_)
           refine WE.next (WC.seq (WC.region ?_))
           refine WL.val _ rfl rfl rfl (fun za zC zh zk => fld_57_1 rfl (zh.ev rfl) zk) ?_
           refine WL.val _ rfl rfl rfl (fun za zC zh zk => ld_48 rfl (zh.ev rfl) ((hB131.cell 1).trans rfl) zk) ?_
           refine WL.val (.int .i64 ((((pget N ((x.κ (qget x.L (x.n - 1)).1))).args.length : Nat) : Int))) rfl rfl rfl (fun za zC zh zk => len_48 rfl (zh.ev rfl) zk) ?_
           refine WL.mv rfl rfl rfl rfl rfl (WL.nil (WE.next (WC.block ?_)))
           have hlen9 : (pget N (x.κ (qget x.L (x.n - 1)).1)).args.length = (pget N (x.κ (qget x.L (x.n - 1)).2)).args.length := by omega
           have hst : stepM N x.κ (x.κ (qget x.L (x.n - 1)).1) (x.κ (qget x.L (x.n - 1)).2) = some (mrg x.κ (x.κ (qget x.L (x.n - 1)).2) (x.κ (qget x.L (x.n - 1)).1), ((pget N (x.κ (qget x.L (x.n - 1)).1)).args.zip (pget N (x.κ (qget x.L (x.n - 1)).2)).args)) := by
            unfold stepM; rw [if_neg (by omega), if_neg (by omega), if_neg (by omega)]
           have hzs := stepM_sum hka hkb hne hla hlb hst
           rw [List.length_zip] at hzs
           have hne7 : ∀ q, obk x.ra (x.n - 1) x.rc = some q → w.heap.size ≤ q ∧ q ≠ g41 ∧ q ≠ g42 := fun q e => by exact ⟨hownL q e, fun e2 => RowD.neBlk hr128 hB131 (by decide) (e2 ▸ e), fun e2 => RowD.neBlk hr128 hB132 (by decide) (e2 ▸ e)⟩
           have hr8 : RowD eltQ (fun _ => False) w124 94 x.ra x.rc (x.n - 1 + 0) (((x.L.take (x.n - 1)) ++ ((pget N (x.κ (qget x.L (x.n - 1)).1)).args.zip (pget N (x.κ (qget x.L (x.n - 1)).2)).args).take 0)) := by rw [List.take_zero, List.append_nil]; exact hr128
           refine WC.loop (X := Nat × Option Addr × Nat) (fun y => (pget N (x.κ (qget x.L (x.n - 1)).1)).args.length - y.1) (fun y => [(0, .pointer (some ⟨g, 0, none⟩)), (1, .int .i64 (((i : Nat) : Int))), (2, .int .i64 (((j : Nat) : Int))), (7, .slice y.2.1 ((x.n - 1 + y.1)) y.2.2), (8, .pointer (some ⟨g19, 0, none⟩)), (9, .int .i64 ((((x.κ (qget x.L (x.n - 1)).1) : Nat) : Int))), (10, .int .i64 ((((x.κ (qget x.L (x.n - 1)).2) : Nat) : Int))), (11, .pointer (some ⟨g41, 0, none⟩)), (12, .pointer (some ⟨g42, 0, none⟩)), (20, .bool ((decide ((0 : Int) < (((x.n : Nat) : Int) : Int))))), (46, .bool ((((((x.κ (qget x.L (x.n - 1)).1) : Nat) : Int) : Int) == ((((x.κ (qget x.L (x.n - 1)).2) : Nat) : Int) : Int)))), (63, .bool (((decide (((pget N ((x.κ (qget x.L (x.n - 1)).1))).fn : Int) < (0 : Int))) && ((decide ((0 : Int) ≤ ((pget N ((x.κ (qget x.L (x.n - 1)).2))).fn : Int))) || (decide (((pget N ((x.κ (qget x.L (x.n - 1)).1))).fn : Int) < ((pget N ((x.κ (qget x.L (x.n - 1)).2))).fn : Int))))))), (87, .bool ((decide (((pget N ((x.κ (qget x.L (x.n - 1)).2))).fn : Int) < (0 : Int))))), (99, .bool (((((pget N ((x.κ (qget x.L (x.n - 1)).1))).fn : Int) != ((pget N ((x.κ (qget x.L (x.n - 1)).2))).fn : Int)) || (((((pget N ((x.κ (qget x.L (x.n - 1)).1))).args.length : Nat) : Int) : Int) != ((((pget N ((x.κ (qget x.L (x.n - 1)).2))).args.length : Nat) : Int) : Int))))), (124, .int .i64 ((((pget N ((x.κ (qget x.L (x.n - 1)).1))).args.length : Nat) : Int))), (125, .int .i64 (((y.1 : Nat) : Int)))]) (fun y w133 => y.1 ≤ (pget N (x.κ (qget x.L (x.n - 1)).1)).args.length ∧ (∀ q, obk y.2.1 ((x.n - 1 + y.1)) y.2.2 = some q → w.heap.size ≤ q ∧ q ≠ g41 ∧ q ≠ g42) ∧ Chg Z w w133 ∧ Blk w133 g41 57 #[.int .i64 ((pget N ((x.κ (qget x.L (x.n - 1)).1))).fn), .slice ((A9 ((x.κ (qget x.L (x.n - 1)).1)))) ((pget N ((x.κ (qget x.L (x.n - 1)).1))).args.length) ((C9 ((x.κ (qget x.L (x.n - 1)).1))))] ∧ Blk w133 g42 57 #[.int .i64 ((pget N ((x.κ (qget x.L (x.n - 1)).2))).fn), .slice ((A9 ((x.κ (qget x.L (x.n - 1)).2)))) ((pget N ((x.κ (qget x.L (x.n - 1)).2))).args.length) ((C9 ((x.κ (qget x.L (x.n - 1)).2))))] ∧ RowD eltQ (fun _ => False) (w133) 94 y.2.1 y.2.2 ((x.n - 1 + y.1)) (((x.L.take (x.n - 1)) ++ ((pget N (x.κ (qget x.L (x.n - 1)).1)).args.zip (pget N (x.κ (qget x.L (x.n - 1)).2)).args).take y.1)) ∧ PN (w133) g S9 (some ⟨ub, 0, none⟩) uc (some ⟨ob, 0, none⟩) oc ((U1.set ((x.κ (qget x.L (x.n - 1)).2)) ((x.κ (qget x.L (x.n - 1)).1)))) N V ∧ InRow eltN S9 (w133) (pget N (x.κ (qget x.L (x.n - 1)).1)).args (A9 (x.κ (qget x.L (x.n - 1)).1)) ∧ InRow eltN S9 (w133) (pget N (x.κ (qget x.L (x.n - 1)).2)).args (A9 (x.κ (qget x.L (x.n - 1)).2))) ((0, x.ra, x.rc)) ⟨rfl, rfl, rfl, rfl, rfl, rfl, rfl, rfl, rfl, rfl, rfl, rfl, rfl, rfl, rfl, rfl, trivial⟩ ?_ ?_
           ·exact ⟨Nat.zero_le _, hne7, hC127, hB131, hB132, hr8, hP126, ha129, hb130⟩
           ·rintro y w133 ⟨hky, howny, hCy, hB134, hB135, ho136, ho137, ho138, ho139⟩
            refine WC.seq (WC.region ?_)
            refine WL.val (.bool ((decide ((((y.1 : Nat) : Int) : Int) < ((((pget N ((x.κ (qget x.L (x.n - 1)).1))).args.length : Nat) : Int) : Int))))) rfl rfl rfl (fun za zC zh zk => lss_3 rfl (zh.ev rfl) (zh.ev rfl) zk) ?_
            refine WL.nil (WE.next (WC.seq ?_))
            refine WC.cond rfl (fun h140 => ?_) (fun h140 => ?_)
            ·have h140 : (((y.1 : Nat) : Int) : Int) < ((((pget N ((x.κ (qget x.L (x.n - 1)).1))).args.length : Nat) : Int) : Int) := by simpa using h140
             refine WC.skip (WE.next (WC.seq (WC.block (WC.seq (WC.region (WL.mv rfl rfl rfl rfl rfl (WL.asg rfl rfl rfl rfl rfl (WL.nil (WE.next ?_)))))))))
             have hwy : w.heap.size ≤ w133.heap.size := hCy.size
             have hGV9 : ∀ (vals : List Value) (wa wb : World), Below wa.heap.size wa wb → (fun vals wz => match vals with | [] => RowD eltQ (fun _ => False) wz 94 y.2.1 y.2.2 ((x.n - 1 + y.1)) (((x.L.take (x.n - 1)) ++ ((pget N (x.κ (qget x.L (x.n - 1)).1)).args.zip (pget N (x.κ (qget x.L (x.n - 1)).2)).args).take y.1)) | [z0] => (RowD eltQ (fun _ => False) wz 94 y.2.1 y.2.2 ((x.n - 1 + y.1)) (((x.L.take (x.n - 1)) ++ ((pget N (x.κ (qget x.L (x.n - 1)).1)).args.zip (pget N (x.κ (qget x.L (x.n - 1)).2)).args).take y.1))) ∧ ∃ g1, z0 = .slice (some ⟨g1, 0, none⟩) 1 1 ∧ Blk wz g1 94 #[.int .i64 ((aget (pget N (x.κ (qget x.L (x.n - 1)).1)).args y.1 : Nat) : Int), .int .i64 ((aget (pget N (x.κ (qget x.L (x.n - 1)).2)).args y.1 : Nat) : Int)] | [_, z1] => ∃ ra rc, z1 = .slice ra ((x.n - 1 + y.1) + 1) rc ∧ (RowD eltQ (fun _ => False) wz 94 ra rc ((x.n - 1 + y.1) + 1) ((((x.L.take (x.n - 1)) ++ ((pget N (x.κ (qget x.L (x.n - 1)).1)).args.zip (pget N (x.κ (qget x.L (x.n - 1)).2)).args).take y.1) ++ [(aget (pget N (x.κ (qget x.L (x.n - 1)).1)).args y.1, aget (pget N (x.κ (qget x.L (x.n - 1)).2)).args y.1)]))) ∧ ∀ q, obk ra ((x.n - 1 + y.1) + 1) rc = some q → obk y.2.1 ((x.n - 1 + y.1)) y.2.2 = some q ∨ w133.heap.size ≤ q | [_, _, z2] => ∃ ra rc, z2 = .slice ra ((x.n - 1 + y.1) + 1) rc ∧ (RowD eltQ (fun _ => False) wz 94 ra rc ((x.n - 1 + y.1) + 1) ((((x.L.take (x.n - 1)) ++ ((pget N (x.κ (qget x.L (x.n - 1)).1)).args.zip (pget N (x.κ (qget x.L (x.n - 1)).2)).args).take y.1) ++ [(aget (pget N (x.κ (qget x.L (x.n - 1)).1)).args y.1, aget (pget N (x.κ (qget x.L (x.n - 1)).2)).args y.1)]))) ∧ ∀ q, obk ra ((x.n - 1 + y.1) + 1) rc = some q → obk y.2.1 ((x.n - 1 + y.1)) y.2.2 = some q ∨ w133.heap.size ≤ q | _ => False) vals wa → (fun vals wz => match vals with | [] => RowD eltQ (fun _ => False) wz 94 y.2.1 y.2.2 ((x.n - 1 + y.1)) (((x.L.take (x.n - 1)) ++ ((pget N (x.κ (qget x.L (x.n - 1)).1)).args.zip (pget N (x.κ (qget x.L (x.n - 1)).2)).args).take y.1)) | [z0] => (RowD eltQ (fun _ => False) wz 94 y.2.1 y.2.2 ((x.n - 1 + y.1)) (((x.L.take (x.n - 1)) ++ ((pget N (x.κ (qget x.L (x.n - 1)).1)).args.zip (pget N (x.κ (qget x.L (x.n - 1)).2)).args).take y.1))) ∧ ∃ g1, z0 = .slice (some ⟨g1, 0, none⟩) 1 1 ∧ Blk wz g1 94 #[.int .i64 ((aget (pget N (x.κ (qget x.L (x.n - 1)).1)).args y.1 : Nat) : Int), .int .i64 ((aget (pget N (x.κ (qget x.L (x.n - 1)).2)).args y.1 : Nat) : Int)] | [_, z1] => ∃ ra rc, z1 = .slice ra ((x.n - 1 + y.1) + 1) rc ∧ (RowD eltQ (fun _ => False) wz 94 ra rc ((x.n - 1 + y.1) + 1) ((((x.L.take (x.n - 1)) ++ ((pget N (x.κ (qget x.L (x.n - 1)).1)).args.zip (pget N (x.κ (qget x.L (x.n - 1)).2)).args).take y.1) ++ [(aget (pget N (x.κ (qget x.L (x.n - 1)).1)).args y.1, aget (pget N (x.κ (qget x.L (x.n - 1)).2)).args y.1)]))) ∧ ∀ q, obk ra ((x.n - 1 + y.1) + 1) rc = some q → obk y.2.1 ((x.n - 1 + y.1)) y.2.2 = some q ∨ w133.heap.size ≤ q | [_, _, z2] => ∃ ra rc, z2 = .slice ra ((x.n - 1 + y.1) + 1) rc ∧ (RowD eltQ (fun _ => False) wz 94 ra rc ((x.n - 1 + y.1) + 1) ((((x.L.take (x.n - 1)) ++ ((pget N (x.κ (qget x.L (x.n - 1)).1)).args.zip (pget N (x.κ (qget x.L (x.n - 1)).2)).args).take y.1) ++ [(aget (pget N (x.κ (qget x.L (x.n - 1)).1)).args y.1, aget (pget N (x.κ (qget x.L (x.n - 1)).2)).args y.1)]))) ∧ ∀ q, obk ra ((x.n - 1 + y.1) + 1) rc = some q → obk y.2.1 ((x.n - 1 + y.1)) y.2.2 = some q ∨ w133.heap.size ≤ q | _ => False) vals wb := by
              intro vals wa wb hb h
              match vals, h with
              | [], h => exact RowD.below h hb
              | [z0], h =>
               obtain ⟨k1, g1, e, k2⟩ := h
               exact ⟨k1.below hb, g1, e, k2.below hb⟩
              | [_, z1], h =>
               obtain ⟨ra, rc, e, k1, k2⟩ := h
               exact ⟨ra, rc, e, k1.below hb, k2⟩
              | [_, _, z2], h =>
               obtain ⟨ra, rc, e, k1, k2⟩ := h
               exact ⟨ra, rc, e, k1.below hb, k2⟩
             have hSn : ∀ b, S9 b → ¬ (obk y.2.1 ((x.n - 1 + y.1)) y.2.2 = some b) := fun b q e => by have z := (howny _ e).1; have z2 := hZl _ (hSZ9 _ q); omega
             obtain ⟨b141, o142, ha143, hS144, hc145⟩ := InRow.openNS ho138
             have hSb146 := hS144 y.1 (by first | omega | (simp; omega))
             obtain ⟨b147, o148, ha149, hS150, hc151⟩ := InRow.openNS ho139
             have hSb152 := hS150 y.1 (by first | omega | (simp; omega))
             refine WC.seqV (S := ((fun q => obk y.2.1 ((x.n - 1 + y.1)) y.2.2 = some q))) [(true, .val (.slice y.2.1 ((x.n - 1 + y.1)) y.2.2)), (true, .val (.pointer (some ⟨g41, 1, none⟩))), (true, .val (.slice ((A9 ((x.κ (qget x.L (x.n - 1)).1)))) ((pget N ((x.κ (qget x.L (x.n - 1)).1))).args.length) ((C9 ((x.κ (qget x.L (x.n - 1)).1)))))), (true, .val (.int .i64 (((y.1 : Nat) : Int)))), (true, .val (.pointer (some ⟨b141, o142 + y.1, none⟩))), (true, .val (.int .i64 ((((aget ((pget N (x.κ (qget x.L (x.n - 1)).1)).args) y.1) : Nat) : Int)))), (true, .val (.pointer (some ⟨g42, 1, none⟩))), (true, .val (.slice ((A9 ((x.κ (qget x.L (x.n - 1)).2)))) ((pget N ((x.κ (qget x.L (x.n - 1)).2))).args.length) ((C9 ((x.κ (qget x.L (x.n - 1)).2)))))), (true, .val (.int .i64 (((y.1 : Nat) : Int)))), (true, .val (.pointer (some ⟨b147, o148 + y.1, none⟩))), (true, .val (.int .i64 ((((aget ((pget N (x.κ (qget x.L (x.n - 1)).2)).args) y.1) : Nat) : Int)))), (true, .val (.agg #[.int .i64 ((((aget ((pget N (x.κ (qget x.L (x.n - 1)).1)).args) y.1) : Nat) : Int)), .int .i64 ((((aget ((pget N (x.κ (qget x.L (x.n - 1)).2)).args) y.1) : Nat) : Int))])), (true, .val undef), (true, .val undef), (true, .val undef)] [(0, .pointer (some ⟨g, 0, none⟩)), (1, .int .i64 (((i : Nat) : Int))), (2, .int .i64 (((j : Nat) : Int))), (8, .pointer (some ⟨g19, 0, none⟩)), (9, .int .i64 ((((x.κ (qget x.L (x.n - 1)).1) : Nat) : Int))), (10, .int .i64 ((((x.κ (qget x.L (x.n - 1)).2) : Nat) : Int))), (11, .pointer (some ⟨g41, 0, none⟩)), (12, .pointer (some ⟨g42, 0, none⟩)), (13, .int .i64 (((y.1 : Nat) : Int))), (20, .bool ((decide ((0 : Int) < (((x.n : Nat) : Int) : Int))))), (46, .bool ((((((x.κ (qget x.L (x.n - 1)).1) : Nat) : Int) : Int) == ((((x.κ (qget x.L (x.n - 1)).2) : Nat) : Int) : Int)))), (63, .bool (((decide (((pget N ((x.κ (qget x.L (x.n - 1)).1))).fn : Int) < (0 : Int))) && ((decide ((0 : Int) ≤ ((pget N ((x.κ (qget x.L (x.n - 1)).2))).fn : Int))) || (decide (((pget N ((x.κ (qget x.L (x.n - 1)).1))).fn : Int) < ((pget N ((x.κ (qget x.L (x.n - 1)).2))).fn : Int))))))), (87, .bool ((decide (((pget N ((x.κ (qget x.L (x.n - 1)).2))).fn : Int) < (0 : Int))))), (99, .bool (((((pget N ((x.κ (qget x.L (x.n - 1)).1))).fn : Int) != ((pget N ((x.κ (qget x.L (x.n - 1)).2))).fn : Int)) || (((((pget N ((x.κ (qget x.L (x.n - 1)).1))).args.length : Nat) : Int) : Int) != ((((pget N ((x.κ (qget x.L (x.n - 1)).2))).args.length : Nat) : Int) : Int))))), (124, .int .i64 ((((pget N ((x.κ (qget x.L (x.n - 1)).1))).args.length : Nat) : Int))), (125, .int .i64 (((y.1 : Nat) : Int))), (126, .bool ((decide ((((y.1 : Nat) : Int) : Int) < ((((pget N ((x.κ (qget x.L (x.n - 1)).1))).args.length : Nat) : Int) : Int)))))] [12, 13, 14] [none, none, none] (fun vals wz => match vals with | [] => RowD eltQ (fun _ => False) wz 94 y.2.1 y.2.2 ((x.n - 1 + y.1)) (((x.L.take (x.n - 1)) ++ ((pget N (x.κ (qget x.L (x.n - 1)).1)).args.zip (pget N (x.κ (qget x.L (x.n - 1)).2)).args).take y.1)) | [z0] => (RowD eltQ (fun _ => False) wz 94 y.2.1 y.2.2 ((x.n - 1 + y.1)) (((x.L.take (x.n - 1)) ++ ((pget N (x.κ (qget x.L (x.n - 1)).1)).args.zip (pget N (x.κ (qget x.L (x.n - 1)).2)).args).take y.1))) ∧ ∃ g1, z0 = .slice (some ⟨g1, 0, none⟩) 1 1 ∧ Blk wz g1 94 #[.int .i64 ((aget (pget N (x.κ (qget x.L (x.n - 1)).1)).args y.1 : Nat) : Int), .int .i64 ((aget (pget N (x.κ (qget x.L (x.n - 1)).2)).args y.1 : Nat) : Int)] | [_, z1] => ∃ ra rc, z1 = .slice ra ((x.n - 1 + y.1) + 1) rc ∧ (RowD eltQ (fun _ => False) wz 94 ra rc ((x.n - 1 + y.1) + 1) ((((x.L.take (x.n - 1)) ++ ((pget N (x.κ (qget x.L (x.n - 1)).1)).args.zip (pget N (x.κ (qget x.L (x.n - 1)).2)).args).take y.1) ++ [(aget (pget N (x.κ (qget x.L (x.n - 1)).1)).args y.1, aget (pget N (x.κ (qget x.L (x.n - 1)).2)).args y.1)]))) ∧ ∀ q, obk ra ((x.n - 1 + y.1) + 1) rc = some q → obk y.2.1 ((x.n - 1 + y.1)) y.2.2 = some q ∨ w133.heap.size ≤ q | [_, _, z2] => ∃ ra rc, z2 = .slice ra ((x.n - 1 + y.1) + 1) rc ∧ (RowD eltQ (fun _ => False) wz 94 ra rc ((x.n - 1 + y.1) + 1) ((((x.L.take (x.n - 1)) ++ ((pget N (x.κ (qget x.L (x.n - 1)).1)).args.zip (pget N (x.κ (qget x.L (x.n - 1)).2)).args).take y.1) ++ [(aget (pget N (x.κ (qget x.L (x.n - 1)).1)).args y.1, aget (pget N (x.κ (qget x.L (x.n - 1)).2)).args y.1)]))) ∧ ∀ q, obk ra ((x.n - 1 + y.1) + 1) rc = some q → obk y.2.1 ((x.n - 1 + y.1)) y.2.2 = some q ∨ w133.heap.size ≤ q | _ => False) hGV9 (by decide) ⟨rfl, rfl, rfl, rfl, rfl, rfl, rfl, rfl, rfl, rfl, rfl, rfl, rfl, rfl, rfl, rfl, rfl, trivial⟩ (by kernel_rfl) (by kernel_rfl) (by kernel_rfl) (by kernel_rfl) ho136 ?_ ?_
             ·refine ⟨.inl ⟨rfl, true, .none rfl, (fun gg b h => by cases h), fun h w => optUndef h, fun zβ za zw zc => ?_⟩, ?_⟩
              ·exact wp_move rfl ((evt za 7).trans (zc.old 7 _ rfl (by kernel_rfl))) ⟨_, rfl, Below.refl _ _, optDef zβ rfl⟩
              refine ⟨.inl ⟨rfl, true, .none rfl, (fun gg b h => by cases h), fun h w => optUndef h, fun zβ za zw zc => ?_⟩, ?_⟩
              ·exact fld_57_1 rfl (zc.kn.ev rfl) ⟨_, rfl, Below.refl _ _, optDef zβ rfl⟩
              refine ⟨.inl ⟨rfl, true, .none rfl, (fun gg b h => by cases h), fun h w => optUndef h, fun zβ za zw zc => ?_⟩, ?_⟩
              ·exact ld_48 rfl ((evt za 129).trans (optSVal (zc.dep 1 129 (by kernel_rfl) (by decide)) rfl rfl)) (chg_cell zc.chg (by first | exact hSn _ (by assumption) | (intro h9; exact (howny _ h9).2.1 rfl) | (intro h9; exact (howny _ h9).2.2 rfl)) ((hB134.cell 1).trans rfl)) ⟨_, rfl, Below.refl _ _, optDef zβ rfl⟩
              refine ⟨.inl ⟨rfl, true, .none rfl, (fun gg b h => by cases h), fun h w => optUndef h, fun zβ za zw zc => ?_⟩, ?_⟩
              ·exact wp_move rfl (zc.kn.ev rfl) ⟨_, rfl, Below.refl _ _, optDef zβ rfl⟩
              refine ⟨.inl ⟨rfl, true, .none rfl, (fun gg b h => by cases h), fun h w => optUndef h, fun zβ za zw zc => ?_⟩, ?_⟩
              ·exact ix_48 (k := y.1) rfl ((evt za 130).trans (optSVal (zc.dep 2 130 (by kernel_rfl) (by decide)) rfl rfl)) (ha143 y.1 (by first | omega | (simp; omega))) ((evt za 131).trans (optSVal (zc.dep 3 131 (by kernel_rfl) (by decide)) rfl rfl)) (by first | omega | (simp; omega)) ⟨_, rfl, Below.refl _ _, optDef zβ rfl⟩
              refine ⟨.inl ⟨rfl, true, .none rfl, (fun gg b h => by cases h), fun h w => optUndef h, fun zβ za zw zc => ?_⟩, ?_⟩
              ·exact ld_3 rfl ((evt za 132).trans (optSVal (zc.dep 4 132 (by kernel_rfl) (by decide)) rfl rfl)) (chg_cell zc.chg (by first | exact hSn _ (by assumption) | (intro h9; exact (howny _ h9).2.1 rfl) | (intro h9; exact (howny _ h9).2.2 rfl)) (hc145 y.1 (by first | omega | (simp; omega)))) ⟨_, rfl, Below.refl _ _, optDef zβ rfl⟩
              refine ⟨.inl ⟨rfl, true, .none rfl, (fun gg b h => by cases h), fun h w => optUndef h, fun zβ za zw zc => ?_⟩, ?_⟩
              ·exact fld_57_1 rfl (zc.kn.ev rfl) ⟨_, rfl, Below.refl _ _, optDef zβ rfl⟩
              refine ⟨.inl ⟨rfl, true, .none rfl, (fun gg b h => by cases h), fun h w => optUndef h, fun zβ za zw zc => ?_⟩, ?_⟩
              ·exact ld_48 rfl ((evt za 134).trans (optSVal (zc.dep 6 134 (by kernel_rfl) (by decide)) rfl rfl)) (chg_cell zc.chg (by first | exact hSn _ (by assumption) | (intro h9; exact (howny _ h9).2.1 rfl) | (intro h9; exact (howny _ h9).2.2 rfl)) ((hB135.cell 1).trans rfl)) ⟨_, rfl, Below.refl _ _, optDef zβ rfl⟩
              refine ⟨.inl ⟨rfl, true, .none rfl, (fun gg b h => by cases h), fun h w => optUndef h, fun zβ za zw zc => ?_⟩, ?_⟩
              ·exact wp_move rfl (zc.kn.ev rfl) ⟨_, rfl, Below.refl _ _, optDef zβ rfl⟩
              refine ⟨.inl ⟨rfl, true, .none rfl, (fun gg b h => by cases h), fun h w => optUndef h, fun zβ za zw zc => ?_⟩, ?_⟩
              ·exact ix_48 (k := y.1) rfl ((evt za 135).trans (optSVal (zc.dep 7 135 (by kernel_rfl) (by decide)) rfl rfl)) (ha149 y.1 (by first | omega | (simp; omega))) ((evt za 136).trans (optSVal (zc.dep 8 136 (by kernel_rfl) (by decide)) rfl rfl)) (by first | omega | (simp; omega)) ⟨_, rfl, Below.refl _ _, optDef zβ rfl⟩
              refine ⟨.inl ⟨rfl, true, .none rfl, (fun gg b h => by cases h), fun h w => optUndef h, fun zβ za zw zc => ?_⟩, ?_⟩
              ·exact ld_3 rfl ((evt za 137).trans (optSVal (zc.dep 9 137 (by kernel_rfl) (by decide)) rfl rfl)) (chg_cell zc.chg (by first | exact hSn _ (by assumption) | (intro h9; exact (howny _ h9).2.1 rfl) | (intro h9; exact (howny _ h9).2.2 rfl)) (hc151 y.1 (by first | omega | (simp; omega)))) ⟨_, rfl, Below.refl _ _, optDef zβ rfl⟩
              refine ⟨.inl ⟨rfl, true, .none rfl, (fun gg b h => by cases h), fun h w => optUndef h, fun zβ za zw zc => ?_⟩, ?_⟩
              ·exact build_94_0_1 rfl ((evt za 133).trans (optSVal (zc.dep 5 133 (by kernel_rfl) (by decide)) rfl rfl)) ((evt za 138).trans (optSVal (zc.dep 10 138 (by kernel_rfl) (by decide)) rfl rfl)) ⟨_, rfl, Below.refl _ _, optDef zβ rfl⟩
              refine ⟨.inr ⟨0, rfl, by kernel_rfl, true, .none rfl, (fun gg b h => by cases h), (fun h => (nomatch h)), fun zβ za zw zvals zc => ?_⟩, ?_⟩
              ·obtain rfl := vlen0 zc.len
               have zn := zc.now
               exact row_95_1 rfl ((evt za 139).trans (optSVal (zc.dep 11 139 (by kernel_rfl) (by decide)) rfl rfl)) ⟨_, rfl, .ofBelow (balloc _ _), ⟨RowD.below zn (balloc _ _), _, rfl, Blk.new' rfl⟩, cvNo⟩
              refine ⟨.inr ⟨1, rfl, by kernel_rfl, true, .none rfl, (fun gg b h => by cases h), (fun h => (nomatch h)), fun zβ za zw zvals zc => ?_⟩, ?_⟩
              ·obtain ⟨z0, rfl⟩ := vlen1 zc.len
               have zn := zc.now
               obtain ⟨k1, g1, e, k4⟩ := zn
               have e1 : z0 = za.tmps.getD 140 undef := Option.some.inj (zc.val 0 12 140 rfl (by kernel_rfl))
               exact wp_appD (E := eltQ) (y := (aget (pget N (x.κ (qget x.L (x.n - 1)).1)).args y.1, aget (pget N (x.κ (qget x.L (x.n - 1)).2)).args y.1)) (S2 := fun _ => False) (size := 2) (bytes := 16) (z := .agg #[.int .i64 0, .int .i64 0]) rfl Try.underlying95 (by kernel_rfl) rfl (by decide) rfl ((evt za 128).trans (optSVal (zc.dep 0 128 (by kernel_rfl) (by decide)) rfl rfl)) ((evt za 140).trans (e1.symm.trans e)) k1 k4 rfl (fun b q => q.elim) (by omega) (by omega) (fun ra rc w' h1 h2 h3 => ⟨_, rfl, h2, ⟨ra, rc, rfl, h1.mono (fun b q _ => by rcases q.1 with q | q <;> exact q) (fun b q => q.elim), fun q e => (h3 q e).imp id (fun z => by have z2 := zc.chg.size; omega)⟩, cvNo⟩)
              refine ⟨.inr ⟨2, rfl, by kernel_rfl, true, .none rfl, (fun gg b h => by cases h), (fun h => (nomatch h)), fun zβ za zw zvals zc => ?_⟩, ?_⟩
              ·obtain ⟨z0, z1, rfl⟩ := vlen2 zc.len
               have zn := zc.now
               obtain ⟨ra, rc, e, k1⟩ := zn
               have e0 : z1 = za.tmps.getD 141 undef := Option.some.inj (zc.val 1 13 141 rfl (by kernel_rfl))
               exact wp_assign rfl ((evt za 141).trans (e0.symm.trans e)) ⟨_, rfl, .ofBelow (Below.refl _ _), ⟨ra, rc, rfl, k1⟩, cvNo⟩
              exact trivial
             ·intro za w153 zvals zh zl hG154 hc155 zu zw zk
              obtain ⟨z0, z1, z2, rfl⟩ := vlen3 zl
              obtain ⟨ra9, rc9, e9, k9, ho9⟩ := hG154
              have zh := zh.cons (d := 7) (v := .slice ra9 ((x.n - 1 + y.1) + 1) rc9) ((Option.some.inj (zw 2 14 7 rfl (by kernel_rfl))).symm.trans e9)
              have hC156 := chg_fresh hCy hc155 (fun q e => .inr (howny q e).1)
              have hown9 : ∀ q, obk ra9 ((x.n - 1 + y.1) + 1) rc9 = some q → w.heap.size ≤ q ∧ q ≠ g41 ∧ q ≠ g42 := fun q e => by rcases ho9 q e with z | z; exact howny q z; (refine ⟨by omega, by have z3 := hB134.lt; omega, by have z3 := hB135.lt; omega⟩)
              have hP157 := ho137.chg hc155 (fun q e h9 => by have z := hZl q (hZ9 q e); have z2 := (howny q h9).1; omega)
              have ha158 := ho138.chgS hc155 (fun q e h9 => by have z := hZl q (hSZ9 q e); have z2 := (howny q h9).1; omega)
              have hb159 := ho139.chgS hc155 (fun q e h9 => by have z := hZl q (hSZ9 q e); have z2 := (howny q h9).1; omega)
              have hB160 := chg_blk hB134 hc155 (fun e => (howny _ e).2.1 rfl)
              have hB161 := chg_blk hB135 hc155 (fun e => (howny _ e).2.2 rfl)
              clear zu zw zk
              refine WE.go zh ?_
              refine WE.blockNormal (WE.next (WC.region ?_))
              refine WL.val (.int .i64 ((((y.1 + 1) : Nat) : Int))) rfl rfl rfl (fun za zC zh zk => addb_3 rfl (zh.ev rfl) (zh.ev rfl) (wrap_eq (by omega) (by omega) (by omega)) zk) ?_
              refine WL.mv rfl rfl rfl rfl rfl (WL.nil ?_)
              refine WE.round ((y.1 + 1, ra9, rc9)) ⟨rfl, rfl, rfl, rfl, rfl, rfl, rfl, rfl, rfl, rfl, rfl, rfl, rfl, rfl, rfl, rfl, trivial⟩ ?_ ?_
              ·exact ⟨(by (try dsimp only); omega), hown9, hC156, hB160, hB161, (by rw [zip_take_succ (by omega) hlen9, ← List.append_assoc]; exact k9), hP157, ha158, hb159⟩
              ·(try dsimp only); omega
            ·have h140 : ¬ ((((y.1 : Nat) : Int) : Int) < ((((pget N ((x.κ (qget x.L (x.n - 1)).1))).args.length : Nat) : Int) : Int)) := by simpa using h140
             refine WC.exit (WE.thenExit (WE.thenExit (WE.blockIs rfl (WE.blockNormal ?_))))
             have hye : y.1 = (pget N (x.κ (qget x.L (x.n - 1)).1)).args.length := by omega
             have hzt : ((pget N (x.κ (qget x.L (x.n - 1)).1)).args.zip (pget N (x.κ (qget x.L (x.n - 1)).2)).args).take y.1 = ((pget N (x.κ (qget x.L (x.n - 1)).1)).args.zip (pget N (x.κ (qget x.L (x.n - 1)).2)).args) := by rw [List.take_of_length_le (by rw [List.length_zip]; omega)]
             have hR2 := hR1.merge (a := (x.κ (qget x.L (x.n - 1)).1)) (b := (x.κ (qget x.L (x.n - 1)).2)) (by have z := ho137.len; rw [List.length_set] at z; omega) (by have z := ho137.len; rw [List.length_set] at z; omega) hka hkb hne hkx.idem
             have hr162 := ho136
             rw [hzt] at hr162
             have hN163 : NetX w133 g Z ((U1.set ((x.κ (qget x.L (x.n - 1)).2)) ((x.κ (qget x.L (x.n - 1)).1)))) N V := ⟨S9, _, uc, _, oc, ho137, hZ9, fun q e => Nat.lt_of_lt_of_le (hZl q e) (hCy).size⟩
             refine WE.round (⟨(U1.set ((x.κ (qget x.L (x.n - 1)).2)) ((x.κ (qget x.L (x.n - 1)).1))), (mrg x.κ (x.κ (qget x.L (x.n - 1)).2) (x.κ (qget x.L (x.n - 1)).1)), (fun z => if x.κ z = (x.κ (qget x.L (x.n - 1)).2) then x.d z + x.d (x.κ (qget x.L (x.n - 1)).1) + 1 else x.d z), x.n - 1 + y.1, (x.L.take (x.n - 1)) ++ ((pget N (x.κ (qget x.L (x.n - 1)).1)).args.zip (pget N (x.κ (qget x.L (x.n - 1)).2)).args), y.2.1, y.2.2⟩) ⟨rfl, rfl, rfl, rfl, trivial⟩ ?_ ?_
             ·exact ⟨hR2, stepM_kok hkx hka hkb hne hla hlb hst, (fun p hp => by rcases List.mem_append.1 hp with z | z; exact hInL p z; exact stepM_inr hN hla hlb hst p z), (fun o h9 => hrx o (by rw [hrl]; exact Run.step (i := (qget x.L (x.n - 1)).1) (j := (qget x.L (x.n - 1)).2) hne hst (by dsimp only at h9; rw [List.reverse_append] at h9; exact h9))), (by have z := stepM_sum hka hkb hne hla hlb hst; (try dsimp only at *); rw [List.length_zip] at z; omega), (fun q e => (howny q e).1), hCy, hN163, hr162⟩
             ·(have z := stepM_sum hka hkb hne hla hlb hst; (try dsimp only at *); rw [List.length_zip] at z; omega)
  ·have h13 : ¬ ((0 : Int) < (((x.n : Nat) : Int) : Int)) := by simpa using h13
   refine WC.exit (WE.thenExit (WE.thenExit (WE.blockIs rfl (WE.next (WC.seq (WC.region (WL.asg rfl rfl rfl rfl rfl (WL.nil (WE.next (WC.ret (WE.scopeRet (WE.ret1 rfl rfl ?_))))))))))))
   have hLn : x.L = [] := List.eq_nil_of_length_eq_zero (by omega)
   exact ⟨_, rfl, some x.κ, hrx _ (by rw [hLn]; exact Run.nil _), rfl, hCx, fun κ2 e => by obtain rfl := Option.some.inj e; exact ⟨x.U, x.d, hRx, ho11⟩⟩
end Go.Proofs.Ythhgidliopohcaa

/- Literals, clauses: how they lie in memory. -/
namespace Go.Proofs.Ythhgidliopohcaa
open Go.RowKit Go
set_option linter.unusedVariables false
set_option linter.unusedSimpArgs false
/-- A literal. -/
structure Li where
  neg : Bool
  l : T
  r : T
instance : Inhabited Li := ⟨⟨false, .mk 0 [], .mk 0 []⟩⟩
def Li.size (x : Li) : Nat := x.l.size + x.r.size
theorem InT.parts {S : Nat → Prop} {w : World} {t : T} {u v : Value} (h : InT S w t (.agg #[u, v])) : ∃ (a : Option Addr) (c : Nat), u = .int .i64 t.f ∧ v = .slice a t.args.length c := by
  obtain ⟨_, a, c, e, _⟩ := h.form
  simp only [Value.agg.injEq, Array.mk.injEq, List.cons.injEq, and_true] at e
  exact ⟨a, c, e.1, e.2⟩
def eltL : Elt Li where
  k := 5
  In := fun S w x cs => ∃ u1 u2 u3 u4, cs = [.bool x.neg, u1, u2, u3, u4] ∧ InT S w x.l (.agg #[u1, u2]) ∧ InT S w x.r (.agg #[u3, u4])
  keep := fun hb ⟨u1, u2, u3, u4, e, h0, h⟩ => ⟨u1, u2, u3, u4, e, h0.keep hb, h.keep hb⟩
  mono := fun hb ⟨u1, u2, u3, u4, e, h0, h⟩ => ⟨u1, u2, u3, u4, e, h0.mono hb, h.mono hb⟩
  len := fun ⟨_, _, _, _, e, _⟩ => by rw [e]; rfl
  one := fun ⟨u1, u2, u3, u4, e, h0, h⟩ x hx => by
    obtain ⟨a1, c1, rfl, rfl⟩ := h0.parts
    obtain ⟨a2, c2, rfl, rfl⟩ := h.parts
    rw [e] at hx
    simp only [List.mem_cons, List.not_mem_nil, or_false] at hx
    rcases hx with rfl | rfl | rfl | rfl | rfl <;> rfl
/-- A clause that came in. -/
abbrev IsLs (w : World) (l : List Li) (a : Option Addr) : Prop := InRow eltL (fun _ => True) w l a
/-- A clause that came in: it lies in memory, is no longer than that, its terms are no larger. -/
structure IsCl (w : World) (s : List Li) (a : Option Addr) (c : Nat) : Prop where
  rows : IsLs w s a
  len : s.length ≤ c
  cap : c ≤ maxLen
  small : s.length ≤ 4294967296
  partsL : ∀ b ∈ s, b.l.size ≤ 4294967296
  partsR : ∀ b ∈ s, b.r.size ≤ 4294967296
theorem IsCl.below {w w' : World} {s : List Li} {a : Option Addr} {c : Nat} (h : IsCl w s a c) (hb : Below w.heap.size w w') : IsCl w' s a c := ⟨h.rows.below hb, h.len, h.cap, h.small, h.partsL, h.partsR⟩
/-- A literal in memory. -/
def IsLi (w : World) (x : Li) (v : Value) : Prop := ∃ u1 u2 u3 u4, v = .agg #[.bool x.neg, u1, u2, u3, u4] ∧ IsT w x.l (.agg #[u1, u2]) ∧ IsT w x.r (.agg #[u3, u4])
theorem IsLi.below {w w' : World} {x : Li} {v : Value} (hb : Below w.heap.size w w') (h : IsLi w x v) : IsLi w' x v := by
  obtain ⟨u1, u2, u3, u4, e, h1, h2⟩ := h
  exact ⟨u1, u2, u3, u4, e, h1.below hb, h2.below hb⟩
theorem IsLi.form {w : World} {x : Li} {v : Value} (h : IsLi w x v) : ∃ (a1 a2 : Option Addr) (c1 c2 : Nat), v = .agg #[.bool x.neg, .int .i64 x.l.f, .slice a1 x.l.args.length c1, .int .i64 x.r.f, .slice a2 x.r.args.length c2] ∧
    IsT w x.l (.agg #[.int .i64 x.l.f, .slice a1 x.l.args.length c1]) ∧ IsT w x.r (.agg #[.int .i64 x.r.f, .slice a2 x.r.args.length c2]) := by
  obtain ⟨u1, u2, u3, u4, e, h1, h2⟩ := h
  obtain ⟨p1, q1, rfl, rfl⟩ := h1.cells
  obtain ⟨p2, q2, rfl, rfl⟩ := h2.cells
  exact ⟨p1, p2, q1, q2, e, h1, h2⟩
/-- A literal in memory, made since. -/
def NewL (w0 w : World) (x : Li) (v : Value) : Prop := ∃ u1 u2 u3 u4, v = .agg #[.bool x.neg, u1, u2, u3, u4] ∧ InT (fun b => w0.heap.size ≤ b) w x.l (.agg #[u1, u2]) ∧ InT (fun b => w0.heap.size ≤ b) w x.r (.agg #[u3, u4])
/-- A literal in memory, in blocks of 'S'. -/
def LiIn (S : Nat → Prop) (w : World) (x : Li) (v : Value) : Prop := ∃ u1 u2 u3 u4, v = .agg #[.bool x.neg, u1, u2, u3, u4] ∧ InT S w x.l (.agg #[u1, u2]) ∧ InT S w x.r (.agg #[u3, u4])
theorem LiIn.keep {S : Nat → Prop} {w w' : World} {x : Li} {v : Value} (hb : ∀ (p : Addr) (y : Value), S p.block → w.cell? p = some y → w'.cell? p = some y) (h : LiIn S w x v) : LiIn S w' x v := by
  obtain ⟨u1, u2, u3, u4, e, h1, h2⟩ := h
  exact ⟨u1, u2, u3, u4, e, h1.keep hb, h2.keep hb⟩
theorem LiIn.mono {S S' : Nat → Prop} {w : World} {x : Li} {v : Value} (hb : ∀ b, S b → b < w.heap.size → S' b) (h : LiIn S w x v) : LiIn S' w x v := by
  obtain ⟨u1, u2, u3, u4, e, h1, h2⟩ := h
  exact ⟨u1, u2, u3, u4, e, h1.mono hb, h2.mono hb⟩
theorem LiIn.parts {S : Nat → Prop} {w : World} {x : Li} {v : Value} (h : LiIn S w x v) : ∃ (a1 a2 : Option Addr) (c1 c2 : Nat), v = .agg #[.bool x.neg, .int .i64 x.l.f, .slice a1 x.l.args.length c1, .int .i64 x.r.f, .slice a2 x.r.args.length c2] := by
  obtain ⟨u1, u2, u3, u4, e, h1, h2⟩ := h
  obtain ⟨p1, q1, rfl, rfl⟩ := h1.parts
  obtain ⟨p2, q2, rfl, rfl⟩ := h2.parts
  exact ⟨p1, p2, q1, q2, e⟩
theorem LiIn.two {S : Nat → Prop} {w : World} {x : Li} {v0 v1 v2 v3 v4 : Value} (h : LiIn S w x (.agg #[v0, v1, v2, v3, v4])) : InT S w x.l (.agg #[v1, v2]) ∧ InT S w x.r (.agg #[v3, v4]) := by
  obtain ⟨u1, u2, u3, u4, e, h1, h2⟩ := h
  simp only [Value.agg.injEq, Array.mk.injEq, List.cons.injEq, and_true] at e
  obtain ⟨rfl, rfl, rfl, rfl, rfl⟩ := e
  exact ⟨h1, h2⟩
theorem NewL.below {w0 w w' : World} {x : Li} {v : Value} (h : NewL w0 w x v) (hb : Below w.heap.size w w') : NewL w0 w' x v := by
  obtain ⟨u1, u2, u3, u4, e, h1, h2⟩ := h
  exact ⟨u1, u2, u3, u4, e, h1.below hb, h2.below hb⟩
theorem NewL.chg {S : Nat → Prop} {w0 w w' : World} {x : Li} {v : Value} (h : NewL w0 w x v) (hc : Chg S w w') (hS : ∀ b, w0.heap.size ≤ b → ¬ S b) : NewL w0 w' x v := by
  obtain ⟨u1, u2, u3, u4, e, h1, h2⟩ := h
  exact ⟨u1, u2, u3, u4, e, h1.chg hc hS, h2.chg hc hS⟩
theorem NewL.parts {w0 w : World} {x : Li} {v : Value} (h : NewL w0 w x v) : ∃ (a1 a2 : Option Addr) (c1 c2 : Nat), v = .agg #[.bool x.neg, .int .i64 x.l.f, .slice a1 x.l.args.length c1, .int .i64 x.r.f, .slice a2 x.r.args.length c2] := by
  obtain ⟨u1, u2, u3, u4, e, h1, h2⟩ := h
  obtain ⟨p1, q1, rfl, rfl⟩ := h1.parts
  obtain ⟨p2, q2, rfl, rfl⟩ := h2.parts
  exact ⟨p1, p2, q1, q2, e⟩
/-- A box in which a new literal lies. -/
def LiBox (w0 w : World) (g ty : Nat) (x : Li) : Prop := ∃ (a1 a2 : Option Addr) (c1 c2 : Nat), Blk w g ty #[.bool x.neg, .int .i64 x.l.f, .slice a1 x.l.args.length c1, .int .i64 x.r.f, .slice a2 x.r.args.length c2] ∧ NewL w0 w x (.agg #[.bool x.neg, .int .i64 x.l.f, .slice a1 x.l.args.length c1, .int .i64 x.r.f, .slice a2 x.r.args.length c2])
theorem LiBox.below {w0 w w' : World} {g ty : Nat} {x : Li} (h : LiBox w0 w g ty x) (hb : Below w.heap.size w w') : LiBox w0 w' g ty x := by
  obtain ⟨a1, a2, c1, c2, h1, h2⟩ := h
  exact ⟨a1, a2, c1, c2, h1.below hb, h2.below hb⟩
/-- A clause in memory, made since. -/
def NewC (w0 w : World) (l : List Li) (a : Option Addr) (c : Nat) : Prop := InRow eltL (fun b => w0.heap.size ≤ b) w l a ∧ l.length ≤ c ∧ c ≤ maxLen
theorem NewC.below {w0 w w' : World} {l : List Li} {a : Option Addr} {c : Nat} (h : NewC w0 w l a c) (hb : Below w.heap.size w w') : NewC w0 w' l a c := ⟨h.1.below hb, h.2⟩
end Go.Proofs.Ythhgidliopohcaa

/- Are terms, clauses small? The program. -/
namespace Go.Proofs.Ythhgidliopohcaa
open Go.RowKit Go
set_option linter.unusedVariables false
set_option linter.unusedSimpArgs false
mutual
def T.dn (most : Int) : T → Nat → Bool
 | .mk f l, d => decide (d ≤ 30) && (if f < 0 then decide (-most ≤ f) && l.isEmpty else true) && T.dnL most l (d + 1)
def T.dnL (most : Int) : List T → Nat → Bool
 | [], _ => true
 | a :: r, d => a.dn most d && T.dnL most r d
end
/-- Are so many parts, and a term's, no more than there may be, from a depth on? -/
def smB (most : Int) (m d : Nat) (t : T) : Bool := decide (m + t.size ≤ 300) && t.dn most d
def smallB (most : Int) (t : T) : Bool := smB most 0 1 t
theorem dnL_all {most : Int} : ∀ {l : List T} {d : Nat}, T.dnL most l d = true ↔ ∀ k, k < l.length → (tget l k).dn most d = true
 | [], d => by simp [T.dnL]
 | a :: r, d => by
  rw [T.dnL, Bool.and_eq_true, dnL_all]
  constructor
  ·rintro ⟨h1, h2⟩ k hk
   cases k with
   | zero => exact h1
   | succ k => exact h2 k (by simpa using hk)
  ·intro h
   exact ⟨h 0 (by simp), fun k hk => h (k + 1) (by simpa using hk)⟩
theorem sizeL_take {l : List T} {k : Nat} (h : k < l.length) : T.sizeL (l.take (k + 1)) = T.sizeL (l.take k) + (tget l k).size := by
 have aux : ∀ a b : List T, T.sizeL (a ++ b) = T.sizeL a + T.sizeL b := fun a b => by
  induction a with
  | nil => simp [T.sizeL]
  | cons x r ih => simp only [List.cons_append, T.sizeL, ih]; omega
 rw [List.take_succ_eq_append_getElem h, aux, tget_lt h]; simp [T.sizeL]
theorem sizeL_take_le {l : List T} {k : Nat} : T.sizeL (l.take k) ≤ T.sizeL l := by
 have aux : ∀ a b : List T, T.sizeL (a ++ b) = T.sizeL a + T.sizeL b := fun a b => by
  induction a with
  | nil => simp [T.sizeL]
  | cons x r ih => simp only [List.cons_append, T.sizeL, ih]; omega
 have e := congrArg T.sizeL (List.take_append_drop k l)
 rw [aux] at e; omega
theorem smB_iff {most : Int} {m d : Nat} {t : T} : smB most m d t = true ↔ m + t.size ≤ 300 ∧ t.dn most d = true := by unfold smB; rw [Bool.and_eq_true, decide_eq_true_eq]
theorem dn_iff {most : Int} {d : Nat} {f : Int} {l : List T} : (T.mk f l).dn most d = true ↔ d ≤ 30 ∧ (f < 0 → -most ≤ f ∧ l = []) ∧ T.dnL most l (d + 1) = true := by
 rw [T.dn, Bool.and_eq_true, Bool.and_eq_true, decide_eq_true_eq, and_assoc]
 by_cases hf : f < 0
 ·rw [if_pos hf, Bool.and_eq_true, decide_eq_true_eq, List.isEmpty_iff]
  exact ⟨fun h => ⟨h.1, fun _ => h.2.1, h.2.2⟩, fun h => ⟨h.1, h.2.1 hf, h.2.2⟩⟩
 ·rw [if_neg hf]
  exact ⟨fun h => ⟨h.1, fun q => absurd q hf, h.2.2⟩, fun h => ⟨h.1, rfl, h.2.2⟩⟩
theorem size_mk {f : Int} {l : List T} : (T.mk f l).size = 1 + T.sizeL l := by rw [T.size]
theorem smB_head {most : Int} {m d : Nat} {f : Int} {l : List T} (h : (300 < m + 1 ∨ 30 < d) ∨ f < 0 ∧ (f < -most ∨ 0 < l.length)) : smB most m d (.mk f l) = false := by
 rw [Bool.eq_false_iff]; intro e
 rw [smB_iff, size_mk, dn_iff] at e
 obtain ⟨e1, e2, e3, _⟩ := e
 rcases h with (h | h) | ⟨h1, h2⟩
 ·omega
 ·omega
 ·obtain ⟨e4, rfl⟩ := e3 h1
  simp only [List.length_nil] at h2; omega
theorem smB_kid {most : Int} {m d k : Nat} {f : Int} {l : List T} (hk : k < l.length) (h : smB most (m + 1 + T.sizeL (l.take k)) (d + 1) (tget l k) = false) : smB most m d (.mk f l) = false := by
 rw [Bool.eq_false_iff] at h ⊢; intro e; apply h
 rw [smB_iff, size_mk, dn_iff] at e
 rw [smB_iff]
 have e1 := e.1
 have z1 := sizeL_take hk
 have z2 := sizeL_take_le (l := l) (k := k + 1)
 exact ⟨by omega, dnL_all.1 e.2.2.2 k hk⟩
theorem smB_yes {most : Int} {m d : Nat} {f : Int} {l : List T} (h0 : ¬ ((300 < m + 1 ∨ 30 < d) ∨ f < 0 ∧ (f < -most ∨ 0 < l.length))) (hn : m + 1 + T.sizeL l ≤ 300) (h : ∀ k, k < l.length → smB most (m + 1 + T.sizeL (l.take k)) (d + 1) (tget l k) = true) : smB most m d (.mk f l) = true := by
 rw [smB_iff, size_mk, dn_iff]
 exact ⟨by omega, by omega, fun hf => ⟨by omega, List.eq_nil_of_length_eq_zero (by omega)⟩, dnL_all.2 (fun k hk => (smB_iff.1 (h k hk)).2)⟩
set_option maxRecDepth 100000 in
theorem small1_any (most : Int) (hmost : 0 ≤ most ∧ most ≤ 1099511627776) (w0 : World) (gn gm gf : Nat) (hgn : w0.heap.size ≤ gn) (hmn : gm ≠ gn) (hfn : gf ≠ gn) : ∀ (t : T) (m d : Nat) (w : World) (pb po : Nat) (a : Option Addr) (c : Nat), m ≤ 1000 → d ≤ 31 → Below w0.heap.size w0 w → w0.cell? ⟨pb, po, none⟩ = some (.int .i64 t.f) → w0.cell? ⟨pb, po + 1, none⟩ = some (.slice a t.args.length c) → IsT w0 t (.agg #[.int .i64 t.f, .slice a t.args.length c]) →
  Blk w gn 3 #[.int .i64 (m : Int)] → Blk w gm 3 #[.int .i64 most] → Blk w gf 93 #[.func (.func 55) #[] #[.pointer (some ⟨gn, 0, none⟩), .pointer (some ⟨gm, 0, none⟩), .pointer (some ⟨gf, 0, none⟩)]] → Calls Try.prog 55 #[.pointer (some ⟨pb, po, none⟩), .int .i64 (d : Int), .pointer (some ⟨gn, 0, none⟩), .pointer (some ⟨gm, 0, none⟩), .pointer (some ⟨gf, 0, none⟩)] w (Ret fun v' w' => (v' = .bool (smB most m d t) ∧ ∃ m' : Nat, Blk w' gn 3 #[.int .i64 (m' : Int)] ∧ (smB most m d t = true → m' = m + t.size)) ∧ Chg (fun b => b = gn) w w') := by
 refine T.ind (fun f l ih => ?_)
 intro m d w pb po a c hm hd hw hc0 hc1 hT hN hM hF
 have hl0 : IsTs w0 l a 0 := (isT_row hT).2.2.2
 have hI : I64 f := hT.form.1
 unfold I64 at hI
 have hlen : l.length ≤ 9223372036854775807 := by have z := isT_row hT; have z2 := z.2.1; have z3 := z.2.2.1; unfold maxLen at z3; have z1 : l.length ≤ c := z2; omega
 have hc0' : w0.cell? ⟨pb, po, none⟩ = some (.int .i64 f) := hc0
 have hc1' : w0.cell? ⟨pb, po + 1, none⟩ = some (.slice a l.length c) := hc1
 refine Calls.walk (l := [.pointer (some ⟨pb, po, none⟩), .int .i64 (((d : Nat) : Int)), .pointer (some ⟨gn, 0, none⟩), .pointer (some ⟨gm, 0, none⟩), .pointer (some ⟨gf, 0, none⟩)]) Try.func55 rfl (by kernel_rfl) ?_
 refine WC.sub (K' := [(0, .pointer (some ⟨pb, po, none⟩)), (1, .int .i64 (((d : Nat) : Int))), (2, .pointer (some ⟨gn, 0, none⟩)), (3, .pointer (some ⟨gm, 0, none⟩)), (4, .pointer (some ⟨gf, 0, none⟩))]) ⟨rfl, rfl, rfl, rfl, rfl, trivial⟩ ?_
 refine WC.seq (WC.region (WL.asg rfl rfl rfl rfl rfl (WL.nil (WE.next (WC.seq (WC.seq (WC.region ?_)))))))
 refine WL.val _ rfl rfl rfl (fun za zC zh zk => ld_3 rfl (zh.ev rfl) ((hN.cell 0).trans rfl) zk) ?_
 refine WL.val (.int .i64 ((((m + 1) : Nat) : Int))) rfl rfl rfl (fun za zC zh zk => addb_3 rfl (zh.ev rfl) (zh.ev rfl) (wrap_eq (by omega) (by omega) (by omega)) zk) ?_
 refine WL.step (post := fun _ w' => Upd gn w w' ∧ Blk w' gn 3 #[.int .i64 ((((m + 1) : Nat) : Int))]) rfl rfl rfl (fun za zC zh zk => st_3 rfl (zh.ev rfl) (zh.ev rfl) hN (by first | decide | simp) (fun v => zk v _ ⟨Upd.at_ _ _ _ _, hN.set_ 0 _⟩)) ?_
 rintro v4 w1 ⟨hu2, hB3⟩
 have hb5 := upd_below hw hu2 (by omega)
 have hB6 := upd_blk hM hu2 (by omega)
 have hB7 := upd_blk hF hu2 (by omega)
 refine WL.nil (WE.next (WC.seq ?_))
 refine WC.opt [(true, .val (.int .i64 ((((m + 1) : Nat) : Int)))), (true, .val (.bool ((decide ((300 : Int) < ((((m + 1) : Nat) : Int) : Int)))))), (true, .val (.bool ((decide ((300 : Int) < ((((m + 1) : Nat) : Int) : Int)))))), ((true && !(decide ((300 : Int) < ((((m + 1) : Nat) : Int) : Int)))), .val (.int .i64 (((d : Nat) : Int)))), ((true && !(decide ((300 : Int) < ((((m + 1) : Nat) : Int) : Int)))), .val (.bool ((decide ((30 : Int) < (((d : Nat) : Int) : Int)))))), (true, .val (.bool (((decide ((300 : Int) < ((((m + 1) : Nat) : Int) : Int))) || (decide ((30 : Int) < (((d : Nat) : Int) : Int))))))), (true, .val (.bool (((decide ((300 : Int) < ((((m + 1) : Nat) : Int) : Int))) || (decide ((30 : Int) < (((d : Nat) : Int) : Int))))))), ((true && !((decide ((300 : Int) < ((((m + 1) : Nat) : Int) : Int))) || (decide ((30 : Int) < (((d : Nat) : Int) : Int))))), .val (.pointer (some ⟨pb, po, none⟩))), ((true && !((decide ((300 : Int) < ((((m + 1) : Nat) : Int) : Int))) || (decide ((30 : Int) < (((d : Nat) : Int) : Int))))), .val (.pointer (some ⟨pb, po, none⟩))), ((true && !((decide ((300 : Int) < ((((m + 1) : Nat) : Int) : Int))) || (decide ((30 : Int) < (((d : Nat) : Int) : Int))))), .val (.pointer (some ⟨pb, po, none⟩))), ((true && !((decide ((300 : Int) < ((((m + 1) : Nat) : Int) : Int))) || (decide ((30 : Int) < (((d : Nat) : Int) : Int))))), .val (.int .i64 f)), ((true && !((decide ((300 : Int) < ((((m + 1) : Nat) : Int) : Int))) || (decide ((30 : Int) < (((d : Nat) : Int) : Int))))), .val (.bool ((decide ((f : Int) < (0 : Int)))))), ((true && !((decide ((300 : Int) < ((((m + 1) : Nat) : Int) : Int))) || (decide ((30 : Int) < (((d : Nat) : Int) : Int))))), .val (.bool ((decide ((f : Int) < (0 : Int)))))), (((true && !((decide ((300 : Int) < ((((m + 1) : Nat) : Int) : Int))) || (decide ((30 : Int) < (((d : Nat) : Int) : Int))))) && (decide ((f : Int) < (0 : Int)))), .val (.pointer (some ⟨pb, po, none⟩))), (((true && !((decide ((300 : Int) < ((((m + 1) : Nat) : Int) : Int))) || (decide ((30 : Int) < (((d : Nat) : Int) : Int))))) && (decide ((f : Int) < (0 : Int)))), .val (.pointer (some ⟨pb, po, none⟩))), (((true && !((decide ((300 : Int) < ((((m + 1) : Nat) : Int) : Int))) || (decide ((30 : Int) < (((d : Nat) : Int) : Int))))) && (decide ((f : Int) < (0 : Int)))), .val (.pointer (some ⟨pb, po, none⟩))), (((true && !((decide ((300 : Int) < ((((m + 1) : Nat) : Int) : Int))) || (decide ((30 : Int) < (((d : Nat) : Int) : Int))))) && (decide ((f : Int) < (0 : Int)))), .val (.int .i64 f)), (((true && !((decide ((300 : Int) < ((((m + 1) : Nat) : Int) : Int))) || (decide ((30 : Int) < (((d : Nat) : Int) : Int))))) && (decide ((f : Int) < (0 : Int)))), .val (.int .i64 most)), (((true && !((decide ((300 : Int) < ((((m + 1) : Nat) : Int) : Int))) || (decide ((30 : Int) < (((d : Nat) : Int) : Int))))) && (decide ((f : Int) < (0 : Int)))), .val (.int .i64 ((-most)))), (((true && !((decide ((300 : Int) < ((((m + 1) : Nat) : Int) : Int))) || (decide ((30 : Int) < (((d : Nat) : Int) : Int))))) && (decide ((f : Int) < (0 : Int)))), .val (.bool ((decide ((f : Int) < ((-most) : Int)))))), (((true && !((decide ((300 : Int) < ((((m + 1) : Nat) : Int) : Int))) || (decide ((30 : Int) < (((d : Nat) : Int) : Int))))) && (decide ((f : Int) < (0 : Int)))), .val (.bool ((decide ((f : Int) < ((-most) : Int)))))), ((((true && !((decide ((300 : Int) < ((((m + 1) : Nat) : Int) : Int))) || (decide ((30 : Int) < (((d : Nat) : Int) : Int))))) && (decide ((f : Int) < (0 : Int)))) && !(decide ((f : Int) < ((-most) : Int)))), .val (.pointer (some ⟨pb, po, none⟩))), ((((true && !((decide ((300 : Int) < ((((m + 1) : Nat) : Int) : Int))) || (decide ((30 : Int) < (((d : Nat) : Int) : Int))))) && (decide ((f : Int) < (0 : Int)))) && !(decide ((f : Int) < ((-most) : Int)))), .val (.pointer (some ⟨pb, po, none⟩))), ((((true && !((decide ((300 : Int) < ((((m + 1) : Nat) : Int) : Int))) || (decide ((30 : Int) < (((d : Nat) : Int) : Int))))) && (decide ((f : Int) < (0 : Int)))) && !(decide ((f : Int) < ((-most) : Int)))), .val (.pointer (some ⟨pb, po + 1, none⟩))), ((((true && !((decide ((300 : Int) < ((((m + 1) : Nat) : Int) : Int))) || (decide ((30 : Int) < (((d : Nat) : Int) : Int))))) && (decide ((f : Int) < (0 : Int)))) && !(decide ((f : Int) < ((-most) : Int)))), .val (.slice a l.length c)), ((((true && !((decide ((300 : Int) < ((((m + 1) : Nat) : Int) : Int))) || (decide ((30 : Int) < (((d : Nat) : Int) : Int))))) && (decide ((f : Int) < (0 : Int)))) && !(decide ((f : Int) < ((-most) : Int)))), .val (.int .i64 (((l.length : Nat) : Int)))), ((((true && !((decide ((300 : Int) < ((((m + 1) : Nat) : Int) : Int))) || (decide ((30 : Int) < (((d : Nat) : Int) : Int))))) && (decide ((f : Int) < (0 : Int)))) && !(decide ((f : Int) < ((-most) : Int)))), .val (.bool ((decide ((0 : Int) < (((l.length : Nat) : Int) : Int)))))), (((true && !((decide ((300 : Int) < ((((m + 1) : Nat) : Int) : Int))) || (decide ((30 : Int) < (((d : Nat) : Int) : Int))))) && (decide ((f : Int) < (0 : Int)))), .val (.bool (((decide ((f : Int) < ((-most) : Int))) || (decide ((0 : Int) < (((l.length : Nat) : Int) : Int))))))), ((true && !((decide ((300 : Int) < ((((m + 1) : Nat) : Int) : Int))) || (decide ((30 : Int) < (((d : Nat) : Int) : Int))))), .val (.bool (((decide ((f : Int) < (0 : Int))) && ((decide ((f : Int) < ((-most) : Int))) || (decide ((0 : Int) < (((l.length : Nat) : Int) : Int)))))))), (true, .val (.bool ((((decide ((300 : Int) < ((((m + 1) : Nat) : Int) : Int))) || (decide ((30 : Int) < (((d : Nat) : Int) : Int)))) || ((decide ((f : Int) < (0 : Int))) && ((decide ((f : Int) < ((-most) : Int))) || (decide ((0 : Int) < (((l.length : Nat) : Int) : Int)))))))))] [(0, .pointer (some ⟨pb, po, none⟩)), (1, .int .i64 (((d : Nat) : Int))), (2, .pointer (some ⟨gn, 0, none⟩)), (3, .pointer (some ⟨gm, 0, none⟩)), (4, .pointer (some ⟨gf, 0, none⟩)), (7, .bool false)] ⟨rfl, rfl, rfl, rfl, rfl, rfl, trivial⟩ (by kernel_rfl) (by kernel_rfl) (by kernel_rfl) ?_ ?_
 ·refine ⟨⟨true, .none rfl, fun h w => optUndef h, fun zβ za zw zc => ?_⟩, ?_⟩
  ·exact ld_3 rfl (zc.kn.ev rfl) (bkeeps zc.below _ _ ((hB3.cell 0).trans rfl)) ⟨_, rfl, Below.refl _ _, optDef zβ rfl⟩
  refine ⟨⟨true, .none rfl, fun h w => optUndef h, fun zβ za zw zc => ?_⟩, ?_⟩
  ·exact gtr_3 rfl ((evt za 11).trans (optVal (zc.dep 0 11 (by kernel_rfl)) rfl rfl)) (zc.kn.ev rfl) ⟨_, rfl, Below.refl _ _, optDef zβ rfl⟩
  refine ⟨⟨true, .none rfl, fun h w => optUndef h, fun zβ za zw zc => ?_⟩, ?_⟩
  ·exact wp_move rfl ((evt za 12).trans (optVal (zc.dep 1 12 (by kernel_rfl)) rfl rfl)) ⟨_, rfl, Below.refl _ _, optDef zβ rfl⟩
  refine ⟨⟨_, .no (c := (decide ((300 : Int) < ((((m + 1) : Nat) : Int) : Int)))) (d := true) rfl (fun v w h => h), fun h w => optUndef h, fun zβ za zw zc => ?_⟩, ?_⟩
  ·exact wp_move rfl (zc.kn.ev rfl) ⟨_, rfl, Below.refl _ _, optDef zβ rfl⟩
  refine ⟨⟨_, .no (c := (decide ((300 : Int) < ((((m + 1) : Nat) : Int) : Int)))) (d := true) rfl (fun v w h => h), fun h w => optUndef h, fun zβ za zw zc => ?_⟩, ?_⟩
  ·exact gtr_3 rfl ((evt za 14).trans (optVal (zc.dep 3 14 (by kernel_rfl)) rfl zβ)) (zc.kn.ev rfl) ⟨_, rfl, Below.refl _ _, optDef zβ rfl⟩
  refine ⟨⟨true, .none rfl, fun h w => optUndef h, fun zβ za zw zc => ?_⟩, ?_⟩
  ·exact wp_or rfl ((evt za 13).trans (optVal (zc.dep 2 13 (by kernel_rfl)) rfl rfl)) (fun hp => ((evt za 15).trans (optVal (zc.dep 4 15 (by kernel_rfl)) rfl (bMkN zβ hp)))) ⟨_, rfl, Below.refl _ _, optDef zβ rfl⟩
  refine ⟨⟨true, .none rfl, fun h w => optUndef h, fun zβ za zw zc => ?_⟩, ?_⟩
  ·exact wp_move rfl ((evt za 16).trans (optVal (zc.dep 5 16 (by kernel_rfl)) rfl rfl)) ⟨_, rfl, Below.refl _ _, optDef zβ rfl⟩
  refine ⟨⟨_, .no (c := ((decide ((300 : Int) < ((((m + 1) : Nat) : Int) : Int))) || (decide ((30 : Int) < (((d : Nat) : Int) : Int))))) (d := true) rfl (fun v w h => h), fun h w => optUndef h, fun zβ za zw zc => ?_⟩, ?_⟩
  ·exact wp_move rfl (zc.kn.ev rfl) ⟨_, rfl, Below.refl _ _, optDef zβ rfl⟩
  refine ⟨⟨_, .no (c := ((decide ((300 : Int) < ((((m + 1) : Nat) : Int) : Int))) || (decide ((30 : Int) < (((d : Nat) : Int) : Int))))) (d := true) rfl (fun v w h => h), fun h w => optUndef h, fun zβ za zw zc => ?_⟩, ?_⟩
  ·exact nilCheck_ rfl ((evt za 18).trans (optVal (zc.dep 7 18 (by kernel_rfl)) rfl zβ)) ⟨_, rfl, Below.refl _ _, optDef zβ rfl⟩
  refine ⟨⟨_, .no (c := ((decide ((300 : Int) < ((((m + 1) : Nat) : Int) : Int))) || (decide ((30 : Int) < (((d : Nat) : Int) : Int))))) (d := true) rfl (fun v w h => h), fun h w => optUndef h, fun zβ za zw zc => ?_⟩, ?_⟩
  ·exact fld_32_0 rfl ((evt za 19).trans (optVal (zc.dep 8 19 (by kernel_rfl)) rfl zβ)) ⟨_, rfl, Below.refl _ _, optDef zβ rfl⟩
  refine ⟨⟨_, .no (c := ((decide ((300 : Int) < ((((m + 1) : Nat) : Int) : Int))) || (decide ((30 : Int) < (((d : Nat) : Int) : Int))))) (d := true) rfl (fun v w h => h), fun h w => optUndef h, fun zβ za zw zc => ?_⟩, ?_⟩
  ·exact ld_3 rfl ((evt za 20).trans (optVal (zc.dep 9 20 (by kernel_rfl)) rfl zβ)) (bkeeps (bstep hb5 zc.below) _ _ hc0') ⟨_, rfl, Below.refl _ _, optDef zβ rfl⟩
  refine ⟨⟨_, .no (c := ((decide ((300 : Int) < ((((m + 1) : Nat) : Int) : Int))) || (decide ((30 : Int) < (((d : Nat) : Int) : Int))))) (d := true) rfl (fun v w h => h), fun h w => optUndef h, fun zβ za zw zc => ?_⟩, ?_⟩
  ·exact lss_3 rfl ((evt za 21).trans (optVal (zc.dep 10 21 (by kernel_rfl)) rfl zβ)) (zc.kn.ev rfl) ⟨_, rfl, Below.refl _ _, optDef zβ rfl⟩
  refine ⟨⟨_, .no (c := ((decide ((300 : Int) < ((((m + 1) : Nat) : Int) : Int))) || (decide ((30 : Int) < (((d : Nat) : Int) : Int))))) (d := true) rfl (fun v w h => h), fun h w => optUndef h, fun zβ za zw zc => ?_⟩, ?_⟩
  ·exact wp_move rfl ((evt za 22).trans (optVal (zc.dep 11 22 (by kernel_rfl)) rfl zβ)) ⟨_, rfl, Below.refl _ _, optDef zβ rfl⟩
  refine ⟨⟨_, .yes (c := (decide ((f : Int) < (0 : Int)))) (d := (true && !((decide ((300 : Int) < ((((m + 1) : Nat) : Int) : Int))) || (decide ((30 : Int) < (((d : Nat) : Int) : Int)))))) rfl (fun v w h => h), fun h w => optUndef h, fun zβ za zw zc => ?_⟩, ?_⟩
  ·exact wp_move rfl (zc.kn.ev rfl) ⟨_, rfl, Below.refl _ _, optDef zβ rfl⟩
  refine ⟨⟨_, .yes (c := (decide ((f : Int) < (0 : Int)))) (d := (true && !((decide ((300 : Int) < ((((m + 1) : Nat) : Int) : Int))) || (decide ((30 : Int) < (((d : Nat) : Int) : Int)))))) rfl (fun v w h => h), fun h w => optUndef h, fun zβ za zw zc => ?_⟩, ?_⟩
  ·exact nilCheck_ rfl ((evt za 24).trans (optVal (zc.dep 13 24 (by kernel_rfl)) rfl zβ)) ⟨_, rfl, Below.refl _ _, optDef zβ rfl⟩
  refine ⟨⟨_, .yes (c := (decide ((f : Int) < (0 : Int)))) (d := (true && !((decide ((300 : Int) < ((((m + 1) : Nat) : Int) : Int))) || (decide ((30 : Int) < (((d : Nat) : Int) : Int)))))) rfl (fun v w h => h), fun h w => optUndef h, fun zβ za zw zc => ?_⟩, ?_⟩
  ·exact fld_32_0 rfl ((evt za 25).trans (optVal (zc.dep 14 25 (by kernel_rfl)) rfl zβ)) ⟨_, rfl, Below.refl _ _, optDef zβ rfl⟩
  refine ⟨⟨_, .yes (c := (decide ((f : Int) < (0 : Int)))) (d := (true && !((decide ((300 : Int) < ((((m + 1) : Nat) : Int) : Int))) || (decide ((30 : Int) < (((d : Nat) : Int) : Int)))))) rfl (fun v w h => h), fun h w => optUndef h, fun zβ za zw zc => ?_⟩, ?_⟩
  ·exact ld_3 rfl ((evt za 26).trans (optVal (zc.dep 15 26 (by kernel_rfl)) rfl zβ)) (bkeeps (bstep hb5 zc.below) _ _ hc0') ⟨_, rfl, Below.refl _ _, optDef zβ rfl⟩
  refine ⟨⟨_, .yes (c := (decide ((f : Int) < (0 : Int)))) (d := (true && !((decide ((300 : Int) < ((((m + 1) : Nat) : Int) : Int))) || (decide ((30 : Int) < (((d : Nat) : Int) : Int)))))) rfl (fun v w h => h), fun h w => optUndef h, fun zβ za zw zc => ?_⟩, ?_⟩
  ·exact ld_3 rfl (zc.kn.ev rfl) (bkeeps zc.below _ _ ((hB6.cell 0).trans rfl)) ⟨_, rfl, Below.refl _ _, optDef zβ rfl⟩
  refine ⟨⟨_, .yes (c := (decide ((f : Int) < (0 : Int)))) (d := (true && !((decide ((300 : Int) < ((((m + 1) : Nat) : Int) : Int))) || (decide ((30 : Int) < (((d : Nat) : Int) : Int)))))) rfl (fun v w h => h), fun h w => optUndef h, fun zβ za zw zc => ?_⟩, ?_⟩
  ·exact negb_3 rfl ((evt za 28).trans (optVal (zc.dep 17 28 (by kernel_rfl)) rfl zβ)) (wrap_eq (by omega) (by omega) (by omega)) ⟨_, rfl, Below.refl _ _, optDef zβ rfl⟩
  refine ⟨⟨_, .yes (c := (decide ((f : Int) < (0 : Int)))) (d := (true && !((decide ((300 : Int) < ((((m + 1) : Nat) : Int) : Int))) || (decide ((30 : Int) < (((d : Nat) : Int) : Int)))))) rfl (fun v w h => h), fun h w => optUndef h, fun zβ za zw zc => ?_⟩, ?_⟩
  ·exact lss_3 rfl ((evt za 27).trans (optVal (zc.dep 16 27 (by kernel_rfl)) rfl zβ)) ((evt za 29).trans (optVal (zc.dep 18 29 (by kernel_rfl)) rfl zβ)) ⟨_, rfl, Below.refl _ _, optDef zβ rfl⟩
  refine ⟨⟨_, .yes (c := (decide ((f : Int) < (0 : Int)))) (d := (true && !((decide ((300 : Int) < ((((m + 1) : Nat) : Int) : Int))) || (decide ((30 : Int) < (((d : Nat) : Int) : Int)))))) rfl (fun v w h => h), fun h w => optUndef h, fun zβ za zw zc => ?_⟩, ?_⟩
  ·exact wp_move rfl ((evt za 30).trans (optVal (zc.dep 19 30 (by kernel_rfl)) rfl zβ)) ⟨_, rfl, Below.refl _ _, optDef zβ rfl⟩
  refine ⟨⟨_, .no (c := (decide ((f : Int) < ((-most) : Int)))) (d := ((true && !((decide ((300 : Int) < ((((m + 1) : Nat) : Int) : Int))) || (decide ((30 : Int) < (((d : Nat) : Int) : Int))))) && (decide ((f : Int) < (0 : Int))))) rfl (fun v w h => h), fun h w => optUndef h, fun zβ za zw zc => ?_⟩, ?_⟩
  ·exact wp_move rfl (zc.kn.ev rfl) ⟨_, rfl, Below.refl _ _, optDef zβ rfl⟩
  refine ⟨⟨_, .no (c := (decide ((f : Int) < ((-most) : Int)))) (d := ((true && !((decide ((300 : Int) < ((((m + 1) : Nat) : Int) : Int))) || (decide ((30 : Int) < (((d : Nat) : Int) : Int))))) && (decide ((f : Int) < (0 : Int))))) rfl (fun v w h => h), fun h w => optUndef h, fun zβ za zw zc => ?_⟩, ?_⟩
  ·exact nilCheck_ rfl ((evt za 32).trans (optVal (zc.dep 21 32 (by kernel_rfl)) rfl zβ)) ⟨_, rfl, Below.refl _ _, optDef zβ rfl⟩
  refine ⟨⟨_, .no (c := (decide ((f : Int) < ((-most) : Int)))) (d := ((true && !((decide ((300 : Int) < ((((m + 1) : Nat) : Int) : Int))) || (decide ((30 : Int) < (((d : Nat) : Int) : Int))))) && (decide ((f : Int) < (0 : Int))))) rfl (fun v w h => h), fun h w => optUndef h, fun zβ za zw zc => ?_⟩, ?_⟩
  ·exact fld_32_1 rfl ((evt za 33).trans (optVal (zc.dep 22 33 (by kernel_rfl)) rfl zβ)) ⟨_, rfl, Below.refl _ _, optDef zβ rfl⟩
  refine ⟨⟨_, .no (c := (decide ((f : Int) < ((-most) : Int)))) (d := ((true && !((decide ((300 : Int) < ((((m + 1) : Nat) : Int) : Int))) || (decide ((30 : Int) < (((d : Nat) : Int) : Int))))) && (decide ((f : Int) < (0 : Int))))) rfl (fun v w h => h), fun h w => optUndef h, fun zβ za zw zc => ?_⟩, ?_⟩
  ·exact ld_30 rfl ((evt za 34).trans (optVal (zc.dep 23 34 (by kernel_rfl)) rfl zβ)) (bkeeps (bstep hb5 zc.below) _ _ hc1') ⟨_, rfl, Below.refl _ _, optDef zβ rfl⟩
  refine ⟨⟨_, .no (c := (decide ((f : Int) < ((-most) : Int)))) (d := ((true && !((decide ((300 : Int) < ((((m + 1) : Nat) : Int) : Int))) || (decide ((30 : Int) < (((d : Nat) : Int) : Int))))) && (decide ((f : Int) < (0 : Int))))) rfl (fun v w h => h), fun h w => optUndef h, fun zβ za zw zc => ?_⟩, ?_⟩
  ·exact len_30 rfl ((evt za 35).trans (optVal (zc.dep 24 35 (by kernel_rfl)) rfl zβ)) ⟨_, rfl, Below.refl _ _, optDef zβ rfl⟩
  refine ⟨⟨_, .no (c := (decide ((f : Int) < ((-most) : Int)))) (d := ((true && !((decide ((300 : Int) < ((((m + 1) : Nat) : Int) : Int))) || (decide ((30 : Int) < (((d : Nat) : Int) : Int))))) && (decide ((f : Int) < (0 : Int))))) rfl (fun v w h => h), fun h w => optUndef h, fun zβ za zw zc => ?_⟩, ?_⟩
  ·exact gtr_3 rfl ((evt za 36).trans (optVal (zc.dep 25 36 (by kernel_rfl)) rfl zβ)) (zc.kn.ev rfl) ⟨_, rfl, Below.refl _ _, optDef zβ rfl⟩
  refine ⟨⟨_, .yes (c := (decide ((f : Int) < (0 : Int)))) (d := (true && !((decide ((300 : Int) < ((((m + 1) : Nat) : Int) : Int))) || (decide ((30 : Int) < (((d : Nat) : Int) : Int)))))) rfl (fun v w h => h), fun h w => optUndef h, fun zβ za zw zc => ?_⟩, ?_⟩
  ·exact wp_or rfl ((evt za 31).trans (optVal (zc.dep 20 31 (by kernel_rfl)) rfl zβ)) (fun hp => ((evt za 37).trans (optVal (zc.dep 26 37 (by kernel_rfl)) rfl (bMkN zβ hp)))) ⟨_, rfl, Below.refl _ _, optDef zβ rfl⟩
  refine ⟨⟨_, .no (c := ((decide ((300 : Int) < ((((m + 1) : Nat) : Int) : Int))) || (decide ((30 : Int) < (((d : Nat) : Int) : Int))))) (d := true) rfl (fun v w h => h), fun h w => optUndef h, fun zβ za zw zc => ?_⟩, ?_⟩
  ·exact wp_and rfl ((evt za 23).trans (optVal (zc.dep 12 23 (by kernel_rfl)) rfl zβ)) (fun hp => ((evt za 38).trans (optVal (zc.dep 27 38 (by kernel_rfl)) rfl (bMk zβ hp)))) ⟨_, rfl, Below.refl _ _, optDef zβ rfl⟩
  refine ⟨⟨true, .none rfl, fun h w => optUndef h, fun zβ za zw zc => ?_⟩, ?_⟩
  ·exact wp_or rfl ((evt za 17).trans (optVal (zc.dep 6 17 (by kernel_rfl)) rfl rfl)) (fun hp => ((evt za 39).trans (optVal (zc.dep 28 39 (by kernel_rfl)) rfl (bMkN zβ hp)))) ⟨_, rfl, Below.refl _ _, optDef zβ rfl⟩
  exact trivial
 ·intro za w8 zh hb9 zu
  have zh := zh.cons (d := 40) (v := .bool ((((decide ((300 : Int) < ((((m + 1) : Nat) : Int) : Int))) || (decide ((30 : Int) < (((d : Nat) : Int) : Int)))) || ((decide ((f : Int) < (0 : Int))) && ((decide ((f : Int) < ((-most) : Int))) || (decide ((0 : Int) < (((l.length : Nat) : Int) : Int)))))))) (optVal (zu 29 40 (by kernel_rfl)) rfl rfl)
  clear zu
  refine WE.go zh ?_
  refine WE.next ?_
  refine WC.cond rfl (fun h10 => ?_) (fun h10 => ?_)
  ·have h10 : (((300 : Int) < ((((m + 1) : Nat) : Int) : Int)) ∨ ((30 : Int) < (((d : Nat) : Int) : Int))) ∨ (((f : Int) < (0 : Int)) ∧ (((f : Int) < ((-most) : Int)) ∨ ((0 : Int) < (((l.length : Nat) : Int) : Int)))) := by simpa using h10
   refine WC.seq (WC.region (WL.asg rfl rfl rfl rfl rfl (WL.nil (WE.next (WC.ret (WE.thenRet (WE.ret1 rfl rfl ?_)))))))
   have hB11 := hB3.below hb9
   have hs12 : Chg ((fun b => b = gn)) w w8 := (Chg.trans2 (Chg.trans2 (Chg.refl ((fun b => b = gn)) _) (Chg.ofUpd (S := fun k => k = gn) hu2 rfl) (fun i h1 h2 => by first | exact h2 | exact .inl ⟨h2, h1⟩ | exact .inl h2 | exact .inr h2 | exact .inr (.inl h2) | exact .inr (.inr h2) | ((try dsimp only at *); omega))) (Chg.ofBelow (S := fun k => k < 0) hb9) (fun i h1 h2 => by first | exact h2 | exact .inl ⟨h2, h1⟩ | exact .inl h2 | exact .inr h2 | exact .inr (.inl h2) | exact .inr (.inr h2) | ((try dsimp only at *); omega)))
   have hno : smB most m d (.mk f l) = false := smB_head (by omega)
   exact ⟨_, rfl, ⟨by rw [hno], _, hB11, fun h => by rw [hno] at h; cases h⟩, hs12⟩
  ·have h10 : ¬ ((((300 : Int) < ((((m + 1) : Nat) : Int) : Int)) ∨ ((30 : Int) < (((d : Nat) : Int) : Int))) ∨ (((f : Int) < (0 : Int)) ∧ (((f : Int) < ((-most) : Int)) ∨ ((0 : Int) < (((l.length : Nat) : Int) : Int))))) := by simpa using h10
   have hd30 : d ≤ 30 := by omega
   have hm3 : m + 1 ≤ 300 := by omega
   refine WC.skip (WE.next (WC.seq (WC.seq (WC.region (WL.mv rfl rfl rfl rfl rfl ?_)))))
   refine WL.val _ rfl rfl rfl (fun za zC zh zk => nilCheck_ rfl (zh.ev rfl) zk) ?_
   refine WL.val _ rfl rfl rfl (fun za zC zh zk => fld_32_1 rfl (zh.ev rfl) zk) ?_
   have hb13 : Below w0.heap.size w0 w8 := (bstep hb5 hb9)
   refine WL.val _ rfl rfl rfl (fun za zC zh zk => ld_30 rfl (zh.ev rfl) (bkeeps hb13 _ _ hc1') zk) ?_
   refine WL.val (.int .i64 (((l.length : Nat) : Int))) rfl rfl rfl (fun za zC zh zk => len_30 rfl (zh.ev rfl) zk) ?_
   refine WL.mv rfl rfl rfl rfl rfl (WL.nil (WE.next (WC.block ?_)))
   have hs14 : Chg ((fun b => b = gn)) w w8 := (Chg.trans2 (Chg.trans2 (Chg.refl ((fun b => b = gn)) _) (Chg.ofUpd (S := fun k => k = gn) hu2 rfl) (fun i h1 h2 => by first | exact h2 | exact .inl ⟨h2, h1⟩ | exact .inl h2 | exact .inr h2 | exact .inr (.inl h2) | exact .inr (.inr h2) | ((try dsimp only at *); omega))) (Chg.ofBelow (S := fun k => k < 0) hb9) (fun i h1 h2 => by first | exact h2 | exact .inl ⟨h2, h1⟩ | exact .inl h2 | exact .inr h2 | exact .inr (.inl h2) | exact .inr (.inr h2) | ((try dsimp only at *); omega)))
   refine WC.loop (X := Nat) (fun i => l.length - i) (fun i => [(0, .pointer (some ⟨pb, po, none⟩)), (1, .int .i64 (((d : Nat) : Int))), (2, .pointer (some ⟨gn, 0, none⟩)), (3, .pointer (some ⟨gm, 0, none⟩)), (4, .pointer (some ⟨gf, 0, none⟩)), (40, .bool ((((decide ((300 : Int) < ((((m + 1) : Nat) : Int) : Int))) || (decide ((30 : Int) < (((d : Nat) : Int) : Int)))) || ((decide ((f : Int) < (0 : Int))) && ((decide ((f : Int) < ((-most) : Int))) || (decide ((0 : Int) < (((l.length : Nat) : Int) : Int)))))))), (45, .int .i64 (((l.length : Nat) : Int))), (46, .int .i64 (((i : Nat) : Int)))]) (fun i w15 => i ≤ l.length ∧ m + 1 + T.sizeL (l.take i) ≤ 300 ∧ (∀ k, k < i → smB most (m + 1 + T.sizeL (l.take k)) (d + 1) (tget l k) = true) ∧ Chg (fun b => b = gn) w w15 ∧ Below w0.heap.size w0 w15 ∧ Blk w15 gm 3 #[.int .i64 most] ∧ Blk w15 gf 93 #[.func (.func 55) #[] #[.pointer (some ⟨gn, 0, none⟩), .pointer (some ⟨gm, 0, none⟩), .pointer (some ⟨gf, 0, none⟩)]] ∧ Blk w15 gn 3 #[.int .i64 ((((m + 1 + T.sizeL (l.take i)) : Nat) : Int))]) 0 ⟨rfl, rfl, rfl, rfl, rfl, rfl, rfl, rfl, trivial⟩ ?_ ?_
   ·have hB16 := hB6.below hb9
    have hB17 := hB7.below hb9
    have hB18 := hB3.below hb9
    exact ⟨Nat.zero_le _, by simp [T.sizeL]; omega, fun k h => absurd h (Nat.not_lt_zero k), hs14, hb13, hB16, hB17, (by simpa [T.sizeL] using hB18)⟩
   ·rintro i w15 ⟨hi, hs, hall, hcg, hb19, hB20, hB21, hB22⟩
    refine WC.seq (WC.region ?_)
    refine WL.val (.bool ((decide ((((i : Nat) : Int) : Int) < (((l.length : Nat) : Int) : Int))))) rfl rfl rfl (fun za zC zh zk => lss_3 rfl (zh.ev rfl) (zh.ev rfl) zk) ?_
    refine WL.nil (WE.next (WC.seq ?_))
    refine WC.cond rfl (fun h23 => ?_) (fun h23 => ?_)
    ·have h23 : (((i : Nat) : Int) : Int) < (((l.length : Nat) : Int) : Int) := by simpa using h23
     refine WC.skip (WE.next (WC.seq (WC.block (WC.seq (WC.region (WL.mv rfl rfl rfl rfl rfl (WL.asg rfl rfl rfl rfl rfl (WL.nil (WE.next (WC.seq ?_))))))))))
     obtain ⟨b24, o25, A26, C27, ha28, hc29⟩ := IsTs.open hl0
     refine WC.seqV (S := ((fun b => b = gn))) [(true, .val (.func (.func 55) #[] #[.pointer (some ⟨gn, 0, none⟩), .pointer (some ⟨gm, 0, none⟩), .pointer (some ⟨gf, 0, none⟩)])), (true, .val (.pointer (some ⟨pb, po, none⟩))), (true, .val (.pointer (some ⟨pb, po, none⟩))), (true, .val (.pointer (some ⟨pb, po + 1, none⟩))), (true, .val (.slice a l.length c)), (true, .val (.int .i64 (((i : Nat) : Int)))), (true, .val (.pointer (some ⟨b24, o25 + i * 2, none⟩))), (true, .val (.int .i64 (((d : Nat) : Int)))), (true, .val (.int .i64 ((((d + 1) : Nat) : Int)))), (true, .val undef), (true, .val (.bool ((!(smB most (m + 1 + T.sizeL (l.take i)) (d + 1) (tget l i))))))] [(0, .pointer (some ⟨pb, po, none⟩)), (1, .int .i64 (((d : Nat) : Int))), (2, .pointer (some ⟨gn, 0, none⟩)), (3, .pointer (some ⟨gm, 0, none⟩)), (4, .pointer (some ⟨gf, 0, none⟩)), (8, .int .i64 (((i : Nat) : Int))), (40, .bool ((((decide ((300 : Int) < ((((m + 1) : Nat) : Int) : Int))) || (decide ((30 : Int) < (((d : Nat) : Int) : Int)))) || ((decide ((f : Int) < (0 : Int))) && ((decide ((f : Int) < ((-most) : Int))) || (decide ((0 : Int) < (((l.length : Nat) : Int) : Int)))))))), (45, .int .i64 (((l.length : Nat) : Int))), (46, .int .i64 (((i : Nat) : Int))), (47, .bool ((decide ((((i : Nat) : Int) : Int) < (((l.length : Nat) : Int) : Int)))))] [9] [some (true, .bool ((smB most (m + 1 + T.sizeL (l.take i)) (d + 1) (tget l i))))] (fun vs wz => match vs with | [] => Blk wz gn 3 #[.int .i64 ((((m + 1 + T.sizeL (l.take i)) : Nat) : Int))] | _ => ∃ m2 : Nat, Blk wz gn 3 #[.int .i64 (m2 : Int)] ∧ ((smB most (m + 1 + T.sizeL (l.take i)) (d + 1) (tget l i)) = true → m2 = m + 1 + T.sizeL (l.take i) + (tget l i).size)) ((fun vs w w' hb h => by
      match vs, h with
      | [], h => exact Blk.below h hb
      | _ :: _, ⟨m2, h1, h2⟩ => exact ⟨m2, h1.below hb, h2⟩)) (by decide) ⟨rfl, rfl, rfl, rfl, rfl, rfl, rfl, rfl, rfl, rfl, trivial⟩ (by kernel_rfl) (by kernel_rfl) (by kernel_rfl) (by kernel_rfl) hB22 ?_ ?_
     ·refine ⟨.inl ⟨rfl, true, .none rfl, (fun gg b h => by cases h), fun h w => optUndef h, fun zβ za zw zc => ?_⟩, ?_⟩
      ·exact ld_93 rfl (zc.kn.ev rfl) (chg_cell zc.chg (by (try dsimp only at *); omega) ((hB21.cell 0).trans rfl)) ⟨_, rfl, Below.refl _ _, optDef zβ rfl⟩
      refine ⟨.inl ⟨rfl, true, .none rfl, (fun gg b h => by cases h), fun h w => optUndef h, fun zβ za zw zc => ?_⟩, ?_⟩
      ·exact wp_move rfl (zc.kn.ev rfl) ⟨_, rfl, Below.refl _ _, optDef zβ rfl⟩
      refine ⟨.inl ⟨rfl, true, .none rfl, (fun gg b h => by cases h), fun h w => optUndef h, fun zβ za zw zc => ?_⟩, ?_⟩
      ·exact nilCheck_ rfl ((evt za 50).trans (optSVal (zc.dep 1 50 (by kernel_rfl) (by decide)) rfl rfl)) ⟨_, rfl, Below.refl _ _, optDef zβ rfl⟩
      refine ⟨.inl ⟨rfl, true, .none rfl, (fun gg b h => by cases h), fun h w => optUndef h, fun zβ za zw zc => ?_⟩, ?_⟩
      ·exact fld_32_1 rfl ((evt za 51).trans (optSVal (zc.dep 2 51 (by kernel_rfl) (by decide)) rfl rfl)) ⟨_, rfl, Below.refl _ _, optDef zβ rfl⟩
      refine ⟨.inl ⟨rfl, true, .none rfl, (fun gg b h => by cases h), fun h w => optUndef h, fun zβ za zw zc => ?_⟩, ?_⟩
      ·exact ld_30 rfl ((evt za 52).trans (optSVal (zc.dep 3 52 (by kernel_rfl) (by decide)) rfl rfl)) (chg_old hb19 zc.chg (fun b hb => by (try dsimp only at *); omega) hc1') ⟨_, rfl, Below.refl _ _, optDef zβ rfl⟩
      refine ⟨.inl ⟨rfl, true, .none rfl, (fun gg b h => by cases h), fun h w => optUndef h, fun zβ za zw zc => ?_⟩, ?_⟩
      ·exact wp_move rfl (zc.kn.ev rfl) ⟨_, rfl, Below.refl _ _, optDef zβ rfl⟩
      refine ⟨.inl ⟨rfl, true, .none rfl, (fun gg b h => by cases h), fun h w => optUndef h, fun zβ za zw zc => ?_⟩, ?_⟩
      ·exact ix_30 (k := i) rfl ((evt za 53).trans (optSVal (zc.dep 4 53 (by kernel_rfl) (by decide)) rfl rfl)) (ha28 i (by first | omega | (simp; omega))) ((evt za 54).trans (optSVal (zc.dep 5 54 (by kernel_rfl) (by decide)) rfl rfl)) (by first | omega | (simp; omega)) ⟨_, rfl, Below.refl _ _, optDef zβ rfl⟩
      refine ⟨.inl ⟨rfl, true, .none rfl, (fun gg b h => by cases h), fun h w => optUndef h, fun zβ za zw zc => ?_⟩, ?_⟩
      ·exact wp_move rfl (zc.kn.ev rfl) ⟨_, rfl, Below.refl _ _, optDef zβ rfl⟩
      refine ⟨.inl ⟨rfl, true, .none rfl, (fun gg b h => by cases h), fun h w => optUndef h, fun zβ za zw zc => ?_⟩, ?_⟩
      ·exact addb_3 rfl ((evt za 56).trans (optSVal (zc.dep 7 56 (by kernel_rfl) (by decide)) rfl rfl)) (zc.kn.ev rfl) (wrap_eq (by omega) (by omega) (by omega)) ⟨_, rfl, Below.refl _ _, optDef zβ rfl⟩
      refine ⟨.inr ⟨0, rfl, by kernel_rfl, true, .none rfl, (fun gg b h => by cases h), (fun h => (nomatch h)), fun zβ za zw zvals zc => ?_⟩, ?_⟩
      ·obtain rfl := vlen0 zc.len
       have zn := zc.now
       have hw9 := chg_below hb19 zc.chg (fun b hb e => by (try dsimp only at *); omega)
       exact wp_callv (by kernel_rfl) rfl ((evt za 49).trans (optSVal (zc.dep 0 49 (by kernel_rfl) (by decide)) rfl rfl)) (hv2 ((evt za 55).trans (optSVal (zc.dep 6 55 (by kernel_rfl) (by decide)) rfl rfl)) ((evt za 57).trans (optSVal (zc.dep 8 57 (by kernel_rfl) (by decide)) rfl rfl))) (ih (tget l i) (tget_mem (by omega)) (m + 1 + T.sizeL (l.take i)) (d + 1) _ _ _ _ _ (by omega) (by omega) hw9 (hc29 i (by omega)).1 (hc29 i (by omega)).2.1 (hc29 i (by omega)).2.2 zn (chg_blk hB20 zc.chg hmn) (chg_blk hB21 zc.chg hfn)) (fun v w' h => ⟨v, rfl, h.2, h.1.2, cvIs h.1.1⟩)
      refine ⟨.inl ⟨rfl, true, .none rfl, (fun gg b h => by cases h), fun h w => optUndef h, fun zβ za zw zc => ?_⟩, ?_⟩
      ·exact wp_not rfl ((evt za 58).trans (zc.link 0 9 58 _ _ rfl (by kernel_rfl) rfl rfl)) ⟨_, rfl, Below.refl _ _, optDef zβ rfl⟩
      exact trivial
     ·intro za w30 zvals zh zl hG31 hc32 zu zw zk
      obtain ⟨z0, rfl⟩ := vlen1 zl
      have zh := zh.cons (d := 59) (v := .bool ((!(smB most (m + 1 + T.sizeL (l.take i)) (d + 1) (tget l i))))) (optSVal (zu 10 59 (by kernel_rfl) (by decide)) rfl rfl)
      obtain ⟨m2, hN2, hmm⟩ := hG31
      have hw33 := chg_below hb19 hc32 (fun b hb e => by (try dsimp only at *); omega)
      have hM2 := chg_blk hB20 hc32 hmn
      have hF2 := chg_blk hB21 hc32 hfn
      clear zu zw zk
      refine WE.go zh ?_
      refine WE.next ?_
      refine WC.cond rfl (fun h34 => ?_) (fun h34 => ?_)
      ·have h34 : ¬ ((smB most (m + 1 + T.sizeL (l.take i)) (d + 1) (tget l i)) = true) := by simpa using h34
       refine WC.seq (WC.region (WL.asg rfl rfl rfl rfl rfl (WL.nil (WE.next (WC.ret (WE.blockRet (WE.thenRet (WE.thenRet (WE.blockRet (WE.thenRet (WE.ret1 rfl rfl ?_)))))))))))
       have hno : smB most m d (.mk f l) = false := smB_kid (k := i) (by omega) (by simpa using h34)
       exact ⟨_, rfl, ⟨by rw [hno], _, hN2, fun h => by rw [hno] at h; cases h⟩, hcg.trans hc32⟩
      ·have h34 : ¬ (¬ ((smB most (m + 1 + T.sizeL (l.take i)) (d + 1) (tget l i)) = true)) := by simpa using h34
       refine WC.skip (WE.blockNormal (WE.next (WC.region ?_)))
       refine WL.val (.int .i64 ((((i + 1) : Nat) : Int))) rfl rfl rfl (fun za zC zh zk => addb_3 rfl (zh.ev rfl) (zh.ev rfl) (wrap_eq (by omega) (by omega) (by omega)) zk) ?_
       refine WL.mv rfl rfl rfl rfl rfl (WL.nil ?_)
       have hsm : smB most (m + 1 + T.sizeL (l.take i)) (d + 1) (tget l i) = true := by simpa using h34
       have hm4 := hmm hsm
       have hst := sizeL_take (show i < l.length by omega)
       have hsz3 : m + 1 + T.sizeL (l.take (i + 1)) ≤ 300 := by have z := (smB_iff.1 hsm).1; omega
       refine WE.round (i + 1) ⟨rfl, rfl, rfl, rfl, rfl, rfl, rfl, rfl, trivial⟩ ?_ ?_
       ·exact ⟨by omega, hsz3, fun k hk => by
          by_cases e : k = i
          ·rw [e]; exact hsm
          ·exact hall k (by omega), hcg.trans hc32, hw33, hM2, hF2, (by rw [show m + 1 + T.sizeL (l.take (i + 1)) = m2 by omega]; exact hN2)⟩
       ·omega
    ·have h23 : ¬ ((((i : Nat) : Int) : Int) < (((l.length : Nat) : Int) : Int)) := by simpa using h23
     refine WC.exit (WE.thenExit (WE.thenExit (WE.blockIs rfl (WE.next (WC.seq (WC.region (WL.asg rfl rfl rfl rfl rfl (WL.nil (WE.next (WC.ret (WE.ret1 rfl rfl ?_)))))))))))
     have hil : i = l.length := by omega
     rw [hil, List.take_length] at hs
     have hyes : smB most m d (.mk f l) = true := smB_yes (by omega) hs (fun k hk => hall k (by omega))
     exact ⟨_, rfl, ⟨by rw [hyes], _, hB22, fun _ => by rw [hil, List.take_length, T.size]; omega⟩, hcg.trans (Chg.refl _ _)⟩
end Go.Proofs.Ythhgidliopohcaa

namespace Go.Proofs.Ythhgidliopohcaa
open Go.RowKit Go
set_option linter.unusedVariables false
set_option linter.unusedSimpArgs false
set_option maxRecDepth 100000 in
theorem tsmall_any (t : T) (most : Int) (hmost : 0 ≤ most ∧ most ≤ 1099511627776) (w : World) (v : Value) (hv : IsT w t v) : Calls Try.prog 42 #[v, .int .i64 most] w (Ret fun v' w' => v' = .bool (smallB most t) ∧ Below w.heap.size w w') := by
 have hvt := hv
 obtain ⟨_, a, c, rfl, _, _, _⟩ := hv.form
 refine Calls.walk (l := [.agg #[.int .i64 t.f, .slice a t.args.length c], .int .i64 most]) Try.func42 rfl (by kernel_rfl) ?_
 refine WC.sub (K' := [(0, .agg #[.int .i64 t.f, .slice a t.args.length c]), (1, .int .i64 most)]) ⟨rfl, rfl, trivial⟩ ?_
 refine WC.seq (WC.region ?_)
 refine WL.step (post := NewBlk w 32 #[.int .i64 t.f, .slice a t.args.length c]) rfl rfl rfl (fun za zC zh zk => box_32 rfl (zh.ev rfl) (zk _ _ (newBlk _ _ _))) ?_
 rintro _ w1 ⟨g2, rfl, hg3, hB4, hb5, hz6⟩
 have hl7 : w.heap.size ≤ g2 := by omega
 refine WL.step (post := NewBlk w1 3 #[.int .i64 most]) rfl rfl rfl (fun za zC zh zk => box_3 rfl (zh.ev rfl) (zk _ _ (newBlk _ _ _))) ?_
 rintro _ w8 ⟨g9, rfl, hg10, hB11, hb12, hz13⟩
 have hl14 : g2 < g9 := by have z1 := hB4.lt; omega
 have hl15 : w.heap.size ≤ g9 := by have z2 := (hb5).size; omega
 refine WL.asg rfl rfl rfl rfl rfl (WL.nil (WE.next (WC.seq ?_)))
 have hB16 := hB4.below hb12
 refine WC.region ?_
 refine WL.step (post := NewBlk w8 3 #[.int .i64 0]) rfl rfl rfl (fun za zC zh zk => alloc_3 rfl (zk _ _ (newBlk _ _ _))) ?_
 rintro _ w17 ⟨g18, rfl, hg19, hB20, hb21, hz22⟩
 have hl23 : g2 < g18 := by have z1 := hB16.lt; omega
 have hl24 : g9 < g18 := by have z1 := hB11.lt; omega
 have hb25 : Below w.heap.size w w8 := (bstep hb5 hb12)
 have hl26 : w.heap.size ≤ g18 := by have z2 := (hb25).size; omega
 have hl27 : w8.heap.size ≤ g18 := by omega
 refine WL.step (post := fun _ w' => Upd g18 w17 w' ∧ Blk w' g18 3 #[.int .i64 0]) rfl rfl rfl (fun za zC zh zk => st_3 rfl (zh.ev rfl) (zh.ev rfl) hB20 (by first | decide | simp) (fun v => zk v _ ⟨Upd.at_ _ _ _ _, hB20.set_ 0 _⟩)) ?_
 rintro v31 w28 ⟨hu29, hB30⟩
 have hb32 : Below w.heap.size w w17 := (bstep hb25 hb21)
 have hb33 := upd_below hb32 hu29 (by omega)
 have hb34 := upd_below hb21 hu29 (by omega)
 have hB35 := hB16.below hb21
 have hB36 := upd_blk hB35 hu29 (by omega)
 have hB37 := hB11.below hb21
 have hB38 := upd_blk hB37 hu29 (by omega)
 refine WL.nil (WE.next (WC.seq (WC.region ?_)))
 refine WL.step (post := NewBlk w28 93 #[.nilFunc]) rfl rfl rfl (fun za zC zh zk => alloc_93 rfl (zk _ _ (newBlk _ _ _))) ?_
 rintro _ w39 ⟨g40, rfl, hg41, hB42, hb43, hz44⟩
 have hl45 : g2 < g40 := by have z1 := hB36.lt; omega
 have hl46 : g9 < g40 := by have z1 := hB38.lt; omega
 have hl47 : g18 < g40 := by have z1 := hB30.lt; omega
 have hl48 : w.heap.size ≤ g40 := by have z2 := (hb33).size; omega
 have hl49 : w8.heap.size ≤ g40 := by have z2 := (hb34).size; omega
 refine WL.nil (WE.next (WC.seq (WC.region ?_)))
 refine WL.val (.func (Fn.func 55) #[] #[.pointer (some ⟨g18, 0, none⟩), .pointer (some ⟨g9, 0, none⟩), .pointer (some ⟨g40, 0, none⟩)]) rfl rfl rfl (fun za zC zh zk => mkfn rfl (hv0) (hv3 (zh.ev rfl) (zh.ev rfl) (zh.ev rfl)) zk) ?_
 refine WL.step (post := fun _ w' => Upd g40 w39 w' ∧ Blk w' g40 93 #[.func (Fn.func 55) #[] #[.pointer (some ⟨g18, 0, none⟩), .pointer (some ⟨g9, 0, none⟩), .pointer (some ⟨g40, 0, none⟩)]]) rfl rfl rfl (fun za zC zh zk => st_93 rfl (zh.ev rfl) (zh.ev rfl) hB42 (by first | decide | simp) (fun v => zk v _ ⟨Upd.at_ _ _ _ _, hB42.set_ 0 _⟩)) ?_
 rintro v53 w50 ⟨hu51, hB52⟩
 have hb54 : Below w.heap.size w w39 := (bstep hb33 hb43)
 have hb55 : Below w8.heap.size w8 w39 := (bstep hb34 hb43)
 have hb56 := upd_below hb54 hu51 (by omega)
 have hb57 := upd_below hb55 hu51 (by omega)
 have hB58 := hB36.below hb43
 have hB59 := upd_blk hB58 hu51 (by omega)
 have hB60 := hB38.below hb43
 have hB61 := upd_blk hB60 hu51 (by omega)
 have hB62 := hB30.below hb43
 have hB63 := upd_blk hB62 hu51 (by omega)
 refine WL.nil (WE.next (WC.seq (WC.region ?_)))
 refine WL.val _ rfl rfl rfl (fun za zC zh zk => ld_93 rfl (zh.ev rfl) ((hB52.cell 0).trans rfl) zk) ?_
 refine WL.call rfl rfl rfl (fun za zh zC => wp_callv (by kernel_rfl) rfl (zh.ev rfl) (hv2 (zh.ev rfl) (zh.ev rfl))) (small1_any most hmost w8 g18 g9 g40 (by omega) (by omega) (by omega) t 0 1 _ g2 0 _ _ (by omega) (by omega) hb57 ((hB16.cell 0).trans rfl) ((hB16.cell 1).trans rfl) (hvt.below hb25) hB63 hB61 hB52) ?_
 rintro _ w65 ⟨⟨rfl, m2, hN2, hm2⟩, hcs⟩
 have hb66 := chg_below hb56 hcs (fun b hb => (by (try dsimp only at *); omega))
 refine WL.asg rfl rfl rfl rfl rfl (WL.nil (WE.next (WC.ret (WE.ret1 rfl rfl ?_))))
 exact ⟨_, rfl, rfl, hb66⟩
mutual
theorem dn_low (m : Int) : ∀ (t : T) (d : Nat), t.dn m d = true ↔ d + t.dep ≤ 31 ∧ t.low m = true
 | .mk f l, d => by
  rw [dn_iff, T.dep, T.low, dnL_low m l (d + 1)]
  by_cases hf : f < 0
  ·rw [if_pos hf, Bool.and_eq_true, decide_eq_true_eq, decide_eq_true_eq]
   constructor
   ·rintro ⟨h1, h2, _⟩
    obtain ⟨h3, rfl⟩ := h2 hf
    exact ⟨by rw [T.depL]; omega, h3, rfl⟩
   ·rintro ⟨h1, h2, h3⟩
    obtain rfl := List.eq_nil_of_length_eq_zero h3
    exact ⟨by omega, fun _ => ⟨h2, rfl⟩, .inl rfl, rfl⟩
  ·rw [if_neg hf]
   constructor
   ·rintro ⟨h1, _, h3, h4⟩
    refine ⟨?_, h4⟩
    rcases h3 with rfl | h3
    ·rw [T.depL]; omega
    ·omega
   ·rintro ⟨h1, h2⟩
    exact ⟨by omega, fun q => absurd q hf, .inr (by omega), h2⟩
theorem dnL_low (m : Int) : ∀ (l : List T) (d : Nat), T.dnL m l d = true ↔ (l = [] ∨ d + T.depL l ≤ 31) ∧ T.lowL m l = true
 | [], d => by rw [T.dnL, T.lowL]; simp
 | t :: r, d => by
  rw [T.dnL, Bool.and_eq_true, dn_low m t d, dnL_low m r d, T.depL, T.lowL, Bool.and_eq_true]
  constructor
  ·rintro ⟨⟨h1, h2⟩, h3, h4⟩
   refine ⟨.inr ?_, h2, h4⟩
   rcases h3 with rfl | h3
   ·rw [T.depL]; omega
   ·omega
  ·rintro ⟨h1, h2, h3⟩
   rcases h1 with h1 | h1
   ·cases h1
   ·exact ⟨⟨by omega, h2⟩, .inr (by omega), h3⟩
end
/-- Both say the same of small terms. -/
theorem smallB_small (m : Int) (t : T) : smallB m t = t.small m := by
 rw [Bool.eq_iff_iff]
 unfold smallB T.small
 rw [smB_iff, dn_low, Bool.and_eq_true, Bool.and_eq_true, decide_eq_true_eq, decide_eq_true_eq]
 constructor
 ·rintro ⟨h1, h2, h3⟩; exact ⟨⟨by omega, by omega⟩, h3⟩
 ·rintro ⟨⟨h1, h2⟩, h3⟩; exact ⟨by omega, by omega, h3⟩
end Go.Proofs.Ythhgidliopohcaa
