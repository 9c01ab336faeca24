/- The walk through the law SubstPuts. -/
import Derived.Test.YtgechlgdnnpoeaaSubClause
import Derived.Test.YtgechlgdnnpoeaaBox2
import Derived.Test.YtgechlgdnnpoeaaSubEq
import Derived.Test.YtgechlgdnnpoeaaSubWakes
import Derived.Test.YtgechlgdnnpoeaaSubCompWalk
namespace Go.Proofs.Ytgechlgdnnpoeaa
open Go.RowKit Go

def largeB (l : List Bd) (m : Int) : Bool := (l.any fun x => decide (m < (x.t.size : Int))) || decide (60 < l.length)
theorem largeB_some {l : List Bd} {m : Int} {k : Nat} (hk : k < l.length) (h : m < ((dget l k).t.size : Int)) : largeB l m = true := by
  unfold largeB
  rw [Bool.or_eq_true, List.any_eq_true]
  exact .inl ⟨_, dget_mem hk, by simpa using h⟩
theorem largeB_none {l : List Bd} {m : Int} (h : ∀ i, i < l.length → ((dget l i).t.size : Int) ≤ m) : largeB l m = decide (60 < l.length) := by
  unfold largeB
  have : (l.any fun x => decide (m < (x.t.size : Int))) = false := by
    rw [List.any_eq_false]
    intro x hx
    obtain ⟨i, hi, rfl⟩ := List.getElem_of_mem hx
    have := h i hi
    rw [dget_lt hi] at this
    simp; omega
  rw [this, Bool.false_or]
set_option maxRecDepth 100000 in
theorem largeB_any (l : List Bd) (m : Int) (w : World) (p : Option Addr) (c : Nat) (h : IsSub w l p c) : Calls Try.prog 9 #[.slice p l.length c, .int .i64 m] w (Ret fun v' w' => v' = .bool (largeB l m) ∧ Below w.heap.size w w') := by
  have hl1 := h.small
  refine Calls.walk (l := [.slice p l.length c, .int .i64 m]) Try.func9 rfl (by kernel_rfl) ?_
  refine WC.sub (K' := [(0, .slice p l.length c), (1, .int .i64 m)]) ⟨rfl, rfl, trivial⟩ ?_
  refine WC.seq ?_
  refine WC.region ?_
  refine WL.val (.bool false) rfl rfl rfl (fun za zC zh zk => wp_assign rfl (zh.ev rfl) zk) ?_
  refine WL.nil (WE.sub (K' := [(0, .slice p l.length c), (1, .int .i64 m), (4, .bool false)]) ⟨rfl, rfl, rfl, trivial⟩ ?_)
  refine WE.next ?_
  refine WC.seq ?_
  refine WC.seq ?_
  refine WC.region ?_
  refine WL.val (.slice p l.length c) rfl rfl rfl (fun za zC zh zk => wp_move rfl (zh.ev rfl) zk) ?_
  refine WL.val (.int .i64 (((l.length : Nat) : Int))) rfl rfl rfl (fun za zC zh zk => len_23 rfl (zh.ev rfl) zk) ?_
  refine WL.val (.int .i64 0) rfl rfl rfl (fun za zC zh zk => wp_move rfl (zh.ev rfl) zk) ?_
  refine WL.nil (WE.sub (K' := [(0, .slice p l.length c), (1, .int .i64 m), (4, .bool false), (7, .int .i64 (((l.length : Nat) : Int))), (8, .int .i64 0)]) ⟨rfl, rfl, rfl, rfl, rfl, trivial⟩ ?_)
  refine WE.next ?_
  refine WC.block ?_
  refine WC.loop (X := Nat) (fun k => l.length - k) (fun k => [(0, .slice p l.length c), (1, .int .i64 m), (7, .int .i64 (((l.length : Nat) : Int))), (8, .int .i64 (((k : Nat) : Int)))]) (fun k w1 => k ≤ l.length ∧ (∀ i, i < k → ((dget l i).t.size : Int) ≤ m) ∧ Below w.heap.size w w1) 0 ⟨rfl, rfl, rfl, rfl, trivial⟩ ?_ ?_
  · exact ⟨Nat.zero_le _, fun i h => absurd h (Nat.not_lt_zero i), (Below.refl _ _)⟩
  · rintro k w1 ⟨hk, hE, hb2⟩
    refine WC.seq ?_
    refine WC.region ?_
    refine WL.val (.bool ((decide ((((k : Nat) : Int) : Int) < (((l.length : Nat) : Int) : Int))))) rfl rfl rfl (fun za zC zh zk => lss_3 rfl (zh.ev rfl) (zh.ev rfl) zk) ?_
    refine WL.nil (WE.sub (K' := [(0, .slice p l.length c), (1, .int .i64 m), (7, .int .i64 (((l.length : Nat) : Int))), (8, .int .i64 (((k : Nat) : Int))), (9, .bool ((decide ((((k : Nat) : Int) : Int) < (((l.length : Nat) : Int) : Int)))))]) ⟨rfl, rfl, rfl, rfl, rfl, trivial⟩ ?_)
    refine WE.next ?_
    refine WC.seq ?_
    refine WC.cond rfl (fun h3 => ?_) (fun h3 => ?_)
    · have h3 : (((k : Nat) : Int) : Int) < (((l.length : Nat) : Int) : Int) := by simpa using h3
      refine WC.skip ?_
      refine WE.next ?_
      refine WC.seq ?_
      refine WC.block ?_
      refine WC.seq ?_
      refine WC.region ?_
      refine WL.val (.int .i64 (((k : Nat) : Int))) rfl rfl rfl (fun za zC zh zk => wp_move rfl (zh.ev rfl) zk) ?_
      refine WL.val (.int .i64 (((k : Nat) : Int))) rfl rfl rfl (fun za zC zh zk => wp_assign rfl (zh.ev rfl) zk) ?_
      refine WL.nil (WE.sub (K' := [(0, .slice p l.length c), (1, .int .i64 m), (5, .int .i64 (((k : Nat) : Int))), (7, .int .i64 (((l.length : Nat) : Int))), (8, .int .i64 (((k : Nat) : Int))), (9, .bool ((decide ((((k : Nat) : Int) : Int) < (((l.length : Nat) : Int) : Int)))))]) ⟨rfl, rfl, rfl, rfl, rfl, rfl, trivial⟩ ?_)
      refine WE.next ?_
      refine WC.seq ?_
      refine WC.region ?_
      refine WL.val (.slice p l.length c) rfl rfl rfl (fun za zC zh zk => wp_move rfl (zh.ev rfl) zk) ?_
      refine WL.val (.int .i64 (((k : Nat) : Int))) rfl rfl rfl (fun za zC zh zk => wp_move rfl (zh.ev rfl) zk) ?_
      obtain ⟨b4, o5, A6, C7, ha8, hc9⟩ := InRow.openB h.rows
      refine WL.val (.pointer (some ⟨b4, o5 + k * 3, none⟩)) rfl rfl rfl (fun za zC zh zk => ix_23 (k := k) rfl (zh.ev rfl) (ha8 k (by first | omega | (simp; omega))) (zh.ev rfl) (by first | omega | (simp; omega)) zk) ?_
      refine WL.val (.pointer (some ⟨b4, o5 + k * 3 + 1, none⟩)) rfl rfl rfl (fun za zC zh zk => fld_56_1 rfl (zh.ev rfl) zk) ?_
      refine WL.val (.agg #[.int .i64 ((dget l k).t.f), .slice ((A6 k)) ((dget l k).t.args.length) ((C7 k))]) rfl rfl rfl (fun za zC zh zk => ld_32 rfl (zh.ev rfl) (bkeeps hb2 _ _ (hc9 k (by first | omega | (simp; omega))).2.1) (bkeeps hb2 _ _ (hc9 k (by first | omega | (simp; omega))).2.2.1) zk) ?_
      refine WL.val (.int .i64 m) rfl rfl rfl (fun za zC zh zk => wp_move rfl (zh.ev rfl) zk) ?_
      refine WL.call rfl rfl rfl (fun za zh zC => wp_call (by kernel_rfl) rfl (hv2 (zh.ev rfl) (zh.ev rfl))) (great_any (dget l k).t m _ _ (h.parts _ (dget_mem (by omega))) (IsT.below hb2 (InT.isT (hc9 k (by first | omega | (simp; omega))).2.2.2.1))) ?_
      rintro _ w10 ⟨rfl, hbs⟩
      refine WL.nil (WE.sub (K' := [(0, .slice p l.length c), (1, .int .i64 m), (5, .int .i64 (((k : Nat) : Int))), (7, .int .i64 (((l.length : Nat) : Int))), (8, .int .i64 (((k : Nat) : Int))), (9, .bool ((decide ((((k : Nat) : Int) : Int) < (((l.length : Nat) : Int) : Int))))), (17, .bool ((decide (m < ((dget l k).t.size : Int)))))]) ⟨rfl, rfl, rfl, rfl, rfl, rfl, rfl, trivial⟩ ?_)
      refine WE.next ?_
      refine WC.cond rfl (fun h11 => ?_) (fun h11 => ?_)
      · have h11 : m < ((dget l k).t.size : Int) := by simpa using h11
        refine WC.seq ?_
        refine WC.region ?_
        refine WL.val (.bool true) rfl rfl rfl (fun za zC zh zk => wp_assign rfl (zh.ev rfl) zk) ?_
        refine WL.nil (WE.sub (K' := [(0, .slice p l.length c), (1, .int .i64 m), (4, .bool true), (5, .int .i64 (((k : Nat) : Int))), (7, .int .i64 (((l.length : Nat) : Int))), (8, .int .i64 (((k : Nat) : Int))), (9, .bool ((decide ((((k : Nat) : Int) : Int) < (((l.length : Nat) : Int) : Int))))), (17, .bool ((decide (m < ((dget l k).t.size : Int)))))]) ⟨rfl, rfl, rfl, rfl, rfl, rfl, rfl, rfl, trivial⟩ ?_)
        refine WE.next ?_
        refine WC.ret ?_
        refine WE.blockRet ?_
        refine WE.thenRet ?_
        refine WE.thenRet ?_
        refine WE.blockRet ?_
        refine WE.thenRet ?_
        refine WE.ret1 rfl rfl ?_
        have hb12 : Below w.heap.size w w10 := (bstep hb2 hbs)
        exact ⟨_, rfl, congrArg Value.bool (largeB_some (k := k) (by omega) (by assumption)).symm, hb12⟩
      · have h11 : ¬ (m < ((dget l k).t.size : Int)) := by simpa using h11
        refine WC.skip ?_
        refine WE.blockNormal ?_
        refine WE.next ?_
        refine WC.region ?_
        refine WL.val (.int .i64 ((((k + 1) : Nat) : Int))) rfl rfl rfl (fun za zC zh zk => addb_3 rfl (zh.ev rfl) (zh.ev rfl) (wrap_eq (by omega) (by omega) (by omega)) zk) ?_
        refine WL.val (.int .i64 ((((k + 1) : Nat) : Int))) rfl rfl rfl (fun za zC zh zk => wp_move rfl (zh.ev rfl) zk) ?_
        refine WL.nil (WE.sub (K' := [(0, .slice p l.length c), (1, .int .i64 m), (5, .int .i64 (((k : Nat) : Int))), (7, .int .i64 (((l.length : Nat) : Int))), (8, .int .i64 ((((k + 1) : Nat) : Int))), (9, .bool ((decide ((((k : Nat) : Int) : Int) < (((l.length : Nat) : Int) : Int))))), (17, .bool ((decide (m < ((dget l k).t.size : Int)))))]) ⟨rfl, rfl, rfl, rfl, rfl, rfl, rfl, trivial⟩ ?_)
        refine WE.round (k + 1) ⟨rfl, rfl, rfl, rfl, trivial⟩ ?_ ?_
        · have hb13 : Below w.heap.size w w10 := (bstep hb2 hbs)
          exact ⟨by omega, fun i hi => by rcases Nat.lt_or_ge i k with q | q; exact hE i q; (obtain rfl : i = k := by omega); omega, hb13⟩
        · omega
    · have h3 : ¬ ((((k : Nat) : Int) : Int) < (((l.length : Nat) : Int) : Int)) := by simpa using h3
      refine WC.exit ?_
      refine WE.thenExit ?_
      refine WE.thenExit ?_
      refine WE.blockIs rfl ?_
      refine WE.next ?_
      refine WC.seq ?_
      refine WC.region ?_
      refine WL.val (.slice p l.length c) rfl rfl rfl (fun za zC zh zk => wp_move rfl (zh.ev rfl) zk) ?_
      refine WL.val (.int .i64 (((l.length : Nat) : Int))) rfl rfl rfl (fun za zC zh zk => len_23 rfl (zh.ev rfl) zk) ?_
      refine WL.val (.bool ((decide ((60 : Int) < (((l.length : Nat) : Int) : Int))))) rfl rfl rfl (fun za zC zh zk => gtr_3 rfl (zh.ev rfl) (zh.ev rfl) zk) ?_
      refine WL.val (.bool ((decide ((60 : Int) < (((l.length : Nat) : Int) : Int))))) rfl rfl rfl (fun za zC zh zk => wp_assign rfl (zh.ev rfl) zk) ?_
      refine WL.nil (WE.sub (K' := [(0, .slice p l.length c), (1, .int .i64 m), (4, .bool ((decide ((60 : Int) < (((l.length : Nat) : Int) : Int))))), (7, .int .i64 (((l.length : Nat) : Int))), (8, .int .i64 (((k : Nat) : Int))), (9, .bool ((decide ((((k : Nat) : Int) : Int) < (((l.length : Nat) : Int) : Int)))))]) ⟨rfl, rfl, rfl, rfl, rfl, rfl, trivial⟩ ?_)
      refine WE.next ?_
      refine WC.ret ?_
      refine WE.ret1 rfl rfl ?_
      exact ⟨_, rfl, congrArg Value.bool (by rw [largeB_none (fun i hi => hE i (by omega))]; rw [Bool.eq_iff_iff]; simp; omega), hb2⟩

theorem eltL_li {w : World} {x : Li} {v0 v1 v2 v3 v4 : Value} (h : IsLi w x (.agg #[v0, v1, v2, v3, v4])) : eltL.In (fun _ => True) w x [v0, v1, v2, v3, v4] := by
  obtain ⟨u1, u2, u3, u4, e, h1, h2⟩ := h
  simp only [Value.agg.injEq, Array.mk.injEq, List.cons.injEq, and_true] at e
  obtain ⟨rfl, rfl, rfl, rfl, rfl⟩ := e
  exact ⟨_, _, _, _, rfl, InT.mono (fun _ _ _ => trivial) (IsT.inT h1), InT.mono (fun _ _ _ => trivial) (IsT.inT h2)⟩
/-- A clause of one literal, at a row's start. -/
def OneC (w : World) (x : Li) (v : Value) : Prop := ∃ g, v = .slice (some ⟨g, 0, none⟩) 1 1 ∧ IsLs w [x] (some ⟨g, 0, none⟩)
theorem OneC.below {w w' : World} {x : Li} {v : Value} (h : OneC w x v) (hb : Below w.heap.size w w') : OneC w' x v := by
  obtain ⟨g, e, h1⟩ := h
  exact ⟨g, e, h1.below hb⟩
theorem oneC_blk {w : World} {g ty : Nat} {x : Li} {v0 v1 v2 v3 v4 : Value} (hB : Blk w g ty #[v0, v1, v2, v3, v4]) (h : IsLi w x (.agg #[v0, v1, v2, v3, v4])) : OneC w x (.slice (some ⟨g, 0, none⟩) 1 1) := by
  refine ⟨g, rfl, fun i hi => ?_⟩
  obtain rfl : i = 0 := by simp at hi; exact hi
  refine ⟨g, 0, [v0, v1, v2, v3, v4], rfl, trivial, eltL_li h, fun j hj => ?_⟩
  rw [hB.cell, show 0 + 0 * eltL.k + j = j by omega, List.getElem?_toArray]
theorem oneC_new {w : World} {ty : Nat} {x : Li} {v0 v1 v2 v3 v4 : Value} (h : IsLi (w.alloc (.cells #[v0, v1, v2, v3, v4] ty)) x (.agg #[v0, v1, v2, v3, v4])) : OneC (w.alloc (.cells #[v0, v1, v2, v3, v4] ty)) x (.slice (some ⟨w.heap.size, 0, none⟩) 1 1) := oneC_blk (Blk.new' rfl) h
/-- A clause that lies in memory. -/
def ClV (w : World) (l : List Li) (v : Value) : Prop := ∃ p c, v = .slice p l.length c ∧ IsLs w l p
theorem ClV.below {w w' : World} {l : List Li} {v : Value} (h : ClV w l v) (hb : Below w.heap.size w w') : ClV w' l v := by
  obtain ⟨p, c, e, h1⟩ := h
  exact ⟨p, c, e, h1.below hb⟩
theorem clV_new {w w' : World} {l : List Li} {v : Value} (h : ∃ p c, v = .slice p l.length c ∧ NewC w w' l p c) : ClV w' l v := by
  obtain ⟨p, c, e, h1⟩ := h
  exact ⟨p, c, e, h1.isLs⟩
theorem same_new {w : World} {a b : List Li} {u v : Value} (hl : a.length ≤ maxLen) (h1 : ClV w a u) (h2 : ClV w b v) : Calls Try.prog 25 #[u, v] w (Ret fun v' w' => v' = .bool (clSame a b) ∧ Below w.heap.size w w') := by
  obtain ⟨p, c, rfl, h1⟩ := h1
  obtain ⟨q, d, rfl, h2⟩ := h2
  exact same_cl a b w p q c d hl h1 h2
theorem same_one {w : World} {x y : Li} {u v : Value} (h1 : OneC w x u) (h2 : OneC w y v) : Calls Try.prog 25 #[u, v] w (Ret fun v' w' => v' = .bool (clSame [x] [y]) ∧ Below w.heap.size w w') := by
  obtain ⟨p, rfl, h1⟩ := h1
  obtain ⟨q, rfl, h2⟩ := h2
  exact same_cl [x] [y] w _ _ 1 1 (by simp [maxLen]) h1 h2

set_option maxRecDepth 100000 in
theorem puts_any (sA sB : List Bd) (m : Int) (l : List Li) (w : World) (pa pb a : Option Addr) (ca cb c : Nat) (hA : IsSub w sA pa ca) (hB : IsSub w sB pb cb) (h : IsCl w l a c) : Calls Try.prog 7 #[.slice pa sA.length ca, .slice pb sB.length cb, .int .i64 m, .slice a l.length c] w (Ret fun v' w' => v' = .bool true ∧ Below w.heap.size w w') := by
  have hcA := hA.cap
  have hcB := hB.cap
  have hcap := h.cap

  refine Calls.walk (l := [.slice pa sA.length ca, .slice pb sB.length cb, .int .i64 m, .slice a l.length c]) Try.func7 rfl (by kernel_rfl) ?_
  refine WC.sub (K' := [(0, .slice pa sA.length ca), (1, .slice pb sB.length cb), (2, .int .i64 m), (3, .slice a l.length c)]) ⟨rfl, rfl, rfl, rfl, trivial⟩ ?_
  refine WC.seq ?_
  refine WC.region ?_
  refine WL.val (.bool false) rfl rfl rfl (fun za zC zh zk => wp_assign rfl (zh.ev rfl) zk) ?_
  refine WL.nil (WE.sub (K' := [(0, .slice pa sA.length ca), (1, .slice pb sB.length cb), (2, .int .i64 m), (3, .slice a l.length c), (8, .bool false)]) ⟨rfl, rfl, rfl, rfl, rfl, trivial⟩ ?_)
  refine WE.next ?_
  refine WC.seq ?_
  refine WC.seq ?_
  refine WC.opt [(true, .val (.slice pa sA.length ca)), (true, .val (.bool ((largeB sA 300)))), (true, .val (.bool ((largeB sA 300)))), ((true && !(largeB sA 300)), .val (.slice pb sB.length cb)), ((true && !(largeB sA 300)), .val (.bool ((largeB sB 300)))), (true, .val (.bool (((largeB sA 300) || (largeB sB 300))))), (true, .val (.bool (((largeB sA 300) || (largeB sB 300))))), ((true && !((largeB sA 300) || (largeB sB 300))), .val (.slice a l.length c)), ((true && !((largeB sA 300) || (largeB sB 300))), .val (.int .i64 (((l.length : Nat) : Int)))), ((true && !((largeB sA 300) || (largeB sB 300))), .val (.bool ((decide ((20 : Int) < (((l.length : Nat) : Int) : Int)))))), (true, .val (.bool ((((largeB sA 300) || (largeB sB 300)) || (decide ((20 : Int) < (((l.length : Nat) : Int) : Int)))))))] [(0, .slice pa sA.length ca), (1, .slice pb sB.length cb), (2, .int .i64 m), (3, .slice a l.length c), (8, .bool false)] ⟨rfl, rfl, rfl, rfl, rfl, trivial⟩ (by kernel_rfl) (by kernel_rfl) (by kernel_rfl) ?_ ?_
  · refine ⟨⟨true, .none rfl, fun h w => optUndef h, fun zβ za zw zc => ?_⟩, ?_⟩
    · exact wp_move rfl (zc.kn.ev rfl) ⟨_, rfl, Below.refl _ _, optDef zβ rfl⟩
    refine ⟨⟨true, .none rfl, fun h w => optUndef h, fun zβ za zw zc => ?_⟩, ?_⟩
    · exact wp_call (by kernel_rfl) rfl (hv2 ((show za.eval (.tmp 17) = za.tmps.getD 17 undef from rfl).trans (optVal (zc.dep 0 17 (by kernel_rfl)) rfl rfl)) (zc.kn.ev rfl)) (largeB_any sA 300 _ _ _ (hA.below zc.below)) (fun v w' h => ⟨v, rfl, h.2, optDef zβ h.1⟩)
    refine ⟨⟨true, .none rfl, fun h w => optUndef h, fun zβ za zw zc => ?_⟩, ?_⟩
    · exact wp_move rfl ((show za.eval (.tmp 18) = za.tmps.getD 18 undef from rfl).trans (optVal (zc.dep 1 18 (by kernel_rfl)) rfl rfl)) ⟨_, rfl, Below.refl _ _, optDef zβ rfl⟩
    refine ⟨⟨(true && !(largeB sA 300)), .no (c := (largeB sA 300)) (d := true) rfl (fun v w h => h), fun h w => optUndef h, fun zβ za zw zc => ?_⟩, ?_⟩
    · exact wp_move rfl (zc.kn.ev rfl) ⟨_, rfl, Below.refl _ _, optDef zβ rfl⟩
    refine ⟨⟨(true && !(largeB sA 300)), .no (c := (largeB sA 300)) (d := true) rfl (fun v w h => h), fun h w => optUndef h, fun zβ za zw zc => ?_⟩, ?_⟩
    · exact wp_call (by kernel_rfl) rfl (hv2 ((show za.eval (.tmp 20) = za.tmps.getD 20 undef from rfl).trans (optVal (zc.dep 3 20 (by kernel_rfl)) rfl zβ)) (zc.kn.ev rfl)) (largeB_any sB 300 _ _ _ (hB.below zc.below)) (fun v w' h => ⟨v, rfl, h.2, optDef zβ h.1⟩)
    refine ⟨⟨true, .none rfl, fun h w => optUndef h, fun zβ za zw zc => ?_⟩, ?_⟩
    · exact wp_or rfl ((show za.eval (.tmp 19) = za.tmps.getD 19 undef from rfl).trans (optVal (zc.dep 2 19 (by kernel_rfl)) rfl rfl)) (fun hp => ((show za.eval (.tmp 21) = za.tmps.getD 21 undef from rfl).trans (optVal (zc.dep 4 21 (by kernel_rfl)) rfl (bMkN zβ hp)))) ⟨_, rfl, Below.refl _ _, optDef zβ rfl⟩
    refine ⟨⟨true, .none rfl, fun h w => optUndef h, fun zβ za zw zc => ?_⟩, ?_⟩
    · exact wp_move rfl ((show za.eval (.tmp 22) = za.tmps.getD 22 undef from rfl).trans (optVal (zc.dep 5 22 (by kernel_rfl)) rfl rfl)) ⟨_, rfl, Below.refl _ _, optDef zβ rfl⟩
    refine ⟨⟨(true && !((largeB sA 300) || (largeB sB 300))), .no (c := ((largeB sA 300) || (largeB sB 300))) (d := true) rfl (fun v w h => h), fun h w => optUndef h, fun zβ za zw zc => ?_⟩, ?_⟩
    · exact wp_move rfl (zc.kn.ev rfl) ⟨_, rfl, Below.refl _ _, optDef zβ rfl⟩
    refine ⟨⟨(true && !((largeB sA 300) || (largeB sB 300))), .no (c := ((largeB sA 300) || (largeB sB 300))) (d := true) rfl (fun v w h => h), fun h w => optUndef h, fun zβ za zw zc => ?_⟩, ?_⟩
    · exact len_42 rfl ((show za.eval (.tmp 24) = za.tmps.getD 24 undef from rfl).trans (optVal (zc.dep 7 24 (by kernel_rfl)) rfl zβ)) ⟨_, rfl, Below.refl _ _, optDef zβ rfl⟩
    refine ⟨⟨(true && !((largeB sA 300) || (largeB sB 300))), .no (c := ((largeB sA 300) || (largeB sB 300))) (d := true) rfl (fun v w h => h), fun h w => optUndef h, fun zβ za zw zc => ?_⟩, ?_⟩
    · exact gtr_3 rfl ((show za.eval (.tmp 25) = za.tmps.getD 25 undef from rfl).trans (optVal (zc.dep 8 25 (by kernel_rfl)) rfl zβ)) (zc.kn.ev rfl) ⟨_, rfl, Below.refl _ _, optDef zβ rfl⟩
    refine ⟨⟨true, .none rfl, fun h w => optUndef h, fun zβ za zw zc => ?_⟩, ?_⟩
    · exact wp_or rfl ((show za.eval (.tmp 23) = za.tmps.getD 23 undef from rfl).trans (optVal (zc.dep 6 23 (by kernel_rfl)) rfl rfl)) (fun hp => ((show za.eval (.tmp 26) = za.tmps.getD 26 undef from rfl).trans (optVal (zc.dep 9 26 (by kernel_rfl)) rfl (bMkN zβ hp)))) ⟨_, rfl, Below.refl _ _, optDef zβ rfl⟩
    exact trivial
  · intro za w1 zh hb2 zu
    have zh := zh.cons (d := 27) (v := .bool ((((largeB sA 300) || (largeB sB 300)) || (decide ((20 : Int) < (((l.length : Nat) : Int) : Int)))))) (optVal (zu 10 27 (by kernel_rfl)) rfl rfl)
    clear zu
    refine (show WE _ [(0, .slice pa sA.length ca), (1, .slice pb sB.length cb), (2, .int .i64 m), (3, .slice a l.length c), (8, .bool false), (27, .bool ((((largeB sA 300) || (largeB sB 300)) || (decide ((20 : Int) < (((l.length : Nat) : Int) : Int))))))] w1 _ .normal from ?_) za (zh.sub ⟨rfl, rfl, rfl, rfl, rfl, rfl, trivial⟩)
    refine WE.next ?_
    refine WC.cond rfl (fun h3 => ?_) (fun h3 => ?_)
    · have h3 : (((largeB sA 300) = true) ∨ ((largeB sB 300) = true)) ∨ ((20 : Int) < (((l.length : Nat) : Int) : Int)) := by simpa using h3
      refine WC.seq ?_
      refine WC.region ?_
      refine WL.call rfl rfl rfl (fun za zh zC => wp_call (by kernel_rfl) rfl (hv0)) (wakes_any _) ?_
      rintro _ w5 ⟨rfl, hq4⟩
      refine WL.val (.bool true) rfl rfl rfl (fun za zC zh zk => wp_assign rfl (zh.ev rfl) zk) ?_
      refine WL.nil (WE.sub (K' := [(0, .slice pa sA.length ca), (1, .slice pb sB.length cb), (2, .int .i64 m), (3, .slice a l.length c), (8, .bool true), (27, .bool ((((largeB sA 300) || (largeB sB 300)) || (decide ((20 : Int) < (((l.length : Nat) : Int) : Int))))))]) ⟨rfl, rfl, rfl, rfl, rfl, rfl, trivial⟩ ?_)
      refine WE.next ?_
      refine WC.ret ?_
      refine WE.thenRet ?_
      refine WE.ret1 rfl rfl ?_
      have hb6 : Below w.heap.size w w5 := (bstep hb2 hq4)
      exact ⟨_, rfl, rfl, hb6⟩
    · have h3 : ¬ ((((largeB sA 300) = true) ∨ ((largeB sB 300) = true)) ∨ ((20 : Int) < (((l.length : Nat) : Int) : Int))) := by simpa using h3
      refine WC.skip ?_
      refine WE.next ?_
      refine WC.seq ?_
      refine WC.seq ?_
      refine WC.region ?_
      refine WL.val (.slice a l.length c) rfl rfl rfl (fun za zC zh zk => wp_move rfl (zh.ev rfl) zk) ?_
      refine WL.val (.int .i64 (((l.length : Nat) : Int))) rfl rfl rfl (fun za zC zh zk => len_42 rfl (zh.ev rfl) zk) ?_
      refine WL.val (.int .i64 0) rfl rfl rfl (fun za zC zh zk => wp_move rfl (zh.ev rfl) zk) ?_
      refine WL.nil (WE.sub (K' := [(0, .slice pa sA.length ca), (1, .slice pb sB.length cb), (2, .int .i64 m), (3, .slice a l.length c), (8, .bool false), (27, .bool ((((largeB sA 300) || (largeB sB 300)) || (decide ((20 : Int) < (((l.length : Nat) : Int) : Int)))))), (30, .int .i64 (((l.length : Nat) : Int))), (31, .int .i64 0)]) ⟨rfl, rfl, rfl, rfl, rfl, rfl, rfl, rfl, trivial⟩ ?_)
      refine WE.next ?_
      refine WC.block ?_
      refine WC.loop (X := Nat) (fun k => l.length - k) (fun k => [(0, .slice pa sA.length ca), (1, .slice pb sB.length cb), (2, .int .i64 m), (3, .slice a l.length c), (27, .bool ((((largeB sA 300) || (largeB sB 300)) || (decide ((20 : Int) < (((l.length : Nat) : Int) : Int)))))), (30, .int .i64 (((l.length : Nat) : Int))), (31, .int .i64 (((k : Nat) : Int)))]) (fun k w7 => k ≤ l.length ∧ Below w.heap.size w w7) 0 ⟨rfl, rfl, rfl, rfl, rfl, rfl, rfl, trivial⟩ ?_ ?_
      · exact ⟨Nat.zero_le _, hb2⟩
      · rintro k w7 ⟨hk, hb8⟩
        refine WC.seq ?_
        refine WC.region ?_
        refine WL.val (.bool ((decide ((((k : Nat) : Int) : Int) < (((l.length : Nat) : Int) : Int))))) rfl rfl rfl (fun za zC zh zk => lss_3 rfl (zh.ev rfl) (zh.ev rfl) zk) ?_
        refine WL.nil (WE.sub (K' := [(0, .slice pa sA.length ca), (1, .slice pb sB.length cb), (2, .int .i64 m), (3, .slice a l.length c), (27, .bool ((((largeB sA 300) || (largeB sB 300)) || (decide ((20 : Int) < (((l.length : Nat) : Int) : Int)))))), (30, .int .i64 (((l.length : Nat) : Int))), (31, .int .i64 (((k : Nat) : Int))), (32, .bool ((decide ((((k : Nat) : Int) : Int) < (((l.length : Nat) : Int) : Int)))))]) ⟨rfl, rfl, rfl, rfl, rfl, rfl, rfl, rfl, trivial⟩ ?_)
        refine WE.next ?_
        refine WC.seq ?_
        refine WC.cond rfl (fun h9 => ?_) (fun h9 => ?_)
        · have h9 : (((k : Nat) : Int) : Int) < (((l.length : Nat) : Int) : Int) := by simpa using h9
          refine WC.skip ?_
          refine WE.next ?_
          refine WC.seq ?_
          refine WC.block ?_
          refine WC.seq ?_
          refine WC.region ?_
          refine WL.val (.int .i64 (((k : Nat) : Int))) rfl rfl rfl (fun za zC zh zk => wp_move rfl (zh.ev rfl) zk) ?_
          refine WL.val (.int .i64 (((k : Nat) : Int))) rfl rfl rfl (fun za zC zh zk => wp_assign rfl (zh.ev rfl) zk) ?_
          refine WL.nil (WE.sub (K' := [(0, .slice pa sA.length ca), (1, .slice pb sB.length cb), (2, .int .i64 m), (3, .slice a l.length c), (9, .int .i64 (((k : Nat) : Int))), (27, .bool ((((largeB sA 300) || (largeB sB 300)) || (decide ((20 : Int) < (((l.length : Nat) : Int) : Int)))))), (30, .int .i64 (((l.length : Nat) : Int))), (31, .int .i64 (((k : Nat) : Int))), (32, .bool ((decide ((((k : Nat) : Int) : Int) < (((l.length : Nat) : Int) : Int)))))]) ⟨rfl, rfl, rfl, rfl, rfl, rfl, rfl, rfl, rfl, trivial⟩ ?_)
          refine WE.next ?_
          refine WC.seq ?_
          obtain ⟨b10, o11, A12, C13, A14, C15, ha16, hc17⟩ := InRow.openL h.rows
          refine WC.opt [(true, .val (.slice a l.length c)), (true, .val (.int .i64 (((k : Nat) : Int)))), (true, .val (.pointer (some ⟨b10, o11 + k * 5, none⟩))), (true, .val (.pointer (some ⟨b10, o11 + k * 5 + 1, none⟩))), (true, .val (.agg #[.int .i64 ((lget l k).l.f), .slice ((A12 k)) ((lget l k).l.args.length) ((C13 k))])), (true, .val (.bool ((decide ((300 : Int) < ((lget l k).l.size : Int)))))), (true, .val (.bool ((decide ((300 : Int) < ((lget l k).l.size : Int)))))), ((true && !(decide ((300 : Int) < ((lget l k).l.size : Int)))), .val (.slice a l.length c)), ((true && !(decide ((300 : Int) < ((lget l k).l.size : Int)))), .val (.int .i64 (((k : Nat) : Int)))), ((true && !(decide ((300 : Int) < ((lget l k).l.size : Int)))), .val (.pointer (some ⟨b10, o11 + k * 5, none⟩))), ((true && !(decide ((300 : Int) < ((lget l k).l.size : Int)))), .val (.pointer (some ⟨b10, o11 + k * 5 + 3, none⟩))), ((true && !(decide ((300 : Int) < ((lget l k).l.size : Int)))), .val (.agg #[.int .i64 ((lget l k).r.f), .slice ((A14 k)) ((lget l k).r.args.length) ((C15 k))])), ((true && !(decide ((300 : Int) < ((lget l k).l.size : Int)))), .val (.bool ((decide ((300 : Int) < ((lget l k).r.size : Int)))))), (true, .val (.bool (((decide ((300 : Int) < ((lget l k).l.size : Int))) || (decide ((300 : Int) < ((lget l k).r.size : Int)))))))] [(0, .slice pa sA.length ca), (1, .slice pb sB.length cb), (2, .int .i64 m), (3, .slice a l.length c), (9, .int .i64 (((k : Nat) : Int))), (27, .bool ((((largeB sA 300) || (largeB sB 300)) || (decide ((20 : Int) < (((l.length : Nat) : Int) : Int)))))), (30, .int .i64 (((l.length : Nat) : Int))), (31, .int .i64 (((k : Nat) : Int))), (32, .bool ((decide ((((k : Nat) : Int) : Int) < (((l.length : Nat) : Int) : Int)))))] ⟨rfl, rfl, rfl, rfl, rfl, rfl, rfl, rfl, rfl, trivial⟩ (by kernel_rfl) (by kernel_rfl) (by kernel_rfl) ?_ ?_
          · refine ⟨⟨true, .none rfl, fun h w => optUndef h, fun zβ za zw zc => ?_⟩, ?_⟩
            · exact wp_move rfl (zc.kn.ev rfl) ⟨_, rfl, Below.refl _ _, optDef zβ rfl⟩
            refine ⟨⟨true, .none rfl, fun h w => optUndef h, fun zβ za zw zc => ?_⟩, ?_⟩
            · exact wp_move rfl (zc.kn.ev rfl) ⟨_, rfl, Below.refl _ _, optDef zβ rfl⟩
            refine ⟨⟨true, .none rfl, fun h w => optUndef h, fun zβ za zw zc => ?_⟩, ?_⟩
            · exact ix_42 (k := k) rfl ((show za.eval (.tmp 34) = za.tmps.getD 34 undef from rfl).trans (optVal (zc.dep 0 34 (by kernel_rfl)) rfl rfl)) (ha16 k (by first | omega | (simp; omega))) ((show za.eval (.tmp 35) = za.tmps.getD 35 undef from rfl).trans (optVal (zc.dep 1 35 (by kernel_rfl)) rfl rfl)) (by first | omega | (simp; omega)) ⟨_, rfl, Below.refl _ _, optDef zβ rfl⟩
            refine ⟨⟨true, .none rfl, fun h w => optUndef h, fun zβ za zw zc => ?_⟩, ?_⟩
            · exact fld_44_1 rfl ((show za.eval (.tmp 36) = za.tmps.getD 36 undef from rfl).trans (optVal (zc.dep 2 36 (by kernel_rfl)) rfl rfl)) ⟨_, rfl, Below.refl _ _, optDef zβ rfl⟩
            refine ⟨⟨true, .none rfl, fun h w => optUndef h, fun zβ za zw zc => ?_⟩, ?_⟩
            · exact ld_32 rfl ((show za.eval (.tmp 37) = za.tmps.getD 37 undef from rfl).trans (optVal (zc.dep 3 37 (by kernel_rfl)) rfl rfl)) (bkeeps (bstep hb8 zc.below) _ _ (hc17 k (by first | omega | (simp; omega))).2.1) (bkeeps (bstep hb8 zc.below) _ _ (hc17 k (by first | omega | (simp; omega))).2.2.1) ⟨_, rfl, Below.refl _ _, optDef zβ rfl⟩
            refine ⟨⟨true, .none rfl, fun h w => optUndef h, fun zβ za zw zc => ?_⟩, ?_⟩
            · exact wp_call (by kernel_rfl) rfl (hv2 ((show za.eval (.tmp 38) = za.tmps.getD 38 undef from rfl).trans (optVal (zc.dep 4 38 (by kernel_rfl)) rfl rfl)) (zc.kn.ev rfl)) (great_any (lget l k).l 300 _ _ (h.pl (by omega)) (IsT.below (bstep hb8 zc.below) (InT.isT (hc17 k (by first | omega | (simp; omega))).2.2.2.2.2.1))) (fun v w' h => ⟨v, rfl, h.2, optDef zβ h.1⟩)
            refine ⟨⟨true, .none rfl, fun h w => optUndef h, fun zβ za zw zc => ?_⟩, ?_⟩
            · exact wp_move rfl ((show za.eval (.tmp 39) = za.tmps.getD 39 undef from rfl).trans (optVal (zc.dep 5 39 (by kernel_rfl)) rfl rfl)) ⟨_, rfl, Below.refl _ _, optDef zβ rfl⟩
            refine ⟨⟨(true && !(decide ((300 : Int) < ((lget l k).l.size : Int)))), .no (c := (decide ((300 : Int) < ((lget l k).l.size : Int)))) (d := true) rfl (fun v w h => h), fun h w => optUndef h, fun zβ za zw zc => ?_⟩, ?_⟩
            · exact wp_move rfl (zc.kn.ev rfl) ⟨_, rfl, Below.refl _ _, optDef zβ rfl⟩
            refine ⟨⟨(true && !(decide ((300 : Int) < ((lget l k).l.size : Int)))), .no (c := (decide ((300 : Int) < ((lget l k).l.size : Int)))) (d := true) rfl (fun v w h => h), fun h w => optUndef h, fun zβ za zw zc => ?_⟩, ?_⟩
            · exact wp_move rfl (zc.kn.ev rfl) ⟨_, rfl, Below.refl _ _, optDef zβ rfl⟩
            refine ⟨⟨(true && !(decide ((300 : Int) < ((lget l k).l.size : Int)))), .no (c := (decide ((300 : Int) < ((lget l k).l.size : Int)))) (d := true) rfl (fun v w h => h), fun h w => optUndef h, fun zβ za zw zc => ?_⟩, ?_⟩
            · exact ix_42 (k := k) rfl ((show za.eval (.tmp 41) = za.tmps.getD 41 undef from rfl).trans (optVal (zc.dep 7 41 (by kernel_rfl)) rfl zβ)) (ha16 k (by first | omega | (have zz := zβ; simp only [Bool.and_eq_true, Bool.or_eq_true, Bool.true_and, Bool.not_eq_true', Bool.or_eq_false_iff, Bool.and_eq_false_iff, beq_eq_false_iff_ne, ne_eq, beq_iff_eq, decide_eq_true_eq, decide_eq_false_iff_not, bne_iff_ne] at zz; omega))) ((show za.eval (.tmp 42) = za.tmps.getD 42 undef from rfl).trans (optVal (zc.dep 8 42 (by kernel_rfl)) rfl zβ)) (by first | omega | (have zz := zβ; simp only [Bool.and_eq_true, Bool.or_eq_true, Bool.true_and, Bool.not_eq_true', Bool.or_eq_false_iff, Bool.and_eq_false_iff, beq_eq_false_iff_ne, ne_eq, beq_iff_eq, decide_eq_true_eq, decide_eq_false_iff_not, bne_iff_ne] at zz; omega)) ⟨_, rfl, Below.refl _ _, optDef zβ rfl⟩
            refine ⟨⟨(true && !(decide ((300 : Int) < ((lget l k).l.size : Int)))), .no (c := (decide ((300 : Int) < ((lget l k).l.size : Int)))) (d := true) rfl (fun v w h => h), fun h w => optUndef h, fun zβ za zw zc => ?_⟩, ?_⟩
            · exact fld_44_2 rfl ((show za.eval (.tmp 43) = za.tmps.getD 43 undef from rfl).trans (optVal (zc.dep 9 43 (by kernel_rfl)) rfl zβ)) ⟨_, rfl, Below.refl _ _, optDef zβ rfl⟩
            refine ⟨⟨(true && !(decide ((300 : Int) < ((lget l k).l.size : Int)))), .no (c := (decide ((300 : Int) < ((lget l k).l.size : Int)))) (d := true) rfl (fun v w h => h), fun h w => optUndef h, fun zβ za zw zc => ?_⟩, ?_⟩
            · exact ld_32 rfl ((show za.eval (.tmp 44) = za.tmps.getD 44 undef from rfl).trans (optVal (zc.dep 10 44 (by kernel_rfl)) rfl zβ)) (bkeeps (bstep hb8 zc.below) _ _ (hc17 k (by first | omega | (have zz := zβ; simp only [Bool.and_eq_true, Bool.or_eq_true, Bool.true_and, Bool.not_eq_true', Bool.or_eq_false_iff, Bool.and_eq_false_iff, beq_eq_false_iff_ne, ne_eq, beq_iff_eq, decide_eq_true_eq, decide_eq_false_iff_not, bne_iff_ne] at zz; omega))).2.2.2.1) (bkeeps (bstep hb8 zc.below) _ _ (hc17 k (by first | omega | (have zz := zβ; simp only [Bool.and_eq_true, Bool.or_eq_true, Bool.true_and, Bool.not_eq_true', Bool.or_eq_false_iff, Bool.and_eq_false_iff, beq_eq_false_iff_ne, ne_eq, beq_iff_eq, decide_eq_true_eq, decide_eq_false_iff_not, bne_iff_ne] at zz; omega))).2.2.2.2.1) ⟨_, rfl, Below.refl _ _, optDef zβ rfl⟩
            refine ⟨⟨(true && !(decide ((300 : Int) < ((lget l k).l.size : Int)))), .no (c := (decide ((300 : Int) < ((lget l k).l.size : Int)))) (d := true) rfl (fun v w h => h), fun h w => optUndef h, fun zβ za zw zc => ?_⟩, ?_⟩
            · exact wp_call (by kernel_rfl) rfl (hv2 ((show za.eval (.tmp 45) = za.tmps.getD 45 undef from rfl).trans (optVal (zc.dep 11 45 (by kernel_rfl)) rfl zβ)) (zc.kn.ev rfl)) (great_any (lget l k).r 300 _ _ (h.pr (by omega)) (IsT.below (bstep hb8 zc.below) (InT.isT (hc17 k (by first | omega | (have zz := zβ; simp only [Bool.and_eq_true, Bool.or_eq_true, Bool.true_and, Bool.not_eq_true', Bool.or_eq_false_iff, Bool.and_eq_false_iff, beq_eq_false_iff_ne, ne_eq, beq_iff_eq, decide_eq_true_eq, decide_eq_false_iff_not, bne_iff_ne] at zz; omega))).2.2.2.2.2.2))) (fun v w' h => ⟨v, rfl, h.2, optDef zβ h.1⟩)
            refine ⟨⟨true, .none rfl, fun h w => optUndef h, fun zβ za zw zc => ?_⟩, ?_⟩
            · exact wp_or rfl ((show za.eval (.tmp 40) = za.tmps.getD 40 undef from rfl).trans (optVal (zc.dep 6 40 (by kernel_rfl)) rfl rfl)) (fun hp => ((show za.eval (.tmp 46) = za.tmps.getD 46 undef from rfl).trans (optVal (zc.dep 12 46 (by kernel_rfl)) rfl (bMkN zβ hp)))) ⟨_, rfl, Below.refl _ _, optDef zβ rfl⟩
            exact trivial
          · intro za w18 zh hb19 zu
            have zh := zh.cons (d := 47) (v := .bool (((decide ((300 : Int) < ((lget l k).l.size : Int))) || (decide ((300 : Int) < ((lget l k).r.size : Int)))))) (optVal (zu 13 47 (by kernel_rfl)) rfl rfl)
            clear zu
            refine (show WE _ [(0, .slice pa sA.length ca), (1, .slice pb sB.length cb), (2, .int .i64 m), (3, .slice a l.length c), (9, .int .i64 (((k : Nat) : Int))), (27, .bool ((((largeB sA 300) || (largeB sB 300)) || (decide ((20 : Int) < (((l.length : Nat) : Int) : Int)))))), (30, .int .i64 (((l.length : Nat) : Int))), (31, .int .i64 (((k : Nat) : Int))), (32, .bool ((decide ((((k : Nat) : Int) : Int) < (((l.length : Nat) : Int) : Int))))), (47, .bool (((decide ((300 : Int) < ((lget l k).l.size : Int))) || (decide ((300 : Int) < ((lget l k).r.size : Int))))))] w18 _ .normal from ?_) za (zh.sub ⟨rfl, rfl, rfl, rfl, rfl, rfl, rfl, rfl, rfl, rfl, trivial⟩)
            refine WE.next ?_
            refine WC.cond rfl (fun h20 => ?_) (fun h20 => ?_)
            · have h20 : ((300 : Int) < ((lget l k).l.size : Int)) ∨ ((300 : Int) < ((lget l k).r.size : Int)) := by simpa using h20
              refine WC.seq ?_
              refine WC.region ?_
              refine WL.call rfl rfl rfl (fun za zh zC => wp_call (by kernel_rfl) rfl (hv0)) (wakes_any _) ?_
              rintro _ w22 ⟨rfl, hq21⟩
              refine WL.val (.bool true) rfl rfl rfl (fun za zC zh zk => wp_assign rfl (zh.ev rfl) zk) ?_
              refine WL.nil (WE.sub (K' := [(0, .slice pa sA.length ca), (1, .slice pb sB.length cb), (2, .int .i64 m), (3, .slice a l.length c), (8, .bool true), (9, .int .i64 (((k : Nat) : Int))), (27, .bool ((((largeB sA 300) || (largeB sB 300)) || (decide ((20 : Int) < (((l.length : Nat) : Int) : Int)))))), (30, .int .i64 (((l.length : Nat) : Int))), (31, .int .i64 (((k : Nat) : Int))), (32, .bool ((decide ((((k : Nat) : Int) : Int) < (((l.length : Nat) : Int) : Int))))), (47, .bool (((decide ((300 : Int) < ((lget l k).l.size : Int))) || (decide ((300 : Int) < ((lget l k).r.size : Int))))))]) ⟨rfl, rfl, rfl, rfl, rfl, rfl, rfl, rfl, rfl, rfl, rfl, trivial⟩ ?_)
              refine WE.next ?_
              refine WC.ret ?_
              refine WE.blockRet ?_
              refine WE.thenRet ?_
              refine WE.thenRet ?_
              refine WE.blockRet ?_
              refine WE.thenRet ?_
              refine WE.ret1 rfl rfl ?_
              have hb23 : Below w.heap.size w w22 := (bstep (bstep hb8 hb19) hq21)
              exact ⟨_, rfl, rfl, hb23⟩
            · have h20 : ¬ (((300 : Int) < ((lget l k).l.size : Int)) ∨ ((300 : Int) < ((lget l k).r.size : Int))) := by simpa using h20
              refine WC.skip ?_
              refine WE.blockNormal ?_
              refine WE.next ?_
              refine WC.region ?_
              refine WL.val (.int .i64 ((((k + 1) : Nat) : Int))) rfl rfl rfl (fun za zC zh zk => addb_3 rfl (zh.ev rfl) (zh.ev rfl) (wrap_eq (by omega) (by omega) (by omega)) zk) ?_
              refine WL.val (.int .i64 ((((k + 1) : Nat) : Int))) rfl rfl rfl (fun za zC zh zk => wp_move rfl (zh.ev rfl) zk) ?_
              refine WL.nil (WE.sub (K' := [(0, .slice pa sA.length ca), (1, .slice pb sB.length cb), (2, .int .i64 m), (3, .slice a l.length c), (9, .int .i64 (((k : Nat) : Int))), (27, .bool ((((largeB sA 300) || (largeB sB 300)) || (decide ((20 : Int) < (((l.length : Nat) : Int) : Int)))))), (30, .int .i64 (((l.length : Nat) : Int))), (31, .int .i64 ((((k + 1) : Nat) : Int))), (32, .bool ((decide ((((k : Nat) : Int) : Int) < (((l.length : Nat) : Int) : Int))))), (47, .bool (((decide ((300 : Int) < ((lget l k).l.size : Int))) || (decide ((300 : Int) < ((lget l k).r.size : Int))))))]) ⟨rfl, rfl, rfl, rfl, rfl, rfl, rfl, rfl, rfl, rfl, trivial⟩ ?_)
              refine WE.round (k + 1) ⟨rfl, rfl, rfl, rfl, rfl, rfl, rfl, trivial⟩ ?_ ?_
              · have hb24 : Below w.heap.size w w18 := (bstep hb8 hb19)
                exact ⟨by omega, hb24⟩
              · omega
        · have h9 : ¬ ((((k : Nat) : Int) : Int) < (((l.length : Nat) : Int) : Int)) := by simpa using h9
          refine WC.exit ?_
          refine WE.thenExit ?_
          refine WE.thenExit ?_
          refine WE.blockIs rfl ?_
          refine WE.next ?_
          refine WC.seq ?_
          refine WC.region ?_
          refine WL.val (.slice pa sA.length ca) rfl rfl rfl (fun za zC zh zk => wp_move rfl (zh.ev rfl) zk) ?_
          refine WL.val (.int .i64 m) rfl rfl rfl (fun za zC zh zk => wp_move rfl (zh.ev rfl) zk) ?_
          have hl28 : w.heap.size ≤ w7.heap.size := (hb8).size
          refine WL.call rfl rfl rfl (fun za zh zC => wp_call (by kernel_rfl) rfl (hv2 (zh.ev rfl) (zh.ev rfl))) (get_any sA m _ _ _ (hA.below hb8)) ?_
          rintro _ w29 ⟨⟨u25, rfl, hn26⟩, hb27⟩
          obtain ⟨_, a30, c31, rfl, _, _, _⟩ := hn26.form
          refine WL.val (.tuple #[.agg #[.int .i64 ((((subFind sA m).getD (.mk 0 []))).f), .slice a30 ((((subFind sA m).getD (.mk 0 []))).args.length) c31], .bool ((subFind sA m).isSome)]) rfl rfl rfl (fun za zC zh zk => wp_move rfl (zh.ev rfl) zk) ?_
          refine WL.val (.agg #[.int .i64 ((((subFind sA m).getD (.mk 0 []))).f), .slice a30 ((((subFind sA m).getD (.mk 0 []))).args.length) c31]) rfl rfl rfl (fun za zC zh zk => ext2_0 rfl (zh.ev rfl) zk) ?_
          refine WL.val (.bool ((subFind sA m).isSome)) rfl rfl rfl (fun za zC zh zk => ext2_1 rfl (zh.ev rfl) zk) ?_
          refine WL.step (post := NewBlk w29 32 #[.int .i64 0, .slice none 0 0]) rfl rfl rfl (fun za zC zh zk => alloc_32 rfl (zk _ _ (newBlk _ _ _))) ?_
          rintro _ w32 ⟨g33, rfl, hg34, hB35, hb36, hz37⟩
          have hb38 : Below w.heap.size w w29 := (bstep hb8 hb27)
          have hl39 : w.heap.size ≤ g33 := by have z2 := (hb38).size; omega
          have hl40 : w29.heap.size ≤ g33 := by omega
          refine WL.step (post := fun _ w' => Upd g33 w32 w' ∧ Blk w' g33 32 #[.int .i64 ((((subFind sA m).getD (.mk 0 []))).f), .slice a30 ((((subFind sA m).getD (.mk 0 []))).args.length) c31]) rfl rfl rfl (fun za zC zh zk => st_32 rfl (zh.ev rfl) (zh.ev rfl) rfl rfl hB35 (by first | decide | simp) (fun v => zk v _ ⟨(Upd.at_ _ _ _ _).trans (Upd.at_ _ _ _ _), (hB35.set_ 0 _).set_ 1 _⟩)) ?_
          rintro v44 w41 ⟨hu42, hB43⟩
          have hb45 : Below w.heap.size w w32 := (bstep hb38 hb36)
          have hb46 := upd_below hb45 hu42 (by omega)
          have hb47 := upd_below hb36 hu42 (by omega)
          refine WL.val (.bool ((subFind sA m).isSome)) rfl rfl rfl (fun za zC zh zk => wp_assign rfl (zh.ev rfl) zk) ?_
          refine WL.nil (WE.sub (K' := [(0, .slice pa sA.length ca), (1, .slice pb sB.length cb), (2, .int .i64 m), (3, .slice a l.length c), (10, .pointer (some ⟨g33, 0, none⟩)), (11, .bool ((subFind sA m).isSome)), (27, .bool ((((largeB sA 300) || (largeB sB 300)) || (decide ((20 : Int) < (((l.length : Nat) : Int) : Int)))))), (30, .int .i64 (((l.length : Nat) : Int))), (31, .int .i64 (((k : Nat) : Int))), (32, .bool ((decide ((((k : Nat) : Int) : Int) < (((l.length : Nat) : Int) : Int)))))]) ⟨rfl, rfl, rfl, rfl, rfl, rfl, rfl, rfl, rfl, rfl, trivial⟩ ?_)
          refine WE.next ?_
          refine WC.seq ?_
          refine WC.region ?_
          refine WL.val (.slice pa sA.length ca) rfl rfl rfl (fun za zC zh zk => wp_move rfl (zh.ev rfl) zk) ?_
          refine WL.val (.int .i64 m) rfl rfl rfl (fun za zC zh zk => wp_move rfl (zh.ev rfl) zk) ?_
          have hl51 : g33 < w41.heap.size := by have z1 := hB43.lt; omega
          have hl52 : w.heap.size ≤ w41.heap.size := (hb46).size
          refine WL.call rfl rfl rfl (fun za zh zC => wp_call (by kernel_rfl) rfl (hv2 (zh.ev rfl) (zh.ev rfl))) (rget_any sA m _ _ _ (hA.below hb46)) ?_
          rintro _ w53 ⟨⟨u48, rfl, hn49⟩, hb50⟩
          obtain ⟨_, a54, c55, rfl, _, _, _⟩ := hn49.form
          refine WL.val (.tuple #[.agg #[.int .i64 ((((subFind sA m).getD (.mk 0 []))).f), .slice a54 ((((subFind sA m).getD (.mk 0 []))).args.length) c55], .bool ((subFind sA m).isSome)]) rfl rfl rfl (fun za zC zh zk => wp_move rfl (zh.ev rfl) zk) ?_
          refine WL.val (.agg #[.int .i64 ((((subFind sA m).getD (.mk 0 []))).f), .slice a54 ((((subFind sA m).getD (.mk 0 []))).args.length) c55]) rfl rfl rfl (fun za zC zh zk => ext2_0 rfl (zh.ev rfl) zk) ?_
          refine WL.val (.bool ((subFind sA m).isSome)) rfl rfl rfl (fun za zC zh zk => ext2_1 rfl (zh.ev rfl) zk) ?_
          refine WL.step (post := NewBlk w53 32 #[.int .i64 0, .slice none 0 0]) rfl rfl rfl (fun za zC zh zk => alloc_32 rfl (zk _ _ (newBlk _ _ _))) ?_
          rintro _ w56 ⟨g57, rfl, hg58, hB59, hb60, hz61⟩
          have hl62 : g33 < g57 := by have z1 := hB43.lt; have z2 := (hb50).size; omega
          have hb63 : Below w.heap.size w w53 := (bstep hb46 hb50)
          have hl64 : w.heap.size ≤ g57 := by have z2 := (hb63).size; omega
          have hb65 : Below w29.heap.size w29 w53 := (bstep hb47 hb50)
          have hl66 : w29.heap.size ≤ g57 := by have z2 := (hb65).size; omega
          have hl67 : w53.heap.size ≤ g57 := by omega
          refine WL.step (post := fun _ w' => Upd g57 w56 w' ∧ Blk w' g57 32 #[.int .i64 ((((subFind sA m).getD (.mk 0 []))).f), .slice a54 ((((subFind sA m).getD (.mk 0 []))).args.length) c55]) rfl rfl rfl (fun za zC zh zk => st_32 rfl (zh.ev rfl) (zh.ev rfl) rfl rfl hB59 (by first | decide | simp) (fun v => zk v _ ⟨(Upd.at_ _ _ _ _).trans (Upd.at_ _ _ _ _), (hB59.set_ 0 _).set_ 1 _⟩)) ?_
          rintro v71 w68 ⟨hu69, hB70⟩
          have hb72 : Below w.heap.size w w56 := (bstep hb63 hb60)
          have hb73 : Below w29.heap.size w29 w56 := (bstep hb65 hb60)
          have hb74 := upd_below hb72 hu69 (by omega)
          have hb75 := upd_below hb73 hu69 (by omega)
          have hb76 := upd_below hb60 hu69 (by omega)
          have hb78 : Below w41.heap.size w41 w56 := (bstep hb50 hb60)
          have hB77 := hB43.below hb78
          have hB79 := upd_blk hB77 hu69 (by omega)
          refine WL.val (.bool ((subFind sA m).isSome)) rfl rfl rfl (fun za zC zh zk => wp_assign rfl (zh.ev rfl) zk) ?_
          refine WL.nil (WE.sub (K' := [(0, .slice pa sA.length ca), (1, .slice pb sB.length cb), (2, .int .i64 m), (3, .slice a l.length c), (10, .pointer (some ⟨g33, 0, none⟩)), (11, .bool ((subFind sA m).isSome)), (12, .pointer (some ⟨g57, 0, none⟩)), (13, .bool ((subFind sA m).isSome)), (27, .bool ((((largeB sA 300) || (largeB sB 300)) || (decide ((20 : Int) < (((l.length : Nat) : Int) : Int)))))), (30, .int .i64 (((l.length : Nat) : Int))), (31, .int .i64 (((k : Nat) : Int))), (32, .bool ((decide ((((k : Nat) : Int) : Int) < (((l.length : Nat) : Int) : Int)))))]) ⟨rfl, rfl, rfl, rfl, rfl, rfl, rfl, rfl, rfl, rfl, rfl, rfl, trivial⟩ ?_)
          refine WE.next ?_
          refine WC.seq ?_
          refine WC.seq ?_
          have ho80 := hn26.below hb75
          have ho81 := hn49.below hb76
          refine WC.opt [(true, .val (.slice pa sA.length ca)), (true, .val (.int .i64 ((subCheck sA)))), (true, .val (.slice pa sA.length ca)), (true, .val (.int .i64 ((subCheck sA)))), (true, .val (.bool ((((subCheck sA) : Int) != ((subCheck sA) : Int))))), (true, .val (.bool ((((subCheck sA) : Int) != ((subCheck sA) : Int))))), ((true && !(((subCheck sA) : Int) != ((subCheck sA) : Int))), .val (.slice pa sA.length ca)), ((true && !(((subCheck sA) : Int) != ((subCheck sA) : Int))), .val (.slice pb sB.length cb)), ((true && !(((subCheck sA) : Int) != ((subCheck sA) : Int))), .val (.bool ((subSame sA sB)))), ((true && !(((subCheck sA) : Int) != ((subCheck sA) : Int))), .val (.slice pa sA.length ca)), ((true && !(((subCheck sA) : Int) != ((subCheck sA) : Int))), .val (.slice pb sB.length cb)), ((true && !(((subCheck sA) : Int) != ((subCheck sA) : Int))), .val (.bool ((subSame sA sB)))), ((true && !(((subCheck sA) : Int) != ((subCheck sA) : Int))), .val (.bool (((subSame sA sB) != (subSame sA sB))))), (true, .val (.bool (((((subCheck sA) : Int) != ((subCheck sA) : Int)) || ((subSame sA sB) != (subSame sA sB)))))), (true, .val (.bool (((((subCheck sA) : Int) != ((subCheck sA) : Int)) || ((subSame sA sB) != (subSame sA sB)))))), ((true && !((((subCheck sA) : Int) != ((subCheck sA) : Int)) || ((subSame sA sB) != (subSame sA sB)))), .val (.slice pa sA.length ca)), ((true && !((((subCheck sA) : Int) != ((subCheck sA) : Int)) || ((subSame sA sB) != (subSame sA sB)))), .val (.slice pa sA.length ca)), ((true && !((((subCheck sA) : Int) != ((subCheck sA) : Int)) || ((subSame sA sB) != (subSame sA sB)))), .val (.bool ((subSame sA sA)))), ((true && !((((subCheck sA) : Int) != ((subCheck sA) : Int)) || ((subSame sA sB) != (subSame sA sB)))), .val (.bool ((!(subSame sA sA))))), (true, .val (.bool ((((((subCheck sA) : Int) != ((subCheck sA) : Int)) || ((subSame sA sB) != (subSame sA sB))) || (!(subSame sA sA)))))), (true, .val (.bool ((((((subCheck sA) : Int) != ((subCheck sA) : Int)) || ((subSame sA sB) != (subSame sA sB))) || (!(subSame sA sA)))))), ((true && !(((((subCheck sA) : Int) != ((subCheck sA) : Int)) || ((subSame sA sB) != (subSame sA sB))) || (!(subSame sA sA)))), .val (.bool ((subFind sA m).isSome))), ((true && !(((((subCheck sA) : Int) != ((subCheck sA) : Int)) || ((subSame sA sB) != (subSame sA sB))) || (!(subSame sA sA)))), .val (.bool ((subFind sA m).isSome))), ((true && !(((((subCheck sA) : Int) != ((subCheck sA) : Int)) || ((subSame sA sB) != (subSame sA sB))) || (!(subSame sA sA)))), .val (.bool (((subFind sA m).isSome != (subFind sA m).isSome)))), (true, .val (.bool (((((((subCheck sA) : Int) != ((subCheck sA) : Int)) || ((subSame sA sB) != (subSame sA sB))) || (!(subSame sA sA))) || ((subFind sA m).isSome != (subFind sA m).isSome))))), (true, .val (.bool (((((((subCheck sA) : Int) != ((subCheck sA) : Int)) || ((subSame sA sB) != (subSame sA sB))) || (!(subSame sA sA))) || ((subFind sA m).isSome != (subFind sA m).isSome))))), ((true && !((((((subCheck sA) : Int) != ((subCheck sA) : Int)) || ((subSame sA sB) != (subSame sA sB))) || (!(subSame sA sA))) || ((subFind sA m).isSome != (subFind sA m).isSome))), .val (.agg #[.int .i64 ((((subFind sA m).getD (.mk 0 []))).f), .slice a30 ((((subFind sA m).getD (.mk 0 []))).args.length) c31])), ((true && !((((((subCheck sA) : Int) != ((subCheck sA) : Int)) || ((subSame sA sB) != (subSame sA sB))) || (!(subSame sA sA))) || ((subFind sA m).isSome != (subFind sA m).isSome))), .val (.agg #[.int .i64 ((((subFind sA m).getD (.mk 0 []))).f), .slice a54 ((((subFind sA m).getD (.mk 0 []))).args.length) c55])), ((true && !((((((subCheck sA) : Int) != ((subCheck sA) : Int)) || ((subSame sA sB) != (subSame sA sB))) || (!(subSame sA sA))) || ((subFind sA m).isSome != (subFind sA m).isSome))), .val (.bool ((T.same ((subFind sA m).getD (.mk 0 [])) ((subFind sA m).getD (.mk 0 [])))))), ((true && !((((((subCheck sA) : Int) != ((subCheck sA) : Int)) || ((subSame sA sB) != (subSame sA sB))) || (!(subSame sA sA))) || ((subFind sA m).isSome != (subFind sA m).isSome))), .val (.bool ((!(T.same ((subFind sA m).getD (.mk 0 [])) ((subFind sA m).getD (.mk 0 []))))))), (true, .val (.bool ((((((((subCheck sA) : Int) != ((subCheck sA) : Int)) || ((subSame sA sB) != (subSame sA sB))) || (!(subSame sA sA))) || ((subFind sA m).isSome != (subFind sA m).isSome)) || (!(T.same ((subFind sA m).getD (.mk 0 [])) ((subFind sA m).getD (.mk 0 []))))))))] [(0, .slice pa sA.length ca), (1, .slice pb sB.length cb), (2, .int .i64 m), (3, .slice a l.length c), (10, .pointer (some ⟨g33, 0, none⟩)), (11, .bool ((subFind sA m).isSome)), (12, .pointer (some ⟨g57, 0, none⟩)), (13, .bool ((subFind sA m).isSome)), (27, .bool ((((largeB sA 300) || (largeB sB 300)) || (decide ((20 : Int) < (((l.length : Nat) : Int) : Int)))))), (30, .int .i64 (((l.length : Nat) : Int))), (31, .int .i64 (((k : Nat) : Int))), (32, .bool ((decide ((((k : Nat) : Int) : Int) < (((l.length : Nat) : Int) : Int)))))] ⟨rfl, rfl, rfl, rfl, rfl, rfl, rfl, rfl, rfl, rfl, rfl, rfl, trivial⟩ (by kernel_rfl) (by kernel_rfl) (by kernel_rfl) ?_ ?_
          · refine ⟨⟨true, .none rfl, fun h w => optUndef h, fun zβ za zw zc => ?_⟩, ?_⟩
            · exact wp_move rfl (zc.kn.ev rfl) ⟨_, rfl, Below.refl _ _, optDef zβ rfl⟩
            refine ⟨⟨true, .none rfl, fun h w => optUndef h, fun zβ za zw zc => ?_⟩, ?_⟩
            · exact wp_call (by kernel_rfl) rfl (hv1 ((show za.eval (.tmp 62) = za.tmps.getD 62 undef from rfl).trans (optVal (zc.dep 0 62 (by kernel_rfl)) rfl rfl))) (check_any sA _ _ _ hA.len hA.cap (hA.below (bstep hb74 zc.below)).rows) (fun v w' h => ⟨v, rfl, h.2, optDef zβ h.1⟩)
            refine ⟨⟨true, .none rfl, fun h w => optUndef h, fun zβ za zw zc => ?_⟩, ?_⟩
            · exact wp_move rfl (zc.kn.ev rfl) ⟨_, rfl, Below.refl _ _, optDef zβ rfl⟩
            refine ⟨⟨true, .none rfl, fun h w => optUndef h, fun zβ za zw zc => ?_⟩, ?_⟩
            · exact wp_call (by kernel_rfl) rfl (hv1 ((show za.eval (.tmp 64) = za.tmps.getD 64 undef from rfl).trans (optVal (zc.dep 2 64 (by kernel_rfl)) rfl rfl))) (rcheck_any sA _ _ _ hA.small (hA.below (bstep hb74 zc.below)).rows) (fun v w' h => ⟨v, rfl, h.2, optDef zβ h.1⟩)
            refine ⟨⟨true, .none rfl, fun h w => optUndef h, fun zβ za zw zc => ?_⟩, ?_⟩
            · exact neq_26 rfl ((show za.eval (.tmp 63) = za.tmps.getD 63 undef from rfl).trans (optVal (zc.dep 1 63 (by kernel_rfl)) rfl rfl)) ((show za.eval (.tmp 65) = za.tmps.getD 65 undef from rfl).trans (optVal (zc.dep 3 65 (by kernel_rfl)) rfl rfl)) ⟨_, rfl, Below.refl _ _, optDef zβ rfl⟩
            refine ⟨⟨true, .none rfl, fun h w => optUndef h, fun zβ za zw zc => ?_⟩, ?_⟩
            · exact wp_move rfl ((show za.eval (.tmp 66) = za.tmps.getD 66 undef from rfl).trans (optVal (zc.dep 4 66 (by kernel_rfl)) rfl rfl)) ⟨_, rfl, Below.refl _ _, optDef zβ rfl⟩
            refine ⟨⟨(true && !(((subCheck sA) : Int) != ((subCheck sA) : Int))), .no (c := (((subCheck sA) : Int) != ((subCheck sA) : Int))) (d := true) rfl (fun v w h => h), fun h w => optUndef h, fun zβ za zw zc => ?_⟩, ?_⟩
            · exact wp_move rfl (zc.kn.ev rfl) ⟨_, rfl, Below.refl _ _, optDef zβ rfl⟩
            refine ⟨⟨(true && !(((subCheck sA) : Int) != ((subCheck sA) : Int))), .no (c := (((subCheck sA) : Int) != ((subCheck sA) : Int))) (d := true) rfl (fun v w h => h), fun h w => optUndef h, fun zβ za zw zc => ?_⟩, ?_⟩
            · exact wp_move rfl (zc.kn.ev rfl) ⟨_, rfl, Below.refl _ _, optDef zβ rfl⟩
            refine ⟨⟨(true && !(((subCheck sA) : Int) != ((subCheck sA) : Int))), .no (c := (((subCheck sA) : Int) != ((subCheck sA) : Int))) (d := true) rfl (fun v w h => h), fun h w => optUndef h, fun zβ za zw zc => ?_⟩, ?_⟩
            · exact wp_call (by kernel_rfl) rfl (hv2 ((show za.eval (.tmp 68) = za.tmps.getD 68 undef from rfl).trans (optVal (zc.dep 6 68 (by kernel_rfl)) rfl zβ)) ((show za.eval (.tmp 69) = za.tmps.getD 69 undef from rfl).trans (optVal (zc.dep 7 69 (by kernel_rfl)) rfl zβ))) (subSame_any sA sB _ _ _ _ _ (Nat.le_trans hA.len hA.cap) (hA.below (bstep hb74 zc.below)).rows (hB.below (bstep hb74 zc.below)).rows) (fun v w' h => ⟨v, rfl, h.2, optDef zβ h.1⟩)
            refine ⟨⟨(true && !(((subCheck sA) : Int) != ((subCheck sA) : Int))), .no (c := (((subCheck sA) : Int) != ((subCheck sA) : Int))) (d := true) rfl (fun v w h => h), fun h w => optUndef h, fun zβ za zw zc => ?_⟩, ?_⟩
            · exact wp_move rfl (zc.kn.ev rfl) ⟨_, rfl, Below.refl _ _, optDef zβ rfl⟩
            refine ⟨⟨(true && !(((subCheck sA) : Int) != ((subCheck sA) : Int))), .no (c := (((subCheck sA) : Int) != ((subCheck sA) : Int))) (d := true) rfl (fun v w h => h), fun h w => optUndef h, fun zβ za zw zc => ?_⟩, ?_⟩
            · exact wp_move rfl (zc.kn.ev rfl) ⟨_, rfl, Below.refl _ _, optDef zβ rfl⟩
            refine ⟨⟨(true && !(((subCheck sA) : Int) != ((subCheck sA) : Int))), .no (c := (((subCheck sA) : Int) != ((subCheck sA) : Int))) (d := true) rfl (fun v w h => h), fun h w => optUndef h, fun zβ za zw zc => ?_⟩, ?_⟩
            · exact wp_call (by kernel_rfl) rfl (hv2 ((show za.eval (.tmp 71) = za.tmps.getD 71 undef from rfl).trans (optVal (zc.dep 9 71 (by kernel_rfl)) rfl zβ)) ((show za.eval (.tmp 72) = za.tmps.getD 72 undef from rfl).trans (optVal (zc.dep 10 72 (by kernel_rfl)) rfl zβ))) (rsubSame_any sA sB _ _ _ _ _ (Nat.le_trans hA.len hA.cap) (hA.below (bstep hb74 zc.below)).rows (hB.below (bstep hb74 zc.below)).rows) (fun v w' h => ⟨v, rfl, h.2, optDef zβ h.1⟩)
            refine ⟨⟨(true && !(((subCheck sA) : Int) != ((subCheck sA) : Int))), .no (c := (((subCheck sA) : Int) != ((subCheck sA) : Int))) (d := true) rfl (fun v w h => h), fun h w => optUndef h, fun zβ za zw zc => ?_⟩, ?_⟩
            · exact neq_4 rfl ((show za.eval (.tmp 70) = za.tmps.getD 70 undef from rfl).trans (optVal (zc.dep 8 70 (by kernel_rfl)) rfl zβ)) ((show za.eval (.tmp 73) = za.tmps.getD 73 undef from rfl).trans (optVal (zc.dep 11 73 (by kernel_rfl)) rfl zβ)) ⟨_, rfl, Below.refl _ _, optDef zβ rfl⟩
            refine ⟨⟨true, .none rfl, fun h w => optUndef h, fun zβ za zw zc => ?_⟩, ?_⟩
            · exact wp_or rfl ((show za.eval (.tmp 67) = za.tmps.getD 67 undef from rfl).trans (optVal (zc.dep 5 67 (by kernel_rfl)) rfl rfl)) (fun hp => ((show za.eval (.tmp 74) = za.tmps.getD 74 undef from rfl).trans (optVal (zc.dep 12 74 (by kernel_rfl)) rfl (bMkN zβ hp)))) ⟨_, rfl, Below.refl _ _, optDef zβ rfl⟩
            refine ⟨⟨true, .none rfl, fun h w => optUndef h, fun zβ za zw zc => ?_⟩, ?_⟩
            · exact wp_move rfl ((show za.eval (.tmp 75) = za.tmps.getD 75 undef from rfl).trans (optVal (zc.dep 13 75 (by kernel_rfl)) rfl rfl)) ⟨_, rfl, Below.refl _ _, optDef zβ rfl⟩
            refine ⟨⟨(true && !((((subCheck sA) : Int) != ((subCheck sA) : Int)) || ((subSame sA sB) != (subSame sA sB)))), .no (c := ((((subCheck sA) : Int) != ((subCheck sA) : Int)) || ((subSame sA sB) != (subSame sA sB)))) (d := true) rfl (fun v w h => h), fun h w => optUndef h, fun zβ za zw zc => ?_⟩, ?_⟩
            · exact wp_move rfl (zc.kn.ev rfl) ⟨_, rfl, Below.refl _ _, optDef zβ rfl⟩
            refine ⟨⟨(true && !((((subCheck sA) : Int) != ((subCheck sA) : Int)) || ((subSame sA sB) != (subSame sA sB)))), .no (c := ((((subCheck sA) : Int) != ((subCheck sA) : Int)) || ((subSame sA sB) != (subSame sA sB)))) (d := true) rfl (fun v w h => h), fun h w => optUndef h, fun zβ za zw zc => ?_⟩, ?_⟩
            · exact wp_move rfl (zc.kn.ev rfl) ⟨_, rfl, Below.refl _ _, optDef zβ rfl⟩
            refine ⟨⟨(true && !((((subCheck sA) : Int) != ((subCheck sA) : Int)) || ((subSame sA sB) != (subSame sA sB)))), .no (c := ((((subCheck sA) : Int) != ((subCheck sA) : Int)) || ((subSame sA sB) != (subSame sA sB)))) (d := true) rfl (fun v w h => h), fun h w => optUndef h, fun zβ za zw zc => ?_⟩, ?_⟩
            · exact wp_call (by kernel_rfl) rfl (hv2 ((show za.eval (.tmp 77) = za.tmps.getD 77 undef from rfl).trans (optVal (zc.dep 15 77 (by kernel_rfl)) rfl zβ)) ((show za.eval (.tmp 78) = za.tmps.getD 78 undef from rfl).trans (optVal (zc.dep 16 78 (by kernel_rfl)) rfl zβ))) (subSame_any sA sA _ _ _ _ _ (Nat.le_trans hA.len hA.cap) (hA.below (bstep hb74 zc.below)).rows (hA.below (bstep hb74 zc.below)).rows) (fun v w' h => ⟨v, rfl, h.2, optDef zβ h.1⟩)
            refine ⟨⟨(true && !((((subCheck sA) : Int) != ((subCheck sA) : Int)) || ((subSame sA sB) != (subSame sA sB)))), .no (c := ((((subCheck sA) : Int) != ((subCheck sA) : Int)) || ((subSame sA sB) != (subSame sA sB)))) (d := true) rfl (fun v w h => h), fun h w => optUndef h, fun zβ za zw zc => ?_⟩, ?_⟩
            · exact wp_not rfl ((show za.eval (.tmp 79) = za.tmps.getD 79 undef from rfl).trans (optVal (zc.dep 17 79 (by kernel_rfl)) rfl zβ)) ⟨_, rfl, Below.refl _ _, optDef zβ rfl⟩
            refine ⟨⟨true, .none rfl, fun h w => optUndef h, fun zβ za zw zc => ?_⟩, ?_⟩
            · exact wp_or rfl ((show za.eval (.tmp 76) = za.tmps.getD 76 undef from rfl).trans (optVal (zc.dep 14 76 (by kernel_rfl)) rfl rfl)) (fun hp => ((show za.eval (.tmp 80) = za.tmps.getD 80 undef from rfl).trans (optVal (zc.dep 18 80 (by kernel_rfl)) rfl (bMkN zβ hp)))) ⟨_, rfl, Below.refl _ _, optDef zβ rfl⟩
            refine ⟨⟨true, .none rfl, fun h w => optUndef h, fun zβ za zw zc => ?_⟩, ?_⟩
            · exact wp_move rfl ((show za.eval (.tmp 81) = za.tmps.getD 81 undef from rfl).trans (optVal (zc.dep 19 81 (by kernel_rfl)) rfl rfl)) ⟨_, rfl, Below.refl _ _, optDef zβ rfl⟩
            refine ⟨⟨(true && !(((((subCheck sA) : Int) != ((subCheck sA) : Int)) || ((subSame sA sB) != (subSame sA sB))) || (!(subSame sA sA)))), .no (c := (((((subCheck sA) : Int) != ((subCheck sA) : Int)) || ((subSame sA sB) != (subSame sA sB))) || (!(subSame sA sA)))) (d := true) rfl (fun v w h => h), fun h w => optUndef h, fun zβ za zw zc => ?_⟩, ?_⟩
            · exact wp_move rfl (zc.kn.ev rfl) ⟨_, rfl, Below.refl _ _, optDef zβ rfl⟩
            refine ⟨⟨(true && !(((((subCheck sA) : Int) != ((subCheck sA) : Int)) || ((subSame sA sB) != (subSame sA sB))) || (!(subSame sA sA)))), .no (c := (((((subCheck sA) : Int) != ((subCheck sA) : Int)) || ((subSame sA sB) != (subSame sA sB))) || (!(subSame sA sA)))) (d := true) rfl (fun v w h => h), fun h w => optUndef h, fun zβ za zw zc => ?_⟩, ?_⟩
            · exact wp_move rfl (zc.kn.ev rfl) ⟨_, rfl, Below.refl _ _, optDef zβ rfl⟩
            refine ⟨⟨(true && !(((((subCheck sA) : Int) != ((subCheck sA) : Int)) || ((subSame sA sB) != (subSame sA sB))) || (!(subSame sA sA)))), .no (c := (((((subCheck sA) : Int) != ((subCheck sA) : Int)) || ((subSame sA sB) != (subSame sA sB))) || (!(subSame sA sA)))) (d := true) rfl (fun v w h => h), fun h w => optUndef h, fun zβ za zw zc => ?_⟩, ?_⟩
            · exact neq_4 rfl ((show za.eval (.tmp 83) = za.tmps.getD 83 undef from rfl).trans (optVal (zc.dep 21 83 (by kernel_rfl)) rfl zβ)) ((show za.eval (.tmp 84) = za.tmps.getD 84 undef from rfl).trans (optVal (zc.dep 22 84 (by kernel_rfl)) rfl zβ)) ⟨_, rfl, Below.refl _ _, optDef zβ rfl⟩
            refine ⟨⟨true, .none rfl, fun h w => optUndef h, fun zβ za zw zc => ?_⟩, ?_⟩
            · exact wp_or rfl ((show za.eval (.tmp 82) = za.tmps.getD 82 undef from rfl).trans (optVal (zc.dep 20 82 (by kernel_rfl)) rfl rfl)) (fun hp => ((show za.eval (.tmp 85) = za.tmps.getD 85 undef from rfl).trans (optVal (zc.dep 23 85 (by kernel_rfl)) rfl (bMkN zβ hp)))) ⟨_, rfl, Below.refl _ _, optDef zβ rfl⟩
            refine ⟨⟨true, .none rfl, fun h w => optUndef h, fun zβ za zw zc => ?_⟩, ?_⟩
            · exact wp_move rfl ((show za.eval (.tmp 86) = za.tmps.getD 86 undef from rfl).trans (optVal (zc.dep 24 86 (by kernel_rfl)) rfl rfl)) ⟨_, rfl, Below.refl _ _, optDef zβ rfl⟩
            refine ⟨⟨(true && !((((((subCheck sA) : Int) != ((subCheck sA) : Int)) || ((subSame sA sB) != (subSame sA sB))) || (!(subSame sA sA))) || ((subFind sA m).isSome != (subFind sA m).isSome))), .no (c := ((((((subCheck sA) : Int) != ((subCheck sA) : Int)) || ((subSame sA sB) != (subSame sA sB))) || (!(subSame sA sA))) || ((subFind sA m).isSome != (subFind sA m).isSome))) (d := true) rfl (fun v w h => h), fun h w => optUndef h, fun zβ za zw zc => ?_⟩, ?_⟩
            · exact ld_32 rfl (zc.kn.ev rfl) (bkeeps zc.below _ _ ((hB79.cell 0).trans rfl)) (bkeeps zc.below _ _ ((hB79.cell 1).trans rfl)) ⟨_, rfl, Below.refl _ _, optDef zβ rfl⟩
            refine ⟨⟨(true && !((((((subCheck sA) : Int) != ((subCheck sA) : Int)) || ((subSame sA sB) != (subSame sA sB))) || (!(subSame sA sA))) || ((subFind sA m).isSome != (subFind sA m).isSome))), .no (c := ((((((subCheck sA) : Int) != ((subCheck sA) : Int)) || ((subSame sA sB) != (subSame sA sB))) || (!(subSame sA sA))) || ((subFind sA m).isSome != (subFind sA m).isSome))) (d := true) rfl (fun v w h => h), fun h w => optUndef h, fun zβ za zw zc => ?_⟩, ?_⟩
            · exact ld_32 rfl (zc.kn.ev rfl) (bkeeps zc.below _ _ ((hB70.cell 0).trans rfl)) (bkeeps zc.below _ _ ((hB70.cell 1).trans rfl)) ⟨_, rfl, Below.refl _ _, optDef zβ rfl⟩
            refine ⟨⟨(true && !((((((subCheck sA) : Int) != ((subCheck sA) : Int)) || ((subSame sA sB) != (subSame sA sB))) || (!(subSame sA sA))) || ((subFind sA m).isSome != (subFind sA m).isSome))), .no (c := ((((((subCheck sA) : Int) != ((subCheck sA) : Int)) || ((subSame sA sB) != (subSame sA sB))) || (!(subSame sA sA))) || ((subFind sA m).isSome != (subFind sA m).isSome))) (d := true) rfl (fun v w h => h), fun h w => optUndef h, fun zβ za zw zc => ?_⟩, ?_⟩
            · exact wp_call (by kernel_rfl) rfl (hv2 ((show za.eval (.tmp 88) = za.tmps.getD 88 undef from rfl).trans (optVal (zc.dep 26 88 (by kernel_rfl)) rfl zβ)) ((show za.eval (.tmp 89) = za.tmps.getD 89 undef from rfl).trans (optVal (zc.dep 27 89 (by kernel_rfl)) rfl zβ))) (ret_of (rsame_any ((subFind sA m).getD (.mk 0 [])) ((subFind sA m).getD (.mk 0 [])) _ _ _ (IsT.below zc.below (InT.isT ho80)) (IsT.below zc.below (InT.isT ho81)))) (fun v w' h => ⟨v, rfl, h.2, optDef zβ h.1⟩)
            refine ⟨⟨(true && !((((((subCheck sA) : Int) != ((subCheck sA) : Int)) || ((subSame sA sB) != (subSame sA sB))) || (!(subSame sA sA))) || ((subFind sA m).isSome != (subFind sA m).isSome))), .no (c := ((((((subCheck sA) : Int) != ((subCheck sA) : Int)) || ((subSame sA sB) != (subSame sA sB))) || (!(subSame sA sA))) || ((subFind sA m).isSome != (subFind sA m).isSome))) (d := true) rfl (fun v w h => h), fun h w => optUndef h, fun zβ za zw zc => ?_⟩, ?_⟩
            · exact wp_not rfl ((show za.eval (.tmp 90) = za.tmps.getD 90 undef from rfl).trans (optVal (zc.dep 28 90 (by kernel_rfl)) rfl zβ)) ⟨_, rfl, Below.refl _ _, optDef zβ rfl⟩
            refine ⟨⟨true, .none rfl, fun h w => optUndef h, fun zβ za zw zc => ?_⟩, ?_⟩
            · exact wp_or rfl ((show za.eval (.tmp 87) = za.tmps.getD 87 undef from rfl).trans (optVal (zc.dep 25 87 (by kernel_rfl)) rfl rfl)) (fun hp => ((show za.eval (.tmp 91) = za.tmps.getD 91 undef from rfl).trans (optVal (zc.dep 29 91 (by kernel_rfl)) rfl (bMkN zβ hp)))) ⟨_, rfl, Below.refl _ _, optDef zβ rfl⟩
            exact trivial
          · intro za w82 zh hb83 zu
            have zh := zh.cons (d := 92) (v := .bool ((((((((subCheck sA) : Int) != ((subCheck sA) : Int)) || ((subSame sA sB) != (subSame sA sB))) || (!(subSame sA sA))) || ((subFind sA m).isSome != (subFind sA m).isSome)) || (!(T.same ((subFind sA m).getD (.mk 0 [])) ((subFind sA m).getD (.mk 0 []))))))) (optVal (zu 30 92 (by kernel_rfl)) rfl rfl)
            clear zu
            refine (show WE _ [(0, .slice pa sA.length ca), (1, .slice pb sB.length cb), (2, .int .i64 m), (3, .slice a l.length c), (10, .pointer (some ⟨g33, 0, none⟩)), (11, .bool ((subFind sA m).isSome)), (12, .pointer (some ⟨g57, 0, none⟩)), (13, .bool ((subFind sA m).isSome)), (27, .bool ((((largeB sA 300) || (largeB sB 300)) || (decide ((20 : Int) < (((l.length : Nat) : Int) : Int)))))), (30, .int .i64 (((l.length : Nat) : Int))), (31, .int .i64 (((k : Nat) : Int))), (32, .bool ((decide ((((k : Nat) : Int) : Int) < (((l.length : Nat) : Int) : Int))))), (92, .bool ((((((((subCheck sA) : Int) != ((subCheck sA) : Int)) || ((subSame sA sB) != (subSame sA sB))) || (!(subSame sA sA))) || ((subFind sA m).isSome != (subFind sA m).isSome)) || (!(T.same ((subFind sA m).getD (.mk 0 [])) ((subFind sA m).getD (.mk 0 [])))))))] w82 _ .normal from ?_) za (zh.sub ⟨rfl, rfl, rfl, rfl, rfl, rfl, rfl, rfl, rfl, rfl, rfl, rfl, rfl, trivial⟩)
            refine WE.next ?_
            refine WC.cond rfl (fun h84 => ?_) (fun h84 => ?_)
            · have h84 : ((((((subCheck sA) : Int) ≠ ((subCheck sA) : Int)) ∨ ((subSame sA sB) ≠ (subSame sA sB))) ∨ (¬ ((subSame sA sA) = true))) ∨ ((subFind sA m).isSome ≠ (subFind sA m).isSome)) ∨ (¬ ((T.same ((subFind sA m).getD (.mk 0 [])) ((subFind sA m).getD (.mk 0 []))) = true)) := by simpa using h84
              refine WC.seq ?_
              refine WC.region ?_
              refine WL.val (.bool false) rfl rfl rfl (fun za zC zh zk => wp_assign rfl (zh.ev rfl) zk) ?_
              refine WL.nil (WE.sub (K' := [(0, .slice pa sA.length ca), (1, .slice pb sB.length cb), (2, .int .i64 m), (3, .slice a l.length c), (8, .bool false), (10, .pointer (some ⟨g33, 0, none⟩)), (11, .bool ((subFind sA m).isSome)), (12, .pointer (some ⟨g57, 0, none⟩)), (13, .bool ((subFind sA m).isSome)), (27, .bool ((((largeB sA 300) || (largeB sB 300)) || (decide ((20 : Int) < (((l.length : Nat) : Int) : Int)))))), (30, .int .i64 (((l.length : Nat) : Int))), (31, .int .i64 (((k : Nat) : Int))), (32, .bool ((decide ((((k : Nat) : Int) : Int) < (((l.length : Nat) : Int) : Int))))), (92, .bool ((((((((subCheck sA) : Int) != ((subCheck sA) : Int)) || ((subSame sA sB) != (subSame sA sB))) || (!(subSame sA sA))) || ((subFind sA m).isSome != (subFind sA m).isSome)) || (!(T.same ((subFind sA m).getD (.mk 0 [])) ((subFind sA m).getD (.mk 0 [])))))))]) ⟨rfl, rfl, rfl, rfl, rfl, rfl, rfl, rfl, rfl, rfl, rfl, rfl, rfl, rfl, trivial⟩ ?_)
              refine WE.next ?_
              refine WC.ret ?_
              refine WE.thenRet ?_
              refine WE.ret1 rfl rfl ?_
              exfalso
              have z := h84
              simp [T.same_refl, subSame, clSame, Li.app] at z
            · have h84 : ¬ (((((((subCheck sA) : Int) ≠ ((subCheck sA) : Int)) ∨ ((subSame sA sB) ≠ (subSame sA sB))) ∨ (¬ ((subSame sA sA) = true))) ∨ ((subFind sA m).isSome ≠ (subFind sA m).isSome)) ∨ (¬ ((T.same ((subFind sA m).getD (.mk 0 [])) ((subFind sA m).getD (.mk 0 []))) = true))) := by simpa using h84
              refine WC.skip ?_
              refine WE.next ?_
              refine WC.seq ?_
              refine WC.seq ?_
              refine WC.region ?_
              refine WL.val (.slice a l.length c) rfl rfl rfl (fun za zC zh zk => wp_move rfl (zh.ev rfl) zk) ?_
              refine WL.val (.int .i64 (((l.length : Nat) : Int))) rfl rfl rfl (fun za zC zh zk => len_42 rfl (zh.ev rfl) zk) ?_
              refine WL.val (.int .i64 0) rfl rfl rfl (fun za zC zh zk => wp_move rfl (zh.ev rfl) zk) ?_
              refine WL.nil (WE.sub (K' := [(0, .slice pa sA.length ca), (1, .slice pb sB.length cb), (2, .int .i64 m), (3, .slice a l.length c), (10, .pointer (some ⟨g33, 0, none⟩)), (11, .bool ((subFind sA m).isSome)), (12, .pointer (some ⟨g57, 0, none⟩)), (13, .bool ((subFind sA m).isSome)), (27, .bool ((((largeB sA 300) || (largeB sB 300)) || (decide ((20 : Int) < (((l.length : Nat) : Int) : Int)))))), (30, .int .i64 (((l.length : Nat) : Int))), (31, .int .i64 (((k : Nat) : Int))), (32, .bool ((decide ((((k : Nat) : Int) : Int) < (((l.length : Nat) : Int) : Int))))), (92, .bool ((((((((subCheck sA) : Int) != ((subCheck sA) : Int)) || ((subSame sA sB) != (subSame sA sB))) || (!(subSame sA sA))) || ((subFind sA m).isSome != (subFind sA m).isSome)) || (!(T.same ((subFind sA m).getD (.mk 0 [])) ((subFind sA m).getD (.mk 0 []))))))), (94, .int .i64 (((l.length : Nat) : Int))), (95, .int .i64 0)]) ⟨rfl, rfl, rfl, rfl, rfl, rfl, rfl, rfl, rfl, rfl, rfl, rfl, rfl, rfl, rfl, trivial⟩ ?_)
              refine WE.next ?_
              refine WC.block ?_
              refine WC.loop (X := Nat) (fun q => l.length - q) (fun q => [(0, .slice pa sA.length ca), (1, .slice pb sB.length cb), (2, .int .i64 m), (3, .slice a l.length c), (10, .pointer (some ⟨g33, 0, none⟩)), (11, .bool ((subFind sA m).isSome)), (12, .pointer (some ⟨g57, 0, none⟩)), (13, .bool ((subFind sA m).isSome)), (27, .bool ((((largeB sA 300) || (largeB sB 300)) || (decide ((20 : Int) < (((l.length : Nat) : Int) : Int)))))), (30, .int .i64 (((l.length : Nat) : Int))), (31, .int .i64 (((k : Nat) : Int))), (32, .bool ((decide ((((k : Nat) : Int) : Int) < (((l.length : Nat) : Int) : Int))))), (92, .bool ((((((((subCheck sA) : Int) != ((subCheck sA) : Int)) || ((subSame sA sB) != (subSame sA sB))) || (!(subSame sA sA))) || ((subFind sA m).isSome != (subFind sA m).isSome)) || (!(T.same ((subFind sA m).getD (.mk 0 [])) ((subFind sA m).getD (.mk 0 []))))))), (94, .int .i64 (((l.length : Nat) : Int))), (95, .int .i64 (((q : Nat) : Int)))]) (fun q w85 => q ≤ l.length ∧ Below w.heap.size w w85) 0 ⟨rfl, rfl, rfl, rfl, rfl, rfl, rfl, rfl, rfl, rfl, rfl, rfl, rfl, rfl, rfl, trivial⟩ ?_ ?_
              · have hb86 : Below w.heap.size w w82 := (bstep hb74 hb83)
                exact ⟨Nat.zero_le _, hb86⟩
              · rintro q w85 ⟨hq, hb87⟩
                refine WC.seq ?_
                refine WC.region ?_
                refine WL.val (.bool ((decide ((((q : Nat) : Int) : Int) < (((l.length : Nat) : Int) : Int))))) rfl rfl rfl (fun za zC zh zk => lss_3 rfl (zh.ev rfl) (zh.ev rfl) zk) ?_
                refine WL.nil (WE.sub (K' := [(0, .slice pa sA.length ca), (1, .slice pb sB.length cb), (2, .int .i64 m), (3, .slice a l.length c), (10, .pointer (some ⟨g33, 0, none⟩)), (11, .bool ((subFind sA m).isSome)), (12, .pointer (some ⟨g57, 0, none⟩)), (13, .bool ((subFind sA m).isSome)), (27, .bool ((((largeB sA 300) || (largeB sB 300)) || (decide ((20 : Int) < (((l.length : Nat) : Int) : Int)))))), (30, .int .i64 (((l.length : Nat) : Int))), (31, .int .i64 (((k : Nat) : Int))), (32, .bool ((decide ((((k : Nat) : Int) : Int) < (((l.length : Nat) : Int) : Int))))), (92, .bool ((((((((subCheck sA) : Int) != ((subCheck sA) : Int)) || ((subSame sA sB) != (subSame sA sB))) || (!(subSame sA sA))) || ((subFind sA m).isSome != (subFind sA m).isSome)) || (!(T.same ((subFind sA m).getD (.mk 0 [])) ((subFind sA m).getD (.mk 0 []))))))), (94, .int .i64 (((l.length : Nat) : Int))), (95, .int .i64 (((q : Nat) : Int))), (96, .bool ((decide ((((q : Nat) : Int) : Int) < (((l.length : Nat) : Int) : Int)))))]) ⟨rfl, rfl, rfl, rfl, rfl, rfl, rfl, rfl, rfl, rfl, rfl, rfl, rfl, rfl, rfl, rfl, trivial⟩ ?_)
                refine WE.next ?_
                refine WC.seq ?_
                refine WC.cond rfl (fun h88 => ?_) (fun h88 => ?_)
                · have h88 : (((q : Nat) : Int) : Int) < (((l.length : Nat) : Int) : Int) := by simpa using h88
                  refine WC.skip ?_
                  refine WE.next ?_
                  refine WC.seq ?_
                  refine WC.block ?_
                  refine WC.seq ?_
                  refine WC.region ?_
                  refine WL.val (.int .i64 (((q : Nat) : Int))) rfl rfl rfl (fun za zC zh zk => wp_move rfl (zh.ev rfl) zk) ?_
                  refine WL.val (.int .i64 (((q : Nat) : Int))) rfl rfl rfl (fun za zC zh zk => wp_assign rfl (zh.ev rfl) zk) ?_
                  refine WL.nil (WE.sub (K' := [(0, .slice pa sA.length ca), (1, .slice pb sB.length cb), (2, .int .i64 m), (3, .slice a l.length c), (10, .pointer (some ⟨g33, 0, none⟩)), (11, .bool ((subFind sA m).isSome)), (12, .pointer (some ⟨g57, 0, none⟩)), (13, .bool ((subFind sA m).isSome)), (14, .int .i64 (((q : Nat) : Int))), (27, .bool ((((largeB sA 300) || (largeB sB 300)) || (decide ((20 : Int) < (((l.length : Nat) : Int) : Int)))))), (30, .int .i64 (((l.length : Nat) : Int))), (31, .int .i64 (((k : Nat) : Int))), (32, .bool ((decide ((((k : Nat) : Int) : Int) < (((l.length : Nat) : Int) : Int))))), (92, .bool ((((((((subCheck sA) : Int) != ((subCheck sA) : Int)) || ((subSame sA sB) != (subSame sA sB))) || (!(subSame sA sA))) || ((subFind sA m).isSome != (subFind sA m).isSome)) || (!(T.same ((subFind sA m).getD (.mk 0 [])) ((subFind sA m).getD (.mk 0 []))))))), (94, .int .i64 (((l.length : Nat) : Int))), (95, .int .i64 (((q : Nat) : Int))), (96, .bool ((decide ((((q : Nat) : Int) : Int) < (((l.length : Nat) : Int) : Int)))))]) ⟨rfl, rfl, rfl, rfl, rfl, rfl, rfl, rfl, rfl, rfl, rfl, rfl, rfl, rfl, rfl, rfl, rfl, trivial⟩ ?_)
                  refine WE.next ?_
                  refine WC.seq ?_
                  obtain ⟨b89, o90, A91, C92, A93, C94, ha95, hc96⟩ := InRow.openL h.rows
                  refine WC.box2 (fun zS zw zv => LiIn zS zw ((lget l q).app sA) zv) (fun zS zw zv => LiIn zS zw ((lget l q).app sA) zv) (fun _ _ _ _ => LiIn.keep) (fun _ _ _ _ => LiIn.keep) (fun _ _ _ _ => LiIn.mono) (fun _ _ _ _ => LiIn.mono) [(true, .slice pa sA.length ca), (true, .slice a l.length c), (true, .int .i64 (((q : Nat) : Int))), (true, .pointer (some ⟨b89, o90 + q * 5, none⟩)), (true, .agg #[.bool ((lget l q).neg), .int .i64 ((lget l q).l.f), .slice ((A91 q)) ((lget l q).l.args.length) ((C92 q)), .int .i64 ((lget l q).r.f), .slice ((A93 q)) ((lget l q).r.args.length) ((C94 q))]), (true, undef), (true, .slice pa sA.length ca), (true, .slice a l.length c), (true, .int .i64 (((q : Nat) : Int))), (true, .pointer (some ⟨b89, o90 + q * 5, none⟩)), (true, .agg #[.bool ((lget l q).neg), .int .i64 ((lget l q).l.f), .slice ((A91 q)) ((lget l q).l.args.length) ((C92 q)), .int .i64 ((lget l q).r.f), .slice ((A93 q)) ((lget l q).r.args.length) ((C94 q))]), (true, undef), (true, undef), (true, undef), (true, undef), (true, undef)] [(0, .slice pa sA.length ca), (1, .slice pb sB.length cb), (2, .int .i64 m), (3, .slice a l.length c), (10, .pointer (some ⟨g33, 0, none⟩)), (11, .bool ((subFind sA m).isSome)), (12, .pointer (some ⟨g57, 0, none⟩)), (13, .bool ((subFind sA m).isSome)), (14, .int .i64 (((q : Nat) : Int))), (27, .bool ((((largeB sA 300) || (largeB sB 300)) || (decide ((20 : Int) < (((l.length : Nat) : Int) : Int)))))), (30, .int .i64 (((l.length : Nat) : Int))), (31, .int .i64 (((k : Nat) : Int))), (32, .bool ((decide ((((k : Nat) : Int) : Int) < (((l.length : Nat) : Int) : Int))))), (92, .bool ((((((((subCheck sA) : Int) != ((subCheck sA) : Int)) || ((subSame sA sB) != (subSame sA sB))) || (!(subSame sA sA))) || ((subFind sA m).isSome != (subFind sA m).isSome)) || (!(T.same ((subFind sA m).getD (.mk 0 [])) ((subFind sA m).getD (.mk 0 []))))))), (94, .int .i64 (((l.length : Nat) : Int))), (95, .int .i64 (((q : Nat) : Int))), (96, .bool ((decide ((((q : Nat) : Int) : Int) < (((l.length : Nat) : Int) : Int)))))] (t1 := 44) (z1 := #[.bool false, .int .i64 0, .slice none 0 0, .int .i64 0, .slice none 0 0]) (t2 := 44) (z2 := #[.bool false, .int .i64 0, .slice none 0 0, .int .i64 0, .slice none 0 0]) 5 11 12 13 14 15 15 16 (by decide) (by kernel_rfl) rfl rfl ⟨rfl, rfl, rfl, rfl, rfl, rfl, rfl, rfl, rfl, rfl, rfl, rfl, rfl, rfl, rfl, rfl, rfl, trivial⟩ (by kernel_rfl) (by kernel_rfl) (by kernel_rfl) ?_ ?_
                  · refine ⟨.inl ⟨by decide, rfl, fun za zw zc => ?_⟩, ?_⟩
                    · exact wp_move rfl (zc.kn.ev rfl) ⟨_, rfl, rfl, fun _ => rfl⟩
                    refine ⟨.inl ⟨by decide, rfl, fun za zw zc => ?_⟩, ?_⟩
                    · exact wp_move rfl (zc.kn.ev rfl) ⟨_, rfl, rfl, fun _ => rfl⟩
                    refine ⟨.inl ⟨by decide, rfl, fun za zw zc => ?_⟩, ?_⟩
                    · exact wp_move rfl (zc.kn.ev rfl) ⟨_, rfl, rfl, fun _ => rfl⟩
                    refine ⟨.inl ⟨by decide, rfl, fun za zw zc => ?_⟩, ?_⟩
                    · exact ix_42 (k := q) rfl ((show za.eval (.tmp 99) = za.tmps.getD 99 undef from rfl).trans (valVal2 (zc.dep 1 99 (by kernel_rfl) (by decide)) rfl rfl)) (ha95 q (by first | omega | (simp; omega))) ((show za.eval (.tmp 100) = za.tmps.getD 100 undef from rfl).trans (valVal2 (zc.dep 2 100 (by kernel_rfl) (by decide)) rfl rfl)) (by first | omega | (simp; omega)) ⟨_, rfl, rfl, fun _ => rfl⟩
                    refine ⟨.inl ⟨by decide, rfl, fun za zw zc => ?_⟩, ?_⟩
                    · exact ld_44 rfl ((show za.eval (.tmp 101) = za.tmps.getD 101 undef from rfl).trans (valVal2 (zc.dep 3 101 (by kernel_rfl) (by decide)) rfl rfl)) (bkeeps (bstep hb87 zc.below) _ _ (hc96 q (by first | omega | (simp; omega))).1) (bkeeps (bstep hb87 zc.below) _ _ (hc96 q (by first | omega | (simp; omega))).2.1) (bkeeps (bstep hb87 zc.below) _ _ (hc96 q (by first | omega | (simp; omega))).2.2.1) (bkeeps (bstep hb87 zc.below) _ _ (hc96 q (by first | omega | (simp; omega))).2.2.2.1) (bkeeps (bstep hb87 zc.below) _ _ (hc96 q (by first | omega | (simp; omega))).2.2.2.2.1) ⟨_, rfl, rfl, fun _ => rfl⟩
                    refine ⟨.inr (.inl ⟨rfl, rfl, fun za zw zc => ?_⟩), ?_⟩
                    · exact wp_call (by kernel_rfl) rfl (hv2 ((show za.eval (.tmp 98) = za.tmps.getD 98 undef from rfl).trans (valVal2 (zc.dep 0 98 (by kernel_rfl) (by decide)) rfl rfl)) ((show za.eval (.tmp 102) = za.tmps.getD 102 undef from rfl).trans (valVal2 (zc.dep 4 102 (by kernel_rfl) (by decide)) rfl rfl))) (lit_any sA (lget l q) _ _ _ _ (h.pl (by omega)) (h.pr (by omega)) (isLi_mk (IsT.below (bstep hb87 zc.below) (InT.isT (hc96 q (by first | omega | (simp; omega))).2.2.2.2.2.1)) (IsT.below (bstep hb87 zc.below) (InT.isT (hc96 q (by first | omega | (simp; omega))).2.2.2.2.2.2))) (hA.below (bstep hb87 zc.below))) (fun v w' h => ⟨v, rfl, h.2, h.1⟩)
                    refine ⟨.inl ⟨by decide, rfl, fun za zw zc => ?_⟩, ?_⟩
                    · exact wp_move rfl (zc.kn.ev rfl) ⟨_, rfl, rfl, fun _ => rfl⟩
                    refine ⟨.inl ⟨by decide, rfl, fun za zw zc => ?_⟩, ?_⟩
                    · exact wp_move rfl (zc.kn.ev rfl) ⟨_, rfl, rfl, fun _ => rfl⟩
                    refine ⟨.inl ⟨by decide, rfl, fun za zw zc => ?_⟩, ?_⟩
                    · exact wp_move rfl (zc.kn.ev rfl) ⟨_, rfl, rfl, fun _ => rfl⟩
                    refine ⟨.inl ⟨by decide, rfl, fun za zw zc => ?_⟩, ?_⟩
                    · exact ix_42 (k := q) rfl ((show za.eval (.tmp 105) = za.tmps.getD 105 undef from rfl).trans (valVal2 (zc.dep 7 105 (by kernel_rfl) (by decide)) rfl rfl)) (ha95 q (by first | omega | (simp; omega))) ((show za.eval (.tmp 106) = za.tmps.getD 106 undef from rfl).trans (valVal2 (zc.dep 8 106 (by kernel_rfl) (by decide)) rfl rfl)) (by first | omega | (simp; omega)) ⟨_, rfl, rfl, fun _ => rfl⟩
                    refine ⟨.inl ⟨by decide, rfl, fun za zw zc => ?_⟩, ?_⟩
                    · exact ld_44 rfl ((show za.eval (.tmp 107) = za.tmps.getD 107 undef from rfl).trans (valVal2 (zc.dep 9 107 (by kernel_rfl) (by decide)) rfl rfl)) (bkeeps (bstep hb87 zc.below) _ _ (hc96 q (by first | omega | (simp; omega))).1) (bkeeps (bstep hb87 zc.below) _ _ (hc96 q (by first | omega | (simp; omega))).2.1) (bkeeps (bstep hb87 zc.below) _ _ (hc96 q (by first | omega | (simp; omega))).2.2.1) (bkeeps (bstep hb87 zc.below) _ _ (hc96 q (by first | omega | (simp; omega))).2.2.2.1) (bkeeps (bstep hb87 zc.below) _ _ (hc96 q (by first | omega | (simp; omega))).2.2.2.2.1) ⟨_, rfl, rfl, fun _ => rfl⟩
                    refine ⟨.inr (.inr (.inl ⟨rfl, rfl, fun za zw zc => ?_⟩)), ?_⟩
                    · exact wp_call (by kernel_rfl) rfl (hv2 ((show za.eval (.tmp 104) = za.tmps.getD 104 undef from rfl).trans (valVal2 (zc.dep 6 104 (by kernel_rfl) (by decide)) rfl rfl)) ((show za.eval (.tmp 108) = za.tmps.getD 108 undef from rfl).trans (valVal2 (zc.dep 10 108 (by kernel_rfl) (by decide)) rfl rfl))) (rlit_any sA (lget l q) _ _ _ _ (h.pl (by omega)) (h.pr (by omega)) (isLi_mk (IsT.below (bstep hb87 zc.below) (InT.isT (hc96 q (by first | omega | (simp; omega))).2.2.2.2.2.1)) (IsT.below (bstep hb87 zc.below) (InT.isT (hc96 q (by first | omega | (simp; omega))).2.2.2.2.2.2))) (hA.below (bstep hb87 zc.below))) (fun v w' h => ⟨v, rfl, h.2, h.1⟩)
                    refine ⟨.inr (.inr (.inr (.inl ⟨rfl, rfl, fun za zw zc => ?_⟩))), ?_⟩
                    · exact alloc_44 rfl ⟨rfl, rfl⟩
                    refine ⟨.inr (.inr (.inr (.inr (.inl ⟨rfl, rfl, fun za zw zc => ?_⟩)))), ?_⟩
                    · exact alloc_44 rfl ⟨rfl, rfl⟩
                    refine ⟨.inr (.inr (.inr (.inr (.inr (.inl ⟨rfl, rfl, 15, 103, by kernel_rfl, by kernel_rfl, fun za zw g zS zc z1 zB zP => ?_⟩))))), ?_⟩
                    · obtain ⟨a1, a2, c1, c2, e1⟩ := LiIn.parts zP
                      rw [e1]
                      exact st_44 rfl ((show za.eval (.tmp 15) = za.tmps.getD 15 undef from rfl).trans z1) ((show za.eval (.tmp 103) = za.tmps.getD 103 undef from rfl).trans e1) rfl rfl rfl rfl rfl zB (by first | decide | simp) (fun v => ⟨v, rfl, ((((Upd.at_ _ _ _ _).trans (Upd.at_ _ _ _ _)).trans (Upd.at_ _ _ _ _)).trans (Upd.at_ _ _ _ _)).trans (Upd.at_ _ _ _ _), ((((zB.set_ 0 _).set_ 1 _).set_ 2 _).set_ 3 _).set_ 4 _⟩)
                    refine ⟨.inr (.inr (.inr (.inr (.inr (.inr ⟨rfl, rfl, 16, 109, by kernel_rfl, by kernel_rfl, fun za zw g zS zc z1 zB zP => ?_⟩))))), ?_⟩
                    · obtain ⟨a1, a2, c1, c2, e1⟩ := LiIn.parts zP
                      rw [e1]
                      exact st_44 rfl ((show za.eval (.tmp 16) = za.tmps.getD 16 undef from rfl).trans z1) ((show za.eval (.tmp 109) = za.tmps.getD 109 undef from rfl).trans e1) rfl rfl rfl rfl rfl zB (by first | decide | simp) (fun v => ⟨v, rfl, ((((Upd.at_ _ _ _ _).trans (Upd.at_ _ _ _ _)).trans (Upd.at_ _ _ _ _)).trans (Upd.at_ _ _ _ _)).trans (Upd.at_ _ _ _ _), ((((zB.set_ 0 _).set_ 1 _).set_ 2 _).set_ 3 _).set_ 4 _⟩)
                    exact trivial
                  · intro za w97 g98 g99 zv1 zv2 zS1 zS2 zh hb100 hg101 hg102 hne103 hB104 hB105 hp106 hp107 zs1 zs2 za1 za2 zu
                    have hl108 : w.heap.size ≤ g98 := by have z2 := (hb87).size; omega
                    have hl109 : w.heap.size ≤ g99 := by have z2 := (hb87).size; omega
                    obtain ⟨a110, a111, c112, c113, rfl⟩ := LiIn.parts hp106
                    obtain ⟨hq114, hq115⟩ := LiIn.two hp106
                    have hB116 : Blk w97 g98 44 #[.bool (((lget l q).app sA).neg), .int .i64 (((lget l q).app sA).l.f), .slice a110 (((lget l q).app sA).l.args.length) c112, .int .i64 (((lget l q).app sA).r.f), .slice a111 (((lget l q).app sA).r.args.length) c113] := hB104
                    obtain ⟨a117, a118, c119, c120, rfl⟩ := LiIn.parts hp107
                    obtain ⟨hq121, hq122⟩ := LiIn.two hp107
                    have hB123 : Blk w97 g99 44 #[.bool (((lget l q).app sA).neg), .int .i64 (((lget l q).app sA).l.f), .slice a117 (((lget l q).app sA).l.args.length) c119, .int .i64 (((lget l q).app sA).r.f), .slice a118 (((lget l q).app sA).r.args.length) c120] := hB105
                    have zh := zh.cons (d := 15) za1
                    have zh := zh.cons (d := 16) za2
                    clear zu
                    refine (show WE _ [(0, .slice pa sA.length ca), (1, .slice pb sB.length cb), (2, .int .i64 m), (3, .slice a l.length c), (10, .pointer (some ⟨g33, 0, none⟩)), (11, .bool ((subFind sA m).isSome)), (12, .pointer (some ⟨g57, 0, none⟩)), (13, .bool ((subFind sA m).isSome)), (14, .int .i64 (((q : Nat) : Int))), (15, .pointer (some ⟨g98, 0, none⟩)), (16, .pointer (some ⟨g99, 0, none⟩)), (27, .bool ((((largeB sA 300) || (largeB sB 300)) || (decide ((20 : Int) < (((l.length : Nat) : Int) : Int)))))), (30, .int .i64 (((l.length : Nat) : Int))), (31, .int .i64 (((k : Nat) : Int))), (32, .bool ((decide ((((k : Nat) : Int) : Int) < (((l.length : Nat) : Int) : Int))))), (92, .bool ((((((((subCheck sA) : Int) != ((subCheck sA) : Int)) || ((subSame sA sB) != (subSame sA sB))) || (!(subSame sA sA))) || ((subFind sA m).isSome != (subFind sA m).isSome)) || (!(T.same ((subFind sA m).getD (.mk 0 [])) ((subFind sA m).getD (.mk 0 []))))))), (94, .int .i64 (((l.length : Nat) : Int))), (95, .int .i64 (((q : Nat) : Int))), (96, .bool ((decide ((((q : Nat) : Int) : Int) < (((l.length : Nat) : Int) : Int)))))] w97 _ .normal from ?_) za (zh.sub ⟨rfl, rfl, rfl, rfl, rfl, rfl, rfl, rfl, rfl, rfl, rfl, rfl, rfl, rfl, rfl, rfl, rfl, rfl, rfl, trivial⟩)
                    refine WE.next ?_
                    refine WC.seq ?_
                    have hb124 : Below w.heap.size w w97 := (bstep hb87 hb100)
                    refine WC.opt [(true, .val (.agg #[.bool (((lget l q).app sA).neg), .int .i64 (((lget l q).app sA).l.f), .slice a110 (((lget l q).app sA).l.args.length) c112, .int .i64 (((lget l q).app sA).r.f), .slice a111 (((lget l q).app sA).r.args.length) c113])), (true, .mem (fun v w' => OneC w' ((lget l q).app sA) v) (fun v w w' hb h => OneC.below h hb)), (true, .val (.agg #[.bool (((lget l q).app sA).neg), .int .i64 (((lget l q).app sA).l.f), .slice a117 (((lget l q).app sA).l.args.length) c119, .int .i64 (((lget l q).app sA).r.f), .slice a118 (((lget l q).app sA).r.args.length) c120])), (true, .mem (fun v w' => OneC w' ((lget l q).app sA) v) (fun v w w' hb h => OneC.below h hb)), (true, .val (.bool ((clSame [((lget l q).app sA)] [((lget l q).app sA)])))), (true, .val (.bool ((!(clSame [((lget l q).app sA)] [((lget l q).app sA)]))))), (true, .val (.bool ((!(clSame [((lget l q).app sA)] [((lget l q).app sA)]))))), ((true && !(!(clSame [((lget l q).app sA)] [((lget l q).app sA)]))), .val (.slice pa sA.length ca)), ((true && !(!(clSame [((lget l q).app sA)] [((lget l q).app sA)]))), .val (.slice a l.length c)), ((true && !(!(clSame [((lget l q).app sA)] [((lget l q).app sA)]))), .val (.int .i64 (((q : Nat) : Int)))), ((true && !(!(clSame [((lget l q).app sA)] [((lget l q).app sA)]))), .val (.pointer (some ⟨b89, o90 + q * 5, none⟩))), ((true && !(!(clSame [((lget l q).app sA)] [((lget l q).app sA)]))), .val (.pointer (some ⟨b89, o90 + q * 5 + 1, none⟩))), ((true && !(!(clSame [((lget l q).app sA)] [((lget l q).app sA)]))), .val (.agg #[.int .i64 ((lget l q).l.f), .slice ((A91 q)) ((lget l q).l.args.length) ((C92 q))])), ((true && !(!(clSame [((lget l q).app sA)] [((lget l q).app sA)]))), .mem (fun v w' => InT (fun _ => True) w' ((lget l q).l.app sA) v) (fun v w w' hb h => InT.below hb h)), ((true && !(!(clSame [((lget l q).app sA)] [((lget l q).app sA)]))), .val (.pointer (some ⟨g99, 1, none⟩))), ((true && !(!(clSame [((lget l q).app sA)] [((lget l q).app sA)]))), .val (.agg #[.int .i64 (((lget l q).app sA).l.f), .slice a117 (((lget l q).app sA).l.args.length) c119])), ((true && !(!(clSame [((lget l q).app sA)] [((lget l q).app sA)]))), .val (.bool ((T.same ((lget l q).l.app sA) ((lget l q).app sA).l)))), ((true && !(!(clSame [((lget l q).app sA)] [((lget l q).app sA)]))), .val (.bool ((!(T.same ((lget l q).l.app sA) ((lget l q).app sA).l))))), (true, .val (.bool (((!(clSame [((lget l q).app sA)] [((lget l q).app sA)])) || (!(T.same ((lget l q).l.app sA) ((lget l q).app sA).l))))))] [(0, .slice pa sA.length ca), (1, .slice pb sB.length cb), (2, .int .i64 m), (3, .slice a l.length c), (10, .pointer (some ⟨g33, 0, none⟩)), (11, .bool ((subFind sA m).isSome)), (12, .pointer (some ⟨g57, 0, none⟩)), (13, .bool ((subFind sA m).isSome)), (14, .int .i64 (((q : Nat) : Int))), (15, .pointer (some ⟨g98, 0, none⟩)), (16, .pointer (some ⟨g99, 0, none⟩)), (27, .bool ((((largeB sA 300) || (largeB sB 300)) || (decide ((20 : Int) < (((l.length : Nat) : Int) : Int)))))), (30, .int .i64 (((l.length : Nat) : Int))), (31, .int .i64 (((k : Nat) : Int))), (32, .bool ((decide ((((k : Nat) : Int) : Int) < (((l.length : Nat) : Int) : Int))))), (92, .bool ((((((((subCheck sA) : Int) != ((subCheck sA) : Int)) || ((subSame sA sB) != (subSame sA sB))) || (!(subSame sA sA))) || ((subFind sA m).isSome != (subFind sA m).isSome)) || (!(T.same ((subFind sA m).getD (.mk 0 [])) ((subFind sA m).getD (.mk 0 []))))))), (94, .int .i64 (((l.length : Nat) : Int))), (95, .int .i64 (((q : Nat) : Int))), (96, .bool ((decide ((((q : Nat) : Int) : Int) < (((l.length : Nat) : Int) : Int)))))] ⟨rfl, rfl, rfl, rfl, rfl, rfl, rfl, rfl, rfl, rfl, rfl, rfl, rfl, rfl, rfl, rfl, rfl, rfl, rfl, trivial⟩ (by kernel_rfl) (by kernel_rfl) (by kernel_rfl) ?_ ?_
                    · refine ⟨⟨true, .none rfl, fun h w => optUndef h, fun zβ za zw zc => ?_⟩, ?_⟩
                      · exact ld_44 rfl (zc.kn.ev rfl) (bkeeps zc.below _ _ ((hB116.cell 0).trans rfl)) (bkeeps zc.below _ _ ((hB116.cell 1).trans rfl)) (bkeeps zc.below _ _ ((hB116.cell 2).trans rfl)) (bkeeps zc.below _ _ ((hB116.cell 3).trans rfl)) (bkeeps zc.below _ _ ((hB116.cell 4).trans rfl)) ⟨_, rfl, Below.refl _ _, optDef zβ rfl⟩
                      refine ⟨⟨true, .none rfl, fun h w => optUndef h, fun zβ za zw zc => ?_⟩, ?_⟩
                      · exact row_42_1 rfl ((show za.eval (.tmp 110) = za.tmps.getD 110 undef from rfl).trans (optVal (zc.dep 0 110 (by kernel_rfl)) rfl rfl)) ⟨_, rfl, balloc _ _, optDef zβ (oneC_new ((isLi_mk (IsT.below (bstep zc.below (balloc _ _)) (InT.isT hq114)) (IsT.below (bstep zc.below (balloc _ _)) (InT.isT hq115)))))⟩
                      refine ⟨⟨true, .none rfl, fun h w => optUndef h, fun zβ za zw zc => ?_⟩, ?_⟩
                      · exact ld_44 rfl (zc.kn.ev rfl) (bkeeps zc.below _ _ ((hB123.cell 0).trans rfl)) (bkeeps zc.below _ _ ((hB123.cell 1).trans rfl)) (bkeeps zc.below _ _ ((hB123.cell 2).trans rfl)) (bkeeps zc.below _ _ ((hB123.cell 3).trans rfl)) (bkeeps zc.below _ _ ((hB123.cell 4).trans rfl)) ⟨_, rfl, Below.refl _ _, optDef zβ rfl⟩
                      refine ⟨⟨true, .none rfl, fun h w => optUndef h, fun zβ za zw zc => ?_⟩, ?_⟩
                      · exact row_42_1 rfl ((show za.eval (.tmp 112) = za.tmps.getD 112 undef from rfl).trans (optVal (zc.dep 2 112 (by kernel_rfl)) rfl rfl)) ⟨_, rfl, balloc _ _, optDef zβ (oneC_new ((isLi_mk (IsT.below (bstep zc.below (balloc _ _)) (InT.isT hq121)) (IsT.below (bstep zc.below (balloc _ _)) (InT.isT hq122)))))⟩
                      refine ⟨⟨true, .none rfl, fun h w => optUndef h, fun zβ za zw zc => ?_⟩, ?_⟩
                      · exact wp_call (by kernel_rfl) rfl (hv2 (show za.eval (.tmp 111) = za.tmps.getD 111 undef from rfl) (show za.eval (.tmp 113) = za.tmps.getD 113 undef from rfl)) (same_one (optMem (zc.dep 1 111 (by kernel_rfl)) rfl rfl) (optMem (zc.dep 3 113 (by kernel_rfl)) rfl rfl)) (fun v w' h => ⟨v, rfl, h.2, optDef zβ h.1⟩)
                      refine ⟨⟨true, .none rfl, fun h w => optUndef h, fun zβ za zw zc => ?_⟩, ?_⟩
                      · exact wp_not rfl ((show za.eval (.tmp 114) = za.tmps.getD 114 undef from rfl).trans (optVal (zc.dep 4 114 (by kernel_rfl)) rfl rfl)) ⟨_, rfl, Below.refl _ _, optDef zβ rfl⟩
                      refine ⟨⟨true, .none rfl, fun h w => optUndef h, fun zβ za zw zc => ?_⟩, ?_⟩
                      · exact wp_move rfl ((show za.eval (.tmp 115) = za.tmps.getD 115 undef from rfl).trans (optVal (zc.dep 5 115 (by kernel_rfl)) rfl rfl)) ⟨_, rfl, Below.refl _ _, optDef zβ rfl⟩
                      refine ⟨⟨(true && !(!(clSame [((lget l q).app sA)] [((lget l q).app sA)]))), .no (c := (!(clSame [((lget l q).app sA)] [((lget l q).app sA)]))) (d := true) rfl (fun v w h => h), fun h w => optUndef h, fun zβ za zw zc => ?_⟩, ?_⟩
                      · exact wp_move rfl (zc.kn.ev rfl) ⟨_, rfl, Below.refl _ _, optDef zβ rfl⟩
                      refine ⟨⟨(true && !(!(clSame [((lget l q).app sA)] [((lget l q).app sA)]))), .no (c := (!(clSame [((lget l q).app sA)] [((lget l q).app sA)]))) (d := true) rfl (fun v w h => h), fun h w => optUndef h, fun zβ za zw zc => ?_⟩, ?_⟩
                      · exact wp_move rfl (zc.kn.ev rfl) ⟨_, rfl, Below.refl _ _, optDef zβ rfl⟩
                      refine ⟨⟨(true && !(!(clSame [((lget l q).app sA)] [((lget l q).app sA)]))), .no (c := (!(clSame [((lget l q).app sA)] [((lget l q).app sA)]))) (d := true) rfl (fun v w h => h), fun h w => optUndef h, fun zβ za zw zc => ?_⟩, ?_⟩
                      · exact wp_move rfl (zc.kn.ev rfl) ⟨_, rfl, Below.refl _ _, optDef zβ rfl⟩
                      refine ⟨⟨(true && !(!(clSame [((lget l q).app sA)] [((lget l q).app sA)]))), .no (c := (!(clSame [((lget l q).app sA)] [((lget l q).app sA)]))) (d := true) rfl (fun v w h => h), fun h w => optUndef h, fun zβ za zw zc => ?_⟩, ?_⟩
                      · exact ix_42 (k := q) rfl ((show za.eval (.tmp 118) = za.tmps.getD 118 undef from rfl).trans (optVal (zc.dep 8 118 (by kernel_rfl)) rfl zβ)) (ha95 q (by first | omega | (have zz := zβ; simp only [Bool.and_eq_true, Bool.or_eq_true, Bool.true_and, Bool.not_eq_true', Bool.or_eq_false_iff, Bool.and_eq_false_iff, beq_eq_false_iff_ne, ne_eq, beq_iff_eq, decide_eq_true_eq, decide_eq_false_iff_not, bne_iff_ne] at zz; omega))) ((show za.eval (.tmp 119) = za.tmps.getD 119 undef from rfl).trans (optVal (zc.dep 9 119 (by kernel_rfl)) rfl zβ)) (by first | omega | (have zz := zβ; simp only [Bool.and_eq_true, Bool.or_eq_true, Bool.true_and, Bool.not_eq_true', Bool.or_eq_false_iff, Bool.and_eq_false_iff, beq_eq_false_iff_ne, ne_eq, beq_iff_eq, decide_eq_true_eq, decide_eq_false_iff_not, bne_iff_ne] at zz; omega)) ⟨_, rfl, Below.refl _ _, optDef zβ rfl⟩
                      refine ⟨⟨(true && !(!(clSame [((lget l q).app sA)] [((lget l q).app sA)]))), .no (c := (!(clSame [((lget l q).app sA)] [((lget l q).app sA)]))) (d := true) rfl (fun v w h => h), fun h w => optUndef h, fun zβ za zw zc => ?_⟩, ?_⟩
                      · exact fld_44_1 rfl ((show za.eval (.tmp 120) = za.tmps.getD 120 undef from rfl).trans (optVal (zc.dep 10 120 (by kernel_rfl)) rfl zβ)) ⟨_, rfl, Below.refl _ _, optDef zβ rfl⟩
                      refine ⟨⟨(true && !(!(clSame [((lget l q).app sA)] [((lget l q).app sA)]))), .no (c := (!(clSame [((lget l q).app sA)] [((lget l q).app sA)]))) (d := true) rfl (fun v w h => h), fun h w => optUndef h, fun zβ za zw zc => ?_⟩, ?_⟩
                      · exact ld_32 rfl ((show za.eval (.tmp 121) = za.tmps.getD 121 undef from rfl).trans (optVal (zc.dep 11 121 (by kernel_rfl)) rfl zβ)) (bkeeps (bstep hb124 zc.below) _ _ (hc96 q (by first | omega | (have zz := zβ; simp only [Bool.and_eq_true, Bool.or_eq_true, Bool.true_and, Bool.not_eq_true', Bool.or_eq_false_iff, Bool.and_eq_false_iff, beq_eq_false_iff_ne, ne_eq, beq_iff_eq, decide_eq_true_eq, decide_eq_false_iff_not, bne_iff_ne] at zz; omega))).2.1) (bkeeps (bstep hb124 zc.below) _ _ (hc96 q (by first | omega | (have zz := zβ; simp only [Bool.and_eq_true, Bool.or_eq_true, Bool.true_and, Bool.not_eq_true', Bool.or_eq_false_iff, Bool.and_eq_false_iff, beq_eq_false_iff_ne, ne_eq, beq_iff_eq, decide_eq_true_eq, decide_eq_false_iff_not, bne_iff_ne] at zz; omega))).2.2.1) ⟨_, rfl, Below.refl _ _, optDef zβ rfl⟩
                      refine ⟨⟨(true && !(!(clSame [((lget l q).app sA)] [((lget l q).app sA)]))), .no (c := (!(clSame [((lget l q).app sA)] [((lget l q).app sA)]))) (d := true) rfl (fun v w h => h), fun h w => optUndef h, fun zβ za zw zc => ?_⟩, ?_⟩
                      · exact wp_call (by kernel_rfl) rfl (hv2 ((show za.eval (.tmp 117) = za.tmps.getD 117 undef from rfl).trans (optVal (zc.dep 7 117 (by kernel_rfl)) rfl zβ)) ((show za.eval (.tmp 122) = za.tmps.getD 122 undef from rfl).trans (optVal (zc.dep 12 122 (by kernel_rfl)) rfl zβ))) (apply_any sA (lget l q).l _ _ _ _ (h.pl (by omega)) (IsT.below (bstep hb124 zc.below) (InT.isT (hc96 q (by first | omega | (have zz := zβ; simp only [Bool.and_eq_true, Bool.or_eq_true, Bool.true_and, Bool.not_eq_true', Bool.or_eq_false_iff, Bool.and_eq_false_iff, beq_eq_false_iff_ne, ne_eq, beq_iff_eq, decide_eq_true_eq, decide_eq_false_iff_not, bne_iff_ne] at zz; omega))).2.2.2.2.2.1)) (hA.below (bstep hb124 zc.below))) (fun v w' h => ⟨v, rfl, h.2, optDef zβ (InT.mono (fun _ _ _ => trivial) h.1)⟩)
                      refine ⟨⟨(true && !(!(clSame [((lget l q).app sA)] [((lget l q).app sA)]))), .no (c := (!(clSame [((lget l q).app sA)] [((lget l q).app sA)]))) (d := true) rfl (fun v w h => h), fun h w => optUndef h, fun zβ za zw zc => ?_⟩, ?_⟩
                      · exact fld_44_1 rfl (zc.kn.ev rfl) ⟨_, rfl, Below.refl _ _, optDef zβ rfl⟩
                      refine ⟨⟨(true && !(!(clSame [((lget l q).app sA)] [((lget l q).app sA)]))), .no (c := (!(clSame [((lget l q).app sA)] [((lget l q).app sA)]))) (d := true) rfl (fun v w h => h), fun h w => optUndef h, fun zβ za zw zc => ?_⟩, ?_⟩
                      · exact ld_32 rfl ((show za.eval (.tmp 124) = za.tmps.getD 124 undef from rfl).trans (optVal (zc.dep 14 124 (by kernel_rfl)) rfl zβ)) (bkeeps zc.below _ _ ((hB123.cell 1).trans rfl)) (bkeeps zc.below _ _ ((hB123.cell 2).trans rfl)) ⟨_, rfl, Below.refl _ _, optDef zβ rfl⟩
                      refine ⟨⟨(true && !(!(clSame [((lget l q).app sA)] [((lget l q).app sA)]))), .no (c := (!(clSame [((lget l q).app sA)] [((lget l q).app sA)]))) (d := true) rfl (fun v w h => h), fun h w => optUndef h, fun zβ za zw zc => ?_⟩, ?_⟩
                      · exact wp_call (by kernel_rfl) rfl (hv2 (show za.eval (.tmp 123) = za.tmps.getD 123 undef from rfl) ((show za.eval (.tmp 125) = za.tmps.getD 125 undef from rfl).trans (optVal (zc.dep 15 125 (by kernel_rfl)) rfl zβ))) (ret_of (rsame_any ((lget l q).l.app sA) ((lget l q).app sA).l _ _ _ (InT.isT (optMem (zc.dep 13 123 (by kernel_rfl)) rfl zβ)) (IsT.below zc.below (InT.isT hq121)))) (fun v w' h => ⟨v, rfl, h.2, optDef zβ h.1⟩)
                      refine ⟨⟨(true && !(!(clSame [((lget l q).app sA)] [((lget l q).app sA)]))), .no (c := (!(clSame [((lget l q).app sA)] [((lget l q).app sA)]))) (d := true) rfl (fun v w h => h), fun h w => optUndef h, fun zβ za zw zc => ?_⟩, ?_⟩
                      · exact wp_not rfl ((show za.eval (.tmp 126) = za.tmps.getD 126 undef from rfl).trans (optVal (zc.dep 16 126 (by kernel_rfl)) rfl zβ)) ⟨_, rfl, Below.refl _ _, optDef zβ rfl⟩
                      refine ⟨⟨true, .none rfl, fun h w => optUndef h, fun zβ za zw zc => ?_⟩, ?_⟩
                      · exact wp_or rfl ((show za.eval (.tmp 116) = za.tmps.getD 116 undef from rfl).trans (optVal (zc.dep 6 116 (by kernel_rfl)) rfl rfl)) (fun hp => ((show za.eval (.tmp 127) = za.tmps.getD 127 undef from rfl).trans (optVal (zc.dep 17 127 (by kernel_rfl)) rfl (bMkN zβ hp)))) ⟨_, rfl, Below.refl _ _, optDef zβ rfl⟩
                      exact trivial
                    · intro za w125 zh hb126 zu
                      have zh := zh.cons (d := 128) (v := .bool (((!(clSame [((lget l q).app sA)] [((lget l q).app sA)])) || (!(T.same ((lget l q).l.app sA) ((lget l q).app sA).l))))) (optVal (zu 18 128 (by kernel_rfl)) rfl rfl)
                      clear zu
                      refine (show WE _ [(0, .slice pa sA.length ca), (1, .slice pb sB.length cb), (2, .int .i64 m), (3, .slice a l.length c), (10, .pointer (some ⟨g33, 0, none⟩)), (11, .bool ((subFind sA m).isSome)), (12, .pointer (some ⟨g57, 0, none⟩)), (13, .bool ((subFind sA m).isSome)), (14, .int .i64 (((q : Nat) : Int))), (15, .pointer (some ⟨g98, 0, none⟩)), (16, .pointer (some ⟨g99, 0, none⟩)), (27, .bool ((((largeB sA 300) || (largeB sB 300)) || (decide ((20 : Int) < (((l.length : Nat) : Int) : Int)))))), (30, .int .i64 (((l.length : Nat) : Int))), (31, .int .i64 (((k : Nat) : Int))), (32, .bool ((decide ((((k : Nat) : Int) : Int) < (((l.length : Nat) : Int) : Int))))), (92, .bool ((((((((subCheck sA) : Int) != ((subCheck sA) : Int)) || ((subSame sA sB) != (subSame sA sB))) || (!(subSame sA sA))) || ((subFind sA m).isSome != (subFind sA m).isSome)) || (!(T.same ((subFind sA m).getD (.mk 0 [])) ((subFind sA m).getD (.mk 0 []))))))), (94, .int .i64 (((l.length : Nat) : Int))), (95, .int .i64 (((q : Nat) : Int))), (96, .bool ((decide ((((q : Nat) : Int) : Int) < (((l.length : Nat) : Int) : Int))))), (128, .bool (((!(clSame [((lget l q).app sA)] [((lget l q).app sA)])) || (!(T.same ((lget l q).l.app sA) ((lget l q).app sA).l)))))] w125 _ .normal from ?_) za (zh.sub ⟨rfl, rfl, rfl, rfl, rfl, rfl, rfl, rfl, rfl, rfl, rfl, rfl, rfl, rfl, rfl, rfl, rfl, rfl, rfl, rfl, trivial⟩)
                      refine WE.next ?_
                      refine WC.cond rfl (fun h127 => ?_) (fun h127 => ?_)
                      · have h127 : (¬ ((clSame [((lget l q).app sA)] [((lget l q).app sA)]) = true)) ∨ (¬ ((T.same ((lget l q).l.app sA) ((lget l q).app sA).l) = true)) := by simpa using h127
                        refine WC.seq ?_
                        refine WC.region ?_
                        refine WL.val (.bool false) rfl rfl rfl (fun za zC zh zk => wp_assign rfl (zh.ev rfl) zk) ?_
                        refine WL.nil (WE.sub (K' := [(0, .slice pa sA.length ca), (1, .slice pb sB.length cb), (2, .int .i64 m), (3, .slice a l.length c), (8, .bool false), (10, .pointer (some ⟨g33, 0, none⟩)), (11, .bool ((subFind sA m).isSome)), (12, .pointer (some ⟨g57, 0, none⟩)), (13, .bool ((subFind sA m).isSome)), (14, .int .i64 (((q : Nat) : Int))), (15, .pointer (some ⟨g98, 0, none⟩)), (16, .pointer (some ⟨g99, 0, none⟩)), (27, .bool ((((largeB sA 300) || (largeB sB 300)) || (decide ((20 : Int) < (((l.length : Nat) : Int) : Int)))))), (30, .int .i64 (((l.length : Nat) : Int))), (31, .int .i64 (((k : Nat) : Int))), (32, .bool ((decide ((((k : Nat) : Int) : Int) < (((l.length : Nat) : Int) : Int))))), (92, .bool ((((((((subCheck sA) : Int) != ((subCheck sA) : Int)) || ((subSame sA sB) != (subSame sA sB))) || (!(subSame sA sA))) || ((subFind sA m).isSome != (subFind sA m).isSome)) || (!(T.same ((subFind sA m).getD (.mk 0 [])) ((subFind sA m).getD (.mk 0 []))))))), (94, .int .i64 (((l.length : Nat) : Int))), (95, .int .i64 (((q : Nat) : Int))), (96, .bool ((decide ((((q : Nat) : Int) : Int) < (((l.length : Nat) : Int) : Int))))), (128, .bool (((!(clSame [((lget l q).app sA)] [((lget l q).app sA)])) || (!(T.same ((lget l q).l.app sA) ((lget l q).app sA).l)))))]) ⟨rfl, rfl, rfl, rfl, rfl, rfl, rfl, rfl, rfl, rfl, rfl, rfl, rfl, rfl, rfl, rfl, rfl, rfl, rfl, rfl, rfl, trivial⟩ ?_)
                        refine WE.next ?_
                        refine WC.ret ?_
                        refine WE.blockRet ?_
                        refine WE.thenRet ?_
                        refine WE.thenRet ?_
                        refine WE.blockRet ?_
                        refine WE.thenRet ?_
                        refine WE.ret1 rfl rfl ?_
                        exfalso
                        have z := h127
                        simp [T.same_refl, subSame, clSame, Li.app] at z
                      · have h127 : ¬ ((¬ ((clSame [((lget l q).app sA)] [((lget l q).app sA)]) = true)) ∨ (¬ ((T.same ((lget l q).l.app sA) ((lget l q).app sA).l) = true))) := by simpa using h127
                        refine WC.skip ?_
                        refine WE.blockNormal ?_
                        refine WE.next ?_
                        refine WC.region ?_
                        refine WL.val (.int .i64 ((((q + 1) : Nat) : Int))) rfl rfl rfl (fun za zC zh zk => addb_3 rfl (zh.ev rfl) (zh.ev rfl) (wrap_eq (by omega) (by omega) (by omega)) zk) ?_
                        refine WL.val (.int .i64 ((((q + 1) : Nat) : Int))) rfl rfl rfl (fun za zC zh zk => wp_move rfl (zh.ev rfl) zk) ?_
                        refine WL.nil (WE.sub (K' := [(0, .slice pa sA.length ca), (1, .slice pb sB.length cb), (2, .int .i64 m), (3, .slice a l.length c), (10, .pointer (some ⟨g33, 0, none⟩)), (11, .bool ((subFind sA m).isSome)), (12, .pointer (some ⟨g57, 0, none⟩)), (13, .bool ((subFind sA m).isSome)), (14, .int .i64 (((q : Nat) : Int))), (15, .pointer (some ⟨g98, 0, none⟩)), (16, .pointer (some ⟨g99, 0, none⟩)), (27, .bool ((((largeB sA 300) || (largeB sB 300)) || (decide ((20 : Int) < (((l.length : Nat) : Int) : Int)))))), (30, .int .i64 (((l.length : Nat) : Int))), (31, .int .i64 (((k : Nat) : Int))), (32, .bool ((decide ((((k : Nat) : Int) : Int) < (((l.length : Nat) : Int) : Int))))), (92, .bool ((((((((subCheck sA) : Int) != ((subCheck sA) : Int)) || ((subSame sA sB) != (subSame sA sB))) || (!(subSame sA sA))) || ((subFind sA m).isSome != (subFind sA m).isSome)) || (!(T.same ((subFind sA m).getD (.mk 0 [])) ((subFind sA m).getD (.mk 0 []))))))), (94, .int .i64 (((l.length : Nat) : Int))), (95, .int .i64 ((((q + 1) : Nat) : Int))), (96, .bool ((decide ((((q : Nat) : Int) : Int) < (((l.length : Nat) : Int) : Int))))), (128, .bool (((!(clSame [((lget l q).app sA)] [((lget l q).app sA)])) || (!(T.same ((lget l q).l.app sA) ((lget l q).app sA).l)))))]) ⟨rfl, rfl, rfl, rfl, rfl, rfl, rfl, rfl, rfl, rfl, rfl, rfl, rfl, rfl, rfl, rfl, rfl, rfl, rfl, rfl, trivial⟩ ?_)
                        refine WE.round (q + 1) ⟨rfl, rfl, rfl, rfl, rfl, rfl, rfl, rfl, rfl, rfl, rfl, rfl, rfl, rfl, rfl, trivial⟩ ?_ ?_
                        · have hb128 : Below w.heap.size w w125 := (bstep hb124 hb126)
                          exact ⟨by omega, hb128⟩
                        · omega
                · have h88 : ¬ ((((q : Nat) : Int) : Int) < (((l.length : Nat) : Int) : Int)) := by simpa using h88
                  refine WC.exit ?_
                  refine WE.thenExit ?_
                  refine WE.thenExit ?_
                  refine WE.blockIs rfl ?_
                  refine WE.next ?_
                  refine WC.seq ?_
                  refine WC.opt [(true, .val (.slice pa sA.length ca)), (true, .val (.slice a l.length c)), (true, .mem (fun v w' => ClV w' (l.map (Li.app sA)) v) (fun v w w' hb h => ClV.below h hb)), (true, .val (.slice pa sA.length ca)), (true, .val (.slice a l.length c)), (true, .mem (fun v w' => ClV w' (l.map (Li.app sA)) v) (fun v w w' hb h => ClV.below h hb)), (true, .val (.bool ((clSame (l.map (Li.app sA)) (l.map (Li.app sA)))))), (true, .val (.bool ((clSame (l.map (Li.app sA)) (l.map (Li.app sA)))))), ((true && (clSame (l.map (Li.app sA)) (l.map (Li.app sA)))), .val (.bool true)), (true, .val (.bool (((clSame (l.map (Li.app sA)) (l.map (Li.app sA))) && true)))), (true, .val (.bool (((clSame (l.map (Li.app sA)) (l.map (Li.app sA))) && true))))] [(0, .slice pa sA.length ca), (1, .slice pb sB.length cb), (2, .int .i64 m), (3, .slice a l.length c), (10, .pointer (some ⟨g33, 0, none⟩)), (11, .bool ((subFind sA m).isSome)), (12, .pointer (some ⟨g57, 0, none⟩)), (13, .bool ((subFind sA m).isSome)), (27, .bool ((((largeB sA 300) || (largeB sB 300)) || (decide ((20 : Int) < (((l.length : Nat) : Int) : Int)))))), (30, .int .i64 (((l.length : Nat) : Int))), (31, .int .i64 (((k : Nat) : Int))), (32, .bool ((decide ((((k : Nat) : Int) : Int) < (((l.length : Nat) : Int) : Int))))), (92, .bool ((((((((subCheck sA) : Int) != ((subCheck sA) : Int)) || ((subSame sA sB) != (subSame sA sB))) || (!(subSame sA sA))) || ((subFind sA m).isSome != (subFind sA m).isSome)) || (!(T.same ((subFind sA m).getD (.mk 0 [])) ((subFind sA m).getD (.mk 0 []))))))), (94, .int .i64 (((l.length : Nat) : Int))), (95, .int .i64 (((q : Nat) : Int))), (96, .bool ((decide ((((q : Nat) : Int) : Int) < (((l.length : Nat) : Int) : Int)))))] ⟨rfl, rfl, rfl, rfl, rfl, rfl, rfl, rfl, rfl, rfl, rfl, rfl, rfl, rfl, rfl, rfl, trivial⟩ (by kernel_rfl) (by kernel_rfl) (by kernel_rfl) ?_ ?_
                  · refine ⟨⟨true, .none rfl, fun h w => optUndef h, fun zβ za zw zc => ?_⟩, ?_⟩
                    · exact wp_move rfl (zc.kn.ev rfl) ⟨_, rfl, Below.refl _ _, optDef zβ rfl⟩
                    refine ⟨⟨true, .none rfl, fun h w => optUndef h, fun zβ za zw zc => ?_⟩, ?_⟩
                    · exact wp_move rfl (zc.kn.ev rfl) ⟨_, rfl, Below.refl _ _, optDef zβ rfl⟩
                    refine ⟨⟨true, .none rfl, fun h w => optUndef h, fun zβ za zw zc => ?_⟩, ?_⟩
                    · exact wp_call (by kernel_rfl) rfl (hv2 ((show za.eval (.tmp 130) = za.tmps.getD 130 undef from rfl).trans (optVal (zc.dep 0 130 (by kernel_rfl)) rfl rfl)) ((show za.eval (.tmp 131) = za.tmps.getD 131 undef from rfl).trans (optVal (zc.dep 1 131 (by kernel_rfl)) rfl rfl))) (clause_any sA l _ _ _ _ _ (hA.below (bstep hb87 zc.below)) (h.below (bstep hb87 zc.below)) (by omega)) (fun v w' h => ⟨v, rfl, h.2, optDef zβ (clV_new h.1)⟩)
                    refine ⟨⟨true, .none rfl, fun h w => optUndef h, fun zβ za zw zc => ?_⟩, ?_⟩
                    · exact wp_move rfl (zc.kn.ev rfl) ⟨_, rfl, Below.refl _ _, optDef zβ rfl⟩
                    refine ⟨⟨true, .none rfl, fun h w => optUndef h, fun zβ za zw zc => ?_⟩, ?_⟩
                    · exact wp_move rfl (zc.kn.ev rfl) ⟨_, rfl, Below.refl _ _, optDef zβ rfl⟩
                    refine ⟨⟨true, .none rfl, fun h w => optUndef h, fun zβ za zw zc => ?_⟩, ?_⟩
                    · exact wp_call (by kernel_rfl) rfl (hv2 ((show za.eval (.tmp 133) = za.tmps.getD 133 undef from rfl).trans (optVal (zc.dep 3 133 (by kernel_rfl)) rfl rfl)) ((show za.eval (.tmp 134) = za.tmps.getD 134 undef from rfl).trans (optVal (zc.dep 4 134 (by kernel_rfl)) rfl rfl))) (rclause_any sA l _ _ _ _ _ (hA.below (bstep hb87 zc.below)) (h.below (bstep hb87 zc.below)) (by omega)) (fun v w' h => ⟨v, rfl, h.2, optDef zβ (clV_new h.1)⟩)
                    refine ⟨⟨true, .none rfl, fun h w => optUndef h, fun zβ za zw zc => ?_⟩, ?_⟩
                    · exact wp_call (by kernel_rfl) rfl (hv2 (show za.eval (.tmp 132) = za.tmps.getD 132 undef from rfl) (show za.eval (.tmp 135) = za.tmps.getD 135 undef from rfl)) (same_new (by rw [List.length_map]; unfold maxLen; omega) (optMem (zc.dep 2 132 (by kernel_rfl)) rfl rfl) (optMem (zc.dep 5 135 (by kernel_rfl)) rfl rfl)) (fun v w' h => ⟨v, rfl, h.2, optDef zβ h.1⟩)
                    refine ⟨⟨true, .none rfl, fun h w => optUndef h, fun zβ za zw zc => ?_⟩, ?_⟩
                    · exact wp_move rfl ((show za.eval (.tmp 136) = za.tmps.getD 136 undef from rfl).trans (optVal (zc.dep 6 136 (by kernel_rfl)) rfl rfl)) ⟨_, rfl, Below.refl _ _, optDef zβ rfl⟩
                    refine ⟨⟨(true && (clSame (l.map (Li.app sA)) (l.map (Li.app sA)))), .yes (c := (clSame (l.map (Li.app sA)) (l.map (Li.app sA)))) (d := true) rfl (fun v w h => h), fun h w => optUndef h, fun zβ za zw zc => ?_⟩, ?_⟩
                    · exact wp_call (by kernel_rfl) rfl (hv0) (wakes_any _) (fun v w' h => ⟨v, rfl, h.2, optDef zβ h.1⟩)
                    refine ⟨⟨true, .none rfl, fun h w => optUndef h, fun zβ za zw zc => ?_⟩, ?_⟩
                    · exact wp_and rfl ((show za.eval (.tmp 137) = za.tmps.getD 137 undef from rfl).trans (optVal (zc.dep 7 137 (by kernel_rfl)) rfl rfl)) (fun hp => ((show za.eval (.tmp 138) = za.tmps.getD 138 undef from rfl).trans (optVal (zc.dep 8 138 (by kernel_rfl)) rfl (bMk zβ hp)))) ⟨_, rfl, Below.refl _ _, optDef zβ rfl⟩
                    refine ⟨⟨true, .none rfl, fun h w => optUndef h, fun zβ za zw zc => ?_⟩, ?_⟩
                    · exact wp_assign rfl ((show za.eval (.tmp 139) = za.tmps.getD 139 undef from rfl).trans (optVal (zc.dep 9 139 (by kernel_rfl)) rfl rfl)) ⟨_, rfl, Below.refl _ _, optDef zβ rfl⟩
                    exact trivial
                  · intro za w129 zh hb130 zu
                    have zh := zh.cons (d := 8) (v := .bool (((clSame (l.map (Li.app sA)) (l.map (Li.app sA))) && true))) (optVal (zu 10 8 (by kernel_rfl)) rfl rfl)
                    clear zu
                    refine (show WE _ [(0, .slice pa sA.length ca), (1, .slice pb sB.length cb), (2, .int .i64 m), (3, .slice a l.length c), (8, .bool (((clSame (l.map (Li.app sA)) (l.map (Li.app sA))) && true))), (10, .pointer (some ⟨g33, 0, none⟩)), (11, .bool ((subFind sA m).isSome)), (12, .pointer (some ⟨g57, 0, none⟩)), (13, .bool ((subFind sA m).isSome)), (27, .bool ((((largeB sA 300) || (largeB sB 300)) || (decide ((20 : Int) < (((l.length : Nat) : Int) : Int)))))), (30, .int .i64 (((l.length : Nat) : Int))), (31, .int .i64 (((k : Nat) : Int))), (32, .bool ((decide ((((k : Nat) : Int) : Int) < (((l.length : Nat) : Int) : Int))))), (92, .bool ((((((((subCheck sA) : Int) != ((subCheck sA) : Int)) || ((subSame sA sB) != (subSame sA sB))) || (!(subSame sA sA))) || ((subFind sA m).isSome != (subFind sA m).isSome)) || (!(T.same ((subFind sA m).getD (.mk 0 [])) ((subFind sA m).getD (.mk 0 []))))))), (94, .int .i64 (((l.length : Nat) : Int))), (95, .int .i64 (((q : Nat) : Int))), (96, .bool ((decide ((((q : Nat) : Int) : Int) < (((l.length : Nat) : Int) : Int)))))] w129 _ .normal from ?_) za (zh.sub ⟨rfl, rfl, rfl, rfl, rfl, rfl, rfl, rfl, rfl, rfl, rfl, rfl, rfl, rfl, rfl, rfl, rfl, trivial⟩)
                    refine WE.next ?_
                    refine WC.ret ?_
                    refine WE.ret1 rfl rfl ?_
                    have hb131 : Below w.heap.size w w129 := (bstep hb87 hb130)
                    exact ⟨_, rfl, congrArg Value.bool (by simp [clSame]), hb131⟩

end Go.Proofs.Ytgechlgdnnpoeaa
