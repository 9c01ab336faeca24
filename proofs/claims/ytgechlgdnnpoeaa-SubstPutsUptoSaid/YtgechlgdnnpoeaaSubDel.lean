/- What is itself is taken out of a row of bindings: slices.DeleteFunc. -/
import Derived.Test.YtgechlgdnnpoeaaSubFind
import Derived.Test.YtgechlgdnnpoeaaBdClear
import Derived.Test.YtgechlgdnnpoeaaKOps2
import Derived.Test.YtgechlgdnnpoeaaBdCmp
namespace Go.Proofs.Ytgechlgdnnpoeaa
open Go.RowKit Go

/-- Where the first one is that is itself; -1: nowhere. -/
def IdxOf (l : List Bd) (r : Int) : Prop := (r = -1 ∧ ∀ k, k < l.length → (dget l k).itself = false) ∨ (∃ i : Nat, r = i ∧ i < l.length ∧ (dget l i).itself = true ∧ ∀ k, k < i → (dget l k).itself = false)
theorem no_step {l : List Bd} {k : Nat} (h : ∀ i, i < k → (dget l i).itself = false) (hk : ¬ (dget l k).itself = true) : ∀ i, i < k + 1 → (dget l i).itself = false := fun i hi => by
  rcases Nat.lt_or_ge i k with q | q
  · exact h i q
  · obtain rfl : i = k := by omega
    exact Bool.eq_false_iff.2 hk
set_option maxRecDepth 100000 in
theorem index_any (l : List Bd) (n : Nat) (hn : n = l.length) (w : World) (a : Option Addr) (c : Nat) (hz : l.length ≤ 4294967296) (hl : IsBs w l a) : Calls Try.prog 65 #[.slice a n c, .func (.func 40) #[] #[]] w (Ret fun v' w' => (∃ r : Int, v' = .int .i64 r ∧ IdxOf l r) ∧ Below w.heap.size w w') := by
  subst hn
  refine Calls.walk (l := [.slice a l.length c, .func (.func 40) #[] #[]]) Try.func65 rfl (by kernel_rfl) ?_
  refine WC.sub (K' := [(0, .slice a l.length c), (1, .func (.func 40) #[] #[])]) ⟨rfl, rfl, trivial⟩ ?_
  refine WC.seq ?_
  refine WC.region ?_
  refine WL.val (.int .i64 0) rfl rfl rfl (fun za zC zh zk => wp_assign rfl (zh.ev rfl) zk) ?_
  refine WL.nil (WE.sub (K' := [(0, .slice a l.length c), (1, .func (.func 40) #[] #[]), (4, .int .i64 0)]) ⟨rfl, rfl, rfl, trivial⟩ ?_)
  refine WE.next ?_
  refine WC.seq ?_
  refine WC.seq ?_
  refine WC.region ?_
  refine WL.val (.slice a l.length c) rfl rfl rfl (fun za zC zh zk => wp_move rfl (zh.ev rfl) zk) ?_
  refine WL.val (.int .i64 (((l.length : Nat) : Int))) rfl rfl rfl (fun za zC zh zk => len_23 rfl (zh.ev rfl) zk) ?_
  refine WL.val (.int .i64 0) rfl rfl rfl (fun za zC zh zk => wp_move rfl (zh.ev rfl) zk) ?_
  refine WL.nil (WE.sub (K' := [(0, .slice a l.length c), (1, .func (.func 40) #[] #[]), (4, .int .i64 0), (7, .int .i64 (((l.length : Nat) : Int))), (8, .int .i64 0)]) ⟨rfl, rfl, rfl, rfl, rfl, trivial⟩ ?_)
  refine WE.next ?_
  refine WC.block ?_
  refine WC.loop (X := Nat) (fun k => l.length - k) (fun k => [(0, .slice a l.length c), (1, .func (.func 40) #[] #[]), (7, .int .i64 (((l.length : Nat) : Int))), (8, .int .i64 (((k : Nat) : Int)))]) (fun k w1 => k ≤ l.length ∧ (∀ i, i < k → (dget l i).itself = false) ∧ Below w.heap.size w w1) 0 ⟨rfl, rfl, rfl, rfl, trivial⟩ ?_ ?_
  · exact ⟨Nat.zero_le _, fun i h => absurd h (Nat.not_lt_zero i), (Below.refl _ _)⟩
  · rintro k w1 ⟨hk, hne, hb2⟩
    refine WC.seq ?_
    refine WC.region ?_
    refine WL.val (.bool ((decide ((((k : Nat) : Int) : Int) < (((l.length : Nat) : Int) : Int))))) rfl rfl rfl (fun za zC zh zk => lss_3 rfl (zh.ev rfl) (zh.ev rfl) zk) ?_
    refine WL.nil (WE.sub (K' := [(0, .slice a l.length c), (1, .func (.func 40) #[] #[]), (7, .int .i64 (((l.length : Nat) : Int))), (8, .int .i64 (((k : Nat) : Int))), (9, .bool ((decide ((((k : Nat) : Int) : Int) < (((l.length : Nat) : Int) : Int)))))]) ⟨rfl, rfl, rfl, rfl, rfl, trivial⟩ ?_)
    refine WE.next ?_
    refine WC.seq ?_
    refine WC.cond rfl (fun h3 => ?_) (fun h3 => ?_)
    · have h3 : (((k : Nat) : Int) : Int) < (((l.length : Nat) : Int) : Int) := by simpa using h3
      refine WC.skip ?_
      refine WE.next ?_
      refine WC.seq ?_
      refine WC.block ?_
      refine WC.seq ?_
      refine WC.region ?_
      refine WL.val (.int .i64 (((k : Nat) : Int))) rfl rfl rfl (fun za zC zh zk => wp_move rfl (zh.ev rfl) zk) ?_
      refine WL.val (.int .i64 (((k : Nat) : Int))) rfl rfl rfl (fun za zC zh zk => wp_assign rfl (zh.ev rfl) zk) ?_
      refine WL.nil (WE.sub (K' := [(0, .slice a l.length c), (1, .func (.func 40) #[] #[]), (5, .int .i64 (((k : Nat) : Int))), (7, .int .i64 (((l.length : Nat) : Int))), (8, .int .i64 (((k : Nat) : Int))), (9, .bool ((decide ((((k : Nat) : Int) : Int) < (((l.length : Nat) : Int) : Int)))))]) ⟨rfl, rfl, rfl, rfl, rfl, rfl, trivial⟩ ?_)
      refine WE.next ?_
      refine WC.seq ?_
      refine WC.region ?_
      refine WL.val (.func (.func 40) #[] #[]) rfl rfl rfl (fun za zC zh zk => wp_move rfl (zh.ev rfl) zk) ?_
      refine WL.val (.slice a l.length c) rfl rfl rfl (fun za zC zh zk => wp_move rfl (zh.ev rfl) zk) ?_
      refine WL.val (.int .i64 (((k : Nat) : Int))) rfl rfl rfl (fun za zC zh zk => wp_move rfl (zh.ev rfl) zk) ?_
      obtain ⟨b4, o5, A6, C7, ha8, hc9⟩ := InRow.openB hl
      refine WL.val (.pointer (some ⟨b4, o5 + k * 3, none⟩)) rfl rfl rfl (fun za zC zh zk => ix_23 (k := k) rfl (zh.ev rfl) (ha8 k (by first | omega | (simp; omega))) (zh.ev rfl) (by first | omega | (simp; omega)) zk) ?_
      refine WL.val (.agg #[.int .i64 ((dget l k).var), .int .i64 ((dget l k).t.f), .slice ((A6 k)) ((dget l k).t.args.length) ((C7 k))]) rfl rfl rfl (fun za zC zh zk => ld_56 rfl (zh.ev rfl) (bkeeps hb2 _ _ (hc9 k (by first | omega | (simp; omega))).1) (bkeeps hb2 _ _ (hc9 k (by first | omega | (simp; omega))).2.1) (bkeeps hb2 _ _ (hc9 k (by first | omega | (simp; omega))).2.2.1) zk) ?_
      refine WL.call rfl rfl rfl (fun za zh zC => wp_callv (by kernel_rfl) rfl (zh.ev rfl) (hv1 (zh.ev rfl))) (itself_any (dget l k) _ _ (IsBd.below hb2 ⟨_, _, rfl, (hc9 k (by first | omega | (simp; omega))).2.2.2.2, (InT.isT (hc9 k (by first | omega | (simp; omega))).2.2.2.1)⟩)) ?_
      rintro _ w11 ⟨rfl, hbi10⟩
      refine WL.nil (WE.sub (K' := [(0, .slice a l.length c), (1, .func (.func 40) #[] #[]), (5, .int .i64 (((k : Nat) : Int))), (7, .int .i64 (((l.length : Nat) : Int))), (8, .int .i64 (((k : Nat) : Int))), (9, .bool ((decide ((((k : Nat) : Int) : Int) < (((l.length : Nat) : Int) : Int))))), (16, .bool ((dget l k).itself))]) ⟨rfl, rfl, rfl, rfl, rfl, rfl, rfl, trivial⟩ ?_)
      refine WE.next ?_
      refine WC.cond rfl (fun h12 => ?_) (fun h12 => ?_)
      · skip
        refine WC.seq ?_
        refine WC.region ?_
        refine WL.val (.int .i64 (((k : Nat) : Int))) rfl rfl rfl (fun za zC zh zk => wp_move rfl (zh.ev rfl) zk) ?_
        refine WL.val (.int .i64 (((k : Nat) : Int))) rfl rfl rfl (fun za zC zh zk => wp_assign rfl (zh.ev rfl) zk) ?_
        refine WL.nil (WE.sub (K' := [(0, .slice a l.length c), (1, .func (.func 40) #[] #[]), (4, .int .i64 (((k : Nat) : Int))), (5, .int .i64 (((k : Nat) : Int))), (7, .int .i64 (((l.length : Nat) : Int))), (8, .int .i64 (((k : Nat) : Int))), (9, .bool ((decide ((((k : Nat) : Int) : Int) < (((l.length : Nat) : Int) : Int))))), (16, .bool ((dget l k).itself))]) ⟨rfl, rfl, rfl, rfl, rfl, rfl, rfl, rfl, trivial⟩ ?_)
        refine WE.next ?_
        refine WC.ret ?_
        refine WE.blockRet ?_
        refine WE.thenRet ?_
        refine WE.thenRet ?_
        refine WE.blockRet ?_
        refine WE.thenRet ?_
        refine WE.ret1 rfl rfl ?_
        have hb13 : Below w.heap.size w w11 := (bstep hb2 hbi10)
        exact ⟨_, rfl, ⟨_, rfl, .inr ⟨k, rfl, by omega, h12, hne⟩⟩, hb13⟩
      · skip
        refine WC.skip ?_
        refine WE.blockNormal ?_
        refine WE.next ?_
        refine WC.region ?_
        refine WL.val (.int .i64 ((((k + 1) : Nat) : Int))) rfl rfl rfl (fun za zC zh zk => addb_3 rfl (zh.ev rfl) (zh.ev rfl) (wrap_eq (by omega) (by omega) (by omega)) zk) ?_
        refine WL.val (.int .i64 ((((k + 1) : Nat) : Int))) rfl rfl rfl (fun za zC zh zk => wp_move rfl (zh.ev rfl) zk) ?_
        refine WL.nil (WE.sub (K' := [(0, .slice a l.length c), (1, .func (.func 40) #[] #[]), (5, .int .i64 (((k : Nat) : Int))), (7, .int .i64 (((l.length : Nat) : Int))), (8, .int .i64 ((((k + 1) : Nat) : Int))), (9, .bool ((decide ((((k : Nat) : Int) : Int) < (((l.length : Nat) : Int) : Int))))), (16, .bool ((dget l k).itself))]) ⟨rfl, rfl, rfl, rfl, rfl, rfl, rfl, trivial⟩ ?_)
        refine WE.round (k + 1) ⟨rfl, rfl, rfl, rfl, trivial⟩ ?_ ?_
        · have hb14 : Below w.heap.size w w11 := (bstep hb2 hbi10)
          exact ⟨by omega, no_step hne (by simpa using h12), hb14⟩
        · omega
    · have h3 : ¬ ((((k : Nat) : Int) : Int) < (((l.length : Nat) : Int) : Int)) := by simpa using h3
      refine WC.exit ?_
      refine WE.thenExit ?_
      refine WE.thenExit ?_
      refine WE.blockIs rfl ?_
      refine WE.next ?_
      refine WC.seq ?_
      refine WC.region ?_
      refine WL.val (.int .i64 ((-1))) rfl rfl rfl (fun za zC zh zk => wp_assign rfl (zh.ev rfl) zk) ?_
      refine WL.nil (WE.sub (K' := [(0, .slice a l.length c), (1, .func (.func 40) #[] #[]), (4, .int .i64 ((-1))), (7, .int .i64 (((l.length : Nat) : Int))), (8, .int .i64 (((k : Nat) : Int))), (9, .bool ((decide ((((k : Nat) : Int) : Int) < (((l.length : Nat) : Int) : Int)))))]) ⟨rfl, rfl, rfl, rfl, rfl, rfl, trivial⟩ ?_)
      refine WE.next ?_
      refine WC.ret ?_
      refine WE.ret1 rfl rfl ?_
      exact ⟨_, rfl, ⟨_, rfl, .inl ⟨rfl, fun i hi => hne i (by omega)⟩⟩, hb2⟩

/-- How far the deletion is. -/
def keepB (x : Bd) : Bool := !x.itself
def DelInv (l : List Bd) (i j : Nat) (P : List Bd) : Prop := P.length = l.length ∧ P.take i = (l.take j).filter keepB ∧ P.drop j = l.drop j
theorem take_keep {l : List Bd} {i : Nat} (h : ∀ k, k < i → (dget l k).itself = false) (hi : i ≤ l.length) : (l.take i).filter keepB = l.take i := by
  rw [List.filter_eq_self]
  intro x hx
  obtain ⟨k, hk, rfl⟩ := List.getElem_of_mem hx
  have hk' : k < i := by simp at hk; omega
  have := h k hk'
  rw [dget_lt (by omega)] at this
  simp [keepB, this]
theorem delInv_start {l : List Bd} {i : Nat} (hi : i < l.length) (h1 : (dget l i).itself = true) (h2 : ∀ k, k < i → (dget l k).itself = false) : DelInv l i (i + 1) l := by
  refine ⟨rfl, ?_, rfl⟩
  rw [List.take_succ_eq_append_getElem hi, List.filter_append, take_keep h2 (by omega)]
  rw [dget_lt hi] at h1
  simp [keepB, h1]
theorem delInv_dget {l P : List Bd} {i j : Nat} (h : DelInv l i j P) (hj : j < l.length) : dget P j = dget l j := by
  have e : (P.drop j)[0]? = (l.drop j)[0]? := by rw [h.2.2]
  rw [List.getElem?_drop, List.getElem?_drop, Nat.add_zero] at e
  have hP := h.1
  rw [List.getElem?_eq_getElem (by omega), List.getElem?_eq_getElem hj] at e
  rw [dget_lt (by omega), dget_lt hj]
  exact Option.some.inj e
theorem delInv_skip {l P : List Bd} {i j : Nat} (h : DelInv l i j P) (hj : j < l.length) (hs : (dget P j).itself = true) : DelInv l i (j + 1) P := by
  rw [delInv_dget h hj] at hs
  obtain ⟨h1, h2, h3⟩ := h
  refine ⟨h1, ?_, ?_⟩
  · rw [List.take_succ_eq_append_getElem hj, List.filter_append, h2]
    rw [dget_lt hj] at hs
    simp [keepB, hs]
  · rw [← List.drop_drop, h3, List.drop_drop]
theorem delInv_keep {l P : List Bd} {i j : Nat} (h : DelInv l i j P) (hi : i < j) (hj : j < l.length) (hs : ¬ (dget P j).itself = true) : DelInv l (i + 1) (j + 1) (P.set i (dget P j)) := by
  have hd := delInv_dget h hj
  rw [hd] at hs ⊢
  obtain ⟨h1, h2, h3⟩ := h
  refine ⟨by simpa using h1, ?_, ?_⟩
  · rw [List.take_succ_eq_append_getElem (by simp; omega), List.take_set_of_le (by omega), h2, List.take_succ_eq_append_getElem hj, List.filter_append]
    rw [dget_lt hj] at hs ⊢
    simp [keepB, hs]
  · rw [List.drop_set_of_lt (by omega), ← List.drop_drop, h3, List.drop_drop]
theorem delInv_end {l P : List Bd} {i j : Nat} (h : DelInv l i j P) (hj : l.length ≤ j) : P.take i = l.filter keepB := by rw [h.2.1, List.take_of_length_le hj]
set_option maxRecDepth 100000 in
theorem del_some {w : World} {B rc n g : Nat} {l : List Bd} (hrow : RowE eltB w B 56 (some ⟨g, 0, none⟩) rc n l) (hn : n ≤ 4294967296) :
    Calls Try.prog 39 #[.slice (some ⟨g, 0, none⟩) n rc, .func (.func 40) #[] #[]] w (Ret fun v' w' => v' = .slice (some ⟨g, 0, none⟩) (l.filter keepB).length rc ∧ RowE eltB w' B 56 (some ⟨g, 0, none⟩) rc (l.filter keepB).length (l.filter keepB) ∧ Chg (fun b => b = g) w w') := by
  have hlen := hrow.len
  have hrc := hrow.inRow.2.2.1
  have hrm := hrow.inRow.2.2.2
  unfold maxLen at hrm
  have hgl := (hrow.lt g own_some).2
  refine Calls.walk (l := [.slice ((some ⟨g, 0, none⟩)) n rc, .func (.func 40) #[] #[]]) Try.func39 rfl (by kernel_rfl) ?_
  refine WC.sub (K' := [(0, .slice ((some ⟨g, 0, none⟩)) n rc), (1, .func (.func 40) #[] #[])]) ⟨rfl, rfl, trivial⟩ ?_
  refine WC.seq ?_
  refine WC.region ?_
  refine WL.val (.slice none 0 0) rfl rfl rfl (fun za zC zh zk => wp_assign rfl (zh.ev rfl) zk) ?_
  refine WL.nil (WE.sub (K' := [(0, .slice ((some ⟨g, 0, none⟩)) n rc), (1, .func (.func 40) #[] #[]), (4, .slice none 0 0)]) ⟨rfl, rfl, rfl, trivial⟩ ?_)
  refine WE.next ?_
  refine WC.seq ?_
  refine WC.region ?_
  refine WL.val (.slice ((some ⟨g, 0, none⟩)) n rc) rfl rfl rfl (fun za zC zh zk => wp_move rfl (zh.ev rfl) zk) ?_
  refine WL.val (.func (.func 40) #[] #[]) rfl rfl rfl (fun za zC zh zk => wp_move rfl (zh.ev rfl) zk) ?_
  refine WL.call rfl rfl rfl (fun za zh zC => wp_call (by kernel_rfl) rfl (hv2 (zh.ev rfl) (zh.ev rfl))) (index_any l n hlen _ _ _ (by omega) ((hrow.inRow.1.mono (by decide) (fun _ _ _ => trivial)))) ?_
  rintro _ w1 ⟨⟨r, rfl, hidx⟩, hbx⟩
  refine WL.val (.int .i64 r) rfl rfl rfl (fun za zC zh zk => wp_assign rfl (zh.ev rfl) zk) ?_
  refine WL.nil (WE.sub (K' := [(0, .slice ((some ⟨g, 0, none⟩)) n rc), (1, .func (.func 40) #[] #[]), (4, .slice none 0 0), (5, .int .i64 r)]) ⟨rfl, rfl, rfl, rfl, trivial⟩ ?_)
  refine WE.next ?_
  refine WC.seq ?_
  refine WC.seq ?_
  refine WC.region ?_
  refine WL.val (.int .i64 r) rfl rfl rfl (fun za zC zh zk => wp_move rfl (zh.ev rfl) zk) ?_
  refine WL.val (.bool (((r : Int) == ((-1) : Int)))) rfl rfl rfl (fun za zC zh zk => eql_3 rfl (zh.ev rfl) (zh.ev rfl) zk) ?_
  refine WL.nil (WE.sub (K' := [(0, .slice ((some ⟨g, 0, none⟩)) n rc), (1, .func (.func 40) #[] #[]), (4, .slice none 0 0), (5, .int .i64 r), (12, .bool (((r : Int) == ((-1) : Int))))]) ⟨rfl, rfl, rfl, rfl, rfl, trivial⟩ ?_)
  refine WE.next ?_
  refine WC.cond rfl (fun h2 => ?_) (fun h2 => ?_)
  · have h2 : (r : Int) = ((-1) : Int) := by simpa using h2
    refine WC.seq ?_
    refine WC.region ?_
    refine WL.val (.slice ((some ⟨g, 0, none⟩)) n rc) rfl rfl rfl (fun za zC zh zk => wp_move rfl (zh.ev rfl) zk) ?_
    refine WL.val (.slice ((some ⟨g, 0, none⟩)) n rc) rfl rfl rfl (fun za zC zh zk => wp_assign rfl (zh.ev rfl) zk) ?_
    refine WL.nil (WE.sub (K' := [(0, .slice ((some ⟨g, 0, none⟩)) n rc), (1, .func (.func 40) #[] #[]), (4, .slice ((some ⟨g, 0, none⟩)) n rc), (5, .int .i64 r), (12, .bool (((r : Int) == ((-1) : Int))))]) ⟨rfl, rfl, rfl, rfl, rfl, trivial⟩ ?_)
    refine WE.next ?_
    refine WC.ret ?_
    refine WE.thenRet ?_
    refine WE.ret1 rfl rfl ?_
    have ho3 := hrow.below hbx
    have hs4 : Chg ((fun b => b = g)) w w1 := (Chg.trans2 (Chg.refl ((fun b => b = g)) _) (Chg.ofBelow (S := fun k => k < 0) hbx) (fun i h1 h2 => by (try dsimp only at *); omega))
    rcases hidx with ⟨_, hall⟩ | ⟨i0, e, _⟩
    · have e := take_keep (l := l) (i := l.length) (fun k hk => hall k hk) (Nat.le_refl _)
      rw [List.take_length] at e
      rw [e, ← hlen]
      exact ⟨_, rfl, rfl, ho3, hs4⟩
    · omega
  · have h2 : ¬ ((r : Int) = ((-1) : Int)) := by simpa using h2
    rcases hidx with ⟨e, _⟩ | ⟨i0, rfl, hi1, hi2, hi3⟩
    · exact absurd e h2
    refine WC.skip ?_
    refine WE.next ?_
    refine WC.seq ?_
    refine WC.seq ?_
    refine WC.region ?_
    refine WL.val (.int .i64 (((i0 : Nat) : Int))) rfl rfl rfl (fun za zC zh zk => wp_move rfl (zh.ev rfl) zk) ?_
    refine WL.val (.int .i64 ((((i0 + 1) : Nat) : Int))) rfl rfl rfl (fun za zC zh zk => addb_3 rfl (zh.ev rfl) (zh.ev rfl) (wrap_eq (by omega) (by omega) (by omega)) zk) ?_
    refine WL.val (.int .i64 ((((i0 + 1) : Nat) : Int))) rfl rfl rfl (fun za zC zh zk => wp_assign rfl (zh.ev rfl) zk) ?_
    refine WL.nil (WE.sub (K' := [(0, .slice ((some ⟨g, 0, none⟩)) n rc), (1, .func (.func 40) #[] #[]), (4, .slice none 0 0), (5, .int .i64 (((i0 : Nat) : Int))), (6, .int .i64 ((((i0 + 1) : Nat) : Int)))]) ⟨rfl, rfl, rfl, rfl, rfl, trivial⟩ ?_)
    refine WE.next ?_
    refine WC.block ?_
    refine WC.loop (X := Nat × Nat × List Bd) (fun x => n - x.2.1) (fun x => [(0, .slice ((some ⟨g, 0, none⟩)) n rc), (1, .func (.func 40) #[] #[]), (4, .slice none 0 0), (5, .int .i64 (((x.1 : Nat) : Int))), (6, .int .i64 (((x.2.1 : Nat) : Int)))]) (fun x w5 => x.1 < x.2.1 ∧ x.2.1 ≤ n ∧ DelInv l x.1 x.2.1 x.2.2 ∧ RowE eltB (w5) B 56 (some ⟨g, 0, none⟩) rc n x.2.2 ∧ Chg ((fun b => b = g)) w w5) ((i0, i0 + 1, l)) ⟨rfl, rfl, rfl, rfl, rfl, trivial⟩ ?_ ?_
    · have ho6 := hrow.below hbx
      have hs7 : Chg ((fun b => b = g)) w w1 := (Chg.trans2 (Chg.refl ((fun b => b = g)) _) (Chg.ofBelow (S := fun k => k < 0) hbx) (fun i h1 h2 => by (try dsimp only at *); omega))
      exact ⟨by (try dsimp only); omega, by (try dsimp only); omega, delInv_start hi1 hi2 hi3, ho6, hs7⟩
    · rintro x w5 ⟨hij, hjn, hD, ho8, hc9⟩
      have hgl2 := (ho8.lt g own_some).2
      have hPl := ho8.len
      refine WC.seq ?_
      refine WC.seq ?_
      refine WC.region ?_
      refine WL.val (.int .i64 (((x.2.1 : Nat) : Int))) rfl rfl rfl (fun za zC zh zk => wp_move rfl (zh.ev rfl) zk) ?_
      refine WL.val (.slice ((some ⟨g, 0, none⟩)) n rc) rfl rfl rfl (fun za zC zh zk => wp_move rfl (zh.ev rfl) zk) ?_
      refine WL.val (.int .i64 (((n : Nat) : Int))) rfl rfl rfl (fun za zC zh zk => len_23 rfl (zh.ev rfl) zk) ?_
      refine WL.val (.bool ((decide ((((x.2.1 : Nat) : Int) : Int) < (((n : Nat) : Int) : Int))))) rfl rfl rfl (fun za zC zh zk => lss_3 rfl (zh.ev rfl) (zh.ev rfl) zk) ?_
      refine WL.nil (WE.sub (K' := [(0, .slice ((some ⟨g, 0, none⟩)) n rc), (1, .func (.func 40) #[] #[]), (4, .slice none 0 0), (5, .int .i64 (((x.1 : Nat) : Int))), (6, .int .i64 (((x.2.1 : Nat) : Int))), (19, .bool ((decide ((((x.2.1 : Nat) : Int) : Int) < (((n : Nat) : Int) : Int)))))]) ⟨rfl, rfl, rfl, rfl, rfl, rfl, trivial⟩ ?_)
      refine WE.next ?_
      refine WC.cond rfl (fun h10 => ?_) (fun h10 => ?_)
      · have h10 : (((x.2.1 : Nat) : Int) : Int) < (((n : Nat) : Int) : Int) := by simpa using h10
        refine WC.skip ?_
        refine WE.next ?_
        refine WC.seq ?_
        refine WC.block ?_
        refine WC.seq ?_
        refine WC.region ?_
        refine WL.val (.slice ((some ⟨g, 0, none⟩)) n rc) rfl rfl rfl (fun za zC zh zk => wp_move rfl (zh.ev rfl) zk) ?_
        refine WL.val (.int .i64 (((x.2.1 : Nat) : Int))) rfl rfl rfl (fun za zC zh zk => wp_move rfl (zh.ev rfl) zk) ?_
        obtain ⟨A11, C12, hc13⟩ := ho8.cells
        refine WL.val (.pointer (some ⟨g, 0 + x.2.1 * 3, none⟩)) rfl rfl rfl (fun za zC zh zk => ix_23 (k := x.2.1) rfl (zh.ev rfl) rfl (zh.ev rfl) (by first | omega | (simp; omega)) zk) ?_
        refine WL.val (.agg #[.int .i64 ((dget x.2.2 x.2.1).var), .int .i64 ((dget x.2.2 x.2.1).t.f), .slice ((A11 x.2.1)) ((dget x.2.2 x.2.1).t.args.length) ((C12 x.2.1))]) rfl rfl rfl (fun za zC zh zk => ld_56 rfl (zh.ev rfl) (hc13 x.2.1 (by first | omega | (simp; omega))).1 (hc13 x.2.1 (by first | omega | (simp; omega))).2.1 (hc13 x.2.1 (by first | omega | (simp; omega))).2.2.1 zk) ?_
        refine WL.step (post := NewBlk w5 56 #[.int .i64 0, .int .i64 0, .slice none 0 0]) rfl rfl rfl (fun za zC zh zk => alloc_56 rfl (zk _ _ (newBlk _ _ _))) ?_
        rintro _ w14 ⟨g15, rfl, hg16, hB17, hb18, hz19⟩
        have hl20 : w5.heap.size ≤ g15 := by omega
        refine WL.step (post := fun _ w' => Upd g15 w14 w' ∧ Blk w' g15 56 #[.int .i64 ((dget x.2.2 x.2.1).var), .int .i64 ((dget x.2.2 x.2.1).t.f), .slice ((A11 x.2.1)) ((dget x.2.2 x.2.1).t.args.length) ((C12 x.2.1))]) rfl rfl rfl (fun za zC zh zk => st_56 rfl (zh.ev rfl) (zh.ev rfl) rfl rfl rfl hB17 (by first | decide | simp) (fun v => zk v _ ⟨((Upd.at_ _ _ _ _).trans (Upd.at_ _ _ _ _)).trans (Upd.at_ _ _ _ _), ((hB17.set_ 0 _).set_ 1 _).set_ 2 _⟩)) ?_
        rintro v24 w21 ⟨hu22, hB23⟩
        have hb25 := upd_below hb18 hu22 (by omega)
        refine WL.nil (WE.sub (K' := [(0, .slice ((some ⟨g, 0, none⟩)) n rc), (1, .func (.func 40) #[] #[]), (4, .slice none 0 0), (5, .int .i64 (((x.1 : Nat) : Int))), (6, .int .i64 (((x.2.1 : Nat) : Int))), (7, .pointer (some ⟨g15, 0, none⟩)), (19, .bool ((decide ((((x.2.1 : Nat) : Int) : Int) < (((n : Nat) : Int) : Int)))))]) ⟨rfl, rfl, rfl, rfl, rfl, rfl, rfl, trivial⟩ ?_)
        refine WE.next ?_
        refine WC.seq ?_
        refine WC.region ?_
        refine WL.val (.func (.func 40) #[] #[]) rfl rfl rfl (fun za zC zh zk => wp_move rfl (zh.ev rfl) zk) ?_
        refine WL.val (.agg #[.int .i64 ((dget x.2.2 x.2.1).var), .int .i64 ((dget x.2.2 x.2.1).t.f), .slice ((A11 x.2.1)) ((dget x.2.2 x.2.1).t.args.length) ((C12 x.2.1))]) rfl rfl rfl (fun za zC zh zk => ld_56 rfl (zh.ev rfl) ((hB23.cell 0).trans rfl) ((hB23.cell 1).trans rfl) ((hB23.cell 2).trans rfl) zk) ?_
        refine WL.call rfl rfl rfl (fun za zh zC => wp_callv (by kernel_rfl) rfl (zh.ev rfl) (hv1 (zh.ev rfl))) (itself_any (dget x.2.2 x.2.1) _ _ (IsBd.below hb25 ⟨_, _, rfl, (hc13 x.2.1 (by first | omega | (simp; omega))).2.2.2.2, (InT.isT (hc13 x.2.1 (by first | omega | (simp; omega))).2.2.2.1)⟩)) ?_
        rintro _ w27 ⟨rfl, hbi26⟩
        refine WL.val (.bool ((!(dget x.2.2 x.2.1).itself))) rfl rfl rfl (fun za zC zh zk => wp_not rfl (zh.ev rfl) zk) ?_
        refine WL.nil (WE.sub (K' := [(0, .slice ((some ⟨g, 0, none⟩)) n rc), (1, .func (.func 40) #[] #[]), (4, .slice none 0 0), (5, .int .i64 (((x.1 : Nat) : Int))), (6, .int .i64 (((x.2.1 : Nat) : Int))), (7, .pointer (some ⟨g15, 0, none⟩)), (19, .bool ((decide ((((x.2.1 : Nat) : Int) : Int) < (((n : Nat) : Int) : Int))))), (29, .bool ((!(dget x.2.2 x.2.1).itself)))]) ⟨rfl, rfl, rfl, rfl, rfl, rfl, rfl, rfl, trivial⟩ ?_)
        refine WE.next ?_
        refine WC.cond rfl (fun h28 => ?_) (fun h28 => ?_)
        · have h28 : ¬ ((dget x.2.2 x.2.1).itself = true) := by simpa using h28
          refine WC.seq ?_
          refine WC.region ?_
          refine WL.val (.slice ((some ⟨g, 0, none⟩)) n rc) rfl rfl rfl (fun za zC zh zk => wp_move rfl (zh.ev rfl) zk) ?_
          refine WL.val (.int .i64 (((x.1 : Nat) : Int))) rfl rfl rfl (fun za zC zh zk => wp_move rfl (zh.ev rfl) zk) ?_
          have hB29 := hB23.below hbi26
          refine WL.val (.agg #[.int .i64 ((dget x.2.2 x.2.1).var), .int .i64 ((dget x.2.2 x.2.1).t.f), .slice ((A11 x.2.1)) ((dget x.2.2 x.2.1).t.args.length) ((C12 x.2.1))]) rfl rfl rfl (fun za zC zh zk => ld_56 rfl (zh.ev rfl) ((hB29.cell 0).trans rfl) ((hB29.cell 1).trans rfl) ((hB29.cell 2).trans rfl) zk) ?_
          refine WL.val (.pointer (some ⟨g, 0 + x.1 * 3, none⟩)) rfl rfl rfl (fun za zC zh zk => ix_23 (k := x.1) rfl (zh.ev rfl) rfl (zh.ev rfl) (by first | omega | (simp; omega)) zk) ?_
          have hb31 : Below w5.heap.size w5 w27 := (bstep hb25 hbi26)
          have ho30 := ho8.below hb31
          obtain ⟨cu36, ds37, hb38, _, _, _, _, _, hs39, _, _⟩ := ho30.open3
          refine WL.step (post := fun _ w' => Upd g w27 w' ∧ RowE eltB w' B 56 (some ⟨g, 0, none⟩) rc n ((x.2.2.set x.1 (dget x.2.2 x.2.1)))) rfl rfl rfl (fun za zC zh zk => st_56 rfl (zh.ev rfl) (zh.ev rfl) rfl rfl rfl hb38 (by omega) (fun v => zk v _ ⟨((Upd.at_ _ _ _ _).trans (Upd.at_ _ _ _ _)).trans (Upd.at_ _ _ _ _), ho30.store3 (by omega) (hc13 x.2.1 (by first | omega | (simp; omega))).2.2.2.2 (InT.below hb31 ((hc13 x.2.1 (by first | omega | (simp; omega))).2.2.2.1))⟩)) ?_
          rintro v35 w32 ⟨hu33, hr34⟩
          have hB40 := upd_blk hB29 hu33 (by omega)
          refine WL.nil (WE.sub (K' := [(0, .slice ((some ⟨g, 0, none⟩)) n rc), (1, .func (.func 40) #[] #[]), (4, .slice none 0 0), (5, .int .i64 (((x.1 : Nat) : Int))), (6, .int .i64 (((x.2.1 : Nat) : Int))), (7, .pointer (some ⟨g15, 0, none⟩)), (19, .bool ((decide ((((x.2.1 : Nat) : Int) : Int) < (((n : Nat) : Int) : Int))))), (29, .bool ((!(dget x.2.2 x.2.1).itself)))]) ⟨rfl, rfl, rfl, rfl, rfl, rfl, rfl, rfl, trivial⟩ ?_)
          refine WE.next ?_
          refine WC.region ?_
          refine WL.val (.int .i64 (((x.1 : Nat) : Int))) rfl rfl rfl (fun za zC zh zk => wp_move rfl (zh.ev rfl) zk) ?_
          refine WL.val (.int .i64 ((((x.1 + 1) : Nat) : Int))) rfl rfl rfl (fun za zC zh zk => addb_3 rfl (zh.ev rfl) (zh.ev rfl) (wrap_eq (by omega) (by omega) (by omega)) zk) ?_
          refine WL.val (.int .i64 ((((x.1 + 1) : Nat) : Int))) rfl rfl rfl (fun za zC zh zk => wp_assign rfl (zh.ev rfl) zk) ?_
          refine WL.nil (WE.sub (K' := [(0, .slice ((some ⟨g, 0, none⟩)) n rc), (1, .func (.func 40) #[] #[]), (4, .slice none 0 0), (5, .int .i64 ((((x.1 + 1) : Nat) : Int))), (6, .int .i64 (((x.2.1 : Nat) : Int))), (7, .pointer (some ⟨g15, 0, none⟩)), (19, .bool ((decide ((((x.2.1 : Nat) : Int) : Int) < (((n : Nat) : Int) : Int))))), (29, .bool ((!(dget x.2.2 x.2.1).itself)))]) ⟨rfl, rfl, rfl, rfl, rfl, rfl, rfl, rfl, trivial⟩ ?_)
          refine WE.blockNormal ?_
          refine WE.next ?_
          refine WC.region ?_
          refine WL.val (.int .i64 (((x.2.1 : Nat) : Int))) rfl rfl rfl (fun za zC zh zk => wp_move rfl (zh.ev rfl) zk) ?_
          refine WL.val (.int .i64 ((((x.2.1 + 1) : Nat) : Int))) rfl rfl rfl (fun za zC zh zk => addb_3 rfl (zh.ev rfl) (zh.ev rfl) (wrap_eq (by omega) (by omega) (by omega)) zk) ?_
          refine WL.val (.int .i64 ((((x.2.1 + 1) : Nat) : Int))) rfl rfl rfl (fun za zC zh zk => wp_assign rfl (zh.ev rfl) zk) ?_
          refine WL.nil (WE.sub (K' := [(0, .slice ((some ⟨g, 0, none⟩)) n rc), (1, .func (.func 40) #[] #[]), (4, .slice none 0 0), (5, .int .i64 ((((x.1 + 1) : Nat) : Int))), (6, .int .i64 ((((x.2.1 + 1) : Nat) : Int))), (7, .pointer (some ⟨g15, 0, none⟩)), (19, .bool ((decide ((((x.2.1 : Nat) : Int) : Int) < (((n : Nat) : Int) : Int))))), (29, .bool ((!(dget x.2.2 x.2.1).itself)))]) ⟨rfl, rfl, rfl, rfl, rfl, rfl, rfl, rfl, trivial⟩ ?_)
          refine WE.round (((x.1 + 1), x.2.1 + 1, (x.2.2.set x.1 (dget x.2.2 x.2.1)))) ⟨rfl, rfl, rfl, rfl, rfl, trivial⟩ ?_ ?_
          · have hs41 : Chg ((fun b => b = g)) w w32 := (Chg.trans2 (Chg.trans2 (Chg.trans2 (Chg.refl ((fun b => b = g)) _) hc9 (fun i h1 h2 => by (try dsimp only at *); omega)) (Chg.ofBelow (S := fun k => k < 0) hb31) (fun i h1 h2 => by (try dsimp only at *); omega)) (Chg.ofUpd (S := fun k => k = g) hu33 rfl) (fun i h1 h2 => by (try dsimp only at *); omega))
            exact ⟨by (try dsimp only at *); omega, by (try dsimp only at *); omega, delInv_keep hD (by omega) (by omega) h28, hr34, hs41⟩
          · dsimp only; omega
        · have h28 : ¬ (¬ ((dget x.2.2 x.2.1).itself = true)) := by simpa using h28
          refine WC.skip ?_
          refine WE.blockNormal ?_
          refine WE.next ?_
          refine WC.region ?_
          refine WL.val (.int .i64 (((x.2.1 : Nat) : Int))) rfl rfl rfl (fun za zC zh zk => wp_move rfl (zh.ev rfl) zk) ?_
          refine WL.val (.int .i64 ((((x.2.1 + 1) : Nat) : Int))) rfl rfl rfl (fun za zC zh zk => addb_3 rfl (zh.ev rfl) (zh.ev rfl) (wrap_eq (by omega) (by omega) (by omega)) zk) ?_
          refine WL.val (.int .i64 ((((x.2.1 + 1) : Nat) : Int))) rfl rfl rfl (fun za zC zh zk => wp_assign rfl (zh.ev rfl) zk) ?_
          refine WL.nil (WE.sub (K' := [(0, .slice ((some ⟨g, 0, none⟩)) n rc), (1, .func (.func 40) #[] #[]), (4, .slice none 0 0), (5, .int .i64 (((x.1 : Nat) : Int))), (6, .int .i64 ((((x.2.1 + 1) : Nat) : Int))), (7, .pointer (some ⟨g15, 0, none⟩)), (19, .bool ((decide ((((x.2.1 : Nat) : Int) : Int) < (((n : Nat) : Int) : Int))))), (29, .bool ((!(dget x.2.2 x.2.1).itself)))]) ⟨rfl, rfl, rfl, rfl, rfl, rfl, rfl, rfl, trivial⟩ ?_)
          refine WE.round ((x.1, x.2.1 + 1, x.2.2)) ⟨rfl, rfl, rfl, rfl, rfl, trivial⟩ ?_ ?_
          · have hb43 : Below w5.heap.size w5 w27 := (bstep hb25 hbi26)
            have ho42 := ho8.below hb43
            have hs44 : Chg ((fun b => b = g)) w w27 := (Chg.trans2 (Chg.trans2 (Chg.refl ((fun b => b = g)) _) hc9 (fun i h1 h2 => by (try dsimp only at *); omega)) (Chg.ofBelow (S := fun k => k < 0) hb43) (fun i h1 h2 => by (try dsimp only at *); omega))
            exact ⟨by (try dsimp only at *); omega, by (try dsimp only at *); omega, delInv_skip hD (by omega) (by simpa using h28), ho42, hs44⟩
          · dsimp only; omega
      · have h10 : ¬ ((((x.2.1 : Nat) : Int) : Int) < (((n : Nat) : Int) : Int)) := by simpa using h10
        refine WC.exit ?_
        refine WE.thenExit ?_
        refine WE.thenExit ?_
        refine WE.blockIs rfl ?_
        refine WE.next ?_
        refine WC.seq ?_
        refine WC.region ?_
        refine WL.val (.slice ((some ⟨g, 0, none⟩)) n rc) rfl rfl rfl (fun za zC zh zk => wp_move rfl (zh.ev rfl) zk) ?_
        refine WL.val (.int .i64 (((x.1 : Nat) : Int))) rfl rfl rfl (fun za zC zh zk => wp_move rfl (zh.ev rfl) zk) ?_
        refine WL.val (.slice ((slA ((some ⟨g, 0, none⟩)) x.1 3 rc)) ((n - x.1)) ((rc - x.1))) rfl rfl rfl (fun za zC zh zk => slo_23 (k := x.1) rfl (zh.ev rfl) (zh.ev rfl) (by omega) (by omega) zk) ?_
        refine WL.step (post := fun _ w' => Upd g w5 w' ∧ RowE eltB w' B 56 (some ⟨g, 0, none⟩) rc x.1 (x.2.2.take x.1)) rfl rfl rfl (fun za zC zh zk => wp_clearB (i := x.1) rfl ((zh.ev rfl).trans (by rw [slA_some (by omega)])) ho8 (by omega) (by omega) (fun w' h1 h2 => zk _ w' ⟨h1, h2⟩)) ?_
        rintro v48 w45 ⟨hu46, hr47⟩
        refine WL.nil (WE.sub (K' := [(0, .slice ((some ⟨g, 0, none⟩)) n rc), (1, .func (.func 40) #[] #[]), (4, .slice none 0 0), (5, .int .i64 (((x.1 : Nat) : Int))), (6, .int .i64 (((x.2.1 : Nat) : Int))), (19, .bool ((decide ((((x.2.1 : Nat) : Int) : Int) < (((n : Nat) : Int) : Int)))))]) ⟨rfl, rfl, rfl, rfl, rfl, rfl, trivial⟩ ?_)
        refine WE.next ?_
        refine WC.seq ?_
        refine WC.region ?_
        refine WL.val (.slice ((some ⟨g, 0, none⟩)) n rc) rfl rfl rfl (fun za zC zh zk => wp_move rfl (zh.ev rfl) zk) ?_
        refine WL.val (.int .i64 (((x.1 : Nat) : Int))) rfl rfl rfl (fun za zC zh zk => wp_move rfl (zh.ev rfl) zk) ?_
        refine WL.val (.slice ((some ⟨g, 0, none⟩)) x.1 rc) rfl rfl rfl (fun za zC zh zk => shi_23 (k := x.1) rfl (zh.ev rfl) (zh.ev rfl) (by omega) zk) ?_
        refine WL.val (.slice ((some ⟨g, 0, none⟩)) x.1 rc) rfl rfl rfl (fun za zC zh zk => wp_assign rfl (zh.ev rfl) zk) ?_
        refine WL.nil (WE.sub (K' := [(0, .slice ((some ⟨g, 0, none⟩)) n rc), (1, .func (.func 40) #[] #[]), (4, .slice ((some ⟨g, 0, none⟩)) x.1 rc), (5, .int .i64 (((x.1 : Nat) : Int))), (6, .int .i64 (((x.2.1 : Nat) : Int))), (19, .bool ((decide ((((x.2.1 : Nat) : Int) : Int) < (((n : Nat) : Int) : Int)))))]) ⟨rfl, rfl, rfl, rfl, rfl, rfl, trivial⟩ ?_)
        refine WE.next ?_
        refine WC.ret ?_
        refine WE.ret1 rfl rfl ?_
        have hs49 : Chg ((fun b => b = g)) w w45 := (Chg.trans2 (Chg.trans2 (Chg.refl ((fun b => b = g)) _) hc9 (fun i h1 h2 => by (try dsimp only at *); omega)) (Chg.ofUpd (S := fun k => k = g) hu46 rfl) (fun i h1 h2 => by (try dsimp only at *); omega))
        have hfin := delInv_end hD (by omega)
        have hP1 := hD.1
        have hfl : (l.filter keepB).length = x.1 := by rw [← hfin, List.length_take]; omega
        rw [hfl, ← hfin]
        exact ⟨_, rfl, rfl, hr47, hs49⟩

set_option maxRecDepth 100000 in
theorem del_none (w : World) : Calls Try.prog 39 #[.slice none 0 0, .func (.func 40) #[] #[]] w (Ret fun v' w' => v' = .slice none 0 0 ∧ Below w.heap.size w w') := by
  refine Calls.walk (l := [.slice none 0 0, .func (.func 40) #[] #[]]) Try.func39 rfl (by kernel_rfl) ?_
  refine WC.sub (K' := [(0, .slice none 0 0), (1, .func (.func 40) #[] #[])]) ⟨rfl, rfl, trivial⟩ ?_
  refine WC.seq ?_
  refine WC.region ?_
  refine WL.val (.slice none 0 0) rfl rfl rfl (fun za zC zh zk => wp_assign rfl (zh.ev rfl) zk) ?_
  refine WL.nil (WE.sub (K' := [(0, .slice none 0 0), (1, .func (.func 40) #[] #[]), (4, .slice none 0 0)]) ⟨rfl, rfl, rfl, trivial⟩ ?_)
  refine WE.next ?_
  refine WC.seq ?_
  refine WC.region ?_
  refine WL.val (.slice none 0 0) rfl rfl rfl (fun za zC zh zk => wp_move rfl (zh.ev rfl) zk) ?_
  refine WL.val (.func (.func 40) #[] #[]) rfl rfl rfl (fun za zC zh zk => wp_move rfl (zh.ev rfl) zk) ?_
  refine WL.call rfl rfl rfl (fun za zh zC => wp_call (by kernel_rfl) rfl (hv2 (zh.ev rfl) (zh.ev rfl))) (index_any [] 0 rfl _ none 0 (by decide) InRow.nil) ?_
  rintro _ w1 ⟨⟨r, rfl, hidx⟩, hbx⟩
  refine WL.val (.int .i64 r) rfl rfl rfl (fun za zC zh zk => wp_assign rfl (zh.ev rfl) zk) ?_
  refine WL.nil (WE.sub (K' := [(0, .slice none 0 0), (1, .func (.func 40) #[] #[]), (4, .slice none 0 0), (5, .int .i64 r)]) ⟨rfl, rfl, rfl, rfl, trivial⟩ ?_)
  refine WE.next ?_
  refine WC.seq ?_
  refine WC.seq ?_
  refine WC.region ?_
  refine WL.val (.int .i64 r) rfl rfl rfl (fun za zC zh zk => wp_move rfl (zh.ev rfl) zk) ?_
  refine WL.val (.bool (((r : Int) == ((-1) : Int)))) rfl rfl rfl (fun za zC zh zk => eql_3 rfl (zh.ev rfl) (zh.ev rfl) zk) ?_
  refine WL.nil (WE.sub (K' := [(0, .slice none 0 0), (1, .func (.func 40) #[] #[]), (4, .slice none 0 0), (5, .int .i64 r), (12, .bool (((r : Int) == ((-1) : Int))))]) ⟨rfl, rfl, rfl, rfl, rfl, trivial⟩ ?_)
  refine WE.next ?_
  refine WC.cond rfl (fun h2 => ?_) (fun h2 => ?_)
  · have h2 : (r : Int) = ((-1) : Int) := by simpa using h2
    refine WC.seq ?_
    refine WC.region ?_
    refine WL.val (.slice none 0 0) rfl rfl rfl (fun za zC zh zk => wp_move rfl (zh.ev rfl) zk) ?_
    refine WL.val (.slice none 0 0) rfl rfl rfl (fun za zC zh zk => wp_assign rfl (zh.ev rfl) zk) ?_
    refine WL.nil (WE.sub (K' := [(0, .slice none 0 0), (1, .func (.func 40) #[] #[]), (4, .slice none 0 0), (5, .int .i64 r), (12, .bool (((r : Int) == ((-1) : Int))))]) ⟨rfl, rfl, rfl, rfl, rfl, trivial⟩ ?_)
    refine WE.next ?_
    refine WC.ret ?_
    refine WE.thenRet ?_
    refine WE.ret1 rfl rfl ?_
    exact ⟨_, rfl, rfl, hbx⟩
  · have h2 : ¬ ((r : Int) = ((-1) : Int)) := by simpa using h2
    rcases hidx with ⟨e, _⟩ | ⟨i0, _, hi1, _⟩
    · exact absurd e h2
    · exact absurd hi1 (Nat.not_lt_zero _)

theorem del_any {w : World} {B : Nat} {ra : Option Addr} {rc n : Nat} {l : List Bd} (h : RowE eltB w B 56 ra rc n l) (hn : n ≤ 4294967296) :
    Calls Try.prog 39 #[.slice ra n rc, .func (.func 40) #[] #[]] w (Ret fun v' w' => v' = .slice ra (l.filter fun x => !x.itself).length rc ∧ RowE eltB w' B 56 ra rc (l.filter fun x => !x.itself).length (l.filter fun x => !x.itself) ∧ Chg (fun b => (Value.slice ra n rc).ownBlock = some b) w w') := by
  rcases h.nilOr with ⟨rfl, rfl, rfl, rfl⟩ | ⟨g, rfl⟩
  · refine (del_none w).mono ?_
    rintro e w' ⟨v, rfl, rfl, hb⟩
    exact ⟨_, rfl, rfl, RowE.nil, .ofBelow hb⟩
  · refine (del_some h hn).mono ?_
    rintro e w' ⟨v, rfl, rfl, hr, hc⟩
    exact ⟨_, rfl, rfl, hr, hc.os, hc.tape, hc.output, hc.size, fun k hk hn => hc.block k hk (fun e => hn (by rw [e, own_some]))⟩

end Go.Proofs.Ytgechlgdnnpoeaa
