/- The example that every law shows. -/
import Derived.Test.YtgechlgdnnpoeaaNBc
import Derived.Test.YtgechlgdnnpoeaaNBi
import Derived.Test.YtgechlgdnnpoeaaNBe
import Derived.Test.YtgechlgdnnpoeaaNBh
import Derived.Test.YtgechlgdnnpoeaaNBd

/- What is itself is taken out of a row of bindings: slices.DeleteFunc. -/
namespace Go.Proofs.Ytgechlgdnnpoeaa
open Go.RowKit Go

/-- Where the first one is that is itself; -1: nowhere. -/
def IdxOf (l : List Bd) (r : Int) : Prop := (r = -1 ∧ ∀ k, k < l.length → (dget l k).itself = false) ∨ (∃ i : Nat, r = i ∧ i < l.length ∧ (dget l i).itself = true ∧ ∀ k, k < i → (dget l k).itself = false)
theorem no_step {l : List Bd} {k : Nat} (h : ∀ i, i < k → (dget l i).itself = false) (hk : ¬ (dget l k).itself = true) : ∀ i, i < k + 1 → (dget l i).itself = false := fun i hi => by
  rcases Nat.lt_or_ge i k with q | q
  · exact h i q
  · obtain rfl : i = k := by omega
    exact Bool.eq_false_iff.2 hk
set_option maxRecDepth 100000 in
theorem index_any (l : List Bd) (n : Nat) (hn : n = l.length) (w : World) (a : Option Addr) (c : Nat) (hz : l.length ≤ 4294967296) (hl : IsBs w l a) : Calls Try.prog 65 #[.slice a n c, .func (.func 40) #[] #[]] w (Ret fun v' w' => (∃ r : Int, v' = .int .i64 r ∧ IdxOf l r) ∧ Below w.heap.size w w') := by
  subst hn
  refine Calls.walk (l := [.slice a l.length c, .func (.func 40) #[] #[]]) Try.func65 rfl (by kernel_rfl) ?_
  refine WC.sub (K' := [(0, .slice a l.length c), (1, .func (.func 40) #[] #[])]) ⟨rfl, rfl, trivial⟩ ?_
  refine WC.seq ?_
  refine WC.region ?_
  refine WL.val (.int .i64 0) rfl rfl rfl (fun za zC zh zk => wp_assign rfl (zh.ev rfl) zk) ?_
  refine WL.nil (WE.sub (K' := [(0, .slice a l.length c), (1, .func (.func 40) #[] #[]), (4, .int .i64 0)]) ⟨rfl, rfl, rfl, trivial⟩ ?_)
  refine WE.next ?_
  refine WC.seq ?_
  refine WC.seq ?_
  refine WC.region ?_
  refine WL.val (.slice a l.length c) rfl rfl rfl (fun za zC zh zk => wp_move rfl (zh.ev rfl) zk) ?_
  refine WL.val (.int .i64 (((l.length : Nat) : Int))) rfl rfl rfl (fun za zC zh zk => len_23 rfl (zh.ev rfl) zk) ?_
  refine WL.val (.int .i64 0) rfl rfl rfl (fun za zC zh zk => wp_move rfl (zh.ev rfl) zk) ?_
  refine WL.nil (WE.sub (K' := [(0, .slice a l.length c), (1, .func (.func 40) #[] #[]), (4, .int .i64 0), (7, .int .i64 (((l.length : Nat) : Int))), (8, .int .i64 0)]) ⟨rfl, rfl, rfl, rfl, rfl, trivial⟩ ?_)
  refine WE.next ?_
  refine WC.block ?_
  refine WC.loop (X := Nat) (fun k => l.length - k) (fun k => [(0, .slice a l.length c), (1, .func (.func 40) #[] #[]), (7, .int .i64 (((l.length : Nat) : Int))), (8, .int .i64 (((k : Nat) : Int)))]) (fun k w1 => k ≤ l.length ∧ (∀ i, i < k → (dget l i).itself = false) ∧ Below w.heap.size w w1) 0 ⟨rfl, rfl, rfl, rfl, trivial⟩ ?_ ?_
  · exact ⟨Nat.zero_le _, fun i h => absurd h (Nat.not_lt_zero i), (Below.refl _ _)⟩
  · rintro k w1 ⟨hk, hne, hb2⟩
    refine WC.seq ?_
    refine WC.region ?_
    refine WL.val (.bool ((decide ((((k : Nat) : Int) : Int) < (((l.length : Nat) : Int) : Int))))) rfl rfl rfl (fun za zC zh zk => lss_3 rfl (zh.ev rfl) (zh.ev rfl) zk) ?_
    refine WL.nil (WE.sub (K' := [(0, .slice a l.length c), (1, .func (.func 40) #[] #[]), (7, .int .i64 (((l.length : Nat) : Int))), (8, .int .i64 (((k : Nat) : Int))), (9, .bool ((decide ((((k : Nat) : Int) : Int) < (((l.length : Nat) : Int) : Int)))))]) ⟨rfl, rfl, rfl, rfl, rfl, trivial⟩ ?_)
    refine WE.next ?_
    refine WC.seq ?_
    refine WC.cond rfl (fun h3 => ?_) (fun h3 => ?_)
    · have h3 : (((k : Nat) : Int) : Int) < (((l.length : Nat) : Int) : Int) := by simpa using h3
      refine WC.skip ?_
      refine WE.next ?_
      refine WC.seq ?_
      refine WC.block ?_
      refine WC.seq ?_
      refine WC.region ?_
      refine WL.val (.int .i64 (((k : Nat) : Int))) rfl rfl rfl (fun za zC zh zk => wp_move rfl (zh.ev rfl) zk) ?_
      refine WL.val (.int .i64 (((k : Nat) : Int))) rfl rfl rfl (fun za zC zh zk => wp_assign rfl (zh.ev rfl) zk) ?_
      refine WL.nil (WE.sub (K' := [(0, .slice a l.length c), (1, .func (.func 40) #[] #[]), (5, .int .i64 (((k : Nat) : Int))), (7, .int .i64 (((l.length : Nat) : Int))), (8, .int .i64 (((k : Nat) : Int))), (9, .bool ((decide ((((k : Nat) : Int) : Int) < (((l.length : Nat) : Int) : Int)))))]) ⟨rfl, rfl, rfl, rfl, rfl, rfl, trivial⟩ ?_)
      refine WE.next ?_
      refine WC.seq ?_
      refine WC.region ?_
      refine WL.val (.func (.func 40) #[] #[]) rfl rfl rfl (fun za zC zh zk => wp_move rfl (zh.ev rfl) zk) ?_
      refine WL.val (.slice a l.length c) rfl rfl rfl (fun za zC zh zk => wp_move rfl (zh.ev rfl) zk) ?_
      refine WL.val (.int .i64 (((k : Nat) : Int))) rfl rfl rfl (fun za zC zh zk => wp_move rfl (zh.ev rfl) zk) ?_
      obtain ⟨b4, o5, A6, C7, ha8, hc9⟩ := InRow.openB hl
      refine WL.val (.pointer (some ⟨b4, o5 + k * 3, none⟩)) rfl rfl rfl (fun za zC zh zk => ix_23 (k := k) rfl (zh.ev rfl) (ha8 k (by first | omega | (simp; omega))) (zh.ev rfl) (by first | omega | (simp; omega)) zk) ?_
      refine WL.val (.agg #[.int .i64 ((dget l k).var), .int .i64 ((dget l k).t.f), .slice ((A6 k)) ((dget l k).t.args.length) ((C7 k))]) rfl rfl rfl (fun za zC zh zk => ld_56 rfl (zh.ev rfl) (bkeeps hb2 _ _ (hc9 k (by first | omega | (simp; omega))).1) (bkeeps hb2 _ _ (hc9 k (by first | omega | (simp; omega))).2.1) (bkeeps hb2 _ _ (hc9 k (by first | omega | (simp; omega))).2.2.1) zk) ?_
      refine WL.call rfl rfl rfl (fun za zh zC => wp_callv (by kernel_rfl) rfl (zh.ev rfl) (hv1 (zh.ev rfl))) (itself_any (dget l k) _ _ (IsBd.below hb2 ⟨_, _, rfl, (hc9 k (by first | omega | (simp; omega))).2.2.2.2, (InT.isT (hc9 k (by first | omega | (simp; omega))).2.2.2.1)⟩)) ?_
      rintro _ w11 ⟨rfl, hbi10⟩
      refine WL.nil (WE.sub (K' := [(0, .slice a l.length c), (1, .func (.func 40) #[] #[]), (5, .int .i64 (((k : Nat) : Int))), (7, .int .i64 (((l.length : Nat) : Int))), (8, .int .i64 (((k : Nat) : Int))), (9, .bool ((decide ((((k : Nat) : Int) : Int) < (((l.length : Nat) : Int) : Int))))), (16, .bool ((dget l k).itself))]) ⟨rfl, rfl, rfl, rfl, rfl, rfl, rfl, trivial⟩ ?_)
      refine WE.next ?_
      refine WC.cond rfl (fun h12 => ?_) (fun h12 => ?_)
      · skip
        refine WC.seq ?_
        refine WC.region ?_
        refine WL.val (.int .i64 (((k : Nat) : Int))) rfl rfl rfl (fun za zC zh zk => wp_move rfl (zh.ev rfl) zk) ?_
        refine WL.val (.int .i64 (((k : Nat) : Int))) rfl rfl rfl (fun za zC zh zk => wp_assign rfl (zh.ev rfl) zk) ?_
        refine WL.nil (WE.sub (K' := [(0, .slice a l.length c), (1, .func (.func 40) #[] #[]), (4, .int .i64 (((k : Nat) : Int))), (5, .int .i64 (((k : Nat) : Int))), (7, .int .i64 (((l.length : Nat) : Int))), (8, .int .i64 (((k : Nat) : Int))), (9, .bool ((decide ((((k : Nat) : Int) : Int) < (((l.length : Nat) : Int) : Int))))), (16, .bool ((dget l k).itself))]) ⟨rfl, rfl, rfl, rfl, rfl, rfl, rfl, rfl, trivial⟩ ?_)
        refine WE.next ?_
        refine WC.ret ?_
        refine WE.blockRet ?_
        refine WE.thenRet ?_
        refine WE.thenRet ?_
        refine WE.blockRet ?_
        refine WE.thenRet ?_
        refine WE.ret1 rfl rfl ?_
        have hb13 : Below w.heap.size w w11 := (bstep hb2 hbi10)
        exact ⟨_, rfl, ⟨_, rfl, .inr ⟨k, rfl, by omega, h12, hne⟩⟩, hb13⟩
      · skip
        refine WC.skip ?_
        refine WE.blockNormal ?_
        refine WE.next ?_
        refine WC.region ?_
        refine WL.val (.int .i64 ((((k + 1) : Nat) : Int))) rfl rfl rfl (fun za zC zh zk => addb_3 rfl (zh.ev rfl) (zh.ev rfl) (wrap_eq (by omega) (by omega) (by omega)) zk) ?_
        refine WL.val (.int .i64 ((((k + 1) : Nat) : Int))) rfl rfl rfl (fun za zC zh zk => wp_move rfl (zh.ev rfl) zk) ?_
        refine WL.nil (WE.sub (K' := [(0, .slice a l.length c), (1, .func (.func 40) #[] #[]), (5, .int .i64 (((k : Nat) : Int))), (7, .int .i64 (((l.length : Nat) : Int))), (8, .int .i64 ((((k + 1) : Nat) : Int))), (9, .bool ((decide ((((k : Nat) : Int) : Int) < (((l.length : Nat) : Int) : Int))))), (16, .bool ((dget l k).itself))]) ⟨rfl, rfl, rfl, rfl, rfl, rfl, rfl, trivial⟩ ?_)
        refine WE.round (k + 1) ⟨rfl, rfl, rfl, rfl, trivial⟩ ?_ ?_
        · have hb14 : Below w.heap.size w w11 := (bstep hb2 hbi10)
          exact ⟨by omega, no_step hne (by simpa using h12), hb14⟩
        · omega
    · have h3 : ¬ ((((k : Nat) : Int) : Int) < (((l.length : Nat) : Int) : Int)) := by simpa using h3
      refine WC.exit ?_
      refine WE.thenExit ?_
      refine WE.thenExit ?_
      refine WE.blockIs rfl ?_
      refine WE.next ?_
      refine WC.seq ?_
      refine WC.region ?_
      refine WL.val (.int .i64 ((-1))) rfl rfl rfl (fun za zC zh zk => wp_assign rfl (zh.ev rfl) zk) ?_
      refine WL.nil (WE.sub (K' := [(0, .slice a l.length c), (1, .func (.func 40) #[] #[]), (4, .int .i64 ((-1))), (7, .int .i64 (((l.length : Nat) : Int))), (8, .int .i64 (((k : Nat) : Int))), (9, .bool ((decide ((((k : Nat) : Int) : Int) < (((l.length : Nat) : Int) : Int)))))]) ⟨rfl, rfl, rfl, rfl, rfl, rfl, trivial⟩ ?_)
      refine WE.next ?_
      refine WC.ret ?_
      refine WE.ret1 rfl rfl ?_
      exact ⟨_, rfl, ⟨_, rfl, .inl ⟨rfl, fun i hi => hne i (by omega)⟩⟩, hb2⟩

/-- How far the deletion is. -/
def keepB (x : Bd) : Bool := !x.itself
def DelInv (l : List Bd) (i j : Nat) (P : List Bd) : Prop := P.length = l.length ∧ P.take i = (l.take j).filter keepB ∧ P.drop j = l.drop j
theorem take_keep {l : List Bd} {i : Nat} (h : ∀ k, k < i → (dget l k).itself = false) (hi : i ≤ l.length) : (l.take i).filter keepB = l.take i := by
  rw [List.filter_eq_self]
  intro x hx
  obtain ⟨k, hk, rfl⟩ := List.getElem_of_mem hx
  have hk' : k < i := by simp at hk; omega
  have := h k hk'
  rw [dget_lt (by omega)] at this
  simp [keepB, this]
theorem delInv_start {l : List Bd} {i : Nat} (hi : i < l.length) (h1 : (dget l i).itself = true) (h2 : ∀ k, k < i → (dget l k).itself = false) : DelInv l i (i + 1) l := by
  refine ⟨rfl, ?_, rfl⟩
  rw [List.take_succ_eq_append_getElem hi, List.filter_append, take_keep h2 (by omega)]
  rw [dget_lt hi] at h1
  simp [keepB, h1]
theorem delInv_dget {l P : List Bd} {i j : Nat} (h : DelInv l i j P) (hj : j < l.length) : dget P j = dget l j := by
  have e : (P.drop j)[0]? = (l.drop j)[0]? := by rw [h.2.2]
  rw [List.getElem?_drop, List.getElem?_drop, Nat.add_zero] at e
  have hP := h.1
  rw [List.getElem?_eq_getElem (by omega), List.getElem?_eq_getElem hj] at e
  rw [dget_lt (by omega), dget_lt hj]
  exact Option.some.inj e
theorem delInv_skip {l P : List Bd} {i j : Nat} (h : DelInv l i j P) (hj : j < l.length) (hs : (dget P j).itself = true) : DelInv l i (j + 1) P := by
  rw [delInv_dget h hj] at hs
  obtain ⟨h1, h2, h3⟩ := h
  refine ⟨h1, ?_, ?_⟩
  · rw [List.take_succ_eq_append_getElem hj, List.filter_append, h2]
    rw [dget_lt hj] at hs
    simp [keepB, hs]
  · rw [← List.drop_drop, h3, List.drop_drop]
theorem delInv_keep {l P : List Bd} {i j : Nat} (h : DelInv l i j P) (hi : i < j) (hj : j < l.length) (hs : ¬ (dget P j).itself = true) : DelInv l (i + 1) (j + 1) (P.set i (dget P j)) := by
  have hd := delInv_dget h hj
  rw [hd] at hs ⊢
  obtain ⟨h1, h2, h3⟩ := h
  refine ⟨by simpa using h1, ?_, ?_⟩
  · rw [List.take_succ_eq_append_getElem (by simp; omega), List.take_set_of_le (by omega), h2, List.take_succ_eq_append_getElem hj, List.filter_append]
    rw [dget_lt hj] at hs ⊢
    simp [keepB, hs]
  · rw [List.drop_set_of_lt (by omega), ← List.drop_drop, h3, List.drop_drop]
theorem delInv_end {l P : List Bd} {i j : Nat} (h : DelInv l i j P) (hj : l.length ≤ j) : P.take i = l.filter keepB := by rw [h.2.1, List.take_of_length_le hj]
set_option maxRecDepth 100000 in
theorem del_some {w : World} {B rc n g : Nat} {l : List Bd} (hrow : RowE eltB w B 56 (some ⟨g, 0, none⟩) rc n l) (hn : n ≤ 4294967296) :
    Calls Try.prog 39 #[.slice (some ⟨g, 0, none⟩) n rc, .func (.func 40) #[] #[]] w (Ret fun v' w' => v' = .slice (some ⟨g, 0, none⟩) (l.filter keepB).length rc ∧ RowE eltB w' B 56 (some ⟨g, 0, none⟩) rc (l.filter keepB).length (l.filter keepB) ∧ Chg (fun b => b = g) w w') := by
  have hlen := hrow.len
  have hrc := hrow.inRow.2.2.1
  have hrm := hrow.inRow.2.2.2
  unfold maxLen at hrm
  have hgl := (hrow.lt g own_some).2
  refine Calls.walk (l := [.slice ((some ⟨g, 0, none⟩)) n rc, .func (.func 40) #[] #[]]) Try.func39 rfl (by kernel_rfl) ?_
  refine WC.sub (K' := [(0, .slice ((some ⟨g, 0, none⟩)) n rc), (1, .func (.func 40) #[] #[])]) ⟨rfl, rfl, trivial⟩ ?_
  refine WC.seq ?_
  refine WC.region ?_
  refine WL.val (.slice none 0 0) rfl rfl rfl (fun za zC zh zk => wp_assign rfl (zh.ev rfl) zk) ?_
  refine WL.nil (WE.sub (K' := [(0, .slice ((some ⟨g, 0, none⟩)) n rc), (1, .func (.func 40) #[] #[]), (4, .slice none 0 0)]) ⟨rfl, rfl, rfl, trivial⟩ ?_)
  refine WE.next ?_
  refine WC.seq ?_
  refine WC.region ?_
  refine WL.val (.slice ((some ⟨g, 0, none⟩)) n rc) rfl rfl rfl (fun za zC zh zk => wp_move rfl (zh.ev rfl) zk) ?_
  refine WL.val (.func (.func 40) #[] #[]) rfl rfl rfl (fun za zC zh zk => wp_move rfl (zh.ev rfl) zk) ?_
  refine WL.call rfl rfl rfl (fun za zh zC => wp_call (by kernel_rfl) rfl (hv2 (zh.ev rfl) (zh.ev rfl))) (index_any l n hlen _ _ _ (by omega) ((hrow.inRow.1.mono (by decide) (fun _ _ _ => trivial)))) ?_
  rintro _ w1 ⟨⟨r, rfl, hidx⟩, hbx⟩
  refine WL.val (.int .i64 r) rfl rfl rfl (fun za zC zh zk => wp_assign rfl (zh.ev rfl) zk) ?_
  refine WL.nil (WE.sub (K' := [(0, .slice ((some ⟨g, 0, none⟩)) n rc), (1, .func (.func 40) #[] #[]), (4, .slice none 0 0), (5, .int .i64 r)]) ⟨rfl, rfl, rfl, rfl, trivial⟩ ?_)
  refine WE.next ?_
  refine WC.seq ?_
  refine WC.seq ?_
  refine WC.region ?_
  refine WL.val (.int .i64 r) rfl rfl rfl (fun za zC zh zk => wp_move rfl (zh.ev rfl) zk) ?_
  refine WL.val (.bool (((r : Int) == ((-1) : Int)))) rfl rfl rfl (fun za zC zh zk => eql_3 rfl (zh.ev rfl) (zh.ev rfl) zk) ?_
  refine WL.nil (WE.sub (K' := [(0, .slice ((some ⟨g, 0, none⟩)) n rc), (1, .func (.func 40) #[] #[]), (4, .slice none 0 0), (5, .int .i64 r), (12, .bool (((r : Int) == ((-1) : Int))))]) ⟨rfl, rfl, rfl, rfl, rfl, trivial⟩ ?_)
  refine WE.next ?_
  refine WC.cond rfl (fun h2 => ?_) (fun h2 => ?_)
  · have h2 : (r : Int) = ((-1) : Int) := by simpa using h2
    refine WC.seq ?_
    refine WC.region ?_
    refine WL.val (.slice ((some ⟨g, 0, none⟩)) n rc) rfl rfl rfl (fun za zC zh zk => wp_move rfl (zh.ev rfl) zk) ?_
    refine WL.val (.slice ((some ⟨g, 0, none⟩)) n rc) rfl rfl rfl (fun za zC zh zk => wp_assign rfl (zh.ev rfl) zk) ?_
    refine WL.nil (WE.sub (K' := [(0, .slice ((some ⟨g, 0, none⟩)) n rc), (1, .func (.func 40) #[] #[]), (4, .slice ((some ⟨g, 0, none⟩)) n rc), (5, .int .i64 r), (12, .bool (((r : Int) == ((-1) : Int))))]) ⟨rfl, rfl, rfl, rfl, rfl, trivial⟩ ?_)
    refine WE.next ?_
    refine WC.ret ?_
    refine WE.thenRet ?_
    refine WE.ret1 rfl rfl ?_
    have ho3 := hrow.below hbx
    have hs4 : Chg ((fun b => b = g)) w w1 := (Chg.trans2 (Chg.refl ((fun b => b = g)) _) (Chg.ofBelow (S := fun k => k < 0) hbx) (fun i h1 h2 => by (try dsimp only at *); omega))
    rcases hidx with ⟨_, hall⟩ | ⟨i0, e, _⟩
    · have e := take_keep (l := l) (i := l.length) (fun k hk => hall k hk) (Nat.le_refl _)
      rw [List.take_length] at e
      rw [e, ← hlen]
      exact ⟨_, rfl, rfl, ho3, hs4⟩
    · omega
  · have h2 : ¬ ((r : Int) = ((-1) : Int)) := by simpa using h2
    rcases hidx with ⟨e, _⟩ | ⟨i0, rfl, hi1, hi2, hi3⟩
    · exact absurd e h2
    refine WC.skip ?_
    refine WE.next ?_
    refine WC.seq ?_
    refine WC.seq ?_
    refine WC.region ?_
    refine WL.val (.int .i64 (((i0 : Nat) : Int))) rfl rfl rfl (fun za zC zh zk => wp_move rfl (zh.ev rfl) zk) ?_
    refine WL.val (.int .i64 ((((i0 + 1) : Nat) : Int))) rfl rfl rfl (fun za zC zh zk => addb_3 rfl (zh.ev rfl) (zh.ev rfl) (wrap_eq (by omega) (by omega) (by omega)) zk) ?_
    refine WL.val (.int .i64 ((((i0 + 1) : Nat) : Int))) rfl rfl rfl (fun za zC zh zk => wp_assign rfl (zh.ev rfl) zk) ?_
    refine WL.nil (WE.sub (K' := [(0, .slice ((some ⟨g, 0, none⟩)) n rc), (1, .func (.func 40) #[] #[]), (4, .slice none 0 0), (5, .int .i64 (((i0 : Nat) : Int))), (6, .int .i64 ((((i0 + 1) : Nat) : Int)))]) ⟨rfl, rfl, rfl, rfl, rfl, trivial⟩ ?_)
    refine WE.next ?_
    refine WC.block ?_
    refine WC.loop (X := Nat × Nat × List Bd) (fun x => n - x.2.1) (fun x => [(0, .slice ((some ⟨g, 0, none⟩)) n rc), (1, .func (.func 40) #[] #[]), (4, .slice none 0 0), (5, .int .i64 (((x.1 : Nat) : Int))), (6, .int .i64 (((x.2.1 : Nat) : Int)))]) (fun x w5 => x.1 < x.2.1 ∧ x.2.1 ≤ n ∧ DelInv l x.1 x.2.1 x.2.2 ∧ RowE eltB (w5) B 56 (some ⟨g, 0, none⟩) rc n x.2.2 ∧ Chg ((fun b => b = g)) w w5) ((i0, i0 + 1, l)) ⟨rfl, rfl, rfl, rfl, rfl, trivial⟩ ?_ ?_
    · have ho6 := hrow.below hbx
      have hs7 : Chg ((fun b => b = g)) w w1 := (Chg.trans2 (Chg.refl ((fun b => b = g)) _) (Chg.ofBelow (S := fun k => k < 0) hbx) (fun i h1 h2 => by (try dsimp only at *); omega))
      exact ⟨by (try dsimp only); omega, by (try dsimp only); omega, delInv_start hi1 hi2 hi3, ho6, hs7⟩
    · rintro x w5 ⟨hij, hjn, hD, ho8, hc9⟩
      have hgl2 := (ho8.lt g own_some).2
      have hPl := ho8.len
      refine WC.seq ?_
      refine WC.seq ?_
      refine WC.region ?_
      refine WL.val (.int .i64 (((x.2.1 : Nat) : Int))) rfl rfl rfl (fun za zC zh zk => wp_move rfl (zh.ev rfl) zk) ?_
      refine WL.val (.slice ((some ⟨g, 0, none⟩)) n rc) rfl rfl rfl (fun za zC zh zk => wp_move rfl (zh.ev rfl) zk) ?_
      refine WL.val (.int .i64 (((n : Nat) : Int))) rfl rfl rfl (fun za zC zh zk => len_23 rfl (zh.ev rfl) zk) ?_
      refine WL.val (.bool ((decide ((((x.2.1 : Nat) : Int) : Int) < (((n : Nat) : Int) : Int))))) rfl rfl rfl (fun za zC zh zk => lss_3 rfl (zh.ev rfl) (zh.ev rfl) zk) ?_
      refine WL.nil (WE.sub (K' := [(0, .slice ((some ⟨g, 0, none⟩)) n rc), (1, .func (.func 40) #[] #[]), (4, .slice none 0 0), (5, .int .i64 (((x.1 : Nat) : Int))), (6, .int .i64 (((x.2.1 : Nat) : Int))), (19, .bool ((decide ((((x.2.1 : Nat) : Int) : Int) < (((n : Nat) : Int) : Int)))))]) ⟨rfl, rfl, rfl, rfl, rfl, rfl, trivial⟩ ?_)
      refine WE.next ?_
      refine WC.cond rfl (fun h10 => ?_) (fun h10 => ?_)
      · have h10 : (((x.2.1 : Nat) : Int) : Int) < (((n : Nat) : Int) : Int) := by simpa using h10
        refine WC.skip ?_
        refine WE.next ?_
        refine WC.seq ?_
        refine WC.block ?_
        refine WC.seq ?_
        refine WC.region ?_
        refine WL.val (.slice ((some ⟨g, 0, none⟩)) n rc) rfl rfl rfl (fun za zC zh zk => wp_move rfl (zh.ev rfl) zk) ?_
        refine WL.val (.int .i64 (((x.2.1 : Nat) : Int))) rfl rfl rfl (fun za zC zh zk => wp_move rfl (zh.ev rfl) zk) ?_
        obtain ⟨A11, C12, hc13⟩ := ho8.cells
        refine WL.val (.pointer (some ⟨g, 0 + x.2.1 * 3, none⟩)) rfl rfl rfl (fun za zC zh zk => ix_23 (k := x.2.1) rfl (zh.ev rfl) rfl (zh.ev rfl) (by first | omega | (simp; omega)) zk) ?_
        refine WL.val (.agg #[.int .i64 ((dget x.2.2 x.2.1).var), .int .i64 ((dget x.2.2 x.2.1).t.f), .slice ((A11 x.2.1)) ((dget x.2.2 x.2.1).t.args.length) ((C12 x.2.1))]) rfl rfl rfl (fun za zC zh zk => ld_56 rfl (zh.ev rfl) (hc13 x.2.1 (by first | omega | (simp; omega))).1 (hc13 x.2.1 (by first | omega | (simp; omega))).2.1 (hc13 x.2.1 (by first | omega | (simp; omega))).2.2.1 zk) ?_
        refine WL.step (post := NewBlk w5 56 #[.int .i64 0, .int .i64 0, .slice none 0 0]) rfl rfl rfl (fun za zC zh zk => alloc_56 rfl (zk _ _ (newBlk _ _ _))) ?_
        rintro _ w14 ⟨g15, rfl, hg16, hB17, hb18, hz19⟩
        have hl20 : w5.heap.size ≤ g15 := by omega
        refine WL.step (post := fun _ w' => Upd g15 w14 w' ∧ Blk w' g15 56 #[.int .i64 ((dget x.2.2 x.2.1).var), .int .i64 ((dget x.2.2 x.2.1).t.f), .slice ((A11 x.2.1)) ((dget x.2.2 x.2.1).t.args.length) ((C12 x.2.1))]) rfl rfl rfl (fun za zC zh zk => st_56 rfl (zh.ev rfl) (zh.ev rfl) rfl rfl rfl hB17 (by first | decide | simp) (fun v => zk v _ ⟨((Upd.at_ _ _ _ _).trans (Upd.at_ _ _ _ _)).trans (Upd.at_ _ _ _ _), ((hB17.set_ 0 _).set_ 1 _).set_ 2 _⟩)) ?_
        rintro v24 w21 ⟨hu22, hB23⟩
        have hb25 := upd_below hb18 hu22 (by omega)
        refine WL.nil (WE.sub (K' := [(0, .slice ((some ⟨g, 0, none⟩)) n rc), (1, .func (.func 40) #[] #[]), (4, .slice none 0 0), (5, .int .i64 (((x.1 : Nat) : Int))), (6, .int .i64 (((x.2.1 : Nat) : Int))), (7, .pointer (some ⟨g15, 0, none⟩)), (19, .bool ((decide ((((x.2.1 : Nat) : Int) : Int) < (((n : Nat) : Int) : Int)))))]) ⟨rfl, rfl, rfl, rfl, rfl, rfl, rfl, trivial⟩ ?_)
        refine WE.next ?_
        refine WC.seq ?_
        refine WC.region ?_
        refine WL.val (.func (.func 40) #[] #[]) rfl rfl rfl (fun za zC zh zk => wp_move rfl (zh.ev rfl) zk) ?_
        refine WL.val (.agg #[.int .i64 ((dget x.2.2 x.2.1).var), .int .i64 ((dget x.2.2 x.2.1).t.f), .slice ((A11 x.2.1)) ((dget x.2.2 x.2.1).t.args.length) ((C12 x.2.1))]) rfl rfl rfl (fun za zC zh zk => ld_56 rfl (zh.ev rfl) ((hB23.cell 0).trans rfl) ((hB23.cell 1).trans rfl) ((hB23.cell 2).trans rfl) zk) ?_
        refine WL.call rfl rfl rfl (fun za zh zC => wp_callv (by kernel_rfl) rfl (zh.ev rfl) (hv1 (zh.ev rfl))) (itself_any (dget x.2.2 x.2.1) _ _ (IsBd.below hb25 ⟨_, _, rfl, (hc13 x.2.1 (by first | omega | (simp; omega))).2.2.2.2, (InT.isT (hc13 x.2.1 (by first | omega | (simp; omega))).2.2.2.1)⟩)) ?_
        rintro _ w27 ⟨rfl, hbi26⟩
        refine WL.val (.bool ((!(dget x.2.2 x.2.1).itself))) rfl rfl rfl (fun za zC zh zk => wp_not rfl (zh.ev rfl) zk) ?_
        refine WL.nil (WE.sub (K' := [(0, .slice ((some ⟨g, 0, none⟩)) n rc), (1, .func (.func 40) #[] #[]), (4, .slice none 0 0), (5, .int .i64 (((x.1 : Nat) : Int))), (6, .int .i64 (((x.2.1 : Nat) : Int))), (7, .pointer (some ⟨g15, 0, none⟩)), (19, .bool ((decide ((((x.2.1 : Nat) : Int) : Int) < (((n : Nat) : Int) : Int))))), (29, .bool ((!(dget x.2.2 x.2.1).itself)))]) ⟨rfl, rfl, rfl, rfl, rfl, rfl, rfl, rfl, trivial⟩ ?_)
        refine WE.next ?_
        refine WC.cond rfl (fun h28 => ?_) (fun h28 => ?_)
        · have h28 : ¬ ((dget x.2.2 x.2.1).itself = true) := by simpa using h28
          refine WC.seq ?_
          refine WC.region ?_
          refine WL.val (.slice ((some ⟨g, 0, none⟩)) n rc) rfl rfl rfl (fun za zC zh zk => wp_move rfl (zh.ev rfl) zk) ?_
          refine WL.val (.int .i64 (((x.1 : Nat) : Int))) rfl rfl rfl (fun za zC zh zk => wp_move rfl (zh.ev rfl) zk) ?_
          have hB29 := hB23.below hbi26
          refine WL.val (.agg #[.int .i64 ((dget x.2.2 x.2.1).var), .int .i64 ((dget x.2.2 x.2.1).t.f), .slice ((A11 x.2.1)) ((dget x.2.2 x.2.1).t.args.length) ((C12 x.2.1))]) rfl rfl rfl (fun za zC zh zk => ld_56 rfl (zh.ev rfl) ((hB29.cell 0).trans rfl) ((hB29.cell 1).trans rfl) ((hB29.cell 2).trans rfl) zk) ?_
          refine WL.val (.pointer (some ⟨g, 0 + x.1 * 3, none⟩)) rfl rfl rfl (fun za zC zh zk => ix_23 (k := x.1) rfl (zh.ev rfl) rfl (zh.ev rfl) (by first | omega | (simp; omega)) zk) ?_
          have hb31 : Below w5.heap.size w5 w27 := (bstep hb25 hbi26)
          have ho30 := ho8.below hb31
          obtain ⟨cu36, ds37, hb38, _, _, _, _, _, hs39, _, _⟩ := ho30.open3
          refine WL.step (post := fun _ w' => Upd g w27 w' ∧ RowE eltB w' B 56 (some ⟨g, 0, none⟩) rc n ((x.2.2.set x.1 (dget x.2.2 x.2.1)))) rfl rfl rfl (fun za zC zh zk => st_56 rfl (zh.ev rfl) (zh.ev rfl) rfl rfl rfl hb38 (by omega) (fun v => zk v _ ⟨((Upd.at_ _ _ _ _).trans (Upd.at_ _ _ _ _)).trans (Upd.at_ _ _ _ _), ho30.store3 (by omega) (hc13 x.2.1 (by first | omega | (simp; omega))).2.2.2.2 (InT.below hb31 ((hc13 x.2.1 (by first | omega | (simp; omega))).2.2.2.1))⟩)) ?_
          rintro v35 w32 ⟨hu33, hr34⟩
          have hB40 := upd_blk hB29 hu33 (by omega)
          refine WL.nil (WE.sub (K' := [(0, .slice ((some ⟨g, 0, none⟩)) n rc), (1, .func (.func 40) #[] #[]), (4, .slice none 0 0), (5, .int .i64 (((x.1 : Nat) : Int))), (6, .int .i64 (((x.2.1 : Nat) : Int))), (7, .pointer (some ⟨g15, 0, none⟩)), (19, .bool ((decide ((((x.2.1 : Nat) : Int) : Int) < (((n : Nat) : Int) : Int))))), (29, .bool ((!(dget x.2.2 x.2.1).itself)))]) ⟨rfl, rfl, rfl, rfl, rfl, rfl, rfl, rfl, trivial⟩ ?_)
          refine WE.next ?_
          refine WC.region ?_
          refine WL.val (.int .i64 (((x.1 : Nat) : Int))) rfl rfl rfl (fun za zC zh zk => wp_move rfl (zh.ev rfl) zk) ?_
          refine WL.val (.int .i64 ((((x.1 + 1) : Nat) : Int))) rfl rfl rfl (fun za zC zh zk => addb_3 rfl (zh.ev rfl) (zh.ev rfl) (wrap_eq (by omega) (by omega) (by omega)) zk) ?_
          refine WL.val (.int .i64 ((((x.1 + 1) : Nat) : Int))) rfl rfl rfl (fun za zC zh zk => wp_assign rfl (zh.ev rfl) zk) ?_
          refine WL.nil (WE.sub (K' := [(0, .slice ((some ⟨g, 0, none⟩)) n rc), (1, .func (.func 40) #[] #[]), (4, .slice none 0 0), (5, .int .i64 ((((x.1 + 1) : Nat) : Int))), (6, .int .i64 (((x.2.1 : Nat) : Int))), (7, .pointer (some ⟨g15, 0, none⟩)), (19, .bool ((decide ((((x.2.1 : Nat) : Int) : Int) < (((n : Nat) : Int) : Int))))), (29, .bool ((!(dget x.2.2 x.2.1).itself)))]) ⟨rfl, rfl, rfl, rfl, rfl, rfl, rfl, rfl, trivial⟩ ?_)
          refine WE.blockNormal ?_
          refine WE.next ?_
          refine WC.region ?_
          refine WL.val (.int .i64 (((x.2.1 : Nat) : Int))) rfl rfl rfl (fun za zC zh zk => wp_move rfl (zh.ev rfl) zk) ?_
          refine WL.val (.int .i64 ((((x.2.1 + 1) : Nat) : Int))) rfl rfl rfl (fun za zC zh zk => addb_3 rfl (zh.ev rfl) (zh.ev rfl) (wrap_eq (by omega) (by omega) (by omega)) zk) ?_
          refine WL.val (.int .i64 ((((x.2.1 + 1) : Nat) : Int))) rfl rfl rfl (fun za zC zh zk => wp_assign rfl (zh.ev rfl) zk) ?_
          refine WL.nil (WE.sub (K' := [(0, .slice ((some ⟨g, 0, none⟩)) n rc), (1, .func (.func 40) #[] #[]), (4, .slice none 0 0), (5, .int .i64 ((((x.1 + 1) : Nat) : Int))), (6, .int .i64 ((((x.2.1 + 1) : Nat) : Int))), (7, .pointer (some ⟨g15, 0, none⟩)), (19, .bool ((decide ((((x.2.1 : Nat) : Int) : Int) < (((n : Nat) : Int) : Int))))), (29, .bool ((!(dget x.2.2 x.2.1).itself)))]) ⟨rfl, rfl, rfl, rfl, rfl, rfl, rfl, rfl, trivial⟩ ?_)
          refine WE.round (((x.1 + 1), x.2.1 + 1, (x.2.2.set x.1 (dget x.2.2 x.2.1)))) ⟨rfl, rfl, rfl, rfl, rfl, trivial⟩ ?_ ?_
          · have hs41 : Chg ((fun b => b = g)) w w32 := (Chg.trans2 (Chg.trans2 (Chg.trans2 (Chg.refl ((fun b => b = g)) _) hc9 (fun i h1 h2 => by (try dsimp only at *); omega)) (Chg.ofBelow (S := fun k => k < 0) hb31) (fun i h1 h2 => by (try dsimp only at *); omega)) (Chg.ofUpd (S := fun k => k = g) hu33 rfl) (fun i h1 h2 => by (try dsimp only at *); omega))
            exact ⟨by (try dsimp only at *); omega, by (try dsimp only at *); omega, delInv_keep hD (by omega) (by omega) h28, hr34, hs41⟩
          · dsimp only; omega
        · have h28 : ¬ (¬ ((dget x.2.2 x.2.1).itself = true)) := by simpa using h28
          refine WC.skip ?_
          refine WE.blockNormal ?_
          refine WE.next ?_
          refine WC.region ?_
          refine WL.val (.int .i64 (((x.2.1 : Nat) : Int))) rfl rfl rfl (fun za zC zh zk => wp_move rfl (zh.ev rfl) zk) ?_
          refine WL.val (.int .i64 ((((x.2.1 + 1) : Nat) : Int))) rfl rfl rfl (fun za zC zh zk => addb_3 rfl (zh.ev rfl) (zh.ev rfl) (wrap_eq (by omega) (by omega) (by omega)) zk) ?_
          refine WL.val (.int .i64 ((((x.2.1 + 1) : Nat) : Int))) rfl rfl rfl (fun za zC zh zk => wp_assign rfl (zh.ev rfl) zk) ?_
          refine WL.nil (WE.sub (K' := [(0, .slice ((some ⟨g, 0, none⟩)) n rc), (1, .func (.func 40) #[] #[]), (4, .slice none 0 0), (5, .int .i64 (((x.1 : Nat) : Int))), (6, .int .i64 ((((x.2.1 + 1) : Nat) : Int))), (7, .pointer (some ⟨g15, 0, none⟩)), (19, .bool ((decide ((((x.2.1 : Nat) : Int) : Int) < (((n : Nat) : Int) : Int))))), (29, .bool ((!(dget x.2.2 x.2.1).itself)))]) ⟨rfl, rfl, rfl, rfl, rfl, rfl, rfl, rfl, trivial⟩ ?_)
          refine WE.round ((x.1, x.2.1 + 1, x.2.2)) ⟨rfl, rfl, rfl, rfl, rfl, trivial⟩ ?_ ?_
          · have hb43 : Below w5.heap.size w5 w27 := (bstep hb25 hbi26)
            have ho42 := ho8.below hb43
            have hs44 : Chg ((fun b => b = g)) w w27 := (Chg.trans2 (Chg.trans2 (Chg.refl ((fun b => b = g)) _) hc9 (fun i h1 h2 => by (try dsimp only at *); omega)) (Chg.ofBelow (S := fun k => k < 0) hb43) (fun i h1 h2 => by (try dsimp only at *); omega))
            exact ⟨by (try dsimp only at *); omega, by (try dsimp only at *); omega, delInv_skip hD (by omega) (by simpa using h28), ho42, hs44⟩
          · dsimp only; omega
      · have h10 : ¬ ((((x.2.1 : Nat) : Int) : Int) < (((n : Nat) : Int) : Int)) := by simpa using h10
        refine WC.exit ?_
        refine WE.thenExit ?_
        refine WE.thenExit ?_
        refine WE.blockIs rfl ?_
        refine WE.next ?_
        refine WC.seq ?_
        refine WC.region ?_
        refine WL.val (.slice ((some ⟨g, 0, none⟩)) n rc) rfl rfl rfl (fun za zC zh zk => wp_move rfl (zh.ev rfl) zk) ?_
        refine WL.val (.int .i64 (((x.1 : Nat) : Int))) rfl rfl rfl (fun za zC zh zk => wp_move rfl (zh.ev rfl) zk) ?_
        refine WL.val (.slice ((slA ((some ⟨g, 0, none⟩)) x.1 3 rc)) ((n - x.1)) ((rc - x.1))) rfl rfl rfl (fun za zC zh zk => slo_23 (k := x.1) rfl (zh.ev rfl) (zh.ev rfl) (by omega) (by omega) zk) ?_
        refine WL.step (post := fun _ w' => Upd g w5 w' ∧ RowE eltB w' B 56 (some ⟨g, 0, none⟩) rc x.1 (x.2.2.take x.1)) rfl rfl rfl (fun za zC zh zk => wp_clearB (i := x.1) rfl ((zh.ev rfl).trans (by rw [slA_some (by omega)])) ho8 (by omega) (by omega) (fun w' h1 h2 => zk _ w' ⟨h1, h2⟩)) ?_
        rintro v48 w45 ⟨hu46, hr47⟩
        refine WL.nil (WE.sub (K' := [(0, .slice ((some ⟨g, 0, none⟩)) n rc), (1, .func (.func 40) #[] #[]), (4, .slice none 0 0), (5, .int .i64 (((x.1 : Nat) : Int))), (6, .int .i64 (((x.2.1 : Nat) : Int))), (19, .bool ((decide ((((x.2.1 : Nat) : Int) : Int) < (((n : Nat) : Int) : Int)))))]) ⟨rfl, rfl, rfl, rfl, rfl, rfl, trivial⟩ ?_)
        refine WE.next ?_
        refine WC.seq ?_
        refine WC.region ?_
        refine WL.val (.slice ((some ⟨g, 0, none⟩)) n rc) rfl rfl rfl (fun za zC zh zk => wp_move rfl (zh.ev rfl) zk) ?_
        refine WL.val (.int .i64 (((x.1 : Nat) : Int))) rfl rfl rfl (fun za zC zh zk => wp_move rfl (zh.ev rfl) zk) ?_
        refine WL.val (.slice ((some ⟨g, 0, none⟩)) x.1 rc) rfl rfl rfl (fun za zC zh zk => shi_23 (k := x.1) rfl (zh.ev rfl) (zh.ev rfl) (by omega) zk) ?_
        refine WL.val (.slice ((some ⟨g, 0, none⟩)) x.1 rc) rfl rfl rfl (fun za zC zh zk => wp_assign rfl (zh.ev rfl) zk) ?_
        refine WL.nil (WE.sub (K' := [(0, .slice ((some ⟨g, 0, none⟩)) n rc), (1, .func (.func 40) #[] #[]), (4, .slice ((some ⟨g, 0, none⟩)) x.1 rc), (5, .int .i64 (((x.1 : Nat) : Int))), (6, .int .i64 (((x.2.1 : Nat) : Int))), (19, .bool ((decide ((((x.2.1 : Nat) : Int) : Int) < (((n : Nat) : Int) : Int)))))]) ⟨rfl, rfl, rfl, rfl, rfl, rfl, trivial⟩ ?_)
        refine WE.next ?_
        refine WC.ret ?_
        refine WE.ret1 rfl rfl ?_
        have hs49 : Chg ((fun b => b = g)) w w45 := (Chg.trans2 (Chg.trans2 (Chg.refl ((fun b => b = g)) _) hc9 (fun i h1 h2 => by (try dsimp only at *); omega)) (Chg.ofUpd (S := fun k => k = g) hu46 rfl) (fun i h1 h2 => by (try dsimp only at *); omega))
        have hfin := delInv_end hD (by omega)
        have hP1 := hD.1
        have hfl : (l.filter keepB).length = x.1 := by rw [← hfin, List.length_take]; omega
        rw [hfl, ← hfin]
        exact ⟨_, rfl, rfl, hr47, hs49⟩

set_option maxRecDepth 100000 in
theorem del_none (w : World) : Calls Try.prog 39 #[.slice none 0 0, .func (.func 40) #[] #[]] w (Ret fun v' w' => v' = .slice none 0 0 ∧ Below w.heap.size w w') := by
  refine Calls.walk (l := [.slice none 0 0, .func (.func 40) #[] #[]]) Try.func39 rfl (by kernel_rfl) ?_
  refine WC.sub (K' := [(0, .slice none 0 0), (1, .func (.func 40) #[] #[])]) ⟨rfl, rfl, trivial⟩ ?_
  refine WC.seq ?_
  refine WC.region ?_
  refine WL.val (.slice none 0 0) rfl rfl rfl (fun za zC zh zk => wp_assign rfl (zh.ev rfl) zk) ?_
  refine WL.nil (WE.sub (K' := [(0, .slice none 0 0), (1, .func (.func 40) #[] #[]), (4, .slice none 0 0)]) ⟨rfl, rfl, rfl, trivial⟩ ?_)
  refine WE.next ?_
  refine WC.seq ?_
  refine WC.region ?_
  refine WL.val (.slice none 0 0) rfl rfl rfl (fun za zC zh zk => wp_move rfl (zh.ev rfl) zk) ?_
  refine WL.val (.func (.func 40) #[] #[]) rfl rfl rfl (fun za zC zh zk => wp_move rfl (zh.ev rfl) zk) ?_
  refine WL.call rfl rfl rfl (fun za zh zC => wp_call (by kernel_rfl) rfl (hv2 (zh.ev rfl) (zh.ev rfl))) (index_any [] 0 rfl _ none 0 (by decide) InRow.nil) ?_
  rintro _ w1 ⟨⟨r, rfl, hidx⟩, hbx⟩
  refine WL.val (.int .i64 r) rfl rfl rfl (fun za zC zh zk => wp_assign rfl (zh.ev rfl) zk) ?_
  refine WL.nil (WE.sub (K' := [(0, .slice none 0 0), (1, .func (.func 40) #[] #[]), (4, .slice none 0 0), (5, .int .i64 r)]) ⟨rfl, rfl, rfl, rfl, trivial⟩ ?_)
  refine WE.next ?_
  refine WC.seq ?_
  refine WC.seq ?_
  refine WC.region ?_
  refine WL.val (.int .i64 r) rfl rfl rfl (fun za zC zh zk => wp_move rfl (zh.ev rfl) zk) ?_
  refine WL.val (.bool (((r : Int) == ((-1) : Int)))) rfl rfl rfl (fun za zC zh zk => eql_3 rfl (zh.ev rfl) (zh.ev rfl) zk) ?_
  refine WL.nil (WE.sub (K' := [(0, .slice none 0 0), (1, .func (.func 40) #[] #[]), (4, .slice none 0 0), (5, .int .i64 r), (12, .bool (((r : Int) == ((-1) : Int))))]) ⟨rfl, rfl, rfl, rfl, rfl, trivial⟩ ?_)
  refine WE.next ?_
  refine WC.cond rfl (fun h2 => ?_) (fun h2 => ?_)
  · have h2 : (r : Int) = ((-1) : Int) := by simpa using h2
    refine WC.seq ?_
    refine WC.region ?_
    refine WL.val (.slice none 0 0) rfl rfl rfl (fun za zC zh zk => wp_move rfl (zh.ev rfl) zk) ?_
    refine WL.val (.slice none 0 0) rfl rfl rfl (fun za zC zh zk => wp_assign rfl (zh.ev rfl) zk) ?_
    refine WL.nil (WE.sub (K' := [(0, .slice none 0 0), (1, .func (.func 40) #[] #[]), (4, .slice none 0 0), (5, .int .i64 r), (12, .bool (((r : Int) == ((-1) : Int))))]) ⟨rfl, rfl, rfl, rfl, rfl, trivial⟩ ?_)
    refine WE.next ?_
    refine WC.ret ?_
    refine WE.thenRet ?_
    refine WE.ret1 rfl rfl ?_
    exact ⟨_, rfl, rfl, hbx⟩
  · have h2 : ¬ ((r : Int) = ((-1) : Int)) := by simpa using h2
    rcases hidx with ⟨e, _⟩ | ⟨i0, _, hi1, _⟩
    · exact absurd e h2
    · exact absurd hi1 (Nat.not_lt_zero _)

theorem del_any {w : World} {B : Nat} {ra : Option Addr} {rc n : Nat} {l : List Bd} (h : RowE eltB w B 56 ra rc n l) (hn : n ≤ 4294967296) :
    Calls Try.prog 39 #[.slice ra n rc, .func (.func 40) #[] #[]] w (Ret fun v' w' => v' = .slice ra (l.filter fun x => !x.itself).length rc ∧ RowE eltB w' B 56 ra rc (l.filter fun x => !x.itself).length (l.filter fun x => !x.itself) ∧ Chg (fun b => (Value.slice ra n rc).ownBlock = some b) w w') := by
  rcases h.nilOr with ⟨rfl, rfl, rfl, rfl⟩ | ⟨g, rfl⟩
  · refine (del_none w).mono ?_
    rintro e w' ⟨v, rfl, rfl, hb⟩
    exact ⟨_, rfl, rfl, RowE.nil, .ofBelow hb⟩
  · refine (del_some h hn).mono ?_
    rintro e w' ⟨v, rfl, rfl, hr, hc⟩
    exact ⟨_, rfl, rfl, hr, hc.os, hc.tape, hc.output, hc.size, fun k hk hn => hc.block k hk (fun e => hn (by rw [e, own_some]))⟩

end Go.Proofs.Ytgechlgdnnpoeaa

/- What two substitutions do together: the program. -/
namespace Go.Proofs.Ytgechlgdnnpoeaa
open Go.RowKit Go

/-- A substitution that was made since. -/
def NewSub (w0 w : World) (R : List Bd) (a : Option Addr) (c : Nat) : Prop := InRow eltB (fun b => w0.heap.size ≤ b) w R a ∧ R.length ≤ c ∧ c ≤ maxLen
def CompIs (w w' : World) (a b : List Bd) (v : Value) : Prop := if subOk (-1) a = true ∧ subOk (-1) b = true then ∃ (R : List Bd) (p : Option Addr) (c : Nat), v = .tuple #[.slice p R.length c, .int .i64 0] ∧ CompOf a b R ∧ NewSub w w' R p c else v = .tuple #[.slice none 0 0, .int .i64 2]
theorem subCheck_ok {l : List Bd} (h : ¬ subCheck l ≠ 0) : subOk (-1) l = true := by
  unfold subCheck at h; split at h
  · assumption
  · omega
theorem subCheck_no {l : List Bd} (h : subCheck l ≠ 0) : ¬ subOk (-1) l = true := by
  unfold subCheck at h; split at h
  · omega
  · assumption
set_option maxRecDepth 100000 in
theorem compose_any (sA sB : List Bd) (w : World) (pa pb : Option Addr) (ca cb : Nat) (hA : IsSub w sA pa ca) (hB : IsSub w sB pb cb) (hla : sA.length ≤ 1048576) (hlb : sB.length ≤ 1048576) : Calls Try.prog 11 #[.slice pa sA.length ca, .slice pb sB.length cb] w (Ret fun v' w' => CompIs w w' sA sB v' ∧ Below w.heap.size w w') := by
  have hcA := hA.cap
  have hcB := hB.cap
  refine Calls.walk (l := [.slice pa sA.length ca, .slice pb sB.length cb]) Try.func11 rfl (by kernel_rfl) ?_
  refine WC.sub (K' := [(0, .slice pa sA.length ca), (1, .slice pb sB.length cb)]) ⟨rfl, rfl, trivial⟩ ?_
  refine WC.seq ?_
  refine WC.region ?_
  refine WL.val (.slice none 0 0) rfl rfl rfl (fun za zC zh zk => wp_assign rfl (zh.ev rfl) zk) ?_
  refine WL.val (.int .i64 0) rfl rfl rfl (fun za zC zh zk => wp_assign rfl (zh.ev rfl) zk) ?_
  refine WL.nil (WE.sub (K' := [(0, .slice pa sA.length ca), (1, .slice pb sB.length cb), (4, .slice none 0 0), (5, .int .i64 0)]) ⟨rfl, rfl, rfl, rfl, trivial⟩ ?_)
  refine WE.next ?_
  refine WC.seq ?_
  refine WC.seq ?_
  refine WC.region ?_
  refine WL.val (.slice pa sA.length ca) rfl rfl rfl (fun za zC zh zk => wp_move rfl (zh.ev rfl) zk) ?_
  refine WL.call rfl rfl rfl (fun za zh zC => wp_call (by kernel_rfl) rfl (hv1 (zh.ev rfl))) (check_any sA _ _ _ hA.len hA.cap (hA.below (Below.refl _ _)).rows) ?_
  rintro _ w2 ⟨rfl, hq1⟩
  refine WL.val (.bool ((((subCheck sA) : Int) != (0 : Int)))) rfl rfl rfl (fun za zC zh zk => neq_26 rfl (zh.ev rfl) (zh.ev rfl) zk) ?_
  refine WL.val (.bool ((((subCheck sA) : Int) != (0 : Int)))) rfl rfl rfl (fun za zC zh zk => wp_move rfl (zh.ev rfl) zk) ?_
  refine bool_split ((((subCheck sA) : Int) != (0 : Int))) (fun h3 => ?_) (fun h3 => ?_)
  · refine WL.sub (K' := [(0, .slice pa sA.length ca), (1, .slice pb sB.length cb), (4, .slice none 0 0), (5, .int .i64 0), (11, .slice pa sA.length ca), (12, .int .i64 ((subCheck sA))), (13, .bool ((((subCheck sA) : Int) != (0 : Int)))), (14, .bool true)]) ⟨rfl, rfl, rfl, rfl, rfl, rfl, rfl, (by exact congrArg (fun z => some (Value.bool z)) h3), trivial⟩ ?_
    have h3 : ((subCheck sA) : Int) ≠ (0 : Int) := by simpa using h3
    refine WL.skip (d := 14) rfl rfl rfl rfl rfl ?_
    refine WL.skip (d := 14) rfl rfl rfl rfl rfl ?_
    refine WL.skip (d := 14) rfl rfl rfl rfl rfl ?_
    refine WL.val (.bool true) rfl rfl rfl (fun za zC zh zk => wp_pickT rfl (zh.ev rfl) (zh.ev rfl) zk) ?_
    refine WL.nil (WE.sub (K' := [(0, .slice pa sA.length ca), (1, .slice pb sB.length cb), (4, .slice none 0 0), (5, .int .i64 0), (18, .bool true)]) ⟨rfl, rfl, rfl, rfl, rfl, trivial⟩ ?_)
    refine WE.next ?_
    refine WC.condT rfl rfl ?_
    refine WC.seq ?_
    refine WC.region ?_
    refine WL.val (.slice none 0 0) rfl rfl rfl (fun za zC zh zk => wp_assign rfl (zh.ev rfl) zk) ?_
    refine WL.val (.int .i64 2) rfl rfl rfl (fun za zC zh zk => wp_assign rfl (zh.ev rfl) zk) ?_
    refine WL.nil (WE.sub (K' := [(0, .slice pa sA.length ca), (1, .slice pb sB.length cb), (4, .slice none 0 0), (5, .int .i64 2), (18, .bool true)]) ⟨rfl, rfl, rfl, rfl, rfl, trivial⟩ ?_)
    refine WE.next ?_
    refine WC.ret ?_
    refine WE.thenRet ?_
    refine WE.ret2 rfl rfl rfl ?_
    refine ⟨_, rfl, ?_, hq1⟩
    unfold CompIs
    rw [if_neg (fun h => by first | exact subCheck_no (by assumption) h.1 | exact subCheck_no (by assumption) h.2)]
  · refine WL.sub (K' := [(0, .slice pa sA.length ca), (1, .slice pb sB.length cb), (4, .slice none 0 0), (5, .int .i64 0), (11, .slice pa sA.length ca), (12, .int .i64 ((subCheck sA))), (13, .bool ((((subCheck sA) : Int) != (0 : Int)))), (14, .bool false)]) ⟨rfl, rfl, rfl, rfl, rfl, rfl, rfl, (by exact congrArg (fun z => some (Value.bool z)) h3), trivial⟩ ?_
    have h3 : ¬ (((subCheck sA) : Int) ≠ (0 : Int)) := by simpa using h3
    refine WL.want (d := 14) rfl rfl rfl ?_
    refine WL.val (.slice pb sB.length cb) rfl rfl rfl (fun za zC zh zk => wp_move rfl (zh.ev rfl) zk) ?_
    refine WL.want (d := 14) rfl rfl rfl ?_
    refine WL.call rfl rfl rfl (fun za zh zC => wp_call (by kernel_rfl) rfl (hv1 (zh.ev rfl))) (check_any sB _ _ _ hB.len hB.cap (hB.below hq1).rows) ?_
    rintro _ w5 ⟨rfl, hq4⟩
    refine WL.want (d := 14) rfl rfl rfl ?_
    refine WL.val (.bool ((((subCheck sB) : Int) != (0 : Int)))) rfl rfl rfl (fun za zC zh zk => neq_26 rfl (zh.ev rfl) (zh.ev rfl) zk) ?_
    refine WL.val (.bool ((((subCheck sB) : Int) != (0 : Int)))) rfl rfl rfl (fun za zC zh zk => wp_pickF rfl (zh.ev rfl) (zh.ev rfl) zk) ?_
    refine WL.nil (WE.sub (K' := [(0, .slice pa sA.length ca), (1, .slice pb sB.length cb), (4, .slice none 0 0), (5, .int .i64 0), (18, .bool ((((subCheck sB) : Int) != (0 : Int))))]) ⟨rfl, rfl, rfl, rfl, rfl, trivial⟩ ?_)
    refine WE.next ?_
    refine WC.cond rfl (fun h6 => ?_) (fun h6 => ?_)
    · have h6 : ((subCheck sB) : Int) ≠ (0 : Int) := by simpa using h6
      refine WC.seq ?_
      refine WC.region ?_
      refine WL.val (.slice none 0 0) rfl rfl rfl (fun za zC zh zk => wp_assign rfl (zh.ev rfl) zk) ?_
      refine WL.val (.int .i64 2) rfl rfl rfl (fun za zC zh zk => wp_assign rfl (zh.ev rfl) zk) ?_
      refine WL.nil (WE.sub (K' := [(0, .slice pa sA.length ca), (1, .slice pb sB.length cb), (4, .slice none 0 0), (5, .int .i64 2), (18, .bool ((((subCheck sB) : Int) != (0 : Int))))]) ⟨rfl, rfl, rfl, rfl, rfl, trivial⟩ ?_)
      refine WE.next ?_
      refine WC.ret ?_
      refine WE.thenRet ?_
      refine WE.ret2 rfl rfl rfl ?_
      have hb7 : Below w.heap.size w w5 := (bstep hq1 hq4)
      refine ⟨_, rfl, ?_, hb7⟩
      unfold CompIs
      rw [if_neg (fun h => by first | exact subCheck_no (by assumption) h.1 | exact subCheck_no (by assumption) h.2)]
    · have h6 : ¬ (((subCheck sB) : Int) ≠ (0 : Int)) := by simpa using h6
      refine WC.skip ?_
      refine WE.next ?_
      refine WC.seq ?_
      refine WC.region ?_
      refine WL.val (.slice none 0 0) rfl rfl rfl (fun za zC zh zk => wp_assign rfl (zh.ev rfl) zk) ?_
      refine WL.nil (WE.sub (K' := [(0, .slice pa sA.length ca), (1, .slice pb sB.length cb), (4, .slice none 0 0), (5, .int .i64 0), (6, .slice none 0 0), (18, .bool ((((subCheck sB) : Int) != (0 : Int))))]) ⟨rfl, rfl, rfl, rfl, rfl, rfl, trivial⟩ ?_)
      refine WE.next ?_
      refine WC.seq ?_
      refine WC.seq ?_
      refine WC.region ?_
      refine WL.val (.slice pa sA.length ca) rfl rfl rfl (fun za zC zh zk => wp_move rfl (zh.ev rfl) zk) ?_
      refine WL.val (.int .i64 (((sA.length : Nat) : Int))) rfl rfl rfl (fun za zC zh zk => len_23 rfl (zh.ev rfl) zk) ?_
      refine WL.val (.int .i64 0) rfl rfl rfl (fun za zC zh zk => wp_move rfl (zh.ev rfl) zk) ?_
      refine WL.nil (WE.sub (K' := [(0, .slice pa sA.length ca), (1, .slice pb sB.length cb), (4, .slice none 0 0), (5, .int .i64 0), (6, .slice none 0 0), (18, .bool ((((subCheck sB) : Int) != (0 : Int)))), (19, .slice pa sA.length ca), (20, .int .i64 (((sA.length : Nat) : Int))), (21, .int .i64 0)]) ⟨rfl, rfl, rfl, rfl, rfl, rfl, rfl, rfl, rfl, trivial⟩ ?_)
      refine WE.next ?_
      refine WC.block ?_
      have hb9 : Below w.heap.size w w5 := (bstep hq1 hq4)
      have hl8 : w.heap.size ≤ w5.heap.size := (hb9).size
      have hR10 : RowE eltB w5 w5.heap.size 56 none 0 0 [] := RowE.nil
      have hokA := subCheck_ok h3
      have hokB := subCheck_ok h6
      refine WC.loop (X := Option Addr × Nat × Nat) (fun x => sA.length - x.2.2) (fun x => [(0, .slice pa sA.length ca), (1, .slice pb sB.length cb), (4, .slice none 0 0), (5, .int .i64 0), (6, .slice x.1 x.2.2 x.2.1), (18, .bool ((((subCheck sB) : Int) != (0 : Int)))), (19, .slice pa sA.length ca), (20, .int .i64 (((sA.length : Nat) : Int))), (21, .int .i64 (((x.2.2 : Nat) : Int)))]) (fun x w11 => x.2.2 ≤ sA.length ∧ w5.heap.size ≤ (w11).heap.size ∧ Below w.heap.size w w11 ∧ RowE eltB (w11) w5.heap.size 56 x.1 x.2.1 x.2.2 (((sA.take x.2.2).map (Bd.ap sB)))) ((none, 0, 0)) ⟨rfl, rfl, rfl, rfl, rfl, rfl, rfl, rfl, rfl, trivial⟩ ?_ ?_
      · exact ⟨Nat.zero_le _, Nat.le_refl _, hb9, (by simpa using hR10)⟩
      · rintro x w11 ⟨hk, hBw, hb12, ho13⟩
        refine WC.seq ?_
        refine WC.region ?_
        refine WL.val (.bool ((decide ((((x.2.2 : Nat) : Int) : Int) < (((sA.length : Nat) : Int) : Int))))) rfl rfl rfl (fun za zC zh zk => lss_3 rfl (zh.ev rfl) (zh.ev rfl) zk) ?_
        refine WL.nil (WE.sub (K' := [(0, .slice pa sA.length ca), (1, .slice pb sB.length cb), (4, .slice none 0 0), (5, .int .i64 0), (6, .slice x.1 x.2.2 x.2.1), (18, .bool ((((subCheck sB) : Int) != (0 : Int)))), (19, .slice pa sA.length ca), (20, .int .i64 (((sA.length : Nat) : Int))), (21, .int .i64 (((x.2.2 : Nat) : Int))), (22, .bool ((decide ((((x.2.2 : Nat) : Int) : Int) < (((sA.length : Nat) : Int) : Int)))))]) ⟨rfl, rfl, rfl, rfl, rfl, rfl, rfl, rfl, rfl, rfl, trivial⟩ ?_)
        refine WE.next ?_
        refine WC.seq ?_
        refine WC.cond rfl (fun h14 => ?_) (fun h14 => ?_)
        · have h14 : (((x.2.2 : Nat) : Int) : Int) < (((sA.length : Nat) : Int) : Int) := by simpa using h14
          refine WC.skip ?_
          refine WE.next ?_
          refine WC.seq ?_
          refine WC.block ?_
          refine WC.seq ?_
          refine WC.region ?_
          obtain ⟨b15, o16, A17, C18, ha19, hc20⟩ := InRow.openB hA.rows
          refine WL.val (.pointer (some ⟨b15, o16 + x.2.2 * 3, none⟩)) rfl rfl rfl (fun za zC zh zk => ix_23 (k := x.2.2) rfl (zh.ev rfl) (ha19 x.2.2 (by first | omega | (simp; omega))) (zh.ev rfl) (by first | omega | (simp; omega)) zk) ?_
          refine WL.val (.agg #[.int .i64 ((dget sA x.2.2).var), .int .i64 ((dget sA x.2.2).t.f), .slice ((A17 x.2.2)) ((dget sA x.2.2).t.args.length) ((C18 x.2.2))]) rfl rfl rfl (fun za zC zh zk => ld_56 rfl (zh.ev rfl) (bkeeps hb12 _ _ (hc20 x.2.2 (by first | omega | (simp; omega))).1) (bkeeps hb12 _ _ (hc20 x.2.2 (by first | omega | (simp; omega))).2.1) (bkeeps hb12 _ _ (hc20 x.2.2 (by first | omega | (simp; omega))).2.2.1) zk) ?_
          refine WL.step (post := NewBlk w11 56 #[.int .i64 0, .int .i64 0, .slice none 0 0]) rfl rfl rfl (fun za zC zh zk => alloc_56 rfl (zk _ _ (newBlk _ _ _))) ?_
          rintro _ w21 ⟨g22, rfl, hg23, hB24, hb25, hz26⟩
          have hl27 : w.heap.size ≤ g22 := by have z2 := (hb12).size; omega
          have hl28 : w11.heap.size ≤ g22 := by omega
          refine WL.step (post := fun _ w' => Upd g22 w21 w' ∧ Blk w' g22 56 #[.int .i64 ((dget sA x.2.2).var), .int .i64 ((dget sA x.2.2).t.f), .slice ((A17 x.2.2)) ((dget sA x.2.2).t.args.length) ((C18 x.2.2))]) rfl rfl rfl (fun za zC zh zk => st_56 rfl (zh.ev rfl) (zh.ev rfl) rfl rfl rfl hB24 (by first | decide | simp) (fun v => zk v _ ⟨((Upd.at_ _ _ _ _).trans (Upd.at_ _ _ _ _)).trans (Upd.at_ _ _ _ _), ((hB24.set_ 0 _).set_ 1 _).set_ 2 _⟩)) ?_
          rintro v32 w29 ⟨hu30, hB31⟩
          have hb33 : Below w.heap.size w w21 := (bstep hb12 hb25)
          have hb34 := upd_below hb33 hu30 (by omega)
          have hb35 := upd_below hb25 hu30 (by omega)
          refine WL.nil (WE.sub (K' := [(0, .slice pa sA.length ca), (1, .slice pb sB.length cb), (4, .slice none 0 0), (5, .int .i64 0), (6, .slice x.1 x.2.2 x.2.1), (8, .pointer (some ⟨g22, 0, none⟩)), (18, .bool ((((subCheck sB) : Int) != (0 : Int)))), (19, .slice pa sA.length ca), (20, .int .i64 (((sA.length : Nat) : Int))), (21, .int .i64 (((x.2.2 : Nat) : Int))), (22, .bool ((decide ((((x.2.2 : Nat) : Int) : Int) < (((sA.length : Nat) : Int) : Int)))))]) ⟨rfl, rfl, rfl, rfl, rfl, rfl, rfl, rfl, rfl, rfl, rfl, trivial⟩ ?_)
          refine WE.next ?_
          have ho36 := ho13.below hb35
          have hSlt : ∀ b, (fun b => (Value.slice x.1 x.2.2 x.2.1).ownBlock = some b) b → b < w29.heap.size := fun b h => (ho36.lt b h).2
          have hSlo : ∀ b, (fun b => (Value.slice x.1 x.2.2 x.2.1).ownBlock = some b) b → w5.heap.size ≤ b ∧ b < w11.heap.size := fun b h => ho13.lt b h
          have hBW : w5.heap.size ≤ w29.heap.size := by have z1 := (Nat.le_trans hBw hb35.size); omega
          have hlL : x.2.2 = (((sA.take x.2.2).map (Bd.ap sB))).length := ho36.len
          refine WC.tail3 (S := ((fun b => (Value.slice x.1 x.2.2 x.2.1).ownBlock = some b))) [(true, .val (.slice x.1 x.2.2 x.2.1)), (true, .val (.pointer (some ⟨g22, 0, none⟩))), (true, .val (.int .i64 ((dget sA x.2.2).var))), (true, .val (.slice pb sB.length cb)), (true, .val (.pointer (some ⟨g22, 1, none⟩))), (true, .val (.agg #[.int .i64 ((dget sA x.2.2).t.f), .slice ((A17 x.2.2)) ((dget sA x.2.2).t.args.length) ((C18 x.2.2))])), (true, .mem (fun v w' => NewT w29 w' (((dget sA x.2.2).t.app sB)) v) (fun v w w' hc h => InT.chg h hc (fun b hb hs => by have z := hSlt b hs; omega))), (true, .mem (fun v w' => BdNew w29 w' (((dget sA x.2.2).ap sB)) v) (fun v w w' hc h => h.chg hc hSlt)), (true, .mem (fun v w' => OneRow eltB w29 56 (((dget sA x.2.2).ap sB)) v w') (fun v w w' hc h => h.chg hc hSlt)), (true, .val undef), (true, .val undef)] [(0, .slice pa sA.length ca), (1, .slice pb sB.length cb), (4, .slice none 0 0), (5, .int .i64 0), (8, .pointer (some ⟨g22, 0, none⟩)), (18, .bool ((((subCheck sB) : Int) != (0 : Int)))), (19, .slice pa sA.length ca), (20, .int .i64 (((sA.length : Nat) : Int))), (21, .int .i64 (((x.2.2 : Nat) : Int))), (22, .bool ((decide ((((x.2.2 : Nat) : Int) : Int) < (((sA.length : Nat) : Int) : Int)))))] 9 10 ((x.2.2 + 1)) 34 6 (fun ra rc w => RowE eltB w w5.heap.size 56 ra rc (x.2.2 + 1) (((sA.take x.2.2).map (Bd.ap sB) ++ [(dget sA x.2.2).ap sB]))) (by decide) (fun ra rc w w' hb h => h.below hb) ⟨rfl, rfl, rfl, rfl, rfl, rfl, rfl, rfl, rfl, rfl, trivial⟩ (by kernel_rfl) (by kernel_rfl) (by kernel_rfl) (by kernel_rfl) (by kernel_rfl) (by kernel_rfl) ?_ ?_
          · refine ⟨.inl ⟨rfl, true, .none rfl, (fun gg b h => by cases h), fun h w => optUndef h, fun zβ za zw zc => ?_⟩, ?_⟩
            · exact wp_move rfl ((show za.eval (.tmp 6) = za.tmps.getD 6 undef from rfl).trans (zc.old 6 _ rfl (by kernel_rfl))) ⟨_, rfl, Below.refl _ _, optDef zβ rfl⟩
            refine ⟨.inl ⟨rfl, true, .none rfl, (fun gg b h => by cases h), fun h w => optUndef h, fun zβ za zw zc => ?_⟩, ?_⟩
            · exact fld_56_0 rfl (zc.kn.ev rfl) ⟨_, rfl, Below.refl _ _, optDef zβ rfl⟩
            refine ⟨.inl ⟨rfl, true, .none rfl, (fun gg b h => by cases h), fun h w => optUndef h, fun zβ za zw zc => ?_⟩, ?_⟩
            · exact ld_3 rfl ((show za.eval (.tmp 26) = za.tmps.getD 26 undef from rfl).trans (optSVal (zc.dep 1 26 (by kernel_rfl) (by decide)) rfl rfl)) (bkeeps (zc.early (by kernel_rfl)) _ _ ((hB31.cell 0).trans rfl)) ⟨_, rfl, Below.refl _ _, optDef zβ rfl⟩
            refine ⟨.inl ⟨rfl, true, .none rfl, (fun gg b h => by cases h), fun h w => optUndef h, fun zβ za zw zc => ?_⟩, ?_⟩
            · exact wp_move rfl (zc.kn.ev rfl) ⟨_, rfl, Below.refl _ _, optDef zβ rfl⟩
            refine ⟨.inl ⟨rfl, true, .none rfl, (fun gg b h => by cases h), fun h w => optUndef h, fun zβ za zw zc => ?_⟩, ?_⟩
            · exact fld_56_1 rfl (zc.kn.ev rfl) ⟨_, rfl, Below.refl _ _, optDef zβ rfl⟩
            refine ⟨.inl ⟨rfl, true, .none rfl, (fun gg b h => by cases h), fun h w => optUndef h, fun zβ za zw zc => ?_⟩, ?_⟩
            · exact ld_32 rfl ((show za.eval (.tmp 29) = za.tmps.getD 29 undef from rfl).trans (optSVal (zc.dep 4 29 (by kernel_rfl) (by decide)) rfl rfl)) (bkeeps (zc.early (by kernel_rfl)) _ _ ((hB31.cell 1).trans rfl)) (bkeeps (zc.early (by kernel_rfl)) _ _ ((hB31.cell 2).trans rfl)) ⟨_, rfl, Below.refl _ _, optDef zβ rfl⟩
            refine ⟨.inl ⟨rfl, true, .none rfl, (fun gg b h => by cases h), fun h w => optUndef h, fun zβ za zw zc => ?_⟩, ?_⟩
            · exact wp_call (by kernel_rfl) rfl (hv2 ((show za.eval (.tmp 28) = za.tmps.getD 28 undef from rfl).trans (optSVal (zc.dep 3 28 (by kernel_rfl) (by decide)) rfl rfl)) ((show za.eval (.tmp 30) = za.tmps.getD 30 undef from rfl).trans (optSVal (zc.dep 5 30 (by kernel_rfl) (by decide)) rfl rfl))) (apply_any sB (dget sA x.2.2).t _ _ _ _ (hA.parts _ (dget_mem (by omega))) (IsT.below (bstep hb34 (zc.early (by kernel_rfl))) (InT.isT (hc20 x.2.2 (by first | omega | (simp; omega))).2.2.2.1)) (hB.below (bstep hb34 (zc.early (by kernel_rfl))))) (fun v w' h => ⟨v, rfl, h.2, optDef zβ (InT.mono (fun b hb _ => Nat.le_trans (zc.early (by kernel_rfl)).size hb) h.1)⟩)
            refine ⟨.inl ⟨rfl, true, .none rfl, (fun gg b h => by cases h), fun h w => optUndef h, fun zβ za zw zc => ?_⟩, ?_⟩
            · have zv := (optSMem (zc.dep 6 31 (by kernel_rfl) (by decide)) rfl rfl)
              obtain ⟨_, a1, c1, e1, _⟩ := zv.form
              rw [e1] at zv
              exact build_56_0_1 rfl ((show za.eval (.tmp 27) = za.tmps.getD 27 undef from rfl).trans (optSVal (zc.dep 2 27 (by kernel_rfl) (by decide)) rfl rfl)) ((show za.eval (.tmp 31) = za.tmps.getD 31 undef from rfl).trans e1) ⟨_, rfl, Below.refl _ _, optDef zβ ⟨_, _, rfl, (hc20 x.2.2 (by first | omega | (simp; omega))).2.2.2.2, zv⟩⟩
            refine ⟨.inl ⟨rfl, true, .none rfl, (fun gg b h => by cases h), fun h w => optUndef h, fun zβ za zw zc => ?_⟩, ?_⟩
            · have zv := (optSMem (zc.dep 7 32 (by kernel_rfl) (by decide)) rfl rfl)
              obtain ⟨u1, u2, e1, h0, zv⟩ := zv
              exact row_23_1 rfl ((show za.eval (.tmp 32) = za.tmps.getD 32 undef from rfl).trans e1) ⟨_, rfl, balloc _ _, optDef zβ ⟨_, _, rfl, zc.chg.size, Blk.new' rfl, ⟨_, _, rfl, h0, zv.below (balloc _ _)⟩⟩⟩
            refine ⟨.inr (.inl ⟨rfl, rfl, fun za zw zc => ?_⟩), ?_⟩
            · obtain ⟨g1, cs, e1, hg1, hB1, hin⟩ := (optSMem (zc.dep 8 33 (by kernel_rfl) (by decide)) rfl rfl)
              exact wp_appE (E := eltB) (size := 3) (bytes := 40) (z := .agg #[.int .i64 0, .int .i64 0, .slice none 0 0]) rfl Try.underlying23 (by kernel_rfl) rfl (by decide) rfl ((show za.eval (.tmp 25) = za.tmps.getD 25 undef from rfl).trans (optSVal (zc.dep 0 25 (by kernel_rfl) (by decide)) rfl rfl)) ((show za.eval (.tmp 33) = za.tmps.getD 33 undef from rfl).trans e1) (ho36.below zc.below) hB1 (eltB.mono (fun b hb _ => ⟨by omega, fun e => by have z := (ho36.lt b e).2; omega⟩) hin) (by omega) (by omega) (by have z := zc.below.size; omega) (fun ra rc w' h1 h2 _ => ⟨ra, rc, rfl, h1, h2⟩)
            refine ⟨.inr (.inr ⟨rfl, rfl, 34, by kernel_rfl, rfl⟩), ?_⟩
            exact trivial
          · intro za w37 ra40 rc41 zh zv zv2 hG38 hc39 zu
            have zh := zh.cons (d := 6) zv2
            have hb42 := chg_below hb34 hc39 (fun b hb => (fun h => by have h := hSlo _ h; (try dsimp only at *); omega))
            have hB43 := chg_blk hB31 hc39 (fun h => by have h := hSlo _ h; (try dsimp only at *); omega)
            clear zu
            refine (show WE _ [(0, .slice pa sA.length ca), (1, .slice pb sB.length cb), (4, .slice none 0 0), (5, .int .i64 0), (6, .slice ra40 ((x.2.2 + 1)) rc41), (8, .pointer (some ⟨g22, 0, none⟩)), (18, .bool ((((subCheck sB) : Int) != (0 : Int)))), (19, .slice pa sA.length ca), (20, .int .i64 (((sA.length : Nat) : Int))), (21, .int .i64 (((x.2.2 : Nat) : Int))), (22, .bool ((decide ((((x.2.2 : Nat) : Int) : Int) < (((sA.length : Nat) : Int) : Int)))))] w37 _ .normal from ?_) za (zh.sub ⟨rfl, rfl, rfl, rfl, rfl, rfl, rfl, rfl, rfl, rfl, rfl, trivial⟩)
            refine WE.blockNormal ?_
            refine WE.next ?_
            refine WC.region ?_
            refine WL.val (.int .i64 ((((x.2.2 + 1) : Nat) : Int))) rfl rfl rfl (fun za zC zh zk => addb_3 rfl (zh.ev rfl) (zh.ev rfl) (wrap_eq (by omega) (by omega) (by omega)) zk) ?_
            refine WL.val (.int .i64 ((((x.2.2 + 1) : Nat) : Int))) rfl rfl rfl (fun za zC zh zk => wp_move rfl (zh.ev rfl) zk) ?_
            refine WL.nil (WE.sub (K' := [(0, .slice pa sA.length ca), (1, .slice pb sB.length cb), (4, .slice none 0 0), (5, .int .i64 0), (6, .slice ra40 ((x.2.2 + 1)) rc41), (8, .pointer (some ⟨g22, 0, none⟩)), (18, .bool ((((subCheck sB) : Int) != (0 : Int)))), (19, .slice pa sA.length ca), (20, .int .i64 (((sA.length : Nat) : Int))), (21, .int .i64 ((((x.2.2 + 1) : Nat) : Int))), (22, .bool ((decide ((((x.2.2 : Nat) : Int) : Int) < (((sA.length : Nat) : Int) : Int)))))]) ⟨rfl, rfl, rfl, rfl, rfl, rfl, rfl, rfl, rfl, rfl, rfl, trivial⟩ ?_)
            refine WE.round ((ra40, rc41, x.2.2 + 1)) ⟨rfl, rfl, rfl, rfl, rfl, rfl, rfl, rfl, rfl, trivial⟩ ?_ ?_
            · exact ⟨by (try dsimp only at *); omega, (Nat.le_trans (Nat.le_trans hBw hb35.size) hc39.size), hb42, (by rw [← take_ap (by (try dsimp only at *); omega)]; exact hG38)⟩
            · dsimp only; omega
        · have h14 : ¬ ((((x.2.2 : Nat) : Int) : Int) < (((sA.length : Nat) : Int) : Int)) := by simpa using h14
          refine WC.exit ?_
          refine WE.thenExit ?_
          refine WE.thenExit ?_
          refine WE.blockIs rfl ?_
          refine WE.next ?_
          refine WC.seq ?_
          refine WC.seq ?_
          refine WC.region ?_
          refine WL.val (.slice pb sB.length cb) rfl rfl rfl (fun za zC zh zk => wp_move rfl (zh.ev rfl) zk) ?_
          refine WL.val (.int .i64 (((sB.length : Nat) : Int))) rfl rfl rfl (fun za zC zh zk => len_23 rfl (zh.ev rfl) zk) ?_
          refine WL.val (.int .i64 0) rfl rfl rfl (fun za zC zh zk => wp_move rfl (zh.ev rfl) zk) ?_
          refine WL.nil (WE.sub (K' := [(0, .slice pa sA.length ca), (1, .slice pb sB.length cb), (4, .slice none 0 0), (5, .int .i64 0), (6, .slice x.1 x.2.2 x.2.1), (18, .bool ((((subCheck sB) : Int) != (0 : Int)))), (19, .slice pa sA.length ca), (20, .int .i64 (((sA.length : Nat) : Int))), (21, .int .i64 (((x.2.2 : Nat) : Int))), (22, .bool ((decide ((((x.2.2 : Nat) : Int) : Int) < (((sA.length : Nat) : Int) : Int))))), (36, .slice pb sB.length cb), (37, .int .i64 (((sB.length : Nat) : Int))), (38, .int .i64 0)]) ⟨rfl, rfl, rfl, rfl, rfl, rfl, rfl, rfl, rfl, rfl, rfl, rfl, rfl, trivial⟩ ?_)
          refine WE.next ?_
          refine WC.block ?_
          have hka : x.2.2 = sA.length := by omega
          have hL0 := len_cxr sA sB
          refine WC.loop (X := Option Addr × Nat × Nat × Nat) (fun y => sB.length - y.2.2.2) (fun y => [(0, .slice pa sA.length ca), (1, .slice pb sB.length cb), (4, .slice none 0 0), (5, .int .i64 0), (6, .slice y.1 y.2.2.1 y.2.1), (18, .bool ((((subCheck sB) : Int) != (0 : Int)))), (19, .slice pa sA.length ca), (20, .int .i64 (((sA.length : Nat) : Int))), (21, .int .i64 (((x.2.2 : Nat) : Int))), (22, .bool ((decide ((((x.2.2 : Nat) : Int) : Int) < (((sA.length : Nat) : Int) : Int))))), (36, .slice pb sB.length cb), (37, .int .i64 (((sB.length : Nat) : Int))), (38, .int .i64 (((y.2.2.2 : Nat) : Int)))]) (fun y w44 => y.2.2.2 ≤ sB.length ∧ w5.heap.size ≤ (w44).heap.size ∧ Below w.heap.size w w44 ∧ RowE eltB (w44) w5.heap.size 56 y.1 y.2.1 y.2.2.1 (((sA.take sA.length).map (Bd.ap sB) ++ cxr sA (sB.take y.2.2.2)))) ((x.1, x.2.1, x.2.2, 0)) ⟨rfl, rfl, rfl, rfl, rfl, rfl, rfl, rfl, rfl, rfl, rfl, rfl, rfl, trivial⟩ ?_ ?_
          · exact ⟨Nat.zero_le _, hBw, hb12, (by have z := ho13; rw [hka] at z; simpa [cxr, hka] using z)⟩
          · rintro y w44 ⟨hk2, hBw2, hb45, ho46⟩
            refine WC.seq ?_
            refine WC.region ?_
            refine WL.val (.bool ((decide ((((y.2.2.2 : Nat) : Int) : Int) < (((sB.length : Nat) : Int) : Int))))) rfl rfl rfl (fun za zC zh zk => lss_3 rfl (zh.ev rfl) (zh.ev rfl) zk) ?_
            refine WL.nil (WE.sub (K' := [(0, .slice pa sA.length ca), (1, .slice pb sB.length cb), (4, .slice none 0 0), (5, .int .i64 0), (6, .slice y.1 y.2.2.1 y.2.1), (18, .bool ((((subCheck sB) : Int) != (0 : Int)))), (19, .slice pa sA.length ca), (20, .int .i64 (((sA.length : Nat) : Int))), (21, .int .i64 (((x.2.2 : Nat) : Int))), (22, .bool ((decide ((((x.2.2 : Nat) : Int) : Int) < (((sA.length : Nat) : Int) : Int))))), (36, .slice pb sB.length cb), (37, .int .i64 (((sB.length : Nat) : Int))), (38, .int .i64 (((y.2.2.2 : Nat) : Int))), (39, .bool ((decide ((((y.2.2.2 : Nat) : Int) : Int) < (((sB.length : Nat) : Int) : Int)))))]) ⟨rfl, rfl, rfl, rfl, rfl, rfl, rfl, rfl, rfl, rfl, rfl, rfl, rfl, rfl, trivial⟩ ?_)
            refine WE.next ?_
            refine WC.seq ?_
            refine WC.cond rfl (fun h47 => ?_) (fun h47 => ?_)
            · have h47 : (((y.2.2.2 : Nat) : Int) : Int) < (((sB.length : Nat) : Int) : Int) := by simpa using h47
              refine WC.skip ?_
              refine WE.next ?_
              refine WC.seq ?_
              refine WC.block ?_
              refine WC.seq ?_
              refine WC.region ?_
              obtain ⟨b48, o49, A50, C51, ha52, hc53⟩ := InRow.openB hB.rows
              refine WL.val (.pointer (some ⟨b48, o49 + y.2.2.2 * 3, none⟩)) rfl rfl rfl (fun za zC zh zk => ix_23 (k := y.2.2.2) rfl (zh.ev rfl) (ha52 y.2.2.2 (by first | omega | (simp; omega))) (zh.ev rfl) (by first | omega | (simp; omega)) zk) ?_
              refine WL.val (.agg #[.int .i64 ((dget sB y.2.2.2).var), .int .i64 ((dget sB y.2.2.2).t.f), .slice ((A50 y.2.2.2)) ((dget sB y.2.2.2).t.args.length) ((C51 y.2.2.2))]) rfl rfl rfl (fun za zC zh zk => ld_56 rfl (zh.ev rfl) (bkeeps hb45 _ _ (hc53 y.2.2.2 (by first | omega | (simp; omega))).1) (bkeeps hb45 _ _ (hc53 y.2.2.2 (by first | omega | (simp; omega))).2.1) (bkeeps hb45 _ _ (hc53 y.2.2.2 (by first | omega | (simp; omega))).2.2.1) zk) ?_
              refine WL.step (post := NewBlk w44 56 #[.int .i64 0, .int .i64 0, .slice none 0 0]) rfl rfl rfl (fun za zC zh zk => alloc_56 rfl (zk _ _ (newBlk _ _ _))) ?_
              rintro _ w54 ⟨g55, rfl, hg56, hB57, hb58, hz59⟩
              have hl60 : w.heap.size ≤ g55 := by have z2 := (hb45).size; omega
              have hl61 : w44.heap.size ≤ g55 := by omega
              refine WL.step (post := fun _ w' => Upd g55 w54 w' ∧ Blk w' g55 56 #[.int .i64 ((dget sB y.2.2.2).var), .int .i64 ((dget sB y.2.2.2).t.f), .slice ((A50 y.2.2.2)) ((dget sB y.2.2.2).t.args.length) ((C51 y.2.2.2))]) rfl rfl rfl (fun za zC zh zk => st_56 rfl (zh.ev rfl) (zh.ev rfl) rfl rfl rfl hB57 (by first | decide | simp) (fun v => zk v _ ⟨((Upd.at_ _ _ _ _).trans (Upd.at_ _ _ _ _)).trans (Upd.at_ _ _ _ _), ((hB57.set_ 0 _).set_ 1 _).set_ 2 _⟩)) ?_
              rintro v65 w62 ⟨hu63, hB64⟩
              have hb66 : Below w.heap.size w w54 := (bstep hb45 hb58)
              have hb67 := upd_below hb66 hu63 (by omega)
              have hb68 := upd_below hb58 hu63 (by omega)
              refine WL.nil (WE.sub (K' := [(0, .slice pa sA.length ca), (1, .slice pb sB.length cb), (4, .slice none 0 0), (5, .int .i64 0), (6, .slice y.1 y.2.2.1 y.2.1), (10, .pointer (some ⟨g55, 0, none⟩)), (18, .bool ((((subCheck sB) : Int) != (0 : Int)))), (19, .slice pa sA.length ca), (20, .int .i64 (((sA.length : Nat) : Int))), (21, .int .i64 (((x.2.2 : Nat) : Int))), (22, .bool ((decide ((((x.2.2 : Nat) : Int) : Int) < (((sA.length : Nat) : Int) : Int))))), (36, .slice pb sB.length cb), (37, .int .i64 (((sB.length : Nat) : Int))), (38, .int .i64 (((y.2.2.2 : Nat) : Int))), (39, .bool ((decide ((((y.2.2.2 : Nat) : Int) : Int) < (((sB.length : Nat) : Int) : Int)))))]) ⟨rfl, rfl, rfl, rfl, rfl, rfl, rfl, rfl, rfl, rfl, rfl, rfl, rfl, rfl, rfl, trivial⟩ ?_)
              refine WE.next ?_
              refine WC.seq ?_
              refine WC.region ?_
              refine WL.val (.slice pa sA.length ca) rfl rfl rfl (fun za zC zh zk => wp_move rfl (zh.ev rfl) zk) ?_
              refine WL.val (.pointer (some ⟨g55, 0, none⟩)) rfl rfl rfl (fun za zC zh zk => fld_56_0 rfl (zh.ev rfl) zk) ?_
              refine WL.val (.int .i64 ((dget sB y.2.2.2).var)) rfl rfl rfl (fun za zC zh zk => ld_3 rfl (zh.ev rfl) ((hB64.cell 0).trans rfl) zk) ?_
              refine WL.call rfl rfl rfl (fun za zh zC => wp_call (by kernel_rfl) rfl (hv2 (zh.ev rfl) (zh.ev rfl))) (find_any sA (dget sB y.2.2.2).var _ _ _ hA.len hA.cap hA.small (hA.below hb67).rows) ?_
              rintro v74 w69 ⟨hto70, hb71⟩
              rcases hf73 : subFind sA (dget sB y.2.2.2).var with _ | t72
              · rw [hf73] at hto70
                obtain rfl : v74 = .pointer none := hto70
                refine WL.val (.bool true) rfl rfl rfl (fun za zC zh zk => eqln_57 rfl (zh.ev rfl) (zh.ev rfl) zk) ?_
                refine WL.nil (WE.sub (K' := [(0, .slice pa sA.length ca), (1, .slice pb sB.length cb), (4, .slice none 0 0), (5, .int .i64 0), (6, .slice y.1 y.2.2.1 y.2.1), (10, .pointer (some ⟨g55, 0, none⟩)), (18, .bool ((((subCheck sB) : Int) != (0 : Int)))), (19, .slice pa sA.length ca), (20, .int .i64 (((sA.length : Nat) : Int))), (21, .int .i64 (((x.2.2 : Nat) : Int))), (22, .bool ((decide ((((x.2.2 : Nat) : Int) : Int) < (((sA.length : Nat) : Int) : Int))))), (36, .slice pb sB.length cb), (37, .int .i64 (((sB.length : Nat) : Int))), (38, .int .i64 (((y.2.2.2 : Nat) : Int))), (39, .bool ((decide ((((y.2.2.2 : Nat) : Int) : Int) < (((sB.length : Nat) : Int) : Int))))), (46, .bool true)]) ⟨rfl, rfl, rfl, rfl, rfl, rfl, rfl, rfl, rfl, rfl, rfl, rfl, rfl, rfl, rfl, rfl, trivial⟩ ?_)
                refine WE.next ?_
                refine WC.condT rfl rfl ?_
                have hlen2 : y.2.2.1 ≤ sA.length + sB.length := by have z := ho46.len; have z2 := len_cxr sA (sB.take y.2.2.2); simp only [List.length_append, List.length_map, List.length_take] at z z2; omega
                have hb76 : Below w44.heap.size w44 w69 := (bstep hb68 hb71)
                have ho75 := ho46.below hb76
                have hB77 := hB64.below hb71
                have hb78 : Below w.heap.size w w69 := (bstep hb45 hb76)
                have hSlt : ∀ b, (fun b => (Value.slice y.1 y.2.2.1 y.2.1).ownBlock = some b) b → b < w69.heap.size := fun b h => (ho75.lt b h).2
                have hSlo : ∀ b, (fun b => (Value.slice y.1 y.2.2.1 y.2.1).ownBlock = some b) b → w5.heap.size ≤ b ∧ b < w44.heap.size := fun b h => ho46.lt b h
                have hBW : w5.heap.size ≤ w69.heap.size := by have z1 := (Nat.le_trans hBw2 hb76.size); omega
                have hlL : y.2.2.1 = (((sA.take sA.length).map (Bd.ap sB) ++ cxr sA (sB.take y.2.2.2))).length := ho75.len
                refine WC.tail3 (S := ((fun b => (Value.slice y.1 y.2.2.1 y.2.1).ownBlock = some b))) [(true, .val (.slice y.1 y.2.2.1 y.2.1)), (true, .val (.pointer (some ⟨g55, 0, none⟩))), (true, .val (.int .i64 ((dget sB y.2.2.2).var))), (true, .val (.pointer (some ⟨g55, 1, none⟩))), (true, .val (.agg #[.int .i64 ((dget sB y.2.2.2).t.f), .slice ((A50 y.2.2.2)) ((dget sB y.2.2.2).t.args.length) ((C51 y.2.2.2))])), (true, .mem (fun v w' => NewT w69 w' ((dget sB y.2.2.2).t) v) (fun v w w' hc h => InT.chg h hc (fun b hb hs => by have z := hSlt b hs; omega))), (true, .mem (fun v w' => BdNew w69 w' ((dget sB y.2.2.2)) v) (fun v w w' hc h => h.chg hc hSlt)), (true, .mem (fun v w' => OneRow eltB w69 56 ((dget sB y.2.2.2)) v w') (fun v w w' hc h => h.chg hc hSlt)), (true, .val undef), (true, .val undef)] [(0, .slice pa sA.length ca), (1, .slice pb sB.length cb), (4, .slice none 0 0), (5, .int .i64 0), (10, .pointer (some ⟨g55, 0, none⟩)), (18, .bool ((((subCheck sB) : Int) != (0 : Int)))), (19, .slice pa sA.length ca), (20, .int .i64 (((sA.length : Nat) : Int))), (21, .int .i64 (((x.2.2 : Nat) : Int))), (22, .bool ((decide ((((x.2.2 : Nat) : Int) : Int) < (((sA.length : Nat) : Int) : Int))))), (36, .slice pb sB.length cb), (37, .int .i64 (((sB.length : Nat) : Int))), (38, .int .i64 (((y.2.2.2 : Nat) : Int))), (39, .bool ((decide ((((y.2.2.2 : Nat) : Int) : Int) < (((sB.length : Nat) : Int) : Int))))), (46, .bool true)] 8 9 ((y.2.2.1 + 1)) 55 6 (fun ra rc w => RowE eltB w w5.heap.size 56 ra rc (y.2.2.1 + 1) ((((sA.take sA.length).map (Bd.ap sB) ++ cxr sA (sB.take y.2.2.2)) ++ [dget sB y.2.2.2]))) (by decide) (fun ra rc w w' hb h => h.below hb) ⟨rfl, rfl, rfl, rfl, rfl, rfl, rfl, rfl, rfl, rfl, rfl, rfl, rfl, rfl, rfl, trivial⟩ (by kernel_rfl) (by kernel_rfl) (by kernel_rfl) (by kernel_rfl) (by kernel_rfl) (by kernel_rfl) ?_ ?_
                · refine ⟨.inl ⟨rfl, true, .none rfl, (fun gg b h => by cases h), fun h w => optUndef h, fun zβ za zw zc => ?_⟩, ?_⟩
                  · exact wp_move rfl ((show za.eval (.tmp 6) = za.tmps.getD 6 undef from rfl).trans (zc.old 6 _ rfl (by kernel_rfl))) ⟨_, rfl, Below.refl _ _, optDef zβ rfl⟩
                  refine ⟨.inl ⟨rfl, true, .none rfl, (fun gg b h => by cases h), fun h w => optUndef h, fun zβ za zw zc => ?_⟩, ?_⟩
                  · exact fld_56_0 rfl (zc.kn.ev rfl) ⟨_, rfl, Below.refl _ _, optDef zβ rfl⟩
                  refine ⟨.inl ⟨rfl, true, .none rfl, (fun gg b h => by cases h), fun h w => optUndef h, fun zβ za zw zc => ?_⟩, ?_⟩
                  · exact ld_3 rfl ((show za.eval (.tmp 48) = za.tmps.getD 48 undef from rfl).trans (optSVal (zc.dep 1 48 (by kernel_rfl) (by decide)) rfl rfl)) (bkeeps (zc.early (by kernel_rfl)) _ _ ((hB77.cell 0).trans rfl)) ⟨_, rfl, Below.refl _ _, optDef zβ rfl⟩
                  refine ⟨.inl ⟨rfl, true, .none rfl, (fun gg b h => by cases h), fun h w => optUndef h, fun zβ za zw zc => ?_⟩, ?_⟩
                  · exact fld_56_1 rfl (zc.kn.ev rfl) ⟨_, rfl, Below.refl _ _, optDef zβ rfl⟩
                  refine ⟨.inl ⟨rfl, true, .none rfl, (fun gg b h => by cases h), fun h w => optUndef h, fun zβ za zw zc => ?_⟩, ?_⟩
                  · exact ld_32 rfl ((show za.eval (.tmp 50) = za.tmps.getD 50 undef from rfl).trans (optSVal (zc.dep 3 50 (by kernel_rfl) (by decide)) rfl rfl)) (bkeeps (zc.early (by kernel_rfl)) _ _ ((hB77.cell 1).trans rfl)) (bkeeps (zc.early (by kernel_rfl)) _ _ ((hB77.cell 2).trans rfl)) ⟨_, rfl, Below.refl _ _, optDef zβ rfl⟩
                  refine ⟨.inl ⟨rfl, true, .none rfl, (fun gg b h => by cases h), fun h w => optUndef h, fun zβ za zw zc => ?_⟩, ?_⟩
                  · exact wp_call (by kernel_rfl) rfl (hv1 ((show za.eval (.tmp 51) = za.tmps.getD 51 undef from rfl).trans (optSVal (zc.dep 4 51 (by kernel_rfl) (by decide)) rfl rfl))) (copy_any (dget sB y.2.2.2).t _ _ (hB.parts _ (dget_mem (by omega))) (IsT.below (bstep hb78 (zc.early (by kernel_rfl))) (InT.isT (hc53 y.2.2.2 (by first | omega | (simp; omega))).2.2.2.1))) (fun v w' h => ⟨v, rfl, h.2, optDef zβ (InT.mono (fun b hb _ => Nat.le_trans (zc.early (by kernel_rfl)).size hb) h.1)⟩)
                  refine ⟨.inl ⟨rfl, true, .none rfl, (fun gg b h => by cases h), fun h w => optUndef h, fun zβ za zw zc => ?_⟩, ?_⟩
                  · have zv := (optSMem (zc.dep 5 52 (by kernel_rfl) (by decide)) rfl rfl)
                    obtain ⟨_, a1, c1, e1, _⟩ := zv.form
                    rw [e1] at zv
                    exact build_56_0_1 rfl ((show za.eval (.tmp 49) = za.tmps.getD 49 undef from rfl).trans (optSVal (zc.dep 2 49 (by kernel_rfl) (by decide)) rfl rfl)) ((show za.eval (.tmp 52) = za.tmps.getD 52 undef from rfl).trans e1) ⟨_, rfl, Below.refl _ _, optDef zβ ⟨_, _, rfl, (hc53 y.2.2.2 (by first | omega | (simp; omega))).2.2.2.2, zv⟩⟩
                  refine ⟨.inl ⟨rfl, true, .none rfl, (fun gg b h => by cases h), fun h w => optUndef h, fun zβ za zw zc => ?_⟩, ?_⟩
                  · have zv := (optSMem (zc.dep 6 53 (by kernel_rfl) (by decide)) rfl rfl)
                    obtain ⟨u1, u2, e1, h0, zv⟩ := zv
                    exact row_23_1 rfl ((show za.eval (.tmp 53) = za.tmps.getD 53 undef from rfl).trans e1) ⟨_, rfl, balloc _ _, optDef zβ ⟨_, _, rfl, zc.chg.size, Blk.new' rfl, ⟨_, _, rfl, h0, zv.below (balloc _ _)⟩⟩⟩
                  refine ⟨.inr (.inl ⟨rfl, rfl, fun za zw zc => ?_⟩), ?_⟩
                  · obtain ⟨g1, cs, e1, hg1, hB1, hin⟩ := (optSMem (zc.dep 7 54 (by kernel_rfl) (by decide)) rfl rfl)
                    exact wp_appE (E := eltB) (size := 3) (bytes := 40) (z := .agg #[.int .i64 0, .int .i64 0, .slice none 0 0]) rfl Try.underlying23 (by kernel_rfl) rfl (by decide) rfl ((show za.eval (.tmp 47) = za.tmps.getD 47 undef from rfl).trans (optSVal (zc.dep 0 47 (by kernel_rfl) (by decide)) rfl rfl)) ((show za.eval (.tmp 54) = za.tmps.getD 54 undef from rfl).trans e1) (ho75.below zc.below) hB1 (eltB.mono (fun b hb _ => ⟨by omega, fun e => by have z := (ho75.lt b e).2; omega⟩) hin) (by omega) (by omega) (by have z := zc.below.size; omega) (fun ra rc w' h1 h2 _ => ⟨ra, rc, rfl, h1, h2⟩)
                  refine ⟨.inr (.inr ⟨rfl, rfl, 55, by kernel_rfl, rfl⟩), ?_⟩
                  exact trivial
                · intro za w79 ra82 rc83 zh zv zv2 hG80 hc81 zu
                  have zh := zh.cons (d := 6) zv2
                  have hb84 := chg_below hb78 hc81 (fun b hb => (fun h => by have h := hSlo _ h; (try dsimp only at *); omega))
                  have hB85 := chg_blk hB77 hc81 (fun h => by have h := hSlo _ h; (try dsimp only at *); omega)
                  clear zu
                  refine (show WE _ [(0, .slice pa sA.length ca), (1, .slice pb sB.length cb), (4, .slice none 0 0), (5, .int .i64 0), (6, .slice ra82 ((y.2.2.1 + 1)) rc83), (10, .pointer (some ⟨g55, 0, none⟩)), (18, .bool ((((subCheck sB) : Int) != (0 : Int)))), (19, .slice pa sA.length ca), (20, .int .i64 (((sA.length : Nat) : Int))), (21, .int .i64 (((x.2.2 : Nat) : Int))), (22, .bool ((decide ((((x.2.2 : Nat) : Int) : Int) < (((sA.length : Nat) : Int) : Int))))), (36, .slice pb sB.length cb), (37, .int .i64 (((sB.length : Nat) : Int))), (38, .int .i64 (((y.2.2.2 : Nat) : Int))), (39, .bool ((decide ((((y.2.2.2 : Nat) : Int) : Int) < (((sB.length : Nat) : Int) : Int))))), (46, .bool true)] w79 _ .normal from ?_) za (zh.sub ⟨rfl, rfl, rfl, rfl, rfl, rfl, rfl, rfl, rfl, rfl, rfl, rfl, rfl, rfl, rfl, rfl, trivial⟩)
                  refine WE.blockNormal ?_
                  refine WE.next ?_
                  refine WC.region ?_
                  refine WL.val (.int .i64 ((((y.2.2.2 + 1) : Nat) : Int))) rfl rfl rfl (fun za zC zh zk => addb_3 rfl (zh.ev rfl) (zh.ev rfl) (wrap_eq (by omega) (by omega) (by omega)) zk) ?_
                  refine WL.val (.int .i64 ((((y.2.2.2 + 1) : Nat) : Int))) rfl rfl rfl (fun za zC zh zk => wp_move rfl (zh.ev rfl) zk) ?_
                  refine WL.nil (WE.sub (K' := [(0, .slice pa sA.length ca), (1, .slice pb sB.length cb), (4, .slice none 0 0), (5, .int .i64 0), (6, .slice ra82 ((y.2.2.1 + 1)) rc83), (10, .pointer (some ⟨g55, 0, none⟩)), (18, .bool ((((subCheck sB) : Int) != (0 : Int)))), (19, .slice pa sA.length ca), (20, .int .i64 (((sA.length : Nat) : Int))), (21, .int .i64 (((x.2.2 : Nat) : Int))), (22, .bool ((decide ((((x.2.2 : Nat) : Int) : Int) < (((sA.length : Nat) : Int) : Int))))), (36, .slice pb sB.length cb), (37, .int .i64 (((sB.length : Nat) : Int))), (38, .int .i64 ((((y.2.2.2 + 1) : Nat) : Int))), (39, .bool ((decide ((((y.2.2.2 : Nat) : Int) : Int) < (((sB.length : Nat) : Int) : Int))))), (46, .bool true)]) ⟨rfl, rfl, rfl, rfl, rfl, rfl, rfl, rfl, rfl, rfl, rfl, rfl, rfl, rfl, rfl, rfl, trivial⟩ ?_)
                  refine WE.round ((ra82, rc83, (y.2.2.1 + 1), y.2.2.2 + 1)) ⟨rfl, rfl, rfl, rfl, rfl, rfl, rfl, rfl, rfl, rfl, rfl, rfl, rfl, trivial⟩ ?_ ?_
                  · exact ⟨by (try dsimp only at *); omega, (Nat.le_trans (Nat.le_trans hBw2 hb76.size) hc81.size), hb84, (by rw [← take_cxr (by (try dsimp only at *); omega) hf73]; exact hG80)⟩
                  · dsimp only; omega
              · rw [hf73] at hto70
                obtain ⟨b86, o87, a88, c89, rfl, h90, h91, h92⟩ := hto70
                refine WL.val (.bool false) rfl rfl rfl (fun za zC zh zk => eqlp_57 rfl (zh.ev rfl) (zh.ev rfl) zk) ?_
                refine WL.nil (WE.sub (K' := [(0, .slice pa sA.length ca), (1, .slice pb sB.length cb), (4, .slice none 0 0), (5, .int .i64 0), (6, .slice y.1 y.2.2.1 y.2.1), (10, .pointer (some ⟨g55, 0, none⟩)), (18, .bool ((((subCheck sB) : Int) != (0 : Int)))), (19, .slice pa sA.length ca), (20, .int .i64 (((sA.length : Nat) : Int))), (21, .int .i64 (((x.2.2 : Nat) : Int))), (22, .bool ((decide ((((x.2.2 : Nat) : Int) : Int) < (((sA.length : Nat) : Int) : Int))))), (36, .slice pb sB.length cb), (37, .int .i64 (((sB.length : Nat) : Int))), (38, .int .i64 (((y.2.2.2 : Nat) : Int))), (39, .bool ((decide ((((y.2.2.2 : Nat) : Int) : Int) < (((sB.length : Nat) : Int) : Int))))), (46, .bool false)]) ⟨rfl, rfl, rfl, rfl, rfl, rfl, rfl, rfl, rfl, rfl, rfl, rfl, rfl, rfl, rfl, rfl, trivial⟩ ?_)
                refine WE.next ?_
                refine WC.condF rfl rfl ?_
                refine WC.skip ?_
                refine WE.blockNormal ?_
                refine WE.next ?_
                refine WC.region ?_
                refine WL.val (.int .i64 ((((y.2.2.2 + 1) : Nat) : Int))) rfl rfl rfl (fun za zC zh zk => addb_3 rfl (zh.ev rfl) (zh.ev rfl) (wrap_eq (by omega) (by omega) (by omega)) zk) ?_
                refine WL.val (.int .i64 ((((y.2.2.2 + 1) : Nat) : Int))) rfl rfl rfl (fun za zC zh zk => wp_move rfl (zh.ev rfl) zk) ?_
                refine WL.nil (WE.sub (K' := [(0, .slice pa sA.length ca), (1, .slice pb sB.length cb), (4, .slice none 0 0), (5, .int .i64 0), (6, .slice y.1 y.2.2.1 y.2.1), (10, .pointer (some ⟨g55, 0, none⟩)), (18, .bool ((((subCheck sB) : Int) != (0 : Int)))), (19, .slice pa sA.length ca), (20, .int .i64 (((sA.length : Nat) : Int))), (21, .int .i64 (((x.2.2 : Nat) : Int))), (22, .bool ((decide ((((x.2.2 : Nat) : Int) : Int) < (((sA.length : Nat) : Int) : Int))))), (36, .slice pb sB.length cb), (37, .int .i64 (((sB.length : Nat) : Int))), (38, .int .i64 ((((y.2.2.2 + 1) : Nat) : Int))), (39, .bool ((decide ((((y.2.2.2 : Nat) : Int) : Int) < (((sB.length : Nat) : Int) : Int))))), (46, .bool false)]) ⟨rfl, rfl, rfl, rfl, rfl, rfl, rfl, rfl, rfl, rfl, rfl, rfl, rfl, rfl, rfl, rfl, trivial⟩ ?_)
                refine WE.round ((y.1, y.2.1, y.2.2.1, y.2.2.2 + 1)) ⟨rfl, rfl, rfl, rfl, rfl, rfl, rfl, rfl, rfl, rfl, rfl, rfl, rfl, trivial⟩ ?_ ?_
                · have hb93 : Below w.heap.size w w69 := (bstep hb67 hb71)
                  have hb95 : Below w44.heap.size w44 w69 := (bstep hb68 hb71)
                  have ho94 := ho46.below hb95
                  exact ⟨by (try dsimp only at *); omega, (Nat.le_trans (Nat.le_trans hBw2 hb68.size) hb71.size), hb93, (by rw [← skip_cxr (by (try dsimp only at *); omega) hf73]; exact ho94)⟩
                · dsimp only; omega
            · have h47 : ¬ ((((y.2.2.2 : Nat) : Int) : Int) < (((sB.length : Nat) : Int) : Int)) := by simpa using h47
              refine WC.exit ?_
              refine WE.thenExit ?_
              refine WE.thenExit ?_
              refine WE.blockIs rfl ?_
              refine WE.next ?_
              refine WC.seq ?_
              refine WC.region ?_
              refine WL.val (.slice y.1 y.2.2.1 y.2.1) rfl rfl rfl (fun za zC zh zk => wp_move rfl (zh.ev rfl) zk) ?_
              have hlen2 : y.2.2.1 ≤ sA.length + sB.length := by have z := ho46.len; have z2 := len_cxr sA (sB.take y.2.2.2); simp only [List.length_append, List.length_map, List.length_take] at z z2; omega
              have hSo : ∀ b, (Value.slice y.1 y.2.2.1 y.2.1).ownBlock = some b → w5.heap.size ≤ b ∧ b < w44.heap.size := fun b h => ho46.lt b h
              refine WL.call rfl rfl rfl (fun za zh zC => wp_call (by kernel_rfl) rfl (hv2 (zh.ev rfl) (zh.ev rfl))) (sortB_own ho46 (by omega) cmpIs_comp) ?_
              rintro _ w96 ⟨ls, rfl, hps, hss, hrs, hcs⟩
              have hb97 := chg_below hb45 hcs (fun b hb => (fun h => by have h := hSo _ h; (try dsimp only at *); omega))
              refine WL.nil (WE.sub (K' := [(0, .slice pa sA.length ca), (1, .slice pb sB.length cb), (4, .slice none 0 0), (5, .int .i64 0), (6, .slice y.1 y.2.2.1 y.2.1), (18, .bool ((((subCheck sB) : Int) != (0 : Int)))), (19, .slice pa sA.length ca), (20, .int .i64 (((sA.length : Nat) : Int))), (21, .int .i64 (((x.2.2 : Nat) : Int))), (22, .bool ((decide ((((x.2.2 : Nat) : Int) : Int) < (((sA.length : Nat) : Int) : Int))))), (36, .slice pb sB.length cb), (37, .int .i64 (((sB.length : Nat) : Int))), (38, .int .i64 (((y.2.2.2 : Nat) : Int))), (39, .bool ((decide ((((y.2.2.2 : Nat) : Int) : Int) < (((sB.length : Nat) : Int) : Int)))))]) ⟨rfl, rfl, rfl, rfl, rfl, rfl, rfl, rfl, rfl, rfl, rfl, rfl, rfl, rfl, trivial⟩ ?_)
              refine WE.next ?_
              refine WC.seq ?_
              refine WC.region ?_
              refine WL.val (.slice y.1 y.2.2.1 y.2.1) rfl rfl rfl (fun za zC zh zk => wp_move rfl (zh.ev rfl) zk) ?_
              have hSo2 : ∀ b, (Value.slice y.1 y.2.2.1 y.2.1).ownBlock = some b → w5.heap.size ≤ b ∧ b < w96.heap.size := fun b h => hrs.lt b h
              refine WL.call rfl rfl rfl (fun za zh zC => wp_call (by kernel_rfl) rfl (hv2 (zh.ev rfl) (zh.ev rfl))) (del_any hrs (by omega)) ?_
              rintro _ w98 ⟨rfl, hrd, hcd⟩
              have hb99 := chg_below hb97 hcd (fun b hb => (fun h => by have h := hSo2 _ h; (try dsimp only at *); omega))
              refine WL.val (.slice y.1 ((ls.filter fun x => !x.itself).length) y.2.1) rfl rfl rfl (fun za zC zh zk => wp_assign rfl (zh.ev rfl) zk) ?_
              refine WL.val (.int .i64 0) rfl rfl rfl (fun za zC zh zk => wp_assign rfl (zh.ev rfl) zk) ?_
              refine WL.nil (WE.sub (K' := [(0, .slice pa sA.length ca), (1, .slice pb sB.length cb), (4, .slice y.1 ((ls.filter fun x => !x.itself).length) y.2.1), (5, .int .i64 0), (6, .slice y.1 y.2.2.1 y.2.1), (18, .bool ((((subCheck sB) : Int) != (0 : Int)))), (19, .slice pa sA.length ca), (20, .int .i64 (((sA.length : Nat) : Int))), (21, .int .i64 (((x.2.2 : Nat) : Int))), (22, .bool ((decide ((((x.2.2 : Nat) : Int) : Int) < (((sA.length : Nat) : Int) : Int))))), (36, .slice pb sB.length cb), (37, .int .i64 (((sB.length : Nat) : Int))), (38, .int .i64 (((y.2.2.2 : Nat) : Int))), (39, .bool ((decide ((((y.2.2.2 : Nat) : Int) : Int) < (((sB.length : Nat) : Int) : Int)))))]) ⟨rfl, rfl, rfl, rfl, rfl, rfl, rfl, rfl, rfl, rfl, rfl, rfl, rfl, rfl, trivial⟩ ?_)
              refine WE.next ?_
              refine WC.ret ?_
              refine WE.ret2 rfl rfl rfl ?_
              have hRo := (hrd).inRow
              refine ⟨_, rfl, ?_, hb99⟩
              unfold CompIs
              rw [if_pos ⟨hokA, hokB⟩]
              refine ⟨_, _, _, rfl, compOf_sorted hokA hokB ?_ hss, hRo.1.mono (by decide) (fun b hb _ => by omega), hRo.2.2.1, hRo.2.2.2⟩
              rw [List.take_of_length_le (Nat.le_refl _), List.take_of_length_le (by omega)] at hps
              exact hps

end Go.Proofs.Ytgechlgdnnpoeaa

namespace Go.Proofs.Ytgechlgdnnpoeaa
open Go.RowKit Go

def bd0 (v f : Int) : Bd := ⟨v, .mk f []⟩
theorem inT_leaf {S : Nat → Prop} {w : World} {f : Int} (hf : I64 f) : InT S w (.mk f []) (.agg #[.int .i64 f, .slice none 0 0]) := ⟨hf, none, 0, rfl, Nat.le_refl _, Nat.zero_le _, trivial⟩
theorem isSub_one {w : World} {g : Nat} {v f : Int} (hB : Blk w g 56 #[.int .i64 v, .int .i64 f, .slice none 0 0]) (hv : I64 v) (hf : I64 f) : IsSub w [bd0 v f] (some ⟨g, 0, none⟩) 1 := by
  refine ⟨fun i hi => ?_, Nat.le_refl _, by decide, Nat.le_of_ble_eq_true rfl, fun b hb => ?_⟩
  · obtain rfl : i = 0 := by simpa using hi
    refine ⟨g, 0, [.int .i64 v, .int .i64 f, .slice none 0 0], rfl, trivial, ⟨_, _, rfl, hv, inT_leaf hf⟩, fun j hj => ?_⟩
    rw [hB.cell, show 0 + 0 * eltB.k + j = j by omega, ← List.getElem?_toArray]
  · rw [List.mem_singleton] at hb; subst hb; show 1 ≤ 4294967296; omega
def wkA : List Bd := [bd0 0 (-2)]
def wkB : List Bd := [bd0 1 1]
def wkR : List Bd := [bd0 0 1, bd0 1 1]
theorem wk_cx : cx wkA wkB = wkR := by rfl
theorem wk_comp : CompOf wkA wkB wkR := by
  refine ⟨?_, fun x => ?_⟩
  · simp [wkR, bd0]
  · rw [wk_cx]
    refine ⟨fun h => ⟨h, ?_⟩, fun h => h.1⟩
    simp only [wkR, List.mem_cons, List.not_mem_nil, or_false] at h
    rcases h with rfl | rfl <;> rfl
theorem compose_wk {w : World} {g1 g2 : Nat} (h1 : Blk w g1 56 #[.int .i64 0, .int .i64 (-2), .slice none 0 0]) (h2 : Blk w g2 56 #[.int .i64 1, .int .i64 1, .slice none 0 0]) : Calls Try.prog 11 #[.slice (some ⟨g1, 0, none⟩) 1 1, .slice (some ⟨g2, 0, none⟩) 1 1] w (Ret fun v' w' => (∃ p c, v' = .tuple #[.slice p 2 c, .int .i64 0] ∧ IsSub w' wkR p c) ∧ Below w.heap.size w w') := by
  refine (compose_any wkA wkB w _ _ _ _ (isSub_one h1 (by unfold I64; omega) (by unfold I64; omega)) (isSub_one h2 (by unfold I64; omega) (by unfold I64; omega)) (by decide) (by decide)).mono ?_
  rintro e w' ⟨v, rfl, hc, hb⟩
  unfold CompIs at hc
  rw [if_pos (by decide)] at hc
  obtain ⟨R, p, c, rfl, hR, hN⟩ := hc
  obtain rfl := hR.unique wk_comp
  exact ⟨_, rfl, ⟨p, c, rfl, hN.1.mono (by decide) (fun _ _ _ => trivial), hN.2.1, hN.2.2, by decide, fun b hb => by simp only [wkR, List.mem_cons, List.not_mem_nil, or_false] at hb; rcases hb with rfl | rfl <;> decide⟩, hb⟩
theorem apply_wk {w : World} {p : Option Addr} {c : Nat} (h : IsSub w wkR p c) : Calls Try.prog 18 #[.slice p 2 c, .agg #[.int .i64 (-1), .slice none 0 0]] w (Ret fun v' w' => (∃ a c, v' = .agg #[.int .i64 1, .slice a 0 c]) ∧ Below w.heap.size w w') := by
  refine (apply_any wkR (.mk (-1) []) w _ p c (by decide) (InT.isT (S := fun _ => True) (inT_leaf (by unfold I64; omega))) h).mono ?_
  rintro e w' ⟨v, rfl, hn, hb⟩
  have hn' : NewT w w' (.mk 1 []) v := hn
  obtain ⟨_, a, c, rfl, _⟩ := hn'.form
  exact ⟨_, rfl, ⟨a, c, rfl⟩, hb⟩
theorem check_wk {w : World} {g : Nat} (h1 : Blk w g 56 #[.int .i64 0, .int .i64 (-1), .slice none 0 0]) : Calls Try.prog 19 #[.slice (some ⟨g, 0, none⟩) 1 1] w (Ret fun v' w' => v' = .int .i64 2 ∧ Below w.heap.size w w') := by
  refine (check_any [bd0 0 (-1)] w _ _ (Nat.le_refl _) (by decide) (isSub_one h1 (by unfold I64; omega) (by unfold I64; omega)).rows).mono ?_
  rintro e w' ⟨v, rfl, rfl, hb⟩
  exact ⟨_, rfl, rfl, hb⟩
set_option maxRecDepth 100000 in
theorem wakes_any (w : World) : Calls Try.prog 10 #[] w (Ret fun v' w' => v' = .bool true ∧ Below w.heap.size w w') := by
  refine Calls.walk (l := []) Try.func10 rfl (by kernel_rfl) ?_
  refine WC.sub (K' := []) trivial ?_
  refine WC.seq ?_
  refine WC.region ?_
  refine WL.val (.bool false) rfl rfl rfl (fun za zC zh zk => wp_assign rfl (zh.ev rfl) zk) ?_
  refine WL.nil (WE.sub (K' := [(0, .bool false)]) ⟨rfl, trivial⟩ ?_)
  refine WE.next ?_
  refine WC.seq ?_
  refine WC.region ?_
  refine WL.val (.agg #[.int .i64 ((-2)), .slice none 0 0]) rfl rfl rfl (fun za zC zh zk => build_32_0 rfl (zh.ev rfl) zk) ?_
  refine WL.val (.agg #[.int .i64 1, .slice none 0 0]) rfl rfl rfl (fun za zC zh zk => build_32_0 rfl (zh.ev rfl) zk) ?_
  refine WL.step (post := NewBlk w 32 #[.int .i64 0, .slice none 0 0]) rfl rfl rfl (fun za zC zh zk => alloc_32 rfl (zk _ _ (newBlk _ _ _))) ?_
  rintro _ w1 ⟨g2, rfl, hg3, hB4, hb5, hz6⟩
  have hl7 : w.heap.size ≤ g2 := by omega
  refine WL.step (post := NewBlk w1 32 #[.int .i64 0, .slice none 0 0]) rfl rfl rfl (fun za zC zh zk => alloc_32 rfl (zk _ _ (newBlk _ _ _))) ?_
  rintro _ w8 ⟨g9, rfl, hg10, hB11, hb12, hz13⟩
  have hl14 : g2 < g9 := by have z1 := hB4.lt; omega
  have hl15 : w.heap.size ≤ g9 := by have z2 := (hb5).size; omega
  have hB16 := hB4.below hb12
  refine WL.step (post := fun _ w' => Upd g2 w8 w' ∧ Blk w' g2 32 #[.int .i64 ((-2)), .slice none 0 0]) rfl rfl rfl (fun za zC zh zk => st_32 rfl (zh.ev rfl) (zh.ev rfl) rfl rfl hB16 (by first | decide | simp) (fun v => zk v _ ⟨(Upd.at_ _ _ _ _).trans (Upd.at_ _ _ _ _), (hB16.set_ 0 _).set_ 1 _⟩)) ?_
  rintro v20 w17 ⟨hu18, hB19⟩
  have hb21 : Below w.heap.size w w8 := (bstep hb5 hb12)
  have hb22 := upd_below hb21 hu18 (by omega)
  have hB23 := upd_blk hB11 hu18 (by omega)
  refine WL.step (post := fun _ w' => Upd g9 w17 w' ∧ Blk w' g9 32 #[.int .i64 1, .slice none 0 0]) rfl rfl rfl (fun za zC zh zk => st_32 rfl (zh.ev rfl) (zh.ev rfl) rfl rfl hB23 (by first | decide | simp) (fun v => zk v _ ⟨(Upd.at_ _ _ _ _).trans (Upd.at_ _ _ _ _), (hB23.set_ 0 _).set_ 1 _⟩)) ?_
  rintro v27 w24 ⟨hu25, hB26⟩
  have hb28 := upd_below hb22 hu25 (by omega)
  have hB29 := upd_blk hB19 hu25 (by omega)
  refine WL.nil (WE.sub (K' := [(0, .bool false), (1, .pointer (some ⟨g2, 0, none⟩)), (2, .pointer (some ⟨g9, 0, none⟩))]) ⟨rfl, rfl, rfl, trivial⟩ ?_)
  refine WE.next ?_
  refine WC.seq ?_
  refine WC.region ?_
  refine WL.val (.agg #[.int .i64 ((-2)), .slice none 0 0]) rfl rfl rfl (fun za zC zh zk => ld_32 rfl (zh.ev rfl) ((hB29.cell 0).trans rfl) ((hB29.cell 1).trans rfl) zk) ?_
  refine WL.val (.agg #[.int .i64 0, .int .i64 ((-2)), .slice none 0 0]) rfl rfl rfl (fun za zC zh zk => build_56_0_1 rfl (zh.ev rfl) (zh.ev rfl) zk) ?_
  refine WL.step (post := NewRow w24 56 #[.int .i64 0, .int .i64 ((-2)), .slice none 0 0] 1) rfl rfl rfl (fun za zC zh zk => row_23_1 rfl (zh.ev rfl) (zk _ _ (newRow _ _ _ _))) ?_
  rintro _ w30 ⟨g31, rfl, hg32, hB33, hb34, hz35⟩
  have hl36 : g2 < g31 := by have z1 := hB29.lt; omega
  have hl37 : g9 < g31 := by have z1 := hB26.lt; omega
  have hl38 : w.heap.size ≤ g31 := by have z2 := (hb28).size; omega
  have hB39 := hB26.below hb34
  refine WL.val (.agg #[.int .i64 1, .slice none 0 0]) rfl rfl rfl (fun za zC zh zk => ld_32 rfl (zh.ev rfl) ((hB39.cell 0).trans rfl) ((hB39.cell 1).trans rfl) zk) ?_
  refine WL.val (.agg #[.int .i64 1, .int .i64 1, .slice none 0 0]) rfl rfl rfl (fun za zC zh zk => build_56_0_1 rfl (zh.ev rfl) (zh.ev rfl) zk) ?_
  refine WL.step (post := NewRow w30 56 #[.int .i64 1, .int .i64 1, .slice none 0 0] 1) rfl rfl rfl (fun za zC zh zk => row_23_1 rfl (zh.ev rfl) (zk _ _ (newRow _ _ _ _))) ?_
  rintro _ w40 ⟨g41, rfl, hg42, hB43, hb44, hz45⟩
  have hl46 : g2 < g41 := by have z1 := hB29.lt; have z2 := (hb34).size; omega
  have hl47 : g9 < g41 := by have z1 := hB39.lt; omega
  have hl48 : g31 < g41 := by have z1 := hB33.lt; omega
  have hb49 : Below w.heap.size w w30 := (bstep hb28 hb34)
  have hl50 : w.heap.size ≤ g41 := by have z2 := (hb49).size; omega
  have hB51 := hB33.below hb44
  refine WL.call rfl rfl rfl (fun za zh zC => wp_call (by kernel_rfl) rfl (hv2 (zh.ev rfl) (zh.ev rfl))) (compose_wk hB51 hB43) ?_
  rintro _ w52 ⟨⟨wp, wc, rfl, hsub⟩, hbc⟩
  refine WL.val (.tuple #[.slice wp 2 wc, .int .i64 0]) rfl rfl rfl (fun za zC zh zk => wp_move rfl (zh.ev rfl) zk) ?_
  refine WL.val (.slice wp 2 wc) rfl rfl rfl (fun za zC zh zk => ext2_0 rfl (zh.ev rfl) zk) ?_
  refine WL.val (.int .i64 0) rfl rfl rfl (fun za zC zh zk => ext2_1 rfl (zh.ev rfl) zk) ?_
  refine WL.val (.slice wp 2 wc) rfl rfl rfl (fun za zC zh zk => wp_assign rfl (zh.ev rfl) zk) ?_
  refine WL.val (.int .i64 0) rfl rfl rfl (fun za zC zh zk => wp_assign rfl (zh.ev rfl) zk) ?_
  refine WL.nil (WE.sub (K' := [(0, .bool false), (1, .pointer (some ⟨g2, 0, none⟩)), (2, .pointer (some ⟨g9, 0, none⟩)), (3, .slice wp 2 wc), (4, .int .i64 0)]) ⟨rfl, rfl, rfl, rfl, rfl, trivial⟩ ?_)
  refine WE.next ?_
  refine WC.seq ?_
  refine WC.region ?_
  refine WL.val (.int .i64 0) rfl rfl rfl (fun za zC zh zk => wp_move rfl (zh.ev rfl) zk) ?_
  refine WL.val (.bool true) rfl rfl rfl (fun za zC zh zk => eql_26 rfl (zh.ev rfl) (zh.ev rfl) zk) ?_
  refine WL.val (.bool true) rfl rfl rfl (fun za zC zh zk => wp_move rfl (zh.ev rfl) zk) ?_
  refine WL.want (d := 19) rfl rfl rfl ?_
  refine WL.val (.slice wp 2 wc) rfl rfl rfl (fun za zC zh zk => wp_move rfl (zh.ev rfl) zk) ?_
  refine WL.want (d := 19) rfl rfl rfl ?_
  refine WL.val (.int .i64 2) rfl rfl rfl (fun za zC zh zk => len_23 rfl (zh.ev rfl) zk) ?_
  refine WL.want (d := 19) rfl rfl rfl ?_
  refine WL.val (.bool true) rfl rfl rfl (fun za zC zh zk => eql_3 rfl (zh.ev rfl) (zh.ev rfl) zk) ?_
  refine WL.val (.bool true) rfl rfl rfl (fun za zC zh zk => wp_pickT rfl (zh.ev rfl) (zh.ev rfl) zk) ?_
  refine WL.val (.bool true) rfl rfl rfl (fun za zC zh zk => wp_move rfl (zh.ev rfl) zk) ?_
  refine WL.want (d := 24) rfl rfl rfl ?_
  refine WL.val (.slice wp 2 wc) rfl rfl rfl (fun za zC zh zk => wp_move rfl (zh.ev rfl) zk) ?_
  refine WL.want (d := 24) rfl rfl rfl ?_
  obtain ⟨b53, o54, A55, C56, ha57, hc58⟩ := InRow.openB hsub.rows
  refine WL.val (.pointer (some ⟨b53, o54 + 0 * 3, none⟩)) rfl rfl rfl (fun za zC zh zk => ix_23 (k := 0) rfl (zh.ev rfl) (ha57 0 (by decide)) (zh.ev rfl) (by first | omega | (simp; omega)) zk) ?_
  refine WL.want (d := 24) rfl rfl rfl ?_
  refine WL.val (.pointer (some ⟨b53, o54 + 0 * 3 + 1, none⟩)) rfl rfl rfl (fun za zC zh zk => fld_56_1 rfl (zh.ev rfl) zk) ?_
  refine WL.want (d := 24) rfl rfl rfl ?_
  refine WL.val (.pointer (some ⟨b53, o54 + 0 * 3 + 1, none⟩)) rfl rfl rfl (fun za zC zh zk => fld_32_0 rfl (zh.ev rfl) zk) ?_
  refine WL.want (d := 24) rfl rfl rfl ?_
  refine WL.val (.int .i64 1) rfl rfl rfl (fun za zC zh zk => ld_3 rfl (zh.ev rfl) (hc58 0 (by decide)).2.1 zk) ?_
  refine WL.want (d := 24) rfl rfl rfl ?_
  refine WL.val (.bool true) rfl rfl rfl (fun za zC zh zk => eql_3 rfl (zh.ev rfl) (zh.ev rfl) zk) ?_
  refine WL.val (.bool true) rfl rfl rfl (fun za zC zh zk => wp_pickT rfl (zh.ev rfl) (zh.ev rfl) zk) ?_
  refine WL.val (.bool true) rfl rfl rfl (fun za zC zh zk => wp_move rfl (zh.ev rfl) zk) ?_
  refine WL.want (d := 32) rfl rfl rfl ?_
  refine WL.val (.slice wp 2 wc) rfl rfl rfl (fun za zC zh zk => wp_move rfl (zh.ev rfl) zk) ?_
  refine WL.want (d := 32) rfl rfl rfl ?_
  refine WL.val (.pointer (some ⟨b53, o54 + 1 * 3, none⟩)) rfl rfl rfl (fun za zC zh zk => ix_23 (k := 1) rfl (zh.ev rfl) (ha57 1 (by decide)) (zh.ev rfl) (by first | omega | (simp; omega)) zk) ?_
  refine WL.want (d := 32) rfl rfl rfl ?_
  refine WL.val (.pointer (some ⟨b53, o54 + 1 * 3 + 1, none⟩)) rfl rfl rfl (fun za zC zh zk => fld_56_1 rfl (zh.ev rfl) zk) ?_
  refine WL.want (d := 32) rfl rfl rfl ?_
  refine WL.val (.pointer (some ⟨b53, o54 + 1 * 3 + 1, none⟩)) rfl rfl rfl (fun za zC zh zk => fld_32_0 rfl (zh.ev rfl) zk) ?_
  refine WL.want (d := 32) rfl rfl rfl ?_
  refine WL.val (.int .i64 1) rfl rfl rfl (fun za zC zh zk => ld_3 rfl (zh.ev rfl) (hc58 1 (by decide)).2.1 zk) ?_
  refine WL.want (d := 32) rfl rfl rfl ?_
  refine WL.val (.bool true) rfl rfl rfl (fun za zC zh zk => eql_3 rfl (zh.ev rfl) (zh.ev rfl) zk) ?_
  refine WL.val (.bool true) rfl rfl rfl (fun za zC zh zk => wp_pickT rfl (zh.ev rfl) (zh.ev rfl) zk) ?_
  refine WL.val (.bool true) rfl rfl rfl (fun za zC zh zk => wp_move rfl (zh.ev rfl) zk) ?_
  refine WL.want (d := 40) rfl rfl rfl ?_
  refine WL.val (.slice wp 2 wc) rfl rfl rfl (fun za zC zh zk => wp_move rfl (zh.ev rfl) zk) ?_
  refine WL.want (d := 40) rfl rfl rfl ?_
  refine WL.val (.agg #[.int .i64 ((-1)), .slice none 0 0]) rfl rfl rfl (fun za zC zh zk => build_32_0 rfl (zh.ev rfl) zk) ?_
  refine WL.want (d := 40) rfl rfl rfl ?_
  refine WL.call rfl rfl rfl (fun za zh zC => wp_call (by kernel_rfl) rfl (hv2 (zh.ev rfl) (zh.ev rfl))) (apply_wk (hsub.below (Below.refl _ _))) ?_
  rintro _ w59 ⟨⟨qa, qc, rfl⟩, hba⟩
  refine WL.want (d := 40) rfl rfl rfl ?_
  refine WL.val (.int .i64 1) rfl rfl rfl (fun za zC zh zk => part_32_0 rfl (zh.ev rfl) zk) ?_
  refine WL.want (d := 40) rfl rfl rfl ?_
  refine WL.val (.bool true) rfl rfl rfl (fun za zC zh zk => eql_3 rfl (zh.ev rfl) (zh.ev rfl) zk) ?_
  refine WL.val (.bool true) rfl rfl rfl (fun za zC zh zk => wp_pickT rfl (zh.ev rfl) (zh.ev rfl) zk) ?_
  refine WL.val (.bool true) rfl rfl rfl (fun za zC zh zk => wp_move rfl (zh.ev rfl) zk) ?_
  refine WL.want (d := 47) rfl rfl rfl ?_
  refine WL.val (.agg #[.int .i64 ((-1)), .slice none 0 0]) rfl rfl rfl (fun za zC zh zk => build_32_0 rfl (zh.ev rfl) zk) ?_
  refine WL.want (d := 47) rfl rfl rfl ?_
  refine WL.val (.agg #[.int .i64 0, .int .i64 ((-1)), .slice none 0 0]) rfl rfl rfl (fun za zC zh zk => build_56_0_1 rfl (zh.ev rfl) (zh.ev rfl) zk) ?_
  refine WL.want (d := 47) rfl rfl rfl ?_
  refine WL.step (post := NewRow w59 56 #[.int .i64 0, .int .i64 ((-1)), .slice none 0 0] 1) rfl rfl rfl (fun za zC zh zk => row_23_1 rfl (zh.ev rfl) (zk _ _ (newRow _ _ _ _))) ?_
  rintro _ w60 ⟨g61, rfl, hg62, hB63, hb64, hz65⟩
  have hb66 : Below w24.heap.size w24 w59 := (bstep (bstep (bstep hb34 hb44) hbc) hba)
  have hl67 : g2 < g61 := by have z1 := hB29.lt; have z2 := (hb66).size; omega
  have hb68 : Below w30.heap.size w30 w59 := (bstep (bstep hb44 hbc) hba)
  have hl69 : g9 < g61 := by have z1 := hB39.lt; have z2 := (hb68).size; omega
  have hb70 : Below w40.heap.size w40 w59 := (bstep hbc hba)
  have hl71 : g31 < g61 := by have z1 := hB51.lt; have z2 := (hb70).size; omega
  have hl72 : g41 < g61 := by have z1 := hB43.lt; have z2 := (hb70).size; omega
  have hb73 : Below w.heap.size w w59 := (bstep hb28 hb66)
  have hl74 : w.heap.size ≤ g61 := by have z2 := (hb73).size; omega
  refine WL.want (d := 47) rfl rfl rfl ?_
  refine WL.call rfl rfl rfl (fun za zh zC => wp_call (by kernel_rfl) rfl (hv1 (zh.ev rfl))) (check_wk hB63) ?_
  rintro _ w76 ⟨rfl, hq75⟩
  refine WL.want (d := 47) rfl rfl rfl ?_
  refine WL.val (.bool true) rfl rfl rfl (fun za zC zh zk => eql_26 rfl (zh.ev rfl) (zh.ev rfl) zk) ?_
  refine WL.val (.bool true) rfl rfl rfl (fun za zC zh zk => wp_pickT rfl (zh.ev rfl) (zh.ev rfl) zk) ?_
  refine WL.val (.bool true) rfl rfl rfl (fun za zC zh zk => wp_assign rfl (zh.ev rfl) zk) ?_
  refine WL.nil (WE.sub (K' := [(0, .bool true), (1, .pointer (some ⟨g2, 0, none⟩)), (2, .pointer (some ⟨g9, 0, none⟩)), (3, .slice wp 2 wc), (4, .int .i64 0)]) ⟨rfl, rfl, rfl, rfl, rfl, trivial⟩ ?_)
  refine WE.next ?_
  refine WC.ret ?_
  refine WE.ret1 rfl rfl ?_
  have hb77 : Below w.heap.size w w76 := (bstep (bstep hb73 hb64) hq75)
  exact ⟨_, rfl, rfl, hb77⟩

end Go.Proofs.Ytgechlgdnnpoeaa
