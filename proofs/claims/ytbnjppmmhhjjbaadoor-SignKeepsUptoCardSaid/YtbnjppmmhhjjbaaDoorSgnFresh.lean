/- A symbol with a new name: the program and the document. -/
import Derived.Test.YtbnjppmmhhjjbaaDoorSgnLaws
import Derived.Test.YtbnjppmmhhjjbaaDoorKeepsPlain
import Derived.Test.YtbnjppmmhhjjbaaDoorItoaLay
namespace Go.Proofs.YtbnjppmmhhjjbaaDoor
open Go.RowKit Go
set_option linter.unusedVariables false
set_option linter.unusedSimpArgs false

theorem itoa_any (k : Nat) (hk : k < 100) (w : World) : Calls Tryd.prog 14 #[.int .i64 (k : Int)] w (Ret fun v' w' => v' = .string ⟨(Lib.decDigits k).toArray⟩ ∧ Below w.heap.size w w') :=
  (Any.strconv_Itoa_small Tryd.lItoa k hk w).mono fun e w' ⟨h1, h2⟩ => ⟨_, h1, rfl, by rw [h2]; exact Below.refl _ _⟩
theorem digits_size {k : Nat} (hk : k < 100) : (⟨(Lib.decDigits k).toArray⟩ : ByteArray).size ≤ 2 := by
  show (Lib.decDigits k).toArray.size ≤ 2
  by_cases h : k < 10
  · rw [Lib.decDigits_one h]; simp
  · rw [Lib.decDigits_two h hk]; simp
theorem numd_size {s : ByteArray} {k : Nat} (hk : k < 100) : (numd s k).size ≤ s.size + 2 := by
  have := digits_size hk
  unfold numd
  rw [ByteArray.size_append]; omega
theorem one_size {x : Sy} (h : x.one = 0) : x.name.size ≤ 40 := by
  unfold Sy.one at h
  split at h
  · rename_i hn
    unfold named at hn
    rw [Bool.and_eq_true, decide_eq_true_eq] at hn
    exact hn.1.2
  · cases h
theorem fr1 {l : List Sy} {x : Sy} (h : sigCheck l ≠ 0) : freshRes l x = (⟨⟨#[]⟩, 0, false⟩, sigCheck l) := by unfold freshRes; rw [if_pos h]; rfl
theorem fr2 {l : List Sy} {x : Sy} (h : sigCheck l = 0) (h2 : x.one ≠ 0) : freshRes l x = (⟨⟨#[]⟩, 0, false⟩, x.one) := by unfold freshRes; rw [if_neg (by rw [h]; decide), if_pos h2]; rfl
theorem fr3 {l : List Sy} {x : Sy} {k : Nat} (h : sigCheck l = 0) (h2 : x.one = 0) (h3 : ∀ j, 1 ≤ j → j < k → borne l (numd x.name j) = true) (h4 : 1 ≤ k) (h5 : k ≤ 97) (h6 : borne l (numd x.name k) = false) : freshRes l x = if named (numd x.name k) = true then (⟨numd x.name k, x.ar, x.pred⟩, 0) else (⟨⟨#[]⟩, 0, false⟩, 111) := by
  unfold freshRes
  rw [if_neg (by rw [h]; decide), if_neg (by rw [h2]; decide), fresh_at (sigCheck_len h) h3 h4 h5 h6]; rfl
set_option maxRecDepth 100000 in
theorem fresh1_any (y : Sy) (nm : ByteArray) (g : Nat) (ar : Int) (pr : Bool) (w : World) (hB : Blk w g 26 #[.string nm, .int .i64 ar, .bool pr]) : Calls Tryd.prog 16 #[y.val, .pointer (some ⟨g, 0, none⟩)] w (Ret fun v' w' => v' = .bool (decide (y.name = nm)) ∧ Below w.heap.size w w') := by
  have hgl := hB.lt
  unfold Sy.val
  refine Calls.walk (l := [.agg #[.string y.name, .int .i64 y.ar, .bool y.pred], .pointer (some ⟨g, 0, none⟩)]) Tryd.func16 rfl (by kernel_rfl) ?_
  refine WC.sub (K' := [(0, .agg #[.string y.name, .int .i64 y.ar, .bool y.pred]), (1, .pointer (some ⟨g, 0, none⟩))]) ⟨rfl, rfl, trivial⟩ ?_
  refine WC.seq ?_
  refine WC.region ?_
  refine WL.step (post := NewBlk w 26 #[.string y.name, .int .i64 y.ar, .bool y.pred]) rfl rfl rfl (fun za zC zh zk => box_26 rfl (zh.ev rfl) (zk _ _ (newBlk _ _ _))) ?_
  rintro _ w1 ⟨g2, rfl, hg3, hB4, hb5, hz6⟩
  have hl7 : g < g2 := by have z1 := hB.lt; omega
  have hl8 : w.heap.size ≤ g2 := by omega
  refine WL.val (.bool false) rfl rfl rfl (fun za zC zh zk => wp_assign rfl (zh.ev rfl) zk) ?_
  refine WL.nil (WE.sub (K' := [(0, .agg #[.string y.name, .int .i64 y.ar, .bool y.pred]), (1, .pointer (some ⟨g, 0, none⟩)), (2, .pointer (some ⟨g2, 0, none⟩)), (3, .bool false)]) ⟨rfl, rfl, rfl, rfl, trivial⟩ ?_)
  refine WE.next ?_
  refine WC.seq ?_
  refine WC.region ?_
  refine WL.val (.pointer (some ⟨g2, 0, none⟩)) rfl rfl rfl (fun za zC zh zk => fld_26_0 rfl (zh.ev rfl) zk) ?_
  refine WL.val (.string y.name) rfl rfl rfl (fun za zC zh zk => ld_9 rfl (zh.ev rfl) ((hB4.cell 0).trans rfl) zk) ?_
  refine WL.val (.pointer (some ⟨g, 0, none⟩)) rfl rfl rfl (fun za zC zh zk => fld_26_0 rfl (zh.ev rfl) zk) ?_
  have hB9 := hB.below hb5
  refine WL.val (.string nm) rfl rfl rfl (fun za zC zh zk => ld_9 rfl (zh.ev rfl) ((hB9.cell 0).trans rfl) zk) ?_
  refine WL.val (.bool ((decide (y.name = nm)))) rfl rfl rfl (fun za zC zh zk => eql_9 rfl (zh.ev rfl) (zh.ev rfl) zk) ?_
  refine WL.val (.bool ((decide (y.name = nm)))) rfl rfl rfl (fun za zC zh zk => wp_assign rfl (zh.ev rfl) zk) ?_
  refine WL.nil (WE.sub (K' := [(0, .agg #[.string y.name, .int .i64 y.ar, .bool y.pred]), (1, .pointer (some ⟨g, 0, none⟩)), (2, .pointer (some ⟨g2, 0, none⟩)), (3, .bool ((decide (y.name = nm))))]) ⟨rfl, rfl, rfl, rfl, trivial⟩ ?_)
  refine WE.next ?_
  refine WC.ret ?_
  refine WE.ret1 rfl rfl ?_
  exact ⟨_, rfl, rfl, hb5⟩

theorem borne_no {l : List Sy} {nm : ByteArray} (h : ∀ i, i < l.length → ¬ (sget l i).name = nm) : borne l nm = false := by
  rw [Bool.eq_false_iff]
  intro hb
  obtain ⟨y, hy, e⟩ := borne_iff.1 hb
  obtain ⟨i, hi, rfl⟩ := List.getElem_of_mem hy
  exact h i hi (by rw [sget_lt hi]; exact e)
theorem borne_yes {l : List Sy} {nm : ByteArray} {k : Nat} (hk : k < l.length) (h : (sget l k).name = nm) : borne l nm = true := borne_iff.2 ⟨_, sget_mem hk, h⟩
set_option maxRecDepth 100000 in
theorem indexf_any (l : List Sy) (nm : ByteArray) (g : Nat) (ar : Int) (pr : Bool) (w : World) (a : Option Addr) (c : Nat) (hc : l.length ≤ c) (hm : c ≤ maxLen) (hl : IsSys w l a) (hB : Blk w g 26 #[.string nm, .int .i64 ar, .bool pr]) : Calls Tryd.prog 28 #[.slice a l.length c, .func (.func 16) #[] #[.pointer (some ⟨g, 0, none⟩)]] w (Ret fun v' w' => (∃ r : Int, v' = .int .i64 r ∧ decide ((0 : Int) ≤ r) = borne l nm) ∧ Below w.heap.size w w') := by
  unfold maxLen at hm
  have hgl := hB.lt
  refine Calls.walk (l := [.slice a l.length c, .func (.func 16) #[] #[.pointer (some ⟨g, 0, none⟩)]]) Tryd.func28 rfl (by kernel_rfl) ?_
  refine WC.sub (K' := [(0, .slice a l.length c), (1, .func (.func 16) #[] #[.pointer (some ⟨g, 0, none⟩)])]) ⟨rfl, rfl, trivial⟩ ?_
  refine WC.seq ?_
  refine WC.region ?_
  refine WL.val (.int .i64 0) rfl rfl rfl (fun za zC zh zk => wp_assign rfl (zh.ev rfl) zk) ?_
  refine WL.nil (WE.sub (K' := [(0, .slice a l.length c), (1, .func (.func 16) #[] #[.pointer (some ⟨g, 0, none⟩)]), (4, .int .i64 0)]) ⟨rfl, rfl, rfl, trivial⟩ ?_)
  refine WE.next ?_
  refine WC.seq ?_
  refine WC.seq ?_
  refine WC.region ?_
  refine WL.val (.slice a l.length c) rfl rfl rfl (fun za zC zh zk => wp_move rfl (zh.ev rfl) zk) ?_
  refine WL.val (.int .i64 (((l.length : Nat) : Int))) rfl rfl rfl (fun za zC zh zk => len_22 rfl (zh.ev rfl) zk) ?_
  refine WL.val (.int .i64 0) rfl rfl rfl (fun za zC zh zk => wp_move rfl (zh.ev rfl) zk) ?_
  refine WL.nil (WE.sub (K' := [(0, .slice a l.length c), (1, .func (.func 16) #[] #[.pointer (some ⟨g, 0, none⟩)]), (4, .int .i64 0), (7, .int .i64 (((l.length : Nat) : Int))), (8, .int .i64 0)]) ⟨rfl, rfl, rfl, rfl, rfl, trivial⟩ ?_)
  refine WE.next ?_
  refine WC.block ?_
  refine WC.loop (X := Nat) (fun k => l.length - k) (fun k => [(0, .slice a l.length c), (1, .func (.func 16) #[] #[.pointer (some ⟨g, 0, none⟩)]), (7, .int .i64 (((l.length : Nat) : Int))), (8, .int .i64 (((k : Nat) : Int)))]) (fun k w1 => k ≤ l.length ∧ (∀ i, i < k → ¬ (sget l i).name = nm) ∧ Below w.heap.size w w1 ∧ Blk w1 g 26 #[.string nm, .int .i64 ar, .bool pr]) 0 ⟨rfl, rfl, rfl, rfl, trivial⟩ ?_ ?_
  · exact ⟨Nat.zero_le _, fun i h => absurd h (Nat.not_lt_zero i), (Below.refl _ _), hB⟩
  · rintro k w1 ⟨hk, hE, hb2, hB3⟩
    refine WC.seq ?_
    refine WC.region ?_
    refine WL.val (.bool ((decide ((((k : Nat) : Int) : Int) < (((l.length : Nat) : Int) : Int))))) rfl rfl rfl (fun za zC zh zk => lss_3 rfl (zh.ev rfl) (zh.ev rfl) zk) ?_
    refine WL.nil (WE.sub (K' := [(0, .slice a l.length c), (1, .func (.func 16) #[] #[.pointer (some ⟨g, 0, none⟩)]), (7, .int .i64 (((l.length : Nat) : Int))), (8, .int .i64 (((k : Nat) : Int))), (9, .bool ((decide ((((k : Nat) : Int) : Int) < (((l.length : Nat) : Int) : Int)))))]) ⟨rfl, rfl, rfl, rfl, rfl, trivial⟩ ?_)
    refine WE.next ?_
    refine WC.seq ?_
    refine WC.cond rfl (fun h4 => ?_) (fun h4 => ?_)
    · have h4 : (((k : Nat) : Int) : Int) < (((l.length : Nat) : Int) : Int) := by simpa using h4
      refine WC.skip ?_
      refine WE.next ?_
      refine WC.seq ?_
      refine WC.block ?_
      refine WC.seq ?_
      refine WC.region ?_
      refine WL.val (.int .i64 (((k : Nat) : Int))) rfl rfl rfl (fun za zC zh zk => wp_move rfl (zh.ev rfl) zk) ?_
      refine WL.val (.int .i64 (((k : Nat) : Int))) rfl rfl rfl (fun za zC zh zk => wp_assign rfl (zh.ev rfl) zk) ?_
      refine WL.nil (WE.sub (K' := [(0, .slice a l.length c), (1, .func (.func 16) #[] #[.pointer (some ⟨g, 0, none⟩)]), (5, .int .i64 (((k : Nat) : Int))), (7, .int .i64 (((l.length : Nat) : Int))), (8, .int .i64 (((k : Nat) : Int))), (9, .bool ((decide ((((k : Nat) : Int) : Int) < (((l.length : Nat) : Int) : Int)))))]) ⟨rfl, rfl, rfl, rfl, rfl, rfl, trivial⟩ ?_)
      refine WE.next ?_
      refine WC.seq ?_
      refine WC.region ?_
      refine WL.val (.func (.func 16) #[] #[.pointer (some ⟨g, 0, none⟩)]) rfl rfl rfl (fun za zC zh zk => wp_move rfl (zh.ev rfl) zk) ?_
      refine WL.val (.slice a l.length c) rfl rfl rfl (fun za zC zh zk => wp_move rfl (zh.ev rfl) zk) ?_
      refine WL.val (.int .i64 (((k : Nat) : Int))) rfl rfl rfl (fun za zC zh zk => wp_move rfl (zh.ev rfl) zk) ?_
      obtain ⟨b5, o6, ha7, hc8⟩ := IsSys.open hl
      refine WL.val (.pointer (some ⟨b5, o6 + k * 3, none⟩)) rfl rfl rfl (fun za zC zh zk => ix_22 (k := k) rfl (zh.ev rfl) (ha7 k (by first | omega | (simp; omega))) (zh.ev rfl) (by first | omega | (simp; omega)) zk) ?_
      refine WL.val (.agg #[.string ((sget l k).name), .int .i64 ((sget l k).ar), .bool ((sget l k).pred)]) rfl rfl rfl (fun za zC zh zk => ld_26 rfl (zh.ev rfl) (bkeeps hb2 _ _ (hc8 k (by first | omega | (simp; omega))).1) (bkeeps hb2 _ _ (hc8 k (by first | omega | (simp; omega))).2.1) (bkeeps hb2 _ _ (hc8 k (by first | omega | (simp; omega))).2.2) zk) ?_
      refine WL.call rfl rfl rfl (fun za zh zC => wp_callv (by kernel_rfl) rfl (zh.ev rfl) (hv1 (zh.ev rfl))) (fresh1_any (sget l k) nm g ar pr _ hB3) ?_
      rintro _ w9 ⟨rfl, hbc⟩
      refine WL.nil (WE.sub (K' := [(0, .slice a l.length c), (1, .func (.func 16) #[] #[.pointer (some ⟨g, 0, none⟩)]), (5, .int .i64 (((k : Nat) : Int))), (7, .int .i64 (((l.length : Nat) : Int))), (8, .int .i64 (((k : Nat) : Int))), (9, .bool ((decide ((((k : Nat) : Int) : Int) < (((l.length : Nat) : Int) : Int))))), (16, .bool ((decide ((sget l k).name = nm))))]) ⟨rfl, rfl, rfl, rfl, rfl, rfl, rfl, trivial⟩ ?_)
      refine WE.next ?_
      refine WC.cond rfl (fun h10 => ?_) (fun h10 => ?_)
      · have h10 : (sget l k).name = nm := by simpa using h10
        refine WC.seq ?_
        refine WC.region ?_
        refine WL.val (.int .i64 (((k : Nat) : Int))) rfl rfl rfl (fun za zC zh zk => wp_move rfl (zh.ev rfl) zk) ?_
        refine WL.val (.int .i64 (((k : Nat) : Int))) rfl rfl rfl (fun za zC zh zk => wp_assign rfl (zh.ev rfl) zk) ?_
        refine WL.nil (WE.sub (K' := [(0, .slice a l.length c), (1, .func (.func 16) #[] #[.pointer (some ⟨g, 0, none⟩)]), (4, .int .i64 (((k : Nat) : Int))), (5, .int .i64 (((k : Nat) : Int))), (7, .int .i64 (((l.length : Nat) : Int))), (8, .int .i64 (((k : Nat) : Int))), (9, .bool ((decide ((((k : Nat) : Int) : Int) < (((l.length : Nat) : Int) : Int))))), (16, .bool ((decide ((sget l k).name = nm))))]) ⟨rfl, rfl, rfl, rfl, rfl, rfl, rfl, rfl, trivial⟩ ?_)
        refine WE.next ?_
        refine WC.ret ?_
        refine WE.blockRet ?_
        refine WE.thenRet ?_
        refine WE.thenRet ?_
        refine WE.blockRet ?_
        refine WE.thenRet ?_
        refine WE.ret1 rfl rfl ?_
        have hb11 : Below w.heap.size w w9 := (bstep hb2 hbc)
        exact ⟨_, rfl, ⟨_, rfl, by rw [borne_yes (k := k) (by omega) h10]; simp⟩, hb11⟩
      · have h10 : ¬ ((sget l k).name = nm) := by simpa using h10
        refine WC.skip ?_
        refine WE.blockNormal ?_
        refine WE.next ?_
        refine WC.region ?_
        refine WL.val (.int .i64 ((((k + 1) : Nat) : Int))) rfl rfl rfl (fun za zC zh zk => addb_3 rfl (zh.ev rfl) (zh.ev rfl) (wrap_eq (by omega) (by omega) (by omega)) zk) ?_
        refine WL.val (.int .i64 ((((k + 1) : Nat) : Int))) rfl rfl rfl (fun za zC zh zk => wp_move rfl (zh.ev rfl) zk) ?_
        refine WL.nil (WE.sub (K' := [(0, .slice a l.length c), (1, .func (.func 16) #[] #[.pointer (some ⟨g, 0, none⟩)]), (5, .int .i64 (((k : Nat) : Int))), (7, .int .i64 (((l.length : Nat) : Int))), (8, .int .i64 ((((k + 1) : Nat) : Int))), (9, .bool ((decide ((((k : Nat) : Int) : Int) < (((l.length : Nat) : Int) : Int))))), (16, .bool ((decide ((sget l k).name = nm))))]) ⟨rfl, rfl, rfl, rfl, rfl, rfl, rfl, trivial⟩ ?_)
        refine WE.round (k + 1) ⟨rfl, rfl, rfl, rfl, trivial⟩ ?_ ?_
        · have hb12 : Below w.heap.size w w9 := (bstep hb2 hbc)
          have hB13 := hB3.below hbc
          exact ⟨by omega, fun i hi => by rcases Nat.lt_or_ge i k with q | q; exact hE i q; (obtain rfl : i = k := by omega); exact h10, hb12, hB13⟩
        · omega
    · have h4 : ¬ ((((k : Nat) : Int) : Int) < (((l.length : Nat) : Int) : Int)) := by simpa using h4
      refine WC.exit ?_
      refine WE.thenExit ?_
      refine WE.thenExit ?_
      refine WE.blockIs rfl ?_
      refine WE.next ?_
      refine WC.seq ?_
      refine WC.region ?_
      refine WL.val (.int .i64 ((-1))) rfl rfl rfl (fun za zC zh zk => wp_assign rfl (zh.ev rfl) zk) ?_
      refine WL.nil (WE.sub (K' := [(0, .slice a l.length c), (1, .func (.func 16) #[] #[.pointer (some ⟨g, 0, none⟩)]), (4, .int .i64 ((-1))), (7, .int .i64 (((l.length : Nat) : Int))), (8, .int .i64 (((k : Nat) : Int))), (9, .bool ((decide ((((k : Nat) : Int) : Int) < (((l.length : Nat) : Int) : Int)))))]) ⟨rfl, rfl, rfl, rfl, rfl, rfl, trivial⟩ ?_)
      refine WE.next ?_
      refine WC.ret ?_
      refine WE.ret1 rfl rfl ?_
      exact ⟨_, rfl, ⟨_, rfl, by rw [borne_no (fun i hi => hE i (by omega))]; rfl⟩, hb2⟩

set_option maxRecDepth 100000 in
theorem containsf_any (l : List Sy) (nm : ByteArray) (g : Nat) (ar : Int) (pr : Bool) (w : World) (a : Option Addr) (c : Nat) (hc : l.length ≤ c) (hm : c ≤ maxLen) (hl : IsSys w l a) (hB : Blk w g 26 #[.string nm, .int .i64 ar, .bool pr]) : Calls Tryd.prog 15 #[.slice a l.length c, .func (.func 16) #[] #[.pointer (some ⟨g, 0, none⟩)]] w (Ret fun v' w' => v' = .bool (borne l nm) ∧ Below w.heap.size w w') := by
  have hgl := hB.lt
  refine Calls.walk (l := [.slice a l.length c, .func (.func 16) #[] #[.pointer (some ⟨g, 0, none⟩)]]) Tryd.func15 rfl (by kernel_rfl) ?_
  refine WC.sub (K' := [(0, .slice a l.length c), (1, .func (.func 16) #[] #[.pointer (some ⟨g, 0, none⟩)])]) ⟨rfl, rfl, trivial⟩ ?_
  refine WC.seq ?_
  refine WC.region ?_
  refine WL.val (.bool false) rfl rfl rfl (fun za zC zh zk => wp_assign rfl (zh.ev rfl) zk) ?_
  refine WL.nil (WE.sub (K' := [(0, .slice a l.length c), (1, .func (.func 16) #[] #[.pointer (some ⟨g, 0, none⟩)]), (4, .bool false)]) ⟨rfl, rfl, rfl, trivial⟩ ?_)
  refine WE.next ?_
  refine WC.seq ?_
  refine WC.region ?_
  refine WL.val (.slice a l.length c) rfl rfl rfl (fun za zC zh zk => wp_move rfl (zh.ev rfl) zk) ?_
  refine WL.val (.func (.func 16) #[] #[.pointer (some ⟨g, 0, none⟩)]) rfl rfl rfl (fun za zC zh zk => wp_move rfl (zh.ev rfl) zk) ?_
  refine WL.call rfl rfl rfl (fun za zh zC => wp_call (by kernel_rfl) rfl (hv2 (zh.ev rfl) (zh.ev rfl))) (indexf_any l nm g ar pr _ _ _ hc hm (hl.below (Below.refl _ _)) hB) ?_
  rintro _ w1 ⟨⟨r, rfl, hr⟩, hbc⟩
  refine WL.val (.bool ((decide ((0 : Int) ≤ (r : Int))))) rfl rfl rfl (fun za zC zh zk => geq_3 rfl (zh.ev rfl) (zh.ev rfl) zk) ?_
  refine WL.val (.bool ((decide ((0 : Int) ≤ (r : Int))))) rfl rfl rfl (fun za zC zh zk => wp_assign rfl (zh.ev rfl) zk) ?_
  refine WL.nil (WE.sub (K' := [(0, .slice a l.length c), (1, .func (.func 16) #[] #[.pointer (some ⟨g, 0, none⟩)]), (4, .bool ((decide ((0 : Int) ≤ (r : Int)))))]) ⟨rfl, rfl, rfl, trivial⟩ ?_)
  refine WE.next ?_
  refine WC.ret ?_
  refine WE.ret1 rfl rfl ?_
  exact ⟨_, rfl, congrArg Value.bool (by simpa using hr), hbc⟩

set_option maxRecDepth 100000 in
theorem fresh_any (l : List Sy) (x : Sy) (w : World) (v : Value) (hnm : x.name.size ≤ maxLen) (hv : IsSig w l v) : Calls Tryd.prog 5 #[v, .string x.name, .int .i64 x.ar, .bool x.pred] w (Ret fun v' w' => v' = .tuple #[(freshRes l x).1.val, .int .i64 (freshRes l x).2] ∧ Below w.heap.size w w') := by
  have hV := hv
  obtain ⟨a, c, rfl, hc, hm, hl⟩ := hv
  unfold Sy.val
  refine Calls.walk (l := [.agg #[.slice a l.length c], .string x.name, .int .i64 x.ar, .bool x.pred]) Tryd.func5 rfl (by kernel_rfl) ?_
  refine WC.sub (K' := [(0, .agg #[.slice a l.length c]), (1, .string x.name), (2, .int .i64 x.ar), (3, .bool x.pred)]) ⟨rfl, rfl, rfl, rfl, trivial⟩ ?_
  refine WC.seq ?_
  refine WC.region ?_
  refine WL.step (post := NewBlk w 24 #[.slice a l.length c]) rfl rfl rfl (fun za zC zh zk => box_24 rfl (zh.ev rfl) (zk _ _ (newBlk _ _ _))) ?_
  rintro _ w1 ⟨g2, rfl, hg3, hB4, hb5, hz6⟩
  have hl7 : w.heap.size ≤ g2 := by omega
  refine WL.step (post := NewBlk w1 26 #[.string (⟨#[]⟩), .int .i64 0, .bool false]) rfl rfl rfl (fun za zC zh zk => alloc_26 rfl (zk _ _ (newBlk _ _ _))) ?_
  rintro _ w8 ⟨g9, rfl, hg10, hB11, hb12, hz13⟩
  have hl14 : g2 < g9 := by have z1 := hB4.lt; omega
  have hl15 : w.heap.size ≤ g9 := by have z2 := (hb5).size; omega
  refine WL.val (.int .i64 0) rfl rfl rfl (fun za zC zh zk => wp_assign rfl (zh.ev rfl) zk) ?_
  refine WL.nil (WE.sub (K' := [(0, .agg #[.slice a l.length c]), (1, .string x.name), (2, .int .i64 x.ar), (3, .bool x.pred), (4, .pointer (some ⟨g2, 0, none⟩)), (8, .pointer (some ⟨g9, 0, none⟩)), (9, .int .i64 0)]) ⟨rfl, rfl, rfl, rfl, rfl, rfl, rfl, trivial⟩ ?_)
  refine WE.next ?_
  refine WC.seq ?_
  refine WC.seq ?_
  refine WC.region ?_
  have hB16 := hB4.below hb12
  refine WL.val (.agg #[.slice a l.length c]) rfl rfl rfl (fun za zC zh zk => ld_24 rfl (zh.ev rfl) ((hB16.cell 0).trans rfl) zk) ?_
  have hb17 : Below w.heap.size w w8 := (bstep hb5 hb12)
  refine WL.call rfl rfl rfl (fun za zh zC => wp_call (by kernel_rfl) rfl (hv1 (zh.ev rfl))) (pcheck_any l _ _ (IsSig.below hb17 hV)) ?_
  rintro _ w18 ⟨rfl, hbc⟩
  refine WL.val (.int .i64 ((sigCheck l))) rfl rfl rfl (fun za zC zh zk => wp_assign rfl (zh.ev rfl) zk) ?_
  refine WL.nil (WE.sub (K' := [(0, .agg #[.slice a l.length c]), (1, .string x.name), (2, .int .i64 x.ar), (3, .bool x.pred), (4, .pointer (some ⟨g2, 0, none⟩)), (8, .pointer (some ⟨g9, 0, none⟩)), (9, .int .i64 0), (10, .int .i64 ((sigCheck l)))]) ⟨rfl, rfl, rfl, rfl, rfl, rfl, rfl, rfl, trivial⟩ ?_)
  refine WE.next ?_
  refine WC.seq ?_
  refine WC.region ?_
  refine WL.val (.int .i64 ((sigCheck l))) rfl rfl rfl (fun za zC zh zk => wp_move rfl (zh.ev rfl) zk) ?_
  refine WL.val (.bool ((((sigCheck l) : Int) != (0 : Int)))) rfl rfl rfl (fun za zC zh zk => neq_27 rfl (zh.ev rfl) (zh.ev rfl) zk) ?_
  refine WL.nil (WE.sub (K' := [(0, .agg #[.slice a l.length c]), (1, .string x.name), (2, .int .i64 x.ar), (3, .bool x.pred), (4, .pointer (some ⟨g2, 0, none⟩)), (8, .pointer (some ⟨g9, 0, none⟩)), (9, .int .i64 0), (10, .int .i64 ((sigCheck l))), (17, .bool ((((sigCheck l) : Int) != (0 : Int))))]) ⟨rfl, rfl, rfl, rfl, rfl, rfl, rfl, rfl, rfl, trivial⟩ ?_)
  refine WE.next ?_
  refine WC.cond rfl (fun h19 => ?_) (fun h19 => ?_)
  · have h19 : ((sigCheck l) : Int) ≠ (0 : Int) := by simpa using h19
    refine WC.seq ?_
    refine WC.region ?_
    refine WL.val (.agg #[.string (⟨#[]⟩), .int .i64 0, .bool false]) rfl rfl rfl (fun za zC zh zk => build_26_ rfl  zk) ?_
    refine WL.val (.int .i64 ((sigCheck l))) rfl rfl rfl (fun za zC zh zk => wp_move rfl (zh.ev rfl) zk) ?_
    have hB20 := hB11.below hbc
    refine WL.step (post := fun _ w' => Upd g9 w18 w' ∧ Blk w' g9 26 #[.string (⟨#[]⟩), .int .i64 0, .bool false]) rfl rfl rfl (fun za zC zh zk => st_26 rfl (zh.ev rfl) (zh.ev rfl) rfl rfl rfl hB20 (by first | decide | simp) (fun v => zk v _ ⟨((Upd.at_ _ _ _ _).trans (Upd.at_ _ _ _ _)).trans (Upd.at_ _ _ _ _), ((hB20.set_ 0 _).set_ 1 _).set_ 2 _⟩)) ?_
    rintro v24 w21 ⟨hu22, hB23⟩
    have hb25 : Below w.heap.size w w18 := (bstep hb17 hbc)
    have hb26 := upd_below hb25 hu22 (by omega)
    have hB27 := hB16.below hbc
    have hB28 := upd_blk hB27 hu22 (by omega)
    refine WL.val (.int .i64 ((sigCheck l))) rfl rfl rfl (fun za zC zh zk => wp_assign rfl (zh.ev rfl) zk) ?_
    refine WL.nil (WE.sub (K' := [(0, .agg #[.slice a l.length c]), (1, .string x.name), (2, .int .i64 x.ar), (3, .bool x.pred), (4, .pointer (some ⟨g2, 0, none⟩)), (8, .pointer (some ⟨g9, 0, none⟩)), (9, .int .i64 ((sigCheck l))), (10, .int .i64 ((sigCheck l))), (17, .bool ((((sigCheck l) : Int) != (0 : Int))))]) ⟨rfl, rfl, rfl, rfl, rfl, rfl, rfl, rfl, rfl, trivial⟩ ?_)
    refine WE.next ?_
    refine WC.ret ?_
    refine WE.thenRet ?_
    refine WE.retAny (v := .tuple #[.agg #[.string (⟨#[]⟩), .int .i64 0, .bool false], .int .i64 ((sigCheck l))]) (fun za zh => ?_) ?_
    · have z0 : za.tmps[8]?.getD undef = .pointer (some ⟨g9, 0, none⟩) := by rw [← Array.getD_eq_getD_getElem?]; exact zh.knows 8 _ rfl
      have y0_0 : w21.cell? ⟨g9, 0, none⟩ = some (.string (⟨#[]⟩)) := ((hB23.cell 0).trans rfl)
      have y0_1 : w21.cell? ⟨g9, 1, none⟩ = some (.int .i64 0) := ((hB23.cell 1).trans rfl)
      have y0_2 : w21.cell? ⟨g9, 2, none⟩ = some (.bool false) := ((hB23.cell 2).trans rfl)
      have z1 : za.tmps[9]?.getD undef = .int .i64 ((sigCheck l)) := by rw [← Array.getD_eq_getD_getElem?]; exact zh.knows 9 _ rfl
      simp [results, Tryd.results5, z0, y0_0, y0_1, y0_2, z1, go_sem]
    · have hfr := fr1 (l := l) (x := x) h19
      exact ⟨_, rfl, by rw [hfr], hb26⟩
  · have h19 : ¬ (((sigCheck l) : Int) ≠ (0 : Int)) := by simpa using h19
    have hc0 : sigCheck l = 0 := by have z := h19; omega
    have hl96 := sigCheck_len hc0
    refine WC.skip ?_
    refine WE.next ?_
    refine WC.seq ?_
    refine WC.region ?_
    refine WL.val (.string x.name) rfl rfl rfl (fun za zC zh zk => wp_move rfl (zh.ev rfl) zk) ?_
    refine WL.val (.int .i64 x.ar) rfl rfl rfl (fun za zC zh zk => wp_move rfl (zh.ev rfl) zk) ?_
    refine WL.val (.bool x.pred) rfl rfl rfl (fun za zC zh zk => wp_move rfl (zh.ev rfl) zk) ?_
    refine WL.val (.agg #[.string x.name, .int .i64 x.ar, .bool x.pred]) rfl rfl rfl (fun za zC zh zk => build_26_0_1_2 rfl (zh.ev rfl) (zh.ev rfl) (zh.ev rfl) zk) ?_
    refine WL.step (post := NewBlk w18 26 #[.string (⟨#[]⟩), .int .i64 0, .bool false]) rfl rfl rfl (fun za zC zh zk => alloc_26 rfl (zk _ _ (newBlk _ _ _))) ?_
    rintro _ w29 ⟨g30, rfl, hg31, hB32, hb33, hz34⟩
    have hl35 : g2 < g30 := by have z1 := hB16.lt; have z2 := (hbc).size; omega
    have hl36 : g9 < g30 := by have z1 := hB11.lt; have z2 := (hbc).size; omega
    have hb37 : Below w.heap.size w w18 := (bstep hb17 hbc)
    have hl38 : w.heap.size ≤ g30 := by have z2 := (hb37).size; omega
    refine WL.step (post := fun _ w' => Upd g30 w29 w' ∧ Blk w' g30 26 #[.string x.name, .int .i64 x.ar, .bool x.pred]) rfl rfl rfl (fun za zC zh zk => st_26 rfl (zh.ev rfl) (zh.ev rfl) rfl rfl rfl hB32 (by first | decide | simp) (fun v => zk v _ ⟨((Upd.at_ _ _ _ _).trans (Upd.at_ _ _ _ _)).trans (Upd.at_ _ _ _ _), ((hB32.set_ 0 _).set_ 1 _).set_ 2 _⟩)) ?_
    rintro v42 w39 ⟨hu40, hB41⟩
    have hb43 : Below w.heap.size w w29 := (bstep hb37 hb33)
    have hb44 := upd_below hb43 hu40 (by omega)
    have hb46 : Below w8.heap.size w8 w29 := (bstep hbc hb33)
    have hB45 := hB16.below hb46
    have hB47 := upd_blk hB45 hu40 (by omega)
    have hB48 := hB11.below hb46
    have hB49 := upd_blk hB48 hu40 (by omega)
    refine WL.nil (WE.sub (K' := [(0, .agg #[.slice a l.length c]), (1, .string x.name), (2, .int .i64 x.ar), (3, .bool x.pred), (4, .pointer (some ⟨g2, 0, none⟩)), (8, .pointer (some ⟨g9, 0, none⟩)), (9, .int .i64 0), (10, .int .i64 ((sigCheck l))), (11, .pointer (some ⟨g30, 0, none⟩)), (17, .bool ((((sigCheck l) : Int) != (0 : Int))))]) ⟨rfl, rfl, rfl, rfl, rfl, rfl, rfl, rfl, rfl, rfl, trivial⟩ ?_)
    refine WE.next ?_
    refine WC.seq ?_
    refine WC.seq ?_
    refine WC.region ?_
    refine WL.val (.agg #[.string x.name, .int .i64 x.ar, .bool x.pred]) rfl rfl rfl (fun za zC zh zk => ld_26 rfl (zh.ev rfl) ((hB41.cell 0).trans rfl) ((hB41.cell 1).trans rfl) ((hB41.cell 2).trans rfl) zk) ?_
    refine WL.call rfl rfl rfl (fun za zh zC => wp_call (by kernel_rfl) rfl (hv1 (zh.ev rfl))) (pone_any x _ hnm) ?_
    rintro _ w50 ⟨rfl, hbo⟩
    refine WL.val (.int .i64 x.one) rfl rfl rfl (fun za zC zh zk => wp_assign rfl (zh.ev rfl) zk) ?_
    refine WL.nil (WE.sub (K' := [(0, .agg #[.slice a l.length c]), (1, .string x.name), (2, .int .i64 x.ar), (3, .bool x.pred), (4, .pointer (some ⟨g2, 0, none⟩)), (8, .pointer (some ⟨g9, 0, none⟩)), (9, .int .i64 0), (10, .int .i64 ((sigCheck l))), (11, .pointer (some ⟨g30, 0, none⟩)), (12, .int .i64 x.one), (17, .bool ((((sigCheck l) : Int) != (0 : Int))))]) ⟨rfl, rfl, rfl, rfl, rfl, rfl, rfl, rfl, rfl, rfl, rfl, trivial⟩ ?_)
    refine WE.next ?_
    refine WC.seq ?_
    refine WC.region ?_
    refine WL.val (.int .i64 x.one) rfl rfl rfl (fun za zC zh zk => wp_move rfl (zh.ev rfl) zk) ?_
    refine WL.val (.bool (((x.one : Int) != (0 : Int)))) rfl rfl rfl (fun za zC zh zk => neq_27 rfl (zh.ev rfl) (zh.ev rfl) zk) ?_
    refine WL.nil (WE.sub (K' := [(0, .agg #[.slice a l.length c]), (1, .string x.name), (2, .int .i64 x.ar), (3, .bool x.pred), (4, .pointer (some ⟨g2, 0, none⟩)), (8, .pointer (some ⟨g9, 0, none⟩)), (9, .int .i64 0), (10, .int .i64 ((sigCheck l))), (11, .pointer (some ⟨g30, 0, none⟩)), (12, .int .i64 x.one), (17, .bool ((((sigCheck l) : Int) != (0 : Int)))), (27, .bool (((x.one : Int) != (0 : Int))))]) ⟨rfl, rfl, rfl, rfl, rfl, rfl, rfl, rfl, rfl, rfl, rfl, rfl, trivial⟩ ?_)
    refine WE.next ?_
    refine WC.cond rfl (fun h51 => ?_) (fun h51 => ?_)
    · have h51 : (x.one : Int) ≠ (0 : Int) := by simpa using h51
      refine WC.seq ?_
      refine WC.region ?_
      refine WL.val (.agg #[.string (⟨#[]⟩), .int .i64 0, .bool false]) rfl rfl rfl (fun za zC zh zk => build_26_ rfl  zk) ?_
      refine WL.val (.int .i64 x.one) rfl rfl rfl (fun za zC zh zk => wp_move rfl (zh.ev rfl) zk) ?_
      have hB52 := hB49.below hbo
      refine WL.step (post := fun _ w' => Upd g9 w50 w' ∧ Blk w' g9 26 #[.string (⟨#[]⟩), .int .i64 0, .bool false]) rfl rfl rfl (fun za zC zh zk => st_26 rfl (zh.ev rfl) (zh.ev rfl) rfl rfl rfl hB52 (by first | decide | simp) (fun v => zk v _ ⟨((Upd.at_ _ _ _ _).trans (Upd.at_ _ _ _ _)).trans (Upd.at_ _ _ _ _), ((hB52.set_ 0 _).set_ 1 _).set_ 2 _⟩)) ?_
      rintro v56 w53 ⟨hu54, hB55⟩
      have hb57 : Below w.heap.size w w50 := (bstep hb44 hbo)
      have hb58 := upd_below hb57 hu54 (by omega)
      have hB59 := hB47.below hbo
      have hB60 := upd_blk hB59 hu54 (by omega)
      have hB61 := hB41.below hbo
      have hB62 := upd_blk hB61 hu54 (by omega)
      refine WL.val (.int .i64 x.one) rfl rfl rfl (fun za zC zh zk => wp_assign rfl (zh.ev rfl) zk) ?_
      refine WL.nil (WE.sub (K' := [(0, .agg #[.slice a l.length c]), (1, .string x.name), (2, .int .i64 x.ar), (3, .bool x.pred), (4, .pointer (some ⟨g2, 0, none⟩)), (8, .pointer (some ⟨g9, 0, none⟩)), (9, .int .i64 x.one), (10, .int .i64 ((sigCheck l))), (11, .pointer (some ⟨g30, 0, none⟩)), (12, .int .i64 x.one), (17, .bool ((((sigCheck l) : Int) != (0 : Int)))), (27, .bool (((x.one : Int) != (0 : Int))))]) ⟨rfl, rfl, rfl, rfl, rfl, rfl, rfl, rfl, rfl, rfl, rfl, rfl, trivial⟩ ?_)
      refine WE.next ?_
      refine WC.ret ?_
      refine WE.thenRet ?_
      refine WE.retAny (v := .tuple #[.agg #[.string (⟨#[]⟩), .int .i64 0, .bool false], .int .i64 x.one]) (fun za zh => ?_) ?_
      · have z0 : za.tmps[8]?.getD undef = .pointer (some ⟨g9, 0, none⟩) := by rw [← Array.getD_eq_getD_getElem?]; exact zh.knows 8 _ rfl
        have y0_0 : w53.cell? ⟨g9, 0, none⟩ = some (.string (⟨#[]⟩)) := ((hB55.cell 0).trans rfl)
        have y0_1 : w53.cell? ⟨g9, 1, none⟩ = some (.int .i64 0) := ((hB55.cell 1).trans rfl)
        have y0_2 : w53.cell? ⟨g9, 2, none⟩ = some (.bool false) := ((hB55.cell 2).trans rfl)
        have z1 : za.tmps[9]?.getD undef = .int .i64 x.one := by rw [← Array.getD_eq_getD_getElem?]; exact zh.knows 9 _ rfl
        simp [results, Tryd.results5, z0, y0_0, y0_1, y0_2, z1, go_sem]
      · have hfr := fr2 (l := l) (x := x) hc0 h51
        exact ⟨_, rfl, by rw [hfr], hb58⟩
    · have h51 : ¬ ((x.one : Int) ≠ (0 : Int)) := by simpa using h51
      have ho0 : x.one = 0 := by have z := h51; omega
      have h40 := one_size ho0
      refine WC.skip ?_
      refine WE.next ?_
      refine WC.seq ?_
      refine WC.seq ?_
      refine WC.region ?_
      refine WL.val (.int .i64 1) rfl rfl rfl (fun za zC zh zk => wp_assign rfl (zh.ev rfl) zk) ?_
      refine WL.nil (WE.sub (K' := [(0, .agg #[.slice a l.length c]), (1, .string x.name), (2, .int .i64 x.ar), (3, .bool x.pred), (4, .pointer (some ⟨g2, 0, none⟩)), (8, .pointer (some ⟨g9, 0, none⟩)), (9, .int .i64 0), (10, .int .i64 ((sigCheck l))), (11, .pointer (some ⟨g30, 0, none⟩)), (12, .int .i64 x.one), (13, .int .i64 1), (17, .bool ((((sigCheck l) : Int) != (0 : Int)))), (27, .bool (((x.one : Int) != (0 : Int))))]) ⟨rfl, rfl, rfl, rfl, rfl, rfl, rfl, rfl, rfl, rfl, rfl, rfl, rfl, trivial⟩ ?_)
      refine WE.next ?_
      refine WC.block ?_
      refine WC.loop (X := Nat × ByteArray) (fun z => 98 - z.1) (fun z => [(0, .agg #[.slice a l.length c]), (1, .string x.name), (2, .int .i64 x.ar), (3, .bool x.pred), (4, .pointer (some ⟨g2, 0, none⟩)), (8, .pointer (some ⟨g9, 0, none⟩)), (9, .int .i64 0), (10, .int .i64 ((sigCheck l))), (11, .pointer (some ⟨g30, 0, none⟩)), (12, .int .i64 x.one), (13, .int .i64 (((z.1 : Nat) : Int))), (17, .bool ((((sigCheck l) : Int) != (0 : Int)))), (27, .bool (((x.one : Int) != (0 : Int))))]) (fun z w63 => 1 ≤ z.1 ∧ z.1 ≤ 98 ∧ (∀ j, 1 ≤ j → j < z.1 → borne l (numd x.name j) = true) ∧ Below w.heap.size w w63 ∧ Blk w63 g2 24 #[.slice a l.length c] ∧ Blk w63 g9 26 #[.string (⟨#[]⟩), .int .i64 0, .bool false] ∧ Blk w63 g30 26 #[.string z.2, .int .i64 x.ar, .bool x.pred]) ((1, x.name)) ⟨rfl, rfl, rfl, rfl, rfl, rfl, rfl, rfl, rfl, rfl, rfl, rfl, rfl, trivial⟩ ?_ ?_
      · have hb64 : Below w.heap.size w w50 := (bstep hb44 hbo)
        have hB65 := hB47.below hbo
        have hB66 := hB49.below hbo
        have hB67 := hB41.below hbo
        exact ⟨Nat.le_refl _, by (try dsimp only); omega, fun j a b => by (try dsimp only at b); omega, hb64, hB65, hB66, hB67⟩
      · rintro z w63 ⟨hk1, hk2, hbo9, hb68, hB69, hB70, hB71⟩
        have hk97 := fresh_le hl96 hk2 hbo9
        refine WC.seq ?_
        refine WC.block ?_
        refine WC.seq ?_
        refine WC.region ?_
        refine WL.val (.string x.name) rfl rfl rfl (fun za zC zh zk => wp_move rfl (zh.ev rfl) zk) ?_
        refine WL.val (.int .i64 (((z.1 : Nat) : Int))) rfl rfl rfl (fun za zC zh zk => wp_move rfl (zh.ev rfl) zk) ?_
        refine WL.call rfl rfl rfl (fun za zh zC => wp_call (by kernel_rfl) rfl (hv1 (zh.ev rfl))) (itoa_any z.1 (by omega) _) ?_
        rintro _ w73 ⟨rfl, hbi72⟩
        have hds74 := digits_size (k := z.1) (by omega)
        refine WL.val (.string (numd x.name z.1)) rfl rfl rfl (fun za zC zh zk => add_9 rfl (zh.ev rfl) (zh.ev rfl) (by omega) zk) ?_
        refine WL.val (.pointer (some ⟨g30, 0, none⟩)) rfl rfl rfl (fun za zC zh zk => fld_26_0 rfl (zh.ev rfl) zk) ?_
        have hB75 := hB71.below hbi72
        refine WL.step (post := fun _ w' => Upd g30 w73 w' ∧ Blk w' g30 26 #[.string ((numd x.name z.1)), .int .i64 x.ar, .bool x.pred]) rfl rfl rfl (fun za zC zh zk => st_9 rfl (zh.ev rfl) (zh.ev rfl) hB75 (by first | decide | simp) (fun v => zk v _ ⟨Upd.at_ _ _ _ _, hB75.set_ 0 _⟩)) ?_
        rintro v79 w76 ⟨hu77, hB78⟩
        have hb80 : Below w.heap.size w w73 := (bstep hb68 hbi72)
        have hb81 := upd_below hb80 hu77 (by omega)
        have hB82 := hB69.below hbi72
        have hB83 := upd_blk hB82 hu77 (by omega)
        have hB84 := hB70.below hbi72
        have hB85 := upd_blk hB84 hu77 (by omega)
        refine WL.nil (WE.sub (K' := [(0, .agg #[.slice a l.length c]), (1, .string x.name), (2, .int .i64 x.ar), (3, .bool x.pred), (4, .pointer (some ⟨g2, 0, none⟩)), (8, .pointer (some ⟨g9, 0, none⟩)), (9, .int .i64 0), (10, .int .i64 ((sigCheck l))), (11, .pointer (some ⟨g30, 0, none⟩)), (12, .int .i64 x.one), (13, .int .i64 (((z.1 : Nat) : Int))), (17, .bool ((((sigCheck l) : Int) != (0 : Int)))), (27, .bool (((x.one : Int) != (0 : Int))))]) ⟨rfl, rfl, rfl, rfl, rfl, rfl, rfl, rfl, rfl, rfl, rfl, rfl, rfl, trivial⟩ ?_)
        refine WE.next ?_
        refine WC.seq ?_
        refine WC.region ?_
        refine WL.val (.pointer (some ⟨g2, 0, none⟩)) rfl rfl rfl (fun za zC zh zk => fld_24_0 rfl (zh.ev rfl) zk) ?_
        refine WL.val (.slice a l.length c) rfl rfl rfl (fun za zC zh zk => ld_22 rfl (zh.ev rfl) ((hB83.cell 0).trans rfl) zk) ?_
        refine WL.val (.func (Fn.func 16) #[] #[.pointer (some ⟨g30, 0, none⟩)]) rfl rfl rfl (fun za zC zh zk => mkfn rfl (hv0) (hv1 (zh.ev rfl)) zk) ?_
        refine WL.call rfl rfl rfl (fun za zh zC => wp_call (by kernel_rfl) rfl (hv2 (zh.ev rfl) (zh.ev rfl))) (containsf_any l (numd x.name z.1) g30 x.ar x.pred _ _ _ hc hm (hl.below hb81) hB78) ?_
        rintro _ w87 ⟨rfl, hbc86⟩
        refine WL.val (.bool ((!(borne l (numd x.name z.1))))) rfl rfl rfl (fun za zC zh zk => wp_not rfl (zh.ev rfl) zk) ?_
        refine WL.nil (WE.sub (K' := [(0, .agg #[.slice a l.length c]), (1, .string x.name), (2, .int .i64 x.ar), (3, .bool x.pred), (4, .pointer (some ⟨g2, 0, none⟩)), (8, .pointer (some ⟨g9, 0, none⟩)), (9, .int .i64 0), (10, .int .i64 ((sigCheck l))), (11, .pointer (some ⟨g30, 0, none⟩)), (12, .int .i64 x.one), (13, .int .i64 (((z.1 : Nat) : Int))), (17, .bool ((((sigCheck l) : Int) != (0 : Int)))), (27, .bool (((x.one : Int) != (0 : Int)))), (41, .bool ((!(borne l (numd x.name z.1)))))]) ⟨rfl, rfl, rfl, rfl, rfl, rfl, rfl, rfl, rfl, rfl, rfl, rfl, rfl, rfl, trivial⟩ ?_)
        refine WE.next ?_
        refine WC.cond rfl (fun h88 => ?_) (fun h88 => ?_)
        · have h88 : ¬ ((borne l (numd x.name z.1)) = true) := by simpa using h88
          refine WC.exit ?_
          refine WE.blockNot rfl ?_
          refine WE.thenExit ?_
          refine WE.thenExit ?_
          refine WE.blockIs rfl ?_
          refine WE.next ?_
          refine WC.seq ?_
          refine WC.seq ?_
          refine WC.region ?_
          refine WL.val (.pointer (some ⟨g30, 0, none⟩)) rfl rfl rfl (fun za zC zh zk => fld_26_0 rfl (zh.ev rfl) zk) ?_
          have hB89 := hB78.below hbc86
          refine WL.val (.string ((numd x.name z.1))) rfl rfl rfl (fun za zC zh zk => ld_9 rfl (zh.ev rfl) ((hB89.cell 0).trans rfl) zk) ?_
          refine WL.call rfl rfl rfl (fun za zh zC => wp_call (by kernel_rfl) rfl (hv1 (zh.ev rfl))) (pnamed_any (numd x.name z.1) _ (by have z := numd_size (s := x.name) (k := z.1) (by omega); unfold maxLen; omega)) ?_
          rintro _ w90 ⟨rfl, hbm⟩
          refine WL.val (.bool ((!(named (numd x.name z.1))))) rfl rfl rfl (fun za zC zh zk => wp_not rfl (zh.ev rfl) zk) ?_
          refine WL.nil (WE.sub (K' := [(0, .agg #[.slice a l.length c]), (1, .string x.name), (2, .int .i64 x.ar), (3, .bool x.pred), (4, .pointer (some ⟨g2, 0, none⟩)), (8, .pointer (some ⟨g9, 0, none⟩)), (9, .int .i64 0), (10, .int .i64 ((sigCheck l))), (11, .pointer (some ⟨g30, 0, none⟩)), (12, .int .i64 x.one), (13, .int .i64 (((z.1 : Nat) : Int))), (17, .bool ((((sigCheck l) : Int) != (0 : Int)))), (27, .bool (((x.one : Int) != (0 : Int)))), (41, .bool ((!(borne l (numd x.name z.1))))), (45, .bool ((!(named (numd x.name z.1)))))]) ⟨rfl, rfl, rfl, rfl, rfl, rfl, rfl, rfl, rfl, rfl, rfl, rfl, rfl, rfl, rfl, trivial⟩ ?_)
          refine WE.next ?_
          refine WC.cond rfl (fun h91 => ?_) (fun h91 => ?_)
          · have h91 : ¬ ((named (numd x.name z.1)) = true) := by simpa using h91
            refine WC.seq ?_
            refine WC.region ?_
            refine WL.val (.agg #[.string (⟨#[]⟩), .int .i64 0, .bool false]) rfl rfl rfl (fun za zC zh zk => build_26_ rfl  zk) ?_
            have hb93 : Below w76.heap.size w76 w90 := (bstep hbc86 hbm)
            have hB92 := hB85.below hb93
            refine WL.step (post := fun _ w' => Upd g9 w90 w' ∧ Blk w' g9 26 #[.string (⟨#[]⟩), .int .i64 0, .bool false]) rfl rfl rfl (fun za zC zh zk => st_26 rfl (zh.ev rfl) (zh.ev rfl) rfl rfl rfl hB92 (by first | decide | simp) (fun v => zk v _ ⟨((Upd.at_ _ _ _ _).trans (Upd.at_ _ _ _ _)).trans (Upd.at_ _ _ _ _), ((hB92.set_ 0 _).set_ 1 _).set_ 2 _⟩)) ?_
            rintro v97 w94 ⟨hu95, hB96⟩
            have hb98 : Below w.heap.size w w90 := (bstep hb81 hb93)
            have hb99 := upd_below hb98 hu95 (by omega)
            have hB100 := hB83.below hb93
            have hB101 := upd_blk hB100 hu95 (by omega)
            have hB102 := hB89.below hbm
            have hB103 := upd_blk hB102 hu95 (by omega)
            refine WL.val (.int .i64 111) rfl rfl rfl (fun za zC zh zk => wp_assign rfl (zh.ev rfl) zk) ?_
            refine WL.nil (WE.sub (K' := [(0, .agg #[.slice a l.length c]), (1, .string x.name), (2, .int .i64 x.ar), (3, .bool x.pred), (4, .pointer (some ⟨g2, 0, none⟩)), (8, .pointer (some ⟨g9, 0, none⟩)), (9, .int .i64 111), (10, .int .i64 ((sigCheck l))), (11, .pointer (some ⟨g30, 0, none⟩)), (12, .int .i64 x.one), (13, .int .i64 (((z.1 : Nat) : Int))), (17, .bool ((((sigCheck l) : Int) != (0 : Int)))), (27, .bool (((x.one : Int) != (0 : Int)))), (41, .bool ((!(borne l (numd x.name z.1))))), (45, .bool ((!(named (numd x.name z.1)))))]) ⟨rfl, rfl, rfl, rfl, rfl, rfl, rfl, rfl, rfl, rfl, rfl, rfl, rfl, rfl, rfl, trivial⟩ ?_)
            refine WE.next ?_
            refine WC.ret ?_
            refine WE.thenRet ?_
            refine WE.retAny (v := .tuple #[.agg #[.string (⟨#[]⟩), .int .i64 0, .bool false], .int .i64 111]) (fun za zh => ?_) ?_
            · have z0 : za.tmps[8]?.getD undef = .pointer (some ⟨g9, 0, none⟩) := by rw [← Array.getD_eq_getD_getElem?]; exact zh.knows 8 _ rfl
              have y0_0 : w94.cell? ⟨g9, 0, none⟩ = some (.string (⟨#[]⟩)) := ((hB96.cell 0).trans rfl)
              have y0_1 : w94.cell? ⟨g9, 1, none⟩ = some (.int .i64 0) := ((hB96.cell 1).trans rfl)
              have y0_2 : w94.cell? ⟨g9, 2, none⟩ = some (.bool false) := ((hB96.cell 2).trans rfl)
              have z1 : za.tmps[9]?.getD undef = .int .i64 111 := by rw [← Array.getD_eq_getD_getElem?]; exact zh.knows 9 _ rfl
              simp [results, Tryd.results5, z0, y0_0, y0_1, y0_2, z1, go_sem]
            · have hfr := fr3 (l := l) (x := x) (k := z.1) hc0 ho0 hbo9 hk1 hk97 (by simpa using h88)
              rw [if_neg (by simpa using h91)] at hfr
              exact ⟨_, rfl, by rw [hfr], hb99⟩
          · have h91 : ¬ (¬ ((named (numd x.name z.1)) = true)) := by simpa using h91
            refine WC.skip ?_
            refine WE.next ?_
            refine WC.seq ?_
            refine WC.region ?_
            have hB104 := hB89.below hbm
            refine WL.val (.agg #[.string ((numd x.name z.1)), .int .i64 x.ar, .bool x.pred]) rfl rfl rfl (fun za zC zh zk => ld_26 rfl (zh.ev rfl) ((hB104.cell 0).trans rfl) ((hB104.cell 1).trans rfl) ((hB104.cell 2).trans rfl) zk) ?_
            have hb106 : Below w76.heap.size w76 w90 := (bstep hbc86 hbm)
            have hB105 := hB85.below hb106
            refine WL.step (post := fun _ w' => Upd g9 w90 w' ∧ Blk w' g9 26 #[.string ((numd x.name z.1)), .int .i64 x.ar, .bool x.pred]) rfl rfl rfl (fun za zC zh zk => st_26 rfl (zh.ev rfl) (zh.ev rfl) rfl rfl rfl hB105 (by first | decide | simp) (fun v => zk v _ ⟨((Upd.at_ _ _ _ _).trans (Upd.at_ _ _ _ _)).trans (Upd.at_ _ _ _ _), ((hB105.set_ 0 _).set_ 1 _).set_ 2 _⟩)) ?_
            rintro v110 w107 ⟨hu108, hB109⟩
            have hb111 : Below w.heap.size w w90 := (bstep hb81 hb106)
            have hb112 := upd_below hb111 hu108 (by omega)
            have hB113 := hB83.below hb106
            have hB114 := upd_blk hB113 hu108 (by omega)
            have hB115 := upd_blk hB104 hu108 (by omega)
            refine WL.val (.int .i64 0) rfl rfl rfl (fun za zC zh zk => wp_assign rfl (zh.ev rfl) zk) ?_
            refine WL.nil (WE.sub (K' := [(0, .agg #[.slice a l.length c]), (1, .string x.name), (2, .int .i64 x.ar), (3, .bool x.pred), (4, .pointer (some ⟨g2, 0, none⟩)), (8, .pointer (some ⟨g9, 0, none⟩)), (9, .int .i64 0), (10, .int .i64 ((sigCheck l))), (11, .pointer (some ⟨g30, 0, none⟩)), (12, .int .i64 x.one), (13, .int .i64 (((z.1 : Nat) : Int))), (17, .bool ((((sigCheck l) : Int) != (0 : Int)))), (27, .bool (((x.one : Int) != (0 : Int)))), (41, .bool ((!(borne l (numd x.name z.1))))), (45, .bool ((!(named (numd x.name z.1)))))]) ⟨rfl, rfl, rfl, rfl, rfl, rfl, rfl, rfl, rfl, rfl, rfl, rfl, rfl, rfl, rfl, trivial⟩ ?_)
            refine WE.next ?_
            refine WC.ret ?_
            refine WE.retAny (v := .tuple #[.agg #[.string ((numd x.name z.1)), .int .i64 x.ar, .bool x.pred], .int .i64 0]) (fun za zh => ?_) ?_
            · have z0 : za.tmps[8]?.getD undef = .pointer (some ⟨g9, 0, none⟩) := by rw [← Array.getD_eq_getD_getElem?]; exact zh.knows 8 _ rfl
              have y0_0 : w107.cell? ⟨g9, 0, none⟩ = some (.string ((numd x.name z.1))) := ((hB109.cell 0).trans rfl)
              have y0_1 : w107.cell? ⟨g9, 1, none⟩ = some (.int .i64 x.ar) := ((hB109.cell 1).trans rfl)
              have y0_2 : w107.cell? ⟨g9, 2, none⟩ = some (.bool x.pred) := ((hB109.cell 2).trans rfl)
              have z1 : za.tmps[9]?.getD undef = .int .i64 0 := by rw [← Array.getD_eq_getD_getElem?]; exact zh.knows 9 _ rfl
              simp [results, Tryd.results5, z0, y0_0, y0_1, y0_2, z1, go_sem]
            · have hfr := fr3 (l := l) (x := x) (k := z.1) hc0 ho0 hbo9 hk1 hk97 (by simpa using h88)
              rw [if_pos (by simpa using h91)] at hfr
              exact ⟨_, rfl, by rw [hfr], hb112⟩
        · have h88 : ¬ (¬ ((borne l (numd x.name z.1)) = true)) := by simpa using h88
          refine WC.skip ?_
          refine WE.blockNormal ?_
          refine WE.next ?_
          refine WC.region ?_
          refine WL.val (.int .i64 (((z.1 : Nat) : Int))) rfl rfl rfl (fun za zC zh zk => wp_move rfl (zh.ev rfl) zk) ?_
          refine WL.val (.int .i64 ((((z.1 + 1) : Nat) : Int))) rfl rfl rfl (fun za zC zh zk => addb_3 rfl (zh.ev rfl) (zh.ev rfl) (wrap_eq (by omega) (by omega) (by omega)) zk) ?_
          refine WL.val (.int .i64 ((((z.1 + 1) : Nat) : Int))) rfl rfl rfl (fun za zC zh zk => wp_assign rfl (zh.ev rfl) zk) ?_
          refine WL.nil (WE.sub (K' := [(0, .agg #[.slice a l.length c]), (1, .string x.name), (2, .int .i64 x.ar), (3, .bool x.pred), (4, .pointer (some ⟨g2, 0, none⟩)), (8, .pointer (some ⟨g9, 0, none⟩)), (9, .int .i64 0), (10, .int .i64 ((sigCheck l))), (11, .pointer (some ⟨g30, 0, none⟩)), (12, .int .i64 x.one), (13, .int .i64 ((((z.1 + 1) : Nat) : Int))), (17, .bool ((((sigCheck l) : Int) != (0 : Int)))), (27, .bool (((x.one : Int) != (0 : Int)))), (41, .bool ((!(borne l (numd x.name z.1)))))]) ⟨rfl, rfl, rfl, rfl, rfl, rfl, rfl, rfl, rfl, rfl, rfl, rfl, rfl, rfl, trivial⟩ ?_)
          refine WE.round ((z.1 + 1, numd x.name z.1)) ⟨rfl, rfl, rfl, rfl, rfl, rfl, rfl, rfl, rfl, rfl, rfl, rfl, rfl, trivial⟩ ?_ ?_
          · have hb116 : Below w.heap.size w w87 := (bstep hb81 hbc86)
            have hB117 := hB83.below hbc86
            have hB118 := hB85.below hbc86
            have hB119 := hB78.below hbc86
            exact ⟨by (try dsimp only); omega, by (try dsimp only); omega, fun j p q => by rcases Nat.lt_or_ge j z.1 with q2 | q2; exact hbo9 j p q2; (obtain rfl : j = z.1 := by (try dsimp only at q); omega); simpa using h88, hb116, hB117, hB118, hB119⟩
          · (try dsimp only); omega

set_option maxRecDepth 100000 in
theorem bears_any (l : List Sy) (nm : ByteArray) (w : World) (v : Value) (hv : IsSig w l v) : Calls Tryd.prog 20 #[v, .string nm] w (Ret fun v' w' => v' = .bool (borne l nm) ∧ Below w.heap.size w w') := by
  obtain ⟨a, c, rfl, hc, hm, hl⟩ := hv
  unfold maxLen at hm
  refine Calls.walk (l := [.agg #[.slice a l.length c], .string nm]) Tryd.func20 rfl (by kernel_rfl) ?_
  refine WC.sub (K' := [(0, .agg #[.slice a l.length c]), (1, .string nm)]) ⟨rfl, rfl, trivial⟩ ?_
  refine WC.seq ?_
  refine WC.region ?_
  refine WL.step (post := NewBlk w 24 #[.slice a l.length c]) rfl rfl rfl (fun za zC zh zk => box_24 rfl (zh.ev rfl) (zk _ _ (newBlk _ _ _))) ?_
  rintro _ w1 ⟨g2, rfl, hg3, hB4, hb5, hz6⟩
  have hl7 : w.heap.size ≤ g2 := by omega
  refine WL.val (.bool false) rfl rfl rfl (fun za zC zh zk => wp_assign rfl (zh.ev rfl) zk) ?_
  refine WL.nil (WE.sub (K' := [(0, .agg #[.slice a l.length c]), (1, .string nm), (2, .pointer (some ⟨g2, 0, none⟩)), (4, .bool false)]) ⟨rfl, rfl, rfl, rfl, trivial⟩ ?_)
  refine WE.next ?_
  refine WC.seq ?_
  refine WC.seq ?_
  refine WC.region ?_
  refine WL.val (.int .i64 0) rfl rfl rfl (fun za zC zh zk => wp_assign rfl (zh.ev rfl) zk) ?_
  refine WL.nil (WE.sub (K' := [(0, .agg #[.slice a l.length c]), (1, .string nm), (2, .pointer (some ⟨g2, 0, none⟩)), (4, .bool false), (5, .int .i64 0)]) ⟨rfl, rfl, rfl, rfl, rfl, trivial⟩ ?_)
  refine WE.next ?_
  refine WC.block ?_
  refine WC.loop (X := Nat) (fun k => l.length - k) (fun k => [(0, .agg #[.slice a l.length c]), (1, .string nm), (2, .pointer (some ⟨g2, 0, none⟩)), (5, .int .i64 (((k : Nat) : Int)))]) (fun k w8 => k ≤ l.length ∧ (∀ i, i < k → ¬ (sget l i).name = nm) ∧ Below w.heap.size w w8 ∧ Blk w8 g2 24 #[.slice a l.length c]) 0 ⟨rfl, rfl, rfl, rfl, trivial⟩ ?_ ?_
  · exact ⟨Nat.zero_le _, fun i h => absurd h (Nat.not_lt_zero i), hb5, hB4⟩
  · rintro k w8 ⟨hk, hE, hb9, hB10⟩
    refine WC.seq ?_
    refine WC.seq ?_
    refine WC.region ?_
    refine WL.val (.int .i64 (((k : Nat) : Int))) rfl rfl rfl (fun za zC zh zk => wp_move rfl (zh.ev rfl) zk) ?_
    refine WL.val (.pointer (some ⟨g2, 0, none⟩)) rfl rfl rfl (fun za zC zh zk => fld_24_0 rfl (zh.ev rfl) zk) ?_
    refine WL.val (.slice a l.length c) rfl rfl rfl (fun za zC zh zk => ld_22 rfl (zh.ev rfl) ((hB10.cell 0).trans rfl) zk) ?_
    refine WL.val (.int .i64 (((l.length : Nat) : Int))) rfl rfl rfl (fun za zC zh zk => len_22 rfl (zh.ev rfl) zk) ?_
    refine WL.val (.bool ((decide ((((k : Nat) : Int) : Int) < (((l.length : Nat) : Int) : Int))))) rfl rfl rfl (fun za zC zh zk => lss_3 rfl (zh.ev rfl) (zh.ev rfl) zk) ?_
    refine WL.nil (WE.sub (K' := [(0, .agg #[.slice a l.length c]), (1, .string nm), (2, .pointer (some ⟨g2, 0, none⟩)), (5, .int .i64 (((k : Nat) : Int))), (10, .bool ((decide ((((k : Nat) : Int) : Int) < (((l.length : Nat) : Int) : Int)))))]) ⟨rfl, rfl, rfl, rfl, rfl, trivial⟩ ?_)
    refine WE.next ?_
    refine WC.cond rfl (fun h11 => ?_) (fun h11 => ?_)
    · have h11 : (((k : Nat) : Int) : Int) < (((l.length : Nat) : Int) : Int) := by simpa using h11
      refine WC.skip ?_
      refine WE.next ?_
      refine WC.seq ?_
      refine WC.block ?_
      refine WC.seq ?_
      refine WC.region ?_
      refine WL.val (.pointer (some ⟨g2, 0, none⟩)) rfl rfl rfl (fun za zC zh zk => fld_24_0 rfl (zh.ev rfl) zk) ?_
      refine WL.val (.slice a l.length c) rfl rfl rfl (fun za zC zh zk => ld_22 rfl (zh.ev rfl) ((hB10.cell 0).trans rfl) zk) ?_
      refine WL.val (.int .i64 (((k : Nat) : Int))) rfl rfl rfl (fun za zC zh zk => wp_move rfl (zh.ev rfl) zk) ?_
      obtain ⟨b12, o13, ha14, hc15⟩ := IsSys.open hl
      refine WL.val (.pointer (some ⟨b12, o13 + k * 3, none⟩)) rfl rfl rfl (fun za zC zh zk => ix_22 (k := k) rfl (zh.ev rfl) (ha14 k (by first | omega | (simp; omega))) (zh.ev rfl) (by first | omega | (simp; omega)) zk) ?_
      refine WL.val (.pointer (some ⟨b12, o13 + k * 3, none⟩)) rfl rfl rfl (fun za zC zh zk => fld_26_0 rfl (zh.ev rfl) zk) ?_
      refine WL.val (.string ((sget l k).name)) rfl rfl rfl (fun za zC zh zk => ld_9 rfl (zh.ev rfl) (bkeeps hb9 _ _ (hc15 k (by first | omega | (simp; omega))).1) zk) ?_
      refine WL.val (.string nm) rfl rfl rfl (fun za zC zh zk => wp_move rfl (zh.ev rfl) zk) ?_
      refine WL.val (.bool ((decide ((sget l k).name = nm)))) rfl rfl rfl (fun za zC zh zk => eql_9 rfl (zh.ev rfl) (zh.ev rfl) zk) ?_
      refine WL.nil (WE.sub (K' := [(0, .agg #[.slice a l.length c]), (1, .string nm), (2, .pointer (some ⟨g2, 0, none⟩)), (5, .int .i64 (((k : Nat) : Int))), (10, .bool ((decide ((((k : Nat) : Int) : Int) < (((l.length : Nat) : Int) : Int))))), (20, .bool ((decide ((sget l k).name = nm))))]) ⟨rfl, rfl, rfl, rfl, rfl, rfl, trivial⟩ ?_)
      refine WE.next ?_
      refine WC.cond rfl (fun h16 => ?_) (fun h16 => ?_)
      · have h16 : (sget l k).name = nm := by simpa using h16
        refine WC.seq ?_
        refine WC.region ?_
        refine WL.val (.bool true) rfl rfl rfl (fun za zC zh zk => wp_assign rfl (zh.ev rfl) zk) ?_
        refine WL.nil (WE.sub (K' := [(0, .agg #[.slice a l.length c]), (1, .string nm), (2, .pointer (some ⟨g2, 0, none⟩)), (4, .bool true), (5, .int .i64 (((k : Nat) : Int))), (10, .bool ((decide ((((k : Nat) : Int) : Int) < (((l.length : Nat) : Int) : Int))))), (20, .bool ((decide ((sget l k).name = nm))))]) ⟨rfl, rfl, rfl, rfl, rfl, rfl, rfl, trivial⟩ ?_)
        refine WE.next ?_
        refine WC.ret ?_
        refine WE.blockRet ?_
        refine WE.thenRet ?_
        refine WE.thenRet ?_
        refine WE.blockRet ?_
        refine WE.thenRet ?_
        refine WE.ret1 rfl rfl ?_
        exact ⟨_, rfl, congrArg Value.bool (borne_yes (k := k) (by omega) h16).symm, hb9⟩
      · have h16 : ¬ ((sget l k).name = nm) := by simpa using h16
        refine WC.skip ?_
        refine WE.blockNormal ?_
        refine WE.next ?_
        refine WC.region ?_
        refine WL.val (.int .i64 (((k : Nat) : Int))) rfl rfl rfl (fun za zC zh zk => wp_move rfl (zh.ev rfl) zk) ?_
        refine WL.val (.int .i64 ((((k + 1) : Nat) : Int))) rfl rfl rfl (fun za zC zh zk => addb_3 rfl (zh.ev rfl) (zh.ev rfl) (wrap_eq (by omega) (by omega) (by omega)) zk) ?_
        refine WL.val (.int .i64 ((((k + 1) : Nat) : Int))) rfl rfl rfl (fun za zC zh zk => wp_assign rfl (zh.ev rfl) zk) ?_
        refine WL.nil (WE.sub (K' := [(0, .agg #[.slice a l.length c]), (1, .string nm), (2, .pointer (some ⟨g2, 0, none⟩)), (5, .int .i64 ((((k + 1) : Nat) : Int))), (10, .bool ((decide ((((k : Nat) : Int) : Int) < (((l.length : Nat) : Int) : Int))))), (20, .bool ((decide ((sget l k).name = nm))))]) ⟨rfl, rfl, rfl, rfl, rfl, rfl, trivial⟩ ?_)
        refine WE.round (k + 1) ⟨rfl, rfl, rfl, rfl, trivial⟩ ?_ ?_
        · exact ⟨by omega, fun i hi => by rcases Nat.lt_or_ge i k with q | q; exact hE i q; (obtain rfl : i = k := by omega); exact h16, hb9, hB10⟩
        · omega
    · have h11 : ¬ ((((k : Nat) : Int) : Int) < (((l.length : Nat) : Int) : Int)) := by simpa using h11
      refine WC.exit ?_
      refine WE.thenExit ?_
      refine WE.thenExit ?_
      refine WE.blockIs rfl ?_
      refine WE.next ?_
      refine WC.seq ?_
      refine WC.region ?_
      refine WL.val (.bool false) rfl rfl rfl (fun za zC zh zk => wp_assign rfl (zh.ev rfl) zk) ?_
      refine WL.nil (WE.sub (K' := [(0, .agg #[.slice a l.length c]), (1, .string nm), (2, .pointer (some ⟨g2, 0, none⟩)), (4, .bool false), (5, .int .i64 (((k : Nat) : Int))), (10, .bool ((decide ((((k : Nat) : Int) : Int) < (((l.length : Nat) : Int) : Int)))))]) ⟨rfl, rfl, rfl, rfl, rfl, rfl, trivial⟩ ?_)
      refine WE.next ?_
      refine WC.ret ?_
      refine WE.ret1 rfl rfl ?_
      exact ⟨_, rfl, congrArg Value.bool (borne_no (fun i hi => hE i (by omega))).symm, hb9⟩

set_option maxRecDepth 100000 in
theorem rfresh_any (l : List Sy) (x : Sy) (w : World) (v : Value) (hnm : x.name.size ≤ maxLen) (hv : IsSig w l v) : Calls Tryd.prog 7 #[v, .string x.name, .int .i64 x.ar, .bool x.pred] w (Ret fun v' w' => v' = .tuple #[(freshRes l x).1.val, .int .i64 (freshRes l x).2] ∧ Below w.heap.size w w') := by
  have hV := hv
  obtain ⟨a, c, rfl, hc, hm, hl⟩ := hv
  unfold Sy.val
  refine Calls.walk (l := [.agg #[.slice a l.length c], .string x.name, .int .i64 x.ar, .bool x.pred]) Tryd.func7 rfl (by kernel_rfl) ?_
  refine WC.sub (K' := [(0, .agg #[.slice a l.length c]), (1, .string x.name), (2, .int .i64 x.ar), (3, .bool x.pred)]) ⟨rfl, rfl, rfl, rfl, trivial⟩ ?_
  refine WC.seq ?_
  refine WC.region ?_
  refine WL.step (post := NewBlk w 24 #[.slice a l.length c]) rfl rfl rfl (fun za zC zh zk => box_24 rfl (zh.ev rfl) (zk _ _ (newBlk _ _ _))) ?_
  rintro _ w1 ⟨g2, rfl, hg3, hB4, hb5, hz6⟩
  have hl7 : w.heap.size ≤ g2 := by omega
  refine WL.step (post := NewBlk w1 26 #[.string (⟨#[]⟩), .int .i64 0, .bool false]) rfl rfl rfl (fun za zC zh zk => alloc_26 rfl (zk _ _ (newBlk _ _ _))) ?_
  rintro _ w8 ⟨g9, rfl, hg10, hB11, hb12, hz13⟩
  have hl14 : g2 < g9 := by have z1 := hB4.lt; omega
  have hl15 : w.heap.size ≤ g9 := by have z2 := (hb5).size; omega
  refine WL.val (.int .i64 0) rfl rfl rfl (fun za zC zh zk => wp_assign rfl (zh.ev rfl) zk) ?_
  refine WL.nil (WE.sub (K' := [(0, .agg #[.slice a l.length c]), (1, .string x.name), (2, .int .i64 x.ar), (3, .bool x.pred), (4, .pointer (some ⟨g2, 0, none⟩)), (8, .pointer (some ⟨g9, 0, none⟩)), (9, .int .i64 0)]) ⟨rfl, rfl, rfl, rfl, rfl, rfl, rfl, trivial⟩ ?_)
  refine WE.next ?_
  refine WC.seq ?_
  refine WC.region ?_
  have hB16 := hB4.below hb12
  refine WL.val (.agg #[.slice a l.length c]) rfl rfl rfl (fun za zC zh zk => ld_24 rfl (zh.ev rfl) ((hB16.cell 0).trans rfl) zk) ?_
  have hb17 : Below w.heap.size w w8 := (bstep hb5 hb12)
  refine WL.call rfl rfl rfl (fun za zh zC => wp_call (by kernel_rfl) rfl (hv1 (zh.ev rfl))) (ret_of (sigCheck_any l _ _ (IsSig.below hb17 hV))) ?_
  rintro _ w18 ⟨rfl, hbc⟩
  refine WL.val (.int .i64 ((sigCheck l))) rfl rfl rfl (fun za zC zh zk => wp_assign rfl (zh.ev rfl) zk) ?_
  refine WL.nil (WE.sub (K' := [(0, .agg #[.slice a l.length c]), (1, .string x.name), (2, .int .i64 x.ar), (3, .bool x.pred), (4, .pointer (some ⟨g2, 0, none⟩)), (8, .pointer (some ⟨g9, 0, none⟩)), (9, .int .i64 0), (10, .int .i64 ((sigCheck l)))]) ⟨rfl, rfl, rfl, rfl, rfl, rfl, rfl, rfl, trivial⟩ ?_)
  refine WE.next ?_
  refine WC.seq ?_
  refine WC.seq ?_
  refine WC.region ?_
  refine WL.val (.int .i64 ((sigCheck l))) rfl rfl rfl (fun za zC zh zk => wp_move rfl (zh.ev rfl) zk) ?_
  refine WL.val (.bool ((((sigCheck l) : Int) != (0 : Int)))) rfl rfl rfl (fun za zC zh zk => neq_3 rfl (zh.ev rfl) (zh.ev rfl) zk) ?_
  refine WL.nil (WE.sub (K' := [(0, .agg #[.slice a l.length c]), (1, .string x.name), (2, .int .i64 x.ar), (3, .bool x.pred), (4, .pointer (some ⟨g2, 0, none⟩)), (8, .pointer (some ⟨g9, 0, none⟩)), (9, .int .i64 0), (10, .int .i64 ((sigCheck l))), (15, .bool ((((sigCheck l) : Int) != (0 : Int))))]) ⟨rfl, rfl, rfl, rfl, rfl, rfl, rfl, rfl, rfl, trivial⟩ ?_)
  refine WE.next ?_
  refine WC.cond rfl (fun h19 => ?_) (fun h19 => ?_)
  · have h19 : ((sigCheck l) : Int) ≠ (0 : Int) := by simpa using h19
    refine WC.seq ?_
    refine WC.region ?_
    refine WL.val (.agg #[.string (⟨#[]⟩), .int .i64 0, .bool false]) rfl rfl rfl (fun za zC zh zk => build_26_ rfl  zk) ?_
    refine WL.val (.int .i64 ((sigCheck l))) rfl rfl rfl (fun za zC zh zk => wp_move rfl (zh.ev rfl) zk) ?_
    have hB20 := hB11.below hbc
    refine WL.step (post := fun _ w' => Upd g9 w18 w' ∧ Blk w' g9 26 #[.string (⟨#[]⟩), .int .i64 0, .bool false]) rfl rfl rfl (fun za zC zh zk => st_26 rfl (zh.ev rfl) (zh.ev rfl) rfl rfl rfl hB20 (by first | decide | simp) (fun v => zk v _ ⟨((Upd.at_ _ _ _ _).trans (Upd.at_ _ _ _ _)).trans (Upd.at_ _ _ _ _), ((hB20.set_ 0 _).set_ 1 _).set_ 2 _⟩)) ?_
    rintro v24 w21 ⟨hu22, hB23⟩
    have hb25 : Below w.heap.size w w18 := (bstep hb17 hbc)
    have hb26 := upd_below hb25 hu22 (by omega)
    have hB27 := hB16.below hbc
    have hB28 := upd_blk hB27 hu22 (by omega)
    refine WL.val (.int .i64 ((sigCheck l))) rfl rfl rfl (fun za zC zh zk => wp_assign rfl (zh.ev rfl) zk) ?_
    refine WL.nil (WE.sub (K' := [(0, .agg #[.slice a l.length c]), (1, .string x.name), (2, .int .i64 x.ar), (3, .bool x.pred), (4, .pointer (some ⟨g2, 0, none⟩)), (8, .pointer (some ⟨g9, 0, none⟩)), (9, .int .i64 ((sigCheck l))), (10, .int .i64 ((sigCheck l))), (15, .bool ((((sigCheck l) : Int) != (0 : Int))))]) ⟨rfl, rfl, rfl, rfl, rfl, rfl, rfl, rfl, rfl, trivial⟩ ?_)
    refine WE.next ?_
    refine WC.ret ?_
    refine WE.thenRet ?_
    refine WE.retAny (v := .tuple #[.agg #[.string (⟨#[]⟩), .int .i64 0, .bool false], .int .i64 ((sigCheck l))]) (fun za zh => ?_) ?_
    · have z0 : za.tmps[8]?.getD undef = .pointer (some ⟨g9, 0, none⟩) := by rw [← Array.getD_eq_getD_getElem?]; exact zh.knows 8 _ rfl
      have y0_0 : w21.cell? ⟨g9, 0, none⟩ = some (.string (⟨#[]⟩)) := ((hB23.cell 0).trans rfl)
      have y0_1 : w21.cell? ⟨g9, 1, none⟩ = some (.int .i64 0) := ((hB23.cell 1).trans rfl)
      have y0_2 : w21.cell? ⟨g9, 2, none⟩ = some (.bool false) := ((hB23.cell 2).trans rfl)
      have z1 : za.tmps[9]?.getD undef = .int .i64 ((sigCheck l)) := by rw [← Array.getD_eq_getD_getElem?]; exact zh.knows 9 _ rfl
      simp [results, Tryd.results7, z0, y0_0, y0_1, y0_2, z1, go_sem]
    · have hfr := fr1 (l := l) (x := x) h19
      exact ⟨_, rfl, by rw [hfr], hb26⟩
  · have h19 : ¬ (((sigCheck l) : Int) ≠ (0 : Int)) := by simpa using h19
    have hc0 : sigCheck l = 0 := by have z := h19; omega
    have hl96 := sigCheck_len hc0
    refine WC.skip ?_
    refine WE.next ?_
    refine WC.seq ?_
    refine WC.region ?_
    refine WL.val (.string x.name) rfl rfl rfl (fun za zC zh zk => wp_move rfl (zh.ev rfl) zk) ?_
    refine WL.val (.int .i64 x.ar) rfl rfl rfl (fun za zC zh zk => wp_move rfl (zh.ev rfl) zk) ?_
    refine WL.val (.bool x.pred) rfl rfl rfl (fun za zC zh zk => wp_move rfl (zh.ev rfl) zk) ?_
    refine WL.val (.agg #[.string x.name, .int .i64 x.ar, .bool x.pred]) rfl rfl rfl (fun za zC zh zk => build_26_0_1_2 rfl (zh.ev rfl) (zh.ev rfl) (zh.ev rfl) zk) ?_
    refine WL.call rfl rfl rfl (fun za zh zC => wp_call (by kernel_rfl) rfl (hv1 (zh.ev rfl))) (ret_of (one_any x _ hnm)) ?_
    rintro _ w29 ⟨rfl, hbo⟩
    refine WL.val (.int .i64 x.one) rfl rfl rfl (fun za zC zh zk => wp_assign rfl (zh.ev rfl) zk) ?_
    refine WL.nil (WE.sub (K' := [(0, .agg #[.slice a l.length c]), (1, .string x.name), (2, .int .i64 x.ar), (3, .bool x.pred), (4, .pointer (some ⟨g2, 0, none⟩)), (8, .pointer (some ⟨g9, 0, none⟩)), (9, .int .i64 0), (10, .int .i64 x.one), (15, .bool ((((sigCheck l) : Int) != (0 : Int))))]) ⟨rfl, rfl, rfl, rfl, rfl, rfl, rfl, rfl, rfl, trivial⟩ ?_)
    refine WE.next ?_
    refine WC.seq ?_
    refine WC.seq ?_
    refine WC.region ?_
    refine WL.val (.int .i64 x.one) rfl rfl rfl (fun za zC zh zk => wp_move rfl (zh.ev rfl) zk) ?_
    refine WL.val (.bool (((x.one : Int) != (0 : Int)))) rfl rfl rfl (fun za zC zh zk => neq_3 rfl (zh.ev rfl) (zh.ev rfl) zk) ?_
    refine WL.nil (WE.sub (K' := [(0, .agg #[.slice a l.length c]), (1, .string x.name), (2, .int .i64 x.ar), (3, .bool x.pred), (4, .pointer (some ⟨g2, 0, none⟩)), (8, .pointer (some ⟨g9, 0, none⟩)), (9, .int .i64 0), (10, .int .i64 x.one), (15, .bool ((((sigCheck l) : Int) != (0 : Int)))), (24, .bool (((x.one : Int) != (0 : Int))))]) ⟨rfl, rfl, rfl, rfl, rfl, rfl, rfl, rfl, rfl, rfl, trivial⟩ ?_)
    refine WE.next ?_
    refine WC.cond rfl (fun h30 => ?_) (fun h30 => ?_)
    · have h30 : (x.one : Int) ≠ (0 : Int) := by simpa using h30
      refine WC.seq ?_
      refine WC.region ?_
      refine WL.val (.agg #[.string (⟨#[]⟩), .int .i64 0, .bool false]) rfl rfl rfl (fun za zC zh zk => build_26_ rfl  zk) ?_
      refine WL.val (.int .i64 x.one) rfl rfl rfl (fun za zC zh zk => wp_move rfl (zh.ev rfl) zk) ?_
      have hb32 : Below w8.heap.size w8 w29 := (bstep hbc hbo)
      have hB31 := hB11.below hb32
      refine WL.step (post := fun _ w' => Upd g9 w29 w' ∧ Blk w' g9 26 #[.string (⟨#[]⟩), .int .i64 0, .bool false]) rfl rfl rfl (fun za zC zh zk => st_26 rfl (zh.ev rfl) (zh.ev rfl) rfl rfl rfl hB31 (by first | decide | simp) (fun v => zk v _ ⟨((Upd.at_ _ _ _ _).trans (Upd.at_ _ _ _ _)).trans (Upd.at_ _ _ _ _), ((hB31.set_ 0 _).set_ 1 _).set_ 2 _⟩)) ?_
      rintro v36 w33 ⟨hu34, hB35⟩
      have hb37 : Below w.heap.size w w29 := (bstep hb17 hb32)
      have hb38 := upd_below hb37 hu34 (by omega)
      have hB39 := hB16.below hb32
      have hB40 := upd_blk hB39 hu34 (by omega)
      refine WL.val (.int .i64 x.one) rfl rfl rfl (fun za zC zh zk => wp_assign rfl (zh.ev rfl) zk) ?_
      refine WL.nil (WE.sub (K' := [(0, .agg #[.slice a l.length c]), (1, .string x.name), (2, .int .i64 x.ar), (3, .bool x.pred), (4, .pointer (some ⟨g2, 0, none⟩)), (8, .pointer (some ⟨g9, 0, none⟩)), (9, .int .i64 x.one), (10, .int .i64 x.one), (15, .bool ((((sigCheck l) : Int) != (0 : Int)))), (24, .bool (((x.one : Int) != (0 : Int))))]) ⟨rfl, rfl, rfl, rfl, rfl, rfl, rfl, rfl, rfl, rfl, trivial⟩ ?_)
      refine WE.next ?_
      refine WC.ret ?_
      refine WE.thenRet ?_
      refine WE.retAny (v := .tuple #[.agg #[.string (⟨#[]⟩), .int .i64 0, .bool false], .int .i64 x.one]) (fun za zh => ?_) ?_
      · have z0 : za.tmps[8]?.getD undef = .pointer (some ⟨g9, 0, none⟩) := by rw [← Array.getD_eq_getD_getElem?]; exact zh.knows 8 _ rfl
        have y0_0 : w33.cell? ⟨g9, 0, none⟩ = some (.string (⟨#[]⟩)) := ((hB35.cell 0).trans rfl)
        have y0_1 : w33.cell? ⟨g9, 1, none⟩ = some (.int .i64 0) := ((hB35.cell 1).trans rfl)
        have y0_2 : w33.cell? ⟨g9, 2, none⟩ = some (.bool false) := ((hB35.cell 2).trans rfl)
        have z1 : za.tmps[9]?.getD undef = .int .i64 x.one := by rw [← Array.getD_eq_getD_getElem?]; exact zh.knows 9 _ rfl
        simp [results, Tryd.results7, z0, y0_0, y0_1, y0_2, z1, go_sem]
      · have hfr := fr2 (l := l) (x := x) hc0 h30
        exact ⟨_, rfl, by rw [hfr], hb38⟩
    · have h30 : ¬ ((x.one : Int) ≠ (0 : Int)) := by simpa using h30
      have ho0 : x.one = 0 := by have z := h30; omega
      have h40 := one_size ho0
      refine WC.skip ?_
      refine WE.next ?_
      refine WC.seq ?_
      refine WC.region ?_
      refine WL.val (.int .i64 1) rfl rfl rfl (fun za zC zh zk => wp_assign rfl (zh.ev rfl) zk) ?_
      refine WL.nil (WE.sub (K' := [(0, .agg #[.slice a l.length c]), (1, .string x.name), (2, .int .i64 x.ar), (3, .bool x.pred), (4, .pointer (some ⟨g2, 0, none⟩)), (8, .pointer (some ⟨g9, 0, none⟩)), (9, .int .i64 0), (10, .int .i64 x.one), (11, .int .i64 1), (15, .bool ((((sigCheck l) : Int) != (0 : Int)))), (24, .bool (((x.one : Int) != (0 : Int))))]) ⟨rfl, rfl, rfl, rfl, rfl, rfl, rfl, rfl, rfl, rfl, rfl, trivial⟩ ?_)
      refine WE.next ?_
      refine WC.seq ?_
      refine WC.block ?_
      refine WC.loop (X := Nat) (fun k => 98 - k) (fun k => [(0, .agg #[.slice a l.length c]), (1, .string x.name), (2, .int .i64 x.ar), (3, .bool x.pred), (4, .pointer (some ⟨g2, 0, none⟩)), (8, .pointer (some ⟨g9, 0, none⟩)), (9, .int .i64 0), (10, .int .i64 x.one), (11, .int .i64 (((k : Nat) : Int))), (15, .bool ((((sigCheck l) : Int) != (0 : Int)))), (24, .bool (((x.one : Int) != (0 : Int))))]) (fun k w41 => 1 ≤ k ∧ k ≤ 98 ∧ (∀ j, 1 ≤ j → j < k → borne l (numd x.name j) = true) ∧ Below w.heap.size w w41 ∧ Blk w41 g2 24 #[.slice a l.length c] ∧ Blk w41 g9 26 #[.string (⟨#[]⟩), .int .i64 0, .bool false]) 1 ⟨rfl, rfl, rfl, rfl, rfl, rfl, rfl, rfl, rfl, rfl, rfl, trivial⟩ ?_ ?_
      · have hb42 : Below w.heap.size w w29 := (bstep (bstep hb17 hbc) hbo)
        have hb44 : Below w8.heap.size w8 w29 := (bstep hbc hbo)
        have hB43 := hB16.below hb44
        have hB45 := hB11.below hb44
        exact ⟨Nat.le_refl _, by decide, fun j a b => by omega, hb42, hB43, hB45⟩
      · rintro k w41 ⟨hk1, hk2, hbo9, hb46, hB47, hB48⟩
        have hk97 := fresh_le hl96 hk2 hbo9
        have hdsk := digits_size (k := k) (by omega)
        refine WC.seq ?_
        refine WC.seq ?_
        refine WC.opt [(true, .val (.agg #[.slice a l.length c])), (true, .val (.string x.name)), (true, .val (.int .i64 (((k : Nat) : Int)))), (true, .val (.string ((⟨(Lib.decDigits k).toArray⟩ : ByteArray)))), (true, .val (.string ((numd x.name k)))), (true, .val (.bool ((borne l (numd x.name k)))))] [(0, .agg #[.slice a l.length c]), (1, .string x.name), (2, .int .i64 x.ar), (3, .bool x.pred), (4, .pointer (some ⟨g2, 0, none⟩)), (8, .pointer (some ⟨g9, 0, none⟩)), (9, .int .i64 0), (10, .int .i64 x.one), (11, .int .i64 (((k : Nat) : Int))), (15, .bool ((((sigCheck l) : Int) != (0 : Int)))), (24, .bool (((x.one : Int) != (0 : Int))))] ⟨rfl, rfl, rfl, rfl, rfl, rfl, rfl, rfl, rfl, rfl, rfl, trivial⟩ (by kernel_rfl) (by kernel_rfl) (by kernel_rfl) ?_ ?_
        · refine ⟨⟨true, .none rfl, fun h w => optUndef h, fun zβ za zw zc => ?_⟩, ?_⟩
          · exact ld_24 rfl (zc.kn.ev rfl) (bkeeps zc.below _ _ ((hB47.cell 0).trans rfl)) ⟨_, rfl, Below.refl _ _, optDef zβ rfl⟩
          refine ⟨⟨true, .none rfl, fun h w => optUndef h, fun zβ za zw zc => ?_⟩, ?_⟩
          · exact wp_move rfl (zc.kn.ev rfl) ⟨_, rfl, Below.refl _ _, optDef zβ rfl⟩
          refine ⟨⟨true, .none rfl, fun h w => optUndef h, fun zβ za zw zc => ?_⟩, ?_⟩
          · exact wp_move rfl (zc.kn.ev rfl) ⟨_, rfl, Below.refl _ _, optDef zβ rfl⟩
          refine ⟨⟨true, .none rfl, fun h w => optUndef h, fun zβ za zw zc => ?_⟩, ?_⟩
          · exact wp_call (by kernel_rfl) rfl (hv1 ((show za.eval (.tmp 29) = za.tmps.getD 29 undef from rfl).trans (optVal (zc.dep 2 29 (by kernel_rfl)) rfl rfl))) (itoa_any k (by omega) _) (fun v w' h => ⟨v, rfl, h.2, optDef zβ h.1⟩)
          refine ⟨⟨true, .none rfl, fun h w => optUndef h, fun zβ za zw zc => ?_⟩, ?_⟩
          · exact add_9 rfl ((show za.eval (.tmp 28) = za.tmps.getD 28 undef from rfl).trans (optVal (zc.dep 1 28 (by kernel_rfl)) rfl rfl)) ((show za.eval (.tmp 30) = za.tmps.getD 30 undef from rfl).trans (optVal (zc.dep 3 30 (by kernel_rfl)) rfl rfl)) (by omega) ⟨_, rfl, Below.refl _ _, optDef zβ rfl⟩
          refine ⟨⟨true, .none rfl, fun h w => optUndef h, fun zβ za zw zc => ?_⟩, ?_⟩
          · exact wp_call (by kernel_rfl) rfl (hv2 ((show za.eval (.tmp 27) = za.tmps.getD 27 undef from rfl).trans (optVal (zc.dep 0 27 (by kernel_rfl)) rfl rfl)) ((show za.eval (.tmp 31) = za.tmps.getD 31 undef from rfl).trans (optVal (zc.dep 4 31 (by kernel_rfl)) rfl rfl))) (bears_any l (numd x.name k) _ _ (IsSig.below (bstep hb46 zc.below) hV)) (fun v w' h => ⟨v, rfl, h.2, optDef zβ h.1⟩)
          exact trivial
        · intro za w50 zh hb51 zu
          have zh := zh.cons (d := 32) (v := .bool ((borne l (numd x.name k)))) (optVal (zu 5 32 (by kernel_rfl)) rfl rfl)
          clear zu
          refine (show WE _ [(0, .agg #[.slice a l.length c]), (1, .string x.name), (2, .int .i64 x.ar), (3, .bool x.pred), (4, .pointer (some ⟨g2, 0, none⟩)), (8, .pointer (some ⟨g9, 0, none⟩)), (9, .int .i64 0), (10, .int .i64 x.one), (11, .int .i64 (((k : Nat) : Int))), (15, .bool ((((sigCheck l) : Int) != (0 : Int)))), (24, .bool (((x.one : Int) != (0 : Int)))), (32, .bool ((borne l (numd x.name k))))] w50 _ .normal from ?_) za (zh.sub ⟨rfl, rfl, rfl, rfl, rfl, rfl, rfl, rfl, rfl, rfl, rfl, rfl, trivial⟩)
          refine WE.next ?_
          refine WC.cond rfl (fun h52 => ?_) (fun h52 => ?_)
          · skip
            refine WC.skip ?_
            refine WE.next ?_
            refine WC.block ?_
            refine WC.region ?_
            refine WL.val (.int .i64 (((k : Nat) : Int))) rfl rfl rfl (fun za zC zh zk => wp_move rfl (zh.ev rfl) zk) ?_
            refine WL.val (.int .i64 ((((k + 1) : Nat) : Int))) rfl rfl rfl (fun za zC zh zk => addb_3 rfl (zh.ev rfl) (zh.ev rfl) (wrap_eq (by omega) (by omega) (by omega)) zk) ?_
            refine WL.val (.int .i64 ((((k + 1) : Nat) : Int))) rfl rfl rfl (fun za zC zh zk => wp_assign rfl (zh.ev rfl) zk) ?_
            refine WL.nil (WE.sub (K' := [(0, .agg #[.slice a l.length c]), (1, .string x.name), (2, .int .i64 x.ar), (3, .bool x.pred), (4, .pointer (some ⟨g2, 0, none⟩)), (8, .pointer (some ⟨g9, 0, none⟩)), (9, .int .i64 0), (10, .int .i64 x.one), (11, .int .i64 ((((k + 1) : Nat) : Int))), (15, .bool ((((sigCheck l) : Int) != (0 : Int)))), (24, .bool (((x.one : Int) != (0 : Int)))), (32, .bool ((borne l (numd x.name k))))]) ⟨rfl, rfl, rfl, rfl, rfl, rfl, rfl, rfl, rfl, rfl, rfl, rfl, trivial⟩ ?_)
            refine WE.blockNormal ?_
            refine WE.round (k + 1) ⟨rfl, rfl, rfl, rfl, rfl, rfl, rfl, rfl, rfl, rfl, rfl, trivial⟩ ?_ ?_
            · have hb53 : Below w.heap.size w w50 := (bstep hb46 hb51)
              have hB54 := hB47.below hb51
              have hB55 := hB48.below hb51
              exact ⟨by omega, by omega, fun j p q => by rcases Nat.lt_or_ge j k with q2 | q2; exact hbo9 j p q2; (obtain rfl : j = k := by omega); simpa using h52, hb53, hB54, hB55⟩
            · omega
          · skip
            refine WC.exit ?_
            refine WE.thenExit ?_
            refine WE.thenExit ?_
            refine WE.blockIs rfl ?_
            refine WE.next ?_
            refine WC.seq ?_
            refine WC.seq ?_
            refine WC.region ?_
            refine WL.val (.string x.name) rfl rfl rfl (fun za zC zh zk => wp_move rfl (zh.ev rfl) zk) ?_
            refine WL.val (.int .i64 (((k : Nat) : Int))) rfl rfl rfl (fun za zC zh zk => wp_move rfl (zh.ev rfl) zk) ?_
            refine WL.call rfl rfl rfl (fun za zh zC => wp_call (by kernel_rfl) rfl (hv1 (zh.ev rfl))) (itoa_any k (by omega) _) ?_
            rintro _ w57 ⟨rfl, hbi56⟩
            have hds58 := digits_size (k := k) (by omega)
            refine WL.val (.string (numd x.name k)) rfl rfl rfl (fun za zC zh zk => add_9 rfl (zh.ev rfl) (zh.ev rfl) (by omega) zk) ?_
            refine WL.call rfl rfl rfl (fun za zh zC => wp_call (by kernel_rfl) rfl (hv1 (zh.ev rfl))) (ret_of (named_any (numd x.name k) _ (by have z := numd_size (s := x.name) (k := k) (by omega); unfold maxLen; omega))) ?_
            rintro _ w59 ⟨rfl, hbm⟩
            refine WL.val (.bool ((!(named (numd x.name k))))) rfl rfl rfl (fun za zC zh zk => wp_not rfl (zh.ev rfl) zk) ?_
            refine WL.nil (WE.sub (K' := [(0, .agg #[.slice a l.length c]), (1, .string x.name), (2, .int .i64 x.ar), (3, .bool x.pred), (4, .pointer (some ⟨g2, 0, none⟩)), (8, .pointer (some ⟨g9, 0, none⟩)), (9, .int .i64 0), (10, .int .i64 x.one), (11, .int .i64 (((k : Nat) : Int))), (15, .bool ((((sigCheck l) : Int) != (0 : Int)))), (24, .bool (((x.one : Int) != (0 : Int)))), (32, .bool ((borne l (numd x.name k)))), (40, .bool ((!(named (numd x.name k)))))]) ⟨rfl, rfl, rfl, rfl, rfl, rfl, rfl, rfl, rfl, rfl, rfl, rfl, rfl, trivial⟩ ?_)
            refine WE.next ?_
            refine WC.cond rfl (fun h60 => ?_) (fun h60 => ?_)
            · have h60 : ¬ ((named (numd x.name k)) = true) := by simpa using h60
              refine WC.seq ?_
              refine WC.region ?_
              refine WL.val (.agg #[.string (⟨#[]⟩), .int .i64 0, .bool false]) rfl rfl rfl (fun za zC zh zk => build_26_ rfl  zk) ?_
              have hb62 : Below w41.heap.size w41 w59 := (bstep (bstep hb51 hbi56) hbm)
              have hB61 := hB48.below hb62
              refine WL.step (post := fun _ w' => Upd g9 w59 w' ∧ Blk w' g9 26 #[.string (⟨#[]⟩), .int .i64 0, .bool false]) rfl rfl rfl (fun za zC zh zk => st_26 rfl (zh.ev rfl) (zh.ev rfl) rfl rfl rfl hB61 (by first | decide | simp) (fun v => zk v _ ⟨((Upd.at_ _ _ _ _).trans (Upd.at_ _ _ _ _)).trans (Upd.at_ _ _ _ _), ((hB61.set_ 0 _).set_ 1 _).set_ 2 _⟩)) ?_
              rintro v66 w63 ⟨hu64, hB65⟩
              have hb67 : Below w.heap.size w w59 := (bstep hb46 hb62)
              have hb68 := upd_below hb67 hu64 (by omega)
              have hB69 := hB47.below hb62
              have hB70 := upd_blk hB69 hu64 (by omega)
              refine WL.val (.int .i64 111) rfl rfl rfl (fun za zC zh zk => wp_assign rfl (zh.ev rfl) zk) ?_
              refine WL.nil (WE.sub (K' := [(0, .agg #[.slice a l.length c]), (1, .string x.name), (2, .int .i64 x.ar), (3, .bool x.pred), (4, .pointer (some ⟨g2, 0, none⟩)), (8, .pointer (some ⟨g9, 0, none⟩)), (9, .int .i64 111), (10, .int .i64 x.one), (11, .int .i64 (((k : Nat) : Int))), (15, .bool ((((sigCheck l) : Int) != (0 : Int)))), (24, .bool (((x.one : Int) != (0 : Int)))), (32, .bool ((borne l (numd x.name k)))), (40, .bool ((!(named (numd x.name k)))))]) ⟨rfl, rfl, rfl, rfl, rfl, rfl, rfl, rfl, rfl, rfl, rfl, rfl, rfl, trivial⟩ ?_)
              refine WE.next ?_
              refine WC.ret ?_
              refine WE.thenRet ?_
              refine WE.retAny (v := .tuple #[.agg #[.string (⟨#[]⟩), .int .i64 0, .bool false], .int .i64 111]) (fun za zh => ?_) ?_
              · have z0 : za.tmps[8]?.getD undef = .pointer (some ⟨g9, 0, none⟩) := by rw [← Array.getD_eq_getD_getElem?]; exact zh.knows 8 _ rfl
                have y0_0 : w63.cell? ⟨g9, 0, none⟩ = some (.string (⟨#[]⟩)) := ((hB65.cell 0).trans rfl)
                have y0_1 : w63.cell? ⟨g9, 1, none⟩ = some (.int .i64 0) := ((hB65.cell 1).trans rfl)
                have y0_2 : w63.cell? ⟨g9, 2, none⟩ = some (.bool false) := ((hB65.cell 2).trans rfl)
                have z1 : za.tmps[9]?.getD undef = .int .i64 111 := by rw [← Array.getD_eq_getD_getElem?]; exact zh.knows 9 _ rfl
                simp [results, Tryd.results7, z0, y0_0, y0_1, y0_2, z1, go_sem]
              · have hfr := fr3 (l := l) (x := x) (k := k) hc0 ho0 hbo9 hk1 hk97 (by simpa using h52)
                rw [if_neg (by simpa using h60)] at hfr
                exact ⟨_, rfl, by rw [hfr], hb68⟩
            · have h60 : ¬ (¬ ((named (numd x.name k)) = true)) := by simpa using h60
              refine WC.skip ?_
              refine WE.next ?_
              refine WC.seq ?_
              refine WC.region ?_
              refine WL.val (.string x.name) rfl rfl rfl (fun za zC zh zk => wp_move rfl (zh.ev rfl) zk) ?_
              refine WL.val (.int .i64 (((k : Nat) : Int))) rfl rfl rfl (fun za zC zh zk => wp_move rfl (zh.ev rfl) zk) ?_
              refine WL.call rfl rfl rfl (fun za zh zC => wp_call (by kernel_rfl) rfl (hv1 (zh.ev rfl))) (itoa_any k (by omega) _) ?_
              rintro _ w72 ⟨rfl, hbi71⟩
              have hds73 := digits_size (k := k) (by omega)
              refine WL.val (.string (numd x.name k)) rfl rfl rfl (fun za zC zh zk => add_9 rfl (zh.ev rfl) (zh.ev rfl) (by omega) zk) ?_
              refine WL.val (.int .i64 x.ar) rfl rfl rfl (fun za zC zh zk => wp_move rfl (zh.ev rfl) zk) ?_
              refine WL.val (.bool x.pred) rfl rfl rfl (fun za zC zh zk => wp_move rfl (zh.ev rfl) zk) ?_
              refine WL.val (.agg #[.string ((numd x.name k)), .int .i64 x.ar, .bool x.pred]) rfl rfl rfl (fun za zC zh zk => build_26_0_1_2 rfl (zh.ev rfl) (zh.ev rfl) (zh.ev rfl) zk) ?_
              have hb75 : Below w41.heap.size w41 w72 := (bstep (bstep (bstep hb51 hbi56) hbm) hbi71)
              have hB74 := hB48.below hb75
              refine WL.step (post := fun _ w' => Upd g9 w72 w' ∧ Blk w' g9 26 #[.string ((numd x.name k)), .int .i64 x.ar, .bool x.pred]) rfl rfl rfl (fun za zC zh zk => st_26 rfl (zh.ev rfl) (zh.ev rfl) rfl rfl rfl hB74 (by first | decide | simp) (fun v => zk v _ ⟨((Upd.at_ _ _ _ _).trans (Upd.at_ _ _ _ _)).trans (Upd.at_ _ _ _ _), ((hB74.set_ 0 _).set_ 1 _).set_ 2 _⟩)) ?_
              rintro v79 w76 ⟨hu77, hB78⟩
              have hb80 : Below w.heap.size w w72 := (bstep hb46 hb75)
              have hb81 := upd_below hb80 hu77 (by omega)
              have hB82 := hB47.below hb75
              have hB83 := upd_blk hB82 hu77 (by omega)
              refine WL.val (.int .i64 0) rfl rfl rfl (fun za zC zh zk => wp_assign rfl (zh.ev rfl) zk) ?_
              refine WL.nil (WE.sub (K' := [(0, .agg #[.slice a l.length c]), (1, .string x.name), (2, .int .i64 x.ar), (3, .bool x.pred), (4, .pointer (some ⟨g2, 0, none⟩)), (8, .pointer (some ⟨g9, 0, none⟩)), (9, .int .i64 0), (10, .int .i64 x.one), (11, .int .i64 (((k : Nat) : Int))), (15, .bool ((((sigCheck l) : Int) != (0 : Int)))), (24, .bool (((x.one : Int) != (0 : Int)))), (32, .bool ((borne l (numd x.name k)))), (40, .bool ((!(named (numd x.name k)))))]) ⟨rfl, rfl, rfl, rfl, rfl, rfl, rfl, rfl, rfl, rfl, rfl, rfl, rfl, trivial⟩ ?_)
              refine WE.next ?_
              refine WC.ret ?_
              refine WE.retAny (v := .tuple #[.agg #[.string ((numd x.name k)), .int .i64 x.ar, .bool x.pred], .int .i64 0]) (fun za zh => ?_) ?_
              · have z0 : za.tmps[8]?.getD undef = .pointer (some ⟨g9, 0, none⟩) := by rw [← Array.getD_eq_getD_getElem?]; exact zh.knows 8 _ rfl
                have y0_0 : w76.cell? ⟨g9, 0, none⟩ = some (.string ((numd x.name k))) := ((hB78.cell 0).trans rfl)
                have y0_1 : w76.cell? ⟨g9, 1, none⟩ = some (.int .i64 x.ar) := ((hB78.cell 1).trans rfl)
                have y0_2 : w76.cell? ⟨g9, 2, none⟩ = some (.bool x.pred) := ((hB78.cell 2).trans rfl)
                have z1 : za.tmps[9]?.getD undef = .int .i64 0 := by rw [← Array.getD_eq_getD_getElem?]; exact zh.knows 9 _ rfl
                simp [results, Tryd.results7, z0, y0_0, y0_1, y0_2, z1, go_sem]
              · have hfr := fr3 (l := l) (x := x) (k := k) hc0 ho0 hbo9 hk1 hk97 (by simpa using h52)
                rw [if_pos (by simpa using h60)] at hfr
                exact ⟨_, rfl, by rw [hfr], hb81⟩

end Go.Proofs.YtbnjppmmhhjjbaaDoor
