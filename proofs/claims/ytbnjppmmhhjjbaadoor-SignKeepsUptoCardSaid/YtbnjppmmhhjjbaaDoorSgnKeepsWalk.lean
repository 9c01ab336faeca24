/- The walk through the law of symbols that are added and found. -/
import Derived.Test.YtbnjppmmhhjjbaaDoorSgnFreshWalk
namespace Go.Proofs.YtbnjppmmhhjjbaaDoor
open Go.RowKit Go
set_option linter.unusedVariables false
set_option linter.unusedSimpArgs false

theorem padd_row {A B : List Sy} {w : World} {v : Value} {ra : Option Addr} {rc : Nat} (hzA : A.length ≤ 1073741824) (hzB : B.length ≤ 1073741824) (hv : IsSig w A v) (h1 : B.length ≤ rc) (h2 : rc ≤ maxLen) (h3 : IsSys w B ra) : Calls Tryd.prog 9 #[v, .slice ra B.length rc] w (Ret fun v' w' => (∃ a n c, v' = .tuple #[.agg #[.slice a n c], .int .i64 (addRes A B).2] ∧ n = (addRes A B).1.length ∧ IsSig w' (addRes A B).1 (.agg #[.slice a n c])) ∧ Below w.heap.size w w') := by
  refine (padd_any A B w v ra rc hzA hzB hv h1 h2 h3).mono ?_
  rintro e w' ⟨v', rfl, u, rfl, h4, h5⟩
  have h6 := h4
  obtain ⟨a, c, rfl, _⟩ := h4
  exact ⟨_, rfl, ⟨a, _, c, rfl, rfl, h6⟩, h5⟩
theorem padd_again {A B : List Sy} {w : World} {v : Value} {ra : Option Addr} {rc : Nat} (hk : (addRes A B).2 = 0) (hzB : B.length ≤ 1073741824) (hv : IsSig w (addRes A B).1 v) (h1 : B.length ≤ rc) (h2 : rc ≤ maxLen) (h3 : IsSys w B ra) : Calls Tryd.prog 9 #[v, .slice ra B.length rc] w (Ret fun v' w' => (∃ a n c, v' = .tuple #[.agg #[.slice a n c], .int .i64 0] ∧ n = (addRes A B).1.length ∧ IsSig w' (addRes A B).1 (.agg #[.slice a n c])) ∧ Below w.heap.size w w') := by
  have hl := sigCheck_len (keeps_again hk).1
  have := padd_row (A := (addRes A B).1) (by omega) hzB hv h1 h2 h3
  rw [(keeps_again hk).2] at this
  exact this
theorem psame_yes (l : List Sy) (w : World) (u v : Value) (hu : IsSig w l u) (hv : IsSig w l v) : Calls Tryd.prog 10 #[u, v] w (Ret fun v' w' => v' = .bool true ∧ Below w.heap.size w w') := by
  have := psame_any l l w u v hu hv
  rwa [decide_eq_true rfl] at this
theorem pcheck_ok {A B : List Sy} (hk : (addRes A B).2 = 0) (w : World) (v : Value) (hv : IsSig w (addRes A B).1 v) : Calls Tryd.prog 11 #[v] w (Ret fun v' w' => v' = .int .i64 0 ∧ Below w.heap.size w w') := by
  have := pcheck_any (addRes A B).1 w v hv
  rwa [(keeps_again hk).1] at this
theorem find_at {A B : List Sy} (hk : (addRes A B).2 = 0) (i : Nat) (hi : i < A.length) (w : World) (v : Value) (hv : IsSig w (addRes A B).1 v) : Calls Tryd.prog 12 #[v, (sget A i).val] w (Ret fun v' w' => v' = .tuple #[.int .i64 (i : Int), .bool true] ∧ Below w.heap.size w w') := by
  have := find_sig (addRes A B).1 (sget A i) w hv
  rw [keeps_at hk hi, decide_eq_true (by omega), show max (i : Int) 0 = i by omega] at this
  exact this
theorem find_has {A B : List Sy} (hk : (addRes A B).2 = 0) (i : Nat) (hi : i < B.length) (w : World) (v : Value) (hv : IsSig w (addRes A B).1 v) : Calls Tryd.prog 12 #[v, (sget B i).val] w (Ret fun v' w' => v' = .tuple #[.int .i64 (max (syAt (sget B i) (addRes A B).1 0) 0), .bool true] ∧ Below w.heap.size w w') := by
  have := find_sig (addRes A B).1 (sget B i) w hv
  rwa [decide_eq_true (keeps_has hk (sget_mem hi))] at this
theorem fresh_at_v {A B : List Sy} (i : Nat) (hB : ∀ x ∈ B, I64 x.ar ∧ x.name.size ≤ maxLen) (hi : i < B.length) (w : World) (v : Value) (hv : IsSig w (addRes A B).1 v) : Calls Tryd.prog 5 #[v, .string (sget B i).name, .int .i64 (sget B i).ar, .bool (sget B i).pred] w (Ret fun v' w' => v' = .tuple #[.agg #[.string (freshRes (addRes A B).1 (sget B i)).1.name, .int .i64 (freshRes (addRes A B).1 (sget B i)).1.ar, .bool (freshRes (addRes A B).1 (sget B i)).1.pred], .int .i64 (freshRes (addRes A B).1 (sget B i)).2] ∧ Below w.heap.size w w') :=
  fresh_v _ _ _ _ (hB _ (sget_mem hi)).2 hv
theorem kind_at {A B : List Sy} (hk : (addRes A B).2 = 0) {i : Nat} (hi : i < B.length) : (freshRes (addRes A B).1 (sget B i)).2 = 0 ∨ (freshRes (addRes A B).1 (sget B i)).2 = 111 := by
  obtain ⟨_, _, h2, _⟩ := addRes_ok hk
  exact fresh_kind (keeps_again hk).1 ((addErr_iff B).1 h2 _ (sget_mem hi))
theorem fresh_name {l : List Sy} {x : Sy} (hx : I64 x.ar) : I64 (freshRes l x).1.ar ∧ (freshRes l x).1.name.size ≤ maxLen := by
  unfold freshRes
  by_cases h1 : sigCheck l ≠ 0
  · rw [if_pos h1]; exact ⟨by show I64 0; unfold I64; omega, Nat.zero_le _⟩
  · rw [if_neg h1]
    by_cases h2 : x.one ≠ 0
    · rw [if_pos h2]; exact ⟨by show I64 0; unfold I64; omega, Nat.zero_le _⟩
    · rw [if_neg h2]
      split
      · refine ⟨hx, ?_⟩
        have h3 := one_size (Classical.byContradiction h2 : x.one = 0)
        have hl := sigCheck_len (Classical.byContradiction h1 : sigCheck l = 0)
        have h4 := firstN_le l x.name l.length 1
        have := numd_size (s := x.name) (k := firstN l x.name l.length 1) (by omega)
        have : (40 : Nat) + 2 ≤ maxLen := by unfold maxLen; omega
        show (numd x.name _).size ≤ maxLen
        omega
      · exact ⟨by show I64 0; unfold I64; omega, Nat.zero_le _⟩
where
  firstN_le : ∀ (l : List Sy) (s : ByteArray) (m k : Nat), firstN l s m k ≤ k + m
  | _, _, 0, k => by rw [firstN]; omega
  | l, s, m + 1, k => by
    rw [firstN]
    split
    · have := firstN_le l s m (k + 1); omega
    · omega
theorem keeps_end {A B : List Sy} {k n1 n3 : Nat} (hk : (addRes A B).2 = 0) (hkB : k < B.length) (h1 : n1 = (addRes A B).1.length) (h3 : n3 = (addRes (addRes A B).1 [(freshRes (addRes A B).1 (sget B k)).1]).1.length) : ((((freshRes (addRes A B).1 (sget B k)).2 == (0 : Int)) && (decide ((n1 : Int) < (96 : Int)))) && (((addRes (addRes A B).1 [(freshRes (addRes A B).1 (sget B k)).1]).2 != (0 : Int)) || ((n3 : Int) != ((n1 + 1 : Nat) : Int)))) = false := by
  rcases kind_at hk hkB with q | q
  · by_cases h : (addRes A B).1.length < 96
    · have z := keeps_fresh (keeps_again hk).1 q h
      rw [z] at h3 ⊢
      simp at h3
      subst h1 h3
      simp
    · subst h1; rw [decide_eq_false (show ¬ ((addRes A B).1.length : Int) < 96 by omega)]; simp
  · rw [q]; simp
theorem sigLen {A B : List Sy} (hk : (addRes A B).2 = 0) : (addRes A B).1.length ≤ 96 := sigCheck_len (keeps_again hk).1
set_option maxRecDepth 100000 in
set_option maxHeartbeats 1000000 in
theorem keepsLaw_any (A B : List Sy) (w : World) (v : Value) (a2 : Option Addr) (c2 : Nat) (hzA : A.length ≤ 1073741824) (hzB : B.length ≤ 1073741824) (hv : IsSig w A v) (hc2 : B.length ≤ c2) (hm2 : c2 ≤ maxLen) (hl2 : IsSys w B a2) : Calls Tryd.prog 4 #[v, .slice a2 B.length c2] w (Ret fun v' w' => v' = .bool true ∧ Below w.heap.size w w') := by
  have hA := hv
  have hwB := hl2.wfs
  have hm2' := hm2
  unfold maxLen at hm2
  obtain ⟨a, c, rfl, hc, hm, hl⟩ := hv
  unfold maxLen at hm
  refine Calls.walk (l := [.agg #[.slice a A.length c], .slice a2 B.length c2]) Tryd.func4 rfl (by kernel_rfl) ?_
  refine WC.sub (K' := [(0, .agg #[.slice a A.length c]), (1, .slice a2 B.length c2)]) ⟨rfl, rfl, trivial⟩ ?_
  refine WC.seq ?_
  refine WC.region ?_
  refine WL.step (post := NewBlk w 24 #[.slice a A.length c]) rfl rfl rfl (fun za zC zh zk => box_24 rfl (zh.ev rfl) (zk _ _ (newBlk _ _ _))) ?_
  rintro _ w1 ⟨g2, rfl, hg3, hB4, hb5, hz6⟩
  have hl7 : w.heap.size ≤ g2 := by omega
  refine WL.val (.bool false) rfl rfl rfl (fun za zC zh zk => wp_assign rfl (zh.ev rfl) zk) ?_
  refine WL.nil (WE.sub (K' := [(0, .agg #[.slice a A.length c]), (1, .slice a2 B.length c2), (2, .pointer (some ⟨g2, 0, none⟩)), (4, .bool false)]) ⟨rfl, rfl, rfl, rfl, trivial⟩ ?_)
  refine WE.next ?_
  refine WC.seq ?_
  refine WC.region ?_
  refine WL.val (.agg #[.slice a A.length c]) rfl rfl rfl (fun za zC zh zk => ld_24 rfl (zh.ev rfl) ((hB4.cell 0).trans rfl) zk) ?_
  refine WL.val (.slice a2 B.length c2) rfl rfl rfl (fun za zC zh zk => wp_move rfl (zh.ev rfl) zk) ?_
  refine WL.call rfl rfl rfl (fun za zh zC => wp_call (by kernel_rfl) rfl (hv2 (zh.ev rfl) (zh.ev rfl))) (padd_row hzA hzB (IsSig.below hb5 hA) hc2 hm2' (hl2.below hb5)) ?_
  rintro _ w8 ⟨⟨as1, ns1, cs1, rfl, hn1, hS1⟩, hba1⟩
  refine WL.val (.tuple #[.agg #[.slice as1 ns1 cs1], .int .i64 ((addRes A B).2)]) rfl rfl rfl (fun za zC zh zk => wp_move rfl (zh.ev rfl) zk) ?_
  refine WL.val (.agg #[.slice as1 ns1 cs1]) rfl rfl rfl (fun za zC zh zk => ext2_0 rfl (zh.ev rfl) zk) ?_
  refine WL.val (.int .i64 ((addRes A B).2)) rfl rfl rfl (fun za zC zh zk => ext2_1 rfl (zh.ev rfl) zk) ?_
  refine WL.step (post := NewBlk w8 24 #[.slice none 0 0]) rfl rfl rfl (fun za zC zh zk => alloc_24 rfl (zk _ _ (newBlk _ _ _))) ?_
  rintro _ w9 ⟨g10, rfl, hg11, hB12, hb13, hz14⟩
  have hl15 : g2 < g10 := by have z1 := hB4.lt; have z2 := (hba1).size; omega
  have hb16 : Below w.heap.size w w8 := (bstep hb5 hba1)
  have hl17 : w.heap.size ≤ g10 := by have z2 := (hb16).size; omega
  have hl18 : w8.heap.size ≤ g10 := by omega
  refine WL.step (post := fun _ w' => Upd g10 w9 w' ∧ Blk w' g10 24 #[.slice as1 ns1 cs1]) rfl rfl rfl (fun za zC zh zk => st_24 rfl (zh.ev rfl) (zh.ev rfl) rfl hB12 (by first | decide | simp) (fun v => zk v _ ⟨Upd.at_ _ _ _ _, hB12.set_ 0 _⟩)) ?_
  rintro v22 w19 ⟨hu20, hB21⟩
  have hb23 : Below w.heap.size w w9 := (bstep hb16 hb13)
  have hb24 := upd_below hb23 hu20 (by omega)
  have hb25 := upd_below hb13 hu20 (by omega)
  have hb27 : Below w1.heap.size w1 w9 := (bstep hba1 hb13)
  have hB26 := hB4.below hb27
  have hB28 := upd_blk hB26 hu20 (by omega)
  refine WL.val (.int .i64 ((addRes A B).2)) rfl rfl rfl (fun za zC zh zk => wp_assign rfl (zh.ev rfl) zk) ?_
  refine WL.nil (WE.sub (K' := [(0, .agg #[.slice a A.length c]), (1, .slice a2 B.length c2), (2, .pointer (some ⟨g2, 0, none⟩)), (4, .bool false), (5, .pointer (some ⟨g10, 0, none⟩)), (6, .int .i64 ((addRes A B).2))]) ⟨rfl, rfl, rfl, rfl, rfl, rfl, trivial⟩ ?_)
  refine WE.next ?_
  refine WC.seq ?_
  refine WC.seq ?_
  refine WC.region ?_
  refine WL.call rfl rfl rfl (fun za zh zC => wp_call (by kernel_rfl) rfl (hv0)) (head_any _) ?_
  rintro _ w29 ⟨rfl, hbh⟩
  refine WL.val (.bool false) rfl rfl rfl (fun za zC zh zk => wp_not rfl (zh.ev rfl) zk) ?_
  refine WL.nil (WE.sub (K' := [(0, .agg #[.slice a A.length c]), (1, .slice a2 B.length c2), (2, .pointer (some ⟨g2, 0, none⟩)), (4, .bool false), (5, .pointer (some ⟨g10, 0, none⟩)), (6, .int .i64 ((addRes A B).2)), (26, .bool false)]) ⟨rfl, rfl, rfl, rfl, rfl, rfl, rfl, trivial⟩ ?_)
  refine WE.next ?_
  refine WC.condF rfl rfl ?_
  refine WC.skip ?_
  refine WE.next ?_
  refine WC.seq ?_
  refine WC.seq ?_
  refine WC.region ?_
  refine WL.val (.int .i64 ((addRes A B).2)) rfl rfl rfl (fun za zC zh zk => wp_move rfl (zh.ev rfl) zk) ?_
  refine WL.val (.bool ((((addRes A B).2 : Int) != (0 : Int)))) rfl rfl rfl (fun za zC zh zk => neq_27 rfl (zh.ev rfl) (zh.ev rfl) zk) ?_
  refine WL.nil (WE.sub (K' := [(0, .agg #[.slice a A.length c]), (1, .slice a2 B.length c2), (2, .pointer (some ⟨g2, 0, none⟩)), (4, .bool false), (5, .pointer (some ⟨g10, 0, none⟩)), (6, .int .i64 ((addRes A B).2)), (26, .bool false), (28, .bool ((((addRes A B).2 : Int) != (0 : Int))))]) ⟨rfl, rfl, rfl, rfl, rfl, rfl, rfl, rfl, trivial⟩ ?_)
  refine WE.next ?_
  refine WC.cond rfl (fun h30 => ?_) (fun h30 => ?_)
  · have h30 : ((addRes A B).2 : Int) ≠ (0 : Int) := by simpa using h30
    refine WC.seq ?_
    refine WC.region ?_
    refine WL.val (.pointer (some ⟨g10, 0, none⟩)) rfl rfl rfl (fun za zC zh zk => fld_24_0 rfl (zh.ev rfl) zk) ?_
    have hB31 := hB21.below hbh
    refine WL.val (.slice as1 ns1 cs1) rfl rfl rfl (fun za zC zh zk => ld_22 rfl (zh.ev rfl) ((hB31.cell 0).trans rfl) zk) ?_
    refine WL.val (.int .i64 (((ns1 : Nat) : Int))) rfl rfl rfl (fun za zC zh zk => len_22 rfl (zh.ev rfl) zk) ?_
    refine WL.val (.bool (((((ns1 : Nat) : Int) : Int) == (0 : Int)))) rfl rfl rfl (fun za zC zh zk => eql_3 rfl (zh.ev rfl) (zh.ev rfl) zk) ?_
    refine WL.val (.bool (((((ns1 : Nat) : Int) : Int) == (0 : Int)))) rfl rfl rfl (fun za zC zh zk => wp_assign rfl (zh.ev rfl) zk) ?_
    refine WL.nil (WE.sub (K' := [(0, .agg #[.slice a A.length c]), (1, .slice a2 B.length c2), (2, .pointer (some ⟨g2, 0, none⟩)), (4, .bool (((((ns1 : Nat) : Int) : Int) == (0 : Int)))), (5, .pointer (some ⟨g10, 0, none⟩)), (6, .int .i64 ((addRes A B).2)), (26, .bool false), (28, .bool ((((addRes A B).2 : Int) != (0 : Int))))]) ⟨rfl, rfl, rfl, rfl, rfl, rfl, rfl, rfl, trivial⟩ ?_)
    refine WE.next ?_
    refine WC.ret ?_
    refine WE.thenRet ?_
    refine WE.ret1 rfl rfl ?_
    have hb32 : Below w.heap.size w w29 := (bstep hb24 hbh)
    have hz0 := addRes_no h30
    exact ⟨_, rfl, congrArg Value.bool (by rw [hn1, hz0]; rfl), hb32⟩
  · have h30 : ¬ (((addRes A B).2 : Int) ≠ (0 : Int)) := by simpa using h30
    have hk0 : (addRes A B).2 = 0 := by have z := h30; omega
    have hl96 := sigLen hk0
    refine WC.skip ?_
    refine WE.next ?_
    refine WC.seq ?_
    refine WC.region ?_
    have hB33 := hB21.below hbh
    refine WL.val (.agg #[.slice as1 ns1 cs1]) rfl rfl rfl (fun za zC zh zk => ld_24 rfl (zh.ev rfl) ((hB33.cell 0).trans rfl) zk) ?_
    refine WL.val (.slice a2 B.length c2) rfl rfl rfl (fun za zC zh zk => wp_move rfl (zh.ev rfl) zk) ?_
    have hb34 : Below w.heap.size w w29 := (bstep hb24 hbh)
    have hb35 : Below w8.heap.size w8 w29 := (bstep hb25 hbh)
    refine WL.call rfl rfl rfl (fun za zh zC => wp_call (by kernel_rfl) rfl (hv2 (zh.ev rfl) (zh.ev rfl))) (padd_again hk0 hzB (IsSig.below hb35 hS1) hc2 hm2' (hl2.below hb34)) ?_
    rintro _ w36 ⟨⟨as2, ns2, cs2, rfl, hn2, hS2⟩, hba2⟩
    refine WL.val (.tuple #[.agg #[.slice as2 ns2 cs2], .int .i64 0]) rfl rfl rfl (fun za zC zh zk => wp_move rfl (zh.ev rfl) zk) ?_
    refine WL.val (.agg #[.slice as2 ns2 cs2]) rfl rfl rfl (fun za zC zh zk => ext2_0 rfl (zh.ev rfl) zk) ?_
    refine WL.val (.int .i64 0) rfl rfl rfl (fun za zC zh zk => ext2_1 rfl (zh.ev rfl) zk) ?_
    refine WL.step (post := NewBlk w36 24 #[.slice none 0 0]) rfl rfl rfl (fun za zC zh zk => alloc_24 rfl (zk _ _ (newBlk _ _ _))) ?_
    rintro _ w37 ⟨g38, rfl, hg39, hB40, hb41, hz42⟩
    have hb43 : Below w19.heap.size w19 w36 := (bstep hbh hba2)
    have hl44 : g2 < g38 := by have z1 := hB28.lt; have z2 := (hb43).size; omega
    have hl45 : g10 < g38 := by have z1 := hB33.lt; have z2 := (hba2).size; omega
    have hb46 : Below w.heap.size w w36 := (bstep hb24 hb43)
    have hl47 : w.heap.size ≤ g38 := by have z2 := (hb46).size; omega
    have hb48 : Below w8.heap.size w8 w36 := (bstep hb25 hb43)
    have hl49 : w8.heap.size ≤ g38 := by have z2 := (hb48).size; omega
    have hl50 : w36.heap.size ≤ g38 := by omega
    refine WL.step (post := fun _ w' => Upd g38 w37 w' ∧ Blk w' g38 24 #[.slice as2 ns2 cs2]) rfl rfl rfl (fun za zC zh zk => st_24 rfl (zh.ev rfl) (zh.ev rfl) rfl hB40 (by first | decide | simp) (fun v => zk v _ ⟨Upd.at_ _ _ _ _, hB40.set_ 0 _⟩)) ?_
    rintro v54 w51 ⟨hu52, hB53⟩
    have hb55 : Below w.heap.size w w37 := (bstep hb46 hb41)
    have hb56 : Below w8.heap.size w8 w37 := (bstep hb48 hb41)
    have hb57 := upd_below hb55 hu52 (by omega)
    have hb58 := upd_below hb56 hu52 (by omega)
    have hb59 := upd_below hb41 hu52 (by omega)
    have hb61 : Below w19.heap.size w19 w37 := (bstep hb43 hb41)
    have hB60 := hB28.below hb61
    have hB62 := upd_blk hB60 hu52 (by omega)
    have hb64 : Below w29.heap.size w29 w37 := (bstep hba2 hb41)
    have hB63 := hB33.below hb64
    have hB65 := upd_blk hB63 hu52 (by omega)
    refine WL.val (.int .i64 0) rfl rfl rfl (fun za zC zh zk => wp_assign rfl (zh.ev rfl) zk) ?_
    refine WL.nil (WE.sub (K' := [(0, .agg #[.slice a A.length c]), (1, .slice a2 B.length c2), (2, .pointer (some ⟨g2, 0, none⟩)), (4, .bool false), (5, .pointer (some ⟨g10, 0, none⟩)), (6, .int .i64 ((addRes A B).2)), (7, .pointer (some ⟨g38, 0, none⟩)), (8, .int .i64 0), (26, .bool false), (28, .bool ((((addRes A B).2 : Int) != (0 : Int))))]) ⟨rfl, rfl, rfl, rfl, rfl, rfl, rfl, rfl, rfl, rfl, trivial⟩ ?_)
    refine WE.next ?_
    refine WC.seq ?_
    refine WC.seq ?_
    refine WC.opt [(true, .val (.int .i64 0)), (true, .val (.bool false)), (true, .val (.bool false)), ((true && !false), .val (.agg #[.slice as1 ns1 cs1])), ((true && !false), .val (.agg #[.slice as2 ns2 cs2])), ((true && !false), .val (.bool true)), ((true && !false), .val (.bool ((!true)))), (true, .val (.bool ((!true)))), (true, .val (.bool ((!true)))), ((true && !(!true)), .val (.agg #[.slice as1 ns1 cs1])), ((true && !(!true)), .val (.int .i64 0)), ((true && !(!true)), .val (.bool false)), (true, .val (.bool (((!true) || false))))] [(0, .agg #[.slice a A.length c]), (1, .slice a2 B.length c2), (2, .pointer (some ⟨g2, 0, none⟩)), (4, .bool false), (5, .pointer (some ⟨g10, 0, none⟩)), (6, .int .i64 ((addRes A B).2)), (7, .pointer (some ⟨g38, 0, none⟩)), (8, .int .i64 0), (26, .bool false), (28, .bool ((((addRes A B).2 : Int) != (0 : Int))))] ⟨rfl, rfl, rfl, rfl, rfl, rfl, rfl, rfl, rfl, rfl, trivial⟩ (by kernel_rfl) (by kernel_rfl) (by kernel_rfl) ?_ ?_
    · refine ⟨⟨true, .none rfl, fun h w => optUndef h, fun zβ za zw zc => ?_⟩, ?_⟩
      · exact wp_move rfl (zc.kn.ev rfl) ⟨_, rfl, Below.refl _ _, optDef zβ rfl⟩
      refine ⟨⟨true, .none rfl, fun h w => optUndef h, fun zβ za zw zc => ?_⟩, ?_⟩
      · exact neq_27 rfl ((show za.eval (.tmp 39) = za.tmps.getD 39 undef from rfl).trans (optVal (zc.dep 0 39 (by kernel_rfl)) rfl rfl)) (zc.kn.ev rfl) ⟨_, rfl, Below.refl _ _, optDef zβ rfl⟩
      refine ⟨⟨true, .none rfl, fun h w => optUndef h, fun zβ za zw zc => ?_⟩, ?_⟩
      · exact wp_move rfl ((show za.eval (.tmp 40) = za.tmps.getD 40 undef from rfl).trans (optVal (zc.dep 1 40 (by kernel_rfl)) rfl rfl)) ⟨_, rfl, Below.refl _ _, optDef zβ rfl⟩
      refine ⟨⟨(true && !false), .no (c := false) (d := true) rfl (fun v w h => h), fun h w => optUndef h, fun zβ za zw zc => ?_⟩, ?_⟩
      · exact ld_24 rfl (zc.kn.ev rfl) (bkeeps zc.below _ _ ((hB65.cell 0).trans rfl)) ⟨_, rfl, Below.refl _ _, optDef zβ rfl⟩
      refine ⟨⟨(true && !false), .no (c := false) (d := true) rfl (fun v w h => h), fun h w => optUndef h, fun zβ za zw zc => ?_⟩, ?_⟩
      · exact ld_24 rfl (zc.kn.ev rfl) (bkeeps zc.below _ _ ((hB53.cell 0).trans rfl)) ⟨_, rfl, Below.refl _ _, optDef zβ rfl⟩
      refine ⟨⟨(true && !false), .no (c := false) (d := true) rfl (fun v w h => h), fun h w => optUndef h, fun zβ za zw zc => ?_⟩, ?_⟩
      · exact wp_call (by kernel_rfl) rfl (hv2 ((show za.eval (.tmp 42) = za.tmps.getD 42 undef from rfl).trans (optVal (zc.dep 3 42 (by kernel_rfl)) rfl rfl)) ((show za.eval (.tmp 43) = za.tmps.getD 43 undef from rfl).trans (optVal (zc.dep 4 43 (by kernel_rfl)) rfl rfl))) (psame_yes (addRes A B).1 _ _ _ (IsSig.below (bstep hb58 zc.below) hS1) (IsSig.below (bstep hb59 zc.below) hS2)) (fun v w' h => ⟨v, rfl, h.2, optDef zβ h.1⟩)
      refine ⟨⟨(true && !false), .no (c := false) (d := true) rfl (fun v w h => h), fun h w => optUndef h, fun zβ za zw zc => ?_⟩, ?_⟩
      · exact wp_not rfl ((show za.eval (.tmp 44) = za.tmps.getD 44 undef from rfl).trans (optVal (zc.dep 5 44 (by kernel_rfl)) rfl rfl)) ⟨_, rfl, Below.refl _ _, optDef zβ rfl⟩
      refine ⟨⟨true, .none rfl, fun h w => optUndef h, fun zβ za zw zc => ?_⟩, ?_⟩
      · exact wp_pickF rfl ((show za.eval (.tmp 41) = za.tmps.getD 41 undef from rfl).trans (optVal (zc.dep 2 41 (by kernel_rfl)) rfl rfl)) ((show za.eval (.tmp 45) = za.tmps.getD 45 undef from rfl).trans (optVal (zc.dep 6 45 (by kernel_rfl)) rfl rfl)) ⟨_, rfl, Below.refl _ _, optDef zβ rfl⟩
      refine ⟨⟨true, .none rfl, fun h w => optUndef h, fun zβ za zw zc => ?_⟩, ?_⟩
      · exact wp_move rfl ((show za.eval (.tmp 46) = za.tmps.getD 46 undef from rfl).trans (optVal (zc.dep 7 46 (by kernel_rfl)) rfl rfl)) ⟨_, rfl, Below.refl _ _, optDef zβ rfl⟩
      refine ⟨⟨(true && !(!true)), .no (c := (!true)) (d := true) rfl (fun v w h => h), fun h w => optUndef h, fun zβ za zw zc => ?_⟩, ?_⟩
      · exact ld_24 rfl (zc.kn.ev rfl) (bkeeps zc.below _ _ ((hB65.cell 0).trans rfl)) ⟨_, rfl, Below.refl _ _, optDef zβ rfl⟩
      refine ⟨⟨(true && !(!true)), .no (c := (!true)) (d := true) rfl (fun v w h => h), fun h w => optUndef h, fun zβ za zw zc => ?_⟩, ?_⟩
      · exact wp_call (by kernel_rfl) rfl (hv1 ((show za.eval (.tmp 48) = za.tmps.getD 48 undef from rfl).trans (optVal (zc.dep 9 48 (by kernel_rfl)) rfl rfl))) (pcheck_ok hk0 _ _ (IsSig.below (bstep hb58 zc.below) hS1)) (fun v w' h => ⟨v, rfl, h.2, optDef zβ h.1⟩)
      refine ⟨⟨(true && !(!true)), .no (c := (!true)) (d := true) rfl (fun v w h => h), fun h w => optUndef h, fun zβ za zw zc => ?_⟩, ?_⟩
      · exact neq_27 rfl ((show za.eval (.tmp 49) = za.tmps.getD 49 undef from rfl).trans (optVal (zc.dep 10 49 (by kernel_rfl)) rfl rfl)) (zc.kn.ev rfl) ⟨_, rfl, Below.refl _ _, optDef zβ rfl⟩
      refine ⟨⟨true, .none rfl, fun h w => optUndef h, fun zβ za zw zc => ?_⟩, ?_⟩
      · exact wp_or rfl ((show za.eval (.tmp 47) = za.tmps.getD 47 undef from rfl).trans (optVal (zc.dep 8 47 (by kernel_rfl)) rfl rfl)) (fun hp => ((show za.eval (.tmp 50) = za.tmps.getD 50 undef from rfl).trans (optVal (zc.dep 11 50 (by kernel_rfl)) rfl rfl))) ⟨_, rfl, Below.refl _ _, optDef zβ rfl⟩
      exact trivial
    · intro za w66 zh hb67 zu
      have zh := zh.cons (d := 51) (v := .bool (((!true) || false))) (optVal (zu 12 51 (by kernel_rfl)) rfl rfl)
      clear zu
      refine (show WE _ [(0, .agg #[.slice a A.length c]), (1, .slice a2 B.length c2), (2, .pointer (some ⟨g2, 0, none⟩)), (4, .bool false), (5, .pointer (some ⟨g10, 0, none⟩)), (6, .int .i64 ((addRes A B).2)), (7, .pointer (some ⟨g38, 0, none⟩)), (8, .int .i64 0), (26, .bool false), (28, .bool ((((addRes A B).2 : Int) != (0 : Int)))), (51, .bool (((!true) || false)))] w66 _ .normal from ?_) za (zh.sub ⟨rfl, rfl, rfl, rfl, rfl, rfl, rfl, rfl, rfl, rfl, rfl, trivial⟩)
      refine WE.next ?_
      refine WC.condF rfl (rfl) ?_
      refine WC.skip ?_
      refine WE.next ?_
      refine WC.seq ?_
      refine WC.seq ?_
      refine WC.region ?_
      refine WL.val (.int .i64 0) rfl rfl rfl (fun za zC zh zk => wp_assign rfl (zh.ev rfl) zk) ?_
      refine WL.nil (WE.sub (K' := [(0, .agg #[.slice a A.length c]), (1, .slice a2 B.length c2), (2, .pointer (some ⟨g2, 0, none⟩)), (4, .bool false), (5, .pointer (some ⟨g10, 0, none⟩)), (6, .int .i64 ((addRes A B).2)), (7, .pointer (some ⟨g38, 0, none⟩)), (8, .int .i64 0), (9, .int .i64 0), (26, .bool false), (28, .bool ((((addRes A B).2 : Int) != (0 : Int)))), (51, .bool (((!true) || false)))]) ⟨rfl, rfl, rfl, rfl, rfl, rfl, rfl, rfl, rfl, rfl, rfl, rfl, trivial⟩ ?_)
      refine WE.next ?_
      refine WC.block ?_
      refine WC.loop (X := Nat) (fun q => A.length - q) (fun q => [(0, .agg #[.slice a A.length c]), (1, .slice a2 B.length c2), (2, .pointer (some ⟨g2, 0, none⟩)), (5, .pointer (some ⟨g10, 0, none⟩)), (6, .int .i64 ((addRes A B).2)), (7, .pointer (some ⟨g38, 0, none⟩)), (8, .int .i64 0), (9, .int .i64 (((q : Nat) : Int))), (26, .bool false), (28, .bool ((((addRes A B).2 : Int) != (0 : Int)))), (51, .bool (((!true) || false)))]) (fun q w68 => q ≤ A.length ∧ Below w.heap.size w w68 ∧ Below w8.heap.size w8 w68 ∧ Below w36.heap.size w36 w68 ∧ Blk w68 g2 24 #[.slice a A.length c] ∧ Blk w68 g10 24 #[.slice as1 ns1 cs1] ∧ Blk w68 g38 24 #[.slice as2 ns2 cs2]) 0 ⟨rfl, rfl, rfl, rfl, rfl, rfl, rfl, rfl, rfl, rfl, rfl, trivial⟩ ?_ ?_
      · have hb69 : Below w.heap.size w w66 := (bstep hb57 hb67)
        have hb70 : Below w8.heap.size w8 w66 := (bstep hb58 hb67)
        have hb71 : Below w36.heap.size w36 w66 := (bstep hb59 hb67)
        have hB72 := hB62.below hb67
        have hB73 := hB65.below hb67
        have hB74 := hB53.below hb67
        exact ⟨Nat.zero_le _, hb69, hb70, hb71, hB72, hB73, hB74⟩
      · rintro q w68 ⟨hk, hb75, hb76, hb77, hB78, hB79, hB80⟩
        refine WC.seq ?_
        refine WC.seq ?_
        refine WC.region ?_
        refine WL.val (.int .i64 (((q : Nat) : Int))) rfl rfl rfl (fun za zC zh zk => wp_move rfl (zh.ev rfl) zk) ?_
        refine WL.val (.pointer (some ⟨g2, 0, none⟩)) rfl rfl rfl (fun za zC zh zk => fld_24_0 rfl (zh.ev rfl) zk) ?_
        refine WL.val (.slice a A.length c) rfl rfl rfl (fun za zC zh zk => ld_22 rfl (zh.ev rfl) ((hB78.cell 0).trans rfl) zk) ?_
        refine WL.val (.int .i64 (((A.length : Nat) : Int))) rfl rfl rfl (fun za zC zh zk => len_22 rfl (zh.ev rfl) zk) ?_
        refine WL.val (.bool ((decide ((((q : Nat) : Int) : Int) < (((A.length : Nat) : Int) : Int))))) rfl rfl rfl (fun za zC zh zk => lss_3 rfl (zh.ev rfl) (zh.ev rfl) zk) ?_
        refine WL.nil (WE.sub (K' := [(0, .agg #[.slice a A.length c]), (1, .slice a2 B.length c2), (2, .pointer (some ⟨g2, 0, none⟩)), (5, .pointer (some ⟨g10, 0, none⟩)), (6, .int .i64 ((addRes A B).2)), (7, .pointer (some ⟨g38, 0, none⟩)), (8, .int .i64 0), (9, .int .i64 (((q : Nat) : Int))), (26, .bool false), (28, .bool ((((addRes A B).2 : Int) != (0 : Int)))), (51, .bool (((!true) || false))), (56, .bool ((decide ((((q : Nat) : Int) : Int) < (((A.length : Nat) : Int) : Int)))))]) ⟨rfl, rfl, rfl, rfl, rfl, rfl, rfl, rfl, rfl, rfl, rfl, rfl, trivial⟩ ?_)
        refine WE.next ?_
        refine WC.cond rfl (fun h81 => ?_) (fun h81 => ?_)
        · have h81 : (((q : Nat) : Int) : Int) < (((A.length : Nat) : Int) : Int) := by simpa using h81
          have hkA : q < A.length := by omega
          refine WC.skip ?_
          refine WE.next ?_
          refine WC.seq ?_
          refine WC.block ?_
          refine WC.seq ?_
          obtain ⟨b82, o83, ha84, hc85⟩ := IsSys.open hl
          refine WC.opt [(true, .val (.agg #[.slice as1 ns1 cs1])), (true, .val (.pointer (some ⟨g2, 0, none⟩))), (true, .val (.slice a A.length c)), (true, .val (.int .i64 (((q : Nat) : Int)))), (true, .val (.pointer (some ⟨b82, o83 + q * 3, none⟩))), (true, .val (.agg #[.string ((sget A q).name), .int .i64 ((sget A q).ar), .bool ((sget A q).pred)])), (true, .val (.tuple #[.int .i64 (((q : Nat) : Int)), .bool true])), (true, .val (.tuple #[.int .i64 (((q : Nat) : Int)), .bool true])), (true, .val (.int .i64 (((q : Nat) : Int)))), (true, .val (.bool true)), (true, .val (.int .i64 (((q : Nat) : Int)))), (true, .val (.bool true))] [(0, .agg #[.slice a A.length c]), (1, .slice a2 B.length c2), (2, .pointer (some ⟨g2, 0, none⟩)), (5, .pointer (some ⟨g10, 0, none⟩)), (6, .int .i64 ((addRes A B).2)), (7, .pointer (some ⟨g38, 0, none⟩)), (8, .int .i64 0), (9, .int .i64 (((q : Nat) : Int))), (26, .bool false), (28, .bool ((((addRes A B).2 : Int) != (0 : Int)))), (51, .bool (((!true) || false))), (56, .bool ((decide ((((q : Nat) : Int) : Int) < (((A.length : Nat) : Int) : Int)))))] ⟨rfl, rfl, rfl, rfl, rfl, rfl, rfl, rfl, rfl, rfl, rfl, rfl, trivial⟩ (by kernel_rfl) (by kernel_rfl) (by kernel_rfl) ?_ ?_
          · refine ⟨⟨true, .none rfl, fun h w => optUndef h, fun zβ za zw zc => ?_⟩, ?_⟩
            · exact ld_24 rfl (zc.kn.ev rfl) (bkeeps zc.below _ _ ((hB79.cell 0).trans rfl)) ⟨_, rfl, Below.refl _ _, optDef zβ rfl⟩
            refine ⟨⟨true, .none rfl, fun h w => optUndef h, fun zβ za zw zc => ?_⟩, ?_⟩
            · exact fld_24_0 rfl (zc.kn.ev rfl) ⟨_, rfl, Below.refl _ _, optDef zβ rfl⟩
            refine ⟨⟨true, .none rfl, fun h w => optUndef h, fun zβ za zw zc => ?_⟩, ?_⟩
            · exact ld_22 rfl ((show za.eval (.tmp 61) = za.tmps.getD 61 undef from rfl).trans (optVal (zc.dep 1 61 (by kernel_rfl)) rfl rfl)) (bkeeps zc.below _ _ ((hB78.cell 0).trans rfl)) ⟨_, rfl, Below.refl _ _, optDef zβ rfl⟩
            refine ⟨⟨true, .none rfl, fun h w => optUndef h, fun zβ za zw zc => ?_⟩, ?_⟩
            · exact wp_move rfl (zc.kn.ev rfl) ⟨_, rfl, Below.refl _ _, optDef zβ rfl⟩
            refine ⟨⟨true, .none rfl, fun h w => optUndef h, fun zβ za zw zc => ?_⟩, ?_⟩
            · exact ix_22 (k := q) rfl ((show za.eval (.tmp 62) = za.tmps.getD 62 undef from rfl).trans (optVal (zc.dep 2 62 (by kernel_rfl)) rfl rfl)) (ha84 q (by first | omega | (simp; omega))) ((show za.eval (.tmp 63) = za.tmps.getD 63 undef from rfl).trans (optVal (zc.dep 3 63 (by kernel_rfl)) rfl rfl)) (by first | omega | (simp; omega)) ⟨_, rfl, Below.refl _ _, optDef zβ rfl⟩
            refine ⟨⟨true, .none rfl, fun h w => optUndef h, fun zβ za zw zc => ?_⟩, ?_⟩
            · exact ld_26 rfl ((show za.eval (.tmp 64) = za.tmps.getD 64 undef from rfl).trans (optVal (zc.dep 4 64 (by kernel_rfl)) rfl rfl)) (bkeeps (bstep hb75 zc.below) _ _ (hc85 q (by first | omega | (simp; omega))).1) (bkeeps (bstep hb75 zc.below) _ _ (hc85 q (by first | omega | (simp; omega))).2.1) (bkeeps (bstep hb75 zc.below) _ _ (hc85 q (by first | omega | (simp; omega))).2.2) ⟨_, rfl, Below.refl _ _, optDef zβ rfl⟩
            refine ⟨⟨true, .none rfl, fun h w => optUndef h, fun zβ za zw zc => ?_⟩, ?_⟩
            · exact wp_call (by kernel_rfl) rfl (hv2 ((show za.eval (.tmp 60) = za.tmps.getD 60 undef from rfl).trans (optVal (zc.dep 0 60 (by kernel_rfl)) rfl rfl)) ((show za.eval (.tmp 65) = za.tmps.getD 65 undef from rfl).trans (optVal (zc.dep 5 65 (by kernel_rfl)) rfl rfl))) (find_at hk0 q hkA _ _ (IsSig.below (bstep hb76 zc.below) hS1)) (fun v w' h => ⟨v, rfl, h.2, optDef zβ h.1⟩)
            refine ⟨⟨true, .none rfl, fun h w => optUndef h, fun zβ za zw zc => ?_⟩, ?_⟩
            · exact wp_move rfl ((show za.eval (.tmp 66) = za.tmps.getD 66 undef from rfl).trans (optVal (zc.dep 6 66 (by kernel_rfl)) rfl rfl)) ⟨_, rfl, Below.refl _ _, optDef zβ rfl⟩
            refine ⟨⟨true, .none rfl, fun h w => optUndef h, fun zβ za zw zc => ?_⟩, ?_⟩
            · exact ext2_0 rfl ((show za.eval (.tmp 59) = za.tmps.getD 59 undef from rfl).trans (optVal (zc.dep 7 59 (by kernel_rfl)) rfl rfl)) ⟨_, rfl, Below.refl _ _, optDef zβ rfl⟩
            refine ⟨⟨true, .none rfl, fun h w => optUndef h, fun zβ za zw zc => ?_⟩, ?_⟩
            · exact ext2_1 rfl ((show za.eval (.tmp 59) = za.tmps.getD 59 undef from rfl).trans (optVal (zc.dep 7 59 (by kernel_rfl)) rfl rfl)) ⟨_, rfl, Below.refl _ _, optDef zβ rfl⟩
            refine ⟨⟨true, .none rfl, fun h w => optUndef h, fun zβ za zw zc => ?_⟩, ?_⟩
            · exact wp_assign rfl ((show za.eval (.tmp 67) = za.tmps.getD 67 undef from rfl).trans (optVal (zc.dep 8 67 (by kernel_rfl)) rfl rfl)) ⟨_, rfl, Below.refl _ _, optDef zβ rfl⟩
            refine ⟨⟨true, .none rfl, fun h w => optUndef h, fun zβ za zw zc => ?_⟩, ?_⟩
            · exact wp_assign rfl ((show za.eval (.tmp 68) = za.tmps.getD 68 undef from rfl).trans (optVal (zc.dep 9 68 (by kernel_rfl)) rfl rfl)) ⟨_, rfl, Below.refl _ _, optDef zβ rfl⟩
            exact trivial
          · intro za w86 zh hb87 zu
            have zh := zh.cons (d := 10) (v := .int .i64 (((q : Nat) : Int))) (optVal (zu 10 10 (by kernel_rfl)) rfl rfl)
            have zh := zh.cons (d := 11) (v := .bool true) (optVal (zu 11 11 (by kernel_rfl)) rfl rfl)
            clear zu
            refine (show WE _ [(0, .agg #[.slice a A.length c]), (1, .slice a2 B.length c2), (2, .pointer (some ⟨g2, 0, none⟩)), (5, .pointer (some ⟨g10, 0, none⟩)), (6, .int .i64 ((addRes A B).2)), (7, .pointer (some ⟨g38, 0, none⟩)), (8, .int .i64 0), (9, .int .i64 (((q : Nat) : Int))), (10, .int .i64 (((q : Nat) : Int))), (11, .bool true), (26, .bool false), (28, .bool ((((addRes A B).2 : Int) != (0 : Int)))), (51, .bool (((!true) || false))), (56, .bool ((decide ((((q : Nat) : Int) : Int) < (((A.length : Nat) : Int) : Int)))))] w86 _ .normal from ?_) za (zh.sub ⟨rfl, rfl, rfl, rfl, rfl, rfl, rfl, rfl, rfl, rfl, rfl, rfl, rfl, rfl, trivial⟩)
            refine WE.next ?_
            refine WC.seq ?_
            refine WC.opt [(true, .val (.bool true)), (true, .val (.bool false)), (true, .val (.bool false)), ((true && !false), .val (.int .i64 (((q : Nat) : Int)))), ((true && !false), .val (.int .i64 (((q : Nat) : Int)))), ((true && !false), .val (.bool (((((q : Nat) : Int) : Int) != (((q : Nat) : Int) : Int))))), (true, .val (.bool (((((q : Nat) : Int) : Int) != (((q : Nat) : Int) : Int)))))] [(0, .agg #[.slice a A.length c]), (1, .slice a2 B.length c2), (2, .pointer (some ⟨g2, 0, none⟩)), (5, .pointer (some ⟨g10, 0, none⟩)), (6, .int .i64 ((addRes A B).2)), (7, .pointer (some ⟨g38, 0, none⟩)), (8, .int .i64 0), (9, .int .i64 (((q : Nat) : Int))), (10, .int .i64 (((q : Nat) : Int))), (11, .bool true), (26, .bool false), (28, .bool ((((addRes A B).2 : Int) != (0 : Int)))), (51, .bool (((!true) || false))), (56, .bool ((decide ((((q : Nat) : Int) : Int) < (((A.length : Nat) : Int) : Int)))))] ⟨rfl, rfl, rfl, rfl, rfl, rfl, rfl, rfl, rfl, rfl, rfl, rfl, rfl, rfl, trivial⟩ (by kernel_rfl) (by kernel_rfl) (by kernel_rfl) ?_ ?_
            · refine ⟨⟨true, .none rfl, fun h w => optUndef h, fun zβ za zw zc => ?_⟩, ?_⟩
              · exact wp_move rfl (zc.kn.ev rfl) ⟨_, rfl, Below.refl _ _, optDef zβ rfl⟩
              refine ⟨⟨true, .none rfl, fun h w => optUndef h, fun zβ za zw zc => ?_⟩, ?_⟩
              · exact wp_not rfl ((show za.eval (.tmp 69) = za.tmps.getD 69 undef from rfl).trans (optVal (zc.dep 0 69 (by kernel_rfl)) rfl rfl)) ⟨_, rfl, Below.refl _ _, optDef zβ rfl⟩
              refine ⟨⟨true, .none rfl, fun h w => optUndef h, fun zβ za zw zc => ?_⟩, ?_⟩
              · exact wp_move rfl ((show za.eval (.tmp 70) = za.tmps.getD 70 undef from rfl).trans (optVal (zc.dep 1 70 (by kernel_rfl)) rfl rfl)) ⟨_, rfl, Below.refl _ _, optDef zβ rfl⟩
              refine ⟨⟨(true && !false), .no (c := false) (d := true) rfl (fun v w h => h), fun h w => optUndef h, fun zβ za zw zc => ?_⟩, ?_⟩
              · exact wp_move rfl (zc.kn.ev rfl) ⟨_, rfl, Below.refl _ _, optDef zβ rfl⟩
              refine ⟨⟨(true && !false), .no (c := false) (d := true) rfl (fun v w h => h), fun h w => optUndef h, fun zβ za zw zc => ?_⟩, ?_⟩
              · exact wp_move rfl (zc.kn.ev rfl) ⟨_, rfl, Below.refl _ _, optDef zβ rfl⟩
              refine ⟨⟨(true && !false), .no (c := false) (d := true) rfl (fun v w h => h), fun h w => optUndef h, fun zβ za zw zc => ?_⟩, ?_⟩
              · exact neq_3 rfl ((show za.eval (.tmp 72) = za.tmps.getD 72 undef from rfl).trans (optVal (zc.dep 3 72 (by kernel_rfl)) rfl rfl)) ((show za.eval (.tmp 73) = za.tmps.getD 73 undef from rfl).trans (optVal (zc.dep 4 73 (by kernel_rfl)) rfl rfl)) ⟨_, rfl, Below.refl _ _, optDef zβ rfl⟩
              refine ⟨⟨true, .none rfl, fun h w => optUndef h, fun zβ za zw zc => ?_⟩, ?_⟩
              · exact wp_pickF rfl ((show za.eval (.tmp 71) = za.tmps.getD 71 undef from rfl).trans (optVal (zc.dep 2 71 (by kernel_rfl)) rfl rfl)) ((show za.eval (.tmp 74) = za.tmps.getD 74 undef from rfl).trans (optVal (zc.dep 5 74 (by kernel_rfl)) rfl rfl)) ⟨_, rfl, Below.refl _ _, optDef zβ rfl⟩
              exact trivial
            · intro za w88 zh hb89 zu
              have zh := zh.cons (d := 75) (v := .bool (((((q : Nat) : Int) : Int) != (((q : Nat) : Int) : Int)))) (optVal (zu 6 75 (by kernel_rfl)) rfl rfl)
              clear zu
              refine (show WE _ [(0, .agg #[.slice a A.length c]), (1, .slice a2 B.length c2), (2, .pointer (some ⟨g2, 0, none⟩)), (5, .pointer (some ⟨g10, 0, none⟩)), (6, .int .i64 ((addRes A B).2)), (7, .pointer (some ⟨g38, 0, none⟩)), (8, .int .i64 0), (9, .int .i64 (((q : Nat) : Int))), (10, .int .i64 (((q : Nat) : Int))), (11, .bool true), (26, .bool false), (28, .bool ((((addRes A B).2 : Int) != (0 : Int)))), (51, .bool (((!true) || false))), (56, .bool ((decide ((((q : Nat) : Int) : Int) < (((A.length : Nat) : Int) : Int))))), (75, .bool (((((q : Nat) : Int) : Int) != (((q : Nat) : Int) : Int))))] w88 _ .normal from ?_) za (zh.sub ⟨rfl, rfl, rfl, rfl, rfl, rfl, rfl, rfl, rfl, rfl, rfl, rfl, rfl, rfl, rfl, trivial⟩)
              refine WE.next ?_
              refine WC.condF rfl (by simp) ?_
              refine WC.skip ?_
              refine WE.blockNormal ?_
              refine WE.next ?_
              refine WC.region ?_
              refine WL.val (.int .i64 (((q : Nat) : Int))) rfl rfl rfl (fun za zC zh zk => wp_move rfl (zh.ev rfl) zk) ?_
              refine WL.val (.int .i64 ((((q + 1) : Nat) : Int))) rfl rfl rfl (fun za zC zh zk => addb_3 rfl (zh.ev rfl) (zh.ev rfl) (wrap_eq (by omega) (by omega) (by omega)) zk) ?_
              refine WL.val (.int .i64 ((((q + 1) : Nat) : Int))) rfl rfl rfl (fun za zC zh zk => wp_assign rfl (zh.ev rfl) zk) ?_
              refine WL.nil (WE.sub (K' := [(0, .agg #[.slice a A.length c]), (1, .slice a2 B.length c2), (2, .pointer (some ⟨g2, 0, none⟩)), (5, .pointer (some ⟨g10, 0, none⟩)), (6, .int .i64 ((addRes A B).2)), (7, .pointer (some ⟨g38, 0, none⟩)), (8, .int .i64 0), (9, .int .i64 ((((q + 1) : Nat) : Int))), (10, .int .i64 (((q : Nat) : Int))), (11, .bool true), (26, .bool false), (28, .bool ((((addRes A B).2 : Int) != (0 : Int)))), (51, .bool (((!true) || false))), (56, .bool ((decide ((((q : Nat) : Int) : Int) < (((A.length : Nat) : Int) : Int))))), (75, .bool (((((q : Nat) : Int) : Int) != (((q : Nat) : Int) : Int))))]) ⟨rfl, rfl, rfl, rfl, rfl, rfl, rfl, rfl, rfl, rfl, rfl, rfl, rfl, rfl, rfl, trivial⟩ ?_)
              refine WE.round (q + 1) ⟨rfl, rfl, rfl, rfl, rfl, rfl, rfl, rfl, rfl, rfl, rfl, trivial⟩ ?_ ?_
              · have hb90 : Below w.heap.size w w88 := (bstep (bstep hb75 hb87) hb89)
                have hb91 : Below w8.heap.size w8 w88 := (bstep (bstep hb76 hb87) hb89)
                have hb92 : Below w36.heap.size w36 w88 := (bstep (bstep hb77 hb87) hb89)
                have hb94 : Below w68.heap.size w68 w88 := (bstep hb87 hb89)
                have hB93 := hB78.below hb94
                have hB95 := hB79.below hb94
                have hB96 := hB80.below hb94
                exact ⟨by omega, hb90, hb91, hb92, hB93, hB95, hB96⟩
              · omega
        · have h81 : ¬ ((((q : Nat) : Int) : Int) < (((A.length : Nat) : Int) : Int)) := by simpa using h81
          refine WC.exit ?_
          refine WE.thenExit ?_
          refine WE.thenExit ?_
          refine WE.blockIs rfl ?_
          refine WE.next ?_
          refine WC.seq ?_
          refine WC.seq ?_
          refine WC.region ?_
          refine WL.val (.int .i64 0) rfl rfl rfl (fun za zC zh zk => wp_assign rfl (zh.ev rfl) zk) ?_
          refine WL.nil (WE.sub (K' := [(0, .agg #[.slice a A.length c]), (1, .slice a2 B.length c2), (2, .pointer (some ⟨g2, 0, none⟩)), (5, .pointer (some ⟨g10, 0, none⟩)), (6, .int .i64 ((addRes A B).2)), (7, .pointer (some ⟨g38, 0, none⟩)), (8, .int .i64 0), (9, .int .i64 (((q : Nat) : Int))), (12, .int .i64 0), (26, .bool false), (28, .bool ((((addRes A B).2 : Int) != (0 : Int)))), (51, .bool (((!true) || false))), (56, .bool ((decide ((((q : Nat) : Int) : Int) < (((A.length : Nat) : Int) : Int)))))]) ⟨rfl, rfl, rfl, rfl, rfl, rfl, rfl, rfl, rfl, rfl, rfl, rfl, rfl, trivial⟩ ?_)
          refine WE.next ?_
          refine WC.block ?_
          refine WC.loop (X := Nat) (fun k => B.length - k) (fun k => [(0, .agg #[.slice a A.length c]), (1, .slice a2 B.length c2), (2, .pointer (some ⟨g2, 0, none⟩)), (5, .pointer (some ⟨g10, 0, none⟩)), (6, .int .i64 ((addRes A B).2)), (7, .pointer (some ⟨g38, 0, none⟩)), (8, .int .i64 0), (9, .int .i64 (((q : Nat) : Int))), (12, .int .i64 (((k : Nat) : Int))), (26, .bool false), (28, .bool ((((addRes A B).2 : Int) != (0 : Int)))), (51, .bool (((!true) || false))), (56, .bool ((decide ((((q : Nat) : Int) : Int) < (((A.length : Nat) : Int) : Int)))))]) (fun k w97 => k ≤ B.length ∧ Below w.heap.size w w97 ∧ Below w8.heap.size w8 w97 ∧ Below w36.heap.size w36 w97 ∧ Blk w97 g2 24 #[.slice a A.length c] ∧ Blk w97 g10 24 #[.slice as1 ns1 cs1] ∧ Blk w97 g38 24 #[.slice as2 ns2 cs2]) 0 ⟨rfl, rfl, rfl, rfl, rfl, rfl, rfl, rfl, rfl, rfl, rfl, rfl, rfl, trivial⟩ ?_ ?_
          · exact ⟨Nat.zero_le _, hb75, hb76, hb77, hB78, hB79, hB80⟩
          · rintro k w97 ⟨hk, hb98, hb99, hb100, hB101, hB102, hB103⟩
            refine WC.seq ?_
            refine WC.seq ?_
            refine WC.region ?_
            refine WL.val (.int .i64 (((k : Nat) : Int))) rfl rfl rfl (fun za zC zh zk => wp_move rfl (zh.ev rfl) zk) ?_
            refine WL.val (.slice a2 B.length c2) rfl rfl rfl (fun za zC zh zk => wp_move rfl (zh.ev rfl) zk) ?_
            refine WL.val (.int .i64 (((B.length : Nat) : Int))) rfl rfl rfl (fun za zC zh zk => len_22 rfl (zh.ev rfl) zk) ?_
            refine WL.val (.bool ((decide ((((k : Nat) : Int) : Int) < (((B.length : Nat) : Int) : Int))))) rfl rfl rfl (fun za zC zh zk => lss_3 rfl (zh.ev rfl) (zh.ev rfl) zk) ?_
            refine WL.nil (WE.sub (K' := [(0, .agg #[.slice a A.length c]), (1, .slice a2 B.length c2), (2, .pointer (some ⟨g2, 0, none⟩)), (5, .pointer (some ⟨g10, 0, none⟩)), (6, .int .i64 ((addRes A B).2)), (7, .pointer (some ⟨g38, 0, none⟩)), (8, .int .i64 0), (9, .int .i64 (((q : Nat) : Int))), (12, .int .i64 (((k : Nat) : Int))), (26, .bool false), (28, .bool ((((addRes A B).2 : Int) != (0 : Int)))), (51, .bool (((!true) || false))), (56, .bool ((decide ((((q : Nat) : Int) : Int) < (((A.length : Nat) : Int) : Int))))), (79, .bool ((decide ((((k : Nat) : Int) : Int) < (((B.length : Nat) : Int) : Int)))))]) ⟨rfl, rfl, rfl, rfl, rfl, rfl, rfl, rfl, rfl, rfl, rfl, rfl, rfl, rfl, trivial⟩ ?_)
            refine WE.next ?_
            refine WC.cond rfl (fun h104 => ?_) (fun h104 => ?_)
            · have h104 : (((k : Nat) : Int) : Int) < (((B.length : Nat) : Int) : Int) := by simpa using h104
              have hkB : k < B.length := by omega
              refine WC.skip ?_
              refine WE.next ?_
              refine WC.seq ?_
              refine WC.block ?_
              refine WC.seq ?_
              obtain ⟨b105, o106, ha107, hc108⟩ := IsSys.open hl2
              refine WC.opt [(true, .val (.agg #[.slice as1 ns1 cs1])), (true, .val (.slice a2 B.length c2)), (true, .val (.int .i64 (((k : Nat) : Int)))), (true, .val (.pointer (some ⟨b105, o106 + k * 3, none⟩))), (true, .val (.agg #[.string ((sget B k).name), .int .i64 ((sget B k).ar), .bool ((sget B k).pred)])), (true, .val (.tuple #[.int .i64 ((max (syAt (sget B k) (addRes A B).1 0) 0)), .bool true])), (true, .val (.tuple #[.int .i64 ((max (syAt (sget B k) (addRes A B).1 0) 0)), .bool true])), (true, .val (.int .i64 ((max (syAt (sget B k) (addRes A B).1 0) 0)))), (true, .val (.bool true)), (true, .val (.int .i64 ((max (syAt (sget B k) (addRes A B).1 0) 0)))), (true, .val (.bool true))] [(0, .agg #[.slice a A.length c]), (1, .slice a2 B.length c2), (2, .pointer (some ⟨g2, 0, none⟩)), (5, .pointer (some ⟨g10, 0, none⟩)), (6, .int .i64 ((addRes A B).2)), (7, .pointer (some ⟨g38, 0, none⟩)), (8, .int .i64 0), (9, .int .i64 (((q : Nat) : Int))), (12, .int .i64 (((k : Nat) : Int))), (26, .bool false), (28, .bool ((((addRes A B).2 : Int) != (0 : Int)))), (51, .bool (((!true) || false))), (56, .bool ((decide ((((q : Nat) : Int) : Int) < (((A.length : Nat) : Int) : Int))))), (79, .bool ((decide ((((k : Nat) : Int) : Int) < (((B.length : Nat) : Int) : Int)))))] ⟨rfl, rfl, rfl, rfl, rfl, rfl, rfl, rfl, rfl, rfl, rfl, rfl, rfl, rfl, trivial⟩ (by kernel_rfl) (by kernel_rfl) (by kernel_rfl) ?_ ?_
              · refine ⟨⟨true, .none rfl, fun h w => optUndef h, fun zβ za zw zc => ?_⟩, ?_⟩
                · exact ld_24 rfl (zc.kn.ev rfl) (bkeeps zc.below _ _ ((hB102.cell 0).trans rfl)) ⟨_, rfl, Below.refl _ _, optDef zβ rfl⟩
                refine ⟨⟨true, .none rfl, fun h w => optUndef h, fun zβ za zw zc => ?_⟩, ?_⟩
                · exact wp_move rfl (zc.kn.ev rfl) ⟨_, rfl, Below.refl _ _, optDef zβ rfl⟩
                refine ⟨⟨true, .none rfl, fun h w => optUndef h, fun zβ za zw zc => ?_⟩, ?_⟩
                · exact wp_move rfl (zc.kn.ev rfl) ⟨_, rfl, Below.refl _ _, optDef zβ rfl⟩
                refine ⟨⟨true, .none rfl, fun h w => optUndef h, fun zβ za zw zc => ?_⟩, ?_⟩
                · exact ix_22 (k := k) rfl ((show za.eval (.tmp 84) = za.tmps.getD 84 undef from rfl).trans (optVal (zc.dep 1 84 (by kernel_rfl)) rfl rfl)) (ha107 k (by first | omega | (simp; omega))) ((show za.eval (.tmp 85) = za.tmps.getD 85 undef from rfl).trans (optVal (zc.dep 2 85 (by kernel_rfl)) rfl rfl)) (by first | omega | (simp; omega)) ⟨_, rfl, Below.refl _ _, optDef zβ rfl⟩
                refine ⟨⟨true, .none rfl, fun h w => optUndef h, fun zβ za zw zc => ?_⟩, ?_⟩
                · exact ld_26 rfl ((show za.eval (.tmp 86) = za.tmps.getD 86 undef from rfl).trans (optVal (zc.dep 3 86 (by kernel_rfl)) rfl rfl)) (bkeeps (bstep hb98 zc.below) _ _ (hc108 k (by first | omega | (simp; omega))).1) (bkeeps (bstep hb98 zc.below) _ _ (hc108 k (by first | omega | (simp; omega))).2.1) (bkeeps (bstep hb98 zc.below) _ _ (hc108 k (by first | omega | (simp; omega))).2.2) ⟨_, rfl, Below.refl _ _, optDef zβ rfl⟩
                refine ⟨⟨true, .none rfl, fun h w => optUndef h, fun zβ za zw zc => ?_⟩, ?_⟩
                · exact wp_call (by kernel_rfl) rfl (hv2 ((show za.eval (.tmp 83) = za.tmps.getD 83 undef from rfl).trans (optVal (zc.dep 0 83 (by kernel_rfl)) rfl rfl)) ((show za.eval (.tmp 87) = za.tmps.getD 87 undef from rfl).trans (optVal (zc.dep 4 87 (by kernel_rfl)) rfl rfl))) (find_has hk0 k hkB _ _ (IsSig.below (bstep hb99 zc.below) hS1)) (fun v w' h => ⟨v, rfl, h.2, optDef zβ h.1⟩)
                refine ⟨⟨true, .none rfl, fun h w => optUndef h, fun zβ za zw zc => ?_⟩, ?_⟩
                · exact wp_move rfl ((show za.eval (.tmp 88) = za.tmps.getD 88 undef from rfl).trans (optVal (zc.dep 5 88 (by kernel_rfl)) rfl rfl)) ⟨_, rfl, Below.refl _ _, optDef zβ rfl⟩
                refine ⟨⟨true, .none rfl, fun h w => optUndef h, fun zβ za zw zc => ?_⟩, ?_⟩
                · exact ext2_0 rfl ((show za.eval (.tmp 82) = za.tmps.getD 82 undef from rfl).trans (optVal (zc.dep 6 82 (by kernel_rfl)) rfl rfl)) ⟨_, rfl, Below.refl _ _, optDef zβ rfl⟩
                refine ⟨⟨true, .none rfl, fun h w => optUndef h, fun zβ za zw zc => ?_⟩, ?_⟩
                · exact ext2_1 rfl ((show za.eval (.tmp 82) = za.tmps.getD 82 undef from rfl).trans (optVal (zc.dep 6 82 (by kernel_rfl)) rfl rfl)) ⟨_, rfl, Below.refl _ _, optDef zβ rfl⟩
                refine ⟨⟨true, .none rfl, fun h w => optUndef h, fun zβ za zw zc => ?_⟩, ?_⟩
                · exact wp_assign rfl ((show za.eval (.tmp 89) = za.tmps.getD 89 undef from rfl).trans (optVal (zc.dep 7 89 (by kernel_rfl)) rfl rfl)) ⟨_, rfl, Below.refl _ _, optDef zβ rfl⟩
                refine ⟨⟨true, .none rfl, fun h w => optUndef h, fun zβ za zw zc => ?_⟩, ?_⟩
                · exact wp_assign rfl ((show za.eval (.tmp 90) = za.tmps.getD 90 undef from rfl).trans (optVal (zc.dep 8 90 (by kernel_rfl)) rfl rfl)) ⟨_, rfl, Below.refl _ _, optDef zβ rfl⟩
                exact trivial
              · intro za w109 zh hb110 zu
                have zh := zh.cons (d := 14) (v := .bool true) (optVal (zu 10 14 (by kernel_rfl)) rfl rfl)
                clear zu
                refine (show WE _ [(0, .agg #[.slice a A.length c]), (1, .slice a2 B.length c2), (2, .pointer (some ⟨g2, 0, none⟩)), (5, .pointer (some ⟨g10, 0, none⟩)), (6, .int .i64 ((addRes A B).2)), (7, .pointer (some ⟨g38, 0, none⟩)), (8, .int .i64 0), (9, .int .i64 (((q : Nat) : Int))), (12, .int .i64 (((k : Nat) : Int))), (14, .bool true), (26, .bool false), (28, .bool ((((addRes A B).2 : Int) != (0 : Int)))), (51, .bool (((!true) || false))), (56, .bool ((decide ((((q : Nat) : Int) : Int) < (((A.length : Nat) : Int) : Int))))), (79, .bool ((decide ((((k : Nat) : Int) : Int) < (((B.length : Nat) : Int) : Int)))))] w109 _ .normal from ?_) za (zh.sub ⟨rfl, rfl, rfl, rfl, rfl, rfl, rfl, rfl, rfl, rfl, rfl, rfl, rfl, rfl, rfl, trivial⟩)
                refine WE.next ?_
                refine WC.seq ?_
                have hB111 := hB102.below hb110
                have hb112 : Below w.heap.size w w109 := (bstep hb98 hb110)
                have hb113 : Below w8.heap.size w8 w109 := (bstep hb99 hb110)
                refine WC.box1 (fun _ v => v = .agg #[.slice as1 ns1 cs1]) (fun _ _ _ _ h => h) [(true, undef), (true, .slice a2 B.length c2), (true, .int .i64 (((k : Nat) : Int))), (true, .pointer (some ⟨b105, o106 + k * 3, none⟩)), (true, .pointer (some ⟨b105, o106 + k * 3, none⟩)), (true, .string ((sget B k).name)), (true, .slice a2 B.length c2), (true, .int .i64 (((k : Nat) : Int))), (true, .pointer (some ⟨b105, o106 + k * 3, none⟩)), (true, .pointer (some ⟨b105, o106 + k * 3 + 1, none⟩)), (true, .int .i64 ((sget B k).ar)), (true, .slice a2 B.length c2), (true, .int .i64 (((k : Nat) : Int))), (true, .pointer (some ⟨b105, o106 + k * 3, none⟩)), (true, .pointer (some ⟨b105, o106 + k * 3 + 2, none⟩)), (true, .bool ((sget B k).pred)), (true, .tuple #[.agg #[.string ((freshRes (addRes A B).1 (sget B k)).1.name), .int .i64 ((freshRes (addRes A B).1 (sget B k)).1.ar), .bool ((freshRes (addRes A B).1 (sget B k)).1.pred)], .int .i64 ((freshRes (addRes A B).1 (sget B k)).2)]), (true, .tuple #[.agg #[.string ((freshRes (addRes A B).1 (sget B k)).1.name), .int .i64 ((freshRes (addRes A B).1 (sget B k)).1.ar), .bool ((freshRes (addRes A B).1 (sget B k)).1.pred)], .int .i64 ((freshRes (addRes A B).1 (sget B k)).2)]), (true, .agg #[.string ((freshRes (addRes A B).1 (sget B k)).1.name), .int .i64 ((freshRes (addRes A B).1 (sget B k)).1.ar), .bool ((freshRes (addRes A B).1 (sget B k)).1.pred)]), (true, .int .i64 ((freshRes (addRes A B).1 (sget B k)).2)), (true, undef), (true, undef), (true, .int .i64 ((freshRes (addRes A B).1 (sget B k)).2))] [(0, .agg #[.slice a A.length c]), (1, .slice a2 B.length c2), (2, .pointer (some ⟨g2, 0, none⟩)), (5, .pointer (some ⟨g10, 0, none⟩)), (6, .int .i64 ((addRes A B).2)), (7, .pointer (some ⟨g38, 0, none⟩)), (8, .int .i64 0), (9, .int .i64 (((q : Nat) : Int))), (12, .int .i64 (((k : Nat) : Int))), (14, .bool true), (26, .bool false), (28, .bool ((((addRes A B).2 : Int) != (0 : Int)))), (51, .bool (((!true) || false))), (56, .bool ((decide ((((q : Nat) : Int) : Int) < (((A.length : Nat) : Int) : Int))))), (79, .bool ((decide ((((k : Nat) : Int) : Int) < (((B.length : Nat) : Int) : Int)))))] (t := 26) (z := #[.string (⟨#[]⟩), .int .i64 0, .bool false]) (.agg #[.string ((freshRes (addRes A B).1 (sget B k)).1.name), .int .i64 ((freshRes (addRes A B).1 (sget B k)).1.ar), .bool ((freshRes (addRes A B).1 (sget B k)).1.pred)]) 0 20 21 15 (by decide) (by kernel_rfl) rfl ⟨rfl, rfl, rfl, rfl, rfl, rfl, rfl, rfl, rfl, rfl, rfl, rfl, rfl, rfl, rfl, trivial⟩ (by kernel_rfl) (by kernel_rfl) (by kernel_rfl) ?_ ?_
                · refine ⟨.inr (.inl ⟨rfl, rfl, fun za zw zc => ?_⟩), ?_⟩
                  · exact ld_24 rfl (zc.kn.ev rfl) (bkeeps zc.below _ _ ((hB111.cell 0).trans rfl)) ⟨_, rfl, Below.refl _ _, rfl⟩
                  refine ⟨.inl ⟨rfl, rfl, fun za zw zc => ?_⟩, ?_⟩
                  · exact wp_move rfl (zc.kn.ev rfl) ⟨_, rfl, Below.refl _ _, fun _ => rfl⟩
                  refine ⟨.inl ⟨rfl, rfl, fun za zw zc => ?_⟩, ?_⟩
                  · exact wp_move rfl (zc.kn.ev rfl) ⟨_, rfl, Below.refl _ _, fun _ => rfl⟩
                  refine ⟨.inl ⟨rfl, rfl, fun za zw zc => ?_⟩, ?_⟩
                  · exact ix_22 (k := k) rfl ((show za.eval (.tmp 93) = za.tmps.getD 93 undef from rfl).trans (valVal1 (zc.dep 1 93 (by kernel_rfl) (by decide)) rfl rfl)) (ha107 k (by first | omega | (simp; omega))) ((show za.eval (.tmp 94) = za.tmps.getD 94 undef from rfl).trans (valVal1 (zc.dep 2 94 (by kernel_rfl) (by decide)) rfl rfl)) (by first | omega | (simp; omega)) ⟨_, rfl, Below.refl _ _, fun _ => rfl⟩
                  refine ⟨.inl ⟨rfl, rfl, fun za zw zc => ?_⟩, ?_⟩
                  · exact fld_26_0 rfl ((show za.eval (.tmp 95) = za.tmps.getD 95 undef from rfl).trans (valVal1 (zc.dep 3 95 (by kernel_rfl) (by decide)) rfl rfl)) ⟨_, rfl, Below.refl _ _, fun _ => rfl⟩
                  refine ⟨.inl ⟨rfl, rfl, fun za zw zc => ?_⟩, ?_⟩
                  · exact ld_9 rfl ((show za.eval (.tmp 96) = za.tmps.getD 96 undef from rfl).trans (valVal1 (zc.dep 4 96 (by kernel_rfl) (by decide)) rfl rfl)) (bkeeps (bstep hb112 zc.below) _ _ (hc108 k (by first | omega | (simp; omega))).1) ⟨_, rfl, Below.refl _ _, fun _ => rfl⟩
                  refine ⟨.inl ⟨rfl, rfl, fun za zw zc => ?_⟩, ?_⟩
                  · exact wp_move rfl (zc.kn.ev rfl) ⟨_, rfl, Below.refl _ _, fun _ => rfl⟩
                  refine ⟨.inl ⟨rfl, rfl, fun za zw zc => ?_⟩, ?_⟩
                  · exact wp_move rfl (zc.kn.ev rfl) ⟨_, rfl, Below.refl _ _, fun _ => rfl⟩
                  refine ⟨.inl ⟨rfl, rfl, fun za zw zc => ?_⟩, ?_⟩
                  · exact ix_22 (k := k) rfl ((show za.eval (.tmp 98) = za.tmps.getD 98 undef from rfl).trans (valVal1 (zc.dep 6 98 (by kernel_rfl) (by decide)) rfl rfl)) (ha107 k (by first | omega | (simp; omega))) ((show za.eval (.tmp 99) = za.tmps.getD 99 undef from rfl).trans (valVal1 (zc.dep 7 99 (by kernel_rfl) (by decide)) rfl rfl)) (by first | omega | (simp; omega)) ⟨_, rfl, Below.refl _ _, fun _ => rfl⟩
                  refine ⟨.inl ⟨rfl, rfl, fun za zw zc => ?_⟩, ?_⟩
                  · exact fld_26_1 rfl ((show za.eval (.tmp 100) = za.tmps.getD 100 undef from rfl).trans (valVal1 (zc.dep 8 100 (by kernel_rfl) (by decide)) rfl rfl)) ⟨_, rfl, Below.refl _ _, fun _ => rfl⟩
                  refine ⟨.inl ⟨rfl, rfl, fun za zw zc => ?_⟩, ?_⟩
                  · exact ld_3 rfl ((show za.eval (.tmp 101) = za.tmps.getD 101 undef from rfl).trans (valVal1 (zc.dep 9 101 (by kernel_rfl) (by decide)) rfl rfl)) (bkeeps (bstep hb112 zc.below) _ _ (hc108 k (by first | omega | (simp; omega))).2.1) ⟨_, rfl, Below.refl _ _, fun _ => rfl⟩
                  refine ⟨.inl ⟨rfl, rfl, fun za zw zc => ?_⟩, ?_⟩
                  · exact wp_move rfl (zc.kn.ev rfl) ⟨_, rfl, Below.refl _ _, fun _ => rfl⟩
                  refine ⟨.inl ⟨rfl, rfl, fun za zw zc => ?_⟩, ?_⟩
                  · exact wp_move rfl (zc.kn.ev rfl) ⟨_, rfl, Below.refl _ _, fun _ => rfl⟩
                  refine ⟨.inl ⟨rfl, rfl, fun za zw zc => ?_⟩, ?_⟩
                  · exact ix_22 (k := k) rfl ((show za.eval (.tmp 103) = za.tmps.getD 103 undef from rfl).trans (valVal1 (zc.dep 11 103 (by kernel_rfl) (by decide)) rfl rfl)) (ha107 k (by first | omega | (simp; omega))) ((show za.eval (.tmp 104) = za.tmps.getD 104 undef from rfl).trans (valVal1 (zc.dep 12 104 (by kernel_rfl) (by decide)) rfl rfl)) (by first | omega | (simp; omega)) ⟨_, rfl, Below.refl _ _, fun _ => rfl⟩
                  refine ⟨.inl ⟨rfl, rfl, fun za zw zc => ?_⟩, ?_⟩
                  · exact fld_26_2 rfl ((show za.eval (.tmp 105) = za.tmps.getD 105 undef from rfl).trans (valVal1 (zc.dep 13 105 (by kernel_rfl) (by decide)) rfl rfl)) ⟨_, rfl, Below.refl _ _, fun _ => rfl⟩
                  refine ⟨.inl ⟨rfl, rfl, fun za zw zc => ?_⟩, ?_⟩
                  · exact ld_4 rfl ((show za.eval (.tmp 106) = za.tmps.getD 106 undef from rfl).trans (valVal1 (zc.dep 14 106 (by kernel_rfl) (by decide)) rfl rfl)) (bkeeps (bstep hb112 zc.below) _ _ (hc108 k (by first | omega | (simp; omega))).2.2) ⟨_, rfl, Below.refl _ _, fun _ => rfl⟩
                  refine ⟨.inl ⟨rfl, rfl, fun za zw zc => ?_⟩, ?_⟩
                  · exact wp_call (by kernel_rfl) rfl (hv4 ((show za.eval (.tmp 92) = za.tmps.getD 92 undef from rfl).trans (zc.made 92 (by kernel_rfl) (by kernel_rfl))) ((show za.eval (.tmp 97) = za.tmps.getD 97 undef from rfl).trans (valVal1 (zc.dep 5 97 (by kernel_rfl) (by decide)) rfl rfl)) ((show za.eval (.tmp 102) = za.tmps.getD 102 undef from rfl).trans (valVal1 (zc.dep 10 102 (by kernel_rfl) (by decide)) rfl rfl)) ((show za.eval (.tmp 107) = za.tmps.getD 107 undef from rfl).trans (valVal1 (zc.dep 15 107 (by kernel_rfl) (by decide)) rfl rfl))) (fresh_at_v k (fun x hx => hwB x hx) hkB _ _ (IsSig.below (bstep hb113 zc.below) hS1)) (fun v w' h => ⟨v, rfl, h.2, fun _ => h.1⟩)
                  refine ⟨.inl ⟨rfl, rfl, fun za zw zc => ?_⟩, ?_⟩
                  · exact wp_move rfl ((show za.eval (.tmp 108) = za.tmps.getD 108 undef from rfl).trans (valVal1 (zc.dep 16 108 (by kernel_rfl) (by decide)) rfl rfl)) ⟨_, rfl, Below.refl _ _, fun _ => rfl⟩
                  refine ⟨.inl ⟨rfl, rfl, fun za zw zc => ?_⟩, ?_⟩
                  · exact ext2_0 rfl ((show za.eval (.tmp 91) = za.tmps.getD 91 undef from rfl).trans (valVal1 (zc.dep 17 91 (by kernel_rfl) (by decide)) rfl rfl)) ⟨_, rfl, Below.refl _ _, fun _ => rfl⟩
                  refine ⟨.inl ⟨rfl, rfl, fun za zw zc => ?_⟩, ?_⟩
                  · exact ext2_1 rfl ((show za.eval (.tmp 91) = za.tmps.getD 91 undef from rfl).trans (valVal1 (zc.dep 17 91 (by kernel_rfl) (by decide)) rfl rfl)) ⟨_, rfl, Below.refl _ _, fun _ => rfl⟩
                  refine ⟨.inr (.inr (.inl ⟨rfl, rfl, fun za zw zc => ?_⟩)), ?_⟩
                  · exact alloc_26 rfl ⟨rfl, rfl⟩
                  refine ⟨.inr (.inr (.inr ⟨rfl, rfl, 15, by kernel_rfl, fun za zw g zc z1 zB => ?_⟩)), ?_⟩
                  · exact st_26 rfl ((show za.eval (.tmp 15) = za.tmps.getD 15 undef from rfl).trans z1) ((show za.eval (.tmp 109) = za.tmps.getD 109 undef from rfl).trans (valVal1 (zc.dep 18 109 (by kernel_rfl) (by decide)) rfl rfl)) rfl rfl rfl zB (by first | decide | simp) (fun v => ⟨v, rfl, ((Upd.at_ _ _ _ _).trans (Upd.at_ _ _ _ _)).trans (Upd.at_ _ _ _ _), ((zB.set_ 0 _).set_ 1 _).set_ 2 _⟩)
                  refine ⟨.inl ⟨rfl, rfl, fun za zw zc => ?_⟩, ?_⟩
                  · exact wp_assign rfl ((show za.eval (.tmp 110) = za.tmps.getD 110 undef from rfl).trans (valVal1 (zc.dep 19 110 (by kernel_rfl) (by decide)) rfl rfl)) ⟨_, rfl, Below.refl _ _, fun _ => rfl⟩
                  exact trivial
                · intro za w114 g115 zh hb116 hg117 hB118 hp119 zu
                  have hl120 : g2 < g115 := by have z1 := hB101.lt; have z2 := (hb110).size; omega
                  have hl121 : g10 < g115 := by have z1 := hB111.lt; omega
                  have hl122 : g38 < g115 := by have z1 := hB103.lt; have z2 := (hb110).size; omega
                  have zh := zh.cons (d := 15) hp119
                  have zh := zh.cons (d := 16) (v := .int .i64 ((freshRes (addRes A B).1 (sget B k)).2)) (valVal1 (zu 22 16 (by kernel_rfl) (by decide)) rfl rfl)
                  clear zu
                  refine (show WE _ [(0, .agg #[.slice a A.length c]), (1, .slice a2 B.length c2), (2, .pointer (some ⟨g2, 0, none⟩)), (5, .pointer (some ⟨g10, 0, none⟩)), (6, .int .i64 ((addRes A B).2)), (7, .pointer (some ⟨g38, 0, none⟩)), (8, .int .i64 0), (9, .int .i64 (((q : Nat) : Int))), (12, .int .i64 (((k : Nat) : Int))), (14, .bool true), (15, .pointer (some ⟨g115, 0, none⟩)), (16, .int .i64 ((freshRes (addRes A B).1 (sget B k)).2)), (26, .bool false), (28, .bool ((((addRes A B).2 : Int) != (0 : Int)))), (51, .bool (((!true) || false))), (56, .bool ((decide ((((q : Nat) : Int) : Int) < (((A.length : Nat) : Int) : Int))))), (79, .bool ((decide ((((k : Nat) : Int) : Int) < (((B.length : Nat) : Int) : Int)))))] w114 _ .normal from ?_) za (zh.sub ⟨rfl, rfl, rfl, rfl, rfl, rfl, rfl, rfl, rfl, rfl, rfl, rfl, rfl, rfl, rfl, rfl, rfl, trivial⟩)
                  refine WE.next ?_
                  refine WC.seq ?_
                  refine WC.seq ?_
                  refine WC.opt [(true, .val (.bool true)), (true, .val (.bool false)), (true, .val (.bool false)), ((true && !false), .val (.int .i64 ((freshRes (addRes A B).1 (sget B k)).2))), ((true && !false), .val (.bool ((((freshRes (addRes A B).1 (sget B k)).2 : Int) != (0 : Int))))), ((true && !false), .val (.bool ((((freshRes (addRes A B).1 (sget B k)).2 : Int) != (0 : Int))))), (((true && !false) && (((freshRes (addRes A B).1 (sget B k)).2 : Int) != (0 : Int))), .val (.int .i64 ((freshRes (addRes A B).1 (sget B k)).2))), (((true && !false) && (((freshRes (addRes A B).1 (sget B k)).2 : Int) != (0 : Int))), .val (.bool ((((freshRes (addRes A B).1 (sget B k)).2 : Int) != (111 : Int))))), ((true && !false), .val (.bool (((((freshRes (addRes A B).1 (sget B k)).2 : Int) != (0 : Int)) && (((freshRes (addRes A B).1 (sget B k)).2 : Int) != (111 : Int)))))), (true, .val (.bool (((((freshRes (addRes A B).1 (sget B k)).2 : Int) != (0 : Int)) && (((freshRes (addRes A B).1 (sget B k)).2 : Int) != (111 : Int))))))] [(0, .agg #[.slice a A.length c]), (1, .slice a2 B.length c2), (2, .pointer (some ⟨g2, 0, none⟩)), (5, .pointer (some ⟨g10, 0, none⟩)), (6, .int .i64 ((addRes A B).2)), (7, .pointer (some ⟨g38, 0, none⟩)), (8, .int .i64 0), (9, .int .i64 (((q : Nat) : Int))), (12, .int .i64 (((k : Nat) : Int))), (14, .bool true), (15, .pointer (some ⟨g115, 0, none⟩)), (16, .int .i64 ((freshRes (addRes A B).1 (sget B k)).2)), (26, .bool false), (28, .bool ((((addRes A B).2 : Int) != (0 : Int)))), (51, .bool (((!true) || false))), (56, .bool ((decide ((((q : Nat) : Int) : Int) < (((A.length : Nat) : Int) : Int))))), (79, .bool ((decide ((((k : Nat) : Int) : Int) < (((B.length : Nat) : Int) : Int)))))] ⟨rfl, rfl, rfl, rfl, rfl, rfl, rfl, rfl, rfl, rfl, rfl, rfl, rfl, rfl, rfl, rfl, rfl, trivial⟩ (by kernel_rfl) (by kernel_rfl) (by kernel_rfl) ?_ ?_
                  · refine ⟨⟨true, .none rfl, fun h w => optUndef h, fun zβ za zw zc => ?_⟩, ?_⟩
                    · exact wp_move rfl (zc.kn.ev rfl) ⟨_, rfl, Below.refl _ _, optDef zβ rfl⟩
                    refine ⟨⟨true, .none rfl, fun h w => optUndef h, fun zβ za zw zc => ?_⟩, ?_⟩
                    · exact wp_not rfl ((show za.eval (.tmp 111) = za.tmps.getD 111 undef from rfl).trans (optVal (zc.dep 0 111 (by kernel_rfl)) rfl rfl)) ⟨_, rfl, Below.refl _ _, optDef zβ rfl⟩
                    refine ⟨⟨true, .none rfl, fun h w => optUndef h, fun zβ za zw zc => ?_⟩, ?_⟩
                    · exact wp_move rfl ((show za.eval (.tmp 112) = za.tmps.getD 112 undef from rfl).trans (optVal (zc.dep 1 112 (by kernel_rfl)) rfl rfl)) ⟨_, rfl, Below.refl _ _, optDef zβ rfl⟩
                    refine ⟨⟨(true && !false), .no (c := false) (d := true) rfl (fun v w h => h), fun h w => optUndef h, fun zβ za zw zc => ?_⟩, ?_⟩
                    · exact wp_move rfl (zc.kn.ev rfl) ⟨_, rfl, Below.refl _ _, optDef zβ rfl⟩
                    refine ⟨⟨(true && !false), .no (c := false) (d := true) rfl (fun v w h => h), fun h w => optUndef h, fun zβ za zw zc => ?_⟩, ?_⟩
                    · exact neq_27 rfl ((show za.eval (.tmp 114) = za.tmps.getD 114 undef from rfl).trans (optVal (zc.dep 3 114 (by kernel_rfl)) rfl rfl)) (zc.kn.ev rfl) ⟨_, rfl, Below.refl _ _, optDef zβ rfl⟩
                    refine ⟨⟨(true && !false), .no (c := false) (d := true) rfl (fun v w h => h), fun h w => optUndef h, fun zβ za zw zc => ?_⟩, ?_⟩
                    · exact wp_move rfl ((show za.eval (.tmp 115) = za.tmps.getD 115 undef from rfl).trans (optVal (zc.dep 4 115 (by kernel_rfl)) rfl rfl)) ⟨_, rfl, Below.refl _ _, optDef zβ rfl⟩
                    refine ⟨⟨((true && !false) && (((freshRes (addRes A B).1 (sget B k)).2 : Int) != (0 : Int))), .yes (c := (((freshRes (addRes A B).1 (sget B k)).2 : Int) != (0 : Int))) (d := (true && !false)) rfl (fun v w h => h), fun h w => optUndef h, fun zβ za zw zc => ?_⟩, ?_⟩
                    · exact wp_move rfl (zc.kn.ev rfl) ⟨_, rfl, Below.refl _ _, optDef zβ rfl⟩
                    refine ⟨⟨((true && !false) && (((freshRes (addRes A B).1 (sget B k)).2 : Int) != (0 : Int))), .yes (c := (((freshRes (addRes A B).1 (sget B k)).2 : Int) != (0 : Int))) (d := (true && !false)) rfl (fun v w h => h), fun h w => optUndef h, fun zβ za zw zc => ?_⟩, ?_⟩
                    · exact neq_27 rfl ((show za.eval (.tmp 117) = za.tmps.getD 117 undef from rfl).trans (optVal (zc.dep 6 117 (by kernel_rfl)) rfl zβ)) (zc.kn.ev rfl) ⟨_, rfl, Below.refl _ _, optDef zβ rfl⟩
                    refine ⟨⟨(true && !false), .no (c := false) (d := true) rfl (fun v w h => h), fun h w => optUndef h, fun zβ za zw zc => ?_⟩, ?_⟩
                    · exact wp_and rfl ((show za.eval (.tmp 116) = za.tmps.getD 116 undef from rfl).trans (optVal (zc.dep 5 116 (by kernel_rfl)) rfl rfl)) (fun hp => ((show za.eval (.tmp 118) = za.tmps.getD 118 undef from rfl).trans (optVal (zc.dep 7 118 (by kernel_rfl)) rfl (bMk zβ hp)))) ⟨_, rfl, Below.refl _ _, optDef zβ rfl⟩
                    refine ⟨⟨true, .none rfl, fun h w => optUndef h, fun zβ za zw zc => ?_⟩, ?_⟩
                    · exact wp_pickF rfl ((show za.eval (.tmp 113) = za.tmps.getD 113 undef from rfl).trans (optVal (zc.dep 2 113 (by kernel_rfl)) rfl rfl)) ((show za.eval (.tmp 119) = za.tmps.getD 119 undef from rfl).trans (optVal (zc.dep 8 119 (by kernel_rfl)) rfl rfl)) ⟨_, rfl, Below.refl _ _, optDef zβ rfl⟩
                    exact trivial
                  · intro za w123 zh hb124 zu
                    have zh := zh.cons (d := 120) (v := .bool (((((freshRes (addRes A B).1 (sget B k)).2 : Int) != (0 : Int)) && (((freshRes (addRes A B).1 (sget B k)).2 : Int) != (111 : Int))))) (optVal (zu 9 120 (by kernel_rfl)) rfl rfl)
                    clear zu
                    refine (show WE _ [(0, .agg #[.slice a A.length c]), (1, .slice a2 B.length c2), (2, .pointer (some ⟨g2, 0, none⟩)), (5, .pointer (some ⟨g10, 0, none⟩)), (6, .int .i64 ((addRes A B).2)), (7, .pointer (some ⟨g38, 0, none⟩)), (8, .int .i64 0), (9, .int .i64 (((q : Nat) : Int))), (12, .int .i64 (((k : Nat) : Int))), (14, .bool true), (15, .pointer (some ⟨g115, 0, none⟩)), (16, .int .i64 ((freshRes (addRes A B).1 (sget B k)).2)), (26, .bool false), (28, .bool ((((addRes A B).2 : Int) != (0 : Int)))), (51, .bool (((!true) || false))), (56, .bool ((decide ((((q : Nat) : Int) : Int) < (((A.length : Nat) : Int) : Int))))), (79, .bool ((decide ((((k : Nat) : Int) : Int) < (((B.length : Nat) : Int) : Int))))), (120, .bool (((((freshRes (addRes A B).1 (sget B k)).2 : Int) != (0 : Int)) && (((freshRes (addRes A B).1 (sget B k)).2 : Int) != (111 : Int)))))] w123 _ .normal from ?_) za (zh.sub ⟨rfl, rfl, rfl, rfl, rfl, rfl, rfl, rfl, rfl, rfl, rfl, rfl, rfl, rfl, rfl, rfl, rfl, rfl, trivial⟩)
                    refine WE.next ?_
                    refine WC.condF rfl (by rcases kind_at hk0 hkB with q | q <;> rw [q] <;> decide) ?_
                    refine WC.skip ?_
                    refine WE.next ?_
                    refine WC.seq ?_
                    refine WC.region ?_
                    have hb126 : Below w109.heap.size w109 w123 := (bstep hb116 hb124)
                    have hB125 := hB111.below hb126
                    refine WL.val (.agg #[.slice as1 ns1 cs1]) rfl rfl rfl (fun za zC zh zk => ld_24 rfl (zh.ev rfl) ((hB125.cell 0).trans rfl) zk) ?_
                    have hB127 := hB118.below hb124
                    refine WL.val (.agg #[.string ((freshRes (addRes A B).1 (sget B k)).1.name), .int .i64 ((freshRes (addRes A B).1 (sget B k)).1.ar), .bool ((freshRes (addRes A B).1 (sget B k)).1.pred)]) rfl rfl rfl (fun za zC zh zk => ld_26 rfl (zh.ev rfl) ((hB127.cell 0).trans rfl) ((hB127.cell 1).trans rfl) ((hB127.cell 2).trans rfl) zk) ?_
                    refine WL.step (post := NewRow w123 26 #[.string ((freshRes (addRes A B).1 (sget B k)).1.name), .int .i64 ((freshRes (addRes A B).1 (sget B k)).1.ar), .bool ((freshRes (addRes A B).1 (sget B k)).1.pred)] 1) rfl rfl rfl (fun za zC zh zk => row_22_1 rfl (zh.ev rfl) (zk _ _ (newRow _ _ _ _))) ?_
                    rintro _ w128 ⟨g129, rfl, hg130, hB131, hb132, hz133⟩
                    have hb134 : Below w97.heap.size w97 w123 := (bstep hb110 hb126)
                    have hl135 : g2 < g129 := by have z1 := hB101.lt; have z2 := (hb134).size; omega
                    have hl136 : g10 < g129 := by have z1 := hB125.lt; omega
                    have hl137 : g38 < g129 := by have z1 := hB103.lt; have z2 := (hb134).size; omega
                    have hl138 : g115 < g129 := by have z1 := hB127.lt; omega
                    have hb139 : Below w.heap.size w w123 := (bstep hb98 hb134)
                    have hl140 : w.heap.size ≤ g129 := by have z2 := (hb139).size; omega
                    have hb141 : Below w8.heap.size w8 w123 := (bstep hb99 hb134)
                    have hl142 : w8.heap.size ≤ g129 := by have z2 := (hb141).size; omega
                    have hb143 : Below w36.heap.size w36 w123 := (bstep hb100 hb134)
                    have hl144 : w36.heap.size ≤ g129 := by have z2 := (hb143).size; omega
                    have hfn := fresh_name (l := (addRes A B).1) (hwB _ (sget_mem hkB)).1
                    have hb145 : Below w8.heap.size w8 w128 := (bstep hb141 hb132)
                    refine WL.call rfl rfl rfl (fun za zh zC => wp_call (by kernel_rfl) rfl (hv2 (zh.ev rfl) (zh.ev rfl))) (padd_row (A := (addRes A B).1) (B := [(freshRes (addRes A B).1 (sget B k)).1]) (by have := sigLen hk0; omega) (by simp) (IsSig.below hb145 hS1) (Nat.le_refl _) (by unfold maxLen; decide) (isSys_one (x := (freshRes (addRes A B).1 (sget B k)).1) hB131 hfn.1 hfn.2)) ?_
                    rintro _ w146 ⟨⟨as3, ns3, cs3, rfl, hn3, hS3⟩, hba3⟩
                    refine WL.val (.tuple #[.agg #[.slice as3 ns3 cs3], .int .i64 ((addRes (addRes A B).1 [(freshRes (addRes A B).1 (sget B k)).1]).2)]) rfl rfl rfl (fun za zC zh zk => wp_move rfl (zh.ev rfl) zk) ?_
                    refine WL.val (.agg #[.slice as3 ns3 cs3]) rfl rfl rfl (fun za zC zh zk => ext2_0 rfl (zh.ev rfl) zk) ?_
                    refine WL.val (.int .i64 ((addRes (addRes A B).1 [(freshRes (addRes A B).1 (sget B k)).1]).2)) rfl rfl rfl (fun za zC zh zk => ext2_1 rfl (zh.ev rfl) zk) ?_
                    refine WL.step (post := NewBlk w146 24 #[.slice none 0 0]) rfl rfl rfl (fun za zC zh zk => alloc_24 rfl (zk _ _ (newBlk _ _ _))) ?_
                    rintro _ w147 ⟨g148, rfl, hg149, hB150, hb151, hz152⟩
                    have hb153 : Below w97.heap.size w97 w146 := (bstep (bstep hb134 hb132) hba3)
                    have hl154 : g2 < g148 := by have z1 := hB101.lt; have z2 := (hb153).size; omega
                    have hb155 : Below w123.heap.size w123 w146 := (bstep hb132 hba3)
                    have hl156 : g10 < g148 := by have z1 := hB125.lt; have z2 := (hb155).size; omega
                    have hl157 : g38 < g148 := by have z1 := hB103.lt; have z2 := (hb153).size; omega
                    have hl158 : g115 < g148 := by have z1 := hB127.lt; have z2 := (hb155).size; omega
                    have hl159 : g129 < g148 := by have z1 := hB131.lt; have z2 := (hba3).size; omega
                    have hb160 : Below w.heap.size w w146 := (bstep hb98 hb153)
                    have hl161 : w.heap.size ≤ g148 := by have z2 := (hb160).size; omega
                    have hb162 : Below w8.heap.size w8 w146 := (bstep hb99 hb153)
                    have hl163 : w8.heap.size ≤ g148 := by have z2 := (hb162).size; omega
                    have hb164 : Below w36.heap.size w36 w146 := (bstep hb100 hb153)
                    have hl165 : w36.heap.size ≤ g148 := by have z2 := (hb164).size; omega
                    have hl166 : w146.heap.size ≤ g148 := by omega
                    refine WL.step (post := fun _ w' => Upd g148 w147 w' ∧ Blk w' g148 24 #[.slice as3 ns3 cs3]) rfl rfl rfl (fun za zC zh zk => st_24 rfl (zh.ev rfl) (zh.ev rfl) rfl hB150 (by first | decide | simp) (fun v => zk v _ ⟨Upd.at_ _ _ _ _, hB150.set_ 0 _⟩)) ?_
                    rintro v170 w167 ⟨hu168, hB169⟩
                    have hb171 : Below w.heap.size w w147 := (bstep hb160 hb151)
                    have hb172 : Below w8.heap.size w8 w147 := (bstep hb162 hb151)
                    have hb173 : Below w36.heap.size w36 w147 := (bstep hb164 hb151)
                    have hb174 := upd_below hb171 hu168 (by omega)
                    have hb175 := upd_below hb172 hu168 (by omega)
                    have hb176 := upd_below hb173 hu168 (by omega)
                    have hb177 := upd_below hb151 hu168 (by omega)
                    have hb179 : Below w97.heap.size w97 w147 := (bstep hb153 hb151)
                    have hB178 := hB101.below hb179
                    have hB180 := upd_blk hB178 hu168 (by omega)
                    have hb182 : Below w123.heap.size w123 w147 := (bstep hb155 hb151)
                    have hB181 := hB125.below hb182
                    have hB183 := upd_blk hB181 hu168 (by omega)
                    have hB184 := hB103.below hb179
                    have hB185 := upd_blk hB184 hu168 (by omega)
                    have hB186 := hB127.below hb182
                    have hB187 := upd_blk hB186 hu168 (by omega)
                    have hb189 : Below w128.heap.size w128 w147 := (bstep hba3 hb151)
                    have hB188 := hB131.below hb189
                    have hB190 := upd_blk hB188 hu168 (by omega)
                    refine WL.val (.int .i64 ((addRes (addRes A B).1 [(freshRes (addRes A B).1 (sget B k)).1]).2)) rfl rfl rfl (fun za zC zh zk => wp_assign rfl (zh.ev rfl) zk) ?_
                    refine WL.nil (WE.sub (K' := [(0, .agg #[.slice a A.length c]), (1, .slice a2 B.length c2), (2, .pointer (some ⟨g2, 0, none⟩)), (5, .pointer (some ⟨g10, 0, none⟩)), (6, .int .i64 ((addRes A B).2)), (7, .pointer (some ⟨g38, 0, none⟩)), (8, .int .i64 0), (9, .int .i64 (((q : Nat) : Int))), (12, .int .i64 (((k : Nat) : Int))), (14, .bool true), (15, .pointer (some ⟨g115, 0, none⟩)), (16, .int .i64 ((freshRes (addRes A B).1 (sget B k)).2)), (17, .pointer (some ⟨g148, 0, none⟩)), (18, .int .i64 ((addRes (addRes A B).1 [(freshRes (addRes A B).1 (sget B k)).1]).2)), (26, .bool false), (28, .bool ((((addRes A B).2 : Int) != (0 : Int)))), (51, .bool (((!true) || false))), (56, .bool ((decide ((((q : Nat) : Int) : Int) < (((A.length : Nat) : Int) : Int))))), (79, .bool ((decide ((((k : Nat) : Int) : Int) < (((B.length : Nat) : Int) : Int))))), (120, .bool (((((freshRes (addRes A B).1 (sget B k)).2 : Int) != (0 : Int)) && (((freshRes (addRes A B).1 (sget B k)).2 : Int) != (111 : Int)))))]) ⟨rfl, rfl, rfl, rfl, rfl, rfl, rfl, rfl, rfl, rfl, rfl, rfl, rfl, rfl, rfl, rfl, rfl, rfl, rfl, rfl, trivial⟩ ?_)
                    refine WE.next ?_
                    refine WC.seq ?_
                    refine WC.opt [(true, .val (.int .i64 ((freshRes (addRes A B).1 (sget B k)).2))), (true, .val (.bool ((((freshRes (addRes A B).1 (sget B k)).2 : Int) == (0 : Int))))), (true, .val (.bool ((((freshRes (addRes A B).1 (sget B k)).2 : Int) == (0 : Int))))), ((true && (((freshRes (addRes A B).1 (sget B k)).2 : Int) == (0 : Int))), .val (.pointer (some ⟨g10, 0, none⟩))), ((true && (((freshRes (addRes A B).1 (sget B k)).2 : Int) == (0 : Int))), .val (.slice as1 ns1 cs1)), ((true && (((freshRes (addRes A B).1 (sget B k)).2 : Int) == (0 : Int))), .val (.int .i64 (((ns1 : Nat) : Int)))), ((true && (((freshRes (addRes A B).1 (sget B k)).2 : Int) == (0 : Int))), .val (.bool ((decide ((((ns1 : Nat) : Int) : Int) < (96 : Int)))))), (true, .val (.bool (((((freshRes (addRes A B).1 (sget B k)).2 : Int) == (0 : Int)) && (decide ((((ns1 : Nat) : Int) : Int) < (96 : Int))))))), (true, .val (.bool (((((freshRes (addRes A B).1 (sget B k)).2 : Int) == (0 : Int)) && (decide ((((ns1 : Nat) : Int) : Int) < (96 : Int))))))), ((true && ((((freshRes (addRes A B).1 (sget B k)).2 : Int) == (0 : Int)) && (decide ((((ns1 : Nat) : Int) : Int) < (96 : Int))))), .val (.int .i64 ((addRes (addRes A B).1 [(freshRes (addRes A B).1 (sget B k)).1]).2))), ((true && ((((freshRes (addRes A B).1 (sget B k)).2 : Int) == (0 : Int)) && (decide ((((ns1 : Nat) : Int) : Int) < (96 : Int))))), .val (.bool ((((addRes (addRes A B).1 [(freshRes (addRes A B).1 (sget B k)).1]).2 : Int) != (0 : Int))))), ((true && ((((freshRes (addRes A B).1 (sget B k)).2 : Int) == (0 : Int)) && (decide ((((ns1 : Nat) : Int) : Int) < (96 : Int))))), .val (.bool ((((addRes (addRes A B).1 [(freshRes (addRes A B).1 (sget B k)).1]).2 : Int) != (0 : Int))))), (((true && ((((freshRes (addRes A B).1 (sget B k)).2 : Int) == (0 : Int)) && (decide ((((ns1 : Nat) : Int) : Int) < (96 : Int))))) && !(((addRes (addRes A B).1 [(freshRes (addRes A B).1 (sget B k)).1]).2 : Int) != (0 : Int))), .val (.pointer (some ⟨g148, 0, none⟩))), (((true && ((((freshRes (addRes A B).1 (sget B k)).2 : Int) == (0 : Int)) && (decide ((((ns1 : Nat) : Int) : Int) < (96 : Int))))) && !(((addRes (addRes A B).1 [(freshRes (addRes A B).1 (sget B k)).1]).2 : Int) != (0 : Int))), .val (.slice as3 ns3 cs3)), (((true && ((((freshRes (addRes A B).1 (sget B k)).2 : Int) == (0 : Int)) && (decide ((((ns1 : Nat) : Int) : Int) < (96 : Int))))) && !(((addRes (addRes A B).1 [(freshRes (addRes A B).1 (sget B k)).1]).2 : Int) != (0 : Int))), .val (.int .i64 (((ns3 : Nat) : Int)))), (((true && ((((freshRes (addRes A B).1 (sget B k)).2 : Int) == (0 : Int)) && (decide ((((ns1 : Nat) : Int) : Int) < (96 : Int))))) && !(((addRes (addRes A B).1 [(freshRes (addRes A B).1 (sget B k)).1]).2 : Int) != (0 : Int))), .val (.pointer (some ⟨g10, 0, none⟩))), (((true && ((((freshRes (addRes A B).1 (sget B k)).2 : Int) == (0 : Int)) && (decide ((((ns1 : Nat) : Int) : Int) < (96 : Int))))) && !(((addRes (addRes A B).1 [(freshRes (addRes A B).1 (sget B k)).1]).2 : Int) != (0 : Int))), .val (.slice as1 ns1 cs1)), (((true && ((((freshRes (addRes A B).1 (sget B k)).2 : Int) == (0 : Int)) && (decide ((((ns1 : Nat) : Int) : Int) < (96 : Int))))) && !(((addRes (addRes A B).1 [(freshRes (addRes A B).1 (sget B k)).1]).2 : Int) != (0 : Int))), .val (.int .i64 (((ns1 : Nat) : Int)))), (((true && ((((freshRes (addRes A B).1 (sget B k)).2 : Int) == (0 : Int)) && (decide ((((ns1 : Nat) : Int) : Int) < (96 : Int))))) && !(((addRes (addRes A B).1 [(freshRes (addRes A B).1 (sget B k)).1]).2 : Int) != (0 : Int))), .val (.int .i64 ((((ns1 + 1) : Nat) : Int)))), (((true && ((((freshRes (addRes A B).1 (sget B k)).2 : Int) == (0 : Int)) && (decide ((((ns1 : Nat) : Int) : Int) < (96 : Int))))) && !(((addRes (addRes A B).1 [(freshRes (addRes A B).1 (sget B k)).1]).2 : Int) != (0 : Int))), .val (.bool (((((ns3 : Nat) : Int) : Int) != ((((ns1 + 1) : Nat) : Int) : Int))))), ((true && ((((freshRes (addRes A B).1 (sget B k)).2 : Int) == (0 : Int)) && (decide ((((ns1 : Nat) : Int) : Int) < (96 : Int))))), .val (.bool (((((addRes (addRes A B).1 [(freshRes (addRes A B).1 (sget B k)).1]).2 : Int) != (0 : Int)) || ((((ns3 : Nat) : Int) : Int) != ((((ns1 + 1) : Nat) : Int) : Int)))))), (true, .val (.bool ((((((freshRes (addRes A B).1 (sget B k)).2 : Int) == (0 : Int)) && (decide ((((ns1 : Nat) : Int) : Int) < (96 : Int)))) && ((((addRes (addRes A B).1 [(freshRes (addRes A B).1 (sget B k)).1]).2 : Int) != (0 : Int)) || ((((ns3 : Nat) : Int) : Int) != ((((ns1 + 1) : Nat) : Int) : Int)))))))] [(0, .agg #[.slice a A.length c]), (1, .slice a2 B.length c2), (2, .pointer (some ⟨g2, 0, none⟩)), (5, .pointer (some ⟨g10, 0, none⟩)), (6, .int .i64 ((addRes A B).2)), (7, .pointer (some ⟨g38, 0, none⟩)), (8, .int .i64 0), (9, .int .i64 (((q : Nat) : Int))), (12, .int .i64 (((k : Nat) : Int))), (14, .bool true), (15, .pointer (some ⟨g115, 0, none⟩)), (16, .int .i64 ((freshRes (addRes A B).1 (sget B k)).2)), (17, .pointer (some ⟨g148, 0, none⟩)), (18, .int .i64 ((addRes (addRes A B).1 [(freshRes (addRes A B).1 (sget B k)).1]).2)), (26, .bool false), (28, .bool ((((addRes A B).2 : Int) != (0 : Int)))), (51, .bool (((!true) || false))), (56, .bool ((decide ((((q : Nat) : Int) : Int) < (((A.length : Nat) : Int) : Int))))), (79, .bool ((decide ((((k : Nat) : Int) : Int) < (((B.length : Nat) : Int) : Int))))), (120, .bool (((((freshRes (addRes A B).1 (sget B k)).2 : Int) != (0 : Int)) && (((freshRes (addRes A B).1 (sget B k)).2 : Int) != (111 : Int)))))] ⟨rfl, rfl, rfl, rfl, rfl, rfl, rfl, rfl, rfl, rfl, rfl, rfl, rfl, rfl, rfl, rfl, rfl, rfl, rfl, rfl, trivial⟩ (by kernel_rfl) (by kernel_rfl) (by kernel_rfl) ?_ ?_
                    · refine ⟨⟨true, .none rfl, fun h w => optUndef h, fun zβ za zw zc => ?_⟩, ?_⟩
                      · exact wp_move rfl (zc.kn.ev rfl) ⟨_, rfl, Below.refl _ _, optDef zβ rfl⟩
                      refine ⟨⟨true, .none rfl, fun h w => optUndef h, fun zβ za zw zc => ?_⟩, ?_⟩
                      · exact eql_27 rfl ((show za.eval (.tmp 128) = za.tmps.getD 128 undef from rfl).trans (optVal (zc.dep 0 128 (by kernel_rfl)) rfl rfl)) (zc.kn.ev rfl) ⟨_, rfl, Below.refl _ _, optDef zβ rfl⟩
                      refine ⟨⟨true, .none rfl, fun h w => optUndef h, fun zβ za zw zc => ?_⟩, ?_⟩
                      · exact wp_move rfl ((show za.eval (.tmp 129) = za.tmps.getD 129 undef from rfl).trans (optVal (zc.dep 1 129 (by kernel_rfl)) rfl rfl)) ⟨_, rfl, Below.refl _ _, optDef zβ rfl⟩
                      refine ⟨⟨(true && (((freshRes (addRes A B).1 (sget B k)).2 : Int) == (0 : Int))), .yes (c := (((freshRes (addRes A B).1 (sget B k)).2 : Int) == (0 : Int))) (d := true) rfl (fun v w h => h), fun h w => optUndef h, fun zβ za zw zc => ?_⟩, ?_⟩
                      · exact fld_24_0 rfl (zc.kn.ev rfl) ⟨_, rfl, Below.refl _ _, optDef zβ rfl⟩
                      refine ⟨⟨(true && (((freshRes (addRes A B).1 (sget B k)).2 : Int) == (0 : Int))), .yes (c := (((freshRes (addRes A B).1 (sget B k)).2 : Int) == (0 : Int))) (d := true) rfl (fun v w h => h), fun h w => optUndef h, fun zβ za zw zc => ?_⟩, ?_⟩
                      · exact ld_22 rfl ((show za.eval (.tmp 131) = za.tmps.getD 131 undef from rfl).trans (optVal (zc.dep 3 131 (by kernel_rfl)) rfl zβ)) (bkeeps zc.below _ _ ((hB183.cell 0).trans rfl)) ⟨_, rfl, Below.refl _ _, optDef zβ rfl⟩
                      refine ⟨⟨(true && (((freshRes (addRes A B).1 (sget B k)).2 : Int) == (0 : Int))), .yes (c := (((freshRes (addRes A B).1 (sget B k)).2 : Int) == (0 : Int))) (d := true) rfl (fun v w h => h), fun h w => optUndef h, fun zβ za zw zc => ?_⟩, ?_⟩
                      · exact len_22 rfl ((show za.eval (.tmp 132) = za.tmps.getD 132 undef from rfl).trans (optVal (zc.dep 4 132 (by kernel_rfl)) rfl zβ)) ⟨_, rfl, Below.refl _ _, optDef zβ rfl⟩
                      refine ⟨⟨(true && (((freshRes (addRes A B).1 (sget B k)).2 : Int) == (0 : Int))), .yes (c := (((freshRes (addRes A B).1 (sget B k)).2 : Int) == (0 : Int))) (d := true) rfl (fun v w h => h), fun h w => optUndef h, fun zβ za zw zc => ?_⟩, ?_⟩
                      · exact lss_3 rfl ((show za.eval (.tmp 133) = za.tmps.getD 133 undef from rfl).trans (optVal (zc.dep 5 133 (by kernel_rfl)) rfl zβ)) (zc.kn.ev rfl) ⟨_, rfl, Below.refl _ _, optDef zβ rfl⟩
                      refine ⟨⟨true, .none rfl, fun h w => optUndef h, fun zβ za zw zc => ?_⟩, ?_⟩
                      · exact wp_and rfl ((show za.eval (.tmp 130) = za.tmps.getD 130 undef from rfl).trans (optVal (zc.dep 2 130 (by kernel_rfl)) rfl rfl)) (fun hp => ((show za.eval (.tmp 134) = za.tmps.getD 134 undef from rfl).trans (optVal (zc.dep 6 134 (by kernel_rfl)) rfl (bMk zβ hp)))) ⟨_, rfl, Below.refl _ _, optDef zβ rfl⟩
                      refine ⟨⟨true, .none rfl, fun h w => optUndef h, fun zβ za zw zc => ?_⟩, ?_⟩
                      · exact wp_move rfl ((show za.eval (.tmp 135) = za.tmps.getD 135 undef from rfl).trans (optVal (zc.dep 7 135 (by kernel_rfl)) rfl rfl)) ⟨_, rfl, Below.refl _ _, optDef zβ rfl⟩
                      refine ⟨⟨(true && ((((freshRes (addRes A B).1 (sget B k)).2 : Int) == (0 : Int)) && (decide ((((ns1 : Nat) : Int) : Int) < (96 : Int))))), .yes (c := ((((freshRes (addRes A B).1 (sget B k)).2 : Int) == (0 : Int)) && (decide ((((ns1 : Nat) : Int) : Int) < (96 : Int))))) (d := true) rfl (fun v w h => h), fun h w => optUndef h, fun zβ za zw zc => ?_⟩, ?_⟩
                      · exact wp_move rfl (zc.kn.ev rfl) ⟨_, rfl, Below.refl _ _, optDef zβ rfl⟩
                      refine ⟨⟨(true && ((((freshRes (addRes A B).1 (sget B k)).2 : Int) == (0 : Int)) && (decide ((((ns1 : Nat) : Int) : Int) < (96 : Int))))), .yes (c := ((((freshRes (addRes A B).1 (sget B k)).2 : Int) == (0 : Int)) && (decide ((((ns1 : Nat) : Int) : Int) < (96 : Int))))) (d := true) rfl (fun v w h => h), fun h w => optUndef h, fun zβ za zw zc => ?_⟩, ?_⟩
                      · exact neq_27 rfl ((show za.eval (.tmp 137) = za.tmps.getD 137 undef from rfl).trans (optVal (zc.dep 9 137 (by kernel_rfl)) rfl zβ)) (zc.kn.ev rfl) ⟨_, rfl, Below.refl _ _, optDef zβ rfl⟩
                      refine ⟨⟨(true && ((((freshRes (addRes A B).1 (sget B k)).2 : Int) == (0 : Int)) && (decide ((((ns1 : Nat) : Int) : Int) < (96 : Int))))), .yes (c := ((((freshRes (addRes A B).1 (sget B k)).2 : Int) == (0 : Int)) && (decide ((((ns1 : Nat) : Int) : Int) < (96 : Int))))) (d := true) rfl (fun v w h => h), fun h w => optUndef h, fun zβ za zw zc => ?_⟩, ?_⟩
                      · exact wp_move rfl ((show za.eval (.tmp 138) = za.tmps.getD 138 undef from rfl).trans (optVal (zc.dep 10 138 (by kernel_rfl)) rfl zβ)) ⟨_, rfl, Below.refl _ _, optDef zβ rfl⟩
                      refine ⟨⟨((true && ((((freshRes (addRes A B).1 (sget B k)).2 : Int) == (0 : Int)) && (decide ((((ns1 : Nat) : Int) : Int) < (96 : Int))))) && !(((addRes (addRes A B).1 [(freshRes (addRes A B).1 (sget B k)).1]).2 : Int) != (0 : Int))), .no (c := (((addRes (addRes A B).1 [(freshRes (addRes A B).1 (sget B k)).1]).2 : Int) != (0 : Int))) (d := (true && ((((freshRes (addRes A B).1 (sget B k)).2 : Int) == (0 : Int)) && (decide ((((ns1 : Nat) : Int) : Int) < (96 : Int)))))) rfl (fun v w h => h), fun h w => optUndef h, fun zβ za zw zc => ?_⟩, ?_⟩
                      · exact fld_24_0 rfl (zc.kn.ev rfl) ⟨_, rfl, Below.refl _ _, optDef zβ rfl⟩
                      refine ⟨⟨((true && ((((freshRes (addRes A B).1 (sget B k)).2 : Int) == (0 : Int)) && (decide ((((ns1 : Nat) : Int) : Int) < (96 : Int))))) && !(((addRes (addRes A B).1 [(freshRes (addRes A B).1 (sget B k)).1]).2 : Int) != (0 : Int))), .no (c := (((addRes (addRes A B).1 [(freshRes (addRes A B).1 (sget B k)).1]).2 : Int) != (0 : Int))) (d := (true && ((((freshRes (addRes A B).1 (sget B k)).2 : Int) == (0 : Int)) && (decide ((((ns1 : Nat) : Int) : Int) < (96 : Int)))))) rfl (fun v w h => h), fun h w => optUndef h, fun zβ za zw zc => ?_⟩, ?_⟩
                      · exact ld_22 rfl ((show za.eval (.tmp 140) = za.tmps.getD 140 undef from rfl).trans (optVal (zc.dep 12 140 (by kernel_rfl)) rfl zβ)) (bkeeps zc.below _ _ ((hB169.cell 0).trans rfl)) ⟨_, rfl, Below.refl _ _, optDef zβ rfl⟩
                      refine ⟨⟨((true && ((((freshRes (addRes A B).1 (sget B k)).2 : Int) == (0 : Int)) && (decide ((((ns1 : Nat) : Int) : Int) < (96 : Int))))) && !(((addRes (addRes A B).1 [(freshRes (addRes A B).1 (sget B k)).1]).2 : Int) != (0 : Int))), .no (c := (((addRes (addRes A B).1 [(freshRes (addRes A B).1 (sget B k)).1]).2 : Int) != (0 : Int))) (d := (true && ((((freshRes (addRes A B).1 (sget B k)).2 : Int) == (0 : Int)) && (decide ((((ns1 : Nat) : Int) : Int) < (96 : Int)))))) rfl (fun v w h => h), fun h w => optUndef h, fun zβ za zw zc => ?_⟩, ?_⟩
                      · exact len_22 rfl ((show za.eval (.tmp 141) = za.tmps.getD 141 undef from rfl).trans (optVal (zc.dep 13 141 (by kernel_rfl)) rfl zβ)) ⟨_, rfl, Below.refl _ _, optDef zβ rfl⟩
                      refine ⟨⟨((true && ((((freshRes (addRes A B).1 (sget B k)).2 : Int) == (0 : Int)) && (decide ((((ns1 : Nat) : Int) : Int) < (96 : Int))))) && !(((addRes (addRes A B).1 [(freshRes (addRes A B).1 (sget B k)).1]).2 : Int) != (0 : Int))), .no (c := (((addRes (addRes A B).1 [(freshRes (addRes A B).1 (sget B k)).1]).2 : Int) != (0 : Int))) (d := (true && ((((freshRes (addRes A B).1 (sget B k)).2 : Int) == (0 : Int)) && (decide ((((ns1 : Nat) : Int) : Int) < (96 : Int)))))) rfl (fun v w h => h), fun h w => optUndef h, fun zβ za zw zc => ?_⟩, ?_⟩
                      · exact fld_24_0 rfl (zc.kn.ev rfl) ⟨_, rfl, Below.refl _ _, optDef zβ rfl⟩
                      refine ⟨⟨((true && ((((freshRes (addRes A B).1 (sget B k)).2 : Int) == (0 : Int)) && (decide ((((ns1 : Nat) : Int) : Int) < (96 : Int))))) && !(((addRes (addRes A B).1 [(freshRes (addRes A B).1 (sget B k)).1]).2 : Int) != (0 : Int))), .no (c := (((addRes (addRes A B).1 [(freshRes (addRes A B).1 (sget B k)).1]).2 : Int) != (0 : Int))) (d := (true && ((((freshRes (addRes A B).1 (sget B k)).2 : Int) == (0 : Int)) && (decide ((((ns1 : Nat) : Int) : Int) < (96 : Int)))))) rfl (fun v w h => h), fun h w => optUndef h, fun zβ za zw zc => ?_⟩, ?_⟩
                      · exact ld_22 rfl ((show za.eval (.tmp 143) = za.tmps.getD 143 undef from rfl).trans (optVal (zc.dep 15 143 (by kernel_rfl)) rfl zβ)) (bkeeps zc.below _ _ ((hB183.cell 0).trans rfl)) ⟨_, rfl, Below.refl _ _, optDef zβ rfl⟩
                      refine ⟨⟨((true && ((((freshRes (addRes A B).1 (sget B k)).2 : Int) == (0 : Int)) && (decide ((((ns1 : Nat) : Int) : Int) < (96 : Int))))) && !(((addRes (addRes A B).1 [(freshRes (addRes A B).1 (sget B k)).1]).2 : Int) != (0 : Int))), .no (c := (((addRes (addRes A B).1 [(freshRes (addRes A B).1 (sget B k)).1]).2 : Int) != (0 : Int))) (d := (true && ((((freshRes (addRes A B).1 (sget B k)).2 : Int) == (0 : Int)) && (decide ((((ns1 : Nat) : Int) : Int) < (96 : Int)))))) rfl (fun v w h => h), fun h w => optUndef h, fun zβ za zw zc => ?_⟩, ?_⟩
                      · exact len_22 rfl ((show za.eval (.tmp 144) = za.tmps.getD 144 undef from rfl).trans (optVal (zc.dep 16 144 (by kernel_rfl)) rfl zβ)) ⟨_, rfl, Below.refl _ _, optDef zβ rfl⟩
                      refine ⟨⟨((true && ((((freshRes (addRes A B).1 (sget B k)).2 : Int) == (0 : Int)) && (decide ((((ns1 : Nat) : Int) : Int) < (96 : Int))))) && !(((addRes (addRes A B).1 [(freshRes (addRes A B).1 (sget B k)).1]).2 : Int) != (0 : Int))), .no (c := (((addRes (addRes A B).1 [(freshRes (addRes A B).1 (sget B k)).1]).2 : Int) != (0 : Int))) (d := (true && ((((freshRes (addRes A B).1 (sget B k)).2 : Int) == (0 : Int)) && (decide ((((ns1 : Nat) : Int) : Int) < (96 : Int)))))) rfl (fun v w h => h), fun h w => optUndef h, fun zβ za zw zc => ?_⟩, ?_⟩
                      · exact addb_3 rfl ((show za.eval (.tmp 145) = za.tmps.getD 145 undef from rfl).trans (optVal (zc.dep 17 145 (by kernel_rfl)) rfl zβ)) (zc.kn.ev rfl) (wrap_eq (by omega) (by omega) (by omega)) ⟨_, rfl, Below.refl _ _, optDef zβ rfl⟩
                      refine ⟨⟨((true && ((((freshRes (addRes A B).1 (sget B k)).2 : Int) == (0 : Int)) && (decide ((((ns1 : Nat) : Int) : Int) < (96 : Int))))) && !(((addRes (addRes A B).1 [(freshRes (addRes A B).1 (sget B k)).1]).2 : Int) != (0 : Int))), .no (c := (((addRes (addRes A B).1 [(freshRes (addRes A B).1 (sget B k)).1]).2 : Int) != (0 : Int))) (d := (true && ((((freshRes (addRes A B).1 (sget B k)).2 : Int) == (0 : Int)) && (decide ((((ns1 : Nat) : Int) : Int) < (96 : Int)))))) rfl (fun v w h => h), fun h w => optUndef h, fun zβ za zw zc => ?_⟩, ?_⟩
                      · exact neq_3 rfl ((show za.eval (.tmp 142) = za.tmps.getD 142 undef from rfl).trans (optVal (zc.dep 14 142 (by kernel_rfl)) rfl zβ)) ((show za.eval (.tmp 146) = za.tmps.getD 146 undef from rfl).trans (optVal (zc.dep 18 146 (by kernel_rfl)) rfl zβ)) ⟨_, rfl, Below.refl _ _, optDef zβ rfl⟩
                      refine ⟨⟨(true && ((((freshRes (addRes A B).1 (sget B k)).2 : Int) == (0 : Int)) && (decide ((((ns1 : Nat) : Int) : Int) < (96 : Int))))), .yes (c := ((((freshRes (addRes A B).1 (sget B k)).2 : Int) == (0 : Int)) && (decide ((((ns1 : Nat) : Int) : Int) < (96 : Int))))) (d := true) rfl (fun v w h => h), fun h w => optUndef h, fun zβ za zw zc => ?_⟩, ?_⟩
                      · exact wp_or rfl ((show za.eval (.tmp 139) = za.tmps.getD 139 undef from rfl).trans (optVal (zc.dep 11 139 (by kernel_rfl)) rfl zβ)) (fun hp => ((show za.eval (.tmp 147) = za.tmps.getD 147 undef from rfl).trans (optVal (zc.dep 19 147 (by kernel_rfl)) rfl (bMkN zβ hp)))) ⟨_, rfl, Below.refl _ _, optDef zβ rfl⟩
                      refine ⟨⟨true, .none rfl, fun h w => optUndef h, fun zβ za zw zc => ?_⟩, ?_⟩
                      · exact wp_and rfl ((show za.eval (.tmp 136) = za.tmps.getD 136 undef from rfl).trans (optVal (zc.dep 8 136 (by kernel_rfl)) rfl rfl)) (fun hp => ((show za.eval (.tmp 148) = za.tmps.getD 148 undef from rfl).trans (optVal (zc.dep 20 148 (by kernel_rfl)) rfl (bMk zβ hp)))) ⟨_, rfl, Below.refl _ _, optDef zβ rfl⟩
                      exact trivial
                    · intro za w191 zh hb192 zu
                      have zh := zh.cons (d := 149) (v := .bool ((((((freshRes (addRes A B).1 (sget B k)).2 : Int) == (0 : Int)) && (decide ((((ns1 : Nat) : Int) : Int) < (96 : Int)))) && ((((addRes (addRes A B).1 [(freshRes (addRes A B).1 (sget B k)).1]).2 : Int) != (0 : Int)) || ((((ns3 : Nat) : Int) : Int) != ((((ns1 + 1) : Nat) : Int) : Int)))))) (optVal (zu 21 149 (by kernel_rfl)) rfl rfl)
                      clear zu
                      refine (show WE _ [(0, .agg #[.slice a A.length c]), (1, .slice a2 B.length c2), (2, .pointer (some ⟨g2, 0, none⟩)), (5, .pointer (some ⟨g10, 0, none⟩)), (6, .int .i64 ((addRes A B).2)), (7, .pointer (some ⟨g38, 0, none⟩)), (8, .int .i64 0), (9, .int .i64 (((q : Nat) : Int))), (12, .int .i64 (((k : Nat) : Int))), (14, .bool true), (15, .pointer (some ⟨g115, 0, none⟩)), (16, .int .i64 ((freshRes (addRes A B).1 (sget B k)).2)), (17, .pointer (some ⟨g148, 0, none⟩)), (18, .int .i64 ((addRes (addRes A B).1 [(freshRes (addRes A B).1 (sget B k)).1]).2)), (26, .bool false), (28, .bool ((((addRes A B).2 : Int) != (0 : Int)))), (51, .bool (((!true) || false))), (56, .bool ((decide ((((q : Nat) : Int) : Int) < (((A.length : Nat) : Int) : Int))))), (79, .bool ((decide ((((k : Nat) : Int) : Int) < (((B.length : Nat) : Int) : Int))))), (120, .bool (((((freshRes (addRes A B).1 (sget B k)).2 : Int) != (0 : Int)) && (((freshRes (addRes A B).1 (sget B k)).2 : Int) != (111 : Int))))), (149, .bool ((((((freshRes (addRes A B).1 (sget B k)).2 : Int) == (0 : Int)) && (decide ((((ns1 : Nat) : Int) : Int) < (96 : Int)))) && ((((addRes (addRes A B).1 [(freshRes (addRes A B).1 (sget B k)).1]).2 : Int) != (0 : Int)) || ((((ns3 : Nat) : Int) : Int) != ((((ns1 + 1) : Nat) : Int) : Int))))))] w191 _ .normal from ?_) za (zh.sub ⟨rfl, rfl, rfl, rfl, rfl, rfl, rfl, rfl, rfl, rfl, rfl, rfl, rfl, rfl, rfl, rfl, rfl, rfl, rfl, rfl, rfl, trivial⟩)
                      refine WE.next ?_
                      refine WC.condF rfl (keeps_end hk0 hkB hn1 hn3) ?_
                      refine WC.skip ?_
                      refine WE.blockNormal ?_
                      refine WE.next ?_
                      refine WC.region ?_
                      refine WL.val (.int .i64 (((k : Nat) : Int))) rfl rfl rfl (fun za zC zh zk => wp_move rfl (zh.ev rfl) zk) ?_
                      refine WL.val (.int .i64 ((((k + 1) : Nat) : Int))) rfl rfl rfl (fun za zC zh zk => addb_3 rfl (zh.ev rfl) (zh.ev rfl) (wrap_eq (by omega) (by omega) (by omega)) zk) ?_
                      refine WL.val (.int .i64 ((((k + 1) : Nat) : Int))) rfl rfl rfl (fun za zC zh zk => wp_assign rfl (zh.ev rfl) zk) ?_
                      refine WL.nil (WE.sub (K' := [(0, .agg #[.slice a A.length c]), (1, .slice a2 B.length c2), (2, .pointer (some ⟨g2, 0, none⟩)), (5, .pointer (some ⟨g10, 0, none⟩)), (6, .int .i64 ((addRes A B).2)), (7, .pointer (some ⟨g38, 0, none⟩)), (8, .int .i64 0), (9, .int .i64 (((q : Nat) : Int))), (12, .int .i64 ((((k + 1) : Nat) : Int))), (14, .bool true), (15, .pointer (some ⟨g115, 0, none⟩)), (16, .int .i64 ((freshRes (addRes A B).1 (sget B k)).2)), (17, .pointer (some ⟨g148, 0, none⟩)), (18, .int .i64 ((addRes (addRes A B).1 [(freshRes (addRes A B).1 (sget B k)).1]).2)), (26, .bool false), (28, .bool ((((addRes A B).2 : Int) != (0 : Int)))), (51, .bool (((!true) || false))), (56, .bool ((decide ((((q : Nat) : Int) : Int) < (((A.length : Nat) : Int) : Int))))), (79, .bool ((decide ((((k : Nat) : Int) : Int) < (((B.length : Nat) : Int) : Int))))), (120, .bool (((((freshRes (addRes A B).1 (sget B k)).2 : Int) != (0 : Int)) && (((freshRes (addRes A B).1 (sget B k)).2 : Int) != (111 : Int))))), (149, .bool ((((((freshRes (addRes A B).1 (sget B k)).2 : Int) == (0 : Int)) && (decide ((((ns1 : Nat) : Int) : Int) < (96 : Int)))) && ((((addRes (addRes A B).1 [(freshRes (addRes A B).1 (sget B k)).1]).2 : Int) != (0 : Int)) || ((((ns3 : Nat) : Int) : Int) != ((((ns1 + 1) : Nat) : Int) : Int))))))]) ⟨rfl, rfl, rfl, rfl, rfl, rfl, rfl, rfl, rfl, rfl, rfl, rfl, rfl, rfl, rfl, rfl, rfl, rfl, rfl, rfl, rfl, trivial⟩ ?_)
                      refine WE.round (k + 1) ⟨rfl, rfl, rfl, rfl, rfl, rfl, rfl, rfl, rfl, rfl, rfl, rfl, rfl, trivial⟩ ?_ ?_
                      · have hb193 : Below w.heap.size w w191 := (bstep hb174 hb192)
                        have hb194 : Below w8.heap.size w8 w191 := (bstep hb175 hb192)
                        have hb195 : Below w36.heap.size w36 w191 := (bstep hb176 hb192)
                        have hB196 := hB180.below hb192
                        have hB197 := hB183.below hb192
                        have hB198 := hB185.below hb192
                        exact ⟨by omega, hb193, hb194, hb195, hB196, hB197, hB198⟩
                      · omega
            · have h104 : ¬ ((((k : Nat) : Int) : Int) < (((B.length : Nat) : Int) : Int)) := by simpa using h104
              refine WC.exit ?_
              refine WE.thenExit ?_
              refine WE.thenExit ?_
              refine WE.blockIs rfl ?_
              refine WE.next ?_
              refine WC.seq ?_
              refine WC.region ?_
              refine WL.val (.bool true) rfl rfl rfl (fun za zC zh zk => wp_assign rfl (zh.ev rfl) zk) ?_
              refine WL.nil (WE.sub (K' := [(0, .agg #[.slice a A.length c]), (1, .slice a2 B.length c2), (2, .pointer (some ⟨g2, 0, none⟩)), (4, .bool true), (5, .pointer (some ⟨g10, 0, none⟩)), (6, .int .i64 ((addRes A B).2)), (7, .pointer (some ⟨g38, 0, none⟩)), (8, .int .i64 0), (9, .int .i64 (((q : Nat) : Int))), (12, .int .i64 (((k : Nat) : Int))), (26, .bool false), (28, .bool ((((addRes A B).2 : Int) != (0 : Int)))), (51, .bool (((!true) || false))), (56, .bool ((decide ((((q : Nat) : Int) : Int) < (((A.length : Nat) : Int) : Int))))), (79, .bool ((decide ((((k : Nat) : Int) : Int) < (((B.length : Nat) : Int) : Int)))))]) ⟨rfl, rfl, rfl, rfl, rfl, rfl, rfl, rfl, rfl, rfl, rfl, rfl, rfl, rfl, rfl, trivial⟩ ?_)
              refine WE.next ?_
              refine WC.ret ?_
              refine WE.ret1 rfl rfl ?_
              exact ⟨_, rfl, rfl, hb98⟩

end Go.Proofs.YtbnjppmmhhjjbaaDoor
