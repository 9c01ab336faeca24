/- Regions in whatever order: operations that make things in memory, one out of the other; a new box into which the last thing is stored; what is told of them besides. -/
import Derived.Test.YtbohlpfndiiimaaBKPe
import Derived.Test.YtbohlpfndiiimaaBKPc
import Derived.Test.YtbohlpfndiiimaaBKPf
import Derived.Test.YtbohlpfndiiimaaBKPd
import Derived.Test.YtbohlpfndiiimaaBKPb

/- Sizes, depths, variables: the document's program. -/
namespace Go.Proofs.Ytbohlpfndiiimaa
open Go.RowKit Go
set_option linter.unusedVariables false
set_option linter.unusedSimpArgs false
set_option maxRecDepth 100000 in
theorem rsize_any : ∀ (t : T) (w : World) (v : Value), t.size ≤ 4294967296 → IsT w t v → Calls Try.prog 45 #[v] w (Ret fun v' w' => v' = .int .i64 (t.size : Nat) ∧ Below w.heap.size w w') := by
  refine T.ind (fun f l ih => ?_)
  intro w v hz hv
  have hv0 := hv
  have hlen := len_le_sizeL l
  have hz' := hz
  simp only [T.size] at hz'
  obtain ⟨hf, a, c, rfl, hc, hm, hl⟩ := hv
  have hf' := hf
  unfold I64 at hf'
  refine Calls.walk (l := [.agg #[.int .i64 f, .slice a l.length c]]) Try.func45 rfl (by kernel_rfl) ?_
  refine WC.sub (K' := [(0, .agg #[.int .i64 f, .slice a l.length c])]) ⟨rfl, trivial⟩ ?_
  refine WC.seq ?_
  refine WC.region ?_
  refine WL.step (post := NewBlk w 35 #[.int .i64 f, .slice a l.length c]) rfl rfl rfl (fun za zC zh zk => box_35 rfl (zh.ev rfl) (zk _ _ (newBlk _ _ _))) ?_
  rintro _ w1 ⟨g2, rfl, hg3, hB4, hb5, hz6⟩
  have hl7 : w.heap.size ≤ g2 := by omega
  refine WL.asg rfl rfl rfl rfl rfl ?_
  refine WL.nil ?_
  refine WE.next ?_
  refine WC.seq ?_
  refine WC.region ?_
  refine WL.asg rfl rfl rfl rfl rfl ?_
  refine WL.nil ?_
  refine WE.next ?_
  refine WC.seq ?_
  refine WC.seq ?_
  refine WC.region ?_
  refine WL.asg rfl rfl rfl rfl rfl ?_
  refine WL.nil ?_
  refine WE.next ?_
  refine WC.block ?_
  refine WC.loop (X := Nat) (fun k => l.length - k) (fun k => [(0, .agg #[.int .i64 f, .slice a l.length c]), (1, .pointer (some ⟨g2, 0, none⟩)), (2, .int .i64 0), (3, .int .i64 ((((1 + T.sizeL (l.take k)) : Nat) : Int))), (4, .int .i64 (((k : Nat) : Int)))]) (fun k w8 => k ≤ l.length ∧ Below w.heap.size w w8 ∧ Blk w8 g2 35 #[.int .i64 f, .slice a l.length c]) 0 ⟨rfl, rfl, rfl, rfl, rfl, trivial⟩ ?_ ?_
  · exact ⟨Nat.zero_le _, hb5, hB4⟩
  · rintro k w8 ⟨hk, hb9, hB10⟩
    refine WC.seq ?_
    refine WC.seq ?_
    refine WC.region ?_
    refine WL.mv rfl rfl rfl rfl rfl ?_
    refine WL.val _ rfl rfl rfl (fun za zC zh zk => fld_35_1 rfl (zh.ev rfl) zk) ?_
    refine WL.val _ rfl rfl rfl (fun za zC zh zk => ld_25 rfl (zh.ev rfl) ((hB10.cell 1).trans rfl) zk) ?_
    refine WL.val (.int .i64 (((l.length : Nat) : Int))) rfl rfl rfl (fun za zC zh zk => len_25 rfl (zh.ev rfl) zk) ?_
    refine WL.val (.bool ((decide ((((k : Nat) : Int) : Int) < (((l.length : Nat) : Int) : Int))))) rfl rfl rfl (fun za zC zh zk => lss_3 rfl (zh.ev rfl) (zh.ev rfl) zk) ?_
    refine WL.nil ?_
    refine WE.next ?_
    refine WC.cond rfl (fun h11 => ?_) (fun h11 => ?_)
    · have h11 : (((k : Nat) : Int) : Int) < (((l.length : Nat) : Int) : Int) := by simpa using h11
      refine WC.skip ?_
      refine WE.next ?_
      refine WC.seq ?_
      refine WC.block ?_
      refine WC.region ?_
      refine WL.mv rfl rfl rfl rfl rfl ?_
      refine WL.val _ rfl rfl rfl (fun za zC zh zk => fld_35_1 rfl (zh.ev rfl) zk) ?_
      refine WL.val _ rfl rfl rfl (fun za zC zh zk => ld_25 rfl (zh.ev rfl) ((hB10.cell 1).trans rfl) zk) ?_
      refine WL.mv rfl rfl rfl rfl rfl ?_
      obtain ⟨b12, o13, A14, C15, ha16, hc17⟩ := IsTs.open hl
      refine WL.val _ rfl rfl rfl (fun za zC zh zk => ix_25 (k := k) rfl (zh.ev rfl) (ha16 k (by first | omega | (simp; omega))) (zh.ev rfl) (by first | omega | (simp; omega)) zk) ?_
      refine WL.val _ rfl rfl rfl (fun za zC zh zk => ld_35 rfl (zh.ev rfl) (bkeeps hb9 _ _ (hc17 k (by first | omega | (simp; omega))).1) (bkeeps hb9 _ _ (hc17 k (by first | omega | (simp; omega))).2.1) zk) ?_
      refine WL.call rfl rfl rfl (fun za zh zC => wp_call (by kernel_rfl) rfl (hv1 (zh.ev rfl))) (ih _ (tget_mem (by omega)) _ _ (size_at (by omega) hz) (IsT.below hb9 (hc17 k (by first | omega | (simp; omega))).2.2)) ?_
      rintro _ w19 ⟨rfl, hq18⟩
      refine WL.val (.int .i64 ((((1 + T.sizeL (l.take (k + 1))) : Nat) : Int))) rfl rfl rfl (fun za zC zh zk => addb_3 rfl (zh.ev rfl) (zh.ev rfl) (wrap_eq (by rw [sizeL_take1 (by omega)]; omega) (by omega) (by have z := sizeL_take1 (l := l) (k := k) (by omega); have z2 := T.sizeL_take_le l (k + 1); omega)) zk) ?_
      refine WL.asg rfl rfl rfl rfl rfl ?_
      refine WL.nil ?_
      refine WE.blockNormal ?_
      refine WE.next ?_
      refine WC.region ?_
      refine WL.mv rfl rfl rfl rfl rfl ?_
      refine WL.val (.int .i64 ((((k + 1) : Nat) : Int))) rfl rfl rfl (fun za zC zh zk => addb_3 rfl (zh.ev rfl) (zh.ev rfl) (wrap_eq (by omega) (by omega) (by omega)) zk) ?_
      refine WL.asg rfl rfl rfl rfl rfl ?_
      refine WL.nil ?_
      refine WE.round (k + 1) ⟨rfl, rfl, rfl, rfl, rfl, trivial⟩ ?_ ?_
      · have hb20 : Below w.heap.size w w19 := (bstep hb9 hq18)
        have hB21 := hB10.below hq18
        exact ⟨by omega, hb20, hB21⟩
      · omega
    · have h11 : ¬ ((((k : Nat) : Int) : Int) < (((l.length : Nat) : Int) : Int)) := by simpa using h11
      refine WC.exit ?_
      refine WE.thenExit ?_
      refine WE.thenExit ?_
      refine WE.blockIs rfl ?_
      refine WE.next ?_
      refine WC.seq ?_
      refine WC.region ?_
      refine WL.mv rfl rfl rfl rfl rfl ?_
      refine WL.asg rfl rfl rfl rfl rfl ?_
      refine WL.nil ?_
      refine WE.next ?_
      refine WC.ret ?_
      refine WE.ret1 rfl rfl ?_
      refine ⟨_, rfl, ?_, hb9⟩
      rw [List.take_of_length_le (show l.length ≤ k by omega), T.size]
theorem wp_max2 {P : Program} {w : World} {a : Act} {K : Act → World → Prop} {Q : Exit → Act → World → Prop} {o : Oper} {x y : Operand} {m n r : Int} (ho : o.op = .call { callee := .builtin .max, args := #[x, y], argTypes := #[3, 3] }) (hx : a.eval x = .int .i64 m) (hy : a.eval y = .int .i64 n) (hr : r = max m n) (hK : K (a.put o.dst (.int .i64 r)) w) : o.wp P a w K Q := by
  subst hr
  unfold Oper.wp execOp
  simp only [ho, resolve, invoke, builtin, Sem.run_bind, Sem.run_pure, Result.andThen_ok, List.map_toArray, List.map_cons, List.map_nil, hx, hy]
  go_simp
  first
  | exact hK
  | (have e : max m n = (if m < n then n else m) := by omega
     rw [e] at hK; exact hK)
set_option maxRecDepth 100000 in
theorem rdepth_any : ∀ (t : T) (w : World) (v : Value), t.size ≤ 4294967296 → IsT w t v → Calls Try.prog 68 #[v] w (Ret fun v' w' => v' = .int .i64 (t.dep : Nat) ∧ Below w.heap.size w w') := by
  refine T.ind (fun f l ih => ?_)
  intro w v hz hv
  have hv0 := hv
  have hlen := len_le_sizeL l
  have hz' := hz
  simp only [T.size] at hz'
  obtain ⟨hf, a, c, rfl, hc, hm, hl⟩ := hv
  have hf' := hf
  unfold I64 at hf'
  refine Calls.walk (l := [.agg #[.int .i64 f, .slice a l.length c]]) Try.func68 rfl (by kernel_rfl) ?_
  refine WC.sub (K' := [(0, .agg #[.int .i64 f, .slice a l.length c])]) ⟨rfl, trivial⟩ ?_
  refine WC.seq ?_
  refine WC.region ?_
  refine WL.step (post := NewBlk w 35 #[.int .i64 f, .slice a l.length c]) rfl rfl rfl (fun za zC zh zk => box_35 rfl (zh.ev rfl) (zk _ _ (newBlk _ _ _))) ?_
  rintro _ w1 ⟨g2, rfl, hg3, hB4, hb5, hz6⟩
  have hl7 : w.heap.size ≤ g2 := by omega
  refine WL.asg rfl rfl rfl rfl rfl ?_
  refine WL.nil ?_
  refine WE.next ?_
  refine WC.seq ?_
  refine WC.region ?_
  refine WL.asg rfl rfl rfl rfl rfl ?_
  refine WL.nil ?_
  refine WE.next ?_
  refine WC.seq ?_
  refine WC.seq ?_
  refine WC.region ?_
  refine WL.asg rfl rfl rfl rfl rfl ?_
  refine WL.nil ?_
  refine WE.next ?_
  refine WC.block ?_
  refine WC.loop (X := Nat) (fun k => l.length - k) (fun k => [(0, .agg #[.int .i64 f, .slice a l.length c]), (1, .pointer (some ⟨g2, 0, none⟩)), (2, .int .i64 0), (3, .int .i64 ((((T.depL (l.take k)) : Nat) : Int))), (4, .int .i64 (((k : Nat) : Int)))]) (fun k w8 => k ≤ l.length ∧ Below w.heap.size w w8 ∧ Blk w8 g2 35 #[.int .i64 f, .slice a l.length c]) 0 ⟨rfl, rfl, rfl, rfl, rfl, trivial⟩ ?_ ?_
  · exact ⟨Nat.zero_le _, hb5, hB4⟩
  · rintro k w8 ⟨hk, hb9, hB10⟩
    refine WC.seq ?_
    refine WC.seq ?_
    refine WC.region ?_
    refine WL.mv rfl rfl rfl rfl rfl ?_
    refine WL.val _ rfl rfl rfl (fun za zC zh zk => fld_35_1 rfl (zh.ev rfl) zk) ?_
    refine WL.val _ rfl rfl rfl (fun za zC zh zk => ld_25 rfl (zh.ev rfl) ((hB10.cell 1).trans rfl) zk) ?_
    refine WL.val (.int .i64 (((l.length : Nat) : Int))) rfl rfl rfl (fun za zC zh zk => len_25 rfl (zh.ev rfl) zk) ?_
    refine WL.val (.bool ((decide ((((k : Nat) : Int) : Int) < (((l.length : Nat) : Int) : Int))))) rfl rfl rfl (fun za zC zh zk => lss_3 rfl (zh.ev rfl) (zh.ev rfl) zk) ?_
    refine WL.nil ?_
    refine WE.next ?_
    refine WC.cond rfl (fun h11 => ?_) (fun h11 => ?_)
    · have h11 : (((k : Nat) : Int) : Int) < (((l.length : Nat) : Int) : Int) := by simpa using h11
      refine WC.skip ?_
      refine WE.next ?_
      refine WC.seq ?_
      refine WC.block ?_
      refine WC.region ?_
      refine WL.mv rfl rfl rfl rfl rfl ?_
      refine WL.val _ rfl rfl rfl (fun za zC zh zk => fld_35_1 rfl (zh.ev rfl) zk) ?_
      refine WL.val _ rfl rfl rfl (fun za zC zh zk => ld_25 rfl (zh.ev rfl) ((hB10.cell 1).trans rfl) zk) ?_
      refine WL.mv rfl rfl rfl rfl rfl ?_
      obtain ⟨b12, o13, A14, C15, ha16, hc17⟩ := IsTs.open hl
      refine WL.val _ rfl rfl rfl (fun za zC zh zk => ix_25 (k := k) rfl (zh.ev rfl) (ha16 k (by first | omega | (simp; omega))) (zh.ev rfl) (by first | omega | (simp; omega)) zk) ?_
      refine WL.val _ rfl rfl rfl (fun za zC zh zk => ld_35 rfl (zh.ev rfl) (bkeeps hb9 _ _ (hc17 k (by first | omega | (simp; omega))).1) (bkeeps hb9 _ _ (hc17 k (by first | omega | (simp; omega))).2.1) zk) ?_
      refine WL.call rfl rfl rfl (fun za zh zC => wp_call (by kernel_rfl) rfl (hv1 (zh.ev rfl))) (ih _ (tget_mem (by omega)) _ _ (size_at (by omega) hz) (IsT.below hb9 (hc17 k (by first | omega | (simp; omega))).2.2)) ?_
      rintro _ w19 ⟨rfl, hq18⟩
      refine WL.val (.int .i64 ((T.depL (l.take (k + 1)) : Nat) : Int)) rfl rfl rfl (fun za zC zh zk => wp_max2 rfl (zh.ev rfl) (zh.ev rfl) (by rw [depL_take (by omega)]; (try omega)) zk) ?_
      refine WL.asg rfl rfl rfl rfl rfl ?_
      refine WL.nil ?_
      refine WE.blockNormal ?_
      refine WE.next ?_
      refine WC.region ?_
      refine WL.mv rfl rfl rfl rfl rfl ?_
      refine WL.val (.int .i64 ((((k + 1) : Nat) : Int))) rfl rfl rfl (fun za zC zh zk => addb_3 rfl (zh.ev rfl) (zh.ev rfl) (wrap_eq (by omega) (by omega) (by omega)) zk) ?_
      refine WL.asg rfl rfl rfl rfl rfl ?_
      refine WL.nil ?_
      refine WE.round (k + 1) ⟨rfl, rfl, rfl, rfl, rfl, trivial⟩ ?_ ?_
      · have hb20 : Below w.heap.size w w19 := (bstep hb9 hq18)
        have hB21 := hB10.below hq18
        exact ⟨by omega, hb20, hB21⟩
      · omega
    · have h11 : ¬ ((((k : Nat) : Int) : Int) < (((l.length : Nat) : Int) : Int)) := by simpa using h11
      refine WC.exit ?_
      refine WE.thenExit ?_
      refine WE.thenExit ?_
      refine WE.blockIs rfl ?_
      refine WE.next ?_
      refine WC.seq ?_
      refine WC.region ?_
      refine WL.mv rfl rfl rfl rfl rfl ?_
      refine WL.val (.int .i64 ((((T.depL (l.take k) + 1) : Nat) : Int))) rfl rfl rfl (fun za zC zh zk => addb_3 rfl (zh.ev rfl) (zh.ev rfl) (wrap_eq (by omega) (by omega) (by have z2 := depL_take_le (l := l) (k := k); omega)) zk) ?_
      refine WL.asg rfl rfl rfl rfl rfl ?_
      refine WL.nil ?_
      refine WE.next ?_
      refine WC.ret ?_
      refine WE.ret1 rfl rfl ?_
      refine ⟨_, rfl, ?_, hb9⟩
      rw [List.take_of_length_le (show l.length ≤ k by omega), T.dep]
theorem neg_int {P : Program} {w : World} {a : Act} {K : Act → World → Prop} {Q : Exit → Act → World → Prop} {o : Oper} {x : Operand} {m r : Int} (ho : o.op = .unOp .neg 3 x) (hx : a.eval x = .int .i64 m) (hr : IntKind.i64.wrap (-m) = r) (hK : K (a.put o.dst (.int .i64 r)) w) : o.wp P a w K Q := by
  subst hr
  unfold Oper.wp execOp
  simp only [ho, hx]
  go_simp
  exact hK
set_option maxRecDepth 100000 in
theorem rlow_any (m : Int) (hm0 : 0 ≤ m ∧ m ≤ 1099511627776) : ∀ (t : T) (w : World) (v : Value), t.size ≤ 4294967296 → IsT w t v → Calls Try.prog 69 #[v, .int .i64 m] w (Ret fun v' w' => v' = .bool (t.low m) ∧ Below w.heap.size w w') := by
  refine T.ind (fun f l ih => ?_)
  intro w v hz hv
  have hv0 := hv
  have hlen := len_le_sizeL l
  have hz' := hz
  simp only [T.size] at hz'
  obtain ⟨hf, a, c, rfl, hc, hm, hl⟩ := hv
  have hf' := hf
  unfold I64 at hf'
  refine Calls.walk (l := [.agg #[.int .i64 f, .slice a l.length c], .int .i64 m]) Try.func69 rfl (by kernel_rfl) ?_
  refine WC.sub (K' := [(0, .agg #[.int .i64 f, .slice a l.length c]), (1, .int .i64 m)]) ⟨rfl, rfl, trivial⟩ ?_
  refine WC.seq ?_
  refine WC.region ?_
  refine WL.step (post := NewBlk w 35 #[.int .i64 f, .slice a l.length c]) rfl rfl rfl (fun za zC zh zk => box_35 rfl (zh.ev rfl) (zk _ _ (newBlk _ _ _))) ?_
  rintro _ w1 ⟨g2, rfl, hg3, hB4, hb5, hz6⟩
  have hl7 : w.heap.size ≤ g2 := by omega
  refine WL.asg rfl rfl rfl rfl rfl ?_
  refine WL.nil ?_
  refine WE.next ?_
  refine WC.seq ?_
  refine WC.seq ?_
  refine WC.region ?_
  refine WL.val _ rfl rfl rfl (fun za zC zh zk => fld_35_0 rfl (zh.ev rfl) zk) ?_
  refine WL.val _ rfl rfl rfl (fun za zC zh zk => ld_3 rfl (zh.ev rfl) ((hB4.cell 0).trans rfl) zk) ?_
  refine WL.val (.bool ((decide ((f : Int) < (0 : Int))))) rfl rfl rfl (fun za zC zh zk => lss_3 rfl (zh.ev rfl) (zh.ev rfl) zk) ?_
  refine WL.nil ?_
  refine WE.next ?_
  refine WC.cond rfl (fun h8 => ?_) (fun h8 => ?_)
  · have h8 : (f : Int) < (0 : Int) := by simpa using h8
    refine WC.seq ?_
    refine WC.opt [(true, .val (.pointer (some ⟨g2, 0, none⟩))), (true, .val (.int .i64 f)), (true, .val (.int .i64 m)), (true, .val (.int .i64 ((-m)))), (true, .val (.bool ((decide (((-m) : Int) ≤ (f : Int)))))), (true, .val (.bool ((decide (((-m) : Int) ≤ (f : Int)))))), ((true && (decide (((-m) : Int) ≤ (f : Int)))), .val (.pointer (some ⟨g2, 1, none⟩))), ((true && (decide (((-m) : Int) ≤ (f : Int)))), .val (.slice a l.length c)), ((true && (decide (((-m) : Int) ≤ (f : Int)))), .val (.int .i64 (((l.length : Nat) : Int)))), ((true && (decide (((-m) : Int) ≤ (f : Int)))), .val (.bool (((((l.length : Nat) : Int) : Int) == (0 : Int))))), (true, .val (.bool (((decide (((-m) : Int) ≤ (f : Int))) && ((((l.length : Nat) : Int) : Int) == (0 : Int)))))), (true, .val (.bool (((decide (((-m) : Int) ≤ (f : Int))) && ((((l.length : Nat) : Int) : Int) == (0 : Int))))))] [(0, .agg #[.int .i64 f, .slice a l.length c]), (1, .int .i64 m), (2, .pointer (some ⟨g2, 0, none⟩)), (8, .bool ((decide ((f : Int) < (0 : Int)))))] ⟨rfl, rfl, rfl, rfl, trivial⟩ (by kernel_rfl) (by kernel_rfl) (by kernel_rfl) ?_ ?_
    · refine ⟨⟨true, .none rfl, fun h w => optUndef h, fun zβ za zw zc => ?_⟩, ?_⟩
      · exact fld_35_0 rfl (zc.kn.ev rfl) ⟨_, rfl, Below.refl _ _, optDef zβ rfl⟩
      refine ⟨⟨true, .none rfl, fun h w => optUndef h, fun zβ za zw zc => ?_⟩, ?_⟩
      · exact ld_3 rfl ((evt za 9).trans (optVal (zc.dep 0 9 (by kernel_rfl)) rfl rfl)) (bkeeps zc.below _ _ ((hB4.cell 0).trans rfl)) ⟨_, rfl, Below.refl _ _, optDef zβ rfl⟩
      refine ⟨⟨true, .none rfl, fun h w => optUndef h, fun zβ za zw zc => ?_⟩, ?_⟩
      · exact wp_move rfl (zc.kn.ev rfl) ⟨_, rfl, Below.refl _ _, optDef zβ rfl⟩
      refine ⟨⟨true, .none rfl, fun h w => optUndef h, fun zβ za zw zc => ?_⟩, ?_⟩
      · exact neg_int rfl ((evt za 11).trans (optVal (zc.dep 2 11 (by kernel_rfl)) rfl rfl)) (wrap_eq rfl (by omega) (by omega)) ⟨_, rfl, Below.refl _ _, optDef zβ rfl⟩
      refine ⟨⟨true, .none rfl, fun h w => optUndef h, fun zβ za zw zc => ?_⟩, ?_⟩
      · exact geq_3 rfl ((evt za 10).trans (optVal (zc.dep 1 10 (by kernel_rfl)) rfl rfl)) ((evt za 12).trans (optVal (zc.dep 3 12 (by kernel_rfl)) rfl rfl)) ⟨_, rfl, Below.refl _ _, optDef zβ rfl⟩
      refine ⟨⟨true, .none rfl, fun h w => optUndef h, fun zβ za zw zc => ?_⟩, ?_⟩
      · exact wp_move rfl ((evt za 13).trans (optVal (zc.dep 4 13 (by kernel_rfl)) rfl rfl)) ⟨_, rfl, Below.refl _ _, optDef zβ rfl⟩
      refine ⟨⟨_, .yes (d := true) rfl (fun v w h => h), fun h w => optUndef h, fun zβ za zw zc => ?_⟩, ?_⟩
      · exact fld_35_1 rfl (zc.kn.ev rfl) ⟨_, rfl, Below.refl _ _, optDef zβ rfl⟩
      refine ⟨⟨_, .yes (d := true) rfl (fun v w h => h), fun h w => optUndef h, fun zβ za zw zc => ?_⟩, ?_⟩
      · exact ld_25 rfl ((evt za 15).trans (optVal (zc.dep 6 15 (by kernel_rfl)) rfl zβ)) (bkeeps zc.below _ _ ((hB4.cell 1).trans rfl)) ⟨_, rfl, Below.refl _ _, optDef zβ rfl⟩
      refine ⟨⟨_, .yes (d := true) rfl (fun v w h => h), fun h w => optUndef h, fun zβ za zw zc => ?_⟩, ?_⟩
      · exact len_25 rfl ((evt za 16).trans (optVal (zc.dep 7 16 (by kernel_rfl)) rfl zβ)) ⟨_, rfl, Below.refl _ _, optDef zβ rfl⟩
      refine ⟨⟨_, .yes (d := true) rfl (fun v w h => h), fun h w => optUndef h, fun zβ za zw zc => ?_⟩, ?_⟩
      · exact eql_3 rfl ((evt za 17).trans (optVal (zc.dep 8 17 (by kernel_rfl)) rfl zβ)) (zc.kn.ev rfl) ⟨_, rfl, Below.refl _ _, optDef zβ rfl⟩
      refine ⟨⟨true, .none rfl, fun h w => optUndef h, fun zβ za zw zc => ?_⟩, ?_⟩
      · exact wp_and rfl ((evt za 14).trans (optVal (zc.dep 5 14 (by kernel_rfl)) rfl rfl)) (fun hp => ((evt za 18).trans (optVal (zc.dep 9 18 (by kernel_rfl)) rfl (bMk zβ hp)))) ⟨_, rfl, Below.refl _ _, optDef zβ rfl⟩
      refine ⟨⟨true, .none rfl, fun h w => optUndef h, fun zβ za zw zc => ?_⟩, ?_⟩
      · exact wp_assign rfl ((evt za 19).trans (optVal (zc.dep 10 19 (by kernel_rfl)) rfl rfl)) ⟨_, rfl, Below.refl _ _, optDef zβ rfl⟩
      exact trivial
    · intro za w9 zh hb10 zu
      have zh := zh.cons (d := 4) (v := .bool (((decide (((-m) : Int) ≤ (f : Int))) && ((((l.length : Nat) : Int) : Int) == (0 : Int))))) (optVal (zu 11 4 (by kernel_rfl)) rfl rfl)
      clear zu
      refine WE.go zh ?_
      refine WE.next ?_
      refine WC.ret ?_
      refine WE.thenRet ?_
      refine WE.ret1 rfl rfl ?_
      have hb11 : Below w.heap.size w w9 := (bstep hb5 hb10)
      refine ⟨_, rfl, congrArg Value.bool ?_, hb11⟩
      rw [T.low, if_pos (by simpa using h8)]
      rw [Bool.eq_iff_iff]; (try simp); (try omega)
  · have h8 : ¬ ((f : Int) < (0 : Int)) := by simpa using h8
    refine WC.skip ?_
    refine WE.next ?_
    refine WC.seq ?_
    refine WC.seq ?_
    refine WC.region ?_
    refine WL.asg rfl rfl rfl rfl rfl ?_
    refine WL.nil ?_
    refine WE.next ?_
    refine WC.block ?_
    refine WC.loop (X := Nat) (fun k => l.length - k) (fun k => [(0, .agg #[.int .i64 f, .slice a l.length c]), (1, .int .i64 m), (2, .pointer (some ⟨g2, 0, none⟩)), (5, .int .i64 (((k : Nat) : Int))), (8, .bool ((decide ((f : Int) < (0 : Int)))))]) (fun k w12 => k ≤ l.length ∧ (∀ i, i < k → (tget l i).low m = true) ∧ Below w.heap.size w w12 ∧ Blk w12 g2 35 #[.int .i64 f, .slice a l.length c]) 0 ⟨rfl, rfl, rfl, rfl, rfl, trivial⟩ ?_ ?_
    · exact ⟨Nat.zero_le _, fun i h => absurd h (Nat.not_lt_zero i), hb5, hB4⟩
    · rintro k w12 ⟨hk, hE, hb13, hB14⟩
      refine WC.seq ?_
      refine WC.seq ?_
      refine WC.region ?_
      refine WL.mv rfl rfl rfl rfl rfl ?_
      refine WL.val _ rfl rfl rfl (fun za zC zh zk => fld_35_1 rfl (zh.ev rfl) zk) ?_
      refine WL.val _ rfl rfl rfl (fun za zC zh zk => ld_25 rfl (zh.ev rfl) ((hB14.cell 1).trans rfl) zk) ?_
      refine WL.val (.int .i64 (((l.length : Nat) : Int))) rfl rfl rfl (fun za zC zh zk => len_25 rfl (zh.ev rfl) zk) ?_
      refine WL.val (.bool ((decide ((((k : Nat) : Int) : Int) < (((l.length : Nat) : Int) : Int))))) rfl rfl rfl (fun za zC zh zk => lss_3 rfl (zh.ev rfl) (zh.ev rfl) zk) ?_
      refine WL.nil ?_
      refine WE.next ?_
      refine WC.cond rfl (fun h15 => ?_) (fun h15 => ?_)
      · have h15 : (((k : Nat) : Int) : Int) < (((l.length : Nat) : Int) : Int) := by simpa using h15
        refine WC.skip ?_
        refine WE.next ?_
        refine WC.seq ?_
        refine WC.block ?_
        refine WC.seq ?_
        refine WC.region ?_
        refine WL.val _ rfl rfl rfl (fun za zC zh zk => fld_35_1 rfl (zh.ev rfl) zk) ?_
        refine WL.val _ rfl rfl rfl (fun za zC zh zk => ld_25 rfl (zh.ev rfl) ((hB14.cell 1).trans rfl) zk) ?_
        refine WL.mv rfl rfl rfl rfl rfl ?_
        obtain ⟨b16, o17, A18, C19, ha20, hc21⟩ := IsTs.open hl
        refine WL.val _ rfl rfl rfl (fun za zC zh zk => ix_25 (k := k) rfl (zh.ev rfl) (ha20 k (by first | omega | (simp; omega))) (zh.ev rfl) (by first | omega | (simp; omega)) zk) ?_
        refine WL.val _ rfl rfl rfl (fun za zC zh zk => ld_35 rfl (zh.ev rfl) (bkeeps hb13 _ _ (hc21 k (by first | omega | (simp; omega))).1) (bkeeps hb13 _ _ (hc21 k (by first | omega | (simp; omega))).2.1) zk) ?_
        refine WL.mv rfl rfl rfl rfl rfl ?_
        refine WL.call rfl rfl rfl (fun za zh zC => wp_call (by kernel_rfl) rfl (hv2 (zh.ev rfl) (zh.ev rfl))) (ih _ (tget_mem (by omega)) _ _ (size_at (by omega) hz) (IsT.below hb13 (hc21 k (by first | omega | (simp; omega))).2.2)) ?_
        rintro _ w23 ⟨rfl, hq22⟩
        refine WL.val (.bool ((!((tget l k).low m)))) rfl rfl rfl (fun za zC zh zk => wp_not rfl (zh.ev rfl) zk) ?_
        refine WL.nil ?_
        refine WE.next ?_
        refine WC.cond rfl (fun h24 => ?_) (fun h24 => ?_)
        · have h24 : ¬ (((tget l k).low m) = true) := by simpa using h24
          refine WC.seq ?_
          refine WC.region ?_
          refine WL.asg rfl rfl rfl rfl rfl ?_
          refine WL.nil ?_
          refine WE.next ?_
          refine WC.ret ?_
          refine WE.blockRet ?_
          refine WE.thenRet ?_
          refine WE.thenRet ?_
          refine WE.blockRet ?_
          refine WE.thenRet ?_
          refine WE.ret1 rfl rfl ?_
          have hb25 : Below w.heap.size w w23 := (bstep hb13 hq22)
          exact ⟨_, rfl, congrArg Value.bool (low_no (k := k) (by simpa using h8) (by omega) (by simpa using h24)).symm, hb25⟩
        · have h24 : ¬ (¬ (((tget l k).low m) = true)) := by simpa using h24
          refine WC.skip ?_
          refine WE.blockNormal ?_
          refine WE.next ?_
          refine WC.region ?_
          refine WL.mv rfl rfl rfl rfl rfl ?_
          refine WL.val (.int .i64 ((((k + 1) : Nat) : Int))) rfl rfl rfl (fun za zC zh zk => addb_3 rfl (zh.ev rfl) (zh.ev rfl) (wrap_eq (by omega) (by omega) (by omega)) zk) ?_
          refine WL.asg rfl rfl rfl rfl rfl ?_
          refine WL.nil ?_
          refine WE.round (k + 1) ⟨rfl, rfl, rfl, rfl, rfl, trivial⟩ ?_ ?_
          · have hb26 : Below w.heap.size w w23 := (bstep hb13 hq22)
            have hB27 := hB14.below hq22
            exact ⟨by omega, fun i hi => by rcases Nat.lt_or_ge i k with q | q; exact hE i q; (obtain rfl : i = k := by omega); simpa using h24, hb26, hB27⟩
          · omega
      · have h15 : ¬ ((((k : Nat) : Int) : Int) < (((l.length : Nat) : Int) : Int)) := by simpa using h15
        refine WC.exit ?_
        refine WE.thenExit ?_
        refine WE.thenExit ?_
        refine WE.blockIs rfl ?_
        refine WE.next ?_
        refine WC.seq ?_
        refine WC.region ?_
        refine WL.asg rfl rfl rfl rfl rfl ?_
        refine WL.nil ?_
        refine WE.next ?_
        refine WC.ret ?_
        refine WE.ret1 rfl rfl ?_
        exact ⟨_, rfl, congrArg Value.bool (low_yes (by simpa using h8) (fun i hi => hE i (by omega))).symm, hb13⟩
set_option maxRecDepth 100000 in
theorem rsmall_any (t : T) (m : Int) (w : World) (v : Value) (hm0 : 0 ≤ m ∧ m ≤ 1099511627776) (hz : t.size ≤ 4294967296) (hv : IsT w t v) : Calls Try.prog 60 #[v, .int .i64 m] w (Ret fun v' w' => v' = .bool (t.small m) ∧ Below w.heap.size w w') := by
  have hv0 := hv
  obtain ⟨hf, a, c, rfl, _, _, _⟩ := hv.form
  refine Calls.walk (l := [.agg #[.int .i64 t.f, .slice a t.args.length c], .int .i64 m]) Try.func60 rfl (by kernel_rfl) ?_
  refine WC.sub (K' := [(0, .agg #[.int .i64 t.f, .slice a t.args.length c]), (1, .int .i64 m)]) ⟨rfl, rfl, trivial⟩ ?_
  refine WC.seq ?_
  refine WC.region ?_
  refine WL.step (post := NewBlk w 35 #[.int .i64 t.f, .slice a t.args.length c]) rfl rfl rfl (fun za zC zh zk => box_35 rfl (zh.ev rfl) (zk _ _ (newBlk _ _ _))) ?_
  rintro _ w1 ⟨g2, rfl, hg3, hB4, hb5, hz6⟩
  have hl7 : w.heap.size ≤ g2 := by omega
  refine WL.asg rfl rfl rfl rfl rfl ?_
  refine WL.nil ?_
  refine WE.next ?_
  refine WC.seq ?_
  refine WC.opt [(true, .val (.agg #[.int .i64 t.f, .slice a t.args.length c])), (true, .val (.int .i64 (((t.size : Nat) : Int)))), (true, .val (.bool ((decide ((((t.size : Nat) : Int) : Int) ≤ (300 : Int)))))), (true, .val (.bool ((decide ((((t.size : Nat) : Int) : Int) ≤ (300 : Int)))))), ((true && (decide ((((t.size : Nat) : Int) : Int) ≤ (300 : Int)))), .val (.agg #[.int .i64 t.f, .slice a t.args.length c])), ((true && (decide ((((t.size : Nat) : Int) : Int) ≤ (300 : Int)))), .val (.int .i64 (((t.dep : Nat) : Int)))), ((true && (decide ((((t.size : Nat) : Int) : Int) ≤ (300 : Int)))), .val (.bool ((decide ((((t.dep : Nat) : Int) : Int) ≤ (30 : Int)))))), (true, .val (.bool (((decide ((((t.size : Nat) : Int) : Int) ≤ (300 : Int))) && (decide ((((t.dep : Nat) : Int) : Int) ≤ (30 : Int))))))), (true, .val (.bool (((decide ((((t.size : Nat) : Int) : Int) ≤ (300 : Int))) && (decide ((((t.dep : Nat) : Int) : Int) ≤ (30 : Int))))))), ((true && ((decide ((((t.size : Nat) : Int) : Int) ≤ (300 : Int))) && (decide ((((t.dep : Nat) : Int) : Int) ≤ (30 : Int))))), .val (.agg #[.int .i64 t.f, .slice a t.args.length c])), ((true && ((decide ((((t.size : Nat) : Int) : Int) ≤ (300 : Int))) && (decide ((((t.dep : Nat) : Int) : Int) ≤ (30 : Int))))), .val (.int .i64 m)), ((true && ((decide ((((t.size : Nat) : Int) : Int) ≤ (300 : Int))) && (decide ((((t.dep : Nat) : Int) : Int) ≤ (30 : Int))))), .val (.bool ((t.low m)))), (true, .val (.bool ((((decide ((((t.size : Nat) : Int) : Int) ≤ (300 : Int))) && (decide ((((t.dep : Nat) : Int) : Int) ≤ (30 : Int)))) && (t.low m))))), (true, .val (.bool ((((decide ((((t.size : Nat) : Int) : Int) ≤ (300 : Int))) && (decide ((((t.dep : Nat) : Int) : Int) ≤ (30 : Int)))) && (t.low m)))))] [(0, .agg #[.int .i64 t.f, .slice a t.args.length c]), (1, .int .i64 m), (2, .pointer (some ⟨g2, 0, none⟩))] ⟨rfl, rfl, rfl, trivial⟩ (by kernel_rfl) (by kernel_rfl) (by kernel_rfl) ?_ ?_
  · refine ⟨⟨true, .none rfl, fun h w => optUndef h, fun zβ za zw zc => ?_⟩, ?_⟩
    · exact ld_35 rfl (zc.kn.ev rfl) (bkeeps zc.below _ _ ((hB4.cell 0).trans rfl)) (bkeeps zc.below _ _ ((hB4.cell 1).trans rfl)) ⟨_, rfl, Below.refl _ _, optDef zβ rfl⟩
    refine ⟨⟨true, .none rfl, fun h w => optUndef h, fun zβ za zw zc => ?_⟩, ?_⟩
    · exact wp_call (by kernel_rfl) rfl (hv1 ((evt za 5).trans (optVal (zc.dep 0 5 (by kernel_rfl)) rfl rfl))) (rsize_any t _ _ hz (IsT.below (bstep hb5 zc.below) hv0)) (fun v w' h => ⟨v, rfl, h.2, optDef zβ h.1⟩)
    refine ⟨⟨true, .none rfl, fun h w => optUndef h, fun zβ za zw zc => ?_⟩, ?_⟩
    · exact leq_3 rfl ((evt za 6).trans (optVal (zc.dep 1 6 (by kernel_rfl)) rfl rfl)) (zc.kn.ev rfl) ⟨_, rfl, Below.refl _ _, optDef zβ rfl⟩
    refine ⟨⟨true, .none rfl, fun h w => optUndef h, fun zβ za zw zc => ?_⟩, ?_⟩
    · exact wp_move rfl ((evt za 7).trans (optVal (zc.dep 2 7 (by kernel_rfl)) rfl rfl)) ⟨_, rfl, Below.refl _ _, optDef zβ rfl⟩
    refine ⟨⟨_, .yes (d := true) rfl (fun v w h => h), fun h w => optUndef h, fun zβ za zw zc => ?_⟩, ?_⟩
    · exact ld_35 rfl (zc.kn.ev rfl) (bkeeps zc.below _ _ ((hB4.cell 0).trans rfl)) (bkeeps zc.below _ _ ((hB4.cell 1).trans rfl)) ⟨_, rfl, Below.refl _ _, optDef zβ rfl⟩
    refine ⟨⟨_, .yes (d := true) rfl (fun v w h => h), fun h w => optUndef h, fun zβ za zw zc => ?_⟩, ?_⟩
    · exact wp_call (by kernel_rfl) rfl (hv1 ((evt za 9).trans (optVal (zc.dep 4 9 (by kernel_rfl)) rfl zβ))) (rdepth_any t _ _ hz (IsT.below (bstep hb5 zc.below) hv0)) (fun v w' h => ⟨v, rfl, h.2, optDef zβ h.1⟩)
    refine ⟨⟨_, .yes (d := true) rfl (fun v w h => h), fun h w => optUndef h, fun zβ za zw zc => ?_⟩, ?_⟩
    · exact leq_3 rfl ((evt za 10).trans (optVal (zc.dep 5 10 (by kernel_rfl)) rfl zβ)) (zc.kn.ev rfl) ⟨_, rfl, Below.refl _ _, optDef zβ rfl⟩
    refine ⟨⟨true, .none rfl, fun h w => optUndef h, fun zβ za zw zc => ?_⟩, ?_⟩
    · exact wp_and rfl ((evt za 8).trans (optVal (zc.dep 3 8 (by kernel_rfl)) rfl rfl)) (fun hp => ((evt za 11).trans (optVal (zc.dep 6 11 (by kernel_rfl)) rfl (bMk zβ hp)))) ⟨_, rfl, Below.refl _ _, optDef zβ rfl⟩
    refine ⟨⟨true, .none rfl, fun h w => optUndef h, fun zβ za zw zc => ?_⟩, ?_⟩
    · exact wp_move rfl ((evt za 12).trans (optVal (zc.dep 7 12 (by kernel_rfl)) rfl rfl)) ⟨_, rfl, Below.refl _ _, optDef zβ rfl⟩
    refine ⟨⟨_, .yes (d := true) rfl (fun v w h => h), fun h w => optUndef h, fun zβ za zw zc => ?_⟩, ?_⟩
    · exact ld_35 rfl (zc.kn.ev rfl) (bkeeps zc.below _ _ ((hB4.cell 0).trans rfl)) (bkeeps zc.below _ _ ((hB4.cell 1).trans rfl)) ⟨_, rfl, Below.refl _ _, optDef zβ rfl⟩
    refine ⟨⟨_, .yes (d := true) rfl (fun v w h => h), fun h w => optUndef h, fun zβ za zw zc => ?_⟩, ?_⟩
    · exact wp_move rfl (zc.kn.ev rfl) ⟨_, rfl, Below.refl _ _, optDef zβ rfl⟩
    refine ⟨⟨_, .yes (d := true) rfl (fun v w h => h), fun h w => optUndef h, fun zβ za zw zc => ?_⟩, ?_⟩
    · exact wp_call (by kernel_rfl) rfl (hv2 ((evt za 14).trans (optVal (zc.dep 9 14 (by kernel_rfl)) rfl zβ)) ((evt za 15).trans (optVal (zc.dep 10 15 (by kernel_rfl)) rfl zβ))) (rlow_any m hm0 t _ _ hz (IsT.below (bstep hb5 zc.below) hv0)) (fun v w' h => ⟨v, rfl, h.2, optDef zβ h.1⟩)
    refine ⟨⟨true, .none rfl, fun h w => optUndef h, fun zβ za zw zc => ?_⟩, ?_⟩
    · exact wp_and rfl ((evt za 13).trans (optVal (zc.dep 8 13 (by kernel_rfl)) rfl rfl)) (fun hp => ((evt za 16).trans (optVal (zc.dep 11 16 (by kernel_rfl)) rfl (bMk zβ hp)))) ⟨_, rfl, Below.refl _ _, optDef zβ rfl⟩
    refine ⟨⟨true, .none rfl, fun h w => optUndef h, fun zβ za zw zc => ?_⟩, ?_⟩
    · exact wp_assign rfl ((evt za 17).trans (optVal (zc.dep 12 17 (by kernel_rfl)) rfl rfl)) ⟨_, rfl, Below.refl _ _, optDef zβ rfl⟩
    exact trivial
  · intro za w11 zh hb12 zu
    have zh := zh.cons (d := 4) (v := .bool ((((decide ((((t.size : Nat) : Int) : Int) ≤ (300 : Int))) && (decide ((((t.dep : Nat) : Int) : Int) ≤ (30 : Int)))) && (t.low m)))) (optVal (zu 13 4 (by kernel_rfl)) rfl rfl)
    clear zu
    refine WE.go zh ?_
    refine WE.next ?_
    refine WC.ret ?_
    refine WE.ret1 rfl rfl ?_
    have hb13 : Below w.heap.size w w11 := (bstep hb5 hb12)
    refine ⟨_, rfl, congrArg Value.bool ?_, hb13⟩
    unfold T.small
    rw [Bool.eq_iff_iff]; simp; omega
/-- A row of integers that came in, or was made. -/
structure IsIs (w : World) (l : List Int) (a : Option Addr) (c : Nat) : Prop where
  rows : InRow eltI (fun _ => True) w l a
  len : l.length ≤ c
  cap : c ≤ maxLen
theorem IsIs.below {w w' : World} {l : List Int} {a : Option Addr} {c : Nat} (h : IsIs w l a c) (hb : Below w.heap.size w w') : IsIs w' l a c := ⟨h.rows.below hb, h.len, h.cap⟩
theorem varsOf_snoc {l0 l : List Int} {q : Int → Prop} {x : Int} (h : VarsIn l0 q l) (hx : x ∈ l0 ∨ q x) : VarsIn l0 q (l ++ [x]) := fun y hy => by
  rcases List.mem_append.1 hy with z | z
  · exact h y z
  · rw [List.mem_singleton] at z; rw [z]; exact hx
theorem iget_in {l : List Int} {k : Nat} (h : k < l.length) : l.getD k 0 ∈ l := by rw [List.getD_eq_getElem?_getD, List.getElem?_eq_getElem h]; exact List.getElem_mem h
set_option maxRecDepth 100000 in
theorem insert_any (l : List Int) (m : Int) (w : World) (a : Option Addr) (c : Nat) (hl : IsIs w l a c) (hz : l.length ≤ 4294967296) : Calls Try.prog 70 #[.slice a l.length c, .int .i64 m] w (Ret fun v' w' => (∃ R a' c', v' = .slice a' R.length c' ∧ IsIs w' R a' c' ∧ VarsIn l (fun x => x = m) R ∧ R.length ≤ l.length + 1 ∧ R ≠ []) ∧ Below w.heap.size w w') := by
  have hcap := hl.cap
  have hlen := hl.len
  unfold maxLen at hcap
  refine Calls.walk (l := [.slice a l.length c, .int .i64 m]) Try.func70 rfl (by kernel_rfl) ?_
  refine WC.sub (K' := [(0, .slice a l.length c), (1, .int .i64 m)]) ⟨rfl, rfl, trivial⟩ ?_
  refine WC.seq ?_
  refine WC.region ?_
  refine WL.asg rfl rfl rfl rfl rfl ?_
  refine WL.nil ?_
  refine WE.next ?_
  refine WC.seq ?_
  refine WC.region ?_
  refine WL.asg rfl rfl rfl rfl rfl ?_
  refine WL.nil ?_
  refine WE.next ?_
  refine WC.seq ?_
  refine WC.region ?_
  refine WL.asg rfl rfl rfl rfl rfl ?_
  refine WL.nil ?_
  refine WE.next ?_
  refine WC.seq ?_
  refine WC.seq ?_
  refine WC.region ?_
  refine WL.asg rfl rfl rfl rfl rfl ?_
  refine WL.nil ?_
  refine WE.next ?_
  refine WC.block ?_
  have hR1 : RowE eltI w w.heap.size 3 none 0 0 [] := RowE.nil
  refine WC.loop (X := Nat × Option Addr × Nat × Nat × Bool × List Int) (fun x => l.length - x.1) (fun x => [(0, .slice a l.length c), (1, .int .i64 m), (5, .slice x.2.1 x.2.2.2.1 x.2.2.1), (6, .bool x.2.2.2.2.1), (7, .int .i64 (((x.1 : Nat) : Int)))]) (fun x w2 => x.1 ≤ l.length ∧ w.heap.size ≤ (w2).heap.size ∧ VarsIn l (fun y => y = m) x.2.2.2.2.2 ∧ x.2.2.2.1 ≤ x.1 + (if x.2.2.2.2.1 = true then 1 else 0) ∧ (x.2.2.2.2.1 = true → x.2.2.2.2.2 ≠ []) ∧ Below w.heap.size w w2 ∧ RowE eltI (w2) w.heap.size 3 x.2.1 x.2.2.1 x.2.2.2.1 x.2.2.2.2.2) ((0, none, 0, 0, false, [])) ⟨rfl, rfl, rfl, rfl, rfl, trivial⟩ ?_ ?_
  · exact ⟨Nat.zero_le _, Nat.le_refl _, fun y hy => (nomatch hy), Nat.zero_le _, (fun e => nomatch e), (Below.refl _ _), hR1⟩
  · rintro x w2 ⟨hk, hBw, hvo, hnn, hne, hb3, ho4⟩
    have hRl := ho4.len
    refine WC.seq ?_
    refine WC.seq ?_
    refine WC.region ?_
    refine WL.mv rfl rfl rfl rfl rfl ?_
    refine WL.mv rfl rfl rfl rfl rfl ?_
    refine WL.val (.int .i64 (((l.length : Nat) : Int))) rfl rfl rfl (fun za zC zh zk => len_31 rfl (zh.ev rfl) zk) ?_
    refine WL.val (.bool ((decide ((((x.1 : Nat) : Int) : Int) < (((l.length : Nat) : Int) : Int))))) rfl rfl rfl (fun za zC zh zk => lss_3 rfl (zh.ev rfl) (zh.ev rfl) zk) ?_
    refine WL.nil ?_
    refine WE.next ?_
    refine WC.cond rfl (fun h5 => ?_) (fun h5 => ?_)
    · have h5 : (((x.1 : Nat) : Int) : Int) < (((l.length : Nat) : Int) : Int) := by simpa using h5
      refine WC.skip ?_
      refine WE.next ?_
      refine WC.seq ?_
      refine WC.block ?_
      refine WC.seq ?_
      refine WC.seq ?_
      refine WC.region ?_
      refine WL.mv rfl rfl rfl rfl rfl ?_
      refine WL.mv rfl rfl rfl rfl rfl ?_
      obtain ⟨b6, o7, ha8, hc9⟩ := InRow.openI (hl.rows.below hb3)
      refine WL.val _ rfl rfl rfl (fun za zC zh zk => ix_31 (k := x.1) rfl (zh.ev rfl) (ha8 x.1 (by omega)) (zh.ev rfl) (by first | omega | (simp; omega)) zk) ?_
      refine WL.val _ rfl rfl rfl (fun za zC zh zk => ld_3 rfl (zh.ev rfl) (hc9 x.1 (by omega)) zk) ?_
      refine WL.mv rfl rfl rfl rfl rfl ?_
      refine WL.val (.bool ((((List.getD l x.1 0) : Int) == (m : Int)))) rfl rfl rfl (fun za zC zh zk => eql_3 rfl (zh.ev rfl) (zh.ev rfl) zk) ?_
      refine WL.nil ?_
      refine WE.next ?_
      refine WC.cond rfl (fun h10 => ?_) (fun h10 => ?_)
      · have h10 : ((List.getD l x.1 0) : Int) = (m : Int) := by simpa using h10
        refine WC.seq ?_
        refine WC.region ?_
        refine WL.mv rfl rfl rfl rfl rfl ?_
        refine WL.asg rfl rfl rfl rfl rfl ?_
        refine WL.nil ?_
        refine WE.next ?_
        refine WC.ret ?_
        refine WE.thenRet ?_
        refine WE.blockRet ?_
        refine WE.thenRet ?_
        refine WE.thenRet ?_
        refine WE.blockRet ?_
        refine WE.thenRet ?_
        refine WE.ret1 rfl rfl ?_
        exact ⟨_, rfl, ⟨l, _, _, rfl, hl.below hb3, fun y hy => .inl hy, by omega, fun e => by have z : l.length = 0 := (by rw [e]; rfl); omega⟩, hb3⟩
      · have h10 : ¬ (((List.getD l x.1 0) : Int) = (m : Int)) := by simpa using h10
        refine WC.skip ?_
        refine WE.next ?_
        refine WC.seq ?_
        refine WC.seq ?_
        refine WC.opt [(true, .val (.slice a l.length c)), (true, .val (.int .i64 (((x.1 : Nat) : Int)))), (true, .val (.pointer (some ⟨b6, o7 + x.1, none⟩))), (true, .val (.int .i64 ((List.getD l x.1 0)))), (true, .val (.int .i64 m)), (true, .val (.bool ((decide ((m : Int) < ((List.getD l x.1 0) : Int)))))), (true, .val (.bool ((decide ((m : Int) < ((List.getD l x.1 0) : Int)))))), ((true && (decide ((m : Int) < ((List.getD l x.1 0) : Int)))), .val (.bool x.2.2.2.2.1)), ((true && (decide ((m : Int) < ((List.getD l x.1 0) : Int)))), .val (.bool ((!x.2.2.2.2.1)))), (true, .val (.bool (((decide ((m : Int) < ((List.getD l x.1 0) : Int))) && (!x.2.2.2.2.1)))))] [(0, .slice a l.length c), (1, .int .i64 m), (5, .slice x.2.1 x.2.2.2.1 x.2.2.1), (6, .bool x.2.2.2.2.1), (7, .int .i64 (((x.1 : Nat) : Int))), (11, .bool ((decide ((((x.1 : Nat) : Int) : Int) < (((l.length : Nat) : Int) : Int))))), (19, .bool ((((List.getD l x.1 0) : Int) == (m : Int))))] ⟨rfl, rfl, rfl, rfl, rfl, rfl, rfl, trivial⟩ (by kernel_rfl) (by kernel_rfl) (by kernel_rfl) ?_ ?_
        · refine ⟨⟨true, .none rfl, fun h w => optUndef h, fun zβ za zw zc => ?_⟩, ?_⟩
          · exact wp_move rfl (zc.kn.ev rfl) ⟨_, rfl, Below.refl _ _, optDef zβ rfl⟩
          refine ⟨⟨true, .none rfl, fun h w => optUndef h, fun zβ za zw zc => ?_⟩, ?_⟩
          · exact wp_move rfl (zc.kn.ev rfl) ⟨_, rfl, Below.refl _ _, optDef zβ rfl⟩
          refine ⟨⟨true, .none rfl, fun h w => optUndef h, fun zβ za zw zc => ?_⟩, ?_⟩
          · exact ix_31 (k := x.1) rfl ((evt za 21).trans (optVal (zc.dep 0 21 (by kernel_rfl)) rfl rfl)) (ha8 x.1 (by omega)) ((evt za 22).trans (optVal (zc.dep 1 22 (by kernel_rfl)) rfl rfl)) (by first | omega | (simp; omega)) ⟨_, rfl, Below.refl _ _, optDef zβ rfl⟩
          refine ⟨⟨true, .none rfl, fun h w => optUndef h, fun zβ za zw zc => ?_⟩, ?_⟩
          · exact ld_3 rfl ((evt za 23).trans (optVal (zc.dep 2 23 (by kernel_rfl)) rfl rfl)) (bkeeps zc.below _ _ (hc9 x.1 (by omega))) ⟨_, rfl, Below.refl _ _, optDef zβ rfl⟩
          refine ⟨⟨true, .none rfl, fun h w => optUndef h, fun zβ za zw zc => ?_⟩, ?_⟩
          · exact wp_move rfl (zc.kn.ev rfl) ⟨_, rfl, Below.refl _ _, optDef zβ rfl⟩
          refine ⟨⟨true, .none rfl, fun h w => optUndef h, fun zβ za zw zc => ?_⟩, ?_⟩
          · exact gtr_3 rfl ((evt za 24).trans (optVal (zc.dep 3 24 (by kernel_rfl)) rfl rfl)) ((evt za 25).trans (optVal (zc.dep 4 25 (by kernel_rfl)) rfl rfl)) ⟨_, rfl, Below.refl _ _, optDef zβ rfl⟩
          refine ⟨⟨true, .none rfl, fun h w => optUndef h, fun zβ za zw zc => ?_⟩, ?_⟩
          · exact wp_move rfl ((evt za 26).trans (optVal (zc.dep 5 26 (by kernel_rfl)) rfl rfl)) ⟨_, rfl, Below.refl _ _, optDef zβ rfl⟩
          refine ⟨⟨_, .yes (d := true) rfl (fun v w h => h), fun h w => optUndef h, fun zβ za zw zc => ?_⟩, ?_⟩
          · exact wp_move rfl (zc.kn.ev rfl) ⟨_, rfl, Below.refl _ _, optDef zβ rfl⟩
          refine ⟨⟨_, .yes (d := true) rfl (fun v w h => h), fun h w => optUndef h, fun zβ za zw zc => ?_⟩, ?_⟩
          · exact wp_not rfl ((evt za 28).trans (optVal (zc.dep 7 28 (by kernel_rfl)) rfl zβ)) ⟨_, rfl, Below.refl _ _, optDef zβ rfl⟩
          refine ⟨⟨true, .none rfl, fun h w => optUndef h, fun zβ za zw zc => ?_⟩, ?_⟩
          · exact wp_and rfl ((evt za 27).trans (optVal (zc.dep 6 27 (by kernel_rfl)) rfl rfl)) (fun hp => ((evt za 29).trans (optVal (zc.dep 8 29 (by kernel_rfl)) rfl (bMk zβ hp)))) ⟨_, rfl, Below.refl _ _, optDef zβ rfl⟩
          exact trivial
        · intro za w11 zh hb12 zu
          have zh := zh.cons (d := 30) (v := .bool (((decide ((m : Int) < ((List.getD l x.1 0) : Int))) && (!x.2.2.2.2.1)))) (optVal (zu 9 30 (by kernel_rfl)) rfl rfl)
          clear zu
          refine WE.go zh ?_
          refine WE.next ?_
          refine WC.cond rfl (fun h13 => ?_) (fun h13 => ?_)
          · have h13 : ((m : Int) < ((List.getD l x.1 0) : Int)) ∧ (¬ (x.2.2.2.2.1 = true)) := by simpa using h13
            have hdn : x.2.2.2.2.1 = false := by have z := (h13).2; simpa using z
            refine WC.seq ?_
            have hi114 : (if x.2.2.2.2.1 = true then 1 else 0) ≤ 1 := by split <;> omega
            have ho15 := ho4.below hb12
            have hSlt : ∀ b, (fun b => (Value.slice x.2.1 x.2.2.2.1 x.2.2.1).ownBlock = some b) b → b < w11.heap.size := fun b h => (ho15.lt b h).2
            have hSlo : ∀ b, (fun b => (Value.slice x.2.1 x.2.2.2.1 x.2.2.1).ownBlock = some b) b → w.heap.size ≤ b ∧ b < w2.heap.size := fun b h => ho4.lt b h
            have hBW : w.heap.size ≤ w11.heap.size := by have z1 := (Nat.le_trans hBw hb12.size); omega
            have hlL : x.2.2.2.1 = (x.2.2.2.2.2).length := ho15.len
            refine WC.tail3 (S := ((fun b => (Value.slice x.2.1 x.2.2.2.1 x.2.2.1).ownBlock = some b))) [(true, .val (.slice x.2.1 x.2.2.2.1 x.2.2.1)), (true, .val (.int .i64 m)), (true, .mem (fun v w' => OneRow eltI w11 3 m v w') (fun v w w' hc h => h.chg hc hSlt)), (true, .val undef), (true, .val undef)] [(0, .slice a l.length c), (1, .int .i64 m), (6, .bool x.2.2.2.2.1), (7, .int .i64 (((x.1 : Nat) : Int))), (11, .bool ((decide ((((x.1 : Nat) : Int) : Int) < (((l.length : Nat) : Int) : Int))))), (19, .bool ((((List.getD l x.1 0) : Int) == (m : Int)))), (30, .bool (((decide ((m : Int) < ((List.getD l x.1 0) : Int))) && (!x.2.2.2.2.1))))] 3 4 ((x.2.2.2.1 + 1)) 34 5 (fun ra rc wz => RowE eltI wz w.heap.size 3 ra rc (x.2.2.2.1 + 1) ((x.2.2.2.2.2 ++ [m]))) (by decide) (fun ra rc w w' hb h => h.below hb) ⟨rfl, rfl, rfl, rfl, rfl, rfl, rfl, trivial⟩ (by kernel_rfl) (by kernel_rfl) (by kernel_rfl) (by kernel_rfl) (by kernel_rfl) (by kernel_rfl) ?_ ?_
            · refine ⟨.inl ⟨rfl, true, .none rfl, (fun gg b h => by cases h), fun h w => optUndef h, fun zβ za zw zc => ?_⟩, ?_⟩
              · exact wp_move rfl ((evt za 5).trans (zc.old 5 _ rfl (by kernel_rfl))) ⟨_, rfl, Below.refl _ _, optDef zβ rfl⟩
              refine ⟨.inl ⟨rfl, true, .none rfl, (fun gg b h => by cases h), fun h w => optUndef h, fun zβ za zw zc => ?_⟩, ?_⟩
              · exact wp_move rfl (zc.kn.ev rfl) ⟨_, rfl, Below.refl _ _, optDef zβ rfl⟩
              refine ⟨.inl ⟨rfl, true, .none rfl, (fun gg b h => by cases h), fun h w => optUndef h, fun zβ za zw zc => ?_⟩, ?_⟩
              · exact row_31_1 rfl ((evt za 32).trans (optSVal (zc.dep 1 32 (by kernel_rfl) (by decide)) rfl rfl)) ⟨_, rfl, balloc _ _, optDef zβ ⟨_, [.int .i64 m], rfl, zc.chg.size, Blk.new' rfl, rfl⟩⟩
              refine ⟨.inr (.inl ⟨rfl, rfl, fun za zw zc => ?_⟩), ?_⟩
              · obtain ⟨g1, cs, e1, hg1, hB1, hin⟩ := (optSMem (zc.dep 2 33 (by kernel_rfl) (by decide)) rfl rfl)
                exact wp_appE (E := eltI) (size := 1) (bytes := 8) (z := .int .i64 0) rfl Try.underlying31 (by kernel_rfl) rfl (by decide) rfl ((evt za 31).trans (optSVal (zc.dep 0 31 (by kernel_rfl) (by decide)) rfl rfl)) ((evt za 33).trans e1) (ho15.below zc.below) hB1 (eltI.mono (fun b hb _ => ⟨by omega, fun e => by have z := (ho15.lt b e).2; omega⟩) hin) (by omega) (by omega) (by have z := zc.below.size; omega) (fun ra rc w' h1 h2 _ => ⟨ra, rc, rfl, h1, h2⟩)
              refine ⟨.inr (.inr ⟨rfl, rfl, 34, by kernel_rfl, rfl⟩), ?_⟩
              exact trivial
            · intro za w16 ra19 rc20 zh zv zv2 hG17 hc18 zu
              have zh := zh.cons (d := 5) zv2
              have hb21 : Below w.heap.size w w11 := (bstep hb3 hb12)
              have hb22 := chg_below hb21 hc18 (fun b hb => (fun h => by have h := hSlo _ h; (try dsimp only at *); omega))
              clear zu
              refine WE.go zh ?_
              refine WE.next ?_
              refine WC.region ?_
              refine WL.asg rfl rfl rfl rfl rfl ?_
              refine WL.nil ?_
              refine WE.next ?_
              have hi123 : (if x.2.2.2.2.1 = true then 1 else 0) ≤ 1 := by split <;> omega
              obtain ⟨b24, o25, ha26, hc27⟩ := InRow.openI (hl.rows.below hb22)
              have hSlt : ∀ b, (fun b => (Value.slice ra19 ((x.2.2.2.1 + 1)) rc20).ownBlock = some b) b → b < w16.heap.size := fun b h => (hG17.lt b h).2
              have hSlo : ∀ b, (fun b => (Value.slice ra19 ((x.2.2.2.1 + 1)) rc20).ownBlock = some b) b → w.heap.size ≤ b ∧ b < w16.heap.size := fun b h => hG17.lt b h
              have hBW : w.heap.size ≤ w16.heap.size := by have z1 := hb22.size; omega
              have hlL : (x.2.2.2.1 + 1) = ((x.2.2.2.2.2 ++ [m])).length := hG17.len
              refine WC.tail3 (S := ((fun b => (Value.slice ra19 ((x.2.2.2.1 + 1)) rc20).ownBlock = some b))) [(true, .val (.slice ra19 ((x.2.2.2.1 + 1)) rc20)), (true, .val (.slice a l.length c)), (true, .val (.int .i64 (((x.1 : Nat) : Int)))), (true, .val (.pointer (some ⟨b24, o25 + x.1, none⟩))), (true, .val (.int .i64 ((List.getD l x.1 0)))), (true, .mem (fun v w' => OneRow eltI w16 3 ((List.getD l x.1 0)) v w') (fun v w w' hc h => h.chg hc hSlt)), (true, .val undef), (true, .val undef)] [(0, .slice a l.length c), (1, .int .i64 m), (6, .bool true), (7, .int .i64 (((x.1 : Nat) : Int))), (11, .bool ((decide ((((x.1 : Nat) : Int) : Int) < (((l.length : Nat) : Int) : Int))))), (19, .bool ((((List.getD l x.1 0) : Int) == (m : Int)))), (30, .bool (((decide ((m : Int) < ((List.getD l x.1 0) : Int))) && (!x.2.2.2.2.1))))] 6 7 (((x.2.2.2.1 + 1) + 1)) 41 5 (fun ra rc wz => RowE eltI wz w.heap.size 3 ra rc ((x.2.2.2.1 + 1) + 1) (((x.2.2.2.2.2 ++ [m]) ++ [(List.getD l x.1 0)]))) (by decide) (fun ra rc w w' hb h => h.below hb) ⟨rfl, rfl, rfl, rfl, rfl, rfl, rfl, trivial⟩ (by kernel_rfl) (by kernel_rfl) (by kernel_rfl) (by kernel_rfl) (by kernel_rfl) (by kernel_rfl) ?_ ?_
              · refine ⟨.inl ⟨rfl, true, .none rfl, (fun gg b h => by cases h), fun h w => optUndef h, fun zβ za zw zc => ?_⟩, ?_⟩
                · exact wp_move rfl ((evt za 5).trans (zc.old 5 _ rfl (by kernel_rfl))) ⟨_, rfl, Below.refl _ _, optDef zβ rfl⟩
                refine ⟨.inl ⟨rfl, true, .none rfl, (fun gg b h => by cases h), fun h w => optUndef h, fun zβ za zw zc => ?_⟩, ?_⟩
                · exact wp_move rfl (zc.kn.ev rfl) ⟨_, rfl, Below.refl _ _, optDef zβ rfl⟩
                refine ⟨.inl ⟨rfl, true, .none rfl, (fun gg b h => by cases h), fun h w => optUndef h, fun zβ za zw zc => ?_⟩, ?_⟩
                · exact wp_move rfl (zc.kn.ev rfl) ⟨_, rfl, Below.refl _ _, optDef zβ rfl⟩
                refine ⟨.inl ⟨rfl, true, .none rfl, (fun gg b h => by cases h), fun h w => optUndef h, fun zβ za zw zc => ?_⟩, ?_⟩
                · exact ix_31 (k := x.1) rfl ((evt za 36).trans (optSVal (zc.dep 1 36 (by kernel_rfl) (by decide)) rfl rfl)) (ha26 x.1 (by omega)) ((evt za 37).trans (optSVal (zc.dep 2 37 (by kernel_rfl) (by decide)) rfl rfl)) (by first | omega | (simp; omega)) ⟨_, rfl, Below.refl _ _, optDef zβ rfl⟩
                refine ⟨.inl ⟨rfl, true, .none rfl, (fun gg b h => by cases h), fun h w => optUndef h, fun zβ za zw zc => ?_⟩, ?_⟩
                · exact ld_3 rfl ((evt za 38).trans (optSVal (zc.dep 3 38 (by kernel_rfl) (by decide)) rfl rfl)) (bkeeps (zc.early (by kernel_rfl)) _ _ (hc27 x.1 (by omega))) ⟨_, rfl, Below.refl _ _, optDef zβ rfl⟩
                refine ⟨.inl ⟨rfl, true, .none rfl, (fun gg b h => by cases h), fun h w => optUndef h, fun zβ za zw zc => ?_⟩, ?_⟩
                · exact row_31_1 rfl ((evt za 39).trans (optSVal (zc.dep 4 39 (by kernel_rfl) (by decide)) rfl rfl)) ⟨_, rfl, balloc _ _, optDef zβ ⟨_, [.int .i64 ((List.getD l x.1 0))], rfl, zc.chg.size, Blk.new' rfl, rfl⟩⟩
                refine ⟨.inr (.inl ⟨rfl, rfl, fun za zw zc => ?_⟩), ?_⟩
                · obtain ⟨g1, cs, e1, hg1, hB1, hin⟩ := (optSMem (zc.dep 5 40 (by kernel_rfl) (by decide)) rfl rfl)
                  exact wp_appE (E := eltI) (size := 1) (bytes := 8) (z := .int .i64 0) rfl Try.underlying31 (by kernel_rfl) rfl (by decide) rfl ((evt za 35).trans (optSVal (zc.dep 0 35 (by kernel_rfl) (by decide)) rfl rfl)) ((evt za 40).trans e1) (hG17.below zc.below) hB1 (eltI.mono (fun b hb _ => ⟨by omega, fun e => by have z := (hG17.lt b e).2; omega⟩) hin) (by omega) (by omega) (by have z := zc.below.size; omega) (fun ra rc w' h1 h2 _ => ⟨ra, rc, rfl, h1, h2⟩)
                refine ⟨.inr (.inr ⟨rfl, rfl, 41, by kernel_rfl, rfl⟩), ?_⟩
                exact trivial
              · intro za w28 ra31 rc32 zh zv zv2 hG29 hc30 zu
                have zh := zh.cons (d := 5) zv2
                have hb33 := chg_below hb22 hc30 (fun b hb => (fun h => by have h := hSlo _ h; (try dsimp only at *); omega))
                clear zu
                refine WE.go zh ?_
                refine WE.blockNormal ?_
                refine WE.next ?_
                refine WC.region ?_
                refine WL.mv rfl rfl rfl rfl rfl ?_
                refine WL.val (.int .i64 ((((x.1 + 1) : Nat) : Int))) rfl rfl rfl (fun za zC zh zk => addb_3 rfl (zh.ev rfl) (zh.ev rfl) (wrap_eq (by omega) (by omega) (by omega)) zk) ?_
                refine WL.asg rfl rfl rfl rfl rfl ?_
                refine WL.nil (WE.sub (K' := [(0, .slice a l.length c), (1, .int .i64 m), (5, .slice ra31 (((x.2.2.2.1 + 1) + 1)) rc32), (6, .bool true), (7, .int .i64 ((((x.1 + 1) : Nat) : Int))), (11, .bool ((decide ((((x.1 : Nat) : Int) : Int) < (((l.length : Nat) : Int) : Int))))), (19, .bool ((((List.getD l x.1 0) : Int) == (m : Int)))), (30, .bool (((decide ((m : Int) < ((List.getD l x.1 0) : Int))) && (!x.2.2.2.2.1))))]) ⟨rfl, rfl, rfl, rfl, rfl, rfl, rfl, rfl, trivial⟩ ?_)
                refine WE.round ((x.1 + 1, ra31, rc32, ((x.2.2.2.1 + 1) + 1), true, ((x.2.2.2.2.2 ++ [m]) ++ [(List.getD l x.1 0)]))) ⟨rfl, rfl, rfl, rfl, rfl, trivial⟩ ?_ ?_
                · exact ⟨by (try dsimp only); omega, hb33.size, (varsOf_snoc (varsOf_snoc hvo (.inr rfl)) (.inl (iget_in (by omega)))), by (try dsimp only); rw [if_pos rfl]; rw [hdn] at hnn; simp at hnn; omega, fun _ => by simp, hb33, hG29⟩
                · (try dsimp only); omega
          · have h13 : ¬ (((m : Int) < ((List.getD l x.1 0) : Int)) ∧ (¬ (x.2.2.2.2.1 = true))) := by simpa using h13
            refine WC.skip ?_
            refine WE.next ?_
            have hi134 : (if x.2.2.2.2.1 = true then 1 else 0) ≤ 1 := by split <;> omega
            have ho35 := ho4.below hb12
            have hb40 : Below w.heap.size w w11 := (bstep hb3 hb12)
            obtain ⟨b36, o37, ha38, hc39⟩ := InRow.openI (hl.rows.below hb40)
            have hSlt : ∀ b, (fun b => (Value.slice x.2.1 x.2.2.2.1 x.2.2.1).ownBlock = some b) b → b < w11.heap.size := fun b h => (ho35.lt b h).2
            have hSlo : ∀ b, (fun b => (Value.slice x.2.1 x.2.2.2.1 x.2.2.1).ownBlock = some b) b → w.heap.size ≤ b ∧ b < w2.heap.size := fun b h => ho4.lt b h
            have hBW : w.heap.size ≤ w11.heap.size := by have z1 := hb40.size; omega
            have hlL : x.2.2.2.1 = (x.2.2.2.2.2).length := ho35.len
            refine WC.tail3 (S := ((fun b => (Value.slice x.2.1 x.2.2.2.1 x.2.2.1).ownBlock = some b))) [(true, .val (.slice x.2.1 x.2.2.2.1 x.2.2.1)), (true, .val (.slice a l.length c)), (true, .val (.int .i64 (((x.1 : Nat) : Int)))), (true, .val (.pointer (some ⟨b36, o37 + x.1, none⟩))), (true, .val (.int .i64 ((List.getD l x.1 0)))), (true, .mem (fun v w' => OneRow eltI w11 3 ((List.getD l x.1 0)) v w') (fun v w w' hc h => h.chg hc hSlt)), (true, .val undef), (true, .val undef)] [(0, .slice a l.length c), (1, .int .i64 m), (6, .bool x.2.2.2.2.1), (7, .int .i64 (((x.1 : Nat) : Int))), (11, .bool ((decide ((((x.1 : Nat) : Int) : Int) < (((l.length : Nat) : Int) : Int))))), (19, .bool ((((List.getD l x.1 0) : Int) == (m : Int)))), (30, .bool (((decide ((m : Int) < ((List.getD l x.1 0) : Int))) && (!x.2.2.2.2.1))))] 6 7 ((x.2.2.2.1 + 1)) 41 5 (fun ra rc wz => RowE eltI wz w.heap.size 3 ra rc (x.2.2.2.1 + 1) ((x.2.2.2.2.2 ++ [(List.getD l x.1 0)]))) (by decide) (fun ra rc w w' hb h => h.below hb) ⟨rfl, rfl, rfl, rfl, rfl, rfl, rfl, trivial⟩ (by kernel_rfl) (by kernel_rfl) (by kernel_rfl) (by kernel_rfl) (by kernel_rfl) (by kernel_rfl) ?_ ?_
            · refine ⟨.inl ⟨rfl, true, .none rfl, (fun gg b h => by cases h), fun h w => optUndef h, fun zβ za zw zc => ?_⟩, ?_⟩
              · exact wp_move rfl ((evt za 5).trans (zc.old 5 _ rfl (by kernel_rfl))) ⟨_, rfl, Below.refl _ _, optDef zβ rfl⟩
              refine ⟨.inl ⟨rfl, true, .none rfl, (fun gg b h => by cases h), fun h w => optUndef h, fun zβ za zw zc => ?_⟩, ?_⟩
              · exact wp_move rfl (zc.kn.ev rfl) ⟨_, rfl, Below.refl _ _, optDef zβ rfl⟩
              refine ⟨.inl ⟨rfl, true, .none rfl, (fun gg b h => by cases h), fun h w => optUndef h, fun zβ za zw zc => ?_⟩, ?_⟩
              · exact wp_move rfl (zc.kn.ev rfl) ⟨_, rfl, Below.refl _ _, optDef zβ rfl⟩
              refine ⟨.inl ⟨rfl, true, .none rfl, (fun gg b h => by cases h), fun h w => optUndef h, fun zβ za zw zc => ?_⟩, ?_⟩
              · exact ix_31 (k := x.1) rfl ((evt za 36).trans (optSVal (zc.dep 1 36 (by kernel_rfl) (by decide)) rfl rfl)) (ha38 x.1 (by omega)) ((evt za 37).trans (optSVal (zc.dep 2 37 (by kernel_rfl) (by decide)) rfl rfl)) (by first | omega | (simp; omega)) ⟨_, rfl, Below.refl _ _, optDef zβ rfl⟩
              refine ⟨.inl ⟨rfl, true, .none rfl, (fun gg b h => by cases h), fun h w => optUndef h, fun zβ za zw zc => ?_⟩, ?_⟩
              · exact ld_3 rfl ((evt za 38).trans (optSVal (zc.dep 3 38 (by kernel_rfl) (by decide)) rfl rfl)) (bkeeps (zc.early (by kernel_rfl)) _ _ (hc39 x.1 (by omega))) ⟨_, rfl, Below.refl _ _, optDef zβ rfl⟩
              refine ⟨.inl ⟨rfl, true, .none rfl, (fun gg b h => by cases h), fun h w => optUndef h, fun zβ za zw zc => ?_⟩, ?_⟩
              · exact row_31_1 rfl ((evt za 39).trans (optSVal (zc.dep 4 39 (by kernel_rfl) (by decide)) rfl rfl)) ⟨_, rfl, balloc _ _, optDef zβ ⟨_, [.int .i64 ((List.getD l x.1 0))], rfl, zc.chg.size, Blk.new' rfl, rfl⟩⟩
              refine ⟨.inr (.inl ⟨rfl, rfl, fun za zw zc => ?_⟩), ?_⟩
              · obtain ⟨g1, cs, e1, hg1, hB1, hin⟩ := (optSMem (zc.dep 5 40 (by kernel_rfl) (by decide)) rfl rfl)
                exact wp_appE (E := eltI) (size := 1) (bytes := 8) (z := .int .i64 0) rfl Try.underlying31 (by kernel_rfl) rfl (by decide) rfl ((evt za 35).trans (optSVal (zc.dep 0 35 (by kernel_rfl) (by decide)) rfl rfl)) ((evt za 40).trans e1) (ho35.below zc.below) hB1 (eltI.mono (fun b hb _ => ⟨by omega, fun e => by have z := (ho35.lt b e).2; omega⟩) hin) (by omega) (by omega) (by have z := zc.below.size; omega) (fun ra rc w' h1 h2 _ => ⟨ra, rc, rfl, h1, h2⟩)
              refine ⟨.inr (.inr ⟨rfl, rfl, 41, by kernel_rfl, rfl⟩), ?_⟩
              exact trivial
            · intro za w41 ra44 rc45 zh zv zv2 hG42 hc43 zu
              have zh := zh.cons (d := 5) zv2
              have hb46 := chg_below hb40 hc43 (fun b hb => (fun h => by have h := hSlo _ h; (try dsimp only at *); omega))
              clear zu
              refine WE.go zh ?_
              refine WE.blockNormal ?_
              refine WE.next ?_
              refine WC.region ?_
              refine WL.mv rfl rfl rfl rfl rfl ?_
              refine WL.val (.int .i64 ((((x.1 + 1) : Nat) : Int))) rfl rfl rfl (fun za zC zh zk => addb_3 rfl (zh.ev rfl) (zh.ev rfl) (wrap_eq (by omega) (by omega) (by omega)) zk) ?_
              refine WL.asg rfl rfl rfl rfl rfl ?_
              refine WL.nil (WE.sub (K' := [(0, .slice a l.length c), (1, .int .i64 m), (5, .slice ra44 ((x.2.2.2.1 + 1)) rc45), (6, .bool x.2.2.2.2.1), (7, .int .i64 ((((x.1 + 1) : Nat) : Int))), (11, .bool ((decide ((((x.1 : Nat) : Int) : Int) < (((l.length : Nat) : Int) : Int))))), (19, .bool ((((List.getD l x.1 0) : Int) == (m : Int)))), (30, .bool (((decide ((m : Int) < ((List.getD l x.1 0) : Int))) && (!x.2.2.2.2.1))))]) ⟨rfl, rfl, rfl, rfl, rfl, rfl, rfl, rfl, trivial⟩ ?_)
              refine WE.round ((x.1 + 1, ra44, rc45, (x.2.2.2.1 + 1), x.2.2.2.2.1, (x.2.2.2.2.2 ++ [(List.getD l x.1 0)]))) ⟨rfl, rfl, rfl, rfl, rfl, trivial⟩ ?_ ?_
              · exact ⟨by (try dsimp only); omega, hb46.size, (varsOf_snoc hvo (.inl (iget_in (by omega)))), by (try dsimp only); omega, fun _ => by simp, hb46, hG42⟩
              · (try dsimp only); omega
    · have h5 : ¬ ((((x.1 : Nat) : Int) : Int) < (((l.length : Nat) : Int) : Int)) := by simpa using h5
      refine WC.exit ?_
      refine WE.thenExit ?_
      refine WE.thenExit ?_
      refine WE.blockIs rfl ?_
      refine WE.next ?_
      refine WC.seq ?_
      refine WC.seq ?_
      refine WC.region ?_
      refine WL.mv rfl rfl rfl rfl rfl ?_
      refine WL.val (.bool ((!x.2.2.2.2.1))) rfl rfl rfl (fun za zC zh zk => wp_not rfl (zh.ev rfl) zk) ?_
      refine WL.nil ?_
      refine WE.next ?_
      refine WC.cond rfl (fun h47 => ?_) (fun h47 => ?_)
      · have h47 : ¬ (x.2.2.2.2.1 = true) := by simpa using h47
        have hi148 : (if x.2.2.2.2.1 = true then 1 else 0) ≤ 1 := by split <;> omega
        have hSlt : ∀ b, (fun b => (Value.slice x.2.1 x.2.2.2.1 x.2.2.1).ownBlock = some b) b → b < w2.heap.size := fun b h => (ho4.lt b h).2
        have hSlo : ∀ b, (fun b => (Value.slice x.2.1 x.2.2.2.1 x.2.2.1).ownBlock = some b) b → w.heap.size ≤ b ∧ b < w2.heap.size := fun b h => ho4.lt b h
        have hBW : w.heap.size ≤ w2.heap.size := by have z1 := hBw; omega
        have hlL : x.2.2.2.1 = (x.2.2.2.2.2).length := ho4.len
        refine WC.tail3 (S := ((fun b => (Value.slice x.2.1 x.2.2.2.1 x.2.2.1).ownBlock = some b))) [(true, .val (.slice x.2.1 x.2.2.2.1 x.2.2.1)), (true, .val (.int .i64 m)), (true, .mem (fun v w' => OneRow eltI w2 3 m v w') (fun v w w' hc h => h.chg hc hSlt)), (true, .val undef), (true, .val undef)] [(0, .slice a l.length c), (1, .int .i64 m), (6, .bool x.2.2.2.2.1), (7, .int .i64 (((x.1 : Nat) : Int))), (11, .bool ((decide ((((x.1 : Nat) : Int) : Int) < (((l.length : Nat) : Int) : Int))))), (43, .bool ((!x.2.2.2.2.1)))] 3 4 ((x.2.2.2.1 + 1)) 47 5 (fun ra rc wz => RowE eltI wz w.heap.size 3 ra rc (x.2.2.2.1 + 1) ((x.2.2.2.2.2 ++ [m]))) (by decide) (fun ra rc w w' hb h => h.below hb) ⟨rfl, rfl, rfl, rfl, rfl, rfl, trivial⟩ (by kernel_rfl) (by kernel_rfl) (by kernel_rfl) (by kernel_rfl) (by kernel_rfl) (by kernel_rfl) ?_ ?_
        · refine ⟨.inl ⟨rfl, true, .none rfl, (fun gg b h => by cases h), fun h w => optUndef h, fun zβ za zw zc => ?_⟩, ?_⟩
          · exact wp_move rfl ((evt za 5).trans (zc.old 5 _ rfl (by kernel_rfl))) ⟨_, rfl, Below.refl _ _, optDef zβ rfl⟩
          refine ⟨.inl ⟨rfl, true, .none rfl, (fun gg b h => by cases h), fun h w => optUndef h, fun zβ za zw zc => ?_⟩, ?_⟩
          · exact wp_move rfl (zc.kn.ev rfl) ⟨_, rfl, Below.refl _ _, optDef zβ rfl⟩
          refine ⟨.inl ⟨rfl, true, .none rfl, (fun gg b h => by cases h), fun h w => optUndef h, fun zβ za zw zc => ?_⟩, ?_⟩
          · exact row_31_1 rfl ((evt za 45).trans (optSVal (zc.dep 1 45 (by kernel_rfl) (by decide)) rfl rfl)) ⟨_, rfl, balloc _ _, optDef zβ ⟨_, [.int .i64 m], rfl, zc.chg.size, Blk.new' rfl, rfl⟩⟩
          refine ⟨.inr (.inl ⟨rfl, rfl, fun za zw zc => ?_⟩), ?_⟩
          · obtain ⟨g1, cs, e1, hg1, hB1, hin⟩ := (optSMem (zc.dep 2 46 (by kernel_rfl) (by decide)) rfl rfl)
            exact wp_appE (E := eltI) (size := 1) (bytes := 8) (z := .int .i64 0) rfl Try.underlying31 (by kernel_rfl) rfl (by decide) rfl ((evt za 44).trans (optSVal (zc.dep 0 44 (by kernel_rfl) (by decide)) rfl rfl)) ((evt za 46).trans e1) (ho4.below zc.below) hB1 (eltI.mono (fun b hb _ => ⟨by omega, fun e => by have z := (ho4.lt b e).2; omega⟩) hin) (by omega) (by omega) (by have z := zc.below.size; omega) (fun ra rc w' h1 h2 _ => ⟨ra, rc, rfl, h1, h2⟩)
          refine ⟨.inr (.inr ⟨rfl, rfl, 47, by kernel_rfl, rfl⟩), ?_⟩
          exact trivial
        · intro za w49 ra52 rc53 zh zv zv2 hG50 hc51 zu
          have zh := zh.cons (d := 5) zv2
          have hb54 := chg_below hb3 hc51 (fun b hb => (fun h => by have h := hSlo _ h; (try dsimp only at *); omega))
          clear zu
          refine WE.go zh ?_
          refine WE.next ?_
          refine WC.seq ?_
          refine WC.region ?_
          refine WL.mv rfl rfl rfl rfl rfl ?_
          refine WL.asg rfl rfl rfl rfl rfl ?_
          refine WL.nil ?_
          refine WE.next ?_
          refine WC.ret ?_
          refine WE.ret1 rfl rfl ?_
          have hRo := (hG50).inRow
          have hi9 : (if x.2.2.2.2.1 = true then 1 else 0) ≤ 1 := by split <;> omega
          rw [hRo.2.1]
          refine ⟨_, rfl, ⟨_, _, _, rfl, ⟨hRo.1.mono (by decide) (fun _ _ _ => trivial), by omega, hRo.2.2.2⟩, (varsOf_snoc hvo (.inr rfl)), ?_, by simp⟩, hb54⟩
          rw [← hRo.2.1]; have z := h47; simp at z; rw [z] at hnn; simp at hnn; omega
      · have h47 : ¬ (¬ (x.2.2.2.2.1 = true)) := by simpa using h47
        refine WC.skip ?_
        refine WE.next ?_
        refine WC.seq ?_
        refine WC.region ?_
        refine WL.mv rfl rfl rfl rfl rfl ?_
        refine WL.asg rfl rfl rfl rfl rfl ?_
        refine WL.nil ?_
        refine WE.next ?_
        refine WC.ret ?_
        refine WE.ret1 rfl rfl ?_
        have hRo := (ho4).inRow
        have hi9 : (if x.2.2.2.2.1 = true then 1 else 0) ≤ 1 := by split <;> omega
        rw [hRo.2.1]
        refine ⟨_, rfl, ⟨_, _, _, rfl, ⟨hRo.1.mono (by decide) (fun _ _ _ => trivial), by omega, hRo.2.2.2⟩, hvo, ?_, hne (by have z := h47; simpa using z)⟩, hb3⟩
        rw [← hRo.2.1]; omega
end Go.Proofs.Ytbohlpfndiiimaa

/- May a term be? The document. -/
namespace Go.Proofs.Ytbohlpfndiiimaa
open Go.RowKit Go
set_option linter.unusedVariables false
set_option linter.unusedSimpArgs false
mutual
def T.ov (sg : List Sy) (top : Bool) : T → Bool
 | .mk f l => if f < 0 then true else nodeB sg top f l.length && T.ovL sg l
def T.ovL (sg : List Sy) : List T → Bool
 | [] => true
 | t :: r => t.ov sg false && T.ovL sg r
end
mutual
theorem ov_ovr (sg : List Sy) (m : Int) : ∀ (t : T) (top : Bool), t.low m = true → t.ov sg top = t.ovr sg top
 | .mk f l, top, h => by
  rw [T.low] at h
  rw [T.ov, T.ovr]
  by_cases c : f < 0
  ·rw [if_pos c] at h ⊢
   have hl : l = [] := by simp only [Bool.and_eq_true, decide_eq_true_eq] at h; exact List.length_eq_zero_iff.1 h.2
   subst hl
   unfold nodeB
   rw [if_pos c]; rfl
  ·rw [if_neg c] at h ⊢
   rw [ovL_ovrL sg m l h]
theorem ovL_ovrL (sg : List Sy) (m : Int) : ∀ (l : List T), T.lowL m l = true → T.ovL sg l = T.ovrL sg l
 | [], _ => rfl
 | t :: r, h => by
  rw [T.lowL, Bool.and_eq_true] at h
  rw [T.ovL, T.ovrL, ov_ovr sg m t false h.1, ovL_ovrL sg m r h.2]
end
theorem ovL_all (sg : List Sy) : ∀ l : List T, T.ovL sg l = l.all (T.ov sg false)
 | [] => rfl
 | t :: r => by rw [T.ovL, ovL_all sg r]; rfl
theorem ov_neg {sg : List Sy} {top : Bool} {f : Int} {l : List T} (h : f < 0) : (T.mk f l).ov sg top = true := by rw [T.ov, if_pos h]
theorem ov_no1 {sg : List Sy} {top : Bool} {f : Int} {l : List T} (h0 : ¬ f < 0) (h : nodeB sg top f l.length = false) : (T.mk f l).ov sg top = false := by rw [T.ov, if_neg h0, h]; rfl
theorem ov_no2 {sg : List Sy} {top : Bool} {f : Int} {l : List T} {k : Nat} (h0 : ¬ f < 0) (hk : k < l.length) (h : (tget l k).ov sg false = false) : (T.mk f l).ov sg top = false := by
 rw [T.ov, if_neg h0, ovL_all, List.all_eq_false.2 ⟨_, tget_mem hk, by rw [h]; decide⟩, Bool.and_false]
theorem ov_yes {sg : List Sy} {top : Bool} {f : Int} {l : List T} (h0 : ¬ f < 0) (h : nodeB sg top f l.length = true) (h2 : ∀ k, k < l.length → (tget l k).ov sg false = true) : (T.mk f l).ov sg top = true := by
 rw [T.ov, if_neg h0, h, ovL_all, Bool.true_and, List.all_eq_true]
 intro t ht
 obtain ⟨k, hk, rfl⟩ := List.getElem_of_mem ht
 rw [← tget_lt hk]; exact h2 k hk
theorem chkI_ref (sg : List Sy) (t : T) : (if sigCheck sg ≠ 0 ∨ ¬ t.small 48 = true ∨ ¬ t.ov sg true = true then (2 : Int) else 0) = chkI sg t := by
 unfold chkI chkB
 rw [smallB_small]
 by_cases h1 : sigCheck sg = 0
 ·by_cases h2 : t.small 48 = true
  ·have h3 : t.low 48 = true := by unfold T.small at h2; simp only [Bool.and_eq_true] at h2; exact h2.2
   rw [ov_ovr sg 48 t true h3]
   by_cases h4 : t.ovr sg true = true
   ·simp [h1, h2, h4]
   ·simp [h1, h2, h4]
  ·simp [h1, h2]
 ·simp [h1]
set_option maxRecDepth 100000 in
theorem rover_any (sg : List Sy) : ∀ (t : T) (top : Bool) (w : World) (vs v : Value), t.size ≤ 4294967296 → IsSig w sg vs → IsT w t v → Calls Try.prog 61 #[vs, v, .bool top] w (Ret fun v' w' => v' = .bool (t.ov sg top) ∧ Below w.heap.size w w') := by
 refine T.ind (fun f l ih => ?_)
 intro top w vs v hz hs hv
 have hst := hs
 have hlen := len_le_sizeL l
 have hz' := hz
 simp only [T.size] at hz'
 obtain ⟨sa, sc, rfl, _, _, hsys⟩ := hs
 obtain ⟨hf, a, c, rfl, hc, hm, hl⟩ := hv
 have hf' := hf
 unfold I64 at hf'
 refine Calls.walk (l := [.agg #[.slice sa sg.length sc], .agg #[.int .i64 f, .slice a l.length c], .bool top]) Try.func61 rfl (by kernel_rfl) ?_
 refine WC.sub (K' := [(0, .agg #[.slice sa sg.length sc]), (1, .agg #[.int .i64 f, .slice a l.length c]), (2, .bool top)]) ⟨rfl, rfl, rfl, trivial⟩ ?_
 refine WC.seq (WC.region ?_)
 refine WL.step (post := NewBlk w 24 #[.slice sa sg.length sc]) rfl rfl rfl (fun za zC zh zk => box_24 rfl (zh.ev rfl) (zk _ _ (newBlk _ _ _))) ?_
 rintro _ w1 ⟨g2, rfl, hg3, hB4, hb5, hz6⟩
 have hl7 : w.heap.size ≤ g2 := by omega
 refine WL.step (post := NewBlk w1 35 #[.int .i64 f, .slice a l.length c]) rfl rfl rfl (fun za zC zh zk => box_35 rfl (zh.ev rfl) (zk _ _ (newBlk _ _ _))) ?_
 rintro _ w8 ⟨g9, rfl, hg10, hB11, hb12, hz13⟩
 have hl14 : g2 < g9 := by have z1 := hB4.lt; omega
 have hl15 : w.heap.size ≤ g9 := by have z2 := (hb5).size; omega
 refine WL.asg rfl rfl rfl rfl rfl (WL.nil (WE.next (WC.seq (WC.seq (WC.region ?_)))))
 refine WL.val _ rfl rfl rfl (fun za zC zh zk => fld_35_0 rfl (zh.ev rfl) zk) ?_
 refine WL.val _ rfl rfl rfl (fun za zC zh zk => ld_3 rfl (zh.ev rfl) ((hB11.cell 0).trans rfl) zk) ?_
 refine WL.val (.bool ((decide ((f : Int) < (0 : Int))))) rfl rfl rfl (fun za zC zh zk => lss_3 rfl (zh.ev rfl) (zh.ev rfl) zk) ?_
 refine WL.nil (WE.next ?_)
 refine WC.cond rfl (fun h16 => ?_) (fun h16 => ?_)
 ·have h16 : (f : Int) < (0 : Int) := by simpa using h16
  refine WC.seq (WC.region (WL.asg rfl rfl rfl rfl rfl (WL.nil (WE.next (WC.ret (WE.thenRet (WE.ret1 rfl rfl ?_)))))))
  have hb17 : Below w.heap.size w w8 := (bstep hb5 hb12)
  exact ⟨_, rfl, congrArg Value.bool (Eq.symm (ov_neg (by omega))), hb17⟩
 ·have h16 : ¬ ((f : Int) < (0 : Int)) := by simpa using h16
  refine WC.skip (WE.next (WC.seq (WC.seq (WC.region ?_))))
  refine WL.val _ rfl rfl rfl (fun za zC zh zk => fld_35_0 rfl (zh.ev rfl) zk) ?_
  refine WL.val _ rfl rfl rfl (fun za zC zh zk => ld_3 rfl (zh.ev rfl) ((hB11.cell 0).trans rfl) zk) ?_
  refine WL.val _ rfl rfl rfl (fun za zC zh zk => fld_24_0 rfl (zh.ev rfl) zk) ?_
  have hB18 := hB4.below hb12
  refine WL.val _ rfl rfl rfl (fun za zC zh zk => ld_22 rfl (zh.ev rfl) ((hB18.cell 0).trans rfl) zk) ?_
  refine WL.val (.int .i64 (((sg.length : Nat) : Int))) rfl rfl rfl (fun za zC zh zk => len_22 rfl (zh.ev rfl) zk) ?_
  refine WL.val (.bool ((decide ((((sg.length : Nat) : Int) : Int) ≤ (f : Int))))) rfl rfl rfl (fun za zC zh zk => geq_3 rfl (zh.ev rfl) (zh.ev rfl) zk) ?_
  refine WL.nil (WE.next ?_)
  refine WC.cond rfl (fun h19 => ?_) (fun h19 => ?_)
  ·have h19 : (((sg.length : Nat) : Int) : Int) ≤ (f : Int) := by simpa using h19
   refine WC.seq (WC.region (WL.asg rfl rfl rfl rfl rfl (WL.nil (WE.next (WC.ret (WE.thenRet (WE.ret1 rfl rfl ?_)))))))
   have hb20 : Below w.heap.size w w8 := (bstep hb5 hb12)
   exact ⟨_, rfl, congrArg Value.bool (Eq.symm (ov_no1 (by omega) (by unfold nodeB; rw [if_neg (by omega), show decide (((f.toNat : Nat) : Int) < ((sg.length : Nat) : Int)) = false from decide_eq_false (by omega)]; simp))), hb20⟩
  ·have h19 : ¬ ((((sg.length : Nat) : Int) : Int) ≤ (f : Int)) := by simpa using h19
   refine WC.skip (WE.next (WC.seq ?_))
   have hf0 : ¬ f < 0 := by omega
   have hfl : f < ((sg.length : Nat) : Int) := by omega
   have hB21 : Blk w8 g9 35 #[.int .i64 ((f.toNat : Nat) : Int), .slice a l.length c] := by rw [show ((f.toNat : Nat) : Int) = f by omega]; exact hB11
   refine WC.region ?_
   refine WL.val _ rfl rfl rfl (fun za zC zh zk => fld_24_0 rfl (zh.ev rfl) zk) ?_
   refine WL.val _ rfl rfl rfl (fun za zC zh zk => ld_22 rfl (zh.ev rfl) ((hB18.cell 0).trans rfl) zk) ?_
   refine WL.val _ rfl rfl rfl (fun za zC zh zk => fld_35_0 rfl (zh.ev rfl) zk) ?_
   refine WL.val _ rfl rfl rfl (fun za zC zh zk => ld_3 rfl (zh.ev rfl) ((hB21.cell 0).trans rfl) zk) ?_
   obtain ⟨b22, o23, ha24, hc25⟩ := IsSys.open hsys
   refine WL.val _ rfl rfl rfl (fun za zC zh zk => ix_22 (k := f.toNat) rfl (zh.ev rfl) (ha24 f.toNat (by first | omega | (simp; omega))) (zh.ev rfl) (by first | omega | (simp; omega)) zk) ?_
   have hb26 : Below w.heap.size w w8 := (bstep hb5 hb12)
   refine WL.val _ rfl rfl rfl (fun za zC zh zk => ld_66 rfl (zh.ev rfl) (bkeeps hb26 _ _ (hc25 f.toNat (by first | omega | (simp; omega))).1) (bkeeps hb26 _ _ (hc25 f.toNat (by first | omega | (simp; omega))).2.1) (bkeeps hb26 _ _ (hc25 f.toNat (by first | omega | (simp; omega))).2.2) zk) ?_
   refine WL.step (post := NewBlk w8 66 #[.string (⟨#[]⟩), .int .i64 0, .bool false]) rfl rfl rfl (fun za zC zh zk => alloc_66 rfl (zk _ _ (newBlk _ _ _))) ?_
   rintro _ w27 ⟨g28, rfl, hg29, hB30, hb31, hz32⟩
   have hl33 : g2 < g28 := by have z1 := hB18.lt; omega
   have hl34 : g9 < g28 := by have z1 := hB21.lt; omega
   have hl35 : w.heap.size ≤ g28 := by have z2 := (hb26).size; omega
   refine WL.step (post := fun _ w' => Upd g28 w27 w' ∧ Blk w' g28 66 #[.string ((sget sg f.toNat).name), .int .i64 ((sget sg f.toNat).ar), .bool ((sget sg f.toNat).pred)]) rfl rfl rfl (fun za zC zh zk => st_66 rfl (zh.ev rfl) (zh.ev rfl) rfl rfl rfl hB30 (by first | decide | simp) (fun v => zk v _ ⟨((Upd.at_ _ _ _ _).trans (Upd.at_ _ _ _ _)).trans (Upd.at_ _ _ _ _), ((hB30.set_ 0 _).set_ 1 _).set_ 2 _⟩)) ?_
   rintro v39 w36 ⟨hu37, hB38⟩
   have hb40 : Below w.heap.size w w27 := (bstep hb26 hb31)
   have hb41 := upd_below hb40 hu37 (by omega)
   have hB42 := hB18.below hb31
   have hB43 := upd_blk hB42 hu37 (by omega)
   have hB44 := hB21.below hb31
   have hB45 := upd_blk hB44 hu37 (by omega)
   refine WL.nil (WE.next (WC.seq (WC.seq ?_)))
   refine WC.opt [(true, .val (.pointer (some ⟨g28, 1, none⟩))), (true, .val (.int .i64 ((sget sg f.toNat).ar))), (true, .val (.pointer (some ⟨g9, 1, none⟩))), (true, .val (.slice a l.length c)), (true, .val (.int .i64 (((l.length : Nat) : Int)))), (true, .val (.bool ((((sget sg f.toNat).ar : Int) != (((l.length : Nat) : Int) : Int))))), (true, .val (.bool ((((sget sg f.toNat).ar : Int) != (((l.length : Nat) : Int) : Int))))), ((true && !(((sget sg f.toNat).ar : Int) != (((l.length : Nat) : Int) : Int))), .val (.pointer (some ⟨g28, 2, none⟩))), ((true && !(((sget sg f.toNat).ar : Int) != (((l.length : Nat) : Int) : Int))), .val (.bool ((sget sg f.toNat).pred))), ((true && !(((sget sg f.toNat).ar : Int) != (((l.length : Nat) : Int) : Int))), .val (.bool ((sget sg f.toNat).pred))), (((true && !(((sget sg f.toNat).ar : Int) != (((l.length : Nat) : Int) : Int))) && (sget sg f.toNat).pred), .val (.bool top)), (((true && !(((sget sg f.toNat).ar : Int) != (((l.length : Nat) : Int) : Int))) && (sget sg f.toNat).pred), .val (.bool ((!top)))), ((true && !(((sget sg f.toNat).ar : Int) != (((l.length : Nat) : Int) : Int))), .val (.bool (((sget sg f.toNat).pred && (!top))))), (true, .val (.bool (((((sget sg f.toNat).ar : Int) != (((l.length : Nat) : Int) : Int)) || ((sget sg f.toNat).pred && (!top))))))] [(0, .agg #[.slice sa sg.length sc]), (1, .agg #[.int .i64 f, .slice a l.length c]), (2, .bool top), (3, .pointer (some ⟨g2, 0, none⟩)), (4, .pointer (some ⟨g9, 0, none⟩)), (6, .bool false), (7, .pointer (some ⟨g28, 0, none⟩)), (11, .bool ((decide ((f : Int) < (0 : Int))))), (17, .bool ((decide ((((sg.length : Nat) : Int) : Int) ≤ (f : Int)))))] ⟨rfl, rfl, rfl, rfl, rfl, rfl, rfl, rfl, rfl, trivial⟩ (by kernel_rfl) (by kernel_rfl) (by kernel_rfl) ?_ ?_
   ·refine ⟨⟨true, .none rfl, fun h w => optUndef h, fun zβ za zw zc => ?_⟩, ?_⟩
    ·exact fld_66_1 rfl (zc.kn.ev rfl) ⟨_, rfl, Below.refl _ _, optDef zβ rfl⟩
    refine ⟨⟨true, .none rfl, fun h w => optUndef h, fun zβ za zw zc => ?_⟩, ?_⟩
    ·exact ld_3 rfl ((evt za 24).trans (optVal (zc.dep 0 24 (by kernel_rfl)) rfl rfl)) (bkeeps zc.below _ _ ((hB38.cell 1).trans rfl)) ⟨_, rfl, Below.refl _ _, optDef zβ rfl⟩
    refine ⟨⟨true, .none rfl, fun h w => optUndef h, fun zβ za zw zc => ?_⟩, ?_⟩
    ·exact fld_35_1 rfl (zc.kn.ev rfl) ⟨_, rfl, Below.refl _ _, optDef zβ rfl⟩
    refine ⟨⟨true, .none rfl, fun h w => optUndef h, fun zβ za zw zc => ?_⟩, ?_⟩
    ·exact ld_25 rfl ((evt za 26).trans (optVal (zc.dep 2 26 (by kernel_rfl)) rfl rfl)) (bkeeps zc.below _ _ ((hB45.cell 1).trans rfl)) ⟨_, rfl, Below.refl _ _, optDef zβ rfl⟩
    refine ⟨⟨true, .none rfl, fun h w => optUndef h, fun zβ za zw zc => ?_⟩, ?_⟩
    ·exact len_25 rfl ((evt za 27).trans (optVal (zc.dep 3 27 (by kernel_rfl)) rfl rfl)) ⟨_, rfl, Below.refl _ _, optDef zβ rfl⟩
    refine ⟨⟨true, .none rfl, fun h w => optUndef h, fun zβ za zw zc => ?_⟩, ?_⟩
    ·exact neq_3 rfl ((evt za 25).trans (optVal (zc.dep 1 25 (by kernel_rfl)) rfl rfl)) ((evt za 28).trans (optVal (zc.dep 4 28 (by kernel_rfl)) rfl rfl)) ⟨_, rfl, Below.refl _ _, optDef zβ rfl⟩
    refine ⟨⟨true, .none rfl, fun h w => optUndef h, fun zβ za zw zc => ?_⟩, ?_⟩
    ·exact wp_move rfl ((evt za 29).trans (optVal (zc.dep 5 29 (by kernel_rfl)) rfl rfl)) ⟨_, rfl, Below.refl _ _, optDef zβ rfl⟩
    refine ⟨⟨_, .no (d := true) rfl (fun v w h => h), fun h w => optUndef h, fun zβ za zw zc => ?_⟩, ?_⟩
    ·exact fld_66_2 rfl (zc.kn.ev rfl) ⟨_, rfl, Below.refl _ _, optDef zβ rfl⟩
    refine ⟨⟨_, .no (d := true) rfl (fun v w h => h), fun h w => optUndef h, fun zβ za zw zc => ?_⟩, ?_⟩
    ·exact ld_4 rfl ((evt za 31).trans (optVal (zc.dep 7 31 (by kernel_rfl)) rfl zβ)) (bkeeps zc.below _ _ ((hB38.cell 2).trans rfl)) ⟨_, rfl, Below.refl _ _, optDef zβ rfl⟩
    refine ⟨⟨_, .no (d := true) rfl (fun v w h => h), fun h w => optUndef h, fun zβ za zw zc => ?_⟩, ?_⟩
    ·exact wp_move rfl ((evt za 32).trans (optVal (zc.dep 8 32 (by kernel_rfl)) rfl zβ)) ⟨_, rfl, Below.refl _ _, optDef zβ rfl⟩
    refine ⟨⟨_, .yes (d := (true && !(((sget sg f.toNat).ar : Int) != (((l.length : Nat) : Int) : Int)))) rfl (fun v w h => h), fun h w => optUndef h, fun zβ za zw zc => ?_⟩, ?_⟩
    ·exact wp_move rfl (zc.kn.ev rfl) ⟨_, rfl, Below.refl _ _, optDef zβ rfl⟩
    refine ⟨⟨_, .yes (d := (true && !(((sget sg f.toNat).ar : Int) != (((l.length : Nat) : Int) : Int)))) rfl (fun v w h => h), fun h w => optUndef h, fun zβ za zw zc => ?_⟩, ?_⟩
    ·exact wp_not rfl ((evt za 34).trans (optVal (zc.dep 10 34 (by kernel_rfl)) rfl zβ)) ⟨_, rfl, Below.refl _ _, optDef zβ rfl⟩
    refine ⟨⟨_, .no (d := true) rfl (fun v w h => h), fun h w => optUndef h, fun zβ za zw zc => ?_⟩, ?_⟩
    ·exact wp_and rfl ((evt za 33).trans (optVal (zc.dep 9 33 (by kernel_rfl)) rfl zβ)) (fun hp => ((evt za 35).trans (optVal (zc.dep 11 35 (by kernel_rfl)) rfl (bMk zβ hp)))) ⟨_, rfl, Below.refl _ _, optDef zβ rfl⟩
    refine ⟨⟨true, .none rfl, fun h w => optUndef h, fun zβ za zw zc => ?_⟩, ?_⟩
    ·exact wp_or rfl ((evt za 30).trans (optVal (zc.dep 6 30 (by kernel_rfl)) rfl rfl)) (fun hp => ((evt za 36).trans (optVal (zc.dep 12 36 (by kernel_rfl)) rfl (bMkN zβ hp)))) ⟨_, rfl, Below.refl _ _, optDef zβ rfl⟩
    exact trivial
   ·intro za w46 zh hb47 zu
    have zh := zh.cons (d := 37) (v := .bool (((((sget sg f.toNat).ar : Int) != (((l.length : Nat) : Int) : Int)) || ((sget sg f.toNat).pred && (!top))))) (optVal (zu 13 37 (by kernel_rfl)) rfl rfl)
    clear zu
    refine WE.go zh ?_
    refine WE.next ?_
    refine WC.cond rfl (fun h48 => ?_) (fun h48 => ?_)
    ·have h48 : (((sget sg f.toNat).ar : Int) ≠ (((l.length : Nat) : Int) : Int)) ∨ (((sget sg f.toNat).pred = true) ∧ (¬ (top = true))) := by simpa using h48
     have hnd : nodeB sg top f l.length = false := by
      unfold nodeB
      rw [if_neg hf0]
      have z := h48
      cases top <;> cases hp : (sget sg f.toNat).pred <;> simp_all
     refine WC.seq (WC.region (WL.asg rfl rfl rfl rfl rfl ?_))
     refine WL.nil (WE.sub (K' := [(0, .agg #[.slice sa sg.length sc]), (1, .agg #[.int .i64 f, .slice a l.length c]), (2, .bool top), (3, .pointer (some ⟨g2, 0, none⟩)), (4, .pointer (some ⟨g9, 0, none⟩)), (6, .bool false), (7, .pointer (some ⟨g28, 0, none⟩)), (11, .bool ((decide ((f : Int) < (0 : Int))))), (17, .bool ((decide ((((sg.length : Nat) : Int) : Int) ≤ (f : Int))))), (37, .bool (((((sget sg f.toNat).ar : Int) != (((l.length : Nat) : Int) : Int)) || ((sget sg f.toNat).pred && (!top)))))]) ⟨rfl, rfl, rfl, rfl, rfl, rfl, rfl, rfl, rfl, rfl, trivial⟩ ?_)
     refine WE.next (WC.ret (WE.thenRet (WE.ret1 rfl rfl ?_)))
     have hb49 : Below w.heap.size w w46 := (bstep hb41 hb47)
     exact ⟨_, rfl, congrArg Value.bool (Eq.symm (ov_no1 hf0 hnd)), hb49⟩
    ·have h48 : ¬ ((((sget sg f.toNat).ar : Int) ≠ (((l.length : Nat) : Int) : Int)) ∨ (((sget sg f.toNat).pred = true) ∧ (¬ (top = true)))) := by simpa using h48
     have hnd : nodeB sg top f l.length = true := by
      unfold nodeB
      rw [if_neg hf0]
      have z := h48
      simp only [not_or, ne_eq, Classical.not_not, Bool.and_eq_true, not_and, Bool.not_eq_true] at z
      have z1 : ((f.toNat : Nat) : Int) < ((sg.length : Nat) : Int) := by omega
      cases top <;> cases hp : (sget sg f.toNat).pred <;> simp_all
     refine WC.skip (WE.next (WC.seq (WC.seq (WC.region (WL.asg rfl rfl rfl rfl rfl ?_)))))
     refine WL.nil (WE.sub (K' := [(0, .agg #[.slice sa sg.length sc]), (1, .agg #[.int .i64 f, .slice a l.length c]), (2, .bool top), (3, .pointer (some ⟨g2, 0, none⟩)), (4, .pointer (some ⟨g9, 0, none⟩)), (6, .bool false), (7, .pointer (some ⟨g28, 0, none⟩)), (8, .int .i64 0), (11, .bool ((decide ((f : Int) < (0 : Int))))), (17, .bool ((decide ((((sg.length : Nat) : Int) : Int) ≤ (f : Int))))), (37, .bool (((((sget sg f.toNat).ar : Int) != (((l.length : Nat) : Int) : Int)) || ((sget sg f.toNat).pred && (!top)))))]) ⟨rfl, rfl, rfl, rfl, rfl, rfl, rfl, rfl, rfl, rfl, rfl, trivial⟩ ?_)
     refine WE.next (WC.block ?_)
     refine WC.loop (X := Nat) (fun k => l.length - k) (fun k => [(0, .agg #[.slice sa sg.length sc]), (1, .agg #[.int .i64 f, .slice a l.length c]), (2, .bool top), (3, .pointer (some ⟨g2, 0, none⟩)), (4, .pointer (some ⟨g9, 0, none⟩)), (7, .pointer (some ⟨g28, 0, none⟩)), (8, .int .i64 (((k : Nat) : Int))), (11, .bool ((decide ((f : Int) < (0 : Int))))), (17, .bool ((decide ((((sg.length : Nat) : Int) : Int) ≤ (f : Int))))), (37, .bool (((((sget sg f.toNat).ar : Int) != (((l.length : Nat) : Int) : Int)) || ((sget sg f.toNat).pred && (!top)))))]) (fun k w50 => k ≤ l.length ∧ (∀ i, i < k → (tget l i).ov sg false = true) ∧ Below w.heap.size w w50 ∧ Blk w50 g2 24 #[.slice sa sg.length sc] ∧ Blk w50 g9 35 #[.int .i64 (((f.toNat : Nat) : Int)), .slice a l.length c] ∧ Blk w50 g28 66 #[.string ((sget sg f.toNat).name), .int .i64 ((sget sg f.toNat).ar), .bool ((sget sg f.toNat).pred)]) 0 ⟨rfl, rfl, rfl, rfl, rfl, rfl, rfl, rfl, rfl, rfl, trivial⟩ ?_ ?_
     ·have hb51 : Below w.heap.size w w46 := (bstep hb41 hb47)
      have hB52 := hB43.below hb47
      have hB53 := hB45.below hb47
      have hB54 := hB38.below hb47
      exact ⟨Nat.zero_le _, fun i h => absurd h (Nat.not_lt_zero i), hb51, hB52, hB53, hB54⟩
     ·rintro k w50 ⟨hk, hE, hb55, hB56, hB57, hB58⟩
      refine WC.seq (WC.seq (WC.region (WL.mv rfl rfl rfl rfl rfl ?_)))
      refine WL.val _ rfl rfl rfl (fun za zC zh zk => fld_35_1 rfl (zh.ev rfl) zk) ?_
      refine WL.val _ rfl rfl rfl (fun za zC zh zk => ld_25 rfl (zh.ev rfl) ((hB57.cell 1).trans rfl) zk) ?_
      refine WL.val (.int .i64 (((l.length : Nat) : Int))) rfl rfl rfl (fun za zC zh zk => len_25 rfl (zh.ev rfl) zk) ?_
      refine WL.val (.bool ((decide ((((k : Nat) : Int) : Int) < (((l.length : Nat) : Int) : Int))))) rfl rfl rfl (fun za zC zh zk => lss_3 rfl (zh.ev rfl) (zh.ev rfl) zk) ?_
      refine WL.nil (WE.next ?_)
      refine WC.cond rfl (fun h59 => ?_) (fun h59 => ?_)
      ·have h59 : (((k : Nat) : Int) : Int) < (((l.length : Nat) : Int) : Int) := by simpa using h59
       refine WC.skip (WE.next (WC.seq (WC.block (WC.seq ?_))))
       obtain ⟨b60, o61, A62, C63, ha64, hc65⟩ := IsTs.open hl
       refine WC.opt [(true, .val (.agg #[.slice sa sg.length sc])), (true, .val (.pointer (some ⟨g9, 1, none⟩))), (true, .val (.slice a l.length c)), (true, .val (.int .i64 (((k : Nat) : Int)))), (true, .val (.pointer (some ⟨b60, o61 + k * 2, none⟩))), (true, .val (.agg #[.int .i64 ((tget l k).f), .slice ((A62 k)) ((tget l k).args.length) ((C63 k))])), (true, .val (.bool (((tget l k).ov sg false)))), (true, .val (.bool ((!((tget l k).ov sg false)))))] [(0, .agg #[.slice sa sg.length sc]), (1, .agg #[.int .i64 f, .slice a l.length c]), (2, .bool top), (3, .pointer (some ⟨g2, 0, none⟩)), (4, .pointer (some ⟨g9, 0, none⟩)), (7, .pointer (some ⟨g28, 0, none⟩)), (8, .int .i64 (((k : Nat) : Int))), (11, .bool ((decide ((f : Int) < (0 : Int))))), (17, .bool ((decide ((((sg.length : Nat) : Int) : Int) ≤ (f : Int))))), (37, .bool (((((sget sg f.toNat).ar : Int) != (((l.length : Nat) : Int) : Int)) || ((sget sg f.toNat).pred && (!top))))), (42, .bool ((decide ((((k : Nat) : Int) : Int) < (((l.length : Nat) : Int) : Int)))))] ⟨rfl, rfl, rfl, rfl, rfl, rfl, rfl, rfl, rfl, rfl, rfl, trivial⟩ (by kernel_rfl) (by kernel_rfl) (by kernel_rfl) ?_ ?_
       ·refine ⟨⟨true, .none rfl, fun h w => optUndef h, fun zβ za zw zc => ?_⟩, ?_⟩
        ·exact ld_24 rfl (zc.kn.ev rfl) (bkeeps zc.below _ _ ((hB56.cell 0).trans rfl)) ⟨_, rfl, Below.refl _ _, optDef zβ rfl⟩
        refine ⟨⟨true, .none rfl, fun h w => optUndef h, fun zβ za zw zc => ?_⟩, ?_⟩
        ·exact fld_35_1 rfl (zc.kn.ev rfl) ⟨_, rfl, Below.refl _ _, optDef zβ rfl⟩
        refine ⟨⟨true, .none rfl, fun h w => optUndef h, fun zβ za zw zc => ?_⟩, ?_⟩
        ·exact ld_25 rfl ((evt za 46).trans (optVal (zc.dep 1 46 (by kernel_rfl)) rfl rfl)) (bkeeps zc.below _ _ ((hB57.cell 1).trans rfl)) ⟨_, rfl, Below.refl _ _, optDef zβ rfl⟩
        refine ⟨⟨true, .none rfl, fun h w => optUndef h, fun zβ za zw zc => ?_⟩, ?_⟩
        ·exact wp_move rfl (zc.kn.ev rfl) ⟨_, rfl, Below.refl _ _, optDef zβ rfl⟩
        refine ⟨⟨true, .none rfl, fun h w => optUndef h, fun zβ za zw zc => ?_⟩, ?_⟩
        ·exact ix_25 (k := k) rfl ((evt za 47).trans (optVal (zc.dep 2 47 (by kernel_rfl)) rfl rfl)) (ha64 k (by first | omega | (simp; omega))) ((evt za 48).trans (optVal (zc.dep 3 48 (by kernel_rfl)) rfl rfl)) (by first | omega | (simp; omega)) ⟨_, rfl, Below.refl _ _, optDef zβ rfl⟩
        refine ⟨⟨true, .none rfl, fun h w => optUndef h, fun zβ za zw zc => ?_⟩, ?_⟩
        ·exact ld_35 rfl ((evt za 49).trans (optVal (zc.dep 4 49 (by kernel_rfl)) rfl rfl)) (bkeeps (bstep hb55 zc.below) _ _ (hc65 k (by first | omega | (simp; omega))).1) (bkeeps (bstep hb55 zc.below) _ _ (hc65 k (by first | omega | (simp; omega))).2.1) ⟨_, rfl, Below.refl _ _, optDef zβ rfl⟩
        refine ⟨⟨true, .none rfl, fun h w => optUndef h, fun zβ za zw zc => ?_⟩, ?_⟩
        ·exact wp_call (by kernel_rfl) rfl (hv3 ((evt za 45).trans (optVal (zc.dep 0 45 (by kernel_rfl)) rfl rfl)) ((evt za 50).trans (optVal (zc.dep 5 50 (by kernel_rfl)) rfl rfl)) (zc.kn.ev rfl)) (ih (tget l k) (tget_mem (by omega)) false _ _ _ (size_at (by omega) hz) (IsSig.below (bstep hb55 zc.below) hst) (IsT.below (bstep hb55 zc.below) (hc65 k (by first | omega | (simp; omega))).2.2)) (fun v w' h => ⟨v, rfl, h.2, optDef zβ h.1⟩)
        refine ⟨⟨true, .none rfl, fun h w => optUndef h, fun zβ za zw zc => ?_⟩, ?_⟩
        ·exact wp_not rfl ((evt za 51).trans (optVal (zc.dep 6 51 (by kernel_rfl)) rfl rfl)) ⟨_, rfl, Below.refl _ _, optDef zβ rfl⟩
        exact trivial
       ·intro za w66 zh hb67 zu
        have zh := zh.cons (d := 52) (v := .bool ((!((tget l k).ov sg false)))) (optVal (zu 7 52 (by kernel_rfl)) rfl rfl)
        clear zu
        refine WE.go zh ?_
        refine WE.next ?_
        refine WC.cond rfl (fun h68 => ?_) (fun h68 => ?_)
        ·have h68 : ¬ (((tget l k).ov sg false) = true) := by simpa using h68
         refine WC.seq (WC.region (WL.asg rfl rfl rfl rfl rfl (WL.nil (WE.next (WC.ret (WE.blockRet (WE.thenRet (WE.thenRet (WE.blockRet (WE.thenRet (WE.ret1 rfl rfl ?_)))))))))))
         have hb69 : Below w.heap.size w w66 := (bstep hb55 hb67)
         exact ⟨_, rfl, congrArg Value.bool (Eq.symm (ov_no2 (k := k) hf0 (by omega) (by simpa using h68))), hb69⟩
        ·have h68 : ¬ (¬ (((tget l k).ov sg false) = true)) := by simpa using h68
         refine WC.skip (WE.blockNormal (WE.next (WC.region (WL.mv rfl rfl rfl rfl rfl ?_))))
         refine WL.val (.int .i64 ((((k + 1) : Nat) : Int))) rfl rfl rfl (fun za zC zh zk => addb_3 rfl (zh.ev rfl) (zh.ev rfl) (wrap_eq (by omega) (by omega) (by omega)) zk) ?_
         refine WL.asg rfl rfl rfl rfl rfl (WL.nil ?_)
         refine WE.round (k + 1) ⟨rfl, rfl, rfl, rfl, rfl, rfl, rfl, rfl, rfl, rfl, trivial⟩ ?_ ?_
         ·have hb70 : Below w.heap.size w w66 := (bstep hb55 hb67)
          have hB71 := hB56.below hb67
          have hB72 := hB57.below hb67
          have hB73 := hB58.below hb67
          exact ⟨by omega, fun i hi => by rcases Nat.lt_or_ge i k with q | q; exact hE i q; (obtain rfl : i = k := by omega); simpa using h68, hb70, hB71, hB72, hB73⟩
         ·omega
      ·have h59 : ¬ ((((k : Nat) : Int) : Int) < (((l.length : Nat) : Int) : Int)) := by simpa using h59
       refine WC.exit (WE.thenExit (WE.thenExit (WE.blockIs rfl (WE.next (WC.seq (WC.region (WL.asg rfl rfl rfl rfl rfl (WL.nil (WE.next (WC.ret (WE.ret1 rfl rfl ?_)))))))))))
       exact ⟨_, rfl, congrArg Value.bool (Eq.symm (ov_yes hf0 hnd (fun i hi => hE i (by omega)))), hb55⟩
set_option maxRecDepth 100000 in
theorem rtchk_any (sg : List Sy) (t : T) (w : World) (vs v : Value) (hz : t.size ≤ 4294967296) (hs : IsSig w sg vs) (hv : IsT w t v) : Calls Try.prog 39 #[vs, v] w (Ret fun v' w' => v' = .int .i64 (chkI sg t) ∧ Below w.heap.size w w') := by
 have hst := hs
 have hvt := hv
 obtain ⟨sa, sc, rfl, _, _, _⟩ := hs
 obtain ⟨_, a, c, rfl, _, _, _⟩ := hv.form
 refine Calls.walk (l := [.agg #[.slice sa sg.length sc], .agg #[.int .i64 t.f, .slice a t.args.length c]]) Try.func39 rfl (by kernel_rfl) ?_
 refine WC.sub (K' := [(0, .agg #[.slice sa sg.length sc]), (1, .agg #[.int .i64 t.f, .slice a t.args.length c])]) ⟨rfl, rfl, trivial⟩ ?_
 refine WC.seq (WC.region ?_)
 refine WL.step (post := NewBlk w 24 #[.slice sa sg.length sc]) rfl rfl rfl (fun za zC zh zk => box_24 rfl (zh.ev rfl) (zk _ _ (newBlk _ _ _))) ?_
 rintro _ w1 ⟨g2, rfl, hg3, hB4, hb5, hz6⟩
 have hl7 : w.heap.size ≤ g2 := by omega
 refine WL.step (post := NewBlk w1 35 #[.int .i64 t.f, .slice a t.args.length c]) rfl rfl rfl (fun za zC zh zk => box_35 rfl (zh.ev rfl) (zk _ _ (newBlk _ _ _))) ?_
 rintro _ w8 ⟨g9, rfl, hg10, hB11, hb12, hz13⟩
 have hl14 : g2 < g9 := by have z1 := hB4.lt; omega
 have hl15 : w.heap.size ≤ g9 := by have z2 := (hb5).size; omega
 refine WL.asg rfl rfl rfl rfl rfl (WL.nil (WE.next (WC.seq (WC.seq ?_))))
 have hB16 := hB4.below hb12
 have hb17 : Below w.heap.size w w8 := (bstep hb5 hb12)
 refine WC.opt [(true, .val (.agg #[.slice sa sg.length sc])), (true, .val (.int .i64 ((sigCheck sg)))), (true, .val (.bool ((((sigCheck sg) : Int) != (0 : Int))))), (true, .val (.bool ((((sigCheck sg) : Int) != (0 : Int))))), ((true && !(((sigCheck sg) : Int) != (0 : Int))), .val (.agg #[.int .i64 t.f, .slice a t.args.length c])), ((true && !(((sigCheck sg) : Int) != (0 : Int))), .val (.bool ((t.small 48)))), ((true && !(((sigCheck sg) : Int) != (0 : Int))), .val (.bool ((!(t.small 48))))), (true, .val (.bool (((((sigCheck sg) : Int) != (0 : Int)) || (!(t.small 48)))))), (true, .val (.bool (((((sigCheck sg) : Int) != (0 : Int)) || (!(t.small 48)))))), ((true && !((((sigCheck sg) : Int) != (0 : Int)) || (!(t.small 48)))), .val (.agg #[.slice sa sg.length sc])), ((true && !((((sigCheck sg) : Int) != (0 : Int)) || (!(t.small 48)))), .val (.agg #[.int .i64 t.f, .slice a t.args.length c])), ((true && !((((sigCheck sg) : Int) != (0 : Int)) || (!(t.small 48)))), .val (.bool ((t.ov sg true)))), ((true && !((((sigCheck sg) : Int) != (0 : Int)) || (!(t.small 48)))), .val (.bool ((!(t.ov sg true))))), (true, .val (.bool ((((((sigCheck sg) : Int) != (0 : Int)) || (!(t.small 48))) || (!(t.ov sg true))))))] [(0, .agg #[.slice sa sg.length sc]), (1, .agg #[.int .i64 t.f, .slice a t.args.length c]), (2, .pointer (some ⟨g2, 0, none⟩)), (3, .pointer (some ⟨g9, 0, none⟩)), (4, .int .i64 0)] ⟨rfl, rfl, rfl, rfl, rfl, trivial⟩ (by kernel_rfl) (by kernel_rfl) (by kernel_rfl) ?_ ?_
 ·refine ⟨⟨true, .none rfl, fun h w => optUndef h, fun zβ za zw zc => ?_⟩, ?_⟩
  ·exact ld_24 rfl (zc.kn.ev rfl) (bkeeps zc.below _ _ ((hB16.cell 0).trans rfl)) ⟨_, rfl, Below.refl _ _, optDef zβ rfl⟩
  refine ⟨⟨true, .none rfl, fun h w => optUndef h, fun zβ za zw zc => ?_⟩, ?_⟩
  ·exact wp_call (by kernel_rfl) rfl (hv1 ((evt za 5).trans (optVal (zc.dep 0 5 (by kernel_rfl)) rfl rfl))) (ret_of (sigCheck_any sg _ _ (IsSig.below (bstep hb17 zc.below) hst))) (fun v w' h => ⟨v, rfl, h.2, optDef zβ h.1⟩)
  refine ⟨⟨true, .none rfl, fun h w => optUndef h, fun zβ za zw zc => ?_⟩, ?_⟩
  ·exact neq_3 rfl ((evt za 6).trans (optVal (zc.dep 1 6 (by kernel_rfl)) rfl rfl)) (zc.kn.ev rfl) ⟨_, rfl, Below.refl _ _, optDef zβ rfl⟩
  refine ⟨⟨true, .none rfl, fun h w => optUndef h, fun zβ za zw zc => ?_⟩, ?_⟩
  ·exact wp_move rfl ((evt za 7).trans (optVal (zc.dep 2 7 (by kernel_rfl)) rfl rfl)) ⟨_, rfl, Below.refl _ _, optDef zβ rfl⟩
  refine ⟨⟨_, .no (d := true) rfl (fun v w h => h), fun h w => optUndef h, fun zβ za zw zc => ?_⟩, ?_⟩
  ·exact ld_35 rfl (zc.kn.ev rfl) (bkeeps zc.below _ _ ((hB11.cell 0).trans rfl)) (bkeeps zc.below _ _ ((hB11.cell 1).trans rfl)) ⟨_, rfl, Below.refl _ _, optDef zβ rfl⟩
  refine ⟨⟨_, .no (d := true) rfl (fun v w h => h), fun h w => optUndef h, fun zβ za zw zc => ?_⟩, ?_⟩
  ·exact wp_call (by kernel_rfl) rfl (hv2 ((evt za 9).trans (optVal (zc.dep 4 9 (by kernel_rfl)) rfl zβ)) (zc.kn.ev rfl)) (rsmall_any t 48 _ _ (by omega) hz (IsT.below (bstep hb17 zc.below) hvt)) (fun v w' h => ⟨v, rfl, h.2, optDef zβ h.1⟩)
  refine ⟨⟨_, .no (d := true) rfl (fun v w h => h), fun h w => optUndef h, fun zβ za zw zc => ?_⟩, ?_⟩
  ·exact wp_not rfl ((evt za 10).trans (optVal (zc.dep 5 10 (by kernel_rfl)) rfl zβ)) ⟨_, rfl, Below.refl _ _, optDef zβ rfl⟩
  refine ⟨⟨true, .none rfl, fun h w => optUndef h, fun zβ za zw zc => ?_⟩, ?_⟩
  ·exact wp_or rfl ((evt za 8).trans (optVal (zc.dep 3 8 (by kernel_rfl)) rfl rfl)) (fun hp => ((evt za 11).trans (optVal (zc.dep 6 11 (by kernel_rfl)) rfl (bMkN zβ hp)))) ⟨_, rfl, Below.refl _ _, optDef zβ rfl⟩
  refine ⟨⟨true, .none rfl, fun h w => optUndef h, fun zβ za zw zc => ?_⟩, ?_⟩
  ·exact wp_move rfl ((evt za 12).trans (optVal (zc.dep 7 12 (by kernel_rfl)) rfl rfl)) ⟨_, rfl, Below.refl _ _, optDef zβ rfl⟩
  refine ⟨⟨_, .no (d := true) rfl (fun v w h => h), fun h w => optUndef h, fun zβ za zw zc => ?_⟩, ?_⟩
  ·exact ld_24 rfl (zc.kn.ev rfl) (bkeeps zc.below _ _ ((hB16.cell 0).trans rfl)) ⟨_, rfl, Below.refl _ _, optDef zβ rfl⟩
  refine ⟨⟨_, .no (d := true) rfl (fun v w h => h), fun h w => optUndef h, fun zβ za zw zc => ?_⟩, ?_⟩
  ·exact ld_35 rfl (zc.kn.ev rfl) (bkeeps zc.below _ _ ((hB11.cell 0).trans rfl)) (bkeeps zc.below _ _ ((hB11.cell 1).trans rfl)) ⟨_, rfl, Below.refl _ _, optDef zβ rfl⟩
  refine ⟨⟨_, .no (d := true) rfl (fun v w h => h), fun h w => optUndef h, fun zβ za zw zc => ?_⟩, ?_⟩
  ·exact wp_call (by kernel_rfl) rfl (hv3 ((evt za 14).trans (optVal (zc.dep 9 14 (by kernel_rfl)) rfl zβ)) ((evt za 15).trans (optVal (zc.dep 10 15 (by kernel_rfl)) rfl zβ)) (zc.kn.ev rfl)) (rover_any sg t true _ _ _ hz (IsSig.below (bstep hb17 zc.below) hst) (IsT.below (bstep hb17 zc.below) hvt)) (fun v w' h => ⟨v, rfl, h.2, optDef zβ h.1⟩)
  refine ⟨⟨_, .no (d := true) rfl (fun v w h => h), fun h w => optUndef h, fun zβ za zw zc => ?_⟩, ?_⟩
  ·exact wp_not rfl ((evt za 16).trans (optVal (zc.dep 11 16 (by kernel_rfl)) rfl zβ)) ⟨_, rfl, Below.refl _ _, optDef zβ rfl⟩
  refine ⟨⟨true, .none rfl, fun h w => optUndef h, fun zβ za zw zc => ?_⟩, ?_⟩
  ·exact wp_or rfl ((evt za 13).trans (optVal (zc.dep 8 13 (by kernel_rfl)) rfl rfl)) (fun hp => ((evt za 17).trans (optVal (zc.dep 12 17 (by kernel_rfl)) rfl (bMkN zβ hp)))) ⟨_, rfl, Below.refl _ _, optDef zβ rfl⟩
  exact trivial
 ·intro za w18 zh hb19 zu
  have zh := zh.cons (d := 18) (v := .bool ((((((sigCheck sg) : Int) != (0 : Int)) || (!(t.small 48))) || (!(t.ov sg true))))) (optVal (zu 13 18 (by kernel_rfl)) rfl rfl)
  clear zu
  refine WE.go zh ?_
  refine WE.next ?_
  refine WC.cond rfl (fun h20 => ?_) (fun h20 => ?_)
  ·have h20 : ((((sigCheck sg) : Int) ≠ (0 : Int)) ∨ (¬ ((t.small 48) = true))) ∨ (¬ ((t.ov sg true) = true)) := by simpa using h20
   refine WC.seq (WC.region (WL.asg rfl rfl rfl rfl rfl (WL.nil (WE.next (WC.ret (WE.thenRet (WE.ret1 rfl rfl ?_)))))))
   have hb21 : Below w.heap.size w w18 := (bstep hb17 hb19)
   refine ⟨_, rfl, ?_, hb21⟩
   rw [← chkI_ref]
   have z := h20
   by_cases q1 : sigCheck sg = 0 <;> by_cases q2 : t.small 48 = true <;> by_cases q3 : t.ov sg true = true <;> simp_all
  ·have h20 : ¬ (((((sigCheck sg) : Int) ≠ (0 : Int)) ∨ (¬ ((t.small 48) = true))) ∨ (¬ ((t.ov sg true) = true))) := by simpa using h20
   refine WC.skip (WE.next (WC.seq (WC.region (WL.asg rfl rfl rfl rfl rfl (WL.nil (WE.next (WC.ret (WE.ret1 rfl rfl ?_))))))))
   have hb22 : Below w.heap.size w w18 := (bstep hb17 hb19)
   refine ⟨_, rfl, ?_, hb22⟩
   rw [← chkI_ref]
   have z := h20
   by_cases q1 : sigCheck sg = 0 <;> by_cases q2 : t.small 48 = true <;> by_cases q3 : t.ov sg true = true <;> simp_all
end Go.Proofs.Ytbohlpfndiiimaa

/- Has a term variables? The document. -/
namespace Go.Proofs.Ytbohlpfndiiimaa
open Go.RowKit Go
set_option linter.unusedVariables false
set_option linter.unusedSimpArgs false
/-- What 'Join' tells: whether there is any. -/
def JoinG (l : List Int) (b : Bool) (n : Nat) (w' : World) (v' : Value) : Prop := ∃ R a' c', v' = .slice a' R.length c' ∧ IsIs w' R a' c' ∧ (R = [] ↔ l = [] ∧ b = true) ∧ R.length ≤ l.length + n
theorem gndL_take {l : List T} {k : Nat} (h : k < l.length) : T.gndL (l.take (k + 1)) = (T.gndL (l.take k) && (tget l k).gnd) := by
 rw [List.take_succ_eq_append_getElem h, gndL_snoc, tget_lt h]
set_option maxRecDepth 100000 in
theorem joinG_any : ∀ (t : T) (l : List Int) (la : Option Addr) (lc : Nat) (w : World) (v : Value), t.size ≤ 4294967296 → l.length + t.size ≤ 4294967296 → IsIs w l la lc → IsT w t v → Calls Try.prog 62 #[.slice la l.length lc, v] w (Ret fun v' w' => JoinG l t.gnd t.size w' v' ∧ Below w.heap.size w w') := by
 refine T.ind (fun f q ih => ?_)
 intro l la lc w v hz hln hL hv
 have hlen := len_le_sizeL q
 have hz' := hz
 simp only [T.size] at hz' hln
 obtain ⟨hf, a, c, rfl, hc, hm, hl⟩ := hv
 have hf' := hf
 unfold I64 at hf'
 refine Calls.walk (l := [.slice la l.length lc, .agg #[.int .i64 f, .slice a q.length c]]) Try.func62 rfl (by kernel_rfl) ?_
 refine WC.sub (K' := [(0, .slice la l.length lc), (1, .agg #[.int .i64 f, .slice a q.length c])]) ⟨rfl, rfl, trivial⟩ ?_
 refine WC.seq (WC.region ?_)
 refine WL.step (post := NewBlk w 35 #[.int .i64 f, .slice a q.length c]) rfl rfl rfl (fun za zC zh zk => box_35 rfl (zh.ev rfl) (zk _ _ (newBlk _ _ _))) ?_
 rintro _ w1 ⟨g2, rfl, hg3, hB4, hb5, hz6⟩
 have hl7 : w.heap.size ≤ g2 := by omega
 refine WL.asg rfl rfl rfl rfl rfl (WL.nil (WE.next (WC.seq (WC.seq (WC.region ?_)))))
 refine WL.val _ rfl rfl rfl (fun za zC zh zk => fld_35_0 rfl (zh.ev rfl) zk) ?_
 refine WL.val _ rfl rfl rfl (fun za zC zh zk => ld_3 rfl (zh.ev rfl) ((hB4.cell 0).trans rfl) zk) ?_
 refine WL.val (.bool ((decide ((f : Int) < (0 : Int))))) rfl rfl rfl (fun za zC zh zk => lss_3 rfl (zh.ev rfl) (zh.ev rfl) zk) ?_
 refine WL.nil (WE.next ?_)
 refine WC.cond rfl (fun h8 => ?_) (fun h8 => ?_)
 ·have h8 : (f : Int) < (0 : Int) := by simpa using h8
  refine WC.region (WL.mv rfl rfl rfl rfl rfl ?_)
  refine WL.val _ rfl rfl rfl (fun za zC zh zk => fld_35_0 rfl (zh.ev rfl) zk) ?_
  refine WL.val _ rfl rfl rfl (fun za zC zh zk => ld_3 rfl (zh.ev rfl) ((hB4.cell 0).trans rfl) zk) ?_
  refine WL.val (.int .i64 ((-1 - f))) rfl rfl rfl (fun za zC zh zk => subb_3 rfl (zh.ev rfl) (zh.ev rfl) (wrap_eq rfl (by omega) (by omega)) zk) ?_
  refine WL.call rfl rfl rfl (fun za zh zC => wp_call (by kernel_rfl) rfl (hv2 (zh.ev rfl) (zh.ev rfl))) (insert_any l (-1 - f) _ _ _ (hL.below hb5) (by omega)) ?_
  rintro _ w10 ⟨⟨R0, ra0, rc0, rfl, hR0, hv0, hn0, he0⟩, hb9⟩
  refine WL.asg rfl rfl rfl rfl rfl (WL.nil (WE.next (WC.seq (WC.seq (WC.region (WL.asg rfl rfl rfl rfl rfl (WL.nil (WE.next (WC.block ?_)))))))))
  refine WC.loop (X := Nat × Option Addr × Nat × List Int) (fun x => q.length - x.1) (fun x => [(0, .slice x.2.1 x.2.2.2.length x.2.2.1), (1, .agg #[.int .i64 f, .slice a q.length c]), (3, .pointer (some ⟨g2, 0, none⟩)), (4, .slice none 0 0), (5, .int .i64 (((x.1 : Nat) : Int))), (8, .bool ((decide ((f : Int) < (0 : Int)))))]) (fun x w11 => x.1 ≤ q.length ∧ (x.2.2.2 = [] ↔ l = [] ∧ (decide (0 ≤ f) && T.gndL (q.take x.1)) = true) ∧ x.2.2.2.length ≤ l.length + 1 + T.sizeL (q.take x.1) ∧ Below w.heap.size w w11 ∧ Blk w11 g2 35 #[.int .i64 f, .slice a q.length c] ∧ IsIs (w11) x.2.2.2 x.2.1 x.2.2.1) ((0, ra0, rc0, R0)) ⟨rfl, rfl, rfl, rfl, rfl, rfl, trivial⟩ ?_ ?_
  ·have hb12 : Below w.heap.size w w10 := (bstep hb5 hb9)
   have hB13 := hB4.below hb9
   exact ⟨Nat.zero_le _, (⟨fun e => absurd e he0, fun e => by have z := e.2; simp [T.gndL, show ¬ (0 ≤ f) by omega] at z⟩), by (try dsimp only); omega, hb12, hB13, hR0⟩
  ·rintro x w11 ⟨hk, hvo, hnn, hb14, hB15, ho16⟩
   refine WC.seq (WC.seq (WC.region (WL.mv rfl rfl rfl rfl rfl ?_)))
   refine WL.val _ rfl rfl rfl (fun za zC zh zk => fld_35_1 rfl (zh.ev rfl) zk) ?_
   refine WL.val _ rfl rfl rfl (fun za zC zh zk => ld_25 rfl (zh.ev rfl) ((hB15.cell 1).trans rfl) zk) ?_
   refine WL.val (.int .i64 (((q.length : Nat) : Int))) rfl rfl rfl (fun za zC zh zk => len_25 rfl (zh.ev rfl) zk) ?_
   refine WL.val (.bool ((decide ((((x.1 : Nat) : Int) : Int) < (((q.length : Nat) : Int) : Int))))) rfl rfl rfl (fun za zC zh zk => lss_3 rfl (zh.ev rfl) (zh.ev rfl) zk) ?_
   refine WL.nil (WE.next ?_)
   refine WC.cond rfl (fun h17 => ?_) (fun h17 => ?_)
   ·have h17 : (((x.1 : Nat) : Int) : Int) < (((q.length : Nat) : Int) : Int) := by simpa using h17
    refine WC.skip (WE.next (WC.seq (WC.block (WC.region (WL.mv rfl rfl rfl rfl rfl ?_)))))
    refine WL.val _ rfl rfl rfl (fun za zC zh zk => fld_35_1 rfl (zh.ev rfl) zk) ?_
    refine WL.val _ rfl rfl rfl (fun za zC zh zk => ld_25 rfl (zh.ev rfl) ((hB15.cell 1).trans rfl) zk) ?_
    refine WL.mv rfl rfl rfl rfl rfl ?_
    obtain ⟨b18, o19, A20, C21, ha22, hc23⟩ := IsTs.open hl
    refine WL.val _ rfl rfl rfl (fun za zC zh zk => ix_25 (k := x.1) rfl (zh.ev rfl) (ha22 x.1 (by first | omega | (simp; omega))) (zh.ev rfl) (by first | omega | (simp; omega)) zk) ?_
    refine WL.val _ rfl rfl rfl (fun za zC zh zk => ld_35 rfl (zh.ev rfl) (bkeeps hb14 _ _ (hc23 x.1 (by first | omega | (simp; omega))).1) (bkeeps hb14 _ _ (hc23 x.1 (by first | omega | (simp; omega))).2.1) zk) ?_
    have hsz9 := T.size_le_sizeL (tget_mem (l := q) (k := x.1) (by omega))
    have hst9 := sizeL_take1 (l := q) (k := x.1) (by omega)
    have hst8 := T.sizeL_take_le q (x.1 + 1)
    refine WL.call rfl rfl rfl (fun za zh zC => wp_call (by kernel_rfl) rfl (hv2 (zh.ev rfl) (zh.ev rfl))) (ih (tget q x.1) (tget_mem (by omega)) x.2.2.2 _ _ _ _ (by omega) (by omega) ho16 (IsT.below hb14 (hc23 x.1 (by first | omega | (simp; omega))).2.2)) ?_
    rintro _ w25 ⟨⟨R1, ra1, rc1, rfl, hR1, hv1, hn1⟩, hb24⟩
    refine WL.asg rfl rfl rfl rfl rfl (WL.nil (WE.blockNormal (WE.next (WC.region (WL.mv rfl rfl rfl rfl rfl ?_)))))
    refine WL.val (.int .i64 ((((x.1 + 1) : Nat) : Int))) rfl rfl rfl (fun za zC zh zk => addb_3 rfl (zh.ev rfl) (zh.ev rfl) (wrap_eq (by omega) (by omega) (by omega)) zk) ?_
    refine WL.asg rfl rfl rfl rfl rfl (WL.nil ?_)
    refine WE.round ((x.1 + 1, ra1, rc1, R1)) ⟨rfl, rfl, rfl, rfl, rfl, rfl, trivial⟩ ?_ ?_
    ·have hb26 : Below w.heap.size w w25 := (bstep hb14 hb24)
     have hB27 := hB15.below hb24
     exact ⟨by (try dsimp only); omega, (hv1.trans (by rw [hvo, gndL_take (by omega), ← Bool.and_assoc, Bool.and_eq_true (decide (0 ≤ f) && _), and_assoc])), by (try dsimp only); have z := sizeL_take1 (l := q) (k := x.1) (by omega); omega, hb26, hB27, hR1⟩
    ·(try dsimp only); omega
   ·have h17 : ¬ ((((x.1 : Nat) : Int) : Int) < (((q.length : Nat) : Int) : Int)) := by simpa using h17
    refine WC.exit (WE.thenExit (WE.thenExit (WE.blockIs rfl (WE.next (WC.seq (WC.region (WL.mv rfl rfl rfl rfl rfl (WL.asg rfl rfl rfl rfl rfl (WL.nil (WE.next (WC.ret (WE.ret1 rfl rfl ?_))))))))))))
    refine ⟨_, rfl, ⟨x.2.2.2, _, _, rfl, ho16, ?_, ?_⟩, hb14⟩
    ·rw [List.take_of_length_le (show q.length ≤ x.1 by omega)] at hvo; rw [T.gnd]; exact hvo
    ·rw [T.size]; have z := T.sizeL_take_le q x.1; omega
 ·have h8 : ¬ ((f : Int) < (0 : Int)) := by simpa using h8
  refine WC.skip (WE.next (WC.seq (WC.seq (WC.region (WL.asg rfl rfl rfl rfl rfl (WL.nil (WE.next (WC.block ?_))))))))
  refine WC.loop (X := Nat × Option Addr × Nat × List Int) (fun x => q.length - x.1) (fun x => [(0, .slice x.2.1 x.2.2.2.length x.2.2.1), (1, .agg #[.int .i64 f, .slice a q.length c]), (3, .pointer (some ⟨g2, 0, none⟩)), (4, .slice none 0 0), (5, .int .i64 (((x.1 : Nat) : Int))), (8, .bool ((decide ((f : Int) < (0 : Int)))))]) (fun x w28 => x.1 ≤ q.length ∧ (x.2.2.2 = [] ↔ l = [] ∧ (decide (0 ≤ f) && T.gndL (q.take x.1)) = true) ∧ x.2.2.2.length ≤ l.length + 1 + T.sizeL (q.take x.1) ∧ Below w.heap.size w w28 ∧ Blk w28 g2 35 #[.int .i64 f, .slice a q.length c] ∧ IsIs (w28) x.2.2.2 x.2.1 x.2.2.1) ((0, la, lc, l)) ⟨rfl, rfl, rfl, rfl, rfl, rfl, trivial⟩ ?_ ?_
  ·have ho29 := hL.below hb5
   exact ⟨Nat.zero_le _, (by simp [T.gndL, show (0 ≤ f) by omega]), by (try dsimp only); omega, hb5, hB4, ho29⟩
  ·rintro x w28 ⟨hk, hvo, hnn, hb30, hB31, ho32⟩
   refine WC.seq (WC.seq (WC.region (WL.mv rfl rfl rfl rfl rfl ?_)))
   refine WL.val _ rfl rfl rfl (fun za zC zh zk => fld_35_1 rfl (zh.ev rfl) zk) ?_
   refine WL.val _ rfl rfl rfl (fun za zC zh zk => ld_25 rfl (zh.ev rfl) ((hB31.cell 1).trans rfl) zk) ?_
   refine WL.val (.int .i64 (((q.length : Nat) : Int))) rfl rfl rfl (fun za zC zh zk => len_25 rfl (zh.ev rfl) zk) ?_
   refine WL.val (.bool ((decide ((((x.1 : Nat) : Int) : Int) < (((q.length : Nat) : Int) : Int))))) rfl rfl rfl (fun za zC zh zk => lss_3 rfl (zh.ev rfl) (zh.ev rfl) zk) ?_
   refine WL.nil (WE.next ?_)
   refine WC.cond rfl (fun h33 => ?_) (fun h33 => ?_)
   ·have h33 : (((x.1 : Nat) : Int) : Int) < (((q.length : Nat) : Int) : Int) := by simpa using h33
    refine WC.skip (WE.next (WC.seq (WC.block (WC.region (WL.mv rfl rfl rfl rfl rfl ?_)))))
    refine WL.val _ rfl rfl rfl (fun za zC zh zk => fld_35_1 rfl (zh.ev rfl) zk) ?_
    refine WL.val _ rfl rfl rfl (fun za zC zh zk => ld_25 rfl (zh.ev rfl) ((hB31.cell 1).trans rfl) zk) ?_
    refine WL.mv rfl rfl rfl rfl rfl ?_
    obtain ⟨b34, o35, A36, C37, ha38, hc39⟩ := IsTs.open hl
    refine WL.val _ rfl rfl rfl (fun za zC zh zk => ix_25 (k := x.1) rfl (zh.ev rfl) (ha38 x.1 (by first | omega | (simp; omega))) (zh.ev rfl) (by first | omega | (simp; omega)) zk) ?_
    refine WL.val _ rfl rfl rfl (fun za zC zh zk => ld_35 rfl (zh.ev rfl) (bkeeps hb30 _ _ (hc39 x.1 (by first | omega | (simp; omega))).1) (bkeeps hb30 _ _ (hc39 x.1 (by first | omega | (simp; omega))).2.1) zk) ?_
    have hsz9 := T.size_le_sizeL (tget_mem (l := q) (k := x.1) (by omega))
    have hst9 := sizeL_take1 (l := q) (k := x.1) (by omega)
    have hst8 := T.sizeL_take_le q (x.1 + 1)
    refine WL.call rfl rfl rfl (fun za zh zC => wp_call (by kernel_rfl) rfl (hv2 (zh.ev rfl) (zh.ev rfl))) (ih (tget q x.1) (tget_mem (by omega)) x.2.2.2 _ _ _ _ (by omega) (by omega) ho32 (IsT.below hb30 (hc39 x.1 (by first | omega | (simp; omega))).2.2)) ?_
    rintro _ w41 ⟨⟨R1, ra1, rc1, rfl, hR1, hv1, hn1⟩, hb40⟩
    refine WL.asg rfl rfl rfl rfl rfl (WL.nil (WE.blockNormal (WE.next (WC.region (WL.mv rfl rfl rfl rfl rfl ?_)))))
    refine WL.val (.int .i64 ((((x.1 + 1) : Nat) : Int))) rfl rfl rfl (fun za zC zh zk => addb_3 rfl (zh.ev rfl) (zh.ev rfl) (wrap_eq (by omega) (by omega) (by omega)) zk) ?_
    refine WL.asg rfl rfl rfl rfl rfl (WL.nil ?_)
    refine WE.round ((x.1 + 1, ra1, rc1, R1)) ⟨rfl, rfl, rfl, rfl, rfl, rfl, trivial⟩ ?_ ?_
    ·have hb42 : Below w.heap.size w w41 := (bstep hb30 hb40)
     have hB43 := hB31.below hb40
     exact ⟨by (try dsimp only); omega, (hv1.trans (by rw [hvo, gndL_take (by omega), ← Bool.and_assoc, Bool.and_eq_true (decide (0 ≤ f) && _), and_assoc])), by (try dsimp only); have z := sizeL_take1 (l := q) (k := x.1) (by omega); omega, hb42, hB43, hR1⟩
    ·(try dsimp only); omega
   ·have h33 : ¬ ((((x.1 : Nat) : Int) : Int) < (((q.length : Nat) : Int) : Int)) := by simpa using h33
    refine WC.exit (WE.thenExit (WE.thenExit (WE.blockIs rfl (WE.next (WC.seq (WC.region (WL.mv rfl rfl rfl rfl rfl (WL.asg rfl rfl rfl rfl rfl (WL.nil (WE.next (WC.ret (WE.ret1 rfl rfl ?_))))))))))))
    refine ⟨_, rfl, ⟨x.2.2.2, _, _, rfl, ho32, ?_, ?_⟩, hb30⟩
    ·rw [List.take_of_length_le (show q.length ≤ x.1 by omega)] at hvo; rw [T.gnd]; exact hvo
    ·rw [T.size]; have z := T.sizeL_take_le q x.1; omega
set_option maxRecDepth 100000 in
theorem rvarsG_any (t : T) (w : World) (v : Value) (hz : t.size ≤ 4294967296) (hv : IsT w t v) : Calls Try.prog 46 #[v] w (Ret fun v' w' => (∃ n a' c', v' = .slice a' n c' ∧ (((n : Nat) : Int) == 0) = t.gnd ∧ n ≤ t.size) ∧ Below w.heap.size w w') := by
 have hv0 := hv
 obtain ⟨hf, a, c, rfl, _, _, _⟩ := hv.form
 refine Calls.walk (l := [.agg #[.int .i64 t.f, .slice a t.args.length c]]) Try.func46 rfl (by kernel_rfl) ?_
 refine WC.sub (K' := [(0, .agg #[.int .i64 t.f, .slice a t.args.length c])]) ⟨rfl, trivial⟩ ?_
 refine WC.seq (WC.region ?_)
 refine WL.step (post := NewBlk w 35 #[.int .i64 t.f, .slice a t.args.length c]) rfl rfl rfl (fun za zC zh zk => box_35 rfl (zh.ev rfl) (zk _ _ (newBlk _ _ _))) ?_
 rintro _ w1 ⟨g2, rfl, hg3, hB4, hb5, hz6⟩
 have hl7 : w.heap.size ≤ g2 := by omega
 refine WL.asg rfl rfl rfl rfl rfl (WL.nil (WE.next (WC.seq (WC.region ?_))))
 refine WL.val _ rfl rfl rfl (fun za zC zh zk => ld_35 rfl (zh.ev rfl) ((hB4.cell 0).trans rfl) ((hB4.cell 1).trans rfl) zk) ?_
 refine WL.call rfl rfl rfl (fun za zh zC => wp_call (by kernel_rfl) rfl (hv2 (zh.ev rfl) (zh.ev rfl))) (joinG_any t [] none 0 _ _ hz (by simp; omega) ⟨InRow.nil, Nat.le_refl _, Nat.zero_le _⟩ (IsT.below hb5 hv0)) ?_
 rintro _ w9 ⟨⟨R1, ra1, rc1, rfl, hR1, hv1, hn1⟩, hb8⟩
 refine WL.asg rfl rfl rfl rfl rfl (WL.nil (WE.next (WC.ret (WE.ret1 rfl rfl ?_))))
 have hb10 : Below w.heap.size w w9 := (bstep hb5 hb8)
 refine ⟨_, rfl, ⟨_, _, _, rfl, ?_, by simpa using hn1⟩, hb10⟩
 cases hg : t.gnd
 ·have z : R1 ≠ [] := fun e => by have z := (hv1.1 e).2; rw [hg] at z; cases z
  have z2 : R1.length ≠ 0 := fun e => z (List.length_eq_zero_iff.1 e)
  simp; exact z
 ·have z := hv1.2 ⟨rfl, hg⟩
  rw [z]; rfl
end Go.Proofs.Ytbohlpfndiiimaa

namespace Go.Proofs.Ytbohlpfndiiimaa
open Go.RowKit Go
set_option linter.unusedVariables false
section
variable {w0 w w' : World} {m t iy : Nat} {z : Array Value} {Pf : Nat → (Nat → Prop) → World → Value → Prop} {Pv : Nat → Value → Prop} {vs : List (Option Value)}
/-- Where what was made lies: behind 'w0', and not in the box. -/
def SfV (w0 : World) (m : Nat) (vs : List (Option Value)) : Nat → Prop := fun b => w0.heap.size ≤ b ∧ ∀ g, vs[m]? = some (some (.pointer (some ⟨g, 0, none⟩))) → b ≠ g
structure BVS (w0 : World) (m : Nat) (Pf : Nat → (Nat → Prop) → World → Value → Prop) (Pv : Nat → Value → Prop) (t : Nat) (z : Array Value) (iy : Nat) (vs : List (Option Value)) (w : World) : Prop where
 below : Below w0.heap.size w0 w
 md : vs[m + 1]? = some none → ∀ q v, q < m → vs[q]? = some (some v) → Pf q (SfV w0 m vs) w v
 box : ∀ v, vs[m]? = some (some v) → ∃ g, v = .pointer (some ⟨g, 0, none⟩) ∧ w0.heap.size ≤ g ∧ g < w.heap.size ∧ (vs[m + 1]? = some none → Blk w g t z) ∧ (∀ u, vs[m + 1]? = some (some u) → ∃ vy, vs[iy]? = some (some vy) ∧ Blk w g t (ycells vy) ∧ Pf iy (SfV w0 m vs) w vy)
 pa : vs[m]? = some none → vs[m + 1]? = some none
 pv : ∀ q v, q < m → vs[q]? = some (some v) → Pv q v
variable (k1 : ∀ q S w w' v, (∀ (p : Addr) (x : Value), S p.block → w.cell? p = some x → w'.cell? p = some x) → Pf q S w v → Pf q S w' v)
 (k2 : ∀ q (S S' : Nat → Prop) w v, (∀ b, S b → b < w.heap.size → S' b) → Pf q S w v → Pf q S' w v)
include k1 in
theorem BVS.step (h : BVS w0 m Pf Pv t z iy vs w) (hb : Below w.heap.size w w') : BVS w0 m Pf Pv t z iy vs w' :=
 ⟨bstep h.below hb, fun e q v hq hv => k1 _ _ _ _ _ (fun p x _ hx => bkeeps hb p x hx) (h.md e q v hq hv), fun v hv => by
  obtain ⟨g, e, h1, h2, h3, h4⟩ := h.box v hv
  refine ⟨g, e, h1, Nat.lt_of_lt_of_le h2 hb.size, fun e => (h3 e).below hb, fun u hu => ?_⟩
  obtain ⟨vy, h5, h6, h7⟩ := h4 u hu
  exact ⟨vy, h5, h6.below hb, k1 _ _ _ _ _ (fun p x _ hx => bkeeps hb p x hx) h7⟩, h.pa, h.pv⟩
include k1 k2 in
theorem BVS.make (h : BVS w0 m Pf Pv t z iy vs w) (hl : vs.length = m + 2) {q : Nat} (hq : q < m) (hn : vs[m + 1]? = some none) {v : Value} (hb : Below w.heap.size w w') (hP : Pf q (fun b => SfV w0 m vs b ∨ w.heap.size ≤ b) w' v) (hPv : Pv q v) : BVS w0 m Pf Pv t z iy (vs.set q (some v)) w' := by
 have e1 : (vs.set q (some v))[m]? = vs[m]? := by rw [List.getElem?_set_ne (by omega)]
 have e2 : (vs.set q (some v))[m + 1]? = vs[m + 1]? := by rw [List.getElem?_set_ne (by omega)]
 have eS : SfV w0 m (vs.set q (some v)) = SfV w0 m vs := by unfold SfV; rw [e1]
 have hs := h.step k1 hb
 have hP' : Pf q (SfV w0 m vs) w' v := k2 _ _ _ _ _ (fun b hb2 _ => by
  rcases hb2 with hb2 | hb2
  ·exact hb2
  ·refine ⟨Nat.le_trans h.below.size hb2, fun g hg e => ?_⟩
   obtain ⟨g', e', _, h4, _⟩ := h.box _ hg
   simp only [Value.pointer.injEq, Option.some.injEq, Addr.mk.injEq, and_true] at e'
   omega) hP
 refine ⟨hs.below, fun e q' v' hq' hv' => ?_, fun v' hv' => ?_, fun e => by rw [e2]; exact h.pa (e1 ▸ e), fun q' v' hq' hv' => by
  by_cases hqq : q' = q
  ·subst hqq
   rw [List.getElem?_set_self (by omega)] at hv'
   simp only [Option.some.injEq] at hv'
   subst hv'; exact hPv
  ·rw [List.getElem?_set_ne (Ne.symm hqq)] at hv'; exact h.pv q' v' hq' hv'⟩
 ·rw [eS]
  by_cases hqq : q' = q
  ·subst hqq
   rw [List.getElem?_set_self (by omega)] at hv'
   simp only [Option.some.injEq] at hv'
   subst hv'; exact hP'
  ·rw [List.getElem?_set_ne (Ne.symm hqq)] at hv'
   exact hs.md hn q' v' hq' hv'
 ·rw [e1] at hv'
  obtain ⟨g, e, h1, h2, h3, h4⟩ := hs.box v' hv'
  exact ⟨g, e, h1, h2, fun _ => h3 hn, fun u hu => by rw [e2, hn] at hu; cases hu⟩
include k1 k2 in
theorem BVS.alloc (h : BVS w0 m Pf Pv t z iy vs w) (hl : vs.length = m + 2) (hn : vs[m]? = some none) : BVS w0 m Pf Pv t z iy (vs.set m (some (.pointer (some ⟨w.heap.size, 0, none⟩)))) (w.alloc (.cells z t)) := by
 have e2 : (vs.set m (some (.pointer (some ⟨w.heap.size, 0, none⟩))))[m + 1]? = vs[m + 1]? := by rw [List.getElem?_set_ne (by omega)]
 have hp := h.pa hn
 have hs := h.step k1 (balloc w (.cells z t))
 refine ⟨hs.below, fun e q v hq hv => ?_, fun v hv => ?_, fun e => ?_, fun q v hq hv => by rw [List.getElem?_set_ne (by omega)] at hv; exact h.pv q v hq hv⟩
 ·rw [List.getElem?_set_ne (by omega)] at hv
  refine k1 _ _ w _ _ (fun p x _ hx => bkeeps (balloc w _) p x hx) (k2 _ (SfV w0 m vs) _ _ _ (fun b hb hlt => ⟨hb.1, fun g hg => ?_⟩) (h.md hp q v hq hv))
  rw [List.getElem?_set_self (by omega)] at hg
  simp only [Option.some.injEq, Value.pointer.injEq, Addr.mk.injEq, and_true] at hg
  omega
 ·rw [List.getElem?_set_self (by omega)] at hv
  refine ⟨w.heap.size, (Option.some.inj (Option.some.inj hv)).symm, h.below.size, by simp, fun _ => Blk.new' rfl, fun u hu => by rw [e2, hp] at hu; cases hu⟩
 ·rw [List.getElem?_set_self (by omega)] at e; cases e
include k1 in
theorem BVS.store (h : BVS w0 m Pf Pv t z iy vs w) (hl : vs.length = m + 2) (hiy : iy < m) {g : Nat} {vy u : Value} (hg : vs[m]? = some (some (.pointer (some ⟨g, 0, none⟩)))) (hy : vs[iy]? = some (some vy)) (hn : vs[m + 1]? = some none) (hu : Upd g w w') (hB : Blk w' g t (ycells vy)) : BVS w0 m Pf Pv t z iy (vs.set (m + 1) (some u)) w' := by
 have e1 : (vs.set (m + 1) (some u))[m]? = vs[m]? := by rw [List.getElem?_set_ne (by omega)]
 have eS : SfV w0 m (vs.set (m + 1) (some u)) = SfV w0 m vs := by unfold SfV; rw [e1]
 obtain ⟨g', e', h1, h2, _, _⟩ := h.box _ hg
 simp only [Value.pointer.injEq, Option.some.injEq, Addr.mk.injEq, and_true] at e'
 subst e'
 refine ⟨upd_below h.below hu h1, fun e q v hq hv => ?_, fun v hv => ?_, fun e => ?_, fun q v hq hv => by rw [List.getElem?_set_ne (by omega)] at hv; exact h.pv q v hq hv⟩
 ·rw [List.getElem?_set_self (by omega)] at e; cases e
 ·rw [e1, hg] at hv
  refine ⟨g, (Option.some.inj (Option.some.inj hv)).symm, h1, by rw [hu.size]; exact h2, fun e => (by rw [List.getElem?_set_self (by omega)] at e; cases e), fun _ _ => ⟨vy, by rw [List.getElem?_set_ne (by omega)]; exact hy, hB, ?_⟩⟩
  rw [eS]
  refine k1 _ _ w _ _ (fun p x hp hx => ?_) (h.md hn iy vy hiy hy)
  have hne := hp.2 g hg
  unfold World.cell? at hx ⊢
  rw [hu.block _ hne]; exact hx
 ·rw [e1, hg] at e; cases e
end
section
variable {P : Program} {ops : Array Oper} {Pf : Nat → (Nat → Prop) → World → Value → Prop} {Pv : Nat → Value → Prop}
structure CtxV2 (ops : Array Oper) (l : List (Bool × Value)) (Pf : Nat → (Nat → Prop) → World → Value → Prop) (Pv : Nat → Value → Prop) (ms : List Nat) (ip : Nat) (chain : List Nat) (n : Fr) (K : Known) (w0 : World) (S : Nat → Prop) (i : Nat) (o : Oper) (a : Act) (w : World) : Prop where
 below : Below w0.heap.size w0 w
 kn : Kn n K a
 dep : ∀ j d, depB ops o j d = true → chain.contains j = false → valR1 l j (a.tmps.getD d undef)
 made : ∀ q c d, ms[q]? = some c → depB ops o c d = true → (ancL ops ip).contains i = true → Pf q S w (a.tmps.getD d undef)
 told : ∀ q c d, ms[q]? = some c → depB ops o c d = true → Pv q (a.tmps.getD d undef)
/-- Each operation: one that yields what is listed (it may make memory); one that makes a thing; the new box; the store. -/
def SoundV2 (P : Program) (ops : Array Oper) (Q : Exit → Act → World → Prop) (l : List (Bool × Value)) (n : Fr) (K : Known) (w0 : World) (Pf : Nat → (Nat → Prop) → World → Value → Prop) (Pv : Nat → Value → Prop) (ms : List Nat) (t : Nat) (z : Array Value) (iy ia ip : Nat) : Nat → List Oper → Prop
 | _, [] => True
 | i, o :: r => (((ms ++ [ia, ip]).contains i = false ∧ o.guard = none ∧
    (∀ a w S, CtxV2 ops l Pf Pv ms ip (ms ++ [ia, ip]) n K w0 S i o a w → o.wp P a w (fun a' w' => ∃ v, a' = Act.put a o.dst v ∧ Below w.heap.size w w' ∧ valR1 l i v) Q)) ∨
   (∃ q, ms[q]? = some i ∧ o.guard = none ∧ (ancL ops ip).contains i = true ∧ ∀ a w S, CtxV2 ops l Pf Pv ms ip (ms ++ [ia, ip]) n K w0 S i o a w → o.wp P a w (fun a' w' => ∃ v, a' = Act.put a o.dst v ∧ Below w.heap.size w w' ∧ Pf q (fun b => S b ∨ w.heap.size ≤ b) w' v ∧ Pv q v) Q) ∨
   (i = ia ∧ o.guard = none ∧ ∀ a w S, CtxV2 ops l Pf Pv ms ip (ms ++ [ia, ip]) n K w0 S i o a w → o.wp P a w (fun a' w' => a' = Act.put a o.dst (.pointer (some ⟨w.heap.size, 0, none⟩)) ∧ w' = w.alloc (.cells z t)) Q) ∨
   (i = ip ∧ o.guard = none ∧ ∃ dp dy cy, depB ops o ia dp = true ∧ ms[iy]? = some cy ∧ depB ops o cy dy = true ∧ ∀ a w g S, CtxV2 ops l Pf Pv ms ip (ms ++ [ia, ip]) n K w0 S i o a w → a.tmps.getD dp undef = .pointer (some ⟨g, 0, none⟩) → Blk w g t z → Pf iy S w (a.tmps.getD dy undef) →
    o.wp P a w (fun a' w' => ∃ v, a' = Act.put a o.dst v ∧ Upd g w w' ∧ Blk w' g t (ycells (a.tmps.getD dy undef))) Q)) ∧ SoundV2 P ops Q l n K w0 Pf Pv ms t z iy ia ip (i + 1) r
theorem SoundV2.gen (k1 : ∀ q S w w' v, (∀ (p : Addr) (x : Value), S p.block → w.cell? p = some x → w'.cell? p = some x) → Pf q S w v → Pf q S w' v)
  (k2 : ∀ q (S S' : Nat → Prop) w v, (∀ b, S b → b < w.heap.size → S' b) → Pf q S w v → Pf q S' w v) {Q : Exit → Act → World → Prop} {l : List (Bool × Value)} {n : Fr} {K : Known} {w0 : World} {ms : List Nat} {t : Nat} {z : Array Value} {iy ia ip : Nat} (hiy : iy < ms.length) : ∀ {lo : List Oper} {i : Nat}, SoundV2 P ops Q l n K w0 Pf Pv ms t z iy ia ip i lo →
  SoundFromG P ops Q (ms ++ [ia, ip]) (fun i v _ => valR1 l i v) (fun _ _ => True) (fun vs w => BVS w0 ms.length Pf Pv t z iy vs w) n K i lo
 | [], _, _ => trivial
 | o :: r, i, ⟨h, hr⟩ => by
  refine ⟨?_, hr.gen k1 k2 hiy⟩
  have cm : ∀ q, q < ms.length → (ms ++ [ia, ip])[q]? = ms[q]? := fun q hq => List.getElem?_append_left hq
  have ca : (ms ++ [ia, ip])[ms.length]? = some ia := by rw [List.getElem?_append_right (Nat.le_refl _)]; simp
  have cp : (ms ++ [ia, ip])[ms.length + 1]? = some ip := by rw [List.getElem?_append_right (by omega)]; simp
  have mk : ∀ {a : Act} {w : World} {vs : List (Option Value)} (_ : CtxG ops (ms ++ [ia, ip]) (fun i v _ => valR1 l i v) (fun vs w => BVS w0 ms.length Pf Pv t z iy vs w) n K i o a w vs), CtxV2 ops l Pf Pv ms ip (ms ++ [ia, ip]) n K w0 (SfV w0 ms.length vs) i o a w := by
   intro a w vs C
   refine ⟨C.now.below, C.kn, C.dep, fun q c d hq hd ha => ?_, fun q c d hq hd => C.now.pv q _ (List.getElem?_eq_some_iff.1 hq).1 (C.link q c d ((cm q (List.getElem?_eq_some_iff.1 hq).1).trans hq) hd)⟩
   have hql := (List.getElem?_eq_some_iff.1 hq).1
   exact C.now.md (C.mostT (ms.length + 1) ip cp ha) q _ hql (C.link q c d ((cm q hql).trans hq) hd)
  have hlen : ∀ {a : Act} {w : World} {vs : List (Option Value)} (_ : CtxG ops (ms ++ [ia, ip]) (fun i v _ => valR1 l i v) (fun vs w => BVS w0 ms.length Pf Pv t z iy vs w) n K i o a w vs), vs.length = ms.length + 2 := fun C => by have := C.len; simpa using this
  rcases h with ⟨h1, h2, h3⟩ | ⟨q, hq, h1, ha, h2⟩ | ⟨rfl, h1, h2⟩ | ⟨rfl, h1, dp, dy, cy, h2, h3, h4, h5⟩
  ·refine .inl ⟨h1, true, .none h2, fun g b hb => by (rw [h2] at hb; cases hb), fun e => (by cases e), fun _ a w vs C => ?_⟩
   refine Oper.wpIn_mono ?_ (wpIn_of (h3 a w _ (mk C)) (by rintro a' w' ⟨v, rfl, _⟩; exact put_defers _ _ _))
   rintro a' w' ⟨v, rfl, hb, hv⟩
   exact ⟨v, rfl, trivial, BVS.step k1 C.now hb, hv⟩
  ·have hql := (List.getElem?_eq_some_iff.1 hq).1
   refine .inr ⟨q, (cm q hql).trans hq, h1, fun a w vs C hn => ?_⟩
   refine Oper.wpIn_mono ?_ (wpIn_of (h2 a w _ (mk C)) (by rintro a' w' ⟨v, rfl, _⟩; exact put_defers _ _ _))
   rintro a' w' ⟨v, rfl, hb, hv, hpv⟩
   exact ⟨_, rfl, trivial, BVS.make k1 k2 C.now (hlen C) hql (C.mostT (ms.length + 1) ip cp ha) hb hv hpv⟩
  ·refine .inr ⟨ms.length, ca, h1, fun a w vs C hn => ?_⟩
   refine Oper.wpIn_mono ?_ (wpIn_of (h2 a w _ (mk C)) (by rintro a' w' ⟨rfl, _⟩; exact put_defers _ _ _))
   rintro a' w' ⟨rfl, rfl⟩
   exact ⟨_, rfl, trivial, BVS.alloc k1 k2 C.now (hlen C) hn⟩
  ·refine .inr ⟨ms.length + 1, cp, h1, fun a w vs C hn => ?_⟩
   have e0 := C.link ms.length ia dp ca h2
   have e1 := C.link iy cy dy ((cm iy hiy).trans h3) h4
   obtain ⟨g, h6, h7, h8, h9, _⟩ := C.now.box _ e0
   have hm := C.now.md hn iy _ hiy e1
   refine Oper.wpIn_mono ?_ (wpIn_of (h5 a w g _ (mk C) h6 (h9 hn) hm) (by rintro a' w' ⟨v, rfl, _⟩; exact put_defers _ _ _))
   rintro a' w' ⟨v, rfl, h10, h11⟩
   exact ⟨v, rfl, trivial, BVS.store k1 C.now (hlen C) hiy (by rw [← h6]; exact e0) e1 hn h10 h11⟩
theorem WC.boxV {rid : Nat} {dr : Bool} {Q : Exit → Act → World → Prop} {n : Fr} {K : Known} {w : World} (Pf : Nat → (Nat → Prop) → World → Value → Prop) (Pv : Nat → Value → Prop)
  (k1 : ∀ q S w w' v, (∀ (p : Addr) (x : Value), S p.block → w.cell? p = some x → w'.cell? p = some x) → Pf q S w v → Pf q S w' v)
  (k2 : ∀ q (S S' : Nat → Prop) w v, (∀ b, S b → b < w.heap.size → S' b) → Pf q S w v → Pf q S' w v)
  (l : List (Bool × Value)) (K0 : Known) {t : Nat} {z : Array Value} (ms : List Nat) (iy ia ip da : Nat) (hiy : iy < ms.length)
  (hd : (ms ++ [ia, ip]).Nodup) (hin : ((ms ++ [ia, ip]).all fun c => Nat.blt c ops.size) = true) (hda : (ops[ia]?).bind (·.dst) = some da)
  (hs : subK K0 K) (hclear : clearB ops K0 = true) (hm : P.follows .mixedOrders = true) (hB : opsB ops n.n = true)
  (h : SoundV2 P ops Q l n K0 w Pf Pv ms t z iy ia ip 0 ops.toList)
  (hQ : ∀ (a : Act) (w' : World) (g : Nat) (vy : Value), Kn n K0 a → Below w.heap.size w w' → w.heap.size ≤ g → Blk w' g t (ycells vy) → Pf iy (fun b => w.heap.size ≤ b ∧ b ≠ g) w' vy → a.tmps.getD da undef = .pointer (some ⟨g, 0, none⟩) → (∀ i d, (ops[i]?).bind (·.dst) = some d → (ms ++ [ia, ip]).contains i = false → valR1 l i (a.tmps.getD d undef)) → Q .normal a w') :
  WC P n K w (.region rid ops dr) Q := by
 have ca : (ms ++ [ia, ip])[ms.length]? = some ia := by rw [List.getElem?_append_right (Nat.le_refl _)]; simp
 refine WC.gen (ms ++ [ia, ip]) (fun i v _ => valR1 l i v) (fun _ _ => True) (fun vs w' => BVS w ms.length Pf Pv t z iy vs w') K0 hs hclear hm hB hd hin (fun _ _ _ _ h _ => h) ?_ (h.gen k1 k2 hiy) (fun a w' vs hk hlen hall hG hu hl => ?_)
 ·have hnn : ∀ q (v : Value), (List.replicate (ms ++ [ia, ip]).length (none : Option Value))[q]? ≠ some (some v) := fun q v e => by
   rw [List.getElem?_replicate] at e
   split at e
   ·cases e
   ·cases e
  have st : ∀ w' : World, Below w.heap.size w w' → BVS w ms.length Pf Pv t z iy (List.replicate (ms ++ [ia, ip]).length none) w' := fun w' hb => ⟨hb, fun _ q v _ hv => absurd hv (hnn q v), fun v hv => absurd hv (hnn _ v), fun _ => by rw [List.getElem?_replicate, if_pos (by simp)], fun q v _ hv => absurd hv (hnn q v)⟩
  cases dr with
  | true => exact st _ (Below.refl _ _).drew
  | false => exact st _ (Below.refl _ _)
 ·obtain ⟨v2, hv2⟩ := hall (ms.length + 1) (by simp)
  have ha := hl ms.length ia da ca hda
  obtain ⟨g, e1, h1, _, _, h2⟩ := hG.box _ ha
  obtain ⟨vy, h3, h4, h5⟩ := h2 v2 hv2
  refine hQ a w' g vy hk hG.below h1 h4 (k2 _ _ _ _ _ (fun b hb _ => ⟨hb.1, hb.2 g ?_⟩) h5) e1 hu
  rw [← e1]; exact ha
end
end Go.Proofs.Ytbohlpfndiiimaa
