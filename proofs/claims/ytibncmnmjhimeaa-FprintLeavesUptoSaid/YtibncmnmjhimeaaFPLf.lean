/- An index while a term is added: what is done, one behind the other. -/
import Derived.Test.YtibncmnmjhimeaaFPLb
import Derived.Test.YtibncmnmjhimeaaFPLc
import Derived.Test.YtibncmnmjhimeaaFPLe
import Derived.Test.YtibncmnmjhimeaaFPLa
import Derived.Test.YtibncmnmjhimeaaFPLd
import Derived.ChangeKeysEq
import Derived.Test.YtibncmnmjhimeaaProg
import Derived.Shelf.SlGeneric
import Derived.Ground.SlgmProg
import Derived.Shelf.SortM.Plain
import Derived.Shelf.SortM.SortNone
import Derived.Shelf.Slices.CompactI
import Derived.Shelf.Slices.Empties
import Derived.Shelf.Slices.Turned
import Derived.Ground.NamesProg
import Derived.Ground.Names2Prog
import Derived.Sort.OwnSortedInts

/- Sizes, depths, variables: the document's program. -/
namespace Go.Proofs.Ytibncmnmjhimeaa
open Go.RowKit Go
set_option linter.unusedVariables false
set_option linter.unusedSimpArgs false
set_option maxRecDepth 100000 in
theorem rsize_any : ∀ (t : T) (w : World) (v : Value), t.size ≤ 4294967296 → IsT w t v → Calls Try.prog 21 #[v] w (Ret fun v' w' => v' = .int .i64 (t.size : Nat) ∧ Below w.heap.size w w') := by
  refine T.ind (fun f l ih => ?_)
  intro w v hz hv
  have hv0 := hv
  have hlen := len_le_sizeL l
  have hz' := hz
  simp only [T.size] at hz'
  obtain ⟨hf, a, c, rfl, hc, hm, hl⟩ := hv
  have hf' := hf
  unfold I64 at hf'
  refine Calls.walk (l := [.agg #[.int .i64 f, .slice a l.length c]]) Try.func21 rfl (by kernel_rfl) ?_
  refine WC.sub (K' := [(0, .agg #[.int .i64 f, .slice a l.length c])]) ⟨rfl, trivial⟩ ?_
  refine WC.seq ?_
  refine WC.region ?_
  refine WL.step (post := NewBlk w 24 #[.int .i64 f, .slice a l.length c]) rfl rfl rfl (fun za zC zh zk => box_24 rfl (zh.ev rfl) (zk _ _ (newBlk _ _ _))) ?_
  rintro _ w1 ⟨g2, rfl, hg3, hB4, hb5, hz6⟩
  have hl7 : w.heap.size ≤ g2 := by omega
  refine WL.asg rfl rfl rfl rfl rfl ?_
  refine WL.nil ?_
  refine WE.next ?_
  refine WC.seq ?_
  refine WC.region ?_
  refine WL.asg rfl rfl rfl rfl rfl ?_
  refine WL.nil ?_
  refine WE.next ?_
  refine WC.seq ?_
  refine WC.seq ?_
  refine WC.region ?_
  refine WL.asg rfl rfl rfl rfl rfl ?_
  refine WL.nil ?_
  refine WE.next ?_
  refine WC.block ?_
  refine WC.loop (X := Nat) (fun k => l.length - k) (fun k => [(0, .agg #[.int .i64 f, .slice a l.length c]), (1, .pointer (some ⟨g2, 0, none⟩)), (2, .int .i64 0), (3, .int .i64 ((((1 + T.sizeL (l.take k)) : Nat) : Int))), (4, .int .i64 (((k : Nat) : Int)))]) (fun k w8 => k ≤ l.length ∧ Below w.heap.size w w8 ∧ Blk w8 g2 24 #[.int .i64 f, .slice a l.length c]) 0 ⟨rfl, rfl, rfl, rfl, rfl, trivial⟩ ?_ ?_
  · exact ⟨Nat.zero_le _, hb5, hB4⟩
  · rintro k w8 ⟨hk, hb9, hB10⟩
    refine WC.seq ?_
    refine WC.seq ?_
    refine WC.region ?_
    refine WL.mv rfl rfl rfl rfl rfl ?_
    refine WL.val _ rfl rfl rfl (fun za zC zh zk => fld_24_1 rfl (zh.ev rfl) zk) ?_
    refine WL.val _ rfl rfl rfl (fun za zC zh zk => ld_22 rfl (zh.ev rfl) ((hB10.cell 1).trans rfl) zk) ?_
    refine WL.val (.int .i64 (((l.length : Nat) : Int))) rfl rfl rfl (fun za zC zh zk => len_22 rfl (zh.ev rfl) zk) ?_
    refine WL.val (.bool ((decide ((((k : Nat) : Int) : Int) < (((l.length : Nat) : Int) : Int))))) rfl rfl rfl (fun za zC zh zk => lss_3 rfl (zh.ev rfl) (zh.ev rfl) zk) ?_
    refine WL.nil ?_
    refine WE.next ?_
    refine WC.cond rfl (fun h11 => ?_) (fun h11 => ?_)
    · have h11 : (((k : Nat) : Int) : Int) < (((l.length : Nat) : Int) : Int) := by simpa using h11
      refine WC.skip ?_
      refine WE.next ?_
      refine WC.seq ?_
      refine WC.block ?_
      refine WC.region ?_
      refine WL.mv rfl rfl rfl rfl rfl ?_
      refine WL.val _ rfl rfl rfl (fun za zC zh zk => fld_24_1 rfl (zh.ev rfl) zk) ?_
      refine WL.val _ rfl rfl rfl (fun za zC zh zk => ld_22 rfl (zh.ev rfl) ((hB10.cell 1).trans rfl) zk) ?_
      refine WL.mv rfl rfl rfl rfl rfl ?_
      obtain ⟨b12, o13, A14, C15, ha16, hc17⟩ := IsTs.open hl
      refine WL.val _ rfl rfl rfl (fun za zC zh zk => ix_22 (k := k) rfl (zh.ev rfl) (ha16 k (by first | omega | (simp; omega))) (zh.ev rfl) (by first | omega | (simp; omega)) zk) ?_
      refine WL.val _ rfl rfl rfl (fun za zC zh zk => ld_24 rfl (zh.ev rfl) (bkeeps hb9 _ _ (hc17 k (by first | omega | (simp; omega))).1) (bkeeps hb9 _ _ (hc17 k (by first | omega | (simp; omega))).2.1) zk) ?_
      refine WL.call rfl rfl rfl (fun za zh zC => wp_call (by kernel_rfl) rfl (hv1 (zh.ev rfl))) (ih _ (tget_mem (by omega)) _ _ (size_at (by omega) hz) (IsT.below hb9 (hc17 k (by first | omega | (simp; omega))).2.2)) ?_
      rintro _ w19 ⟨rfl, hq18⟩
      refine WL.val (.int .i64 ((((1 + T.sizeL (l.take (k + 1))) : Nat) : Int))) rfl rfl rfl (fun za zC zh zk => addb_3 rfl (zh.ev rfl) (zh.ev rfl) (wrap_eq (by rw [sizeL_take1 (by omega)]; omega) (by omega) (by have z := sizeL_take1 (l := l) (k := k) (by omega); have z2 := T.sizeL_take_le l (k + 1); omega)) zk) ?_
      refine WL.asg rfl rfl rfl rfl rfl ?_
      refine WL.nil ?_
      refine WE.blockNormal ?_
      refine WE.next ?_
      refine WC.region ?_
      refine WL.mv rfl rfl rfl rfl rfl ?_
      refine WL.val (.int .i64 ((((k + 1) : Nat) : Int))) rfl rfl rfl (fun za zC zh zk => addb_3 rfl (zh.ev rfl) (zh.ev rfl) (wrap_eq (by omega) (by omega) (by omega)) zk) ?_
      refine WL.asg rfl rfl rfl rfl rfl ?_
      refine WL.nil ?_
      refine WE.round (k + 1) ⟨rfl, rfl, rfl, rfl, rfl, trivial⟩ ?_ ?_
      · have hb20 : Below w.heap.size w w19 := (bstep hb9 hq18)
        have hB21 := hB10.below hq18
        exact ⟨by omega, hb20, hB21⟩
      · omega
    · have h11 : ¬ ((((k : Nat) : Int) : Int) < (((l.length : Nat) : Int) : Int)) := by simpa using h11
      refine WC.exit ?_
      refine WE.thenExit ?_
      refine WE.thenExit ?_
      refine WE.blockIs rfl ?_
      refine WE.next ?_
      refine WC.seq ?_
      refine WC.region ?_
      refine WL.mv rfl rfl rfl rfl rfl ?_
      refine WL.asg rfl rfl rfl rfl rfl ?_
      refine WL.nil ?_
      refine WE.next ?_
      refine WC.ret ?_
      refine WE.ret1 rfl rfl ?_
      refine ⟨_, rfl, ?_, hb9⟩
      rw [List.take_of_length_le (show l.length ≤ k by omega), T.size]
theorem wp_max2 {P : Program} {w : World} {a : Act} {K : Act → World → Prop} {Q : Exit → Act → World → Prop} {o : Oper} {x y : Operand} {m n r : Int} (ho : o.op = .call { callee := .builtin .max, args := #[x, y], argTypes := #[3, 3] }) (hx : a.eval x = .int .i64 m) (hy : a.eval y = .int .i64 n) (hr : r = max m n) (hK : K (a.put o.dst (.int .i64 r)) w) : o.wp P a w K Q := by
  subst hr
  unfold Oper.wp execOp
  simp only [ho, resolve, invoke, builtin, Sem.run_bind, Sem.run_pure, Result.andThen_ok, List.map_toArray, List.map_cons, List.map_nil, hx, hy]
  go_simp
  first
  | exact hK
  | (have e : max m n = (if m < n then n else m) := by omega
     rw [e] at hK; exact hK)
set_option maxRecDepth 100000 in
theorem rdepth_any : ∀ (t : T) (w : World) (v : Value), t.size ≤ 4294967296 → IsT w t v → Calls Try.prog 22 #[v] w (Ret fun v' w' => v' = .int .i64 (t.dep : Nat) ∧ Below w.heap.size w w') := by
  refine T.ind (fun f l ih => ?_)
  intro w v hz hv
  have hv0 := hv
  have hlen := len_le_sizeL l
  have hz' := hz
  simp only [T.size] at hz'
  obtain ⟨hf, a, c, rfl, hc, hm, hl⟩ := hv
  have hf' := hf
  unfold I64 at hf'
  refine Calls.walk (l := [.agg #[.int .i64 f, .slice a l.length c]]) Try.func22 rfl (by kernel_rfl) ?_
  refine WC.sub (K' := [(0, .agg #[.int .i64 f, .slice a l.length c])]) ⟨rfl, trivial⟩ ?_
  refine WC.seq ?_
  refine WC.region ?_
  refine WL.step (post := NewBlk w 24 #[.int .i64 f, .slice a l.length c]) rfl rfl rfl (fun za zC zh zk => box_24 rfl (zh.ev rfl) (zk _ _ (newBlk _ _ _))) ?_
  rintro _ w1 ⟨g2, rfl, hg3, hB4, hb5, hz6⟩
  have hl7 : w.heap.size ≤ g2 := by omega
  refine WL.asg rfl rfl rfl rfl rfl ?_
  refine WL.nil ?_
  refine WE.next ?_
  refine WC.seq ?_
  refine WC.region ?_
  refine WL.asg rfl rfl rfl rfl rfl ?_
  refine WL.nil ?_
  refine WE.next ?_
  refine WC.seq ?_
  refine WC.seq ?_
  refine WC.region ?_
  refine WL.asg rfl rfl rfl rfl rfl ?_
  refine WL.nil ?_
  refine WE.next ?_
  refine WC.block ?_
  refine WC.loop (X := Nat) (fun k => l.length - k) (fun k => [(0, .agg #[.int .i64 f, .slice a l.length c]), (1, .pointer (some ⟨g2, 0, none⟩)), (2, .int .i64 0), (3, .int .i64 ((((T.depL (l.take k)) : Nat) : Int))), (4, .int .i64 (((k : Nat) : Int)))]) (fun k w8 => k ≤ l.length ∧ Below w.heap.size w w8 ∧ Blk w8 g2 24 #[.int .i64 f, .slice a l.length c]) 0 ⟨rfl, rfl, rfl, rfl, rfl, trivial⟩ ?_ ?_
  · exact ⟨Nat.zero_le _, hb5, hB4⟩
  · rintro k w8 ⟨hk, hb9, hB10⟩
    refine WC.seq ?_
    refine WC.seq ?_
    refine WC.region ?_
    refine WL.mv rfl rfl rfl rfl rfl ?_
    refine WL.val _ rfl rfl rfl (fun za zC zh zk => fld_24_1 rfl (zh.ev rfl) zk) ?_
    refine WL.val _ rfl rfl rfl (fun za zC zh zk => ld_22 rfl (zh.ev rfl) ((hB10.cell 1).trans rfl) zk) ?_
    refine WL.val (.int .i64 (((l.length : Nat) : Int))) rfl rfl rfl (fun za zC zh zk => len_22 rfl (zh.ev rfl) zk) ?_
    refine WL.val (.bool ((decide ((((k : Nat) : Int) : Int) < (((l.length : Nat) : Int) : Int))))) rfl rfl rfl (fun za zC zh zk => lss_3 rfl (zh.ev rfl) (zh.ev rfl) zk) ?_
    refine WL.nil ?_
    refine WE.next ?_
    refine WC.cond rfl (fun h11 => ?_) (fun h11 => ?_)
    · have h11 : (((k : Nat) : Int) : Int) < (((l.length : Nat) : Int) : Int) := by simpa using h11
      refine WC.skip ?_
      refine WE.next ?_
      refine WC.seq ?_
      refine WC.block ?_
      refine WC.region ?_
      refine WL.mv rfl rfl rfl rfl rfl ?_
      refine WL.val _ rfl rfl rfl (fun za zC zh zk => fld_24_1 rfl (zh.ev rfl) zk) ?_
      refine WL.val _ rfl rfl rfl (fun za zC zh zk => ld_22 rfl (zh.ev rfl) ((hB10.cell 1).trans rfl) zk) ?_
      refine WL.mv rfl rfl rfl rfl rfl ?_
      obtain ⟨b12, o13, A14, C15, ha16, hc17⟩ := IsTs.open hl
      refine WL.val _ rfl rfl rfl (fun za zC zh zk => ix_22 (k := k) rfl (zh.ev rfl) (ha16 k (by first | omega | (simp; omega))) (zh.ev rfl) (by first | omega | (simp; omega)) zk) ?_
      refine WL.val _ rfl rfl rfl (fun za zC zh zk => ld_24 rfl (zh.ev rfl) (bkeeps hb9 _ _ (hc17 k (by first | omega | (simp; omega))).1) (bkeeps hb9 _ _ (hc17 k (by first | omega | (simp; omega))).2.1) zk) ?_
      refine WL.call rfl rfl rfl (fun za zh zC => wp_call (by kernel_rfl) rfl (hv1 (zh.ev rfl))) (ih _ (tget_mem (by omega)) _ _ (size_at (by omega) hz) (IsT.below hb9 (hc17 k (by first | omega | (simp; omega))).2.2)) ?_
      rintro _ w19 ⟨rfl, hq18⟩
      refine WL.val (.int .i64 ((T.depL (l.take (k + 1)) : Nat) : Int)) rfl rfl rfl (fun za zC zh zk => wp_max2 rfl (zh.ev rfl) (zh.ev rfl) (by rw [depL_take (by omega)]; (try omega)) zk) ?_
      refine WL.asg rfl rfl rfl rfl rfl ?_
      refine WL.nil ?_
      refine WE.blockNormal ?_
      refine WE.next ?_
      refine WC.region ?_
      refine WL.mv rfl rfl rfl rfl rfl ?_
      refine WL.val (.int .i64 ((((k + 1) : Nat) : Int))) rfl rfl rfl (fun za zC zh zk => addb_3 rfl (zh.ev rfl) (zh.ev rfl) (wrap_eq (by omega) (by omega) (by omega)) zk) ?_
      refine WL.asg rfl rfl rfl rfl rfl ?_
      refine WL.nil ?_
      refine WE.round (k + 1) ⟨rfl, rfl, rfl, rfl, rfl, trivial⟩ ?_ ?_
      · have hb20 : Below w.heap.size w w19 := (bstep hb9 hq18)
        have hB21 := hB10.below hq18
        exact ⟨by omega, hb20, hB21⟩
      · omega
    · have h11 : ¬ ((((k : Nat) : Int) : Int) < (((l.length : Nat) : Int) : Int)) := by simpa using h11
      refine WC.exit ?_
      refine WE.thenExit ?_
      refine WE.thenExit ?_
      refine WE.blockIs rfl ?_
      refine WE.next ?_
      refine WC.seq ?_
      refine WC.region ?_
      refine WL.mv rfl rfl rfl rfl rfl ?_
      refine WL.val (.int .i64 ((((T.depL (l.take k) + 1) : Nat) : Int))) rfl rfl rfl (fun za zC zh zk => addb_3 rfl (zh.ev rfl) (zh.ev rfl) (wrap_eq (by omega) (by omega) (by have z2 := depL_take_le (l := l) (k := k); omega)) zk) ?_
      refine WL.asg rfl rfl rfl rfl rfl ?_
      refine WL.nil ?_
      refine WE.next ?_
      refine WC.ret ?_
      refine WE.ret1 rfl rfl ?_
      refine ⟨_, rfl, ?_, hb9⟩
      rw [List.take_of_length_le (show l.length ≤ k by omega), T.dep]
theorem neg_int {P : Program} {w : World} {a : Act} {K : Act → World → Prop} {Q : Exit → Act → World → Prop} {o : Oper} {x : Operand} {m r : Int} (ho : o.op = .unOp .neg 3 x) (hx : a.eval x = .int .i64 m) (hr : IntKind.i64.wrap (-m) = r) (hK : K (a.put o.dst (.int .i64 r)) w) : o.wp P a w K Q := by
  subst hr
  unfold Oper.wp execOp
  simp only [ho, hx]
  go_simp
  exact hK
set_option maxRecDepth 100000 in
theorem rlow_any (m : Int) (hm0 : 0 ≤ m ∧ m ≤ 1099511627776) : ∀ (t : T) (w : World) (v : Value), t.size ≤ 4294967296 → IsT w t v → Calls Try.prog 23 #[v, .int .i64 m] w (Ret fun v' w' => v' = .bool (t.low m) ∧ Below w.heap.size w w') := by
  refine T.ind (fun f l ih => ?_)
  intro w v hz hv
  have hv0 := hv
  have hlen := len_le_sizeL l
  have hz' := hz
  simp only [T.size] at hz'
  obtain ⟨hf, a, c, rfl, hc, hm, hl⟩ := hv
  have hf' := hf
  unfold I64 at hf'
  refine Calls.walk (l := [.agg #[.int .i64 f, .slice a l.length c], .int .i64 m]) Try.func23 rfl (by kernel_rfl) ?_
  refine WC.sub (K' := [(0, .agg #[.int .i64 f, .slice a l.length c]), (1, .int .i64 m)]) ⟨rfl, rfl, trivial⟩ ?_
  refine WC.seq ?_
  refine WC.region ?_
  refine WL.step (post := NewBlk w 24 #[.int .i64 f, .slice a l.length c]) rfl rfl rfl (fun za zC zh zk => box_24 rfl (zh.ev rfl) (zk _ _ (newBlk _ _ _))) ?_
  rintro _ w1 ⟨g2, rfl, hg3, hB4, hb5, hz6⟩
  have hl7 : w.heap.size ≤ g2 := by omega
  refine WL.asg rfl rfl rfl rfl rfl ?_
  refine WL.nil ?_
  refine WE.next ?_
  refine WC.seq ?_
  refine WC.seq ?_
  refine WC.region ?_
  refine WL.val _ rfl rfl rfl (fun za zC zh zk => fld_24_0 rfl (zh.ev rfl) zk) ?_
  refine WL.val _ rfl rfl rfl (fun za zC zh zk => ld_3 rfl (zh.ev rfl) ((hB4.cell 0).trans rfl) zk) ?_
  refine WL.val (.bool ((decide ((f : Int) < (0 : Int))))) rfl rfl rfl (fun za zC zh zk => lss_3 rfl (zh.ev rfl) (zh.ev rfl) zk) ?_
  refine WL.nil ?_
  refine WE.next ?_
  refine WC.cond rfl (fun h8 => ?_) (fun h8 => ?_)
  · have h8 : (f : Int) < (0 : Int) := by simpa using h8
    refine WC.seq ?_
    refine WC.opt [(true, .val (.pointer (some ⟨g2, 0, none⟩))), (true, .val (.int .i64 f)), (true, .val (.int .i64 m)), (true, .val (.int .i64 ((-m)))), (true, .val (.bool ((decide (((-m) : Int) ≤ (f : Int)))))), (true, .val (.bool ((decide (((-m) : Int) ≤ (f : Int)))))), ((true && (decide (((-m) : Int) ≤ (f : Int)))), .val (.pointer (some ⟨g2, 1, none⟩))), ((true && (decide (((-m) : Int) ≤ (f : Int)))), .val (.slice a l.length c)), ((true && (decide (((-m) : Int) ≤ (f : Int)))), .val (.int .i64 (((l.length : Nat) : Int)))), ((true && (decide (((-m) : Int) ≤ (f : Int)))), .val (.bool (((((l.length : Nat) : Int) : Int) == (0 : Int))))), (true, .val (.bool (((decide (((-m) : Int) ≤ (f : Int))) && ((((l.length : Nat) : Int) : Int) == (0 : Int)))))), (true, .val (.bool (((decide (((-m) : Int) ≤ (f : Int))) && ((((l.length : Nat) : Int) : Int) == (0 : Int))))))] [(0, .agg #[.int .i64 f, .slice a l.length c]), (1, .int .i64 m), (2, .pointer (some ⟨g2, 0, none⟩)), (8, .bool ((decide ((f : Int) < (0 : Int)))))] ⟨rfl, rfl, rfl, rfl, trivial⟩ (by kernel_rfl) (by kernel_rfl) (by kernel_rfl) ?_ ?_
    · refine ⟨⟨true, .none rfl, fun h w => optUndef h, fun zβ za zw zc => ?_⟩, ?_⟩
      · exact fld_24_0 rfl (zc.kn.ev rfl) ⟨_, rfl, Below.refl _ _, optDef zβ rfl⟩
      refine ⟨⟨true, .none rfl, fun h w => optUndef h, fun zβ za zw zc => ?_⟩, ?_⟩
      · exact ld_3 rfl ((evt za 9).trans (optVal (zc.dep 0 9 (by kernel_rfl)) rfl rfl)) (bkeeps zc.below _ _ ((hB4.cell 0).trans rfl)) ⟨_, rfl, Below.refl _ _, optDef zβ rfl⟩
      refine ⟨⟨true, .none rfl, fun h w => optUndef h, fun zβ za zw zc => ?_⟩, ?_⟩
      · exact wp_move rfl (zc.kn.ev rfl) ⟨_, rfl, Below.refl _ _, optDef zβ rfl⟩
      refine ⟨⟨true, .none rfl, fun h w => optUndef h, fun zβ za zw zc => ?_⟩, ?_⟩
      · exact neg_int rfl ((evt za 11).trans (optVal (zc.dep 2 11 (by kernel_rfl)) rfl rfl)) (wrap_eq rfl (by omega) (by omega)) ⟨_, rfl, Below.refl _ _, optDef zβ rfl⟩
      refine ⟨⟨true, .none rfl, fun h w => optUndef h, fun zβ za zw zc => ?_⟩, ?_⟩
      · exact geq_3 rfl ((evt za 10).trans (optVal (zc.dep 1 10 (by kernel_rfl)) rfl rfl)) ((evt za 12).trans (optVal (zc.dep 3 12 (by kernel_rfl)) rfl rfl)) ⟨_, rfl, Below.refl _ _, optDef zβ rfl⟩
      refine ⟨⟨true, .none rfl, fun h w => optUndef h, fun zβ za zw zc => ?_⟩, ?_⟩
      · exact wp_move rfl ((evt za 13).trans (optVal (zc.dep 4 13 (by kernel_rfl)) rfl rfl)) ⟨_, rfl, Below.refl _ _, optDef zβ rfl⟩
      refine ⟨⟨_, .yes (d := true) rfl (fun v w h => h), fun h w => optUndef h, fun zβ za zw zc => ?_⟩, ?_⟩
      · exact fld_24_1 rfl (zc.kn.ev rfl) ⟨_, rfl, Below.refl _ _, optDef zβ rfl⟩
      refine ⟨⟨_, .yes (d := true) rfl (fun v w h => h), fun h w => optUndef h, fun zβ za zw zc => ?_⟩, ?_⟩
      · exact ld_22 rfl ((evt za 15).trans (optVal (zc.dep 6 15 (by kernel_rfl)) rfl zβ)) (bkeeps zc.below _ _ ((hB4.cell 1).trans rfl)) ⟨_, rfl, Below.refl _ _, optDef zβ rfl⟩
      refine ⟨⟨_, .yes (d := true) rfl (fun v w h => h), fun h w => optUndef h, fun zβ za zw zc => ?_⟩, ?_⟩
      · exact len_22 rfl ((evt za 16).trans (optVal (zc.dep 7 16 (by kernel_rfl)) rfl zβ)) ⟨_, rfl, Below.refl _ _, optDef zβ rfl⟩
      refine ⟨⟨_, .yes (d := true) rfl (fun v w h => h), fun h w => optUndef h, fun zβ za zw zc => ?_⟩, ?_⟩
      · exact eql_3 rfl ((evt za 17).trans (optVal (zc.dep 8 17 (by kernel_rfl)) rfl zβ)) (zc.kn.ev rfl) ⟨_, rfl, Below.refl _ _, optDef zβ rfl⟩
      refine ⟨⟨true, .none rfl, fun h w => optUndef h, fun zβ za zw zc => ?_⟩, ?_⟩
      · exact wp_and rfl ((evt za 14).trans (optVal (zc.dep 5 14 (by kernel_rfl)) rfl rfl)) (fun hp => ((evt za 18).trans (optVal (zc.dep 9 18 (by kernel_rfl)) rfl (bMk zβ hp)))) ⟨_, rfl, Below.refl _ _, optDef zβ rfl⟩
      refine ⟨⟨true, .none rfl, fun h w => optUndef h, fun zβ za zw zc => ?_⟩, ?_⟩
      · exact wp_assign rfl ((evt za 19).trans (optVal (zc.dep 10 19 (by kernel_rfl)) rfl rfl)) ⟨_, rfl, Below.refl _ _, optDef zβ rfl⟩
      exact trivial
    · intro za w9 zh hb10 zu
      have zh := zh.cons (d := 4) (v := .bool (((decide (((-m) : Int) ≤ (f : Int))) && ((((l.length : Nat) : Int) : Int) == (0 : Int))))) (optVal (zu 11 4 (by kernel_rfl)) rfl rfl)
      clear zu
      refine WE.go zh ?_
      refine WE.next ?_
      refine WC.ret ?_
      refine WE.thenRet ?_
      refine WE.ret1 rfl rfl ?_
      have hb11 : Below w.heap.size w w9 := (bstep hb5 hb10)
      refine ⟨_, rfl, congrArg Value.bool ?_, hb11⟩
      rw [T.low, if_pos (by simpa using h8)]
      rw [Bool.eq_iff_iff]; (try simp); (try omega)
  · have h8 : ¬ ((f : Int) < (0 : Int)) := by simpa using h8
    refine WC.skip ?_
    refine WE.next ?_
    refine WC.seq ?_
    refine WC.seq ?_
    refine WC.region ?_
    refine WL.asg rfl rfl rfl rfl rfl ?_
    refine WL.nil ?_
    refine WE.next ?_
    refine WC.block ?_
    refine WC.loop (X := Nat) (fun k => l.length - k) (fun k => [(0, .agg #[.int .i64 f, .slice a l.length c]), (1, .int .i64 m), (2, .pointer (some ⟨g2, 0, none⟩)), (5, .int .i64 (((k : Nat) : Int))), (8, .bool ((decide ((f : Int) < (0 : Int)))))]) (fun k w12 => k ≤ l.length ∧ (∀ i, i < k → (tget l i).low m = true) ∧ Below w.heap.size w w12 ∧ Blk w12 g2 24 #[.int .i64 f, .slice a l.length c]) 0 ⟨rfl, rfl, rfl, rfl, rfl, trivial⟩ ?_ ?_
    · exact ⟨Nat.zero_le _, fun i h => absurd h (Nat.not_lt_zero i), hb5, hB4⟩
    · rintro k w12 ⟨hk, hE, hb13, hB14⟩
      refine WC.seq ?_
      refine WC.seq ?_
      refine WC.region ?_
      refine WL.mv rfl rfl rfl rfl rfl ?_
      refine WL.val _ rfl rfl rfl (fun za zC zh zk => fld_24_1 rfl (zh.ev rfl) zk) ?_
      refine WL.val _ rfl rfl rfl (fun za zC zh zk => ld_22 rfl (zh.ev rfl) ((hB14.cell 1).trans rfl) zk) ?_
      refine WL.val (.int .i64 (((l.length : Nat) : Int))) rfl rfl rfl (fun za zC zh zk => len_22 rfl (zh.ev rfl) zk) ?_
      refine WL.val (.bool ((decide ((((k : Nat) : Int) : Int) < (((l.length : Nat) : Int) : Int))))) rfl rfl rfl (fun za zC zh zk => lss_3 rfl (zh.ev rfl) (zh.ev rfl) zk) ?_
      refine WL.nil ?_
      refine WE.next ?_
      refine WC.cond rfl (fun h15 => ?_) (fun h15 => ?_)
      · have h15 : (((k : Nat) : Int) : Int) < (((l.length : Nat) : Int) : Int) := by simpa using h15
        refine WC.skip ?_
        refine WE.next ?_
        refine WC.seq ?_
        refine WC.block ?_
        refine WC.seq ?_
        refine WC.region ?_
        refine WL.val _ rfl rfl rfl (fun za zC zh zk => fld_24_1 rfl (zh.ev rfl) zk) ?_
        refine WL.val _ rfl rfl rfl (fun za zC zh zk => ld_22 rfl (zh.ev rfl) ((hB14.cell 1).trans rfl) zk) ?_
        refine WL.mv rfl rfl rfl rfl rfl ?_
        obtain ⟨b16, o17, A18, C19, ha20, hc21⟩ := IsTs.open hl
        refine WL.val _ rfl rfl rfl (fun za zC zh zk => ix_22 (k := k) rfl (zh.ev rfl) (ha20 k (by first | omega | (simp; omega))) (zh.ev rfl) (by first | omega | (simp; omega)) zk) ?_
        refine WL.val _ rfl rfl rfl (fun za zC zh zk => ld_24 rfl (zh.ev rfl) (bkeeps hb13 _ _ (hc21 k (by first | omega | (simp; omega))).1) (bkeeps hb13 _ _ (hc21 k (by first | omega | (simp; omega))).2.1) zk) ?_
        refine WL.mv rfl rfl rfl rfl rfl ?_
        refine WL.call rfl rfl rfl (fun za zh zC => wp_call (by kernel_rfl) rfl (hv2 (zh.ev rfl) (zh.ev rfl))) (ih _ (tget_mem (by omega)) _ _ (size_at (by omega) hz) (IsT.below hb13 (hc21 k (by first | omega | (simp; omega))).2.2)) ?_
        rintro _ w23 ⟨rfl, hq22⟩
        refine WL.val (.bool ((!((tget l k).low m)))) rfl rfl rfl (fun za zC zh zk => wp_not rfl (zh.ev rfl) zk) ?_
        refine WL.nil ?_
        refine WE.next ?_
        refine WC.cond rfl (fun h24 => ?_) (fun h24 => ?_)
        · have h24 : ¬ (((tget l k).low m) = true) := by simpa using h24
          refine WC.seq ?_
          refine WC.region ?_
          refine WL.asg rfl rfl rfl rfl rfl ?_
          refine WL.nil ?_
          refine WE.next ?_
          refine WC.ret ?_
          refine WE.blockRet ?_
          refine WE.thenRet ?_
          refine WE.thenRet ?_
          refine WE.blockRet ?_
          refine WE.thenRet ?_
          refine WE.ret1 rfl rfl ?_
          have hb25 : Below w.heap.size w w23 := (bstep hb13 hq22)
          exact ⟨_, rfl, congrArg Value.bool (low_no (k := k) (by simpa using h8) (by omega) (by simpa using h24)).symm, hb25⟩
        · have h24 : ¬ (¬ (((tget l k).low m) = true)) := by simpa using h24
          refine WC.skip ?_
          refine WE.blockNormal ?_
          refine WE.next ?_
          refine WC.region ?_
          refine WL.mv rfl rfl rfl rfl rfl ?_
          refine WL.val (.int .i64 ((((k + 1) : Nat) : Int))) rfl rfl rfl (fun za zC zh zk => addb_3 rfl (zh.ev rfl) (zh.ev rfl) (wrap_eq (by omega) (by omega) (by omega)) zk) ?_
          refine WL.asg rfl rfl rfl rfl rfl ?_
          refine WL.nil ?_
          refine WE.round (k + 1) ⟨rfl, rfl, rfl, rfl, rfl, trivial⟩ ?_ ?_
          · have hb26 : Below w.heap.size w w23 := (bstep hb13 hq22)
            have hB27 := hB14.below hq22
            exact ⟨by omega, fun i hi => by rcases Nat.lt_or_ge i k with q | q; exact hE i q; (obtain rfl : i = k := by omega); simpa using h24, hb26, hB27⟩
          · omega
      · have h15 : ¬ ((((k : Nat) : Int) : Int) < (((l.length : Nat) : Int) : Int)) := by simpa using h15
        refine WC.exit ?_
        refine WE.thenExit ?_
        refine WE.thenExit ?_
        refine WE.blockIs rfl ?_
        refine WE.next ?_
        refine WC.seq ?_
        refine WC.region ?_
        refine WL.asg rfl rfl rfl rfl rfl ?_
        refine WL.nil ?_
        refine WE.next ?_
        refine WC.ret ?_
        refine WE.ret1 rfl rfl ?_
        exact ⟨_, rfl, congrArg Value.bool (low_yes (by simpa using h8) (fun i hi => hE i (by omega))).symm, hb13⟩
set_option maxRecDepth 100000 in
theorem rsmall_any (t : T) (m : Int) (w : World) (v : Value) (hm0 : 0 ≤ m ∧ m ≤ 1099511627776) (hz : t.size ≤ 4294967296) (hv : IsT w t v) : Calls Try.prog 6 #[v, .int .i64 m] w (Ret fun v' w' => v' = .bool (t.small m) ∧ Below w.heap.size w w') := by
  have hv0 := hv
  obtain ⟨hf, a, c, rfl, _, _, _⟩ := hv.form
  refine Calls.walk (l := [.agg #[.int .i64 t.f, .slice a t.args.length c], .int .i64 m]) Try.func6 rfl (by kernel_rfl) ?_
  refine WC.sub (K' := [(0, .agg #[.int .i64 t.f, .slice a t.args.length c]), (1, .int .i64 m)]) ⟨rfl, rfl, trivial⟩ ?_
  refine WC.seq ?_
  refine WC.region ?_
  refine WL.step (post := NewBlk w 24 #[.int .i64 t.f, .slice a t.args.length c]) rfl rfl rfl (fun za zC zh zk => box_24 rfl (zh.ev rfl) (zk _ _ (newBlk _ _ _))) ?_
  rintro _ w1 ⟨g2, rfl, hg3, hB4, hb5, hz6⟩
  have hl7 : w.heap.size ≤ g2 := by omega
  refine WL.asg rfl rfl rfl rfl rfl ?_
  refine WL.nil ?_
  refine WE.next ?_
  refine WC.seq ?_
  refine WC.opt [(true, .val (.agg #[.int .i64 t.f, .slice a t.args.length c])), (true, .val (.int .i64 (((t.size : Nat) : Int)))), (true, .val (.bool ((decide ((((t.size : Nat) : Int) : Int) ≤ (300 : Int)))))), (true, .val (.bool ((decide ((((t.size : Nat) : Int) : Int) ≤ (300 : Int)))))), ((true && (decide ((((t.size : Nat) : Int) : Int) ≤ (300 : Int)))), .val (.agg #[.int .i64 t.f, .slice a t.args.length c])), ((true && (decide ((((t.size : Nat) : Int) : Int) ≤ (300 : Int)))), .val (.int .i64 (((t.dep : Nat) : Int)))), ((true && (decide ((((t.size : Nat) : Int) : Int) ≤ (300 : Int)))), .val (.bool ((decide ((((t.dep : Nat) : Int) : Int) ≤ (30 : Int)))))), (true, .val (.bool (((decide ((((t.size : Nat) : Int) : Int) ≤ (300 : Int))) && (decide ((((t.dep : Nat) : Int) : Int) ≤ (30 : Int))))))), (true, .val (.bool (((decide ((((t.size : Nat) : Int) : Int) ≤ (300 : Int))) && (decide ((((t.dep : Nat) : Int) : Int) ≤ (30 : Int))))))), ((true && ((decide ((((t.size : Nat) : Int) : Int) ≤ (300 : Int))) && (decide ((((t.dep : Nat) : Int) : Int) ≤ (30 : Int))))), .val (.agg #[.int .i64 t.f, .slice a t.args.length c])), ((true && ((decide ((((t.size : Nat) : Int) : Int) ≤ (300 : Int))) && (decide ((((t.dep : Nat) : Int) : Int) ≤ (30 : Int))))), .val (.int .i64 m)), ((true && ((decide ((((t.size : Nat) : Int) : Int) ≤ (300 : Int))) && (decide ((((t.dep : Nat) : Int) : Int) ≤ (30 : Int))))), .val (.bool ((t.low m)))), (true, .val (.bool ((((decide ((((t.size : Nat) : Int) : Int) ≤ (300 : Int))) && (decide ((((t.dep : Nat) : Int) : Int) ≤ (30 : Int)))) && (t.low m))))), (true, .val (.bool ((((decide ((((t.size : Nat) : Int) : Int) ≤ (300 : Int))) && (decide ((((t.dep : Nat) : Int) : Int) ≤ (30 : Int)))) && (t.low m)))))] [(0, .agg #[.int .i64 t.f, .slice a t.args.length c]), (1, .int .i64 m), (2, .pointer (some ⟨g2, 0, none⟩))] ⟨rfl, rfl, rfl, trivial⟩ (by kernel_rfl) (by kernel_rfl) (by kernel_rfl) ?_ ?_
  · refine ⟨⟨true, .none rfl, fun h w => optUndef h, fun zβ za zw zc => ?_⟩, ?_⟩
    · exact ld_24 rfl (zc.kn.ev rfl) (bkeeps zc.below _ _ ((hB4.cell 0).trans rfl)) (bkeeps zc.below _ _ ((hB4.cell 1).trans rfl)) ⟨_, rfl, Below.refl _ _, optDef zβ rfl⟩
    refine ⟨⟨true, .none rfl, fun h w => optUndef h, fun zβ za zw zc => ?_⟩, ?_⟩
    · exact wp_call (by kernel_rfl) rfl (hv1 ((evt za 5).trans (optVal (zc.dep 0 5 (by kernel_rfl)) rfl rfl))) (rsize_any t _ _ hz (IsT.below (bstep hb5 zc.below) hv0)) (fun v w' h => ⟨v, rfl, h.2, optDef zβ h.1⟩)
    refine ⟨⟨true, .none rfl, fun h w => optUndef h, fun zβ za zw zc => ?_⟩, ?_⟩
    · exact leq_3 rfl ((evt za 6).trans (optVal (zc.dep 1 6 (by kernel_rfl)) rfl rfl)) (zc.kn.ev rfl) ⟨_, rfl, Below.refl _ _, optDef zβ rfl⟩
    refine ⟨⟨true, .none rfl, fun h w => optUndef h, fun zβ za zw zc => ?_⟩, ?_⟩
    · exact wp_move rfl ((evt za 7).trans (optVal (zc.dep 2 7 (by kernel_rfl)) rfl rfl)) ⟨_, rfl, Below.refl _ _, optDef zβ rfl⟩
    refine ⟨⟨_, .yes (d := true) rfl (fun v w h => h), fun h w => optUndef h, fun zβ za zw zc => ?_⟩, ?_⟩
    · exact ld_24 rfl (zc.kn.ev rfl) (bkeeps zc.below _ _ ((hB4.cell 0).trans rfl)) (bkeeps zc.below _ _ ((hB4.cell 1).trans rfl)) ⟨_, rfl, Below.refl _ _, optDef zβ rfl⟩
    refine ⟨⟨_, .yes (d := true) rfl (fun v w h => h), fun h w => optUndef h, fun zβ za zw zc => ?_⟩, ?_⟩
    · exact wp_call (by kernel_rfl) rfl (hv1 ((evt za 9).trans (optVal (zc.dep 4 9 (by kernel_rfl)) rfl zβ))) (rdepth_any t _ _ hz (IsT.below (bstep hb5 zc.below) hv0)) (fun v w' h => ⟨v, rfl, h.2, optDef zβ h.1⟩)
    refine ⟨⟨_, .yes (d := true) rfl (fun v w h => h), fun h w => optUndef h, fun zβ za zw zc => ?_⟩, ?_⟩
    · exact leq_3 rfl ((evt za 10).trans (optVal (zc.dep 5 10 (by kernel_rfl)) rfl zβ)) (zc.kn.ev rfl) ⟨_, rfl, Below.refl _ _, optDef zβ rfl⟩
    refine ⟨⟨true, .none rfl, fun h w => optUndef h, fun zβ za zw zc => ?_⟩, ?_⟩
    · exact wp_and rfl ((evt za 8).trans (optVal (zc.dep 3 8 (by kernel_rfl)) rfl rfl)) (fun hp => ((evt za 11).trans (optVal (zc.dep 6 11 (by kernel_rfl)) rfl (bMk zβ hp)))) ⟨_, rfl, Below.refl _ _, optDef zβ rfl⟩
    refine ⟨⟨true, .none rfl, fun h w => optUndef h, fun zβ za zw zc => ?_⟩, ?_⟩
    · exact wp_move rfl ((evt za 12).trans (optVal (zc.dep 7 12 (by kernel_rfl)) rfl rfl)) ⟨_, rfl, Below.refl _ _, optDef zβ rfl⟩
    refine ⟨⟨_, .yes (d := true) rfl (fun v w h => h), fun h w => optUndef h, fun zβ za zw zc => ?_⟩, ?_⟩
    · exact ld_24 rfl (zc.kn.ev rfl) (bkeeps zc.below _ _ ((hB4.cell 0).trans rfl)) (bkeeps zc.below _ _ ((hB4.cell 1).trans rfl)) ⟨_, rfl, Below.refl _ _, optDef zβ rfl⟩
    refine ⟨⟨_, .yes (d := true) rfl (fun v w h => h), fun h w => optUndef h, fun zβ za zw zc => ?_⟩, ?_⟩
    · exact wp_move rfl (zc.kn.ev rfl) ⟨_, rfl, Below.refl _ _, optDef zβ rfl⟩
    refine ⟨⟨_, .yes (d := true) rfl (fun v w h => h), fun h w => optUndef h, fun zβ za zw zc => ?_⟩, ?_⟩
    · exact wp_call (by kernel_rfl) rfl (hv2 ((evt za 14).trans (optVal (zc.dep 9 14 (by kernel_rfl)) rfl zβ)) ((evt za 15).trans (optVal (zc.dep 10 15 (by kernel_rfl)) rfl zβ))) (rlow_any m hm0 t _ _ hz (IsT.below (bstep hb5 zc.below) hv0)) (fun v w' h => ⟨v, rfl, h.2, optDef zβ h.1⟩)
    refine ⟨⟨true, .none rfl, fun h w => optUndef h, fun zβ za zw zc => ?_⟩, ?_⟩
    · exact wp_and rfl ((evt za 13).trans (optVal (zc.dep 8 13 (by kernel_rfl)) rfl rfl)) (fun hp => ((evt za 16).trans (optVal (zc.dep 11 16 (by kernel_rfl)) rfl (bMk zβ hp)))) ⟨_, rfl, Below.refl _ _, optDef zβ rfl⟩
    refine ⟨⟨true, .none rfl, fun h w => optUndef h, fun zβ za zw zc => ?_⟩, ?_⟩
    · exact wp_assign rfl ((evt za 17).trans (optVal (zc.dep 12 17 (by kernel_rfl)) rfl rfl)) ⟨_, rfl, Below.refl _ _, optDef zβ rfl⟩
    exact trivial
  · intro za w11 zh hb12 zu
    have zh := zh.cons (d := 4) (v := .bool ((((decide ((((t.size : Nat) : Int) : Int) ≤ (300 : Int))) && (decide ((((t.dep : Nat) : Int) : Int) ≤ (30 : Int)))) && (t.low m)))) (optVal (zu 13 4 (by kernel_rfl)) rfl rfl)
    clear zu
    refine WE.go zh ?_
    refine WE.next ?_
    refine WC.ret ?_
    refine WE.ret1 rfl rfl ?_
    have hb13 : Below w.heap.size w w11 := (bstep hb5 hb12)
    refine ⟨_, rfl, congrArg Value.bool ?_, hb13⟩
    unfold T.small
    rw [Bool.eq_iff_iff]; simp; omega
end Go.Proofs.Ytibncmnmjhimeaa

/- May pairs be asked? The document's program. -/
namespace Go.Proofs.Ytibncmnmjhimeaa
open Go.RowKit Go
set_option linter.unusedVariables false
set_option linter.unusedSimpArgs false
set_option maxRecDepth 100000 in
theorem rwide_any (l : List (T × T)) (w : World) (a : Option Addr) (c : Nat) (hl : IsPs w l a c) (hlz : l.length ≤ 1048576) (hsz : ∀ k, k < l.length → (prget l k).1.size ≤ 4294967296 ∧ (prget l k).2.size ≤ 4294967296) :
  Calls Try.prog 31 #[.slice a l.length c] w (Ret fun v' w' => v' = .bool (wideB l) ∧ Below w.heap.size w w') := by
 skip
 refine Calls.walk (l := [.slice a l.length c]) Try.func31 rfl (by kernel_rfl) ?_
 refine WC.sub (K' := [(0, .slice a l.length c)]) ⟨rfl, trivial⟩ ?_
 refine WC.seq (WC.region (WL.asg rfl rfl rfl rfl rfl (WL.nil (WE.next (WC.seq (WC.seq (WC.region (WL.mv rfl rfl rfl rfl rfl ?_))))))))
 refine WL.val (.int .i64 (((l.length : Nat) : Int))) rfl rfl rfl (fun za zC zh zk => len_58 rfl (zh.ev rfl) zk) ?_
 refine WL.val (.bool ((decide ((64 : Int) < (((l.length : Nat) : Int) : Int))))) rfl rfl rfl (fun za zC zh zk => gtr_3 rfl (zh.ev rfl) (zh.ev rfl) zk) ?_
 refine WL.nil (WE.next ?_)
 refine WC.cond rfl (fun h1 => ?_) (fun h1 => ?_)
 ·have h1 : (64 : Int) < (((l.length : Nat) : Int) : Int) := by simpa using h1
  refine WC.seq (WC.region (WL.asg rfl rfl rfl rfl rfl (WL.nil (WE.next (WC.ret (WE.thenRet (WE.ret1 rfl rfl ?_)))))))
  exact ⟨_, rfl, by rw [wide_len (by omega)], (Below.refl _ _)⟩
 ·have h1 : ¬ ((64 : Int) < (((l.length : Nat) : Int) : Int)) := by simpa using h1
  have h64 : l.length ≤ 64 := by omega
  refine WC.skip (WE.next (WC.seq (WC.seq (WC.region (WL.asg rfl rfl rfl rfl rfl (WL.nil (WE.next (WC.block ?_))))))))
  refine WC.loop (X := Nat) (fun p => l.length - p) (fun p => [(0, .slice a l.length c), (3, .int .i64 (((p : Nat) : Int))), (6, .bool ((decide ((64 : Int) < (((l.length : Nat) : Int) : Int)))))]) (fun p w2 => p ≤ l.length ∧ (∀ k, k < p → (prget l k).1.small 96 = true ∧ (prget l k).2.small 96 = true) ∧ Below w.heap.size w w2) 0 ⟨rfl, rfl, rfl, trivial⟩ ?_ ?_
  ·exact ⟨Nat.zero_le _, (fun k hk9 => absurd hk9 (Nat.not_lt_zero k)), (Below.refl _ _)⟩
  ·rintro p w2 ⟨hkp, hsm, hb3⟩
   refine WC.seq (WC.seq (WC.region (WL.mv rfl rfl rfl rfl rfl (WL.mv rfl rfl rfl rfl rfl ?_))))
   refine WL.val (.int .i64 (((l.length : Nat) : Int))) rfl rfl rfl (fun za zC zh zk => len_58 rfl (zh.ev rfl) zk) ?_
   refine WL.val (.bool ((decide ((((p : Nat) : Int) : Int) < (((l.length : Nat) : Int) : Int))))) rfl rfl rfl (fun za zC zh zk => lss_3 rfl (zh.ev rfl) (zh.ev rfl) zk) ?_
   refine WL.nil (WE.next ?_)
   refine WC.cond rfl (fun h4 => ?_) (fun h4 => ?_)
   ·have h4 : (((p : Nat) : Int) : Int) < (((l.length : Nat) : Int) : Int) := by simpa using h4
    refine WC.skip (WE.next (WC.seq (WC.block (WC.seq ?_))))
    obtain ⟨b5, o6, A7, C8, D9, E10, ha11, hc12⟩ := IsPs.open hl
    refine WC.opt [(true, .val (.slice a l.length c)), (true, .val (.int .i64 (((p : Nat) : Int)))), (true, .val (.pointer (some ⟨b5, o6 + p * 4, none⟩))), (true, .val (.pointer (some ⟨b5, o6 + p * 4, none⟩))), (true, .val (.agg #[.int .i64 ((prget l p).1.f), .slice ((A7 p)) ((prget l p).1.args.length) ((C8 p))])), (true, .val (.bool (((prget l p).1.small 96)))), (true, .val (.bool ((!((prget l p).1.small 96))))), (true, .val (.bool ((!((prget l p).1.small 96))))), ((true && !(!((prget l p).1.small 96))), .val (.slice a l.length c)), ((true && !(!((prget l p).1.small 96))), .val (.int .i64 (((p : Nat) : Int)))), ((true && !(!((prget l p).1.small 96))), .val (.pointer (some ⟨b5, o6 + p * 4, none⟩))), ((true && !(!((prget l p).1.small 96))), .val (.pointer (some ⟨b5, o6 + p * 4 + 2, none⟩))), ((true && !(!((prget l p).1.small 96))), .val (.agg #[.int .i64 ((prget l p).2.f), .slice ((D9 p)) ((prget l p).2.args.length) ((E10 p))])), ((true && !(!((prget l p).1.small 96))), .val (.bool (((prget l p).2.small 96)))), ((true && !(!((prget l p).1.small 96))), .val (.bool ((!((prget l p).2.small 96))))), (true, .val (.bool (((!((prget l p).1.small 96)) || (!((prget l p).2.small 96))))))] [(0, .slice a l.length c), (3, .int .i64 (((p : Nat) : Int))), (6, .bool ((decide ((64 : Int) < (((l.length : Nat) : Int) : Int))))), (10, .bool ((decide ((((p : Nat) : Int) : Int) < (((l.length : Nat) : Int) : Int)))))] ⟨rfl, rfl, rfl, rfl, trivial⟩ (by kernel_rfl) (by kernel_rfl) (by kernel_rfl) ?_ ?_
    ·refine ⟨⟨true, .none rfl, fun h w => optUndef h, fun zβ za zw zc => ?_⟩, ?_⟩
     ·exact wp_move rfl (zc.kn.ev rfl) ⟨_, rfl, Below.refl _ _, optDef zβ rfl⟩
     refine ⟨⟨true, .none rfl, fun h w => optUndef h, fun zβ za zw zc => ?_⟩, ?_⟩
     ·exact wp_move rfl (zc.kn.ev rfl) ⟨_, rfl, Below.refl _ _, optDef zβ rfl⟩
     refine ⟨⟨true, .none rfl, fun h w => optUndef h, fun zβ za zw zc => ?_⟩, ?_⟩
     ·exact ix_58 (k := p) rfl ((evt za 13).trans (optVal (zc.dep 0 13 (by kernel_rfl)) rfl rfl)) (ha11 p (by first | omega | (simp; omega))) ((evt za 14).trans (optVal (zc.dep 1 14 (by kernel_rfl)) rfl rfl)) (by first | omega | (simp; omega)) ⟨_, rfl, Below.refl _ _, optDef zβ rfl⟩
     refine ⟨⟨true, .none rfl, fun h w => optUndef h, fun zβ za zw zc => ?_⟩, ?_⟩
     ·exact ixa_57 (k := 0) rfl ((evt za 15).trans (optVal (zc.dep 2 15 (by kernel_rfl)) rfl rfl)) (zc.kn.ev rfl) (by decide) ⟨_, rfl, Below.refl _ _, optDef zβ rfl⟩
     refine ⟨⟨true, .none rfl, fun h w => optUndef h, fun zβ za zw zc => ?_⟩, ?_⟩
     ·exact ld_24 rfl ((evt za 16).trans (optVal (zc.dep 3 16 (by kernel_rfl)) rfl rfl)) (bkeeps (bstep hb3 zc.below) _ _ (hc12 p (by first | omega | (simp; omega))).1) (bkeeps (bstep hb3 zc.below) _ _ (hc12 p (by first | omega | (simp; omega))).2.1) ⟨_, rfl, Below.refl _ _, optDef zβ rfl⟩
     refine ⟨⟨true, .none rfl, fun h w => optUndef h, fun zβ za zw zc => ?_⟩, ?_⟩
     ·exact wp_call (by kernel_rfl) rfl (hv2 ((evt za 17).trans (optVal (zc.dep 4 17 (by kernel_rfl)) rfl rfl)) (zc.kn.ev rfl)) (rsmall_any ((prget l p).1) 96 _ _ (by omega) (hsz p (by omega)).1 (IsT.below (bstep hb3 zc.below) (hc12 p (by first | omega | (simp; omega))).2.2.2.2.1)) (fun v w' h => ⟨v, rfl, h.2, optDef zβ h.1⟩)
     refine ⟨⟨true, .none rfl, fun h w => optUndef h, fun zβ za zw zc => ?_⟩, ?_⟩
     ·exact wp_not rfl ((evt za 18).trans (optVal (zc.dep 5 18 (by kernel_rfl)) rfl rfl)) ⟨_, rfl, Below.refl _ _, optDef zβ rfl⟩
     refine ⟨⟨true, .none rfl, fun h w => optUndef h, fun zβ za zw zc => ?_⟩, ?_⟩
     ·exact wp_move rfl ((evt za 19).trans (optVal (zc.dep 6 19 (by kernel_rfl)) rfl rfl)) ⟨_, rfl, Below.refl _ _, optDef zβ rfl⟩
     refine ⟨⟨_, .no (d := true) rfl (fun v w h => h), fun h w => optUndef h, fun zβ za zw zc => ?_⟩, ?_⟩
     ·exact wp_move rfl (zc.kn.ev rfl) ⟨_, rfl, Below.refl _ _, optDef zβ rfl⟩
     refine ⟨⟨_, .no (d := true) rfl (fun v w h => h), fun h w => optUndef h, fun zβ za zw zc => ?_⟩, ?_⟩
     ·exact wp_move rfl (zc.kn.ev rfl) ⟨_, rfl, Below.refl _ _, optDef zβ rfl⟩
     refine ⟨⟨_, .no (d := true) rfl (fun v w h => h), fun h w => optUndef h, fun zβ za zw zc => ?_⟩, ?_⟩
     ·exact ix_58 (k := p) rfl ((evt za 21).trans (optVal (zc.dep 8 21 (by kernel_rfl)) rfl zβ)) (ha11 p (by first | omega | (have zz := zβ; simp only [Bool.and_eq_true, Bool.or_eq_true, Bool.true_and, Bool.not_eq_true', Bool.or_eq_false_iff, Bool.and_eq_false_iff, beq_eq_false_iff_ne, ne_eq, beq_iff_eq, decide_eq_true_eq, decide_eq_false_iff_not, bne_iff_ne, bne_eq_false_iff_eq] at zz; omega))) ((evt za 22).trans (optVal (zc.dep 9 22 (by kernel_rfl)) rfl zβ)) (by first | omega | (have zz := zβ; simp only [Bool.and_eq_true, Bool.or_eq_true, Bool.true_and, Bool.not_eq_true', Bool.or_eq_false_iff, Bool.and_eq_false_iff, beq_eq_false_iff_ne, ne_eq, beq_iff_eq, decide_eq_true_eq, decide_eq_false_iff_not, bne_iff_ne, bne_eq_false_iff_eq] at zz; omega)) ⟨_, rfl, Below.refl _ _, optDef zβ rfl⟩
     refine ⟨⟨_, .no (d := true) rfl (fun v w h => h), fun h w => optUndef h, fun zβ za zw zc => ?_⟩, ?_⟩
     ·exact ixa_57 (k := 1) rfl ((evt za 23).trans (optVal (zc.dep 10 23 (by kernel_rfl)) rfl zβ)) (zc.kn.ev rfl) (by decide) ⟨_, rfl, Below.refl _ _, optDef zβ rfl⟩
     refine ⟨⟨_, .no (d := true) rfl (fun v w h => h), fun h w => optUndef h, fun zβ za zw zc => ?_⟩, ?_⟩
     ·exact ld_24 rfl ((evt za 24).trans (optVal (zc.dep 11 24 (by kernel_rfl)) rfl zβ)) (bkeeps (bstep hb3 zc.below) _ _ (hc12 p (by first | omega | (have zz := zβ; simp only [Bool.and_eq_true, Bool.or_eq_true, Bool.true_and, Bool.not_eq_true', Bool.or_eq_false_iff, Bool.and_eq_false_iff, beq_eq_false_iff_ne, ne_eq, beq_iff_eq, decide_eq_true_eq, decide_eq_false_iff_not, bne_iff_ne, bne_eq_false_iff_eq] at zz; omega))).2.2.1) (bkeeps (bstep hb3 zc.below) _ _ (hc12 p (by first | omega | (have zz := zβ; simp only [Bool.and_eq_true, Bool.or_eq_true, Bool.true_and, Bool.not_eq_true', Bool.or_eq_false_iff, Bool.and_eq_false_iff, beq_eq_false_iff_ne, ne_eq, beq_iff_eq, decide_eq_true_eq, decide_eq_false_iff_not, bne_iff_ne, bne_eq_false_iff_eq] at zz; omega))).2.2.2.1) ⟨_, rfl, Below.refl _ _, optDef zβ rfl⟩
     refine ⟨⟨_, .no (d := true) rfl (fun v w h => h), fun h w => optUndef h, fun zβ za zw zc => ?_⟩, ?_⟩
     ·exact wp_call (by kernel_rfl) rfl (hv2 ((evt za 25).trans (optVal (zc.dep 12 25 (by kernel_rfl)) rfl zβ)) (zc.kn.ev rfl)) (rsmall_any ((prget l p).2) 96 _ _ (by omega) (hsz p (by omega)).2 (IsT.below (bstep hb3 zc.below) (hc12 p (by first | omega | (have zz := zβ; simp only [Bool.and_eq_true, Bool.or_eq_true, Bool.true_and, Bool.not_eq_true', Bool.or_eq_false_iff, Bool.and_eq_false_iff, beq_eq_false_iff_ne, ne_eq, beq_iff_eq, decide_eq_true_eq, decide_eq_false_iff_not, bne_iff_ne, bne_eq_false_iff_eq] at zz; omega))).2.2.2.2.2)) (fun v w' h => ⟨v, rfl, h.2, optDef zβ h.1⟩)
     refine ⟨⟨_, .no (d := true) rfl (fun v w h => h), fun h w => optUndef h, fun zβ za zw zc => ?_⟩, ?_⟩
     ·exact wp_not rfl ((evt za 26).trans (optVal (zc.dep 13 26 (by kernel_rfl)) rfl zβ)) ⟨_, rfl, Below.refl _ _, optDef zβ rfl⟩
     refine ⟨⟨true, .none rfl, fun h w => optUndef h, fun zβ za zw zc => ?_⟩, ?_⟩
     ·exact wp_or rfl ((evt za 20).trans (optVal (zc.dep 7 20 (by kernel_rfl)) rfl rfl)) (fun hp => ((evt za 27).trans (optVal (zc.dep 14 27 (by kernel_rfl)) rfl (bMkN zβ hp)))) ⟨_, rfl, Below.refl _ _, optDef zβ rfl⟩
     exact trivial
    ·intro za w15 zh hb16 zu
     have zh := zh.cons (d := 28) (v := .bool (((!((prget l p).1.small 96)) || (!((prget l p).2.small 96))))) (optVal (zu 15 28 (by kernel_rfl)) rfl rfl)
     clear zu
     refine WE.go zh ?_
     refine WE.next ?_
     refine WC.cond rfl (fun h17 => ?_) (fun h17 => ?_)
     ·have h17 : (¬ (((prget l p).1.small 96) = true)) ∨ (¬ (((prget l p).2.small 96) = true)) := by simpa using h17
      have hbg : ¬ ((prget l p).1.small 96 = true ∧ (prget l p).2.small 96 = true) := fun q => by
       rw [q.1, q.2] at h17; simp at h17
      refine WC.seq (WC.region (WL.asg rfl rfl rfl rfl rfl (WL.nil (WE.next (WC.ret (WE.blockRet (WE.thenRet (WE.thenRet (WE.blockRet (WE.thenRet (WE.ret1 rfl rfl ?_)))))))))))
      have hb18 : Below w.heap.size w w15 := (bstep hb3 hb16)
      exact ⟨_, rfl, by rw [wide_no (by omega) hbg], hb18⟩
     ·have h17 : ¬ ((¬ (((prget l p).1.small 96) = true)) ∨ (¬ (((prget l p).2.small 96) = true))) := by simpa using h17
      have hsx : (prget l p).1.small 96 = true ∧ (prget l p).2.small 96 = true := by simpa using h17
      refine WC.skip (WE.blockNormal (WE.next (WC.region (WL.mv rfl rfl rfl rfl rfl ?_))))
      refine WL.val (.int .i64 ((((p + 1) : Nat) : Int))) rfl rfl rfl (fun za zC zh zk => addb_3 rfl (zh.ev rfl) (zh.ev rfl) (wrap_eq (by omega) (by omega) (by omega)) zk) ?_
      refine WL.asg rfl rfl rfl rfl rfl (WL.nil ?_)
      refine WE.round (p + 1) ⟨rfl, rfl, rfl, trivial⟩ ?_ ?_
      ·have hb19 : Below w.heap.size w w15 := (bstep hb3 hb16)
       exact ⟨(by omega), (fun k hk9 => by rcases Nat.lt_succ_iff_lt_or_eq.1 hk9 with z | z; exact hsm k z; (rw [z]; exact hsx)), hb19⟩
      ·omega
   ·have h4 : ¬ ((((p : Nat) : Int) : Int) < (((l.length : Nat) : Int) : Int)) := by simpa using h4
    refine WC.exit (WE.thenExit (WE.thenExit (WE.blockIs rfl (WE.next (WC.seq (WC.region (WL.asg rfl rfl rfl rfl rfl (WL.nil (WE.next (WC.ret (WE.ret1 rfl rfl ?_)))))))))))
    exact ⟨_, rfl, by rw [(wide_at h64).2 (fun k hk9 => hsm k (by omega))], hb3⟩
end Go.Proofs.Ytibncmnmjhimeaa

/- What variables become: the document's program. -/
namespace Go.Proofs.Ytibncmnmjhimeaa
open Go.RowKit Go
set_option linter.unusedVariables false
set_option linter.unusedSimpArgs false
end Go.Proofs.Ytibncmnmjhimeaa

/- Two terms: what variables become; whether there is a unifier: the document. -/
namespace Go.Proofs.Ytibncmnmjhimeaa
open Go.RowKit Go
set_option linter.unusedVariables false
set_option linter.unusedSimpArgs false
set_option maxRecDepth 100000 in
theorem rcan_any (t s : T) (w : World) (v1 v2 : Value) (h1 : IsT w t v1) (h2 : IsT w s v2) (z1 : t.size ≤ 4294967296) (z2 : s.size ≤ 4294967296) :
  Calls Try.prog 13 #[v1, v2] w (Ret fun v' w' => (∃ b, v' = .bool b ∧ CanIs false [(t, s)] b) ∧ Below w.heap.size w w') := by
 have hsz : ∀ k, k < [(t, s)].length → (prget [(t, s)] k).1.size ≤ 4294967296 ∧ (prget [(t, s)] k).2.size ≤ 4294967296 := fun k hk => by
  obtain rfl : k = 0 := by simp at hk; exact hk
  exact ⟨z1, z2⟩
 obtain ⟨_, a1, c1, rfl, _⟩ := h1.form
 obtain ⟨_, a2, c2, rfl, _⟩ := h2.form
 refine Calls.walk (l := [.agg #[.int .i64 t.f, .slice a1 t.args.length c1], .agg #[.int .i64 s.f, .slice a2 s.args.length c2]]) Try.func13 rfl (by kernel_rfl) ?_
 refine WC.sub (K' := [(0, .agg #[.int .i64 t.f, .slice a1 t.args.length c1]), (1, .agg #[.int .i64 s.f, .slice a2 s.args.length c2])]) ⟨rfl, rfl, trivial⟩ ?_
 refine WC.seq (WC.region ?_)
 refine WL.step (post := NewBlk w 24 #[.int .i64 t.f, .slice a1 t.args.length c1]) rfl rfl rfl (fun za zC zh zk => box_24 rfl (zh.ev rfl) (zk _ _ (newBlk _ _ _))) ?_
 rintro _ w1 ⟨g2, rfl, hg3, hB4, hb5, hz6⟩
 have hl7 : w.heap.size ≤ g2 := by omega
 refine WL.step (post := NewBlk w1 24 #[.int .i64 s.f, .slice a2 s.args.length c2]) rfl rfl rfl (fun za zC zh zk => box_24 rfl (zh.ev rfl) (zk _ _ (newBlk _ _ _))) ?_
 rintro _ w8 ⟨g9, rfl, hg10, hB11, hb12, hz13⟩
 have hl14 : g2 < g9 := by have z1 := hB4.lt; omega
 have hl15 : w.heap.size ≤ g9 := by have z2 := (hb5).size; omega
 refine WL.asg rfl rfl rfl rfl rfl (WL.nil (WE.next (WC.seq (WC.region ?_))))
 have hB16 := hB4.below hb12
 refine WL.val _ rfl rfl rfl (fun za zC zh zk => ld_24 rfl (zh.ev rfl) ((hB16.cell 0).trans rfl) ((hB16.cell 1).trans rfl) zk) ?_
 refine WL.val _ rfl rfl rfl (fun za zC zh zk => ld_24 rfl (zh.ev rfl) ((hB11.cell 0).trans rfl) ((hB11.cell 1).trans rfl) zk) ?_
 refine WL.val (.agg #[.int .i64 t.f, .slice a1 t.args.length c1, .int .i64 s.f, .slice a2 s.args.length c2]) rfl rfl rfl (fun za zC zh zk => build_57_0_1 rfl (zh.ev rfl) (zh.ev rfl) zk) ?_
 refine WL.step (post := NewRow w8 57 #[.int .i64 t.f, .slice a1 t.args.length c1, .int .i64 s.f, .slice a2 s.args.length c2] 1) rfl rfl rfl (fun za zC zh zk => row_58_1 rfl (zh.ev rfl) (zk _ _ (newRow _ _ _ _))) ?_
 rintro _ w17 ⟨g18, rfl, hg19, hB20, hb21, hz22⟩
 have hl23 : g2 < g18 := by have z1 := hB16.lt; omega
 have hl24 : g9 < g18 := by have z1 := hB11.lt; omega
 have hb25 : Below w.heap.size w w8 := (bstep hb5 hb12)
 have hl26 : w.heap.size ≤ g18 := by have z2 := (hb25).size; omega
 refine WL.asg rfl rfl rfl rfl rfl (WL.nil (WE.next (WC.seq (WC.seq (WC.region (WL.mv rfl rfl rfl rfl rfl ?_))))))
 have hb27 : Below w.heap.size w w17 := (bstep hb25 hb21)
 refine WL.call rfl rfl rfl (fun za zh zC => wp_call (by kernel_rfl) rfl (hv1 (zh.ev rfl))) (rwide_any [(t, s)] _ _ 1 (IsPs.one hB20 (h1.below hb27) (h2.below hb27)) (by simp) hsz) ?_
 rintro _ w29 ⟨rfl, hq28⟩
 refine WL.val (.bool ((!(wideB [(t, s)])))) rfl rfl rfl (fun za zC zh zk => wp_not rfl (zh.ev rfl) zk) ?_
 refine WL.nil (WE.next ?_)
 refine WC.cond rfl (fun h30 => ?_) (fun h30 => ?_)
 ·have h30 : ¬ ((wideB [(t, s)]) = true) := by simpa using h30
  have hW : wideB [(t, s)] = false := by simpa using h30
  refine WC.seq (WC.region (WL.asg rfl rfl rfl rfl rfl (WL.nil (WE.next (WC.ret (WE.thenRet (WE.ret1 rfl rfl ?_)))))))
  have hb31 : Below w.heap.size w w29 := (bstep hb27 hq28)
  exact ⟨_, rfl, ⟨false, rfl, .inl ⟨hW, rfl⟩⟩, hb31⟩
 ·have h30 : ¬ (¬ ((wideB [(t, s)]) = true)) := by simpa using h30
  have hW : wideB [(t, s)] = true := by simpa using h30
  refine WC.skip (WE.next (WC.seq (WC.region (WL.mv rfl rfl rfl rfl rfl ?_))))
  have hB36 := hB20.below hq28
  have hb37 : Below w.heap.size w w29 := (bstep hb27 hq28)
  refine WL.call rfl rfl rfl (fun za zh zC => wp_call (by kernel_rfl) rfl (hv1 (zh.ev rfl))) (rjoined_any [(t, s)] _ _ 1 (IsPs.one hB36 (h1.below hb37) (h2.below hb37)) hW) ?_
  rintro v34 w32 ⟨h35, hb33⟩
  rcases h35 with ⟨hsv, rfl⟩ | ⟨st, κ, g, gm, zb, zc, db, dc, ms, hgo, hAk, hdn, rfl, _⟩
  ·refine WL.mv rfl rfl rfl rfl rfl ?_
   refine WL.val (.pointer none) rfl rfl rfl (fun za zC zh zk => ext3_0 rfl (zh.ev rfl) zk) ?_
   refine WL.val (.pointer none) rfl rfl rfl (fun za zC zh zk => ext3_1 rfl (zh.ev rfl) zk) ?_
   refine WL.val (.bool false) rfl rfl rfl (fun za zC zh zk => ext3_2 rfl (zh.ev rfl) zk) ?_
   refine WL.asg rfl rfl rfl rfl rfl (WL.asg rfl rfl rfl rfl rfl (WL.asg rfl rfl rfl rfl rfl (WL.nil (WE.next (WC.seq (WC.region (WL.mv rfl rfl rfl rfl rfl (WL.asg rfl rfl rfl rfl rfl (WL.nil (WE.next (WC.ret (WE.ret1 rfl rfl ?_))))))))))))
   have hb38 : Below w.heap.size w w32 := (bstep hb37 hb33)
   exact ⟨_, rfl, ⟨false, rfl, .inr ⟨hW, none, hsv, rfl⟩⟩, hb38⟩
  ·refine WL.mv rfl rfl rfl rfl rfl ?_
   refine WL.val (.pointer (some ⟨g, 0, none⟩)) rfl rfl rfl (fun za zC zh zk => ext3_0 rfl (zh.ev rfl) zk) ?_
   refine WL.val (.pointer (some ⟨gm, 0, none⟩)) rfl rfl rfl (fun za zC zh zk => ext3_1 rfl (zh.ev rfl) zk) ?_
   refine WL.val (.bool true) rfl rfl rfl (fun za zC zh zk => ext3_2 rfl (zh.ev rfl) zk) ?_
   refine WL.asg rfl rfl rfl rfl rfl (WL.asg rfl rfl rfl rfl rfl (WL.asg rfl rfl rfl rfl rfl (WL.nil (WE.next (WC.seq (WC.region (WL.mv rfl rfl rfl rfl rfl (WL.asg rfl rfl rfl rfl rfl (WL.nil (WE.next (WC.ret (WE.ret1 rfl rfl ?_))))))))))))
   have hb39 : Below w.heap.size w w32 := (bstep hb37 hb33)
   have hrn := hgo.run
   rw [List.take_length] at hrn
   exact ⟨_, rfl, ⟨true, rfl, .inr ⟨hW, some (st, κ, msz ms, mdp ms), .ok hrn (hAk.meas hdn), rfl⟩⟩, hb39⟩
end Go.Proofs.Ytibncmnmjhimeaa

/- Fingerprints, plain: letters, prints, which terms may. -/
namespace Go.Proofs.Ytibncmnmjhimeaa
set_option linter.unusedVariables false
set_option linter.unusedSimpArgs false
/-- The letter of a term at a place. -/
def ltr : T → List Nat → Int
  | t, [] => max t.f (-1)
  | .mk f l, i :: p => if f < 0 then -2 else if l.length ≤ i then -3 else ltr (tget l i) p
def pl8 : List (List Nat) := [[], [0], [1], [2], [0, 0], [0, 1], [1, 0], [1, 1]]
def prt (t : T) : List Int := [ltr t [], ltr t [0], ltr t [1], ltr t [2], ltr t [0, 0], ltr t [0, 1], ltr t [1, 0], ltr t [1, 1]]
/-- May two letters be unified? -/
def ltU (x y : Int) : Bool := if x = -2 ∨ y = -2 then true else if x = -3 ∨ y = -3 then decide (x = y) else decide (x = y) || (decide (x = -1) || decide (y = -1))
/-- May x be an instance of y? -/
def ltI (x y : Int) : Bool := if y = -2 then true else if y = -1 then decide (-1 ≤ x) else decide (x = y)
/-- The three ways: own letter, other letter. -/
def ltW : Nat → Int → Int → Bool
  | 0, x, y => ltU x y
  | 1, x, y => ltI y x
  | _, x, y => ltI x y
/-- Do two prints fit? -/
def fitP (way : Nat) : List Int → List Int → Bool
  | x :: p, y :: q => ltW way x y && fitP way p q
  | _, _ => true
/-- Numbers, in order, each once. -/
def insN (x : Int) : List Int → List Int
  | [] => [x]
  | y :: r => if x < y then x :: y :: r else if x = y then y :: r else y :: insN x r
def riseN : List Int → List Int
  | [] => []
  | x :: r => insN x (riseN r)
/-- Strictly rising. -/
def RiseP : List Int → Prop
  | [] => True
  | x :: r => (∀ y ∈ r, x < y) ∧ RiseP r
theorem insN_mem {x z : Int} : ∀ {l : List Int}, z ∈ insN x l ↔ z = x ∨ z ∈ l
  | [] => by simp [insN]
  | y :: r => by
    rw [insN]
    split
    · simp
    · split
      · rename_i h; subst h; simp
      · simp only [List.mem_cons, insN_mem (l := r)]
        constructor
        · rintro (h | h | h)
          · exact .inr (.inl h)
          · exact .inl h
          · exact .inr (.inr h)
        · rintro (h | h | h)
          · exact .inr (.inl h)
          · exact .inl h
          · exact .inr (.inr h)
theorem riseN_mem {z : Int} : ∀ {l : List Int}, z ∈ riseN l ↔ z ∈ l
  | [] => by simp [riseN]
  | x :: r => by rw [riseN, insN_mem, riseN_mem]; simp
theorem insN_rise {x : Int} : ∀ {l : List Int}, RiseP l → RiseP (insN x l)
  | [], _ => ⟨fun y h => by simp at h, trivial⟩
  | y :: r, ⟨h1, h2⟩ => by
    rw [insN]
    split
    · rename_i c
      refine ⟨fun z hz => ?_, h1, h2⟩
      rcases List.mem_cons.1 hz with rfl | hz
      · exact c
      · have := h1 z hz; omega
    · split
      · exact ⟨h1, h2⟩
      · rename_i c1 c2
        refine ⟨fun z hz => ?_, insN_rise h2⟩
        rcases insN_mem.1 hz with rfl | hz
        · omega
        · exact h1 z hz
theorem riseN_rise : ∀ l : List Int, RiseP (riseN l)
  | [] => trivial
  | _ :: r => insN_rise (riseN_rise r)
theorem RiseP.eq : ∀ {l m : List Int}, RiseP l → RiseP m → (∀ x, x ∈ l ↔ x ∈ m) → l = m
  | [], [], _, _, _ => rfl
  | [], y :: m, _, _, h => by have := (h y).2 (by simp); simp at this
  | x :: l, [], _, _, h => by have := (h x).1 (by simp); simp at this
  | x :: l, y :: m, ⟨a1, a2⟩, ⟨b1, b2⟩, h => by
    have e : x = y := by
      have h1 := (h x).1 (by simp)
      have h2 := (h y).2 (by simp)
      rcases List.mem_cons.1 h1 with h1 | h1
      · exact h1
      · rcases List.mem_cons.1 h2 with h2 | h2
        · exact h2.symm
        · have := a1 y h2; have := b1 x h1; omega
    subst e
    congr 1
    refine RiseP.eq a2 b2 (fun z => ?_)
    have hz := h z
    simp only [List.mem_cons] at hz
    constructor
    · intro q
      rcases hz.1 (.inr q) with rfl | q2
      · exact absurd (a1 z q) (Int.lt_irrefl z)
      · exact q2
    · intro q
      rcases hz.2 (.inr q) with rfl | q2
      · exact absurd (b1 z q) (Int.lt_irrefl z)
      · exact q2
theorem rise_of {l m : List Int} (hl : RiseP l) (h : ∀ x, x ∈ l ↔ x ∈ m) : l = riseN m := hl.eq (riseN_rise m) (fun x => (h x).trans riseN_mem.symm)
/-- What an index tells. -/
def askP (B : List (T × Int)) (way : Nat) (q : List Int) : List Int := riseN ((B.filter (fun r => fitP way (prt r.1) q)).map (·.2))
theorem askP_mem {B : List (T × Int)} {way : Nat} {q : List Int} {x : Int} : x ∈ askP B way q ↔ ∃ r ∈ B, fitP way (prt r.1) q = true ∧ r.2 = x := by
  unfold askP
  rw [riseN_mem, List.mem_map]
  constructor
  · rintro ⟨r, h, e⟩; rw [List.mem_filter] at h; exact ⟨r, h.1, h.2, e⟩
  · rintro ⟨r, h1, h2, e⟩; exact ⟨r, List.mem_filter.2 ⟨h1, h2⟩, e⟩
theorem askP_len (B : List (T × Int)) (way : Nat) (q : List Int) : (askP B way q).length ≤ B.length := by
  unfold askP
  have h : ∀ l : List Int, (riseN l).length ≤ l.length := by
    intro l
    induction l with
    | nil => simp [riseN]
    | cons x r ih =>
      have h2 : ∀ m : List Int, (insN x m).length ≤ m.length + 1 := by
        intro m
        induction m with
        | nil => simp [insN]
        | cons y m ih2 => rw [insN]; split; simp; split <;> simp; omega
      rw [riseN]; have := h2 (riseN r); simp; omega
  have z := h ((B.filter (fun r => fitP way (prt r.1) q)).map (·.2))
  have z2 := List.length_filter_le (fun r : T × Int => fitP way (prt r.1) q) B
  rw [List.length_map] at z
  omega
end Go.Proofs.Ytibncmnmjhimeaa

/- Nothing is left out: letters of terms that match, or that are made the same. -/
namespace Go.Proofs.Ytibncmnmjhimeaa
open Go.RowKit Go
set_option linter.unusedVariables false
set_option linter.unusedSimpArgs false
theorem ltI_self (x : Int) : ltI x x = true := by
  unfold ltI
  split
  · rfl
  · split
    · simp; omega
    · simp
theorem ltr_ge (t : T) : -1 ≤ ltr t [] := by cases t; unfold ltr; omega
theorem ltI_var {t u : T} (h : u.f < 0) (p : List Nat) : ltI (ltr t p) (ltr u p) = true := by
  obtain ⟨f, l⟩ := u
  have h : f < 0 := h
  cases p with
  | nil =>
    have e : ltr (.mk f l) [] = -1 := by show max f (-1) = -1; omega
    have := ltr_ge t
    rw [e]; unfold ltI
    simp; exact this
  | cons i p =>
    have e : ltr (.mk f l) (i :: p) = -2 := by rw [ltr, if_pos h]
    rw [e]; rfl
theorem ltI_sym {f : Int} {l m : List T} (hl : l.length = m.length) (hf : ¬ f < 0) (h : ∀ i, i < l.length → ∀ p, ltI (ltr (tget m i) p) (ltr (tget l i) p) = true) (p : List Nat) : ltI (ltr (.mk f m) p) (ltr (.mk f l) p) = true := by
  cases p with
  | nil => exact ltI_self _
  | cons i p =>
    rw [ltr, ltr, if_neg hf, if_neg hf, hl]
    by_cases c : m.length ≤ i
    · rw [if_pos c, if_pos c]; rfl
    · rw [if_neg c, if_neg c]; exact h i (by omega) p
mutual
theorem mt_ltr : ∀ (u t : T) (st st' : List Bd), u.mt st t = some st' → ∀ p, ltI (ltr t p) (ltr u p) = true
  | .mk f l, t, st, st', h => fun p => by
    rw [T.mt] at h
    by_cases hf : f < 0
    · exact ltI_var (u := .mk f l) hf p
    · rw [if_neg hf] at h
      split at h
      · rename_i c
        obtain ⟨g, m⟩ := t
        have c1 : f = g := c.1
        have c2 : l.length = m.length := c.2
        subst c1
        exact ltI_sym c2 hf (fun i hi q => mtL_ltr l m st st' c2 h i hi q) p
      · cases h
theorem mtL_ltr : ∀ (l m : List T) (st st' : List Bd), l.length = m.length → T.mtL l st m = some st' → ∀ i, i < l.length → ∀ p, ltI (ltr (tget m i) p) (ltr (tget l i) p) = true
  | [], _, _, _, _, _ => fun i hi => by simp at hi
  | _ :: _, [], _, _, hl, _ => by simp at hl
  | u :: l, t :: m, st, st', hl, h => fun i hi p => by
    rw [T.mtL] at h
    cases hm : u.mt st t with
    | none => rw [hm] at h; cases h
    | some s =>
      rw [hm] at h
      cases i with
      | zero => exact mt_ltr u t st s hm p
      | succ i => exact mtL_ltr l m s st' (by simpa using hl) h i (by simpa using hi) p
end
theorem mOk_ltr {u t : T} (h : mOk u t [] = true) (p : List Nat) : ltI (ltr t p) (ltr u p) = true := by
  unfold mOk at h
  simp only [Bool.and_eq_true] at h
  cases hm : u.mt [] t with
  | none => rw [hm] at h; cases h.2
  | some s => exact mt_ltr u t [] s hm p
theorem fit_all {way : Nat} {a b : T} (h : ∀ p, ltW way (ltr a p) (ltr b p) = true) : fitP way (prt a) (prt b) = true := by
  unfold prt fitP
  simp [h, fitP]
theorem match_up {u t : T} (h : mOk u t [] = true) : fitP 1 (prt u) (prt t) = true := fit_all (fun p => mOk_ltr h p)
theorem match_down {u t : T} (h : mOk t u [] = true) : fitP 2 (prt u) (prt t) = true := fit_all (fun p => mOk_ltr h p)
theorem apv_ltr (θ : Nat → T) : ∀ (t : T) (p : List Nat), ltI (ltr (t.apv θ) p) (ltr t p) = true := by
  refine T.ind (fun f l ih p => ?_)
  by_cases hf : f < 0
  · exact ltI_var (u := .mk f l) hf p
  · rw [apv_sym hf]
    refine ltI_sym (by simp) hf (fun i hi q => ?_) p
    have e : tget (l.map (T.apv θ)) i = (tget l i).apv θ := by
      rw [tget_lt (by simpa using hi), tget_lt hi, List.getElem_map]
    rw [e]; exact ih _ (tget_mem hi) q
theorem ltU_of {x y z : Int} (h1 : ltI x y = true) (h2 : ltI x z = true) : ltU y z = true := by
  unfold ltI at h1 h2
  unfold ltU
  by_cases a1 : y = -2 <;> by_cases a2 : z = -2 <;> by_cases a3 : y = -1 <;> by_cases a4 : z = -1 <;> by_cases a5 : y = -3 <;> by_cases a6 : z = -3 <;> simp_all <;> omega
mutual
/-- A term in variables of its own. -/
def T.d48 : T → T
  | .mk f l => .mk (if f < 0 then f - 48 else f) (T.d48L l)
def T.d48L : List T → List T
  | [] => []
  | t :: r => t.d48 :: T.d48L r
end
theorem d48L_map : ∀ l : List T, T.d48L l = l.map T.d48
  | [] => rfl
  | t :: r => by rw [T.d48L, d48L_map r]; rfl
theorem d48_ltr : ∀ (t : T) (p : List Nat), ltr t.d48 p = ltr t p := by
  refine T.ind (fun f l ih p => ?_)
  rw [T.d48, d48L_map]
  cases p with
  | nil =>
    show max (if f < 0 then f - 48 else f) (-1) = max f (-1)
    split <;> omega
  | cons i p =>
    by_cases hf : f < 0
    · rw [if_pos hf, ltr, ltr, if_pos hf, if_pos (by omega)]
    · rw [if_neg hf, ltr, ltr, if_neg hf, if_neg hf, List.length_map]
      by_cases c : l.length ≤ i
      · rw [if_pos c, if_pos c]
      · rw [if_neg c, if_neg c]
        have hi : i < l.length := by omega
        rw [tget_lt (by simpa using hi), tget_lt hi, List.getElem_map]
        exact ih _ (List.getElem_mem hi) p
theorem d48_size : ∀ t : T, t.d48.size = t.size := by
  refine T.ind (fun f l ih => ?_)
  rw [T.d48, d48L_map, T.size, T.size]
  congr 1
  induction l with
  | nil => rfl
  | cons t r ih2 => rw [List.map_cons, T.sizeL, T.sizeL, ih t (by simp), ih2 (fun x hx => ih x (by simp [hx]))]
/-- Whether two terms can be made the same. -/
noncomputable def canD (a b : T) : Bool := @decide (wideB [(a, b)] = true ∧ ∃ θ, Unif θ [(a, b)]) (Classical.propDecidable _)
theorem can_det {a b : T} {c : Bool} (h : CanIs false [(a, b)] c) : c = canD a b := by
  unfold canD
  rcases h with ⟨h1, h2⟩ | ⟨h1, o, h2, h3⟩
  · rw [h2]; symm; rw [@decide_eq_false_iff_not _ (Classical.propDecidable _), h1]; rintro ⟨e, _⟩; cases e
  · cases o with
    | none =>
      rw [h3]; symm
      show _ = false
      rw [@decide_eq_false_iff_not _ (Classical.propDecidable _)]
      rintro ⟨_, θ, hu⟩
      exact solve_none h2 (wide_prp h1) θ hu
    | some q =>
      obtain ⟨st, κ, sz, dp⟩ := q
      rw [h3]; symm
      show _ = true
      rw [@decide_eq_true_iff _ (Classical.propDecidable _)]
      obtain ⟨σ, hσ, _⟩ := solve_some h2 (wide_prp h1)
      exact ⟨h1, σ, hσ.1⟩
theorem can_fit {a t : T} (h : canD a t.d48 = true) : fitP 0 (prt a) (prt t) = true := by
  unfold canD at h
  rw [@decide_eq_true_iff _ (Classical.propDecidable _)] at h
  obtain ⟨_, θ, hu⟩ := h
  have e : a.apv θ = t.d48.apv θ := hu (a, t.d48) (by simp)
  refine fit_all (fun p => ?_)
  have h1 := apv_ltr θ a p
  have h2 := apv_ltr θ t.d48 p
  rw [← e, d48_ltr] at h2
  exact ltU_of h1 h2
def bL (l : List T) (k : Nat) : List (T × Int) := (List.range k).map (fun i => (tget l i, (i : Int)))
theorem bL_succ {l : List T} {k : Nat} : bL l (k + 1) = bL l k ++ [(tget l k, (k : Int))] := by unfold bL; rw [List.range_succ, List.map_append]; rfl
theorem bL_len {l : List T} {k : Nat} : (bL l k).length = k := by simp [bL]
theorem leaf_in {l : List T} {way i : Nat} {q : List Int} (hi : i < l.length) (h : fitP way (prt (tget l i)) q = true) : (i : Int) ∈ askP (bL l l.length) way q :=
  askP_mem.2 ⟨(tget l i, (i : Int)), List.mem_map.2 ⟨i, List.mem_range.2 hi, rfl⟩, h, rfl⟩
end Go.Proofs.Ytibncmnmjhimeaa

/- Maps from keys of a kind: entries in the order in which they were laid, whatever the values are; ranges over them. -/
namespace Go.Proofs.Ytibncmnmjhimeaa
open Go.RowKit Go
set_option linter.unusedVariables false
set_option linter.unusedSimpArgs false
/-- A kind of key: how it is told, and that the program finds it. -/
structure KeyK (P : Program) (k : TypeId) {κ : Type} [DecidableEq κ] (enc : κ → Value) (ok : κ → Prop) : Prop where
  eq : ∀ x y w, ok x → ok y → (Op.equal k (enc x) (enc y)).run P w = .ok (decide (x = y)) w
  check : ∀ b x w, ok x → (Instr.checkKey b 10000 k (enc x)).run P w = .ok () w
  bits : ∀ x, ok x → Instr.sameBits 10000 (enc x) (enc x) = true
  under : ∃ u, P.underlying k = some u ∧ ∀ x e es, Instr.findNow u (enc x) (e :: es) 0 = none
section
variable {κ : Type} [DecidableEq κ] {enc : κ → Value} {ok : κ → Prop}
/-- The entries of a map are the list. -/
structure GmE (enc : κ → Value) (ok : κ → Prop) (es : Array MapEntry) (clock : Nat) (l : List (κ × Value)) : Prop where
  kv : es.toList.map (fun e => (e.key, e.val)) = l.map (fun x => (enc x.1, x.2))
  nd : (es.toList.map (·.born)).Nodup
  lt : ∀ e ∈ es.toList, e.born < clock
  ok : ∀ x ∈ l, ok x.1
omit [DecidableEq κ] in
theorem GmE.nil : GmE enc ok #[] 0 [] := ⟨rfl, List.Pairwise.nil, fun e h => by simp at h, fun x h => by simp at h⟩
omit [DecidableEq κ] in
theorem GmE.size {es : Array MapEntry} {clock : Nat} {l : List (κ × Value)} (h : GmE enc ok es clock l) : es.size = l.length := by
  have := congrArg List.length h.kv
  simpa using this
def gmFind : List (κ × Value) → κ → Nat → Option (Nat × Value)
  | [], _, _ => none
  | x :: l, k, i => if k = x.1 then some (i, x.2) else gmFind l k (i + 1)
def gmLook (l : List (κ × Value)) (k : κ) : Option Value := (gmFind l k 0).map (·.2)
def gmDel (l : List (κ × Value)) (k : κ) : List (κ × Value) := match gmFind l k 0 with | some (i, _) => l.eraseIdx i | none => l
def gmPut (l : List (κ × Value)) (k : κ) (v : Value) : List (κ × Value) := match gmFind l k 0 with | some (i, _) => l.set i (k, v) | none => l ++ [(k, v)]
theorem gmFind_none : ∀ {l : List (κ × Value)} {k : κ} {i : Nat}, gmFind l k i = none ↔ ∀ x ∈ l, x.1 ≠ k
  | [], k, i => by simp [gmFind]
  | x :: l, k, i => by
    rw [gmFind]
    split
    · rename_i h; subst h; simp
    · rename_i h; rw [gmFind_none]; simp; exact fun _ e => h e.symm
theorem gmFind_at {k : κ} : ∀ {l : List (κ × Value)} {i j : Nat} {v : Value}, gmFind l k i = some (j, v) → i ≤ j ∧ l[j - i]? = some (k, v)
  | [], i, j, v, h => by cases h
  | x :: l, i, j, v, h => by
    rw [gmFind] at h
    split at h
    · rename_i hk
      obtain ⟨rfl, rfl⟩ : i = j ∧ x.2 = v := by simpa using h
      subst hk
      simp
    · obtain ⟨h1, h2⟩ := gmFind_at h
      refine ⟨by omega, ?_⟩
      rw [show j - i = (j - (i + 1)) + 1 by omega]
      simpa using h2
variable {P : Program} {w : World} {t k e : TypeId} {r : Nat} {es : Array MapEntry} {clock : Nat} {l : List (κ × Value)}
theorem run_findAsking_gm (hk : KeyK P k enc ok) {x : κ} (hx : ok x) (w : World) : ∀ (es : List MapEntry) (l : List (κ × Value)) (i : Nat), es.map (fun e => (e.key, e.val)) = l.map (fun x => (enc x.1, x.2)) → (∀ x ∈ l, ok x.1) → (Instr.findAsking k (enc x) es i).run P w = .ok (gmFind l x i) w
  | [], [], i, _, _ => by simp [Instr.findAsking, gmFind]
  | [], _ :: _, _, h, _ => by cases h
  | _ :: _, [], _, h, _ => by cases h
  | e :: es, y :: l, i, h, ho => by
    simp only [List.map_cons, List.cons.injEq, Prod.mk.injEq] at h
    obtain ⟨⟨h1, h2⟩, h3⟩ := h
    unfold Instr.findAsking
    simp only [Sem.run_bind, h1, hk.eq _ _ _ hx (ho y (by simp)), Result.andThen_ok]
    rw [gmFind]
    by_cases c : x = y.1
    · rw [decide_eq_true c, if_pos c]; simp [h2]
    · rw [decide_eq_false c, if_neg c]
      simp only [Bool.false_eq_true, if_false]
      exact run_findAsking_gm hk hx w es l (i + 1) h3 (fun z hz => ho z (List.mem_cons_of_mem _ hz))
theorem run_findKey_gm (hk : KeyK P k enc ok) (h : GmE enc ok es clock l) {x : κ} (hx : ok x) : (Instr.findKey k (enc x) es.toList).run P w = .ok (gmFind l x 0) w := by
  obtain ⟨u, hu, hf⟩ := hk.under
  have hr := run_findAsking_gm hk hx w es.toList l 0 h.kv h.ok
  unfold Instr.findKey
  simp only [Sem.run_bind, run_underlying hu, Result.andThen_ok]
  have hkv := h.kv
  cases he : es.toList with
  | nil =>
    rw [he] at hkv
    cases l with
    | nil => simp [Instr.findNow, gmFind]
    | cons y l => cases hkv
  | cons e r => rw [he] at hr; simp only [hf]; exact hr
variable {a : Act} {K : Act → World → Prop} {Q : Exit → Act → World → Prop} {o : Oper}
omit [DecidableEq κ] in
theorem GmE.push (h : GmE enc ok es clock l) {n : κ} (hn : ok n) (v : Value) : GmE enc ok (es.push { key := enc n, val := v, born := clock }) (clock + 1) (l ++ [(n, v)]) := by
  refine ⟨?_, ?_, fun e he => ?_, fun x hx => ?_⟩
  · simp [h.kv]
  · rw [Array.toList_push, List.map_append, List.map_singleton, List.nodup_append]
    refine ⟨h.nd, by simp, fun a ha b hb => ?_⟩
    obtain ⟨e, he, rfl⟩ := List.mem_map.1 ha
    have := h.lt e he
    simp at hb; omega
  · rw [Array.toList_push, List.mem_append] at he
    rcases he with he | he
    · have := h.lt e he; omega
    · simp at he; subst he; simp
  · rcases List.mem_append.1 hx with hx | hx
    · exact h.ok x hx
    · obtain rfl := List.mem_singleton.1 hx; exact hn
theorem modify_list {α : Type} (f : α → α) (a : Array α) (i : Nat) (h : i < a.size) : (a.modify i f).toList = a.toList.set i (f a[i]) := by
  apply List.ext_getElem
  · simp
  · intro q q1 q2
    rw [List.getElem_set]
    simp only [Array.getElem_toList, Array.getElem_modify]
    split
    · rename_i c; subst c; rfl
    · rfl
omit [DecidableEq κ] in
theorem GmE.over (h : GmE enc ok es clock l) {i : Nat} {n : κ} {v : Value} (hn : ok n) (hi : l[i]?.map (·.1) = some n) : GmE enc ok (es.modify i fun e => { e with key := enc n, val := v }) clock (l.set i (n, v)) := by
  have hs := h.size
  have hil : i < l.length := by
    rcases Nat.lt_or_ge i l.length with c | c
    · exact c
    · rw [List.getElem?_eq_none c] at hi; cases hi
  have hie : i < es.size := by omega
  have hl := modify_list (fun e : MapEntry => { e with key := enc n, val := v }) es i hie
  refine ⟨?_, ?_, fun e he => ?_, fun x hx => ?_⟩
  · rw [hl, List.map_set, List.map_set, h.kv]
  · rw [hl, List.map_set]
    have : (es.toList.map (·.born)).set i es[i].born = es.toList.map (·.born) := by
      apply List.ext_getElem
      · simp
      · intro q q1 q2
        rw [List.getElem_set]
        split
        · rename_i c; subst c; simp
        · rfl
    show ((es.toList.map (·.born)).set i es[i].born).Nodup
    rw [this]; exact h.nd
  · rw [hl] at he
    rcases List.mem_or_eq_of_mem_set he with he | rfl
    · exact h.lt e he
    · show es[i].born < clock
      exact h.lt es[i] (by simp)
  · rcases List.mem_or_eq_of_mem_set hx with hx | rfl
    · exact h.ok x hx
    · exact hn
/-- What a range has handed out, and what it has not. -/
structure ItG (enc : κ → Value) (es : Array MapEntry) (l : List (κ × Value)) (seen : Array Nat) (done rest : List (κ × Value)) : Prop where
  perm : (done ++ rest).Perm l
  left : (leftOf es seen).toList.map (fun e => (e.key, e.val)) = rest.map (fun x => (enc x.1, x.2))
/-- What was handed out last. -/
def CurG (enc : κ → Value) (es : Array MapEntry) (seen : Array Nat) (x : κ × Value) : Prop := ∃ e ∈ es.toList, ∃ s : Array Nat, seen = s.push e.born ∧ e.key = enc x.1 ∧ e.val = x.2
variable {it : Nat} {seen : Array Nat} {done rest : List (κ × Value)}
omit [DecidableEq κ] in
theorem ItG.start (h : GmE enc ok es clock l) : ItG enc es l #[] [] l := ⟨List.Perm.refl _, by rw [leftOf_nil]; exact h.kv⟩
omit [DecidableEq κ] in
theorem run_next_gm (ty : TypeId) (hM : ObjAt w r (.map es clock)) (hI : ObjAt w it (.mapIter (some r) clock seen clock)) (hE : GmE enc ok es clock l) :
    ((leftOf es seen).size = 0 ∧ (Instr.next (.pointer (some ⟨it, 0, none⟩)) false ty).run P w = .ok (.tuple #[.bool false]) w) ∨
    ∃ (j : Nat) (hj : j < (leftOf es seen).size) (w' : World), Upd it w w' ∧ ObjAt w' it (.mapIter (some r) clock (seen.push (leftOf es seen)[j].born) clock) ∧
      (Instr.next (.pointer (some ⟨it, 0, none⟩)) false ty).run P w = .ok (.tuple #[.bool true, (leftOf es seen)[j].key, (leftOf es seen)[j].val]) w' := by
  have hb : w.heap[r]? = some (.map es clock) := hM
  have hi : w.heap[it]? = some (.mapIter (some r) clock seen clock) := hI
  simp only [Instr.next, getObj, Sem.run_bind, Sem.run, hi, hb, Result.andThen, next_test_false seen es clock clock hE.lt (Nat.le_refl _), Bool.false_eq_true, if_false]
  have hmem : ∀ x ∈ (leftOf es seen).toList, x.born < clock := fun x hx => hE.lt x (mem_left hx).1
  have e0 : (Array.filter (fun e => !seen.contains e.born) es) = leftOf es seen := rfl
  rw [e0]
  generalize leftOf es seen = L at hmem ⊢
  have e1 : L.filter (fun x => decide (x.born < clock)) = L := Array.filter_eq_self.2 (fun x hx => by simpa using hmem x (by simpa using hx))
  have e2 : L.filter (fun x => decide (x.born ≥ clock)) = #[] := by
    rw [Array.filter_eq_empty_iff]
    intro x hx
    have := hmem x (by simpa using hx)
    simp; omega
  simp only [e1, e2, Array.append_empty]
  by_cases h0 : L.size = 0
  · left
    have : L = #[] := Array.eq_empty_of_size_eq_zero h0
    subst this
    refine ⟨rfl, ?_⟩
    simp [choose, Sem.run, Question.forced]
  · right
    have hne : L.isEmpty = false := by simp [Array.isEmpty, h0]
    simp only [hne, Bool.false_eq_true, if_false, Array.empty_append, Array.size_map]
    have hch : ∃ (j : Nat) (w1 : World), j < L.size ∧ w1.os = w.os ∧ w1.tape = w.tape ∧ w1.output = w.output ∧ w1.heap = w.heap ∧ (choose (Question.mapNext L.size)).run P w = .ok j w1 := by
      by_cases hf : L.size ≤ 1
      · exact ⟨0, w, by omega, rfl, rfl, rfl, rfl, by simp [choose, Sem.run, Question.forced, hf]⟩
      · exact ⟨_, w.drew, Nat.mod_lt _ (by omega), rfl, rfl, rfl, rfl, by
          simp only [choose, Sem.run, Question.forced, decide_eq_true_eq, hf, if_false, Question.cut]
          rfl⟩
    obtain ⟨j, w1, hj, h1, h2, h3, h4, hrun⟩ := hch
    have hi1 : w1.heap[it]? = some (.mapIter (some r) clock seen clock) := by rw [h4]; exact hi
    have hset : ∀ o' : Obj, (setObj it o').run P w1 = .ok () { w1 with heap := w1.heap.setIfInBounds it o' } := fun o' => by simp [setObj, Sem.run, hi1]
    have hlt : it < w1.heap.size := (Array.getElem?_eq_some_iff.1 hi1).1
    refine ⟨j, hj, { w1 with heap := w1.heap.setIfInBounds it (.mapIter (some r) clock (seen.push L[j].born) clock) }, ⟨h1, h2, h3, by simp [h4], fun k hk => by simp [Ne.symm hk, h4]⟩, by simp [ObjAt, hlt], ?_⟩
    simp only [hrun, Array.getElem?_map, Array.getElem?_eq_getElem hj, Option.map_some, Sem.run_bind, hset, Result.andThen]
    rfl
omit [DecidableEq κ] in
theorem leftOf_pushG (hE : GmE enc ok es clock l) (j : Nat) (hj : j < (leftOf es seen).size) : (leftOf es (seen.push (leftOf es seen)[j].born)).toList = (leftOf es seen).toList.eraseIdx j := by
  have hn : ((leftOf es seen).toList.map (·.born)).Nodup := by
    unfold leftOf
    rw [Array.toList_filter]
    exact (List.Sublist.map _ (List.filter_sublist)).nodup hE.nd
  rw [← filter_drop_one (·.born) (leftOf es seen).toList j (by simpa using hj) hn]
  have : leftOf es (seen.push (leftOf es seen)[j].born) = (leftOf es seen).filter (fun x => !(x.born == (leftOf es seen)[j].born)) := by
    generalize (leftOf es seen)[j].born = b
    unfold leftOf
    rw [Array.filter_filter]
    congr 1
    funext x
    rw [contains_push]
    cases seen.contains x.born <;> cases (x.born == b) <;> rfl
  rw [this, Array.toList_filter]
  simp
omit [DecidableEq κ] in
theorem wp_next_gm {x : Operand} (hM : ObjAt w r (.map es clock)) (hI : ObjAt w it (.mapIter (some r) clock seen clock)) (hE : GmE enc ok es clock l) (hR : ItG enc es l seen done rest)
    (ho : o.op = .next x false) (hx : a.eval x = .pointer (some ⟨it, 0, none⟩))
    (h0 : rest = [] → K (a.put o.dst (.tuple #[.bool false])) w)
    (h1 : ∀ y rest' seen' w', rest.Perm (y :: rest') → rest'.length < rest.length → ItG enc es l seen' (done ++ [y]) rest' → CurG enc es seen' y → ObjAt w' it (.mapIter (some r) clock seen' clock) → Upd it w w' → K (a.put o.dst (.tuple #[.bool true, enc y.1, y.2])) w') : o.wp P a w K Q := by
  have hlen : (leftOf es seen).size = rest.length := by
    have := congrArg List.length hR.left
    simpa using this
  unfold Oper.wp execOp
  simp only [ho, hx]
  rcases run_next_gm (P := P) o.type hM hI hE with ⟨q0, q1⟩ | ⟨j, hj, w', q1, q2, q3⟩
  · simp only [Sem.run_bind, q1, Result.andThen_ok]
    exact h0 (List.length_eq_zero_iff.1 (by omega))
  · simp only [Sem.run_bind, q3, Result.andThen_ok]
    have hjr : j < rest.length := by omega
    have hel := congrArg (fun z => z[j]?) hR.left
    simp only [List.getElem?_map] at hel
    rw [List.getElem?_eq_getElem (by simpa using hj), List.getElem?_eq_getElem hjr] at hel
    simp only [Option.map_some, Option.some.injEq, Prod.mk.injEq, Array.getElem_toList] at hel
    rw [hel.1, hel.2]
    have hp := perm_erase rest j hjr
    refine h1 rest[j] (rest.eraseIdx j) _ w' hp (by rw [List.length_eraseIdx_of_lt hjr]; omega) ⟨?_, ?_⟩ ⟨(leftOf es seen)[j], (mem_left (seen := seen) (by simp)).1, seen, rfl, hel.1, hel.2⟩ q2 q1
    · rw [List.append_assoc]
      exact (List.Perm.append_left done hp.symm).trans hR.perm
    · rw [leftOf_pushG hE j hj, map_eraseIdx', hR.left, map_eraseIdx']
omit [DecidableEq κ] in
theorem wp_entry_gm {x : Operand} {y : κ × Value} (hM : ObjAt w r (.map es clock)) (hI : ObjAt w it (.mapIter (some r) clock seen clock)) (hE : GmE enc ok es clock l) (hC : CurG enc es seen y)
    (ho : o.op = .entry x) (hx : a.eval x = .pointer (some ⟨it, 0, none⟩)) (hK : K (a.put o.dst (.tuple #[enc y.1, y.2])) w) : o.wp P a w K Q := by
  have hb : w.heap[r]? = some (.map es clock) := hM
  have hi : w.heap[it]? = some (.mapIter (some r) clock seen clock) := hI
  obtain ⟨e, he, s, rfl, h1, h2⟩ := hC
  have hf : es.find? (·.born == e.born) = some e := by rw [← Array.find?_toList]; exact find_born e es.toList hE.nd he
  have run : (Instr.entry (.pointer (some ⟨it, 0, none⟩))).run P w = .ok (.tuple #[e.key, e.val]) w := by
    simp only [Instr.entry, getObj, Sem.run_bind, Sem.run, hi, hb, Result.andThen, Array.back?_push, bne_self_eq_false, Bool.false_eq_true, if_false, hf]
    rfl
  unfold Oper.wp execOp
  simp only [ho, hx]
  simp only [Sem.run_bind, run, Result.andThen_ok, h1, h2]
  exact hK
end
end Go.Proofs.Ytibncmnmjhimeaa

/- Prints as a map's keys. -/
namespace Go.Proofs.Ytibncmnmjhimeaa
open Go.RowKit Go
set_option linter.unusedVariables false
set_option linter.unusedSimpArgs false
def encP (x : List Int) : Value := .agg (x.map (Value.int .i64)).toArray
def okP (x : List Int) : Prop := x.length = 8
theorem encP_prt (t : T) : encP (prt t) = .agg #[.int .i64 (ltr t []), .int .i64 (ltr t [0]), .int .i64 (ltr t [1]), .int .i64 (ltr t [2]), .int .i64 (ltr t [0, 0]), .int .i64 (ltr t [0, 1]), .int .i64 (ltr t [1, 0]), .int .i64 (ltr t [1, 1])] := rfl
theorem len8 {x : List Int} (h : okP x) : ∃ a b c d e f g i, x = [a, b, c, d, e, f, g, i] := by
  match x, h with
  | [a, b, c, d, e, f, g, i], _ => exact ⟨a, b, c, d, e, f, g, i, rfl⟩
set_option maxRecDepth 100000 in
set_option maxHeartbeats 1000000 in
theorem eqP (x y : List Int) (w : World) (hx : okP x) (hy : okP y) : (Op.equal 50 (encP x) (encP y)).run Try.prog w = .ok (decide (x = y)) w := by
  obtain ⟨a0, a1, a2, a3, a4, a5, a6, a7, rfl⟩ := len8 hx
  obtain ⟨b0, b1, b2, b3, b4, b5, b6, b7, rfl⟩ := len8 hy
  have u1 := Try.underlying3
  have hi : ∃ i, Try.prog.info? 3 = some i := by
    cases h : Try.prog.info? 3 with
    | none => exact absurd (show (Try.prog.info? 3).isSome = true by kernel_rfl) (by rw [h]; decide)
    | some i => exact ⟨i, rfl⟩
  obtain ⟨i, hi⟩ := hi
  have hC : Try.prog.cellsOf 3 = 1 := by kernel_rfl
  unfold Op.equal encP
  rw [show Op.maxDepth = 9998 + 1 + 1 from rfl]
  generalize (9998 : Nat) = n
  rw [run_equalIn_array w (n + 1) _ _ Try.underlying50 hi, hC]
  rw [show List.range 8 = [0, 1, 2, 3, 4, 5, 6, 7] from rfl]
  simp only [Op.eqItems, Sem.run_bind]
  simp [part, run_underlying u1, Op.equalIn, go_sem]
  by_cases h0 : a0 = b0
  case neg => simp [h0]
  subst h0
  by_cases h1 : a1 = b1
  case neg => simp [h1]
  subst h1
  by_cases h2 : a2 = b2
  case neg => simp [h2]
  subst h2
  by_cases h3 : a3 = b3
  case neg => simp [h3]
  subst h3
  by_cases h4 : a4 = b4
  case neg => simp [h4]
  subst h4
  by_cases h5 : a5 = b5
  case neg => simp [h5]
  subst h5
  by_cases h6 : a6 = b6
  case neg => simp [h6]
  subst h6
  by_cases h7 : a7 = b7
  case neg => simp [h7]
  subst h7
  simp
set_option maxRecDepth 100000 in
theorem checkP (b : Bool) (x : List Int) (w : World) (hx : okP x) : (Instr.checkKey b 10000 50 (encP x)).run Try.prog w = .ok () w := by
  obtain ⟨a0, a1, a2, a3, a4, a5, a6, a7, rfl⟩ := len8 hx
  have u0 := Try.underlying50
  have u1 := Try.underlying3
  rw [show (10000 : Nat) = 9998 + 1 + 1 from rfl]
  generalize (9998 : Nat) = n
  unfold encP
  have e8 : List.range' 0 8 = [0, 1, 2, 3, 4, 5, 6, 7] := rfl
  simp [Instr.checkKey, run_underlying u0, run_underlying u1, go_sem, part, e8]
theorem bitsP (x : List Int) (hx : okP x) : Instr.sameBits 10000 (encP x) (encP x) = true := by
  obtain ⟨a0, a1, a2, a3, a4, a5, a6, a7, rfl⟩ := len8 hx
  rw [show (10000 : Nat) = 9998 + 1 + 1 from rfl]
  generalize (9998 : Nat) = n
  simp [Instr.sameBits, encP]
theorem keyP : KeyK Try.prog 50 encP okP := ⟨fun x y w hx hy => eqP x y w hx hy, checkP, bitsP, ⟨_, Try.underlying50, fun x e es => by simp [Instr.findNow, Instr.sameNow, encP]⟩⟩
end Go.Proofs.Ytibncmnmjhimeaa

/- An index by fingerprints in memory: buckets in a map. -/
namespace Go.Proofs.Ytibncmnmjhimeaa
open Go.RowKit Go
set_option linter.unusedVariables false
set_option linter.unusedSimpArgs false
abbrev TI := T × Int
local instance : Inhabited T := ⟨.mk 0 []⟩
def eltR : Elt TI where
  k := 3
  In := fun S w x cs => ∃ u v, cs = [u, v, .int .i64 x.2] ∧ InT S w x.1 (.agg #[u, v])
  keep := fun hb ⟨u, v, e, h⟩ => ⟨u, v, e, h.keep hb⟩
  mono := fun hb ⟨u, v, e, h⟩ => ⟨u, v, e, h.mono hb⟩
  len := fun ⟨_, _, e, _⟩ => by rw [e]; rfl
  one := fun ⟨u, v, e, h⟩ x hx => by
    obtain ⟨_, a, c, e1, _⟩ := h.form
    simp only [Value.agg.injEq, Array.mk.injEq, List.cons.injEq, and_true] at e1
    obtain ⟨rfl, rfl⟩ := e1
    rw [e] at hx
    simp only [List.mem_cons, List.not_mem_nil, or_false] at hx
    rcases hx with rfl | rfl | rfl <;> rfl
/-- A bucket: its key, where its row lies, its rows. -/
structure Bk where
  key : List Int
  a : Option Addr
  c : Nat
  rows : List TI
abbrev bkV (x : Bk) : List Int × Value := (x.key, .slice x.a x.rows.length x.c)
abbrev bkO (x : Bk) : Option Nat := obk x.a x.rows.length x.c
/-- The rows of a bag that have a key. -/
def bag (B : List TI) (k : List Int) : List TI := B.filter (fun r => decide (prt r.1 = k))
structure FpO (w : World) (g m : Nat) (es : Array MapEntry) (clock : Nat) (KL : List Bk) (S : Nat → Prop) (B : List TI) : Prop where
  blk : Blk w g 48 #[.map (some m), .int .i64 ((B.length : Nat) : Int)]
  obj : ObjAt w m (.map es clock)
  ent : GmE encP okP es clock (KL.map bkV)
  nd : (KL.map (·.key)).Nodup
  row : ∀ x ∈ KL, RowD eltR S w 54 x.a x.c x.rows.length x.rows
  bags : ∀ x ∈ KL, x.rows = bag B x.key ∧ x.rows ≠ []
  all : ∀ r ∈ B, ∃ x ∈ KL, x.key = prt r.1
  own : ∀ x ∈ KL, ∀ b, bkO x = some b → b ≠ g ∧ b ≠ m ∧ ¬ S b
  apart : ∀ x ∈ KL, ∀ y ∈ KL, x.key ≠ y.key → ∀ b, bkO x = some b → bkO y ≠ some b
  sS : ∀ b, S b → b ≠ g ∧ b ≠ m ∧ b < w.heap.size
  ids : ∀ r ∈ B, I64 r.2 ∧ r.1.size ≤ 4294967296
def FpZ (g m : Nat) (KL : List Bk) (S : Nat → Prop) : Nat → Prop := fun b => b = g ∨ b = m ∨ S b ∨ ∃ x ∈ KL, bkO x = some b
section
variable {w w' : World} {g m clock : Nat} {es : Array MapEntry} {KL : List Bk} {S : Nat → Prop} {B : List TI}
theorem FpO.gm (h : FpO w g m es clock KL S B) : g ≠ m := h.obj.neBlk h.blk
theorem FpO.lt (h : FpO w g m es clock KL S B) : ∀ b, FpZ g m KL S b → b < w.heap.size := fun b q => by
  rcases q with rfl | rfl | q | ⟨x, hx, q⟩
  · exact h.blk.lt
  · exact h.obj.lt
  · exact (h.sS b q).2.2
  · exact (h.row x hx).lt b q
theorem FpO.chg {Z : Nat → Prop} (h : FpO w g m es clock KL S B) (hc : Chg Z w w') (hZ : ∀ b, FpZ g m KL S b → ¬ Z b) : FpO w' g m es clock KL S B :=
  ⟨chg_blk h.blk hc (hZ _ (.inl rfl)), h.obj.chg hc (hZ _ (.inr (.inl rfl))), h.ent, h.nd, fun x hx => (h.row x hx).chg hc (fun b q => hZ b (.inr (.inr (.inr ⟨x, hx, q⟩)))) (fun b q => hZ b (.inr (.inr (.inl q)))), h.bags, h.all, h.own, h.apart, fun b q => ⟨(h.sS b q).1, (h.sS b q).2.1, Nat.lt_of_lt_of_le (h.sS b q).2.2 hc.size⟩, h.ids⟩
theorem FpO.c0 (h : FpO w g m es clock KL S B) : w.cell? ⟨g, 0, none⟩ = some (.map (some m)) := (h.blk.cell 0).trans rfl
theorem FpO.c1 (h : FpO w g m es clock KL S B) : w.cell? ⟨g, 1, none⟩ = some (.int .i64 ((B.length : Nat) : Int)) := (h.blk.cell 1).trans rfl
/-- What the map tells of a key. -/
theorem FpO.look (h : FpO w g m es clock KL S B) (k : List Int) : ∃ a c, (gmLook (KL.map bkV) k).getD (.slice none 0 0) = .slice a (bag B k).length c ∧ RowD eltR S w 54 a c (bag B k).length (bag B k) ∧
    (∀ b, obk a (bag B k).length c = some b → b ≠ g ∧ b ≠ m ∧ ¬ S b ∧ b < w.heap.size ∧ FpZ g m KL S b ∧ ∀ y ∈ KL, y.key ≠ k → bkO y ≠ some b) ∧ ((bag B k ≠ []) → ∃ i : Nat, ∃ x ∈ KL, KL[i]? = some x ∧ x.key = k ∧ x.a = a ∧ x.c = c ∧ x.rows = bag B k) := by
  by_cases hk : ∃ x ∈ KL, x.key = k
  · obtain ⟨x, hx, rfl⟩ := hk
    obtain ⟨i, hi, rfl⟩ := List.getElem_of_mem hx
    have hr := (h.bags _ hx).1
    have hl : gmLook (KL.map bkV) (KL[i]).key = some (.slice (KL[i]).a (KL[i]).rows.length (KL[i]).c) := by
      unfold gmLook
      cases hf : gmFind (KL.map bkV) (KL[i]).key 0 with
      | none => exact absurd rfl (gmFind_none.1 hf (bkV KL[i]) (List.mem_map_of_mem hx))
      | some p =>
        obtain ⟨j, v⟩ := p
        obtain ⟨_, hat⟩ := gmFind_at hf
        rw [Nat.sub_zero, List.getElem?_map] at hat
        cases hj : KL[j]? with
        | none => rw [hj] at hat; cases hat
        | some y =>
          rw [hj] at hat
          simp only [Option.map_some, Option.some.injEq, Prod.mk.injEq] at hat
          have hjl := (List.getElem?_eq_some_iff.1 hj).1
          have : j = i := by
            have hn := h.nd
            have e1 : (KL.map (·.key))[j]? = (KL.map (·.key))[i]? := by
              rw [List.getElem?_map, List.getElem?_map, hj, List.getElem?_eq_getElem hi]
              simp [hat.1]
            exact (List.getElem?_inj (by simpa using hjl) hn).1 e1
          subst this
          rw [List.getElem?_eq_getElem hi] at hj
          cases hj
          rw [← hat.2]; rfl
    refine ⟨(KL[i]).a, (KL[i]).c, by rw [hl, ← hr]; rfl, by rw [← hr]; exact h.row _ hx, fun b q => ?_, fun _ => ⟨i, _, hx, List.getElem?_eq_getElem hi, rfl, rfl, rfl, hr⟩⟩
    rw [← hr] at q
    have ho := h.own _ hx b q
    exact ⟨ho.1, ho.2.1, ho.2.2, (h.row _ hx).lt b q, .inr (.inr (.inr ⟨_, hx, q⟩)), fun y hy hne => h.apart _ hx y hy (fun e => hne e.symm) b q⟩
  · have hb : bag B k = [] := by
      unfold bag
      rw [List.filter_eq_nil_iff]
      intro r hr
      simp only [decide_eq_true_eq]
      intro e
      obtain ⟨x, hx, e2⟩ := h.all r hr
      exact hk ⟨x, hx, e2.trans e⟩
    have hl : gmLook (KL.map bkV) k = none := by
      unfold gmLook
      rw [gmFind_none.2 (fun y hy => by
        obtain ⟨x, hx, rfl⟩ := List.mem_map.1 hy
        exact fun e => hk ⟨x, hx, e⟩)]
      rfl
    refine ⟨none, 0, by rw [hl, hb]; rfl, by rw [hb]; exact RowD.nil, fun b q => ?_, fun hne => absurd hb hne⟩
    rw [hb] at q; cases q
end
/-- An index, whose blocks are 'Z'. -/
def FpIs (w : World) (g : Nat) (Z : Nat → Prop) (B : List TI) : Prop := ∃ m es clock KL S, FpO w g m es clock KL S B ∧ (∀ b, FpZ g m KL S b → Z b) ∧ ∀ b, Z b → b < w.heap.size
section
variable {w w' : World} {g : Nat} {Z X : Nat → Prop} {B : List TI}
theorem FpIs.chg (h : FpIs w g Z B) (hc : Chg X w w') (hX : ∀ b, Z b → ¬ X b) : FpIs w' g Z B := by
  obtain ⟨m, es, clock, KL, S, h1, h2, h3⟩ := h
  exact ⟨m, es, clock, KL, S, h1.chg hc (fun b q => hX b (h2 b q)), h2, fun b q => Nat.lt_of_lt_of_le (h3 b q) hc.size⟩
theorem FpIs.below (h : FpIs w g Z B) (hb : Below w.heap.size w w') : FpIs w' g Z B := h.chg (X := fun _ => False) (.ofBelow hb) (fun _ _ => id)
end
theorem bag_snoc_eq {B : List TI} {t : T} {id : Int} : bag (B ++ [(t, id)]) (prt t) = bag B (prt t) ++ [(t, id)] := by
  unfold bag; rw [List.filter_append, List.filter_cons, if_pos (by simp)]; rfl
theorem bag_snoc_ne {B : List TI} {t : T} {id : Int} {k : List Int} (h : k ≠ prt t) : bag (B ++ [(t, id)]) k = bag B k := by
  unfold bag; rw [List.filter_append, List.filter_cons, if_neg (by simpa using fun e => h e.symm)]; simp
/-- A bucket is told anew. -/
def KLput (KL : List Bk) (x : Bk) : List Bk := match gmFind (KL.map bkV) x.key 0 with | some (i, _) => KL.set i x | none => KL ++ [x]
theorem KLput_map (KL : List Bk) (x : Bk) : (KLput KL x).map bkV = gmPut (KL.map bkV) x.key (.slice x.a x.rows.length x.c) := by
  unfold KLput gmPut
  cases gmFind (KL.map bkV) x.key 0 with
  | none => simp
  | some p => simp [List.map_set]
theorem KLput_mem {KL : List Bk} {x y : Bk} (hn : (KL.map (·.key)).Nodup) (h : y ∈ KLput KL x) : y = x ∨ (y ∈ KL ∧ y.key ≠ x.key) := by
  unfold KLput at h
  cases hf : gmFind (KL.map bkV) x.key 0 with
  | none =>
    rw [hf] at h
    rcases List.mem_append.1 h with h | h
    · exact .inr ⟨h, gmFind_none.1 hf (bkV y) (List.mem_map_of_mem h)⟩
    · exact .inl (List.mem_singleton.1 h)
  | some p =>
    obtain ⟨i, v⟩ := p
    rw [hf] at h
    obtain ⟨_, hat⟩ := gmFind_at hf
    rw [Nat.sub_zero, List.getElem?_map] at hat
    obtain ⟨z, hz, hz2⟩ := Option.map_eq_some_iff.1 hat
    have hil := (List.getElem?_eq_some_iff.1 hz).1
    obtain ⟨j, hj, rfl⟩ := List.getElem_of_mem h
    rw [List.getElem_set]
    split
    · exact .inl rfl
    · rename_i c
      refine .inr ⟨List.getElem_mem _, fun e => c ?_⟩
      have hjl : j < KL.length := by simpa using hj
      have e1 : (KL.map (·.key))[i]? = (KL.map (·.key))[j]? := by
        rw [List.getElem?_map, List.getElem?_map, hz, List.getElem?_eq_getElem hjl]
        simp only [Option.map_some, e]
        exact congrArg some (congrArg Prod.fst hz2)
      exact (List.getElem?_inj (by simpa using hil) hn).1 e1
theorem KLput_has {KL : List Bk} {x : Bk} : x ∈ KLput KL x := by
  unfold KLput
  cases hf : gmFind (KL.map bkV) x.key 0 with
  | none => simp
  | some p =>
    obtain ⟨i, v⟩ := p
    obtain ⟨_, hat⟩ := gmFind_at hf
    rw [Nat.sub_zero, List.getElem?_map] at hat
    obtain ⟨z, hz, _⟩ := Option.map_eq_some_iff.1 hat
    exact List.mem_set (List.getElem?_eq_some_iff.1 hz).1 x
theorem KLput_keep {KL : List Bk} {x y : Bk} (h : y ∈ KL) (hne : y.key ≠ x.key) : y ∈ KLput KL x := by
  unfold KLput
  cases hf : gmFind (KL.map bkV) x.key 0 with
  | none => simp [h]
  | some p =>
    obtain ⟨i, v⟩ := p
    obtain ⟨_, hat⟩ := gmFind_at hf
    rw [Nat.sub_zero, List.getElem?_map] at hat
    obtain ⟨z, hz, hz2⟩ := Option.map_eq_some_iff.1 hat
    obtain ⟨j, hj, rfl⟩ := List.getElem_of_mem h
    have hji : i ≠ j := by
      rintro rfl
      rw [List.getElem?_eq_getElem hj] at hz
      cases hz
      exact hne (congrArg Prod.fst hz2)
    show KL[j] ∈ KL.set i x
    refine List.mem_iff_getElem.2 ⟨j, by simpa using hj, ?_⟩
    rw [List.getElem_set, if_neg hji]
theorem KLput_nd {KL : List Bk} {x : Bk} (hn : (KL.map (·.key)).Nodup) : ((KLput KL x).map (·.key)).Nodup := by
  unfold KLput
  cases hf : gmFind (KL.map bkV) x.key 0 with
  | none =>
    rw [List.map_append, List.map_singleton, List.nodup_append]
    refine ⟨hn, by simp, fun a ha b hb => ?_⟩
    obtain ⟨y, hy, rfl⟩ := List.mem_map.1 ha
    rw [List.mem_singleton.1 hb]
    exact gmFind_none.1 hf (bkV y) (List.mem_map_of_mem hy)
  | some p =>
    obtain ⟨i, v⟩ := p
    obtain ⟨_, hat⟩ := gmFind_at hf
    rw [Nat.sub_zero, List.getElem?_map] at hat
    obtain ⟨z, hz, hz2⟩ := Option.map_eq_some_iff.1 hat
    show ((KL.set i x).map (·.key)).Nodup
    rw [List.map_set]
    have : (KL.map (·.key)).set i x.key = KL.map (·.key) := by
      apply List.ext_getElem
      · simp
      · intro q q1 q2
        rw [List.getElem_set]
        split
        · rename_i c
          subst c
          have hil := (List.getElem?_eq_some_iff.1 hz).1
          rw [List.getElem?_eq_getElem hil] at hz
          cases hz
          simp only [List.getElem_map]
          exact (congrArg Prod.fst hz2).symm
        · rfl
    rw [this]; exact hn
section
variable {w u : World} {g m clock clock' : Nat} {es es' : Array MapEntry} {KL : List Bk} {S S2 : Nat → Prop} {B : List TI}
/-- A term more has come. -/
theorem FpO.added {t : T} {id : Int} {a ra : Option Addr} {c rc : Nat} (h : FpO w g m es clock KL S B) (hid : I64 id ∧ t.size ≤ 4294967296)
    (hlook : ∀ b, obk a (bag B (prt t)).length c = some b → b ≠ g ∧ b ≠ m ∧ ¬ S b ∧ b < w.heap.size ∧ FpZ g m KL S b ∧ ∀ y ∈ KL, y.key ≠ prt t → bkO y ≠ some b)
    (hB : Blk u g 48 #[.map (some m), .int .i64 (((B.length + 1 : Nat)) : Int)]) (hO : ObjAt u m (.map es' clock')) (hE : GmE encP okP es' clock' (gmPut (KL.map bkV) (prt t) (.slice ra ((bag B (prt t)).length + 1) rc)))
    (hr : RowD eltR S2 u 54 ra rc ((bag B (prt t)).length + 1) (bag B (prt t) ++ [(t, id)])) (hS2 : ∀ b, S b → S2 b) (hS2n : ∀ b, S2 b → S b ∨ (w.heap.size ≤ b ∧ b < u.heap.size ∧ obk ra ((bag B (prt t)).length + 1) rc ≠ some b))
    (ho : ∀ b, obk ra ((bag B (prt t)).length + 1) rc = some b → obk a (bag B (prt t)).length c = some b ∨ w.heap.size ≤ b) (hc : Chg (fun b => b = g ∨ b = m ∨ obk a (bag B (prt t)).length c = some b) w u) :
    FpO u g m es' clock' (KLput KL ⟨prt t, ra, rc, bag B (prt t) ++ [(t, id)]⟩) S2 (B ++ [(t, id)]) := by
  have hl : (bag B (prt t) ++ [(t, id)]).length = (bag B (prt t)).length + 1 := by simp
  have hgl := h.blk.lt
  have hml := h.obj.lt
  have hrl := hr.lt
  have old : ∀ y ∈ KL, y.key ≠ prt t → RowD eltR S2 u 54 y.a y.c y.rows.length y.rows := fun y hy hne => by
    refine ((h.row y hy).chg hc (fun b q k => ?_) (fun b q k => ?_)).mono (fun b q _ => hS2 b q) (fun b q k => ?_)
    · rcases k with k | k | k
      · exact (h.own y hy b q).1 k
      · exact (h.own y hy b q).2.1 k
      · exact (hlook b k).2.2.2.2.2 y hy hne q
    · rcases k with k | k | k
      · exact (h.sS b q).1 k
      · exact (h.sS b q).2.1 k
      · exact (hlook b k).2.2.1 q
    · rcases hS2n b q with z | z
      · exact (h.own y hy b k).2.2 z
      · have := (h.row y hy).lt b k; omega
  have own2 : ∀ b, obk ra ((bag B (prt t)).length + 1) rc = some b → b ≠ g ∧ b ≠ m ∧ ¬ S2 b ∧ ∀ y ∈ KL, y.key ≠ prt t → bkO y ≠ some b := fun b q => by
    refine ⟨?_, ?_, fun k => hr.ne b k q, fun y hy hne k => ?_⟩
    · rcases ho b q with z | z
      · exact (hlook b z).1
      · omega
    · rcases ho b q with z | z
      · exact (hlook b z).2.1
      · omega
    · rcases ho b q with z | z
      · exact (hlook b z).2.2.2.2.2 y hy hne k
      · have := (h.row y hy).lt b k; omega
  refine ⟨by simpa using hB, hO, by rw [KLput_map, hl]; exact hE, KLput_nd h.nd, fun x hx => ?_, fun x hx => ?_, fun r hr2 => ?_, fun x hx b q => ?_, fun x hx y hy hne b q => ?_, fun b q => ?_, fun r hr2 => ?_⟩
  · rcases KLput_mem h.nd hx with rfl | ⟨hx, hne⟩
    · rw [hl]; exact hr
    · exact old x hx hne
  · rcases KLput_mem h.nd hx with rfl | ⟨hx, hne⟩
    · exact ⟨bag_snoc_eq.symm, by simp⟩
    · rw [bag_snoc_ne hne]; exact h.bags x hx
  · rcases List.mem_append.1 hr2 with hr2 | hr2
    · obtain ⟨x, hx, e⟩ := h.all r hr2
      by_cases hk : x.key = prt t
      · exact ⟨_, KLput_has, by rw [← e, hk]⟩
      · exact ⟨x, KLput_keep hx hk, e⟩
    · obtain rfl := List.mem_singleton.1 hr2
      exact ⟨_, KLput_has, rfl⟩
  · rcases KLput_mem h.nd hx with rfl | ⟨hx, hne⟩
    · have q : obk ra (bag B (prt t) ++ [(t, id)]).length rc = some b := q
      rw [hl] at q
      exact ⟨(own2 b q).1, (own2 b q).2.1, (own2 b q).2.2.1⟩
    · refine ⟨(h.own x hx b q).1, (h.own x hx b q).2.1, fun k => ?_⟩
      rcases hS2n b k with z | z
      · exact (h.own x hx b q).2.2 z
      · have := (h.row x hx).lt b q; omega
  · rcases KLput_mem h.nd hx with rfl | ⟨hx, hnx⟩
    · have q : obk ra (bag B (prt t) ++ [(t, id)]).length rc = some b := q
      rw [hl] at q
      rcases KLput_mem h.nd hy with rfl | ⟨hy, hny⟩
      · exact absurd rfl hne
      · exact (own2 b q).2.2.2 y hy hny
    · rcases KLput_mem h.nd hy with rfl | ⟨hy, hny⟩
      · intro k
        have k : obk ra (bag B (prt t) ++ [(t, id)]).length rc = some b := k
        rw [hl] at k
        exact (own2 b k).2.2.2 x hx hnx q
      · exact h.apart x hx y hy hne b q
  · rcases hS2n b q with z | z
    · exact ⟨(h.sS b z).1, (h.sS b z).2.1, Nat.lt_of_lt_of_le (h.sS b z).2.2 hc.size⟩
    · exact ⟨by omega, by omega, z.2.1⟩
  · rcases List.mem_append.1 hr2 with hr2 | hr2
    · exact h.ids r hr2
    · obtain rfl := List.mem_singleton.1 hr2; exact hid
end
end Go.Proofs.Ytibncmnmjhimeaa

/- The library's Sort, Compact and Contains of integers, as their contracts have it, at this program. -/
namespace Go.Proofs.Ytibncmnmjhimeaa
open Go.RowKit Go.Sort Go.Shelf Go
def Try.lSort_ren : Go.Shelf.Ren := ⟨fun | 5 => 50 | 8 => 56 | 7 => 55 | 19 => 67 | 20 => 68 | 10 => 58 | 11 => 59 | 12 => 60 | 13 => 61 | 14 => 62 | 15 => 63 | 16 => 64 | 17 => 65 | 18 => 66 | 30 => 69 | 31 => 70 | 32 => 71 | 33 => 72 | 34 => 73 | 35 => 74 | 40 => 75 | n => n, fun | 23 => 31 | 25 => 3 | 3 => 3 | 32 => 95 | 22 => 31 | 0 => 0 | 44 => 106 | 46 => 108 | 4 => 4 | 36 => 99 | 35 => 98 | 41 => 103 | 5 => 5 | 9 => 9 | 53 => 109 | 57 => 113 | 63 => 116 | 64 => 117 | n => n, fun | n => n⟩
theorem Try.lSort : Go.Proofs.SlLaysM.n5 Try.prog Try.lSort_ren := {
  mixed := by kernel_rfl,
  f5 := ⟨Try.f50.name, by decide, Try.func50.trans (congrArg some (by kernel_rfl))⟩,
  f7 := ⟨Try.f55.name, by decide, Try.func55.trans (congrArg some (by kernel_rfl))⟩,
  f8 := Try.func56.trans (congrArg some (by kernel_rfl)),
  f10 := ⟨Try.f58.name, by decide, Try.func58.trans (congrArg some (by kernel_rfl))⟩,
  f11 := ⟨Try.f59.name, by decide, Try.func59.trans (congrArg some (by kernel_rfl))⟩,
  f12 := ⟨Try.f60.name, by decide, Try.func60.trans (congrArg some (by kernel_rfl))⟩,
  f13 := ⟨Try.f61.name, by decide, Try.func61.trans (congrArg some (by kernel_rfl))⟩,
  f14 := ⟨Try.f62.name, by decide, Try.func62.trans (congrArg some (by kernel_rfl))⟩,
  f15 := ⟨Try.f63.name, by decide, Try.func63.trans (congrArg some (by kernel_rfl))⟩,
  f16 := ⟨Try.f64.name, by decide, Try.func64.trans (congrArg some (by kernel_rfl))⟩,
  f17 := ⟨Try.f65.name, by decide, Try.func65.trans (congrArg some (by kernel_rfl))⟩,
  f18 := ⟨Try.f66.name, by decide, Try.func66.trans (congrArg some (by kernel_rfl))⟩,
  f19 := Try.func67.trans (congrArg some (by kernel_rfl)),
  f20 := Try.func68.trans (congrArg some (by kernel_rfl)),
  f30 := ⟨Try.f69.name, by decide, Try.func69.trans (congrArg some (by kernel_rfl))⟩,
  f31 := Try.func70.trans (congrArg some (by kernel_rfl)),
  f32 := Try.func71.trans (congrArg some (by kernel_rfl)),
  f33 := ⟨Try.f72.name, by decide, Try.func72.trans (congrArg some (by kernel_rfl))⟩,
  f34 := ⟨Try.f73.name, by decide, Try.func73.trans (congrArg some (by kernel_rfl))⟩,
  f35 := ⟨Try.f74.name, by decide, Try.func74.trans (congrArg some (by kernel_rfl))⟩,
  f40 := ⟨Try.f75.name, by decide, Try.func75.trans (congrArg some (by kernel_rfl))⟩,
  t0 := Try.underlying0,
  a0 := Try.isAgg0,
  z0 := Try.sizeOf0,
  v0 := Try.zeroValue0,
  t3 := Try.underlying3,
  a3 := Try.isAgg3,
  z3 := Try.sizeOf3,
  v3 := Try.zeroValue3,
  t4 := Try.underlying4,
  a4 := Try.isAgg4,
  z4 := Try.sizeOf4,
  v4 := Try.zeroValue4,
  t5 := Try.underlying5,
  a5 := Try.isAgg5,
  z5 := Try.sizeOf5,
  v5 := Try.zeroValue5,
  t9 := Try.underlying9,
  a9 := Try.isAgg9,
  z9 := Try.sizeOf9,
  v9 := Try.zeroValue9,
  t22 := Try.underlying31,
  a22 := Try.isAgg31,
  z22 := Try.sizeOf31,
  v22 := Try.zeroValue31,
  t23 := Try.underlying31,
  a23 := Try.isAgg31,
  z23 := Try.sizeOf31,
  v23 := Try.zeroValue31,
  t25 := Try.underlying3,
  a25 := Try.isAgg3,
  z25 := Try.sizeOf3,
  v25 := Try.zeroValue3,
  t32 := Try.underlying95,
  a32 := Try.isAgg95,
  z32 := Try.sizeOf95,
  v32 := Try.zeroValue95,
  t35 := Try.underlying98,
  a35 := Try.isAgg98,
  z35 := Try.sizeOf98,
  v35 := Try.zeroValue98,
  t36 := Try.underlying99,
  a36 := Try.isAgg99,
  z36 := Try.sizeOf99,
  v36 := Try.zeroValue99,
  t41 := Try.underlying103,
  a41 := Try.isAgg103,
  z41 := Try.sizeOf103,
  v41 := Try.zeroValue103,
  t44 := Try.underlying106,
  a44 := Try.isAgg106,
  z44 := Try.sizeOf106,
  v44 := Try.zeroValue106,
  t46 := Try.underlying108,
  a46 := Try.isAgg108,
  z46 := Try.sizeOf108,
  v46 := Try.zeroValue108,
  t53 := Try.underlying109,
  a53 := Try.isAgg109,
  z53 := Try.sizeOf109,
  v53 := Try.zeroValue109,
  t57 := Try.underlying113,
  a57 := Try.isAgg113,
  z57 := Try.sizeOf113,
  v57 := Try.zeroValue113,
  t63 := Try.underlying116,
  a63 := Try.isAgg116,
  z63 := Try.sizeOf116,
  v63 := Try.zeroValue116,
  t64 := Try.underlying117,
  a64 := Try.isAgg117,
  z64 := Try.sizeOf117,
  v64 := Try.zeroValue117 }
def Try.lCompact_ren : Go.Shelf.Ren := ⟨fun | 20 => 51 | n => n, fun | 22 => 31 | 3 => 3 | 4 => 4 | 0 => 0 | n => n, fun | n => n⟩
theorem Try.lCompact : Go.Proofs.Lays2.n20 Try.prog Try.lCompact_ren := {
  mixed := by kernel_rfl,
  f20 := Try.func51.trans (congrArg some (by kernel_rfl)),
  t0 := Try.underlying0,
  a0 := Try.isAgg0,
  z0 := Try.sizeOf0,
  v0 := Try.zeroValue0,
  t3 := Try.underlying3,
  a3 := Try.isAgg3,
  z3 := Try.sizeOf3,
  v3 := Try.zeroValue3,
  t4 := Try.underlying4,
  a4 := Try.isAgg4,
  z4 := Try.sizeOf4,
  v4 := Try.zeroValue4,
  t22 := Try.underlying31,
  a22 := Try.isAgg31,
  z22 := Try.sizeOf31,
  v22 := Try.zeroValue31,
  i3 := by kernel_rfl }
end Go.Proofs.Ytibncmnmjhimeaa

/- The library's Sort and Compact over a row of integers of the call's own: in order, each once. -/
namespace Go.Proofs.Ytibncmnmjhimeaa
open Go.RowKit Go.Sort Go.Shelf Go
set_option linter.unusedVariables false
set_option linter.unusedSimpArgs false
theorem compact_sub (d : Array Int) (m : Nat) (x : Int) (h : x ∈ Lib.compactUpTo d m) : ∃ j, j < m ∧ d[j]! = x := by
  unfold Lib.compactUpTo at h
  simp only [List.mem_map, List.mem_filter, List.mem_range] at h
  obtain ⟨j, ⟨h1, _⟩, h2⟩ := h
  exact ⟨j, h1, h2⟩
theorem compact_sup (d : Array Int) (m : Nat) : ∀ j, j < m → d[j]! ∈ Lib.compactUpTo d m := by
  intro j
  induction j using Nat.strongRecOn with
  | ind j ih =>
    intro hj
    unfold Lib.compactUpTo
    simp only [List.mem_map, List.mem_filter, List.mem_range]
    by_cases hk : Lib.keeps d j = true
    · exact ⟨j, ⟨hj, hk⟩, rfl⟩
    · have h0 : j ≠ 0 := by rintro rfl; exact hk (Lib.keeps_lt_one d 0 (by omega))
      have he : d[j]! = d[j - 1]! := by
        unfold Lib.keeps at hk
        simp only [decide_eq_true_eq, ne_eq] at hk
        by_cases e : d[j]! = d[j - 1]!
        · exact e
        · exact absurd (by first | exact .inr e | exact .inr (fun h => e h.symm) | exact .inr (Ne.symm e)) hk
      have := ih (j - 1) (by omega) (by omega)
      unfold Lib.compactUpTo at this
      simp only [List.mem_map, List.mem_filter, List.mem_range] at this
      rw [he]; exact this
theorem compact_mem (l : List Int) (x : Int) : x ∈ Lib.compact l ↔ x ∈ l := by
  unfold Lib.compact
  have e : ∀ j, j < l.length → l.toArray[j]! = l[j]! := fun j hj => by simp
  constructor
  · intro h
    obtain ⟨j, hj, rfl⟩ := compact_sub _ _ _ h
    rw [e j hj, getElem!_pos l j hj]; exact List.getElem_mem hj
  · intro h
    obtain ⟨j, hj, rfl⟩ := List.getElem_of_mem h
    have := compact_sup l.toArray l.length j hj
    rwa [e j hj, getElem!_pos l j hj] at this
theorem compact_le (l : List Int) : (Lib.compact l).length ≤ l.length := by
  unfold Lib.compact Lib.compactUpTo
  rw [List.length_map]
  exact Nat.le_trans (List.length_filter_le _ _) (by simp)
theorem RiseP.of : ∀ {l : List Int}, l.Pairwise (· < ·) → RiseP l
  | [], _ => trivial
  | x :: r, h => by
    rw [List.pairwise_cons] at h
    exact ⟨h.1, RiseP.of h.2⟩
theorem compact_rise (l : List Int) (h : l.Pairwise (· ≤ ·)) : RiseP (Lib.compact l) := by
  refine RiseP.of ?_
  unfold Lib.compact Lib.compactUpTo
  rw [List.pairwise_map]
  have e : ∀ j, j < l.length → l.toArray[j]! = l[j]! := fun j hj => by simp
  have hs : ∀ i j, i ≤ j → (hj : j < l.length) → l[i]! ≤ l[j]! := fun i j hij hj => by
    rcases Nat.lt_or_ge i j with c | c
    · rw [getElem!_pos l i (by omega), getElem!_pos l j hj]
      exact List.pairwise_iff_getElem.1 h i j (by omega) hj c
    · obtain rfl : i = j := by omega
      exact Int.le_refl _
  refine (List.Pairwise.filter _ List.pairwise_lt_range).imp_of_mem (fun {i j} hi hj hij => ?_)
  rw [List.mem_filter, List.mem_range] at hi hj
  rw [e i hi.1, e j hj.1]
  have hk := hj.2
  unfold Lib.keeps at hk
  simp only [decide_eq_true_eq] at hk
  have h1 := hs i (j - 1) (by omega) (by omega)
  have h2 := hs (j - 1) j (by omega) hj.1
  have h3 : l[j - 1]! ≠ l[j]! := by
    rw [e j hj.1, e (j - 1) (by omega)] at hk
    rcases hk with hk | hk
    · omega
    · first | exact hk | exact Ne.symm hk
  omega
section
variable {w : World} {S : Nat → Prop} {ra : Option Addr} {rc n : Nat} {L : List Int}
theorem holds_own {g : Nat} (h : w.ownsRow 0 3 1 (.slice (some ⟨g, 0, none⟩) n rc) n (L.map (Value.int .i64))) : Holds (Value.int .i64) w g 0 L.toArray := by
  rcases h.2 with ⟨e, _⟩ | ⟨g', cap, cur, e, _, hb, hc, hm, hs, hx⟩
  · cases e
  · cases e
    have hl : L.length = n := by have := h.1; simpa using this
    intro j hj
    have hj' : j < L.length := by simpa using hj
    have hx' := congrArg (fun l => l[j]?) hx
    simp only [Nat.mul_one, List.getElem?_map] at hx'
    rw [List.getElem?_take_of_lt (by omega), Array.getElem?_toList, List.getElem?_eq_getElem hj'] at hx'
    refine ⟨?_, ?_⟩
    · simp only [World.cell?, hb, Nat.zero_add]
      simp [hx', hj']
    · simp [World.frozen?, hb]
theorem sort_own (h : Own w S 3 1 ra rc n (L.map (Value.int .i64))) (hz : n ≤ 4294967296) :
    Calls Try.prog 50 #[.slice ra n rc] w (Ret fun v' w' => ∃ L' : List Int, v' = .tuple #[] ∧ ((∀ x, x ∈ L' ↔ x ∈ L) ∧ L'.Pairwise (· ≤ ·)) ∧ Own w' S 3 1 ra rc n (L'.map (Value.int .i64)) ∧ Chg S w w') := by
  have hl : L.length = n := by have := h.1.1; simpa using this
  have h0 := h
  rcases h.1.2 with ⟨e, h0⟩ | ⟨g, cap, cur, e, h1, hb, hc, hm, hs, hx⟩
  · simp only [Value.slice.injEq] at e
    obtain ⟨rfl, rfl, rfl⟩ := e
    refine (AnyM.slices_Sort_int_none Try.lSort none 0 w).mono ?_
    rintro e w' ⟨rfl, rfl⟩
    obtain rfl : L = [] := List.length_eq_zero_iff.1 hl
    exact ⟨_, rfl, [], rfl, ⟨fun _ => Iff.rfl, .nil⟩, h, .refl _ _⟩
  · simp only [Value.slice.injEq, true_and] at e
    obtain ⟨rfl, rfl⟩ := e
    subst hl
    have hg : g < w.heap.size := (Array.getElem?_eq_some_iff.1 hb).1
    refine (AnyM.slices_Sort_int Try.lSort g 0 rc L w (holds_own h.1) hg (by omega)).mono ?_
    rintro e w' ⟨rfl, m, os, rfl⟩
    have hS : S g := h.2 g rfl
    have hL : (L.mergeSort fun x y => decide (x ≤ y)).length = L.length := by simp
    have hP : (L.mergeSort fun x y => decide (x ≤ y)).Pairwise (· ≤ ·) := (List.pairwise_mergeSort (le := fun x y => decide (x ≤ y)) (fun a b c h1 h2 => by simp at *; omega) (fun a b => by simp; omega) L).imp (fun {a b} h => by simpa using h)
    refine ⟨_, rfl, L.mergeSort fun x y => decide (x ≤ y), rfl, ⟨fun x => List.mem_mergeSort, hP⟩, ⟨ownsRow_sortedI hL h1 hb hc hm hs, h.2⟩, ?_⟩
    have hG := grownBy_sortedI (w := w) (g := g) (n := m) (os := os) (L.mergeSort fun x y => decide (x ≤ y)).toArray
    exact ⟨hG.os, hG.tape, hG.output, hG.size, fun k hk hn => hG.block k hk (fun e => hn (Option.some.inj e ▸ hS))⟩
theorem compact_own (h : Own w S 3 1 ra rc n (L.map (Value.int .i64))) (hz : n ≤ 4294967296) (hp : L.Pairwise (· ≤ ·)) :
    Calls Try.prog 51 #[.slice ra n rc] w (Ret fun v' w' => ∃ (l : List Int) (a : Option Addr) (c : Nat), v' = .slice a l.length c ∧ l.length ≤ c ∧ c ≤ maxLen ∧ InRow eltI S w' l a ∧ ((∀ x, x ∈ l ↔ x ∈ L) ∧ RiseP l) ∧ Chg S w w') := by
  have hl : L.length = n := by have := h.1.1; simpa using this
  rcases h.1.2 with ⟨e, h0⟩ | ⟨g, cap, cur, e, h1, hb, hc, hm, hs, hx⟩
  · simp only [Value.slice.injEq] at e
    obtain ⟨rfl, rfl, rfl⟩ := e
    refine (Any.slices_Compact_int_empty Try.lCompact none 0 w).mono ?_
    rintro e w' ⟨rfl, rfl⟩
    obtain rfl : L = [] := List.length_eq_zero_iff.1 hl
    exact ⟨_, rfl, [], none, 0, rfl, Nat.le_refl _, Nat.zero_le _, fun k hk => by simp at hk, ⟨fun _ => Iff.rfl, trivial⟩, .refl _ _⟩
  · simp only [Value.slice.injEq, true_and] at e
    obtain ⟨rfl, rfl⟩ := e
    subst hl
    refine (Any.slices_Compact_int Try.lCompact g 0 rc L w (holds_own h.1) (by omega) hc).mono ?_
    rintro e w' ⟨rfl, m, rfl⟩
    have hle := compact_le L
    have hS : S g := h.2 g rfl
    have hlen : (Lib.compact L ++ List.replicate (L.length - (Lib.compact L).length) (0 : Int)).length = L.length := by simp; omega
    have hG := grownBy_sortedI (w := w) (g := g) (n := m) (os := #[]) (Lib.compact L ++ List.replicate (L.length - (Lib.compact L).length) 0).toArray
    have hO := ownsRow_sortedI (w := w) (n := m) (os := #[]) hlen h1 hb hc hm hs
    rw [grow_empty] at hG hO
    have hH := holds_own hO
    refine ⟨_, rfl, Lib.compact L, _, rc, rfl, by omega, hm, fun k hk => ⟨g, 0, [.int .i64 (Lib.compact L)[k]], rfl, hS, rfl, fun j hj => ?_⟩, ⟨fun x => compact_mem L x, compact_rise L hp⟩, ⟨hG.os, hG.tape, hG.output, hG.size, fun k hk hn => hG.block k hk (fun e => hn (Option.some.inj e ▸ hS))⟩⟩
    have hj0 : j = 0 := by have z : j < 1 := hj; omega
    subst hj0
    have := (hH k (by simp; omega)).1
    simp only [Nat.zero_add, Nat.mul_one, Nat.add_zero, List.getElem?_cons_zero, show eltI.k = 1 from rfl] at this ⊢
    rw [this]
    simp [hk, List.getElem?_append_left hk]
end
end Go.Proofs.Ytibncmnmjhimeaa

/- What an index tells, walked over: what is told of the buckets gone by. -/
namespace Go.Proofs.Ytibncmnmjhimeaa
open Go.RowKit Go
set_option linter.unusedVariables false
set_option linter.unusedSimpArgs false
theorem fitP_at {way : Nat} {p q : List Int} {i : Nat} (hp : i < p.length) (hq : i < q.length) : fitP way (p.drop i) (q.drop i) = (ltW way (p.getD i 0) (q.getD i 0) && fitP way (p.drop (i + 1)) (q.drop (i + 1))) := by
  rw [List.drop_eq_getElem_cons hp, List.drop_eq_getElem_cons hq, fitP, List.getD_eq_getElem?_getD, List.getD_eq_getElem?_getD, List.getElem?_eq_getElem hp, List.getElem?_eq_getElem hq]
  rfl
theorem cell8 {w : World} {g t : Nat} {l : List Int} (h : Blk w g t ((l.map (Value.int .i64)).toArray)) {i : Nat} (hi : i < l.length) : w.cell? ⟨g, 0 + i, none⟩ = some (.int .i64 (l.getD i 0)) := by
  refine (h.cell (0 + i)).trans ?_
  rw [Nat.zero_add, List.getD_eq_getElem?_getD, List.getElem?_eq_getElem hi]
  simp [hi]
/-- What is told of buckets. -/
def askOf (B : List TI) (way : Nat) (q : List Int) (done : List (List Int × Value)) : List Int := done.flatMap (fun z => if fitP way z.1 q = true then (bag B z.1).map (·.2) else [])
theorem askOf_yes {B : List TI} {way : Nat} {q : List Int} {done : List (List Int × Value)} {z : List Int × Value} (h : fitP way z.1 q = true) : askOf B way q (done ++ [z]) = askOf B way q done ++ (bag B z.1).map (·.2) := by
  unfold askOf; rw [List.flatMap_append, List.flatMap_singleton, if_pos h]
theorem askOf_no {B : List TI} {way : Nat} {q : List Int} {done : List (List Int × Value)} {z : List Int × Value} (h : fitP way z.1 q = false) : askOf B way q (done ++ [z]) = askOf B way q done := by
  unfold askOf; rw [List.flatMap_append, List.flatMap_singleton, if_neg (by rw [h]; decide), List.append_nil]
def bagSum (B : List TI) (ks : List (List Int)) : Nat := (ks.map (fun k => (bag B k).length)).sum
theorem ind_zero (x : List Int) : ∀ {ks : List (List Int)}, x ∉ ks → (ks.map (fun k => if x = k then 1 else 0)).sum = 0
  | [], _ => rfl
  | k :: ks, h => by
    rw [List.map_cons, List.sum_cons, if_neg (fun e => h (by rw [e]; exact List.mem_cons_self)), ind_zero x (fun q => h (List.mem_cons_of_mem _ q))]
theorem ind_nodup (x : List Int) : ∀ {ks : List (List Int)}, ks.Nodup → (ks.map (fun k => if x = k then 1 else 0)).sum ≤ 1
  | [], _ => Nat.zero_le _
  | k :: ks, h => by
    rw [List.nodup_cons] at h
    rw [List.map_cons, List.sum_cons]
    by_cases e : x = k
    · subst e
      rw [ind_zero x h.1, if_pos rfl]; exact Nat.le_refl _
    · rw [if_neg e]; have := ind_nodup x h.2; omega
theorem sum_add2 {α : Type} (f g : α → Nat) : ∀ l : List α, (l.map (fun x => f x + g x)).sum = (l.map f).sum + (l.map g).sum
  | [] => rfl
  | x :: l => by simp only [List.map_cons, List.sum_cons, sum_add2 f g l]; omega
theorem bagSum_le : ∀ (B : List TI) {ks : List (List Int)}, ks.Nodup → bagSum B ks ≤ B.length
  | [], ks, _ => by
    unfold bagSum
    have : ∀ l : List (List Int), (l.map (fun k => (bag [] k).length)).sum = 0 := by
      intro l
      induction l with
      | nil => rfl
      | cons k l ih => rw [List.map_cons, List.sum_cons, ih]; rfl
    rw [this]; exact Nat.zero_le _
  | r :: B, ks, h => by
    have e : ∀ k : List Int, (bag (r :: B) k).length = (if prt r.1 = k then 1 else 0) + (bag B k).length := fun k => by
      unfold bag
      rw [List.filter_cons]
      by_cases q : prt r.1 = k
      · rw [if_pos (by simpa using q), if_pos q]; simp; omega
      · rw [if_neg (by simpa using q), if_neg q]; simp
    unfold bagSum
    simp only [e]
    rw [sum_add2]
    have h1 := bagSum_le B h
    have h2 := ind_nodup (prt r.1) h
    unfold bagSum at h1
    rw [List.length_cons]; omega
theorem askOf_len {B : List TI} {way : Nat} {q : List Int} : ∀ {done : List (List Int × Value)}, (askOf B way q done).length ≤ bagSum B (done.map (·.1))
  | [] => Nat.zero_le _
  | z :: done => by
    have h := askOf_len (B := B) (way := way) (q := q) (done := done)
    unfold askOf bagSum at *
    rw [List.flatMap_cons, List.length_append, List.map_cons, List.map_cons, List.sum_cons]
    have : (if fitP way z.1 q = true then (bag B z.1).map (·.2) else []).length ≤ (bag B z.1).length := by split <;> simp
    omega
theorem bagSum_append {B : List TI} {a b : List (List Int)} : bagSum B (a ++ b) = bagSum B a + bagSum B b := by
  unfold bagSum; rw [List.map_append, List.sum_append]
section
variable {B : List TI} {way : Nat} {q : List Int} {KL : List Bk} {es : Array MapEntry} {seen : Array Nat} {done rest rest2 : List (List Int × Value)} {y : List Int × Value}
theorem keys_bkV (KL : List Bk) : (KL.map bkV).map (·.1) = KL.map (·.key) := by rw [List.map_map]; rfl
theorem ItG.room (h : ItG encP es (KL.map bkV) seen done rest) (hn : (KL.map (·.key)).Nodup) (hp : rest.Perm (y :: rest2)) : (askOf B way q done).length + (bag B y.1).length ≤ B.length := by
  have h1 : (done ++ (y :: rest2)).Perm (KL.map bkV) := (List.Perm.append_left done hp.symm).trans h.perm
  have h2 := h1.map (·.1)
  rw [keys_bkV] at h2
  have h3 := bagSum_le B (h2.nodup_iff.2 hn)
  rw [List.map_append, List.map_cons, bagSum_append] at h3
  have h4 := askOf_len (B := B) (way := way) (q := q) (done := done)
  unfold bagSum at h3 h4
  rw [List.map_cons, List.sum_cons] at h3
  omega
theorem ItG.total (h : ItG encP es (KL.map bkV) seen done rest) (hn : (KL.map (·.key)).Nodup) : (askOf B way q done).length ≤ B.length := by
  have h2 := h.perm.map (·.1)
  rw [keys_bkV] at h2
  have h3 := bagSum_le B (h2.nodup_iff.2 hn)
  rw [List.map_append, bagSum_append] at h3
  have h4 := askOf_len (B := B) (way := way) (q := q) (done := done)
  omega
theorem ItG.memL (h : ItG encP es (KL.map bkV) seen done rest) (hp : rest.Perm (y :: rest2)) : ∃ b ∈ KL, bkV b = y := by
  have h1 : (done ++ (y :: rest2)).Perm (KL.map bkV) := (List.Perm.append_left done hp.symm).trans h.perm
  exact List.mem_map.1 (h1.mem_iff.1 (by simp))
theorem askOf_done {w : World} {g m clock : Nat} {S : Nat → Prop} {l : List Int} (hO : FpO w g m es clock KL S B) (h : ItG encP es (KL.map bkV) seen done []) (hl : RiseP l) (hm : ∀ x, x ∈ l ↔ x ∈ askOf B way q done) : l = askP B way q := by
  refine rise_of hl (fun x => (hm x).trans ?_)
  have hp := h.perm
  rw [List.append_nil] at hp
  unfold askOf
  rw [List.mem_flatMap, List.mem_map]
  constructor
  · rintro ⟨z, hz, hx⟩
    split at hx
    · rename_i hf
      obtain ⟨r, hr, rfl⟩ := List.mem_map.1 hx
      unfold bag at hr
      rw [List.mem_filter] at hr
      have e : prt r.1 = z.1 := by simpa using hr.2
      exact ⟨r, List.mem_filter.2 ⟨hr.1, by rw [e]; exact hf⟩, rfl⟩
    · cases hx
  · rintro ⟨r, hr, rfl⟩
    rw [List.mem_filter] at hr
    obtain ⟨b, hb, e⟩ := hO.all r hr.1
    refine ⟨bkV b, hp.mem_iff.2 (List.mem_map_of_mem hb), ?_⟩
    have e : (bkV b).1 = prt r.1 := e
    rw [e, if_pos hr.2]
    exact List.mem_map_of_mem (List.mem_filter.2 ⟨hr.1, by simp⟩)
end
/-- The rows of a bucket, opened. -/
theorem InRow.openR {S : Nat → Prop} {w : World} {l : List TI} {a : Option Addr} (h : InRow eltR S w l a) : ∃ (b o : Nat) (F : Nat → Int) (N : Nat → Nat) (A : Nat → Option Addr) (C : Nat → Nat), (∀ k, k < l.length → a = some ⟨b, o, none⟩) ∧ ∀ k, k < l.length →
    w.cell? ⟨b, o + k * 3, none⟩ = some (.int .i64 (F k)) ∧ w.cell? ⟨b, o + k * 3 + 1, none⟩ = some (.slice (A k) (N k) (C k)) ∧ w.cell? ⟨b, o + k * 3 + 2, none⟩ = some (.int .i64 ((l.map (·.2)).getD k 0)) := by
  rcases Nat.eq_zero_or_pos l.length with h0 | h0
  · exact ⟨0, 0, fun _ => 0, fun _ => 0, fun _ => none, fun _ => 0, fun k hk => by omega, fun k hk => by omega⟩
  · obtain ⟨b, o, cs0, e0, _, _, _⟩ := h 0 h0
    have key : ∀ k : Nat, ∃ z : Int × Nat × Option Addr × Nat, k < l.length → w.cell? ⟨b, o + k * 3, none⟩ = some (.int .i64 z.1) ∧ w.cell? ⟨b, o + k * 3 + 1, none⟩ = some (.slice z.2.2.1 z.2.1 z.2.2.2) ∧ w.cell? ⟨b, o + k * 3 + 2, none⟩ = some (.int .i64 ((l.map (·.2)).getD k 0)) := fun k => by
      by_cases hk : k < l.length
      · obtain ⟨b2, o2, cs, e1, _, ⟨u, v, e2, hT⟩, h4⟩ := h k hk
        rw [e0] at e1
        simp only [Option.some.injEq, Addr.mk.injEq, and_true] at e1
        obtain ⟨rfl, rfl⟩ := e1
        obtain ⟨_, a1, c1, e3, _⟩ := hT.form
        simp only [Value.agg.injEq, Array.mk.injEq, List.cons.injEq, and_true] at e3
        obtain ⟨rfl, rfl⟩ := e3
        subst e2
        refine ⟨⟨l[k].1.f, l[k].1.args.length, a1, c1⟩, fun _ => ?_⟩
        have c0 := h4 0 (by decide)
        have c1 := h4 1 (by decide)
        have c2 := h4 2 (by decide)
        rw [show eltR.k = 3 from rfl] at c0 c1 c2
        refine ⟨c0, c1, ?_⟩
        rw [List.getD_eq_getElem?_getD, List.getElem?_map, List.getElem?_eq_getElem hk]
        exact c2
      · exact ⟨⟨0, 0, none, 0⟩, fun q => absurd q hk⟩
    refine ⟨b, o, fun k => (Classical.choose (key k)).1, fun k => (Classical.choose (key k)).2.1, fun k => (Classical.choose (key k)).2.2.1, fun k => (Classical.choose (key k)).2.2.2, fun k hk => ?_, fun k hk => Classical.choose_spec (key k) hk⟩
    exact e0
theorem elts_int {S : Nat → Prop} {w : World} : ∀ {l : List Int} {xs : List Value}, Elts eltI S w l xs → xs = l.map (Value.int .i64)
  | [], xs, h => h
  | x :: l, xs, ⟨cs, r, e, h3, h4⟩ => by
    have h3 : cs = [.int .i64 x] := h3
    rw [e, h3, elts_int h4]; rfl
theorem RowE.own {w : World} {B e c n : Nat} {a : Option Addr} {l : List Int} (h : RowE eltI w B e a c n l) : Own w (fun b => B ≤ b) e 1 a c n (l.map (Value.int .i64)) := by
  obtain ⟨⟨xs, h1, h2⟩, h3⟩ := h
  rw [← elts_int h2]
  exact Own.of h1
structure FX where
  done : List (List Int × Value)
  rest : List (List Int × Value)
  seen : Array Nat
  ra : Option Addr
  rc : Nat
  n : Nat
structure FU where
  k : Nat
  ra : Option Addr
  rc : Nat
  n : Nat
end Go.Proofs.Ytibncmnmjhimeaa

/- Maps from keys of a kind: an entry is taken ('m[k] op= ..'), and told anew by its stamp. -/
namespace Go.Proofs.Ytibncmnmjhimeaa
open Go.RowKit Go
set_option linter.unusedVariables false
set_option linter.unusedSimpArgs false
section
variable {κ : Type} [DecidableEq κ] {enc : κ → Value} {ok : κ → Prop}
/-- An entry's stamp. -/
def gmStamp (es : Array MapEntry) (clock : Nat) (l : List (κ × Value)) (n : κ) : Nat := match gmFind l n 0 with | some (i, _) => ((es[i]?).map (·.born)).getD 0 | none => clock
def StampG (es : Array MapEntry) (st : Nat) (l : List (κ × Value)) (n : κ) : Prop := ∃ i u, es.findIdx? (fun e => (e.born : Int) == (st : Int)) = some i ∧ gmFind l n 0 = some (i, u)
theorem modify_id {α : Type} {f : α → α} {a : Array α} {i : Nat} (h : ∀ hi : i < a.size, f a[i] = a[i]) : a.modify i f = a := by
  apply Array.ext
  · simp
  · intro q q1 q2
    rw [Array.getElem_modify]
    split
    · rename_i c; subst c; exact h q2
    · rfl
theorem set_same {l : List (κ × Value)} {i : Nat} {n : κ} {u : Value} (h : gmFind l n 0 = some (i, u)) : l.set i (n, u) = l := by
  obtain ⟨_, hat⟩ := gmFind_at h
  rw [Nat.sub_zero] at hat
  obtain ⟨hi, e⟩ := List.getElem?_eq_some_iff.1 hat
  apply List.ext_getElem
  · simp
  · intro q q1 q2
    rw [List.getElem_set]
    split
    · rename_i c; subst c; exact e.symm
    · rfl
theorem gmFind_shift : ∀ (l : List (κ × Value)) (k : κ) (i : Nat), gmFind l k (i + 1) = (gmFind l k i).map (fun x => (x.1 + 1, x.2))
  | [], k, i => rfl
  | x :: l, k, i => by
    rw [gmFind, gmFind]
    split
    · rfl
    · exact gmFind_shift l k (i + 1)
theorem gmFind_snoc {l : List (κ × Value)} {n : κ} {v : Value} (h : gmFind l n 0 = none) : gmFind (l ++ [(n, v)]) n 0 = some (l.length, v) := by
  induction l with
  | nil => simp [gmFind]
  | cons x r ih =>
    have hx : n ≠ x.1 := fun e => gmFind_none.1 h x (by simp) e.symm
    have hr : gmFind r n 0 = none := gmFind_none.2 (fun y hy => gmFind_none.1 h y (List.mem_cons_of_mem _ hy))
    rw [List.cons_append, gmFind, if_neg hx, gmFind_shift, ih hr]; simp
theorem gmFind_set {l : List (κ × Value)} {n : κ} {i : Nat} {u v : Value} (h : gmFind l n 0 = some (i, u)) : gmFind (l.set i (n, v)) n 0 = some (i, v) := by
  induction l generalizing i with
  | nil => simp [gmFind] at h
  | cons x r ih =>
    rw [gmFind] at h
    by_cases hx : n = x.1
    · rw [if_pos hx] at h
      simp only [Option.some.injEq, Prod.mk.injEq] at h
      obtain ⟨rfl, rfl⟩ := h
      rw [List.set_cons_zero, gmFind, if_pos rfl]
    · rw [if_neg hx, gmFind_shift] at h
      obtain ⟨⟨j, w⟩, hj, e⟩ := Option.map_eq_some_iff.1 h
      simp only [Prod.mk.injEq] at e
      obtain ⟨rfl, rfl⟩ := e
      rw [List.set_cons_succ, gmFind, if_neg hx, gmFind_shift, ih hj]; rfl
theorem gmPut_none {l : List (κ × Value)} {n : κ} {v : Value} (h : gmFind l n 0 = none) : gmPut l n v = l ++ [(n, v)] := by unfold gmPut; rw [h]
theorem gmPut_some {l : List (κ × Value)} {n : κ} {i : Nat} {u v : Value} (h : gmFind l n 0 = some (i, u)) : gmPut l n v = l.set i (n, v) := by unfold gmPut; rw [h]
theorem gmPut_put {l : List (κ × Value)} {n : κ} {u v : Value} : gmPut (gmPut l n u) n v = gmPut l n v := by
  cases h : gmFind l n 0 with
  | none => rw [gmPut_none h, gmPut_none h, gmPut_some (gmFind_snoc h)]; simp [List.set_append_right]
  | some p => obtain ⟨i, z⟩ := p; rw [gmPut_some h, gmPut_some h, gmPut_some (gmFind_set h)]; simp
theorem findIdx_born {es : Array MapEntry} (hn : (es.toList.map (·.born)).Nodup) {i : Nat} (hi : i < es.size) : es.findIdx? (fun e => (e.born : Int) == ((es[i].born : Nat) : Int)) = some i := by
  rw [Array.findIdx?_eq_some_iff_getElem]
  refine ⟨hi, by simp, fun j hj => ?_⟩
  have hne : es[j].born ≠ es[i].born := fun e => by
    have e1 : (es.toList.map (·.born))[j]? = (es.toList.map (·.born))[i]? := by
      rw [List.getElem?_map, List.getElem?_map, Array.getElem?_toList, Array.getElem?_toList, Array.getElem?_eq_getElem hi, Array.getElem?_eq_getElem (by omega)]
      simp [e]
    have := (List.getElem?_inj (by simp; omega) hn).1 e1
    omega
  simp; omega
variable {P : Program} {w : World} {t k e : TypeId} {r : Nat} {es : Array MapEntry} {clock : Nat} {l : List (κ × Value)} {a : Act} {K : Act → World → Prop} {Q : Exit → Act → World → Prop} {o : Oper}
/-- 'm[k] op= ..': the entry is taken. -/
theorem wp_entryAt_gm (hk : KeyK P k enc ok) {x y : Operand} {z : Value} {n : κ} (hn : ok n) (ht : P.underlying t = some (.map k e)) (hz : (zeroValue e).run P w = .ok z w) (hM : ObjAt w r (.map es clock)) (h : GmE enc ok es clock l)
    (ho : o.op = .mapEntry t x y) (hx : a.eval x = .map (some r)) (hy : a.eval y = enc n)
    (hK : ∀ w' es' clock', ObjAt w' r (.map es' clock') → GmE enc ok es' clock' (gmPut l n ((gmLook l n).getD z)) → StampG es' (gmStamp es clock l n) (gmPut l n ((gmLook l n).getD z)) n → Upd r w w' → K (a.put o.dst (.tuple #[(gmLook l n).getD z, .int .i64 ((gmStamp es clock l n : Nat) : Int)])) w') : o.wp P a w K Q := by
  have hs := h.size
  unfold Oper.wp execOp
  simp only [ho, hx, hy, Instr.mapEntry, Sem.run_bind, Sem.run_pure, run_underlying ht, Result.andThen_ok, run_getObj_im hM, hk.check _ _ _ hn, run_findKey_gm hk h hn]
  cases hf : gmFind l n 0 with
  | none =>
    have hl : (gmLook l n).getD z = z := by unfold gmLook; rw [hf]; rfl
    have hst : gmStamp es clock l n = clock := by unfold gmStamp; rw [hf]
    have hp : gmPut l n z = l ++ [(n, z)] := by unfold gmPut; rw [hf]
    rw [hl, hst, hp] at hK
    have hE := h.push hn z
    have hidx := findIdx_born hE.nd (i := es.size) (by simp)
    simp only [Array.getElem_push_eq] at hidx
    simp only [hz, Result.andThen_ok, run_setObj_im hM, Sem.run_bind, Sem.run_pure]
    exact hK _ _ _ (upd_setObj hM _).2 hE ⟨es.size, z, hidx, by rw [hs]; exact gmFind_snoc hf⟩ (upd_setObj hM _).1
  | some p =>
    obtain ⟨i, u⟩ := p
    obtain ⟨_, hat⟩ := gmFind_at hf
    rw [Nat.sub_zero] at hat
    obtain ⟨hil, _⟩ := List.getElem?_eq_some_iff.1 hat
    have hie : i < es.size := by omega
    have e1 := congrArg (fun q => q[i]?) h.kv
    simp only [List.getElem?_map, hat, Option.map_some, Array.getElem?_toList, Array.getElem?_eq_getElem hie, Option.some.injEq, Prod.mk.injEq] at e1
    have hl : (gmLook l n).getD z = u := by unfold gmLook; rw [hf]; rfl
    have hst0 : gmStamp es clock l n = es[i].born := by unfold gmStamp; rw [hf]; simp [hie]
    have hp : gmPut l n u = l := by unfold gmPut; rw [hf]; exact set_same hf
    rw [hl, hst0, hp] at hK
    have hkey : (es[i]?.map (·.key)).getD (enc n) = enc n := by simp [hie, e1.1]
    have hst : (Instr.keyThatStays ((es[i]?.map (·.key)).getD (enc n)) (enc n)).run P w = .ok (enc n) w := by
      rw [hkey]; unfold Instr.keyThatStays; rw [hk.bits _ hn]; simp
    have hmod : (es.modify i fun e => { e with key := enc n }) = es := modify_id (fun hi => by
      have : es[i].key = enc n := e1.1
      cases hq : es[i]
      rw [hq] at this
      simp only at this ⊢
      rw [this])
    have hb : (Option.map (fun x : MapEntry => ((x.born : Nat) : Int)) es[i]?).getD 0 = ((es[i].born : Nat) : Int) := by simp [hie]
    simp only [Sem.run_bind, hst, Result.andThen_ok, run_setObj_im hM, hmod, Sem.run_pure, hb, goInt]
    exact hK _ _ _ (upd_setObj hM _).2 h ⟨i, u, findIdx_born h.nd hie, hf⟩ (upd_setObj hM _).1
/-- .. and told anew. -/
theorem wp_entryStore_gm {x y q : Operand} {n : κ} {st : Nat} {v : Value} (hn : ok n) (hM : ObjAt w r (.map es clock)) (h : GmE enc ok es clock l) (hst : StampG es st l n)
    (ho : o.op = .entryStore t x y q) (hx : a.eval x = .map (some r)) (hy : a.eval y = .int .i64 ((st : Nat) : Int)) (hq : a.eval q = v)
    (hK : ∀ w' es' clock', ObjAt w' r (.map es' clock') → GmE enc ok es' clock' (gmPut l n v) → Upd r w w' → K (a.put o.dst undef) w') : o.wp P a w K Q := by
  obtain ⟨i, u, h1, h2⟩ := hst
  have hs := h.size
  obtain ⟨_, hat⟩ := gmFind_at h2
  rw [Nat.sub_zero] at hat
  obtain ⟨hil, _⟩ := List.getElem?_eq_some_iff.1 hat
  have hie : i < es.size := by omega
  have e1 := congrArg (fun q => q[i]?) h.kv
  simp only [List.getElem?_map, hat, Option.map_some, Array.getElem?_toList, Array.getElem?_eq_getElem hie, Option.some.injEq, Prod.mk.injEq] at e1
  have hp : gmPut l n v = l.set i (n, v) := by unfold gmPut; rw [h2]
  have hmod : (es.modify i fun e => { e with val := v }) = es.modify i fun e => { e with key := enc n, val := v } := by
    apply Array.ext
    · simp
    · intro j j1 j2
      rw [Array.getElem_modify, Array.getElem_modify]
      split
      · rename_i c; subst c; rw [e1.1]
      · rfl
  rw [hp] at hK
  unfold Oper.wp execOp
  simp only [ho, hx, hy, hq, Instr.entryStore, asInt, asIntOf, Sem.run_bind, Sem.run_pure, Result.andThen_ok, run_getObj_im hM, h1, run_setObj_im hM, hmod]
  exact hK _ _ _ (upd_setObj hM _).2 (h.over hn (by rw [hat]; rfl)) (upd_setObj hM _).1
end
end Go.Proofs.Ytibncmnmjhimeaa

namespace Go.Proofs.Ytibncmnmjhimeaa
open Go.RowKit Go
set_option linter.unusedVariables false
set_option linter.unusedSimpArgs false
/-- The map, with an entry told anew. -/
def FpMap (w : World) (m : Nat) (KV : List (List Int × Value)) (st : Option (Nat × List Int)) : Prop := ∃ es clock, ObjAt w m (.map es clock) ∧ GmE encP okP es clock KV ∧ ∀ s k, st = some (s, k) → StampG es s KV k
theorem FpMap.below {w w' : World} {m : Nat} {KV : List (List Int × Value)} {st : Option (Nat × List Int)} (h : FpMap w m KV st) (hb : Below w.heap.size w w') : FpMap w' m KV st := by
  obtain ⟨es, clock, h1, h2⟩ := h
  exact ⟨es, clock, h1.below hb, h2⟩
theorem FpMap.chg {w w' : World} {m : Nat} {KV : List (List Int × Value)} {st : Option (Nat × List Int)} {Z : Nat → Prop} (h : FpMap w m KV st) (hc : Chg Z w w') (hZ : ¬ Z m) : FpMap w' m KV st := by
  obtain ⟨es, clock, h1, h2⟩ := h
  exact ⟨es, clock, h1.chg hc hZ, h2⟩
/-- The bucket's new row. -/
def FpRow (u : World) (W : Nat) (S : Nat → Prop) (a : Option Addr) (n c : Nat) (L : List TI) (ra : Option Addr) (rc : Nat) : Prop :=
  RowD eltR (fun b => S b ∨ (W ≤ b ∧ obk ra (n + 1) rc ≠ some b)) u 54 ra rc (n + 1) L ∧ ∀ b, obk ra (n + 1) rc = some b → obk a n c = some b ∨ W ≤ b
theorem FpRow.chg {u u' : World} {W n c : Nat} {S Z : Nat → Prop} {a ra : Option Addr} {rc : Nat} {L : List TI} (h : FpRow u W S a n c L ra rc) (hc : Chg Z u u') (h1 : ∀ b, S b → ¬ Z b) (h2 : ∀ b, W ≤ b → ¬ Z b) (h3 : ∀ b, obk a n c = some b → ¬ Z b) : FpRow u' W S a n c L ra rc :=
  ⟨h.1.chg hc (fun b q => (h.2 b q).elim (h3 b) (h2 b)) (fun b q => q.elim (h1 b) (fun z => h2 b z.1)), h.2⟩
theorem FpRow.below {u u' : World} {W n c : Nat} {S : Nat → Prop} {a ra : Option Addr} {rc : Nat} {L : List TI} (h : FpRow u W S a n c L ra rc) (hb : Below u.heap.size u u') : FpRow u' W S a n c L ra rc := h.chg (Z := fun _ => False) (.ofBelow hb) (fun _ _ => id) (fun _ _ => id) (fun _ _ => id)
/-- The steps of 'x.at[p] = append(x.at[p], row{copied(t), id})'. -/
def AddG (w0 : World) (m : Nat) (S : Nat → Prop) (KV : List (List Int × Value)) (t : T) (id : Int) (k : List Int) (a : Option Addr) (c : Nat) (L : List TI) (st : Nat) : List Value → World → Prop
  | [], w => Below w0.heap.size w0 w
  | [v0], w => Below w0.heap.size w0 w ∧ InT (fun b => w0.heap.size ≤ b) w t v0
  | [_, v1], w => Below w0.heap.size w0 w ∧ ∃ u1 u2, v1 = .agg #[u1, u2, .int .i64 id] ∧ InT (fun b => w0.heap.size ≤ b) w t (.agg #[u1, u2])
  | [_, _, v2], w => Below w0.heap.size w0 w ∧ OneRow eltR w0 54 (t, id) v2 w
  | [_, _, v2, _], w => FpMap w m (gmPut KV k (.slice a L.length c)) (some (st, k)) ∧ RowD eltR S w 54 a c L.length L ∧ OneRow eltR w0 54 (t, id) v2 w ∧ w0.heap.size ≤ w.heap.size
  | [_, _, _, _, v4], w => FpMap w m (gmPut KV k (.slice a L.length c)) (some (st, k)) ∧ ∃ ra rc, v4 = .slice ra (L.length + 1) rc ∧ FpRow w w0.heap.size S a L.length c (L ++ [(t, id)]) ra rc
  | [_, _, _, _, _, _], w => ∃ ra rc, FpMap w m (gmPut KV k (.slice ra (L.length + 1) rc)) none ∧ FpRow w w0.heap.size S a L.length c (L ++ [(t, id)]) ra rc
  | _, _ => False
theorem AddG.below {w0 : World} {m : Nat} {S : Nat → Prop} {KV : List (List Int × Value)} {t : T} {id : Int} {k : List Int} {a : Option Addr} {c : Nat} {L : List TI} {st : Nat} : ∀ (vals : List Value) (w w' : World), Below w.heap.size w w' → AddG w0 m S KV t id k a c L st vals w → AddG w0 m S KV t id k a c L st vals w'
  | [], w, w', hb, h => bstep h hb
  | [_], w, w', hb, h => ⟨bstep h.1 hb, InT.below hb h.2⟩
  | [_, _], w, w', hb, ⟨h1, u1, u2, e, h2⟩ => ⟨bstep h1 hb, u1, u2, e, InT.below hb h2⟩
  | [_, _, _], w, w', hb, h => ⟨bstep h.1 hb, h.2.chg (S := fun _ => False) (.ofBelow hb) (fun _ q => q.elim)⟩
  | [_, _, _, _], w, w', hb, h => ⟨h.1.below hb, h.2.1.below hb, h.2.2.1.chg (S := fun _ => False) (.ofBelow hb) (fun _ q => q.elim), Nat.le_trans h.2.2.2 hb.size⟩
  | [_, _, _, _, _], w, w', hb, ⟨h1, ra, rc, e, h2⟩ => ⟨h1.below hb, ra, rc, e, h2.below hb⟩
  | [_, _, _, _, _, _], w, w', hb, ⟨ra, rc, h1, h2⟩ => ⟨ra, rc, h1.below hb, h2.below hb⟩
  | _ :: _ :: _ :: _ :: _ :: _ :: _ :: _, _, _, _, h => h.elim
theorem AddG.early {w0 : World} {m : Nat} {S : Nat → Prop} {KV : List (List Int × Value)} {t : T} {id : Int} {k : List Int} {a : Option Addr} {c : Nat} {L : List TI} {st : Nat} {w : World} : ∀ {vals : List Value}, vals.length ≤ 3 → AddG w0 m S KV t id k a c L st vals w → Below w0.heap.size w0 w
  | [], _, h => h
  | [_], _, h => h.1
  | [_, _], _, h => h.1
  | [_, _, _], _, h => h.1
  | _ :: _ :: _ :: _ :: _, h, _ => by simp at h
end Go.Proofs.Ytibncmnmjhimeaa
