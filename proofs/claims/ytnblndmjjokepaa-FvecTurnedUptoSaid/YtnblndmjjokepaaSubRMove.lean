/- Variables moved: the document. -/
import Derived.Test.YtnblndmjjokepaaTurnP
import Derived.Test.YtnblndmjjokepaaTail3
namespace Go.Proofs.Ytnblndmjjokepaa
open Go.RowKit Go
set_option linter.unusedVariables false
set_option linter.unusedSimpArgs false

theorem len_le_sizeL (l : List T) : l.length ≤ T.sizeL l := len_le_sizeL2 l
theorem size_at {l : List T} {k N : Nat} {f : Int} (h : k < l.length) (hz : (T.mk f l).size ≤ N) : (tget l k).size ≤ N := by
  have h1 := T.size_le_sizeL (tget_mem h)
  simp only [T.size] at hz
  omega
set_option maxRecDepth 100000 in
theorem to_any (v m : Int) (w : World) (h0 : 0 ≤ v) (h1 : v ≤ 9223372036854775807) (hm : I64 m) : Calls Try.prog 33 #[.int .i64 v, .int .i64 m] w (Ret fun v' w' => (∃ n, v' = .tuple #[.int .i64 n, .bool (mvOk v m)] ∧ (mvOk v m = true → n = v + m)) ∧ Below w.heap.size w w') := by
  unfold I64 at hm
  refine Calls.walk (l := [.int .i64 v, .int .i64 m]) Try.func33 rfl (by kernel_rfl) ?_
  refine WC.sub (K' := [(0, .int .i64 v), (1, .int .i64 m)]) ⟨rfl, rfl, trivial⟩ ?_
  refine WC.seq ?_
  refine WC.region ?_
  refine WL.val (.int .i64 0) rfl rfl rfl (fun za zC zh zk => wp_assign rfl (zh.ev rfl) zk) ?_
  refine WL.val (.bool false) rfl rfl rfl (fun za zC zh zk => wp_assign rfl (zh.ev rfl) zk) ?_
  refine WL.nil (WE.sub (K' := [(0, .int .i64 v), (1, .int .i64 m), (4, .int .i64 0), (5, .bool false)]) ⟨rfl, rfl, rfl, rfl, trivial⟩ ?_)
  refine WE.next ?_
  refine WC.seq ?_
  refine WC.seq ?_
  refine WC.region ?_
  refine WL.val (.int .i64 m) rfl rfl rfl (fun za zC zh zk => wp_move rfl (zh.ev rfl) zk) ?_
  refine WL.val (.bool ((decide ((0 : Int) ≤ (m : Int))))) rfl rfl rfl (fun za zC zh zk => geq_3 rfl (zh.ev rfl) (zh.ev rfl) zk) ?_
  refine WL.nil (WE.sub (K' := [(0, .int .i64 v), (1, .int .i64 m), (4, .int .i64 0), (5, .bool false), (8, .bool ((decide ((0 : Int) ≤ (m : Int)))))]) ⟨rfl, rfl, rfl, rfl, rfl, trivial⟩ ?_)
  refine WE.next ?_
  refine WC.cond rfl (fun h1 => ?_) (fun h1 => ?_)
  · have h1 : (0 : Int) ≤ (m : Int) := by simpa using h1
    refine WC.seq ?_
    refine WC.seq ?_
    refine WC.region ?_
    refine WL.val (.int .i64 m) rfl rfl rfl (fun za zC zh zk => wp_move rfl (zh.ev rfl) zk) ?_
    refine WL.val (.bool ((decide ((2147483647 : Int) < (m : Int))))) rfl rfl rfl (fun za zC zh zk => gtr_3 rfl (zh.ev rfl) (zh.ev rfl) zk) ?_
    refine WL.val (.bool ((decide ((2147483647 : Int) < (m : Int))))) rfl rfl rfl (fun za zC zh zk => wp_move rfl (zh.ev rfl) zk) ?_
    refine bool_split ((decide ((2147483647 : Int) < (m : Int)))) (fun h2 => ?_) (fun h2 => ?_)
    · refine WL.sub (K' := [(0, .int .i64 v), (1, .int .i64 m), (4, .int .i64 0), (5, .bool false), (8, .bool ((decide ((0 : Int) ≤ (m : Int))))), (9, .int .i64 m), (10, .bool ((decide ((2147483647 : Int) < (m : Int))))), (11, .bool true)]) ⟨rfl, rfl, rfl, rfl, rfl, rfl, rfl, (by exact congrArg (fun z => some (Value.bool z)) h2), trivial⟩ ?_
      have h2 : (2147483647 : Int) < (m : Int) := by simpa using h2
      refine WL.skip (d := 11) rfl rfl rfl rfl rfl ?_
      refine WL.skip (d := 11) rfl rfl rfl rfl rfl ?_
      refine WL.skip (d := 11) rfl rfl rfl rfl rfl ?_
      refine WL.skip (d := 11) rfl rfl rfl rfl rfl ?_
      refine WL.val (.bool true) rfl rfl rfl (fun za zC zh zk => wp_pickT rfl (zh.ev rfl) (zh.ev rfl) zk) ?_
      refine WL.nil (WE.sub (K' := [(0, .int .i64 v), (1, .int .i64 m), (4, .int .i64 0), (5, .bool false), (8, .bool ((decide ((0 : Int) ≤ (m : Int))))), (16, .bool true)]) ⟨rfl, rfl, rfl, rfl, rfl, rfl, trivial⟩ ?_)
      refine WE.next ?_
      refine WC.condT rfl rfl ?_
      refine WC.seq ?_
      refine WC.region ?_
      refine WL.val (.int .i64 0) rfl rfl rfl (fun za zC zh zk => wp_assign rfl (zh.ev rfl) zk) ?_
      refine WL.val (.bool false) rfl rfl rfl (fun za zC zh zk => wp_assign rfl (zh.ev rfl) zk) ?_
      refine WL.nil (WE.sub (K' := [(0, .int .i64 v), (1, .int .i64 m), (4, .int .i64 0), (5, .bool false), (8, .bool ((decide ((0 : Int) ≤ (m : Int))))), (16, .bool true)]) ⟨rfl, rfl, rfl, rfl, rfl, rfl, trivial⟩ ?_)
      refine WE.next ?_
      refine WC.ret ?_
      refine WE.thenRet ?_
      refine WE.thenRet ?_
      refine WE.ret2 rfl rfl rfl ?_
      exact ⟨_, rfl, ⟨0, congrArg (fun b => Value.tuple #[Value.int .i64 0, Value.bool b]) (Eq.symm (by rw [Bool.eq_iff_iff, mvOk_iff]; simp; omega)), fun h => by have z := mvOk_iff.1 h; omega⟩, (Below.refl _ _)⟩
    · refine WL.sub (K' := [(0, .int .i64 v), (1, .int .i64 m), (4, .int .i64 0), (5, .bool false), (8, .bool ((decide ((0 : Int) ≤ (m : Int))))), (9, .int .i64 m), (10, .bool ((decide ((2147483647 : Int) < (m : Int))))), (11, .bool false)]) ⟨rfl, rfl, rfl, rfl, rfl, rfl, rfl, (by exact congrArg (fun z => some (Value.bool z)) h2), trivial⟩ ?_
      have h2 : ¬ ((2147483647 : Int) < (m : Int)) := by simpa using h2
      refine WL.want (d := 11) rfl rfl rfl ?_
      refine WL.val (.int .i64 v) rfl rfl rfl (fun za zC zh zk => wp_move rfl (zh.ev rfl) zk) ?_
      refine WL.want (d := 11) rfl rfl rfl ?_
      refine WL.val (.int .i64 m) rfl rfl rfl (fun za zC zh zk => wp_move rfl (zh.ev rfl) zk) ?_
      refine WL.want (d := 11) rfl rfl rfl ?_
      refine WL.val (.int .i64 ((2147483647 - m))) rfl rfl rfl (fun za zC zh zk => subb_3 rfl (zh.ev rfl) (zh.ev rfl) (wrap_eq (by omega) (by omega) (by omega)) zk) ?_
      refine WL.want (d := 11) rfl rfl rfl ?_
      refine WL.val (.bool ((decide (((2147483647 - m) : Int) < (v : Int))))) rfl rfl rfl (fun za zC zh zk => gtr_3 rfl (zh.ev rfl) (zh.ev rfl) zk) ?_
      refine WL.val (.bool ((decide (((2147483647 - m) : Int) < (v : Int))))) rfl rfl rfl (fun za zC zh zk => wp_pickF rfl (zh.ev rfl) (zh.ev rfl) zk) ?_
      refine WL.nil (WE.sub (K' := [(0, .int .i64 v), (1, .int .i64 m), (4, .int .i64 0), (5, .bool false), (8, .bool ((decide ((0 : Int) ≤ (m : Int))))), (16, .bool ((decide (((2147483647 - m) : Int) < (v : Int)))))]) ⟨rfl, rfl, rfl, rfl, rfl, rfl, trivial⟩ ?_)
      refine WE.next ?_
      refine WC.cond rfl (fun h3 => ?_) (fun h3 => ?_)
      · have h3 : ((2147483647 - m) : Int) < (v : Int) := by simpa using h3
        refine WC.seq ?_
        refine WC.region ?_
        refine WL.val (.int .i64 0) rfl rfl rfl (fun za zC zh zk => wp_assign rfl (zh.ev rfl) zk) ?_
        refine WL.val (.bool false) rfl rfl rfl (fun za zC zh zk => wp_assign rfl (zh.ev rfl) zk) ?_
        refine WL.nil (WE.sub (K' := [(0, .int .i64 v), (1, .int .i64 m), (4, .int .i64 0), (5, .bool false), (8, .bool ((decide ((0 : Int) ≤ (m : Int))))), (16, .bool ((decide (((2147483647 - m) : Int) < (v : Int)))))]) ⟨rfl, rfl, rfl, rfl, rfl, rfl, trivial⟩ ?_)
        refine WE.next ?_
        refine WC.ret ?_
        refine WE.thenRet ?_
        refine WE.thenRet ?_
        refine WE.ret2 rfl rfl rfl ?_
        exact ⟨_, rfl, ⟨0, congrArg (fun b => Value.tuple #[Value.int .i64 0, Value.bool b]) (Eq.symm (by rw [Bool.eq_iff_iff, mvOk_iff]; simp; omega)), fun h => by have z := mvOk_iff.1 h; omega⟩, (Below.refl _ _)⟩
      · have h3 : ¬ (((2147483647 - m) : Int) < (v : Int)) := by simpa using h3
        refine WC.skip ?_
        refine WE.next ?_
        refine WC.seq ?_
        refine WC.region ?_
        refine WL.val (.int .i64 v) rfl rfl rfl (fun za zC zh zk => wp_move rfl (zh.ev rfl) zk) ?_
        refine WL.val (.int .i64 m) rfl rfl rfl (fun za zC zh zk => wp_move rfl (zh.ev rfl) zk) ?_
        refine WL.val (.int .i64 ((v + m))) rfl rfl rfl (fun za zC zh zk => addb_3 rfl (zh.ev rfl) (zh.ev rfl) (wrap_eq (by omega) (by omega) (by omega)) zk) ?_
        refine WL.val (.int .i64 ((v + m))) rfl rfl rfl (fun za zC zh zk => wp_assign rfl (zh.ev rfl) zk) ?_
        refine WL.val (.bool true) rfl rfl rfl (fun za zC zh zk => wp_assign rfl (zh.ev rfl) zk) ?_
        refine WL.nil (WE.sub (K' := [(0, .int .i64 v), (1, .int .i64 m), (4, .int .i64 ((v + m))), (5, .bool true), (8, .bool ((decide ((0 : Int) ≤ (m : Int))))), (16, .bool ((decide (((2147483647 - m) : Int) < (v : Int)))))]) ⟨rfl, rfl, rfl, rfl, rfl, rfl, trivial⟩ ?_)
        refine WE.next ?_
        refine WC.ret ?_
        refine WE.thenRet ?_
        refine WE.ret2 rfl rfl rfl ?_
        exact ⟨_, rfl, ⟨(v + m), congrArg (fun b => Value.tuple #[Value.int .i64 ((v + m)), Value.bool b]) (Eq.symm (by rw [Bool.eq_iff_iff, mvOk_iff]; simp; omega)), fun h => by have z := mvOk_iff.1 h; omega⟩, (Below.refl _ _)⟩
  · have h1 : ¬ ((0 : Int) ≤ (m : Int)) := by simpa using h1
    refine WC.skip ?_
    refine WE.next ?_
    refine WC.seq ?_
    refine WC.region ?_
    refine WL.val (.int .i64 v) rfl rfl rfl (fun za zC zh zk => wp_move rfl (zh.ev rfl) zk) ?_
    refine WL.val (.int .i64 m) rfl rfl rfl (fun za zC zh zk => wp_move rfl (zh.ev rfl) zk) ?_
    refine WL.val (.int .i64 ((v + m))) rfl rfl rfl (fun za zC zh zk => addb_3 rfl (zh.ev rfl) (zh.ev rfl) (wrap_eq (by omega) (by omega) (by omega)) zk) ?_
    refine WL.val (.int .i64 ((v + m))) rfl rfl rfl (fun za zC zh zk => wp_assign rfl (zh.ev rfl) zk) ?_
    refine WL.nil (WE.sub (K' := [(0, .int .i64 v), (1, .int .i64 m), (4, .int .i64 0), (5, .bool false), (6, .int .i64 ((v + m))), (8, .bool ((decide ((0 : Int) ≤ (m : Int)))))]) ⟨rfl, rfl, rfl, rfl, rfl, rfl, trivial⟩ ?_)
    refine WE.next ?_
    refine WC.seq ?_
    refine WC.region ?_
    refine WL.val (.int .i64 ((v + m))) rfl rfl rfl (fun za zC zh zk => wp_move rfl (zh.ev rfl) zk) ?_
    refine WL.val (.int .i64 ((v + m))) rfl rfl rfl (fun za zC zh zk => wp_move rfl (zh.ev rfl) zk) ?_
    refine WL.val (.bool ((decide ((0 : Int) ≤ ((v + m) : Int))))) rfl rfl rfl (fun za zC zh zk => geq_3 rfl (zh.ev rfl) (zh.ev rfl) zk) ?_
    refine WL.val (.bool ((decide ((0 : Int) ≤ ((v + m) : Int))))) rfl rfl rfl (fun za zC zh zk => wp_move rfl (zh.ev rfl) zk) ?_
    refine bool_split ((decide ((0 : Int) ≤ ((v + m) : Int)))) (fun h4 => ?_) (fun h4 => ?_)
    · refine WL.sub (K' := [(0, .int .i64 v), (1, .int .i64 m), (4, .int .i64 0), (5, .bool false), (6, .int .i64 ((v + m))), (8, .bool ((decide ((0 : Int) ≤ (m : Int))))), (23, .int .i64 ((v + m))), (24, .int .i64 ((v + m))), (25, .bool ((decide ((0 : Int) ≤ ((v + m) : Int))))), (26, .bool true)]) ⟨rfl, rfl, rfl, rfl, rfl, rfl, rfl, rfl, rfl, (by exact congrArg (fun z => some (Value.bool z)) h4), trivial⟩ ?_
      have h4 : (0 : Int) ≤ ((v + m) : Int) := by simpa using h4
      refine WL.want (d := 26) rfl rfl rfl ?_
      refine WL.val (.int .i64 ((v + m))) rfl rfl rfl (fun za zC zh zk => wp_move rfl (zh.ev rfl) zk) ?_
      refine WL.want (d := 26) rfl rfl rfl ?_
      refine WL.val (.bool ((decide (((v + m) : Int) ≤ (2147483647 : Int))))) rfl rfl rfl (fun za zC zh zk => leq_3 rfl (zh.ev rfl) (zh.ev rfl) zk) ?_
      refine WL.val (.bool ((decide (((v + m) : Int) ≤ (2147483647 : Int))))) rfl rfl rfl (fun za zC zh zk => wp_pickT rfl (zh.ev rfl) (zh.ev rfl) zk) ?_
      refine WL.val (.int .i64 ((v + m))) rfl rfl rfl (fun za zC zh zk => wp_assign rfl (zh.ev rfl) zk) ?_
      refine WL.val (.bool ((decide (((v + m) : Int) ≤ (2147483647 : Int))))) rfl rfl rfl (fun za zC zh zk => wp_assign rfl (zh.ev rfl) zk) ?_
      refine WL.nil (WE.sub (K' := [(0, .int .i64 v), (1, .int .i64 m), (4, .int .i64 ((v + m))), (5, .bool ((decide (((v + m) : Int) ≤ (2147483647 : Int))))), (6, .int .i64 ((v + m))), (8, .bool ((decide ((0 : Int) ≤ (m : Int)))))]) ⟨rfl, rfl, rfl, rfl, rfl, rfl, trivial⟩ ?_)
      refine WE.next ?_
      refine WC.ret ?_
      refine WE.ret2 rfl rfl rfl ?_
      exact ⟨_, rfl, ⟨(v + m), congrArg (fun b => Value.tuple #[Value.int .i64 ((v + m)), Value.bool b]) (Eq.symm (by rw [Bool.eq_iff_iff, mvOk_iff]; simp; omega)), fun h => by have z := mvOk_iff.1 h; omega⟩, (Below.refl _ _)⟩
    · refine WL.sub (K' := [(0, .int .i64 v), (1, .int .i64 m), (4, .int .i64 0), (5, .bool false), (6, .int .i64 ((v + m))), (8, .bool ((decide ((0 : Int) ≤ (m : Int))))), (23, .int .i64 ((v + m))), (24, .int .i64 ((v + m))), (25, .bool ((decide ((0 : Int) ≤ ((v + m) : Int))))), (26, .bool false)]) ⟨rfl, rfl, rfl, rfl, rfl, rfl, rfl, rfl, rfl, (by exact congrArg (fun z => some (Value.bool z)) h4), trivial⟩ ?_
      have h4 : ¬ ((0 : Int) ≤ ((v + m) : Int)) := by simpa using h4
      refine WL.skip (d := 26) rfl rfl rfl rfl rfl ?_
      refine WL.skip (d := 26) rfl rfl rfl rfl rfl ?_
      refine WL.val (.bool false) rfl rfl rfl (fun za zC zh zk => wp_pickF rfl (zh.ev rfl) (zh.ev rfl) zk) ?_
      refine WL.val (.int .i64 ((v + m))) rfl rfl rfl (fun za zC zh zk => wp_assign rfl (zh.ev rfl) zk) ?_
      refine WL.val (.bool false) rfl rfl rfl (fun za zC zh zk => wp_assign rfl (zh.ev rfl) zk) ?_
      refine WL.nil (WE.sub (K' := [(0, .int .i64 v), (1, .int .i64 m), (4, .int .i64 ((v + m))), (5, .bool false), (6, .int .i64 ((v + m))), (8, .bool ((decide ((0 : Int) ≤ (m : Int)))))]) ⟨rfl, rfl, rfl, rfl, rfl, rfl, trivial⟩ ?_)
      refine WE.next ?_
      refine WC.ret ?_
      refine WE.ret2 rfl rfl rfl ?_
      exact ⟨_, rfl, ⟨(v + m), congrArg (fun b => Value.tuple #[Value.int .i64 ((v + m)), Value.bool b]) (Eq.symm (by rw [Bool.eq_iff_iff, mvOk_iff]; simp; omega)), fun h => by have z := mvOk_iff.1 h; omega⟩, (Below.refl _ _)⟩

set_option maxRecDepth 100000 in
theorem rmove_any (m : Int) (hm : I64 m) : ∀ (t : T) (w : World) (v : Value), t.size ≤ 4294967296 → IsT w t v → Calls Try.prog 15 #[v, .int .i64 m] w (Ret fun v' w' => NewT w w' (t.mv m) v' ∧ Below w.heap.size w w') := by
  refine T.ind (fun f l ih => ?_)
  intro w v hz hv 
  have hlen := len_le_sizeL l
  have hz' := hz
  simp only [T.size] at hz'
  obtain ⟨hf, a, c, rfl, hc, hmx, hl⟩ := hv
  have hf' := hf
  unfold I64 at hf'

  refine Calls.walk (l := [.agg #[.int .i64 f, .slice a l.length c], .int .i64 m]) Try.func15 rfl (by kernel_rfl) ?_
  refine WC.sub (K' := [(0, .agg #[.int .i64 f, .slice a l.length c]), (1, .int .i64 m)]) ⟨rfl, rfl, trivial⟩ ?_
  refine WC.seq ?_
  refine WC.region ?_
  refine WL.step (post := NewBlk w 32 #[.int .i64 f, .slice a l.length c]) rfl rfl rfl (fun za zC zh zk => box_32 rfl (zh.ev rfl) (zk _ _ (newBlk _ _ _))) ?_
  rintro _ w1 ⟨g2, rfl, hg3, hB4, hb5, hz6⟩
  have hl7 : w.heap.size ≤ g2 := by omega
  refine WL.step (post := NewBlk w1 32 #[.int .i64 0, .slice none 0 0]) rfl rfl rfl (fun za zC zh zk => alloc_32 rfl (zk _ _ (newBlk _ _ _))) ?_
  rintro _ w8 ⟨g9, rfl, hg10, hB11, hb12, hz13⟩
  have hl14 : g2 < g9 := by have z1 := hB4.lt; omega
  have hl15 : w.heap.size ≤ g9 := by have z2 := (hb5).size; omega
  refine WL.nil (WE.sub (K' := [(0, .agg #[.int .i64 f, .slice a l.length c]), (1, .int .i64 m), (2, .pointer (some ⟨g2, 0, none⟩)), (4, .pointer (some ⟨g9, 0, none⟩))]) ⟨rfl, rfl, rfl, rfl, trivial⟩ ?_)
  refine WE.next ?_
  refine WC.seq ?_
  refine WC.region ?_
  refine WL.val (.pointer (some ⟨g2, 0, none⟩)) rfl rfl rfl (fun za zC zh zk => fld_32_0 rfl (zh.ev rfl) zk) ?_
  have hB16 := hB4.below hb12
  refine WL.val (.int .i64 f) rfl rfl rfl (fun za zC zh zk => ld_3 rfl (zh.ev rfl) ((hB16.cell 0).trans rfl) zk) ?_
  refine WL.val (.agg #[.int .i64 f, .slice none 0 0]) rfl rfl rfl (fun za zC zh zk => build_32_0 rfl (zh.ev rfl) zk) ?_
  refine WL.step (post := NewBlk w8 32 #[.int .i64 0, .slice none 0 0]) rfl rfl rfl (fun za zC zh zk => alloc_32 rfl (zk _ _ (newBlk _ _ _))) ?_
  rintro _ w17 ⟨g18, rfl, hg19, hB20, hb21, hz22⟩
  have hl23 : g2 < g18 := by have z1 := hB16.lt; omega
  have hl24 : g9 < g18 := by have z1 := hB11.lt; omega
  have hb25 : Below w.heap.size w w8 := (bstep hb5 hb12)
  have hl26 : w.heap.size ≤ g18 := by have z2 := (hb25).size; omega
  refine WL.step (post := fun _ w' => Upd g18 w17 w' ∧ Blk w' g18 32 #[.int .i64 f, .slice none 0 0]) rfl rfl rfl (fun za zC zh zk => st_32 rfl (zh.ev rfl) (zh.ev rfl) rfl rfl hB20 (by first | decide | simp) (fun v => zk v _ ⟨(Upd.at_ _ _ _ _).trans (Upd.at_ _ _ _ _), (hB20.set_ 0 _).set_ 1 _⟩)) ?_
  rintro v30 w27 ⟨hu28, hB29⟩
  have hb31 : Below w.heap.size w w17 := (bstep hb25 hb21)
  have hb32 := upd_below hb31 hu28 (by omega)
  have hB33 := hB16.below hb21
  have hB34 := upd_blk hB33 hu28 (by omega)
  have hB35 := hB11.below hb21
  have hB36 := upd_blk hB35 hu28 (by omega)
  refine WL.nil (WE.sub (K' := [(0, .agg #[.int .i64 f, .slice a l.length c]), (1, .int .i64 m), (2, .pointer (some ⟨g2, 0, none⟩)), (4, .pointer (some ⟨g9, 0, none⟩)), (5, .pointer (some ⟨g18, 0, none⟩))]) ⟨rfl, rfl, rfl, rfl, rfl, trivial⟩ ?_)
  refine WE.next ?_
  refine WC.seq ?_
  refine WC.seq ?_
  refine WC.region ?_
  refine WL.val (.pointer (some ⟨g2, 0, none⟩)) rfl rfl rfl (fun za zC zh zk => fld_32_0 rfl (zh.ev rfl) zk) ?_
  refine WL.val (.int .i64 f) rfl rfl rfl (fun za zC zh zk => ld_3 rfl (zh.ev rfl) ((hB34.cell 0).trans rfl) zk) ?_
  refine WL.val (.bool ((decide ((f : Int) < (0 : Int))))) rfl rfl rfl (fun za zC zh zk => lss_3 rfl (zh.ev rfl) (zh.ev rfl) zk) ?_
  refine WL.nil (WE.sub (K' := [(0, .agg #[.int .i64 f, .slice a l.length c]), (1, .int .i64 m), (2, .pointer (some ⟨g2, 0, none⟩)), (4, .pointer (some ⟨g9, 0, none⟩)), (5, .pointer (some ⟨g18, 0, none⟩)), (14, .bool ((decide ((f : Int) < (0 : Int)))))]) ⟨rfl, rfl, rfl, rfl, rfl, rfl, trivial⟩ ?_)
  refine WE.next ?_
  refine WC.cond rfl (fun h37 => ?_) (fun h37 => ?_)
  · have h37 : (f : Int) < (0 : Int) := by simpa using h37
    refine WC.seq ?_
    refine WC.region ?_
    refine WL.val (.pointer (some ⟨g2, 0, none⟩)) rfl rfl rfl (fun za zC zh zk => fld_32_0 rfl (zh.ev rfl) zk) ?_
    refine WL.val (.int .i64 f) rfl rfl rfl (fun za zC zh zk => ld_3 rfl (zh.ev rfl) ((hB34.cell 0).trans rfl) zk) ?_
    refine WL.val (.int .i64 ((-1 - f))) rfl rfl rfl (fun za zC zh zk => subb_3 rfl (zh.ev rfl) (zh.ev rfl) (wrap_eq rfl (by omega) (by omega)) zk) ?_
    refine WL.val (.int .i64 m) rfl rfl rfl (fun za zC zh zk => wp_move rfl (zh.ev rfl) zk) ?_
    refine WL.call rfl rfl rfl (fun za zh zC => wp_call (by kernel_rfl) rfl (hv2 (zh.ev rfl) (zh.ev rfl))) (to_any (-1 - f) m _ (by omega) (by omega) hm) ?_
    rintro _ w39 ⟨⟨mn, rfl, hmn⟩, hq38⟩
    refine WL.val (.tuple #[.int .i64 mn, .bool ((mvOk (-1 - f) m))]) rfl rfl rfl (fun za zC zh zk => wp_move rfl (zh.ev rfl) zk) ?_
    refine WL.val (.int .i64 mn) rfl rfl rfl (fun za zC zh zk => ext2_0 rfl (zh.ev rfl) zk) ?_
    refine WL.val (.bool ((mvOk (-1 - f) m))) rfl rfl rfl (fun za zC zh zk => ext2_1 rfl (zh.ev rfl) zk) ?_
    refine WL.val (.int .i64 mn) rfl rfl rfl (fun za zC zh zk => wp_assign rfl (zh.ev rfl) zk) ?_
    refine WL.val (.bool ((mvOk (-1 - f) m))) rfl rfl rfl (fun za zC zh zk => wp_assign rfl (zh.ev rfl) zk) ?_
    refine WL.nil (WE.sub (K' := [(0, .agg #[.int .i64 f, .slice a l.length c]), (1, .int .i64 m), (2, .pointer (some ⟨g2, 0, none⟩)), (4, .pointer (some ⟨g9, 0, none⟩)), (5, .pointer (some ⟨g18, 0, none⟩)), (6, .int .i64 mn), (7, .bool ((mvOk (-1 - f) m))), (14, .bool ((decide ((f : Int) < (0 : Int)))))]) ⟨rfl, rfl, rfl, rfl, rfl, rfl, rfl, rfl, trivial⟩ ?_)
    refine WE.next ?_
    refine WC.seq ?_
    refine WC.region ?_
    refine WL.val (.bool ((mvOk (-1 - f) m))) rfl rfl rfl (fun za zC zh zk => wp_move rfl (zh.ev rfl) zk) ?_
    refine WL.nil (WE.sub (K' := [(0, .agg #[.int .i64 f, .slice a l.length c]), (1, .int .i64 m), (2, .pointer (some ⟨g2, 0, none⟩)), (4, .pointer (some ⟨g9, 0, none⟩)), (5, .pointer (some ⟨g18, 0, none⟩)), (6, .int .i64 mn), (7, .bool ((mvOk (-1 - f) m))), (14, .bool ((decide ((f : Int) < (0 : Int))))), (23, .bool ((mvOk (-1 - f) m)))]) ⟨rfl, rfl, rfl, rfl, rfl, rfl, rfl, rfl, rfl, trivial⟩ ?_)
    refine WE.next ?_
    refine WC.cond rfl (fun h40 => ?_) (fun h40 => ?_)
    · skip
      have hmn1 := hmn h40
      have hrg := mvTo_range (v := -1 - f) (m := m) (by omega) (by omega)
      rw [mvTo_yes h40] at hrg
      refine WC.region ?_
      refine WL.val (.int .i64 mn) rfl rfl rfl (fun za zC zh zk => wp_move rfl (zh.ev rfl) zk) ?_
      refine WL.val (.int .i64 ((-1 - mn))) rfl rfl rfl (fun za zC zh zk => subb_3 rfl (zh.ev rfl) (zh.ev rfl) (wrap_eq rfl (by omega) (by omega)) zk) ?_
      refine WL.val (.pointer (some ⟨g18, 0, none⟩)) rfl rfl rfl (fun za zC zh zk => fld_32_0 rfl (zh.ev rfl) zk) ?_
      have hB41 := hB29.below hq38
      refine WL.step (post := fun _ w' => Upd g18 w39 w' ∧ Blk w' g18 32 #[.int .i64 ((-1 - mn)), .slice none 0 0]) rfl rfl rfl (fun za zC zh zk => st_3 rfl (zh.ev rfl) (zh.ev rfl) hB41 (by first | decide | simp) (fun v => zk v _ ⟨Upd.at_ _ _ _ _, hB41.set_ 0 _⟩)) ?_
      rintro v45 w42 ⟨hu43, hB44⟩
      have hb46 : Below w.heap.size w w39 := (bstep hb32 hq38)
      have hb47 := upd_below hb46 hu43 (by omega)
      have hB48 := hB34.below hq38
      have hB49 := upd_blk hB48 hu43 (by omega)
      have hB50 := hB36.below hq38
      have hB51 := upd_blk hB50 hu43 (by omega)
      refine WL.nil (WE.sub (K' := [(0, .agg #[.int .i64 f, .slice a l.length c]), (1, .int .i64 m), (2, .pointer (some ⟨g2, 0, none⟩)), (4, .pointer (some ⟨g9, 0, none⟩)), (5, .pointer (some ⟨g18, 0, none⟩)), (6, .int .i64 mn), (7, .bool ((mvOk (-1 - f) m))), (14, .bool ((decide ((f : Int) < (0 : Int))))), (23, .bool ((mvOk (-1 - f) m)))]) ⟨rfl, rfl, rfl, rfl, rfl, rfl, rfl, rfl, rfl, trivial⟩ ?_)
      refine WE.next ?_
      refine WC.seq ?_
      refine WC.seq ?_
      refine WC.region ?_
      refine WL.val (.int .i64 0) rfl rfl rfl (fun za zC zh zk => wp_assign rfl (zh.ev rfl) zk) ?_
      refine WL.nil (WE.sub (K' := [(0, .agg #[.int .i64 f, .slice a l.length c]), (1, .int .i64 m), (2, .pointer (some ⟨g2, 0, none⟩)), (4, .pointer (some ⟨g9, 0, none⟩)), (5, .pointer (some ⟨g18, 0, none⟩)), (6, .int .i64 mn), (7, .bool ((mvOk (-1 - f) m))), (8, .int .i64 0), (14, .bool ((decide ((f : Int) < (0 : Int))))), (23, .bool ((mvOk (-1 - f) m)))]) ⟨rfl, rfl, rfl, rfl, rfl, rfl, rfl, rfl, rfl, rfl, trivial⟩ ?_)
      refine WE.next ?_
      refine WC.block ?_
      have hmf : mvF f m = -1 - mn := by rw [mvF_neg (by omega), mvTo_yes h40]; omega
      have hl52 : g2 < w42.heap.size := by have z1 := hB49.lt; omega
      have hl53 : g9 < w42.heap.size := by have z1 := hB51.lt; omega
      have hl54 : g18 < w42.heap.size := by have z1 := hB44.lt; omega
      have hl55 : w.heap.size ≤ w42.heap.size := (hb47).size
      have hR56 : RowE eltT w42 w42.heap.size 32 none 0 0 [] := RowE.nil
      refine WC.loop (X := Option Addr × Nat × Nat) (fun x => l.length - x.2.2) (fun x => [(0, .agg #[.int .i64 f, .slice a l.length c]), (1, .int .i64 m), (2, .pointer (some ⟨g2, 0, none⟩)), (4, .pointer (some ⟨g9, 0, none⟩)), (5, .pointer (some ⟨g18, 0, none⟩)), (6, .int .i64 mn), (7, .bool ((mvOk (-1 - f) m))), (8, .int .i64 (((x.2.2 : Nat) : Int))), (14, .bool ((decide ((f : Int) < (0 : Int))))), (23, .bool ((mvOk (-1 - f) m)))]) (fun x w57 => x.2.2 ≤ l.length ∧ w42.heap.size ≤ (w57).heap.size ∧ Below w.heap.size w w57 ∧ Blk w57 g2 32 #[.int .i64 f, .slice a l.length c] ∧ Blk w57 g9 32 #[.int .i64 0, .slice none 0 0] ∧ Blk w57 g18 32 #[.int .i64 ((-1 - mn)), .slice x.1 x.2.2 x.2.1] ∧ RowE eltT (w57) w42.heap.size 32 x.1 x.2.1 x.2.2 ((l.take x.2.2).map (T.mv m))) ((none, 0, 0)) ⟨rfl, rfl, rfl, rfl, rfl, rfl, rfl, rfl, rfl, rfl, trivial⟩ ?_ ?_
      · exact ⟨Nat.zero_le _, Nat.le_refl _, hb47, hB49, hB51, hB44, (by simpa using hR56)⟩
      · rintro x w57 ⟨hk, hBw, hb58, hB59, hB60, hB61, ho62⟩
        refine WC.seq ?_
        refine WC.seq ?_
        refine WC.region ?_
        refine WL.val (.int .i64 (((x.2.2 : Nat) : Int))) rfl rfl rfl (fun za zC zh zk => wp_move rfl (zh.ev rfl) zk) ?_
        refine WL.val (.pointer (some ⟨g2, 1, none⟩)) rfl rfl rfl (fun za zC zh zk => fld_32_1 rfl (zh.ev rfl) zk) ?_
        refine WL.val (.slice a l.length c) rfl rfl rfl (fun za zC zh zk => ld_30 rfl (zh.ev rfl) ((hB59.cell 1).trans rfl) zk) ?_
        refine WL.val (.int .i64 (((l.length : Nat) : Int))) rfl rfl rfl (fun za zC zh zk => len_30 rfl (zh.ev rfl) zk) ?_
        refine WL.val (.bool ((decide ((((x.2.2 : Nat) : Int) : Int) < (((l.length : Nat) : Int) : Int))))) rfl rfl rfl (fun za zC zh zk => lss_3 rfl (zh.ev rfl) (zh.ev rfl) zk) ?_
        refine WL.nil (WE.sub (K' := [(0, .agg #[.int .i64 f, .slice a l.length c]), (1, .int .i64 m), (2, .pointer (some ⟨g2, 0, none⟩)), (4, .pointer (some ⟨g9, 0, none⟩)), (5, .pointer (some ⟨g18, 0, none⟩)), (6, .int .i64 mn), (7, .bool ((mvOk (-1 - f) m))), (8, .int .i64 (((x.2.2 : Nat) : Int))), (14, .bool ((decide ((f : Int) < (0 : Int))))), (23, .bool ((mvOk (-1 - f) m))), (31, .bool ((decide ((((x.2.2 : Nat) : Int) : Int) < (((l.length : Nat) : Int) : Int)))))]) ⟨rfl, rfl, rfl, rfl, rfl, rfl, rfl, rfl, rfl, rfl, rfl, trivial⟩ ?_)
        refine WE.next ?_
        refine WC.cond rfl (fun h63 => ?_) (fun h63 => ?_)
        · have h63 : (((x.2.2 : Nat) : Int) : Int) < (((l.length : Nat) : Int) : Int) := by simpa using h63
          refine WC.skip ?_
          refine WE.next ?_
          refine WC.seq ?_
          refine WC.block ?_
          obtain ⟨b64, o65, A66, C67, ha68, hc69⟩ := IsTs.open hl
          have hSlt : ∀ b, (fun b => b = g18 ∨ (Value.slice x.1 x.2.2 x.2.1).ownBlock = some b) b → b < w57.heap.size := fun b h => h.elim (fun e => e ▸ hB61.lt) (fun h => (ho62.lt b h).2)
          have hSlo : ∀ b, (fun b => b = g18 ∨ (Value.slice x.1 x.2.2 x.2.1).ownBlock = some b) b → b = g18 ∨ (w42.heap.size ≤ b ∧ b < w57.heap.size) := fun b h => h.imp id (fun h => ho62.lt b h)
          have hBW : w42.heap.size ≤ w57.heap.size := by have z1 := hBw; omega
          have hlL : x.2.2 = (((l.take x.2.2).map (T.mv m))).length := ho62.len
          refine WC.tail2 (S := ((fun b => b = g18 ∨ (Value.slice x.1 x.2.2 x.2.1).ownBlock = some b))) [(true, .val (.pointer (some ⟨g18, 1, none⟩))), (true, .val (.slice x.1 x.2.2 x.2.1)), (true, .val (.pointer (some ⟨g2, 1, none⟩))), (true, .val (.slice a l.length c)), (true, .val (.int .i64 (((x.2.2 : Nat) : Int)))), (true, .val (.pointer (some ⟨b64, o65 + x.2.2 * 2, none⟩))), (true, .val (.agg #[.int .i64 ((tget l x.2.2).f), .slice ((A66 x.2.2)) ((tget l x.2.2).args.length) ((C67 x.2.2))])), (true, .val (.int .i64 m)), (true, .mem (fun v w' => NewT w57 w' (((tget l x.2.2).mv m)) v) (fun v w w' hc h => InT.chg h hc (fun b hb hs => by have z := hSlt b hs; omega))), (true, .mem (fun v w' => OneRow eltT w57 32 (((tget l x.2.2).mv m)) v w') (fun v w w' hc h => h.chg hc hSlt)), (true, .val undef), (true, .val (.pointer (some ⟨g18, 1, none⟩))), (true, .val undef)] [(0, .agg #[.int .i64 f, .slice a l.length c]), (1, .int .i64 m), (2, .pointer (some ⟨g2, 0, none⟩)), (4, .pointer (some ⟨g9, 0, none⟩)), (5, .pointer (some ⟨g18, 0, none⟩)), (6, .int .i64 mn), (7, .bool ((mvOk (-1 - f) m))), (8, .int .i64 (((x.2.2 : Nat) : Int))), (14, .bool ((decide ((f : Int) < (0 : Int))))), (23, .bool ((mvOk (-1 - f) m))), (31, .bool ((decide ((((x.2.2 : Nat) : Int) : Int) < (((l.length : Nat) : Int) : Int)))))] 10 12 ((x.2.2 + 1)) 44 (fun ra rc wz => RowE eltT wz w42.heap.size 32 ra rc (x.2.2 + 1) (((l.take x.2.2).map (T.mv m) ++ [((tget l x.2.2).mv m)])) ∧ Blk wz g18 32 #[.int .i64 ((-1 - mn)), .slice x.1 x.2.2 x.2.1]) (fun ra rc wz => RowE eltT wz w42.heap.size 32 ra rc (x.2.2 + 1) (((l.take x.2.2).map (T.mv m) ++ [((tget l x.2.2).mv m)])) ∧ Blk wz g18 32 #[.int .i64 ((-1 - mn)), .slice ra ((x.2.2 + 1)) rc]) (by decide) (fun ra rc w w' hb h => ⟨h.1.below hb, h.2.below hb⟩) (fun ra rc w w' hb h => ⟨h.1.below hb, h.2.below hb⟩) ⟨rfl, rfl, rfl, rfl, rfl, rfl, rfl, rfl, rfl, rfl, rfl, trivial⟩ (by kernel_rfl) (by kernel_rfl) (by kernel_rfl) (by kernel_rfl) (by kernel_rfl) ?_ ?_
          · refine ⟨.inl ⟨rfl, true, .none rfl, (fun gg b h => by cases h), fun h w => optUndef h, fun zβ za zw zc => ?_⟩, ?_⟩
            · exact fld_32_1 rfl (zc.kn.ev rfl) ⟨_, rfl, Below.refl _ _, optDef zβ rfl⟩
            refine ⟨.inl ⟨rfl, true, .none rfl, (fun gg b h => by cases h), fun h w => optUndef h, fun zβ za zw zc => ?_⟩, ?_⟩
            · exact ld_30 rfl ((show za.eval (.tmp 34) = za.tmps.getD 34 undef from rfl).trans (optSVal (zc.dep 0 34 (by kernel_rfl) (by decide)) rfl rfl)) (bkeeps (zc.early (by kernel_rfl)) _ _ ((hB61.cell 1).trans rfl)) ⟨_, rfl, Below.refl _ _, optDef zβ rfl⟩
            refine ⟨.inl ⟨rfl, true, .none rfl, (fun gg b h => by cases h), fun h w => optUndef h, fun zβ za zw zc => ?_⟩, ?_⟩
            · exact fld_32_1 rfl (zc.kn.ev rfl) ⟨_, rfl, Below.refl _ _, optDef zβ rfl⟩
            refine ⟨.inl ⟨rfl, true, .none rfl, (fun gg b h => by cases h), fun h w => optUndef h, fun zβ za zw zc => ?_⟩, ?_⟩
            · exact ld_30 rfl ((show za.eval (.tmp 36) = za.tmps.getD 36 undef from rfl).trans (optSVal (zc.dep 2 36 (by kernel_rfl) (by decide)) rfl rfl)) (bkeeps (zc.early (by kernel_rfl)) _ _ ((hB59.cell 1).trans rfl)) ⟨_, rfl, Below.refl _ _, optDef zβ rfl⟩
            refine ⟨.inl ⟨rfl, true, .none rfl, (fun gg b h => by cases h), fun h w => optUndef h, fun zβ za zw zc => ?_⟩, ?_⟩
            · exact wp_move rfl (zc.kn.ev rfl) ⟨_, rfl, Below.refl _ _, optDef zβ rfl⟩
            refine ⟨.inl ⟨rfl, true, .none rfl, (fun gg b h => by cases h), fun h w => optUndef h, fun zβ za zw zc => ?_⟩, ?_⟩
            · exact ix_30 (k := x.2.2) rfl ((show za.eval (.tmp 37) = za.tmps.getD 37 undef from rfl).trans (optSVal (zc.dep 3 37 (by kernel_rfl) (by decide)) rfl rfl)) (ha68 x.2.2 (by first | omega | (simp; omega))) ((show za.eval (.tmp 38) = za.tmps.getD 38 undef from rfl).trans (optSVal (zc.dep 4 38 (by kernel_rfl) (by decide)) rfl rfl)) (by first | omega | (simp; omega)) ⟨_, rfl, Below.refl _ _, optDef zβ rfl⟩
            refine ⟨.inl ⟨rfl, true, .none rfl, (fun gg b h => by cases h), fun h w => optUndef h, fun zβ za zw zc => ?_⟩, ?_⟩
            · exact ld_32 rfl ((show za.eval (.tmp 39) = za.tmps.getD 39 undef from rfl).trans (optSVal (zc.dep 5 39 (by kernel_rfl) (by decide)) rfl rfl)) (bkeeps (bstep hb58 (zc.early (by kernel_rfl))) _ _ (hc69 x.2.2 (by first | omega | (simp; omega))).1) (bkeeps (bstep hb58 (zc.early (by kernel_rfl))) _ _ (hc69 x.2.2 (by first | omega | (simp; omega))).2.1) ⟨_, rfl, Below.refl _ _, optDef zβ rfl⟩
            refine ⟨.inl ⟨rfl, true, .none rfl, (fun gg b h => by cases h), fun h w => optUndef h, fun zβ za zw zc => ?_⟩, ?_⟩
            · exact wp_move rfl (zc.kn.ev rfl) ⟨_, rfl, Below.refl _ _, optDef zβ rfl⟩
            refine ⟨.inl ⟨rfl, true, .none rfl, (fun gg b h => by cases h), fun h w => optUndef h, fun zβ za zw zc => ?_⟩, ?_⟩
            · exact wp_call (by kernel_rfl) rfl (hv2 ((show za.eval (.tmp 40) = za.tmps.getD 40 undef from rfl).trans (optSVal (zc.dep 6 40 (by kernel_rfl) (by decide)) rfl rfl)) ((show za.eval (.tmp 41) = za.tmps.getD 41 undef from rfl).trans (optSVal (zc.dep 7 41 (by kernel_rfl) (by decide)) rfl rfl))) (ih _ (tget_mem (by omega)) _ _ (size_at (by omega) hz) (IsT.below (bstep hb58 (zc.early (by kernel_rfl))) (hc69 x.2.2 (by first | omega | (simp; omega))).2.2)) (fun v w' h => ⟨v, rfl, h.2, optDef zβ (InT.mono (fun b hb _ => Nat.le_trans (zc.early (by kernel_rfl)).size hb) h.1)⟩)
            refine ⟨.inl ⟨rfl, true, .none rfl, (fun gg b h => by cases h), fun h w => optUndef h, fun zβ za zw zc => ?_⟩, ?_⟩
            · have zv := (optSMem (zc.dep 8 42 (by kernel_rfl) (by decide)) rfl rfl)
              obtain ⟨_, a1, c1, e1, _⟩ := zv.form
              rw [e1] at zv
              exact row_30_1 rfl ((show za.eval (.tmp 42) = za.tmps.getD 42 undef from rfl).trans e1) ⟨_, rfl, balloc _ _, optDef zβ ⟨_, _, rfl, zc.chg.size, Blk.new' rfl, _, _, rfl, zv.below (balloc _ _)⟩⟩
            refine ⟨.inr (.inl ⟨rfl, rfl, fun za zw zc => ?_⟩), ?_⟩
            · obtain ⟨g1, cs, e1, hg1, hB1, hin⟩ := (optSMem (zc.dep 9 43 (by kernel_rfl) (by decide)) rfl rfl)
              exact wp_appE (E := eltT) (size := 2) (bytes := 32) (z := .agg #[.int .i64 0, .slice none 0 0]) rfl Try.underlying30 (by kernel_rfl) rfl (by decide) rfl ((show za.eval (.tmp 35) = za.tmps.getD 35 undef from rfl).trans (optSVal (zc.dep 1 35 (by kernel_rfl) (by decide)) rfl rfl)) ((show za.eval (.tmp 43) = za.tmps.getD 43 undef from rfl).trans e1) (ho62.below zc.below) hB1 (eltT.mono (fun b hb _ => ⟨by omega, fun e => by have z := (ho62.lt b e).2; omega⟩) hin) (by omega) (by omega) (by have z := zc.below.size; omega) (fun ra rc w' h1 h2 _ => ⟨ra, rc, rfl, ⟨h1, chg_blk (hB61.below zc.below) h2 (fun e => by have z := (ho62.lt _ e).1; omega)⟩, h2.mono (fun b hb => .inr hb)⟩)
            refine ⟨.inl ⟨rfl, true, .none rfl, (fun gg b h => by cases h), fun h w => optUndef h, fun zβ za zw zc => ?_⟩, ?_⟩
            · exact fld_32_1 rfl (zc.kn.ev rfl) ⟨_, rfl, Below.refl _ _, optDef zβ rfl⟩
            refine ⟨.inr (.inr ⟨rfl, rfl, 44, by kernel_rfl, fun za zw ra rc zk zd zv zg => ?_⟩), ?_⟩
            · exact st_30 rfl ((show za.eval (.tmp 45) = za.tmps.getD 45 undef from rfl).trans (optSVal (zd 11 45 (by kernel_rfl) (by decide)) rfl rfl)) ((show za.eval (.tmp 44) = za.tmps.getD 44 undef from rfl).trans zv) zg.2 (by first | decide | simp) (fun v => ⟨v, rfl, ⟨zg.1.upd (Upd.at_ _ _ _ _) (by omega), zg.2.set_ 1 _⟩, .ofUpd (Upd.at_ _ _ _ _) (.inl rfl)⟩)
            exact trivial
          · intro za w70 ra73 rc74 zh zv hG71 hc72 zu
            have hb75 := chg_below hb58 hc72 (fun b hb => (fun h => by rcases hSlo _ h with h | h <;> omega))
            have hB76 := chg_blk hB59 hc72 (fun h => by rcases hSlo _ h with h | h <;> omega)
            have hB77 := chg_blk hB60 hc72 (fun h => by rcases hSlo _ h with h | h <;> omega)
            clear zu
            refine (show WE _ [(0, .agg #[.int .i64 f, .slice a l.length c]), (1, .int .i64 m), (2, .pointer (some ⟨g2, 0, none⟩)), (4, .pointer (some ⟨g9, 0, none⟩)), (5, .pointer (some ⟨g18, 0, none⟩)), (6, .int .i64 mn), (7, .bool ((mvOk (-1 - f) m))), (8, .int .i64 (((x.2.2 : Nat) : Int))), (14, .bool ((decide ((f : Int) < (0 : Int))))), (23, .bool ((mvOk (-1 - f) m))), (31, .bool ((decide ((((x.2.2 : Nat) : Int) : Int) < (((l.length : Nat) : Int) : Int)))))] w70 _ .normal from ?_) za (zh.sub ⟨rfl, rfl, rfl, rfl, rfl, rfl, rfl, rfl, rfl, rfl, rfl, trivial⟩)
            refine WE.blockNormal ?_
            refine WE.next ?_
            refine WC.region ?_
            refine WL.val (.int .i64 (((x.2.2 : Nat) : Int))) rfl rfl rfl (fun za zC zh zk => wp_move rfl (zh.ev rfl) zk) ?_
            refine WL.val (.int .i64 ((((x.2.2 + 1) : Nat) : Int))) rfl rfl rfl (fun za zC zh zk => addb_3 rfl (zh.ev rfl) (zh.ev rfl) (wrap_eq (by omega) (by omega) (by omega)) zk) ?_
            refine WL.val (.int .i64 ((((x.2.2 + 1) : Nat) : Int))) rfl rfl rfl (fun za zC zh zk => wp_assign rfl (zh.ev rfl) zk) ?_
            refine WL.nil (WE.sub (K' := [(0, .agg #[.int .i64 f, .slice a l.length c]), (1, .int .i64 m), (2, .pointer (some ⟨g2, 0, none⟩)), (4, .pointer (some ⟨g9, 0, none⟩)), (5, .pointer (some ⟨g18, 0, none⟩)), (6, .int .i64 mn), (7, .bool ((mvOk (-1 - f) m))), (8, .int .i64 ((((x.2.2 + 1) : Nat) : Int))), (14, .bool ((decide ((f : Int) < (0 : Int))))), (23, .bool ((mvOk (-1 - f) m))), (31, .bool ((decide ((((x.2.2 : Nat) : Int) : Int) < (((l.length : Nat) : Int) : Int)))))]) ⟨rfl, rfl, rfl, rfl, rfl, rfl, rfl, rfl, rfl, rfl, rfl, trivial⟩ ?_)
            refine WE.round ((ra73, rc74, x.2.2 + 1)) ⟨rfl, rfl, rfl, rfl, rfl, rfl, rfl, rfl, rfl, rfl, trivial⟩ ?_ ?_
            · exact ⟨by (try dsimp only at *); omega, (Nat.le_trans hBw hc72.size), hb75, hB76, hB77, hG71.2, (by rw [← take_mv (by (try dsimp only at *); omega)]; exact hG71.1)⟩
            · dsimp only; omega
        · have h63 : ¬ ((((x.2.2 : Nat) : Int) : Int) < (((l.length : Nat) : Int) : Int)) := by simpa using h63
          refine WC.exit ?_
          refine WE.thenExit ?_
          refine WE.thenExit ?_
          refine WE.blockIs rfl ?_
          refine WE.next ?_
          refine WC.seq ?_
          refine WC.region ?_
          refine WL.val (.agg #[.int .i64 ((-1 - mn)), .slice x.1 x.2.2 x.2.1]) rfl rfl rfl (fun za zC zh zk => ld_32 rfl (zh.ev rfl) ((hB61.cell 0).trans rfl) ((hB61.cell 1).trans rfl) zk) ?_
          refine WL.step (post := fun _ w' => Upd g9 w57 w' ∧ Blk w' g9 32 #[.int .i64 ((-1 - mn)), .slice x.1 x.2.2 x.2.1]) rfl rfl rfl (fun za zC zh zk => st_32 rfl (zh.ev rfl) (zh.ev rfl) rfl rfl hB60 (by first | decide | simp) (fun v => zk v _ ⟨(Upd.at_ _ _ _ _).trans (Upd.at_ _ _ _ _), (hB60.set_ 0 _).set_ 1 _⟩)) ?_
          rintro v81 w78 ⟨hu79, hB80⟩
          have hb82 := upd_below hb58 hu79 (by omega)
          have hB83 := upd_blk hB59 hu79 (by omega)
          have hB84 := upd_blk hB61 hu79 (by omega)
          have ho85 := ho62.upd hu79 (by omega)
          refine WL.nil (WE.sub (K' := [(0, .agg #[.int .i64 f, .slice a l.length c]), (1, .int .i64 m), (2, .pointer (some ⟨g2, 0, none⟩)), (4, .pointer (some ⟨g9, 0, none⟩)), (5, .pointer (some ⟨g18, 0, none⟩)), (6, .int .i64 mn), (7, .bool ((mvOk (-1 - f) m))), (8, .int .i64 (((x.2.2 : Nat) : Int))), (14, .bool ((decide ((f : Int) < (0 : Int))))), (23, .bool ((mvOk (-1 - f) m))), (31, .bool ((decide ((((x.2.2 : Nat) : Int) : Int) < (((l.length : Nat) : Int) : Int)))))]) ⟨rfl, rfl, rfl, rfl, rfl, rfl, rfl, rfl, rfl, rfl, rfl, trivial⟩ ?_)
          refine WE.next ?_
          refine WC.ret ?_
          refine WE.retAny (v := .agg #[.int .i64 ((-1 - mn)), .slice x.1 x.2.2 x.2.1]) (fun za zh => ?_) ?_
          · have z0 : za.tmps[4]?.getD undef = .pointer (some ⟨g9, 0, none⟩) := by rw [← Array.getD_eq_getD_getElem?]; exact zh.knows 4 _ rfl
            have y0 : w78.cell? ⟨g9, 0, none⟩ = some (.int .i64 ((-1 - mn))) := ((hB80.cell 0).trans rfl)
            have y1 : w78.cell? ⟨g9, 1, none⟩ = some (.slice x.1 x.2.2 x.2.1) := ((hB80.cell 1).trans rfl)
            simp [results, Try.results15, z0, y0, y1, go_sem]
          · have z := ho85
            rw [List.take_of_length_le (by omega)] at z
            exact ⟨_, rfl, by rw [mv_mk, hmf]; exact newT_row (hmf ▸ mvF_i64 hf) z (by omega), hb82⟩
    · skip
      refine WC.skip ?_
      refine WE.next ?_
      refine WC.seq ?_
      refine WC.seq ?_
      refine WC.region ?_
      refine WL.val (.int .i64 0) rfl rfl rfl (fun za zC zh zk => wp_assign rfl (zh.ev rfl) zk) ?_
      refine WL.nil (WE.sub (K' := [(0, .agg #[.int .i64 f, .slice a l.length c]), (1, .int .i64 m), (2, .pointer (some ⟨g2, 0, none⟩)), (4, .pointer (some ⟨g9, 0, none⟩)), (5, .pointer (some ⟨g18, 0, none⟩)), (6, .int .i64 mn), (7, .bool ((mvOk (-1 - f) m))), (8, .int .i64 0), (14, .bool ((decide ((f : Int) < (0 : Int))))), (23, .bool ((mvOk (-1 - f) m)))]) ⟨rfl, rfl, rfl, rfl, rfl, rfl, rfl, rfl, rfl, rfl, trivial⟩ ?_)
      refine WE.next ?_
      refine WC.block ?_
      have hmf : mvF f m = f := by rw [mvF_neg (by omega), mvTo_no (by rw [h40]; decide)]; omega
      have hl86 : g2 < w39.heap.size := by have z1 := hB34.lt; have z2 := (hq38).size; omega
      have hl87 : g9 < w39.heap.size := by have z1 := hB36.lt; have z2 := (hq38).size; omega
      have hl88 : g18 < w39.heap.size := by have z1 := hB29.lt; have z2 := (hq38).size; omega
      have hb90 : Below w.heap.size w w39 := (bstep hb32 hq38)
      have hl89 : w.heap.size ≤ w39.heap.size := (hb90).size
      have hR91 : RowE eltT w39 w39.heap.size 32 none 0 0 [] := RowE.nil
      refine WC.loop (X := Option Addr × Nat × Nat) (fun x => l.length - x.2.2) (fun x => [(0, .agg #[.int .i64 f, .slice a l.length c]), (1, .int .i64 m), (2, .pointer (some ⟨g2, 0, none⟩)), (4, .pointer (some ⟨g9, 0, none⟩)), (5, .pointer (some ⟨g18, 0, none⟩)), (6, .int .i64 mn), (7, .bool ((mvOk (-1 - f) m))), (8, .int .i64 (((x.2.2 : Nat) : Int))), (14, .bool ((decide ((f : Int) < (0 : Int))))), (23, .bool ((mvOk (-1 - f) m)))]) (fun x w92 => x.2.2 ≤ l.length ∧ w39.heap.size ≤ (w92).heap.size ∧ Below w.heap.size w w92 ∧ Blk w92 g2 32 #[.int .i64 f, .slice a l.length c] ∧ Blk w92 g9 32 #[.int .i64 0, .slice none 0 0] ∧ Blk w92 g18 32 #[.int .i64 f, .slice x.1 x.2.2 x.2.1] ∧ RowE eltT (w92) w39.heap.size 32 x.1 x.2.1 x.2.2 ((l.take x.2.2).map (T.mv m))) ((none, 0, 0)) ⟨rfl, rfl, rfl, rfl, rfl, rfl, rfl, rfl, rfl, rfl, trivial⟩ ?_ ?_
      · have hB93 := hB34.below hq38
        have hB94 := hB36.below hq38
        have hB95 := hB29.below hq38
        exact ⟨Nat.zero_le _, Nat.le_refl _, hb90, hB93, hB94, hB95, (by simpa using hR91)⟩
      · rintro x w92 ⟨hk, hBw, hb96, hB97, hB98, hB99, ho100⟩
        refine WC.seq ?_
        refine WC.seq ?_
        refine WC.region ?_
        refine WL.val (.int .i64 (((x.2.2 : Nat) : Int))) rfl rfl rfl (fun za zC zh zk => wp_move rfl (zh.ev rfl) zk) ?_
        refine WL.val (.pointer (some ⟨g2, 1, none⟩)) rfl rfl rfl (fun za zC zh zk => fld_32_1 rfl (zh.ev rfl) zk) ?_
        refine WL.val (.slice a l.length c) rfl rfl rfl (fun za zC zh zk => ld_30 rfl (zh.ev rfl) ((hB97.cell 1).trans rfl) zk) ?_
        refine WL.val (.int .i64 (((l.length : Nat) : Int))) rfl rfl rfl (fun za zC zh zk => len_30 rfl (zh.ev rfl) zk) ?_
        refine WL.val (.bool ((decide ((((x.2.2 : Nat) : Int) : Int) < (((l.length : Nat) : Int) : Int))))) rfl rfl rfl (fun za zC zh zk => lss_3 rfl (zh.ev rfl) (zh.ev rfl) zk) ?_
        refine WL.nil (WE.sub (K' := [(0, .agg #[.int .i64 f, .slice a l.length c]), (1, .int .i64 m), (2, .pointer (some ⟨g2, 0, none⟩)), (4, .pointer (some ⟨g9, 0, none⟩)), (5, .pointer (some ⟨g18, 0, none⟩)), (6, .int .i64 mn), (7, .bool ((mvOk (-1 - f) m))), (8, .int .i64 (((x.2.2 : Nat) : Int))), (14, .bool ((decide ((f : Int) < (0 : Int))))), (23, .bool ((mvOk (-1 - f) m))), (31, .bool ((decide ((((x.2.2 : Nat) : Int) : Int) < (((l.length : Nat) : Int) : Int)))))]) ⟨rfl, rfl, rfl, rfl, rfl, rfl, rfl, rfl, rfl, rfl, rfl, trivial⟩ ?_)
        refine WE.next ?_
        refine WC.cond rfl (fun h101 => ?_) (fun h101 => ?_)
        · have h101 : (((x.2.2 : Nat) : Int) : Int) < (((l.length : Nat) : Int) : Int) := by simpa using h101
          refine WC.skip ?_
          refine WE.next ?_
          refine WC.seq ?_
          refine WC.block ?_
          obtain ⟨b102, o103, A104, C105, ha106, hc107⟩ := IsTs.open hl
          have hSlt : ∀ b, (fun b => b = g18 ∨ (Value.slice x.1 x.2.2 x.2.1).ownBlock = some b) b → b < w92.heap.size := fun b h => h.elim (fun e => e ▸ hB99.lt) (fun h => (ho100.lt b h).2)
          have hSlo : ∀ b, (fun b => b = g18 ∨ (Value.slice x.1 x.2.2 x.2.1).ownBlock = some b) b → b = g18 ∨ (w39.heap.size ≤ b ∧ b < w92.heap.size) := fun b h => h.imp id (fun h => ho100.lt b h)
          have hBW : w39.heap.size ≤ w92.heap.size := by have z1 := hBw; omega
          have hlL : x.2.2 = (((l.take x.2.2).map (T.mv m))).length := ho100.len
          refine WC.tail2 (S := ((fun b => b = g18 ∨ (Value.slice x.1 x.2.2 x.2.1).ownBlock = some b))) [(true, .val (.pointer (some ⟨g18, 1, none⟩))), (true, .val (.slice x.1 x.2.2 x.2.1)), (true, .val (.pointer (some ⟨g2, 1, none⟩))), (true, .val (.slice a l.length c)), (true, .val (.int .i64 (((x.2.2 : Nat) : Int)))), (true, .val (.pointer (some ⟨b102, o103 + x.2.2 * 2, none⟩))), (true, .val (.agg #[.int .i64 ((tget l x.2.2).f), .slice ((A104 x.2.2)) ((tget l x.2.2).args.length) ((C105 x.2.2))])), (true, .val (.int .i64 m)), (true, .mem (fun v w' => NewT w92 w' (((tget l x.2.2).mv m)) v) (fun v w w' hc h => InT.chg h hc (fun b hb hs => by have z := hSlt b hs; omega))), (true, .mem (fun v w' => OneRow eltT w92 32 (((tget l x.2.2).mv m)) v w') (fun v w w' hc h => h.chg hc hSlt)), (true, .val undef), (true, .val (.pointer (some ⟨g18, 1, none⟩))), (true, .val undef)] [(0, .agg #[.int .i64 f, .slice a l.length c]), (1, .int .i64 m), (2, .pointer (some ⟨g2, 0, none⟩)), (4, .pointer (some ⟨g9, 0, none⟩)), (5, .pointer (some ⟨g18, 0, none⟩)), (6, .int .i64 mn), (7, .bool ((mvOk (-1 - f) m))), (8, .int .i64 (((x.2.2 : Nat) : Int))), (14, .bool ((decide ((f : Int) < (0 : Int))))), (23, .bool ((mvOk (-1 - f) m))), (31, .bool ((decide ((((x.2.2 : Nat) : Int) : Int) < (((l.length : Nat) : Int) : Int)))))] 10 12 ((x.2.2 + 1)) 44 (fun ra rc wz => RowE eltT wz w39.heap.size 32 ra rc (x.2.2 + 1) (((l.take x.2.2).map (T.mv m) ++ [((tget l x.2.2).mv m)])) ∧ Blk wz g18 32 #[.int .i64 f, .slice x.1 x.2.2 x.2.1]) (fun ra rc wz => RowE eltT wz w39.heap.size 32 ra rc (x.2.2 + 1) (((l.take x.2.2).map (T.mv m) ++ [((tget l x.2.2).mv m)])) ∧ Blk wz g18 32 #[.int .i64 f, .slice ra ((x.2.2 + 1)) rc]) (by decide) (fun ra rc w w' hb h => ⟨h.1.below hb, h.2.below hb⟩) (fun ra rc w w' hb h => ⟨h.1.below hb, h.2.below hb⟩) ⟨rfl, rfl, rfl, rfl, rfl, rfl, rfl, rfl, rfl, rfl, rfl, trivial⟩ (by kernel_rfl) (by kernel_rfl) (by kernel_rfl) (by kernel_rfl) (by kernel_rfl) ?_ ?_
          · refine ⟨.inl ⟨rfl, true, .none rfl, (fun gg b h => by cases h), fun h w => optUndef h, fun zβ za zw zc => ?_⟩, ?_⟩
            · exact fld_32_1 rfl (zc.kn.ev rfl) ⟨_, rfl, Below.refl _ _, optDef zβ rfl⟩
            refine ⟨.inl ⟨rfl, true, .none rfl, (fun gg b h => by cases h), fun h w => optUndef h, fun zβ za zw zc => ?_⟩, ?_⟩
            · exact ld_30 rfl ((show za.eval (.tmp 34) = za.tmps.getD 34 undef from rfl).trans (optSVal (zc.dep 0 34 (by kernel_rfl) (by decide)) rfl rfl)) (bkeeps (zc.early (by kernel_rfl)) _ _ ((hB99.cell 1).trans rfl)) ⟨_, rfl, Below.refl _ _, optDef zβ rfl⟩
            refine ⟨.inl ⟨rfl, true, .none rfl, (fun gg b h => by cases h), fun h w => optUndef h, fun zβ za zw zc => ?_⟩, ?_⟩
            · exact fld_32_1 rfl (zc.kn.ev rfl) ⟨_, rfl, Below.refl _ _, optDef zβ rfl⟩
            refine ⟨.inl ⟨rfl, true, .none rfl, (fun gg b h => by cases h), fun h w => optUndef h, fun zβ za zw zc => ?_⟩, ?_⟩
            · exact ld_30 rfl ((show za.eval (.tmp 36) = za.tmps.getD 36 undef from rfl).trans (optSVal (zc.dep 2 36 (by kernel_rfl) (by decide)) rfl rfl)) (bkeeps (zc.early (by kernel_rfl)) _ _ ((hB97.cell 1).trans rfl)) ⟨_, rfl, Below.refl _ _, optDef zβ rfl⟩
            refine ⟨.inl ⟨rfl, true, .none rfl, (fun gg b h => by cases h), fun h w => optUndef h, fun zβ za zw zc => ?_⟩, ?_⟩
            · exact wp_move rfl (zc.kn.ev rfl) ⟨_, rfl, Below.refl _ _, optDef zβ rfl⟩
            refine ⟨.inl ⟨rfl, true, .none rfl, (fun gg b h => by cases h), fun h w => optUndef h, fun zβ za zw zc => ?_⟩, ?_⟩
            · exact ix_30 (k := x.2.2) rfl ((show za.eval (.tmp 37) = za.tmps.getD 37 undef from rfl).trans (optSVal (zc.dep 3 37 (by kernel_rfl) (by decide)) rfl rfl)) (ha106 x.2.2 (by first | omega | (simp; omega))) ((show za.eval (.tmp 38) = za.tmps.getD 38 undef from rfl).trans (optSVal (zc.dep 4 38 (by kernel_rfl) (by decide)) rfl rfl)) (by first | omega | (simp; omega)) ⟨_, rfl, Below.refl _ _, optDef zβ rfl⟩
            refine ⟨.inl ⟨rfl, true, .none rfl, (fun gg b h => by cases h), fun h w => optUndef h, fun zβ za zw zc => ?_⟩, ?_⟩
            · exact ld_32 rfl ((show za.eval (.tmp 39) = za.tmps.getD 39 undef from rfl).trans (optSVal (zc.dep 5 39 (by kernel_rfl) (by decide)) rfl rfl)) (bkeeps (bstep hb96 (zc.early (by kernel_rfl))) _ _ (hc107 x.2.2 (by first | omega | (simp; omega))).1) (bkeeps (bstep hb96 (zc.early (by kernel_rfl))) _ _ (hc107 x.2.2 (by first | omega | (simp; omega))).2.1) ⟨_, rfl, Below.refl _ _, optDef zβ rfl⟩
            refine ⟨.inl ⟨rfl, true, .none rfl, (fun gg b h => by cases h), fun h w => optUndef h, fun zβ za zw zc => ?_⟩, ?_⟩
            · exact wp_move rfl (zc.kn.ev rfl) ⟨_, rfl, Below.refl _ _, optDef zβ rfl⟩
            refine ⟨.inl ⟨rfl, true, .none rfl, (fun gg b h => by cases h), fun h w => optUndef h, fun zβ za zw zc => ?_⟩, ?_⟩
            · exact wp_call (by kernel_rfl) rfl (hv2 ((show za.eval (.tmp 40) = za.tmps.getD 40 undef from rfl).trans (optSVal (zc.dep 6 40 (by kernel_rfl) (by decide)) rfl rfl)) ((show za.eval (.tmp 41) = za.tmps.getD 41 undef from rfl).trans (optSVal (zc.dep 7 41 (by kernel_rfl) (by decide)) rfl rfl))) (ih _ (tget_mem (by omega)) _ _ (size_at (by omega) hz) (IsT.below (bstep hb96 (zc.early (by kernel_rfl))) (hc107 x.2.2 (by first | omega | (simp; omega))).2.2)) (fun v w' h => ⟨v, rfl, h.2, optDef zβ (InT.mono (fun b hb _ => Nat.le_trans (zc.early (by kernel_rfl)).size hb) h.1)⟩)
            refine ⟨.inl ⟨rfl, true, .none rfl, (fun gg b h => by cases h), fun h w => optUndef h, fun zβ za zw zc => ?_⟩, ?_⟩
            · have zv := (optSMem (zc.dep 8 42 (by kernel_rfl) (by decide)) rfl rfl)
              obtain ⟨_, a1, c1, e1, _⟩ := zv.form
              rw [e1] at zv
              exact row_30_1 rfl ((show za.eval (.tmp 42) = za.tmps.getD 42 undef from rfl).trans e1) ⟨_, rfl, balloc _ _, optDef zβ ⟨_, _, rfl, zc.chg.size, Blk.new' rfl, _, _, rfl, zv.below (balloc _ _)⟩⟩
            refine ⟨.inr (.inl ⟨rfl, rfl, fun za zw zc => ?_⟩), ?_⟩
            · obtain ⟨g1, cs, e1, hg1, hB1, hin⟩ := (optSMem (zc.dep 9 43 (by kernel_rfl) (by decide)) rfl rfl)
              exact wp_appE (E := eltT) (size := 2) (bytes := 32) (z := .agg #[.int .i64 0, .slice none 0 0]) rfl Try.underlying30 (by kernel_rfl) rfl (by decide) rfl ((show za.eval (.tmp 35) = za.tmps.getD 35 undef from rfl).trans (optSVal (zc.dep 1 35 (by kernel_rfl) (by decide)) rfl rfl)) ((show za.eval (.tmp 43) = za.tmps.getD 43 undef from rfl).trans e1) (ho100.below zc.below) hB1 (eltT.mono (fun b hb _ => ⟨by omega, fun e => by have z := (ho100.lt b e).2; omega⟩) hin) (by omega) (by omega) (by have z := zc.below.size; omega) (fun ra rc w' h1 h2 _ => ⟨ra, rc, rfl, ⟨h1, chg_blk (hB99.below zc.below) h2 (fun e => by have z := (ho100.lt _ e).1; omega)⟩, h2.mono (fun b hb => .inr hb)⟩)
            refine ⟨.inl ⟨rfl, true, .none rfl, (fun gg b h => by cases h), fun h w => optUndef h, fun zβ za zw zc => ?_⟩, ?_⟩
            · exact fld_32_1 rfl (zc.kn.ev rfl) ⟨_, rfl, Below.refl _ _, optDef zβ rfl⟩
            refine ⟨.inr (.inr ⟨rfl, rfl, 44, by kernel_rfl, fun za zw ra rc zk zd zv zg => ?_⟩), ?_⟩
            · exact st_30 rfl ((show za.eval (.tmp 45) = za.tmps.getD 45 undef from rfl).trans (optSVal (zd 11 45 (by kernel_rfl) (by decide)) rfl rfl)) ((show za.eval (.tmp 44) = za.tmps.getD 44 undef from rfl).trans zv) zg.2 (by first | decide | simp) (fun v => ⟨v, rfl, ⟨zg.1.upd (Upd.at_ _ _ _ _) (by omega), zg.2.set_ 1 _⟩, .ofUpd (Upd.at_ _ _ _ _) (.inl rfl)⟩)
            exact trivial
          · intro za w108 ra111 rc112 zh zv hG109 hc110 zu
            have hb113 := chg_below hb96 hc110 (fun b hb => (fun h => by rcases hSlo _ h with h | h <;> omega))
            have hB114 := chg_blk hB97 hc110 (fun h => by rcases hSlo _ h with h | h <;> omega)
            have hB115 := chg_blk hB98 hc110 (fun h => by rcases hSlo _ h with h | h <;> omega)
            clear zu
            refine (show WE _ [(0, .agg #[.int .i64 f, .slice a l.length c]), (1, .int .i64 m), (2, .pointer (some ⟨g2, 0, none⟩)), (4, .pointer (some ⟨g9, 0, none⟩)), (5, .pointer (some ⟨g18, 0, none⟩)), (6, .int .i64 mn), (7, .bool ((mvOk (-1 - f) m))), (8, .int .i64 (((x.2.2 : Nat) : Int))), (14, .bool ((decide ((f : Int) < (0 : Int))))), (23, .bool ((mvOk (-1 - f) m))), (31, .bool ((decide ((((x.2.2 : Nat) : Int) : Int) < (((l.length : Nat) : Int) : Int)))))] w108 _ .normal from ?_) za (zh.sub ⟨rfl, rfl, rfl, rfl, rfl, rfl, rfl, rfl, rfl, rfl, rfl, trivial⟩)
            refine WE.blockNormal ?_
            refine WE.next ?_
            refine WC.region ?_
            refine WL.val (.int .i64 (((x.2.2 : Nat) : Int))) rfl rfl rfl (fun za zC zh zk => wp_move rfl (zh.ev rfl) zk) ?_
            refine WL.val (.int .i64 ((((x.2.2 + 1) : Nat) : Int))) rfl rfl rfl (fun za zC zh zk => addb_3 rfl (zh.ev rfl) (zh.ev rfl) (wrap_eq (by omega) (by omega) (by omega)) zk) ?_
            refine WL.val (.int .i64 ((((x.2.2 + 1) : Nat) : Int))) rfl rfl rfl (fun za zC zh zk => wp_assign rfl (zh.ev rfl) zk) ?_
            refine WL.nil (WE.sub (K' := [(0, .agg #[.int .i64 f, .slice a l.length c]), (1, .int .i64 m), (2, .pointer (some ⟨g2, 0, none⟩)), (4, .pointer (some ⟨g9, 0, none⟩)), (5, .pointer (some ⟨g18, 0, none⟩)), (6, .int .i64 mn), (7, .bool ((mvOk (-1 - f) m))), (8, .int .i64 ((((x.2.2 + 1) : Nat) : Int))), (14, .bool ((decide ((f : Int) < (0 : Int))))), (23, .bool ((mvOk (-1 - f) m))), (31, .bool ((decide ((((x.2.2 : Nat) : Int) : Int) < (((l.length : Nat) : Int) : Int)))))]) ⟨rfl, rfl, rfl, rfl, rfl, rfl, rfl, rfl, rfl, rfl, rfl, trivial⟩ ?_)
            refine WE.round ((ra111, rc112, x.2.2 + 1)) ⟨rfl, rfl, rfl, rfl, rfl, rfl, rfl, rfl, rfl, rfl, trivial⟩ ?_ ?_
            · exact ⟨by (try dsimp only at *); omega, (Nat.le_trans hBw hc110.size), hb113, hB114, hB115, hG109.2, (by rw [← take_mv (by (try dsimp only at *); omega)]; exact hG109.1)⟩
            · dsimp only; omega
        · have h101 : ¬ ((((x.2.2 : Nat) : Int) : Int) < (((l.length : Nat) : Int) : Int)) := by simpa using h101
          refine WC.exit ?_
          refine WE.thenExit ?_
          refine WE.thenExit ?_
          refine WE.blockIs rfl ?_
          refine WE.next ?_
          refine WC.seq ?_
          refine WC.region ?_
          refine WL.val (.agg #[.int .i64 f, .slice x.1 x.2.2 x.2.1]) rfl rfl rfl (fun za zC zh zk => ld_32 rfl (zh.ev rfl) ((hB99.cell 0).trans rfl) ((hB99.cell 1).trans rfl) zk) ?_
          refine WL.step (post := fun _ w' => Upd g9 w92 w' ∧ Blk w' g9 32 #[.int .i64 f, .slice x.1 x.2.2 x.2.1]) rfl rfl rfl (fun za zC zh zk => st_32 rfl (zh.ev rfl) (zh.ev rfl) rfl rfl hB98 (by first | decide | simp) (fun v => zk v _ ⟨(Upd.at_ _ _ _ _).trans (Upd.at_ _ _ _ _), (hB98.set_ 0 _).set_ 1 _⟩)) ?_
          rintro v119 w116 ⟨hu117, hB118⟩
          have hb120 := upd_below hb96 hu117 (by omega)
          have hB121 := upd_blk hB97 hu117 (by omega)
          have hB122 := upd_blk hB99 hu117 (by omega)
          have ho123 := ho100.upd hu117 (by omega)
          refine WL.nil (WE.sub (K' := [(0, .agg #[.int .i64 f, .slice a l.length c]), (1, .int .i64 m), (2, .pointer (some ⟨g2, 0, none⟩)), (4, .pointer (some ⟨g9, 0, none⟩)), (5, .pointer (some ⟨g18, 0, none⟩)), (6, .int .i64 mn), (7, .bool ((mvOk (-1 - f) m))), (8, .int .i64 (((x.2.2 : Nat) : Int))), (14, .bool ((decide ((f : Int) < (0 : Int))))), (23, .bool ((mvOk (-1 - f) m))), (31, .bool ((decide ((((x.2.2 : Nat) : Int) : Int) < (((l.length : Nat) : Int) : Int)))))]) ⟨rfl, rfl, rfl, rfl, rfl, rfl, rfl, rfl, rfl, rfl, rfl, trivial⟩ ?_)
          refine WE.next ?_
          refine WC.ret ?_
          refine WE.retAny (v := .agg #[.int .i64 f, .slice x.1 x.2.2 x.2.1]) (fun za zh => ?_) ?_
          · have z0 : za.tmps[4]?.getD undef = .pointer (some ⟨g9, 0, none⟩) := by rw [← Array.getD_eq_getD_getElem?]; exact zh.knows 4 _ rfl
            have y0 : w116.cell? ⟨g9, 0, none⟩ = some (.int .i64 f) := ((hB118.cell 0).trans rfl)
            have y1 : w116.cell? ⟨g9, 1, none⟩ = some (.slice x.1 x.2.2 x.2.1) := ((hB118.cell 1).trans rfl)
            simp [results, Try.results15, z0, y0, y1, go_sem]
          · have z := ho123
            rw [List.take_of_length_le (by omega)] at z
            exact ⟨_, rfl, by rw [mv_mk, hmf]; exact newT_row hf z (by omega), hb120⟩
  · have h37 : ¬ ((f : Int) < (0 : Int)) := by simpa using h37
    refine WC.skip ?_
    refine WE.next ?_
    refine WC.seq ?_
    refine WC.seq ?_
    refine WC.region ?_
    refine WL.val (.int .i64 0) rfl rfl rfl (fun za zC zh zk => wp_assign rfl (zh.ev rfl) zk) ?_
    refine WL.nil (WE.sub (K' := [(0, .agg #[.int .i64 f, .slice a l.length c]), (1, .int .i64 m), (2, .pointer (some ⟨g2, 0, none⟩)), (4, .pointer (some ⟨g9, 0, none⟩)), (5, .pointer (some ⟨g18, 0, none⟩)), (8, .int .i64 0), (14, .bool ((decide ((f : Int) < (0 : Int)))))]) ⟨rfl, rfl, rfl, rfl, rfl, rfl, rfl, trivial⟩ ?_)
    refine WE.next ?_
    refine WC.block ?_
    have hl124 : g2 < w27.heap.size := by have z1 := hB34.lt; omega
    have hl125 : g9 < w27.heap.size := by have z1 := hB36.lt; omega
    have hl126 : g18 < w27.heap.size := by have z1 := hB29.lt; omega
    have hl127 : w.heap.size ≤ w27.heap.size := (hb32).size
    have hR128 : RowE eltT w27 w27.heap.size 32 none 0 0 [] := RowE.nil
    refine WC.loop (X := Option Addr × Nat × Nat) (fun x => l.length - x.2.2) (fun x => [(0, .agg #[.int .i64 f, .slice a l.length c]), (1, .int .i64 m), (2, .pointer (some ⟨g2, 0, none⟩)), (4, .pointer (some ⟨g9, 0, none⟩)), (5, .pointer (some ⟨g18, 0, none⟩)), (8, .int .i64 (((x.2.2 : Nat) : Int))), (14, .bool ((decide ((f : Int) < (0 : Int)))))]) (fun x w129 => x.2.2 ≤ l.length ∧ w27.heap.size ≤ (w129).heap.size ∧ Below w.heap.size w w129 ∧ Blk w129 g2 32 #[.int .i64 f, .slice a l.length c] ∧ Blk w129 g9 32 #[.int .i64 0, .slice none 0 0] ∧ Blk w129 g18 32 #[.int .i64 f, .slice x.1 x.2.2 x.2.1] ∧ RowE eltT (w129) w27.heap.size 32 x.1 x.2.1 x.2.2 ((l.take x.2.2).map (T.mv m))) ((none, 0, 0)) ⟨rfl, rfl, rfl, rfl, rfl, rfl, rfl, trivial⟩ ?_ ?_
    · exact ⟨Nat.zero_le _, Nat.le_refl _, hb32, hB34, hB36, hB29, (by simpa using hR128)⟩
    · rintro x w129 ⟨hk, hBw, hb130, hB131, hB132, hB133, ho134⟩
      refine WC.seq ?_
      refine WC.seq ?_
      refine WC.region ?_
      refine WL.val (.int .i64 (((x.2.2 : Nat) : Int))) rfl rfl rfl (fun za zC zh zk => wp_move rfl (zh.ev rfl) zk) ?_
      refine WL.val (.pointer (some ⟨g2, 1, none⟩)) rfl rfl rfl (fun za zC zh zk => fld_32_1 rfl (zh.ev rfl) zk) ?_
      refine WL.val (.slice a l.length c) rfl rfl rfl (fun za zC zh zk => ld_30 rfl (zh.ev rfl) ((hB131.cell 1).trans rfl) zk) ?_
      refine WL.val (.int .i64 (((l.length : Nat) : Int))) rfl rfl rfl (fun za zC zh zk => len_30 rfl (zh.ev rfl) zk) ?_
      refine WL.val (.bool ((decide ((((x.2.2 : Nat) : Int) : Int) < (((l.length : Nat) : Int) : Int))))) rfl rfl rfl (fun za zC zh zk => lss_3 rfl (zh.ev rfl) (zh.ev rfl) zk) ?_
      refine WL.nil (WE.sub (K' := [(0, .agg #[.int .i64 f, .slice a l.length c]), (1, .int .i64 m), (2, .pointer (some ⟨g2, 0, none⟩)), (4, .pointer (some ⟨g9, 0, none⟩)), (5, .pointer (some ⟨g18, 0, none⟩)), (8, .int .i64 (((x.2.2 : Nat) : Int))), (14, .bool ((decide ((f : Int) < (0 : Int))))), (31, .bool ((decide ((((x.2.2 : Nat) : Int) : Int) < (((l.length : Nat) : Int) : Int)))))]) ⟨rfl, rfl, rfl, rfl, rfl, rfl, rfl, rfl, trivial⟩ ?_)
      refine WE.next ?_
      refine WC.cond rfl (fun h135 => ?_) (fun h135 => ?_)
      · have h135 : (((x.2.2 : Nat) : Int) : Int) < (((l.length : Nat) : Int) : Int) := by simpa using h135
        refine WC.skip ?_
        refine WE.next ?_
        refine WC.seq ?_
        refine WC.block ?_
        obtain ⟨b136, o137, A138, C139, ha140, hc141⟩ := IsTs.open hl
        have hSlt : ∀ b, (fun b => b = g18 ∨ (Value.slice x.1 x.2.2 x.2.1).ownBlock = some b) b → b < w129.heap.size := fun b h => h.elim (fun e => e ▸ hB133.lt) (fun h => (ho134.lt b h).2)
        have hSlo : ∀ b, (fun b => b = g18 ∨ (Value.slice x.1 x.2.2 x.2.1).ownBlock = some b) b → b = g18 ∨ (w27.heap.size ≤ b ∧ b < w129.heap.size) := fun b h => h.imp id (fun h => ho134.lt b h)
        have hBW : w27.heap.size ≤ w129.heap.size := by have z1 := hBw; omega
        have hlL : x.2.2 = (((l.take x.2.2).map (T.mv m))).length := ho134.len
        refine WC.tail2 (S := ((fun b => b = g18 ∨ (Value.slice x.1 x.2.2 x.2.1).ownBlock = some b))) [(true, .val (.pointer (some ⟨g18, 1, none⟩))), (true, .val (.slice x.1 x.2.2 x.2.1)), (true, .val (.pointer (some ⟨g2, 1, none⟩))), (true, .val (.slice a l.length c)), (true, .val (.int .i64 (((x.2.2 : Nat) : Int)))), (true, .val (.pointer (some ⟨b136, o137 + x.2.2 * 2, none⟩))), (true, .val (.agg #[.int .i64 ((tget l x.2.2).f), .slice ((A138 x.2.2)) ((tget l x.2.2).args.length) ((C139 x.2.2))])), (true, .val (.int .i64 m)), (true, .mem (fun v w' => NewT w129 w' (((tget l x.2.2).mv m)) v) (fun v w w' hc h => InT.chg h hc (fun b hb hs => by have z := hSlt b hs; omega))), (true, .mem (fun v w' => OneRow eltT w129 32 (((tget l x.2.2).mv m)) v w') (fun v w w' hc h => h.chg hc hSlt)), (true, .val undef), (true, .val (.pointer (some ⟨g18, 1, none⟩))), (true, .val undef)] [(0, .agg #[.int .i64 f, .slice a l.length c]), (1, .int .i64 m), (2, .pointer (some ⟨g2, 0, none⟩)), (4, .pointer (some ⟨g9, 0, none⟩)), (5, .pointer (some ⟨g18, 0, none⟩)), (8, .int .i64 (((x.2.2 : Nat) : Int))), (14, .bool ((decide ((f : Int) < (0 : Int))))), (31, .bool ((decide ((((x.2.2 : Nat) : Int) : Int) < (((l.length : Nat) : Int) : Int)))))] 10 12 ((x.2.2 + 1)) 44 (fun ra rc wz => RowE eltT wz w27.heap.size 32 ra rc (x.2.2 + 1) (((l.take x.2.2).map (T.mv m) ++ [((tget l x.2.2).mv m)])) ∧ Blk wz g18 32 #[.int .i64 f, .slice x.1 x.2.2 x.2.1]) (fun ra rc wz => RowE eltT wz w27.heap.size 32 ra rc (x.2.2 + 1) (((l.take x.2.2).map (T.mv m) ++ [((tget l x.2.2).mv m)])) ∧ Blk wz g18 32 #[.int .i64 f, .slice ra ((x.2.2 + 1)) rc]) (by decide) (fun ra rc w w' hb h => ⟨h.1.below hb, h.2.below hb⟩) (fun ra rc w w' hb h => ⟨h.1.below hb, h.2.below hb⟩) ⟨rfl, rfl, rfl, rfl, rfl, rfl, rfl, rfl, trivial⟩ (by kernel_rfl) (by kernel_rfl) (by kernel_rfl) (by kernel_rfl) (by kernel_rfl) ?_ ?_
        · refine ⟨.inl ⟨rfl, true, .none rfl, (fun gg b h => by cases h), fun h w => optUndef h, fun zβ za zw zc => ?_⟩, ?_⟩
          · exact fld_32_1 rfl (zc.kn.ev rfl) ⟨_, rfl, Below.refl _ _, optDef zβ rfl⟩
          refine ⟨.inl ⟨rfl, true, .none rfl, (fun gg b h => by cases h), fun h w => optUndef h, fun zβ za zw zc => ?_⟩, ?_⟩
          · exact ld_30 rfl ((show za.eval (.tmp 34) = za.tmps.getD 34 undef from rfl).trans (optSVal (zc.dep 0 34 (by kernel_rfl) (by decide)) rfl rfl)) (bkeeps (zc.early (by kernel_rfl)) _ _ ((hB133.cell 1).trans rfl)) ⟨_, rfl, Below.refl _ _, optDef zβ rfl⟩
          refine ⟨.inl ⟨rfl, true, .none rfl, (fun gg b h => by cases h), fun h w => optUndef h, fun zβ za zw zc => ?_⟩, ?_⟩
          · exact fld_32_1 rfl (zc.kn.ev rfl) ⟨_, rfl, Below.refl _ _, optDef zβ rfl⟩
          refine ⟨.inl ⟨rfl, true, .none rfl, (fun gg b h => by cases h), fun h w => optUndef h, fun zβ za zw zc => ?_⟩, ?_⟩
          · exact ld_30 rfl ((show za.eval (.tmp 36) = za.tmps.getD 36 undef from rfl).trans (optSVal (zc.dep 2 36 (by kernel_rfl) (by decide)) rfl rfl)) (bkeeps (zc.early (by kernel_rfl)) _ _ ((hB131.cell 1).trans rfl)) ⟨_, rfl, Below.refl _ _, optDef zβ rfl⟩
          refine ⟨.inl ⟨rfl, true, .none rfl, (fun gg b h => by cases h), fun h w => optUndef h, fun zβ za zw zc => ?_⟩, ?_⟩
          · exact wp_move rfl (zc.kn.ev rfl) ⟨_, rfl, Below.refl _ _, optDef zβ rfl⟩
          refine ⟨.inl ⟨rfl, true, .none rfl, (fun gg b h => by cases h), fun h w => optUndef h, fun zβ za zw zc => ?_⟩, ?_⟩
          · exact ix_30 (k := x.2.2) rfl ((show za.eval (.tmp 37) = za.tmps.getD 37 undef from rfl).trans (optSVal (zc.dep 3 37 (by kernel_rfl) (by decide)) rfl rfl)) (ha140 x.2.2 (by first | omega | (simp; omega))) ((show za.eval (.tmp 38) = za.tmps.getD 38 undef from rfl).trans (optSVal (zc.dep 4 38 (by kernel_rfl) (by decide)) rfl rfl)) (by first | omega | (simp; omega)) ⟨_, rfl, Below.refl _ _, optDef zβ rfl⟩
          refine ⟨.inl ⟨rfl, true, .none rfl, (fun gg b h => by cases h), fun h w => optUndef h, fun zβ za zw zc => ?_⟩, ?_⟩
          · exact ld_32 rfl ((show za.eval (.tmp 39) = za.tmps.getD 39 undef from rfl).trans (optSVal (zc.dep 5 39 (by kernel_rfl) (by decide)) rfl rfl)) (bkeeps (bstep hb130 (zc.early (by kernel_rfl))) _ _ (hc141 x.2.2 (by first | omega | (simp; omega))).1) (bkeeps (bstep hb130 (zc.early (by kernel_rfl))) _ _ (hc141 x.2.2 (by first | omega | (simp; omega))).2.1) ⟨_, rfl, Below.refl _ _, optDef zβ rfl⟩
          refine ⟨.inl ⟨rfl, true, .none rfl, (fun gg b h => by cases h), fun h w => optUndef h, fun zβ za zw zc => ?_⟩, ?_⟩
          · exact wp_move rfl (zc.kn.ev rfl) ⟨_, rfl, Below.refl _ _, optDef zβ rfl⟩
          refine ⟨.inl ⟨rfl, true, .none rfl, (fun gg b h => by cases h), fun h w => optUndef h, fun zβ za zw zc => ?_⟩, ?_⟩
          · exact wp_call (by kernel_rfl) rfl (hv2 ((show za.eval (.tmp 40) = za.tmps.getD 40 undef from rfl).trans (optSVal (zc.dep 6 40 (by kernel_rfl) (by decide)) rfl rfl)) ((show za.eval (.tmp 41) = za.tmps.getD 41 undef from rfl).trans (optSVal (zc.dep 7 41 (by kernel_rfl) (by decide)) rfl rfl))) (ih _ (tget_mem (by omega)) _ _ (size_at (by omega) hz) (IsT.below (bstep hb130 (zc.early (by kernel_rfl))) (hc141 x.2.2 (by first | omega | (simp; omega))).2.2)) (fun v w' h => ⟨v, rfl, h.2, optDef zβ (InT.mono (fun b hb _ => Nat.le_trans (zc.early (by kernel_rfl)).size hb) h.1)⟩)
          refine ⟨.inl ⟨rfl, true, .none rfl, (fun gg b h => by cases h), fun h w => optUndef h, fun zβ za zw zc => ?_⟩, ?_⟩
          · have zv := (optSMem (zc.dep 8 42 (by kernel_rfl) (by decide)) rfl rfl)
            obtain ⟨_, a1, c1, e1, _⟩ := zv.form
            rw [e1] at zv
            exact row_30_1 rfl ((show za.eval (.tmp 42) = za.tmps.getD 42 undef from rfl).trans e1) ⟨_, rfl, balloc _ _, optDef zβ ⟨_, _, rfl, zc.chg.size, Blk.new' rfl, _, _, rfl, zv.below (balloc _ _)⟩⟩
          refine ⟨.inr (.inl ⟨rfl, rfl, fun za zw zc => ?_⟩), ?_⟩
          · obtain ⟨g1, cs, e1, hg1, hB1, hin⟩ := (optSMem (zc.dep 9 43 (by kernel_rfl) (by decide)) rfl rfl)
            exact wp_appE (E := eltT) (size := 2) (bytes := 32) (z := .agg #[.int .i64 0, .slice none 0 0]) rfl Try.underlying30 (by kernel_rfl) rfl (by decide) rfl ((show za.eval (.tmp 35) = za.tmps.getD 35 undef from rfl).trans (optSVal (zc.dep 1 35 (by kernel_rfl) (by decide)) rfl rfl)) ((show za.eval (.tmp 43) = za.tmps.getD 43 undef from rfl).trans e1) (ho134.below zc.below) hB1 (eltT.mono (fun b hb _ => ⟨by omega, fun e => by have z := (ho134.lt b e).2; omega⟩) hin) (by omega) (by omega) (by have z := zc.below.size; omega) (fun ra rc w' h1 h2 _ => ⟨ra, rc, rfl, ⟨h1, chg_blk (hB133.below zc.below) h2 (fun e => by have z := (ho134.lt _ e).1; omega)⟩, h2.mono (fun b hb => .inr hb)⟩)
          refine ⟨.inl ⟨rfl, true, .none rfl, (fun gg b h => by cases h), fun h w => optUndef h, fun zβ za zw zc => ?_⟩, ?_⟩
          · exact fld_32_1 rfl (zc.kn.ev rfl) ⟨_, rfl, Below.refl _ _, optDef zβ rfl⟩
          refine ⟨.inr (.inr ⟨rfl, rfl, 44, by kernel_rfl, fun za zw ra rc zk zd zv zg => ?_⟩), ?_⟩
          · exact st_30 rfl ((show za.eval (.tmp 45) = za.tmps.getD 45 undef from rfl).trans (optSVal (zd 11 45 (by kernel_rfl) (by decide)) rfl rfl)) ((show za.eval (.tmp 44) = za.tmps.getD 44 undef from rfl).trans zv) zg.2 (by first | decide | simp) (fun v => ⟨v, rfl, ⟨zg.1.upd (Upd.at_ _ _ _ _) (by omega), zg.2.set_ 1 _⟩, .ofUpd (Upd.at_ _ _ _ _) (.inl rfl)⟩)
          exact trivial
        · intro za w142 ra145 rc146 zh zv hG143 hc144 zu
          have hb147 := chg_below hb130 hc144 (fun b hb => (fun h => by rcases hSlo _ h with h | h <;> omega))
          have hB148 := chg_blk hB131 hc144 (fun h => by rcases hSlo _ h with h | h <;> omega)
          have hB149 := chg_blk hB132 hc144 (fun h => by rcases hSlo _ h with h | h <;> omega)
          clear zu
          refine (show WE _ [(0, .agg #[.int .i64 f, .slice a l.length c]), (1, .int .i64 m), (2, .pointer (some ⟨g2, 0, none⟩)), (4, .pointer (some ⟨g9, 0, none⟩)), (5, .pointer (some ⟨g18, 0, none⟩)), (8, .int .i64 (((x.2.2 : Nat) : Int))), (14, .bool ((decide ((f : Int) < (0 : Int))))), (31, .bool ((decide ((((x.2.2 : Nat) : Int) : Int) < (((l.length : Nat) : Int) : Int)))))] w142 _ .normal from ?_) za (zh.sub ⟨rfl, rfl, rfl, rfl, rfl, rfl, rfl, rfl, trivial⟩)
          refine WE.blockNormal ?_
          refine WE.next ?_
          refine WC.region ?_
          refine WL.val (.int .i64 (((x.2.2 : Nat) : Int))) rfl rfl rfl (fun za zC zh zk => wp_move rfl (zh.ev rfl) zk) ?_
          refine WL.val (.int .i64 ((((x.2.2 + 1) : Nat) : Int))) rfl rfl rfl (fun za zC zh zk => addb_3 rfl (zh.ev rfl) (zh.ev rfl) (wrap_eq (by omega) (by omega) (by omega)) zk) ?_
          refine WL.val (.int .i64 ((((x.2.2 + 1) : Nat) : Int))) rfl rfl rfl (fun za zC zh zk => wp_assign rfl (zh.ev rfl) zk) ?_
          refine WL.nil (WE.sub (K' := [(0, .agg #[.int .i64 f, .slice a l.length c]), (1, .int .i64 m), (2, .pointer (some ⟨g2, 0, none⟩)), (4, .pointer (some ⟨g9, 0, none⟩)), (5, .pointer (some ⟨g18, 0, none⟩)), (8, .int .i64 ((((x.2.2 + 1) : Nat) : Int))), (14, .bool ((decide ((f : Int) < (0 : Int))))), (31, .bool ((decide ((((x.2.2 : Nat) : Int) : Int) < (((l.length : Nat) : Int) : Int)))))]) ⟨rfl, rfl, rfl, rfl, rfl, rfl, rfl, rfl, trivial⟩ ?_)
          refine WE.round ((ra145, rc146, x.2.2 + 1)) ⟨rfl, rfl, rfl, rfl, rfl, rfl, rfl, trivial⟩ ?_ ?_
          · exact ⟨by (try dsimp only at *); omega, (Nat.le_trans hBw hc144.size), hb147, hB148, hB149, hG143.2, (by rw [← take_mv (by (try dsimp only at *); omega)]; exact hG143.1)⟩
          · dsimp only; omega
      · have h135 : ¬ ((((x.2.2 : Nat) : Int) : Int) < (((l.length : Nat) : Int) : Int)) := by simpa using h135
        refine WC.exit ?_
        refine WE.thenExit ?_
        refine WE.thenExit ?_
        refine WE.blockIs rfl ?_
        refine WE.next ?_
        refine WC.seq ?_
        refine WC.region ?_
        refine WL.val (.agg #[.int .i64 f, .slice x.1 x.2.2 x.2.1]) rfl rfl rfl (fun za zC zh zk => ld_32 rfl (zh.ev rfl) ((hB133.cell 0).trans rfl) ((hB133.cell 1).trans rfl) zk) ?_
        refine WL.step (post := fun _ w' => Upd g9 w129 w' ∧ Blk w' g9 32 #[.int .i64 f, .slice x.1 x.2.2 x.2.1]) rfl rfl rfl (fun za zC zh zk => st_32 rfl (zh.ev rfl) (zh.ev rfl) rfl rfl hB132 (by first | decide | simp) (fun v => zk v _ ⟨(Upd.at_ _ _ _ _).trans (Upd.at_ _ _ _ _), (hB132.set_ 0 _).set_ 1 _⟩)) ?_
        rintro v153 w150 ⟨hu151, hB152⟩
        have hb154 := upd_below hb130 hu151 (by omega)
        have hB155 := upd_blk hB131 hu151 (by omega)
        have hB156 := upd_blk hB133 hu151 (by omega)
        have ho157 := ho134.upd hu151 (by omega)
        refine WL.nil (WE.sub (K' := [(0, .agg #[.int .i64 f, .slice a l.length c]), (1, .int .i64 m), (2, .pointer (some ⟨g2, 0, none⟩)), (4, .pointer (some ⟨g9, 0, none⟩)), (5, .pointer (some ⟨g18, 0, none⟩)), (8, .int .i64 (((x.2.2 : Nat) : Int))), (14, .bool ((decide ((f : Int) < (0 : Int))))), (31, .bool ((decide ((((x.2.2 : Nat) : Int) : Int) < (((l.length : Nat) : Int) : Int)))))]) ⟨rfl, rfl, rfl, rfl, rfl, rfl, rfl, rfl, trivial⟩ ?_)
        refine WE.next ?_
        refine WC.ret ?_
        refine WE.retAny (v := .agg #[.int .i64 f, .slice x.1 x.2.2 x.2.1]) (fun za zh => ?_) ?_
        · have z0 : za.tmps[4]?.getD undef = .pointer (some ⟨g9, 0, none⟩) := by rw [← Array.getD_eq_getD_getElem?]; exact zh.knows 4 _ rfl
          have y0 : w150.cell? ⟨g9, 0, none⟩ = some (.int .i64 f) := ((hB152.cell 0).trans rfl)
          have y1 : w150.cell? ⟨g9, 1, none⟩ = some (.slice x.1 x.2.2 x.2.1) := ((hB152.cell 1).trans rfl)
          simp [results, Try.results15, z0, y0, y1, go_sem]
        · have z := ho157
          rw [List.take_of_length_le (by omega)] at z
          exact ⟨_, rfl, by rw [mv_mk, mvF_pos ‹_›]; exact newT_row hf z (by omega), hb154⟩

end Go.Proofs.Ytnblndmjjokepaa
