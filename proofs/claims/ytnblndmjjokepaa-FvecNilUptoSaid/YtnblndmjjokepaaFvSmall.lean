/- Small functions: how often and how deep a symbol stands; rows of numbers. -/
import Derived.Test.YtnblndmjjokepaaFvPlain
import Derived.Test.YtnblndmjjokepaaNums
import Derived.Test.YtnblndmjjokepaaKOps
import Derived.Test.YtnblndmjjokepaaSize
import Derived.Test.YtnblndmjjokepaaGenH
namespace Go.Proofs.Ytnblndmjjokepaa
open Go.RowKit Go
set_option linter.unusedVariables false
set_option linter.unusedSimpArgs false

theorem len_le_sizeL2 : ∀ l : List T, l.length ≤ T.sizeL l
  | [] => Nat.le_refl _
  | a :: r => by
    have := len_le_sizeL2 r
    have := T.size_eq a
    rw [T.sizeL, List.length_cons]; omega
theorem size_at2 {l : List T} {f : Int} {k : Nat} (hk : k < l.length) (hz : (T.mk f l).size ≤ 4294967296) : (tget l k).size ≤ 4294967296 := by
  have := T.size_le_sizeL (tget_mem hk)
  rw [T.size] at hz; omega
theorem rsize_ok (t : T) (w : World) (v : Value) (hz : t.size ≤ 4294967296) (hv : IsT w t v) : Calls Try.prog 27 #[v] w (Ret fun v' w' => v' = .int .i64 (t.size : Int) ∧ Below w.heap.size w w') :=
  (size_any t w v hv).mono fun e w' ⟨h1, h2⟩ => ⟨_, h1, by rw [wrap64_id (by omega)], h2⟩
theorem often_take_le {l : List T} {k f : Nat} : T.oftenL (l.take k) f ≤ T.sizeL l := by
  have h : ∀ l : List T, T.oftenL l f ≤ T.sizeL l := by
    intro l; induction l with
    | nil => simp [T.oftenL]
    | cons a r ih => rw [T.oftenL, T.sizeL]; have := T.often_le a f; omega
  have h1 := h (l.take k)
  have h2 := T.sizeL_take_le l k
  omega
theorem deep_take_le {l : List T} {k f d : Nat} : T.deepL (l.take k) f d ≤ d + T.sizeL l := by
  have h : ∀ l : List T, T.deepL l f d ≤ d + T.sizeL l := by
    intro l; induction l with
    | nil => simp [T.deepL]
    | cons a r ih => rw [T.deepL, T.sizeL]; have := T.deep_le a f d; omega
  have h1 := h (l.take k)
  have h2 := T.sizeL_take_le l k
  omega
theorem wp_max3 {P : Program} {w : World} {a : Act} {K : Act → World → Prop} {Q : Exit → Act → World → Prop} {o : Oper} {x y : Operand} {m n r : Int} (ho : o.op = .call { callee := .builtin .max, args := #[x, y], argTypes := #[3, 3] }) (hx : a.eval x = .int .i64 m) (hy : a.eval y = .int .i64 n) (hr : r = max m n) (hK : K (a.put o.dst (.int .i64 r)) w) : o.wp P a w K Q := by
  subst hr
  unfold Oper.wp execOp
  simp only [ho, resolve, invoke, builtin, Sem.run_bind, Sem.run_pure, Result.andThen_ok, List.map_toArray, List.map_cons, List.map_nil, hx, hy]
  go_simp
  first
    | exact hK
    | (have e : max m n = (if m < n then n else m) := by split <;> omega
       rw [e] at hK
       exact hK)
set_option maxRecDepth 100000 in
theorem often_any (f : Nat) (hfl : f ≤ 1024) : ∀ (t : T) (w : World) (v : Value), t.size ≤ 4294967296 → IsT w t v → Calls Try.prog 30 #[v, .int .i64 (f : Int)] w (Ret fun v' w' => v' = .int .i64 (t.often f : Int) ∧ Below w.heap.size w w') := by
  refine T.ind (fun g l ih => ?_)
  intro w v hz hv
  have hv0 := hv
  have hlen := len_le_sizeL2 l
  have hz' := hz
  simp only [T.size] at hz'
  obtain ⟨hf, a, c, rfl, hc, hm, hl⟩ := hv
  have hf' := hf
  unfold I64 at hf'
  refine Calls.walk (l := [.agg #[.int .i64 g, .slice a l.length c], .int .i64 (((f : Nat) : Int))]) Try.func30 rfl (by kernel_rfl) ?_
  refine WC.sub (K' := [(0, .agg #[.int .i64 g, .slice a l.length c]), (1, .int .i64 (((f : Nat) : Int)))]) ⟨rfl, rfl, trivial⟩ ?_
  refine WC.seq ?_
  refine WC.region ?_
  refine WL.step (post := NewBlk w 32 #[.int .i64 g, .slice a l.length c]) rfl rfl rfl (fun za zC zh zk => box_32 rfl (zh.ev rfl) (zk _ _ (newBlk _ _ _))) ?_
  rintro _ w1 ⟨g2, rfl, hg3, hB4, hb5, hz6⟩
  have hl7 : w.heap.size ≤ g2 := by omega
  refine WL.val (.int .i64 0) rfl rfl rfl (fun za zC zh zk => wp_assign rfl (zh.ev rfl) zk) ?_
  refine WL.nil (WE.sub (K' := [(0, .agg #[.int .i64 g, .slice a l.length c]), (1, .int .i64 (((f : Nat) : Int))), (2, .pointer (some ⟨g2, 0, none⟩)), (4, .int .i64 0)]) ⟨rfl, rfl, rfl, rfl, trivial⟩ ?_)
  refine WE.next ?_
  refine WC.seq ?_
  refine WC.region ?_
  refine WL.val (.int .i64 0) rfl rfl rfl (fun za zC zh zk => wp_assign rfl (zh.ev rfl) zk) ?_
  refine WL.nil (WE.sub (K' := [(0, .agg #[.int .i64 g, .slice a l.length c]), (1, .int .i64 (((f : Nat) : Int))), (2, .pointer (some ⟨g2, 0, none⟩)), (4, .int .i64 0), (5, .int .i64 0)]) ⟨rfl, rfl, rfl, rfl, rfl, trivial⟩ ?_)
  refine WE.next ?_
  refine WC.seq ?_
  refine WC.seq ?_
  refine WC.region ?_
  refine WL.val (.pointer (some ⟨g2, 0, none⟩)) rfl rfl rfl (fun za zC zh zk => fld_32_0 rfl (zh.ev rfl) zk) ?_
  refine WL.val (.int .i64 g) rfl rfl rfl (fun za zC zh zk => ld_3 rfl (zh.ev rfl) ((hB4.cell 0).trans rfl) zk) ?_
  refine WL.val (.int .i64 (((f : Nat) : Int))) rfl rfl rfl (fun za zC zh zk => wp_move rfl (zh.ev rfl) zk) ?_
  refine WL.val (.bool (((g : Int) == (((f : Nat) : Int) : Int)))) rfl rfl rfl (fun za zC zh zk => eql_3 rfl (zh.ev rfl) (zh.ev rfl) zk) ?_
  refine WL.nil (WE.sub (K' := [(0, .agg #[.int .i64 g, .slice a l.length c]), (1, .int .i64 (((f : Nat) : Int))), (2, .pointer (some ⟨g2, 0, none⟩)), (4, .int .i64 0), (5, .int .i64 0), (10, .bool (((g : Int) == (((f : Nat) : Int) : Int))))]) ⟨rfl, rfl, rfl, rfl, rfl, rfl, trivial⟩ ?_)
  refine WE.next ?_
  refine WC.cond rfl (fun h8 => ?_) (fun h8 => ?_)
  · have h8 : (g : Int) = (((f : Nat) : Int) : Int) := by simpa using h8
    refine WC.region ?_
    refine WL.val (.int .i64 1) rfl rfl rfl (fun za zC zh zk => wp_assign rfl (zh.ev rfl) zk) ?_
    refine WL.nil (WE.sub (K' := [(0, .agg #[.int .i64 g, .slice a l.length c]), (1, .int .i64 (((f : Nat) : Int))), (2, .pointer (some ⟨g2, 0, none⟩)), (4, .int .i64 0), (5, .int .i64 1), (10, .bool (((g : Int) == (((f : Nat) : Int) : Int))))]) ⟨rfl, rfl, rfl, rfl, rfl, rfl, trivial⟩ ?_)
    refine WE.next ?_
    refine WC.seq ?_
    refine WC.seq ?_
    refine WC.region ?_
    refine WL.val (.int .i64 0) rfl rfl rfl (fun za zC zh zk => wp_assign rfl (zh.ev rfl) zk) ?_
    refine WL.nil (WE.sub (K' := [(0, .agg #[.int .i64 g, .slice a l.length c]), (1, .int .i64 (((f : Nat) : Int))), (2, .pointer (some ⟨g2, 0, none⟩)), (4, .int .i64 0), (5, .int .i64 1), (6, .int .i64 0), (10, .bool (((g : Int) == (((f : Nat) : Int) : Int))))]) ⟨rfl, rfl, rfl, rfl, rfl, rfl, rfl, trivial⟩ ?_)
    refine WE.next ?_
    refine WC.block ?_
    have hb0 : (if g = (f : Int) then 1 else 0) = (1 : Nat) := if_pos h8
    refine WC.loop (X := Nat) (fun k => l.length - k) (fun k => [(0, .agg #[.int .i64 g, .slice a l.length c]), (1, .int .i64 (((f : Nat) : Int))), (2, .pointer (some ⟨g2, 0, none⟩)), (4, .int .i64 0), (5, .int .i64 ((((1 + T.oftenL (l.take k) f) : Nat) : Int))), (6, .int .i64 (((k : Nat) : Int))), (10, .bool (((g : Int) == (((f : Nat) : Int) : Int))))]) (fun k w9 => k ≤ l.length ∧ Below w.heap.size w w9 ∧ Blk w9 g2 32 #[.int .i64 g, .slice a l.length c]) 0 ⟨rfl, rfl, rfl, rfl, rfl, rfl, rfl, trivial⟩ ?_ ?_
    · exact ⟨Nat.zero_le _, hb5, hB4⟩
    · rintro k w9 ⟨hk, hb10, hB11⟩
      refine WC.seq ?_
      refine WC.seq ?_
      refine WC.region ?_
      refine WL.val (.int .i64 (((k : Nat) : Int))) rfl rfl rfl (fun za zC zh zk => wp_move rfl (zh.ev rfl) zk) ?_
      refine WL.val (.pointer (some ⟨g2, 1, none⟩)) rfl rfl rfl (fun za zC zh zk => fld_32_1 rfl (zh.ev rfl) zk) ?_
      refine WL.val (.slice a l.length c) rfl rfl rfl (fun za zC zh zk => ld_30 rfl (zh.ev rfl) ((hB11.cell 1).trans rfl) zk) ?_
      refine WL.val (.int .i64 (((l.length : Nat) : Int))) rfl rfl rfl (fun za zC zh zk => len_30 rfl (zh.ev rfl) zk) ?_
      refine WL.val (.bool ((decide ((((k : Nat) : Int) : Int) < (((l.length : Nat) : Int) : Int))))) rfl rfl rfl (fun za zC zh zk => lss_3 rfl (zh.ev rfl) (zh.ev rfl) zk) ?_
      refine WL.nil (WE.sub (K' := [(0, .agg #[.int .i64 g, .slice a l.length c]), (1, .int .i64 (((f : Nat) : Int))), (2, .pointer (some ⟨g2, 0, none⟩)), (4, .int .i64 0), (5, .int .i64 ((((1 + T.oftenL (l.take k) f) : Nat) : Int))), (6, .int .i64 (((k : Nat) : Int))), (10, .bool (((g : Int) == (((f : Nat) : Int) : Int)))), (15, .bool ((decide ((((k : Nat) : Int) : Int) < (((l.length : Nat) : Int) : Int)))))]) ⟨rfl, rfl, rfl, rfl, rfl, rfl, rfl, rfl, trivial⟩ ?_)
      refine WE.next ?_
      refine WC.cond rfl (fun h12 => ?_) (fun h12 => ?_)
      · have h12 : (((k : Nat) : Int) : Int) < (((l.length : Nat) : Int) : Int) := by simpa using h12
        refine WC.skip ?_
        refine WE.next ?_
        refine WC.seq ?_
        refine WC.block ?_
        refine WC.region ?_
        refine WL.val (.int .i64 ((((1 + T.oftenL (l.take k) f) : Nat) : Int))) rfl rfl rfl (fun za zC zh zk => wp_move rfl (zh.ev rfl) zk) ?_
        refine WL.val (.pointer (some ⟨g2, 1, none⟩)) rfl rfl rfl (fun za zC zh zk => fld_32_1 rfl (zh.ev rfl) zk) ?_
        refine WL.val (.slice a l.length c) rfl rfl rfl (fun za zC zh zk => ld_30 rfl (zh.ev rfl) ((hB11.cell 1).trans rfl) zk) ?_
        refine WL.val (.int .i64 (((k : Nat) : Int))) rfl rfl rfl (fun za zC zh zk => wp_move rfl (zh.ev rfl) zk) ?_
        obtain ⟨b13, o14, A15, C16, ha17, hc18⟩ := IsTs.open hl
        refine WL.val (.pointer (some ⟨b13, o14 + k * 2, none⟩)) rfl rfl rfl (fun za zC zh zk => ix_30 (k := k) rfl (zh.ev rfl) (ha17 k (by first | omega | (simp; omega))) (zh.ev rfl) (by first | omega | (simp; omega)) zk) ?_
        refine WL.val (.agg #[.int .i64 ((tget l k).f), .slice ((A15 k)) ((tget l k).args.length) ((C16 k))]) rfl rfl rfl (fun za zC zh zk => ld_32 rfl (zh.ev rfl) (bkeeps hb10 _ _ (hc18 k (by first | omega | (simp; omega))).1) (bkeeps hb10 _ _ (hc18 k (by first | omega | (simp; omega))).2.1) zk) ?_
        refine WL.val (.int .i64 (((f : Nat) : Int))) rfl rfl rfl (fun za zC zh zk => wp_move rfl (zh.ev rfl) zk) ?_
        refine WL.call rfl rfl rfl (fun za zh zC => wp_call (by kernel_rfl) rfl (hv2 (zh.ev rfl) (zh.ev rfl))) (ih _ (tget_mem (by omega)) _ _ (size_at2 (by omega) hz) (IsT.below hb10 (hc18 k (by first | omega | (simp; omega))).2.2)) ?_
        rintro _ w20 ⟨rfl, hq19⟩
        refine WL.val (.int .i64 ((((1 + T.oftenL (l.take (k + 1)) f) : Nat) : Int))) rfl rfl rfl (fun za zC zh zk => addb_3 rfl (zh.ev rfl) (zh.ev rfl) (wrap_eq (by have z := T.oftenL_take (l := l) (k := k) (f := f) (by omega); omega) (by omega) (by have z := often_take_le (l := l) (k := k + 1) (f := f); omega)) zk) ?_
        refine WL.val (.int .i64 ((((1 + T.oftenL (l.take (k + 1)) f) : Nat) : Int))) rfl rfl rfl (fun za zC zh zk => wp_assign rfl (zh.ev rfl) zk) ?_
        refine WL.nil (WE.sub (K' := [(0, .agg #[.int .i64 g, .slice a l.length c]), (1, .int .i64 (((f : Nat) : Int))), (2, .pointer (some ⟨g2, 0, none⟩)), (4, .int .i64 0), (5, .int .i64 ((((1 + T.oftenL (l.take (k + 1)) f) : Nat) : Int))), (6, .int .i64 (((k : Nat) : Int))), (10, .bool (((g : Int) == (((f : Nat) : Int) : Int)))), (15, .bool ((decide ((((k : Nat) : Int) : Int) < (((l.length : Nat) : Int) : Int)))))]) ⟨rfl, rfl, rfl, rfl, rfl, rfl, rfl, rfl, trivial⟩ ?_)
        refine WE.blockNormal ?_
        refine WE.next ?_
        refine WC.region ?_
        refine WL.val (.int .i64 (((k : Nat) : Int))) rfl rfl rfl (fun za zC zh zk => wp_move rfl (zh.ev rfl) zk) ?_
        refine WL.val (.int .i64 ((((k + 1) : Nat) : Int))) rfl rfl rfl (fun za zC zh zk => addb_3 rfl (zh.ev rfl) (zh.ev rfl) (wrap_eq (by omega) (by omega) (by omega)) zk) ?_
        refine WL.val (.int .i64 ((((k + 1) : Nat) : Int))) rfl rfl rfl (fun za zC zh zk => wp_assign rfl (zh.ev rfl) zk) ?_
        refine WL.nil (WE.sub (K' := [(0, .agg #[.int .i64 g, .slice a l.length c]), (1, .int .i64 (((f : Nat) : Int))), (2, .pointer (some ⟨g2, 0, none⟩)), (4, .int .i64 0), (5, .int .i64 ((((1 + T.oftenL (l.take (k + 1)) f) : Nat) : Int))), (6, .int .i64 ((((k + 1) : Nat) : Int))), (10, .bool (((g : Int) == (((f : Nat) : Int) : Int)))), (15, .bool ((decide ((((k : Nat) : Int) : Int) < (((l.length : Nat) : Int) : Int)))))]) ⟨rfl, rfl, rfl, rfl, rfl, rfl, rfl, rfl, trivial⟩ ?_)
        refine WE.round (k + 1) ⟨rfl, rfl, rfl, rfl, rfl, rfl, rfl, trivial⟩ ?_ ?_
        · have hb21 : Below w.heap.size w w20 := (bstep hb10 hq19)
          have hB22 := hB11.below hq19
          exact ⟨by omega, hb21, hB22⟩
        · omega
      · have h12 : ¬ ((((k : Nat) : Int) : Int) < (((l.length : Nat) : Int) : Int)) := by simpa using h12
        refine WC.exit ?_
        refine WE.thenExit ?_
        refine WE.thenExit ?_
        refine WE.blockIs rfl ?_
        refine WE.next ?_
        refine WC.seq ?_
        refine WC.region ?_
        refine WL.val (.int .i64 ((((1 + T.oftenL (l.take k) f) : Nat) : Int))) rfl rfl rfl (fun za zC zh zk => wp_move rfl (zh.ev rfl) zk) ?_
        refine WL.val (.int .i64 ((((1 + T.oftenL (l.take k) f) : Nat) : Int))) rfl rfl rfl (fun za zC zh zk => wp_assign rfl (zh.ev rfl) zk) ?_
        refine WL.nil (WE.sub (K' := [(0, .agg #[.int .i64 g, .slice a l.length c]), (1, .int .i64 (((f : Nat) : Int))), (2, .pointer (some ⟨g2, 0, none⟩)), (4, .int .i64 ((((1 + T.oftenL (l.take k) f) : Nat) : Int))), (5, .int .i64 ((((1 + T.oftenL (l.take k) f) : Nat) : Int))), (6, .int .i64 (((k : Nat) : Int))), (10, .bool (((g : Int) == (((f : Nat) : Int) : Int)))), (15, .bool ((decide ((((k : Nat) : Int) : Int) < (((l.length : Nat) : Int) : Int)))))]) ⟨rfl, rfl, rfl, rfl, rfl, rfl, rfl, rfl, trivial⟩ ?_)
        refine WE.next ?_
        refine WC.ret ?_
        refine WE.ret1 rfl rfl ?_
        refine ⟨_, rfl, ?_, hb10⟩
        rw [List.take_of_length_le (show l.length ≤ k by omega), T.often, hb0]
  · have h8 : ¬ ((g : Int) = (((f : Nat) : Int) : Int)) := by simpa using h8
    refine WC.skip ?_
    refine WE.next ?_
    refine WC.seq ?_
    refine WC.seq ?_
    refine WC.region ?_
    refine WL.val (.int .i64 0) rfl rfl rfl (fun za zC zh zk => wp_assign rfl (zh.ev rfl) zk) ?_
    refine WL.nil (WE.sub (K' := [(0, .agg #[.int .i64 g, .slice a l.length c]), (1, .int .i64 (((f : Nat) : Int))), (2, .pointer (some ⟨g2, 0, none⟩)), (4, .int .i64 0), (5, .int .i64 0), (6, .int .i64 0), (10, .bool (((g : Int) == (((f : Nat) : Int) : Int))))]) ⟨rfl, rfl, rfl, rfl, rfl, rfl, rfl, trivial⟩ ?_)
    refine WE.next ?_
    refine WC.block ?_
    have hb0 : (if g = (f : Int) then 1 else 0) = (0 : Nat) := if_neg h8
    refine WC.loop (X := Nat) (fun k => l.length - k) (fun k => [(0, .agg #[.int .i64 g, .slice a l.length c]), (1, .int .i64 (((f : Nat) : Int))), (2, .pointer (some ⟨g2, 0, none⟩)), (4, .int .i64 0), (5, .int .i64 ((((0 + T.oftenL (l.take k) f) : Nat) : Int))), (6, .int .i64 (((k : Nat) : Int))), (10, .bool (((g : Int) == (((f : Nat) : Int) : Int))))]) (fun k w23 => k ≤ l.length ∧ Below w.heap.size w w23 ∧ Blk w23 g2 32 #[.int .i64 g, .slice a l.length c]) 0 ⟨rfl, rfl, rfl, rfl, rfl, rfl, rfl, trivial⟩ ?_ ?_
    · exact ⟨Nat.zero_le _, hb5, hB4⟩
    · rintro k w23 ⟨hk, hb24, hB25⟩
      refine WC.seq ?_
      refine WC.seq ?_
      refine WC.region ?_
      refine WL.val (.int .i64 (((k : Nat) : Int))) rfl rfl rfl (fun za zC zh zk => wp_move rfl (zh.ev rfl) zk) ?_
      refine WL.val (.pointer (some ⟨g2, 1, none⟩)) rfl rfl rfl (fun za zC zh zk => fld_32_1 rfl (zh.ev rfl) zk) ?_
      refine WL.val (.slice a l.length c) rfl rfl rfl (fun za zC zh zk => ld_30 rfl (zh.ev rfl) ((hB25.cell 1).trans rfl) zk) ?_
      refine WL.val (.int .i64 (((l.length : Nat) : Int))) rfl rfl rfl (fun za zC zh zk => len_30 rfl (zh.ev rfl) zk) ?_
      refine WL.val (.bool ((decide ((((k : Nat) : Int) : Int) < (((l.length : Nat) : Int) : Int))))) rfl rfl rfl (fun za zC zh zk => lss_3 rfl (zh.ev rfl) (zh.ev rfl) zk) ?_
      refine WL.nil (WE.sub (K' := [(0, .agg #[.int .i64 g, .slice a l.length c]), (1, .int .i64 (((f : Nat) : Int))), (2, .pointer (some ⟨g2, 0, none⟩)), (4, .int .i64 0), (5, .int .i64 ((((0 + T.oftenL (l.take k) f) : Nat) : Int))), (6, .int .i64 (((k : Nat) : Int))), (10, .bool (((g : Int) == (((f : Nat) : Int) : Int)))), (15, .bool ((decide ((((k : Nat) : Int) : Int) < (((l.length : Nat) : Int) : Int)))))]) ⟨rfl, rfl, rfl, rfl, rfl, rfl, rfl, rfl, trivial⟩ ?_)
      refine WE.next ?_
      refine WC.cond rfl (fun h26 => ?_) (fun h26 => ?_)
      · have h26 : (((k : Nat) : Int) : Int) < (((l.length : Nat) : Int) : Int) := by simpa using h26
        refine WC.skip ?_
        refine WE.next ?_
        refine WC.seq ?_
        refine WC.block ?_
        refine WC.region ?_
        refine WL.val (.int .i64 ((((0 + T.oftenL (l.take k) f) : Nat) : Int))) rfl rfl rfl (fun za zC zh zk => wp_move rfl (zh.ev rfl) zk) ?_
        refine WL.val (.pointer (some ⟨g2, 1, none⟩)) rfl rfl rfl (fun za zC zh zk => fld_32_1 rfl (zh.ev rfl) zk) ?_
        refine WL.val (.slice a l.length c) rfl rfl rfl (fun za zC zh zk => ld_30 rfl (zh.ev rfl) ((hB25.cell 1).trans rfl) zk) ?_
        refine WL.val (.int .i64 (((k : Nat) : Int))) rfl rfl rfl (fun za zC zh zk => wp_move rfl (zh.ev rfl) zk) ?_
        obtain ⟨b27, o28, A29, C30, ha31, hc32⟩ := IsTs.open hl
        refine WL.val (.pointer (some ⟨b27, o28 + k * 2, none⟩)) rfl rfl rfl (fun za zC zh zk => ix_30 (k := k) rfl (zh.ev rfl) (ha31 k (by first | omega | (simp; omega))) (zh.ev rfl) (by first | omega | (simp; omega)) zk) ?_
        refine WL.val (.agg #[.int .i64 ((tget l k).f), .slice ((A29 k)) ((tget l k).args.length) ((C30 k))]) rfl rfl rfl (fun za zC zh zk => ld_32 rfl (zh.ev rfl) (bkeeps hb24 _ _ (hc32 k (by first | omega | (simp; omega))).1) (bkeeps hb24 _ _ (hc32 k (by first | omega | (simp; omega))).2.1) zk) ?_
        refine WL.val (.int .i64 (((f : Nat) : Int))) rfl rfl rfl (fun za zC zh zk => wp_move rfl (zh.ev rfl) zk) ?_
        refine WL.call rfl rfl rfl (fun za zh zC => wp_call (by kernel_rfl) rfl (hv2 (zh.ev rfl) (zh.ev rfl))) (ih _ (tget_mem (by omega)) _ _ (size_at2 (by omega) hz) (IsT.below hb24 (hc32 k (by first | omega | (simp; omega))).2.2)) ?_
        rintro _ w34 ⟨rfl, hq33⟩
        refine WL.val (.int .i64 ((((0 + T.oftenL (l.take (k + 1)) f) : Nat) : Int))) rfl rfl rfl (fun za zC zh zk => addb_3 rfl (zh.ev rfl) (zh.ev rfl) (wrap_eq (by have z := T.oftenL_take (l := l) (k := k) (f := f) (by omega); omega) (by omega) (by have z := often_take_le (l := l) (k := k + 1) (f := f); omega)) zk) ?_
        refine WL.val (.int .i64 ((((0 + T.oftenL (l.take (k + 1)) f) : Nat) : Int))) rfl rfl rfl (fun za zC zh zk => wp_assign rfl (zh.ev rfl) zk) ?_
        refine WL.nil (WE.sub (K' := [(0, .agg #[.int .i64 g, .slice a l.length c]), (1, .int .i64 (((f : Nat) : Int))), (2, .pointer (some ⟨g2, 0, none⟩)), (4, .int .i64 0), (5, .int .i64 ((((0 + T.oftenL (l.take (k + 1)) f) : Nat) : Int))), (6, .int .i64 (((k : Nat) : Int))), (10, .bool (((g : Int) == (((f : Nat) : Int) : Int)))), (15, .bool ((decide ((((k : Nat) : Int) : Int) < (((l.length : Nat) : Int) : Int)))))]) ⟨rfl, rfl, rfl, rfl, rfl, rfl, rfl, rfl, trivial⟩ ?_)
        refine WE.blockNormal ?_
        refine WE.next ?_
        refine WC.region ?_
        refine WL.val (.int .i64 (((k : Nat) : Int))) rfl rfl rfl (fun za zC zh zk => wp_move rfl (zh.ev rfl) zk) ?_
        refine WL.val (.int .i64 ((((k + 1) : Nat) : Int))) rfl rfl rfl (fun za zC zh zk => addb_3 rfl (zh.ev rfl) (zh.ev rfl) (wrap_eq (by omega) (by omega) (by omega)) zk) ?_
        refine WL.val (.int .i64 ((((k + 1) : Nat) : Int))) rfl rfl rfl (fun za zC zh zk => wp_assign rfl (zh.ev rfl) zk) ?_
        refine WL.nil (WE.sub (K' := [(0, .agg #[.int .i64 g, .slice a l.length c]), (1, .int .i64 (((f : Nat) : Int))), (2, .pointer (some ⟨g2, 0, none⟩)), (4, .int .i64 0), (5, .int .i64 ((((0 + T.oftenL (l.take (k + 1)) f) : Nat) : Int))), (6, .int .i64 ((((k + 1) : Nat) : Int))), (10, .bool (((g : Int) == (((f : Nat) : Int) : Int)))), (15, .bool ((decide ((((k : Nat) : Int) : Int) < (((l.length : Nat) : Int) : Int)))))]) ⟨rfl, rfl, rfl, rfl, rfl, rfl, rfl, rfl, trivial⟩ ?_)
        refine WE.round (k + 1) ⟨rfl, rfl, rfl, rfl, rfl, rfl, rfl, trivial⟩ ?_ ?_
        · have hb35 : Below w.heap.size w w34 := (bstep hb24 hq33)
          have hB36 := hB25.below hq33
          exact ⟨by omega, hb35, hB36⟩
        · omega
      · have h26 : ¬ ((((k : Nat) : Int) : Int) < (((l.length : Nat) : Int) : Int)) := by simpa using h26
        refine WC.exit ?_
        refine WE.thenExit ?_
        refine WE.thenExit ?_
        refine WE.blockIs rfl ?_
        refine WE.next ?_
        refine WC.seq ?_
        refine WC.region ?_
        refine WL.val (.int .i64 ((((0 + T.oftenL (l.take k) f) : Nat) : Int))) rfl rfl rfl (fun za zC zh zk => wp_move rfl (zh.ev rfl) zk) ?_
        refine WL.val (.int .i64 ((((0 + T.oftenL (l.take k) f) : Nat) : Int))) rfl rfl rfl (fun za zC zh zk => wp_assign rfl (zh.ev rfl) zk) ?_
        refine WL.nil (WE.sub (K' := [(0, .agg #[.int .i64 g, .slice a l.length c]), (1, .int .i64 (((f : Nat) : Int))), (2, .pointer (some ⟨g2, 0, none⟩)), (4, .int .i64 ((((0 + T.oftenL (l.take k) f) : Nat) : Int))), (5, .int .i64 ((((0 + T.oftenL (l.take k) f) : Nat) : Int))), (6, .int .i64 (((k : Nat) : Int))), (10, .bool (((g : Int) == (((f : Nat) : Int) : Int)))), (15, .bool ((decide ((((k : Nat) : Int) : Int) < (((l.length : Nat) : Int) : Int)))))]) ⟨rfl, rfl, rfl, rfl, rfl, rfl, rfl, rfl, trivial⟩ ?_)
        refine WE.next ?_
        refine WC.ret ?_
        refine WE.ret1 rfl rfl ?_
        refine ⟨_, rfl, ?_, hb24⟩
        rw [List.take_of_length_le (show l.length ≤ k by omega), T.often, hb0]

set_option maxRecDepth 100000 in
theorem deep_any (f : Nat) (hfl : f ≤ 1024) : ∀ (t : T) (d : Nat) (w : World) (v : Value), d + t.size ≤ 1099511627776 → t.size ≤ 4294967296 → IsT w t v → Calls Try.prog 31 #[v, .int .i64 (f : Int), .int .i64 (d : Int)] w (Ret fun v' w' => v' = .int .i64 (t.deep f d : Int) ∧ Below w.heap.size w w') := by
  refine T.ind (fun g l ih => ?_)
  intro d w v hd hz hv
  have hv0 := hv
  have hlen := len_le_sizeL2 l
  have hz' := hz
  simp only [T.size] at hz' hd
  obtain ⟨hf, a, c, rfl, hc, hm, hl⟩ := hv
  have hf' := hf
  unfold I64 at hf'
  refine Calls.walk (l := [.agg #[.int .i64 g, .slice a l.length c], .int .i64 (((f : Nat) : Int)), .int .i64 (((d : Nat) : Int))]) Try.func31 rfl (by kernel_rfl) ?_
  refine WC.sub (K' := [(0, .agg #[.int .i64 g, .slice a l.length c]), (1, .int .i64 (((f : Nat) : Int))), (2, .int .i64 (((d : Nat) : Int)))]) ⟨rfl, rfl, rfl, trivial⟩ ?_
  refine WC.seq ?_
  refine WC.region ?_
  refine WL.step (post := NewBlk w 32 #[.int .i64 g, .slice a l.length c]) rfl rfl rfl (fun za zC zh zk => box_32 rfl (zh.ev rfl) (zk _ _ (newBlk _ _ _))) ?_
  rintro _ w1 ⟨g2, rfl, hg3, hB4, hb5, hz6⟩
  have hl7 : w.heap.size ≤ g2 := by omega
  refine WL.val (.int .i64 0) rfl rfl rfl (fun za zC zh zk => wp_assign rfl (zh.ev rfl) zk) ?_
  refine WL.nil (WE.sub (K' := [(0, .agg #[.int .i64 g, .slice a l.length c]), (1, .int .i64 (((f : Nat) : Int))), (2, .int .i64 (((d : Nat) : Int))), (3, .pointer (some ⟨g2, 0, none⟩)), (6, .int .i64 0)]) ⟨rfl, rfl, rfl, rfl, rfl, trivial⟩ ?_)
  refine WE.next ?_
  refine WC.seq ?_
  refine WC.region ?_
  refine WL.val (.int .i64 0) rfl rfl rfl (fun za zC zh zk => wp_assign rfl (zh.ev rfl) zk) ?_
  refine WL.nil (WE.sub (K' := [(0, .agg #[.int .i64 g, .slice a l.length c]), (1, .int .i64 (((f : Nat) : Int))), (2, .int .i64 (((d : Nat) : Int))), (3, .pointer (some ⟨g2, 0, none⟩)), (6, .int .i64 0), (7, .int .i64 0)]) ⟨rfl, rfl, rfl, rfl, rfl, rfl, trivial⟩ ?_)
  refine WE.next ?_
  refine WC.seq ?_
  refine WC.seq ?_
  refine WC.region ?_
  refine WL.val (.pointer (some ⟨g2, 0, none⟩)) rfl rfl rfl (fun za zC zh zk => fld_32_0 rfl (zh.ev rfl) zk) ?_
  refine WL.val (.int .i64 g) rfl rfl rfl (fun za zC zh zk => ld_3 rfl (zh.ev rfl) ((hB4.cell 0).trans rfl) zk) ?_
  refine WL.val (.int .i64 (((f : Nat) : Int))) rfl rfl rfl (fun za zC zh zk => wp_move rfl (zh.ev rfl) zk) ?_
  refine WL.val (.bool (((g : Int) == (((f : Nat) : Int) : Int)))) rfl rfl rfl (fun za zC zh zk => eql_3 rfl (zh.ev rfl) (zh.ev rfl) zk) ?_
  refine WL.nil (WE.sub (K' := [(0, .agg #[.int .i64 g, .slice a l.length c]), (1, .int .i64 (((f : Nat) : Int))), (2, .int .i64 (((d : Nat) : Int))), (3, .pointer (some ⟨g2, 0, none⟩)), (6, .int .i64 0), (7, .int .i64 0), (12, .bool (((g : Int) == (((f : Nat) : Int) : Int))))]) ⟨rfl, rfl, rfl, rfl, rfl, rfl, rfl, trivial⟩ ?_)
  refine WE.next ?_
  refine WC.cond rfl (fun h8 => ?_) (fun h8 => ?_)
  · have h8 : (g : Int) = (((f : Nat) : Int) : Int) := by simpa using h8
    refine WC.region ?_
    refine WL.val (.int .i64 (((d : Nat) : Int))) rfl rfl rfl (fun za zC zh zk => wp_move rfl (zh.ev rfl) zk) ?_
    refine WL.val (.int .i64 (((d : Nat) : Int))) rfl rfl rfl (fun za zC zh zk => wp_assign rfl (zh.ev rfl) zk) ?_
    refine WL.nil (WE.sub (K' := [(0, .agg #[.int .i64 g, .slice a l.length c]), (1, .int .i64 (((f : Nat) : Int))), (2, .int .i64 (((d : Nat) : Int))), (3, .pointer (some ⟨g2, 0, none⟩)), (6, .int .i64 0), (7, .int .i64 (((d : Nat) : Int))), (12, .bool (((g : Int) == (((f : Nat) : Int) : Int))))]) ⟨rfl, rfl, rfl, rfl, rfl, rfl, rfl, trivial⟩ ?_)
    refine WE.next ?_
    refine WC.seq ?_
    refine WC.seq ?_
    refine WC.region ?_
    refine WL.val (.int .i64 0) rfl rfl rfl (fun za zC zh zk => wp_assign rfl (zh.ev rfl) zk) ?_
    refine WL.nil (WE.sub (K' := [(0, .agg #[.int .i64 g, .slice a l.length c]), (1, .int .i64 (((f : Nat) : Int))), (2, .int .i64 (((d : Nat) : Int))), (3, .pointer (some ⟨g2, 0, none⟩)), (6, .int .i64 0), (7, .int .i64 (((d : Nat) : Int))), (8, .int .i64 0), (12, .bool (((g : Int) == (((f : Nat) : Int) : Int))))]) ⟨rfl, rfl, rfl, rfl, rfl, rfl, rfl, rfl, trivial⟩ ?_)
    refine WE.next ?_
    refine WC.block ?_
    have hb0 : (if g = (f : Int) then d else 0) = (d : Nat) := if_pos h8
    refine WC.loop (X := Nat × Nat) (fun y => l.length - y.1) (fun y => [(0, .agg #[.int .i64 g, .slice a l.length c]), (1, .int .i64 (((f : Nat) : Int))), (2, .int .i64 (((d : Nat) : Int))), (3, .pointer (some ⟨g2, 0, none⟩)), (6, .int .i64 0), (7, .int .i64 (((y.2 : Nat) : Int))), (8, .int .i64 (((y.1 : Nat) : Int))), (12, .bool (((g : Int) == (((f : Nat) : Int) : Int))))]) (fun y w9 => y.1 ≤ l.length ∧ y.2 = max d (T.deepL (l.take y.1) f (d + 1)) ∧ Below w.heap.size w w9 ∧ Blk w9 g2 32 #[.int .i64 g, .slice a l.length c]) ((0, d)) ⟨rfl, rfl, rfl, rfl, rfl, rfl, rfl, rfl, trivial⟩ ?_ ?_
    · exact ⟨Nat.zero_le _, by simp [T.deepL], hb5, hB4⟩
    · rintro y w9 ⟨hk, hy, hb10, hB11⟩
      refine WC.seq ?_
      refine WC.seq ?_
      refine WC.region ?_
      refine WL.val (.int .i64 (((y.1 : Nat) : Int))) rfl rfl rfl (fun za zC zh zk => wp_move rfl (zh.ev rfl) zk) ?_
      refine WL.val (.pointer (some ⟨g2, 1, none⟩)) rfl rfl rfl (fun za zC zh zk => fld_32_1 rfl (zh.ev rfl) zk) ?_
      refine WL.val (.slice a l.length c) rfl rfl rfl (fun za zC zh zk => ld_30 rfl (zh.ev rfl) ((hB11.cell 1).trans rfl) zk) ?_
      refine WL.val (.int .i64 (((l.length : Nat) : Int))) rfl rfl rfl (fun za zC zh zk => len_30 rfl (zh.ev rfl) zk) ?_
      refine WL.val (.bool ((decide ((((y.1 : Nat) : Int) : Int) < (((l.length : Nat) : Int) : Int))))) rfl rfl rfl (fun za zC zh zk => lss_3 rfl (zh.ev rfl) (zh.ev rfl) zk) ?_
      refine WL.nil (WE.sub (K' := [(0, .agg #[.int .i64 g, .slice a l.length c]), (1, .int .i64 (((f : Nat) : Int))), (2, .int .i64 (((d : Nat) : Int))), (3, .pointer (some ⟨g2, 0, none⟩)), (6, .int .i64 0), (7, .int .i64 (((y.2 : Nat) : Int))), (8, .int .i64 (((y.1 : Nat) : Int))), (12, .bool (((g : Int) == (((f : Nat) : Int) : Int)))), (18, .bool ((decide ((((y.1 : Nat) : Int) : Int) < (((l.length : Nat) : Int) : Int)))))]) ⟨rfl, rfl, rfl, rfl, rfl, rfl, rfl, rfl, rfl, trivial⟩ ?_)
      refine WE.next ?_
      refine WC.cond rfl (fun h12 => ?_) (fun h12 => ?_)
      · have h12 : (((y.1 : Nat) : Int) : Int) < (((l.length : Nat) : Int) : Int) := by simpa using h12
        refine WC.skip ?_
        refine WE.next ?_
        refine WC.seq ?_
        refine WC.block ?_
        refine WC.region ?_
        refine WL.val (.int .i64 (((y.2 : Nat) : Int))) rfl rfl rfl (fun za zC zh zk => wp_move rfl (zh.ev rfl) zk) ?_
        refine WL.val (.pointer (some ⟨g2, 1, none⟩)) rfl rfl rfl (fun za zC zh zk => fld_32_1 rfl (zh.ev rfl) zk) ?_
        refine WL.val (.slice a l.length c) rfl rfl rfl (fun za zC zh zk => ld_30 rfl (zh.ev rfl) ((hB11.cell 1).trans rfl) zk) ?_
        refine WL.val (.int .i64 (((y.1 : Nat) : Int))) rfl rfl rfl (fun za zC zh zk => wp_move rfl (zh.ev rfl) zk) ?_
        obtain ⟨b13, o14, A15, C16, ha17, hc18⟩ := IsTs.open hl
        refine WL.val (.pointer (some ⟨b13, o14 + y.1 * 2, none⟩)) rfl rfl rfl (fun za zC zh zk => ix_30 (k := y.1) rfl (zh.ev rfl) (ha17 y.1 (by first | omega | (simp; omega))) (zh.ev rfl) (by first | omega | (simp; omega)) zk) ?_
        refine WL.val (.agg #[.int .i64 ((tget l y.1).f), .slice ((A15 y.1)) ((tget l y.1).args.length) ((C16 y.1))]) rfl rfl rfl (fun za zC zh zk => ld_32 rfl (zh.ev rfl) (bkeeps hb10 _ _ (hc18 y.1 (by first | omega | (simp; omega))).1) (bkeeps hb10 _ _ (hc18 y.1 (by first | omega | (simp; omega))).2.1) zk) ?_
        refine WL.val (.int .i64 (((f : Nat) : Int))) rfl rfl rfl (fun za zC zh zk => wp_move rfl (zh.ev rfl) zk) ?_
        refine WL.val (.int .i64 (((d : Nat) : Int))) rfl rfl rfl (fun za zC zh zk => wp_move rfl (zh.ev rfl) zk) ?_
        refine WL.val (.int .i64 ((((d + 1) : Nat) : Int))) rfl rfl rfl (fun za zC zh zk => addb_3 rfl (zh.ev rfl) (zh.ev rfl) (wrap_eq (by omega) (by omega) (by omega)) zk) ?_
        refine WL.call rfl rfl rfl (fun za zh zC => wp_call (by kernel_rfl) rfl (hv3 (zh.ev rfl) (zh.ev rfl) (zh.ev rfl))) (ih _ (tget_mem (by omega)) (d + 1) _ _ (by have z := T.size_le_sizeL (tget_mem (l := l) (k := y.1) (by omega)); omega) (size_at2 (by omega) hz) (IsT.below hb10 (hc18 y.1 (by first | omega | (simp; omega))).2.2)) ?_
        rintro _ w20 ⟨rfl, hq19⟩
        refine WL.val (.int .i64 ((((max d (T.deepL (l.take (y.1 + 1)) f (d + 1))) : Nat) : Int))) rfl rfl rfl (fun za zC zh zk => wp_max3 rfl (zh.ev rfl) (zh.ev rfl) (by have z := T.deepL_take (l := l) (k := y.1) (f := f) (d := d + 1) (by omega); omega) zk) ?_
        refine WL.val (.int .i64 ((((max d (T.deepL (l.take (y.1 + 1)) f (d + 1))) : Nat) : Int))) rfl rfl rfl (fun za zC zh zk => wp_assign rfl (zh.ev rfl) zk) ?_
        refine WL.nil (WE.sub (K' := [(0, .agg #[.int .i64 g, .slice a l.length c]), (1, .int .i64 (((f : Nat) : Int))), (2, .int .i64 (((d : Nat) : Int))), (3, .pointer (some ⟨g2, 0, none⟩)), (6, .int .i64 0), (7, .int .i64 ((((max d (T.deepL (l.take (y.1 + 1)) f (d + 1))) : Nat) : Int))), (8, .int .i64 (((y.1 : Nat) : Int))), (12, .bool (((g : Int) == (((f : Nat) : Int) : Int)))), (18, .bool ((decide ((((y.1 : Nat) : Int) : Int) < (((l.length : Nat) : Int) : Int)))))]) ⟨rfl, rfl, rfl, rfl, rfl, rfl, rfl, rfl, rfl, trivial⟩ ?_)
        refine WE.blockNormal ?_
        refine WE.next ?_
        refine WC.region ?_
        refine WL.val (.int .i64 (((y.1 : Nat) : Int))) rfl rfl rfl (fun za zC zh zk => wp_move rfl (zh.ev rfl) zk) ?_
        refine WL.val (.int .i64 ((((y.1 + 1) : Nat) : Int))) rfl rfl rfl (fun za zC zh zk => addb_3 rfl (zh.ev rfl) (zh.ev rfl) (wrap_eq (by omega) (by omega) (by omega)) zk) ?_
        refine WL.val (.int .i64 ((((y.1 + 1) : Nat) : Int))) rfl rfl rfl (fun za zC zh zk => wp_assign rfl (zh.ev rfl) zk) ?_
        refine WL.nil (WE.sub (K' := [(0, .agg #[.int .i64 g, .slice a l.length c]), (1, .int .i64 (((f : Nat) : Int))), (2, .int .i64 (((d : Nat) : Int))), (3, .pointer (some ⟨g2, 0, none⟩)), (6, .int .i64 0), (7, .int .i64 ((((max d (T.deepL (l.take (y.1 + 1)) f (d + 1))) : Nat) : Int))), (8, .int .i64 ((((y.1 + 1) : Nat) : Int))), (12, .bool (((g : Int) == (((f : Nat) : Int) : Int)))), (18, .bool ((decide ((((y.1 : Nat) : Int) : Int) < (((l.length : Nat) : Int) : Int)))))]) ⟨rfl, rfl, rfl, rfl, rfl, rfl, rfl, rfl, rfl, trivial⟩ ?_)
        refine WE.round ((y.1 + 1, max d (T.deepL (l.take (y.1 + 1)) f (d + 1)))) ⟨rfl, rfl, rfl, rfl, rfl, rfl, rfl, rfl, trivial⟩ ?_ ?_
        · have hb21 : Below w.heap.size w w20 := (bstep hb10 hq19)
          have hB22 := hB11.below hq19
          exact ⟨by (try dsimp only); omega, rfl, hb21, hB22⟩
        · (try dsimp only); omega
      · have h12 : ¬ ((((y.1 : Nat) : Int) : Int) < (((l.length : Nat) : Int) : Int)) := by simpa using h12
        refine WC.exit ?_
        refine WE.thenExit ?_
        refine WE.thenExit ?_
        refine WE.blockIs rfl ?_
        refine WE.next ?_
        refine WC.seq ?_
        refine WC.region ?_
        refine WL.val (.int .i64 (((y.2 : Nat) : Int))) rfl rfl rfl (fun za zC zh zk => wp_move rfl (zh.ev rfl) zk) ?_
        refine WL.val (.int .i64 (((y.2 : Nat) : Int))) rfl rfl rfl (fun za zC zh zk => wp_assign rfl (zh.ev rfl) zk) ?_
        refine WL.nil (WE.sub (K' := [(0, .agg #[.int .i64 g, .slice a l.length c]), (1, .int .i64 (((f : Nat) : Int))), (2, .int .i64 (((d : Nat) : Int))), (3, .pointer (some ⟨g2, 0, none⟩)), (6, .int .i64 (((y.2 : Nat) : Int))), (7, .int .i64 (((y.2 : Nat) : Int))), (8, .int .i64 (((y.1 : Nat) : Int))), (12, .bool (((g : Int) == (((f : Nat) : Int) : Int)))), (18, .bool ((decide ((((y.1 : Nat) : Int) : Int) < (((l.length : Nat) : Int) : Int)))))]) ⟨rfl, rfl, rfl, rfl, rfl, rfl, rfl, rfl, rfl, trivial⟩ ?_)
        refine WE.next ?_
        refine WC.ret ?_
        refine WE.ret1 rfl rfl ?_
        refine ⟨_, rfl, ?_, hb10⟩
        rw [hy, List.take_of_length_le (show l.length ≤ y.1 by omega), T.deep, hb0]
  · have h8 : ¬ ((g : Int) = (((f : Nat) : Int) : Int)) := by simpa using h8
    refine WC.skip ?_
    refine WE.next ?_
    refine WC.seq ?_
    refine WC.seq ?_
    refine WC.region ?_
    refine WL.val (.int .i64 0) rfl rfl rfl (fun za zC zh zk => wp_assign rfl (zh.ev rfl) zk) ?_
    refine WL.nil (WE.sub (K' := [(0, .agg #[.int .i64 g, .slice a l.length c]), (1, .int .i64 (((f : Nat) : Int))), (2, .int .i64 (((d : Nat) : Int))), (3, .pointer (some ⟨g2, 0, none⟩)), (6, .int .i64 0), (7, .int .i64 0), (8, .int .i64 0), (12, .bool (((g : Int) == (((f : Nat) : Int) : Int))))]) ⟨rfl, rfl, rfl, rfl, rfl, rfl, rfl, rfl, trivial⟩ ?_)
    refine WE.next ?_
    refine WC.block ?_
    have hb0 : (if g = (f : Int) then d else 0) = (0 : Nat) := if_neg h8
    refine WC.loop (X := Nat × Nat) (fun y => l.length - y.1) (fun y => [(0, .agg #[.int .i64 g, .slice a l.length c]), (1, .int .i64 (((f : Nat) : Int))), (2, .int .i64 (((d : Nat) : Int))), (3, .pointer (some ⟨g2, 0, none⟩)), (6, .int .i64 0), (7, .int .i64 (((y.2 : Nat) : Int))), (8, .int .i64 (((y.1 : Nat) : Int))), (12, .bool (((g : Int) == (((f : Nat) : Int) : Int))))]) (fun y w23 => y.1 ≤ l.length ∧ y.2 = max 0 (T.deepL (l.take y.1) f (d + 1)) ∧ Below w.heap.size w w23 ∧ Blk w23 g2 32 #[.int .i64 g, .slice a l.length c]) ((0, 0)) ⟨rfl, rfl, rfl, rfl, rfl, rfl, rfl, rfl, trivial⟩ ?_ ?_
    · exact ⟨Nat.zero_le _, by simp [T.deepL], hb5, hB4⟩
    · rintro y w23 ⟨hk, hy, hb24, hB25⟩
      refine WC.seq ?_
      refine WC.seq ?_
      refine WC.region ?_
      refine WL.val (.int .i64 (((y.1 : Nat) : Int))) rfl rfl rfl (fun za zC zh zk => wp_move rfl (zh.ev rfl) zk) ?_
      refine WL.val (.pointer (some ⟨g2, 1, none⟩)) rfl rfl rfl (fun za zC zh zk => fld_32_1 rfl (zh.ev rfl) zk) ?_
      refine WL.val (.slice a l.length c) rfl rfl rfl (fun za zC zh zk => ld_30 rfl (zh.ev rfl) ((hB25.cell 1).trans rfl) zk) ?_
      refine WL.val (.int .i64 (((l.length : Nat) : Int))) rfl rfl rfl (fun za zC zh zk => len_30 rfl (zh.ev rfl) zk) ?_
      refine WL.val (.bool ((decide ((((y.1 : Nat) : Int) : Int) < (((l.length : Nat) : Int) : Int))))) rfl rfl rfl (fun za zC zh zk => lss_3 rfl (zh.ev rfl) (zh.ev rfl) zk) ?_
      refine WL.nil (WE.sub (K' := [(0, .agg #[.int .i64 g, .slice a l.length c]), (1, .int .i64 (((f : Nat) : Int))), (2, .int .i64 (((d : Nat) : Int))), (3, .pointer (some ⟨g2, 0, none⟩)), (6, .int .i64 0), (7, .int .i64 (((y.2 : Nat) : Int))), (8, .int .i64 (((y.1 : Nat) : Int))), (12, .bool (((g : Int) == (((f : Nat) : Int) : Int)))), (18, .bool ((decide ((((y.1 : Nat) : Int) : Int) < (((l.length : Nat) : Int) : Int)))))]) ⟨rfl, rfl, rfl, rfl, rfl, rfl, rfl, rfl, rfl, trivial⟩ ?_)
      refine WE.next ?_
      refine WC.cond rfl (fun h26 => ?_) (fun h26 => ?_)
      · have h26 : (((y.1 : Nat) : Int) : Int) < (((l.length : Nat) : Int) : Int) := by simpa using h26
        refine WC.skip ?_
        refine WE.next ?_
        refine WC.seq ?_
        refine WC.block ?_
        refine WC.region ?_
        refine WL.val (.int .i64 (((y.2 : Nat) : Int))) rfl rfl rfl (fun za zC zh zk => wp_move rfl (zh.ev rfl) zk) ?_
        refine WL.val (.pointer (some ⟨g2, 1, none⟩)) rfl rfl rfl (fun za zC zh zk => fld_32_1 rfl (zh.ev rfl) zk) ?_
        refine WL.val (.slice a l.length c) rfl rfl rfl (fun za zC zh zk => ld_30 rfl (zh.ev rfl) ((hB25.cell 1).trans rfl) zk) ?_
        refine WL.val (.int .i64 (((y.1 : Nat) : Int))) rfl rfl rfl (fun za zC zh zk => wp_move rfl (zh.ev rfl) zk) ?_
        obtain ⟨b27, o28, A29, C30, ha31, hc32⟩ := IsTs.open hl
        refine WL.val (.pointer (some ⟨b27, o28 + y.1 * 2, none⟩)) rfl rfl rfl (fun za zC zh zk => ix_30 (k := y.1) rfl (zh.ev rfl) (ha31 y.1 (by first | omega | (simp; omega))) (zh.ev rfl) (by first | omega | (simp; omega)) zk) ?_
        refine WL.val (.agg #[.int .i64 ((tget l y.1).f), .slice ((A29 y.1)) ((tget l y.1).args.length) ((C30 y.1))]) rfl rfl rfl (fun za zC zh zk => ld_32 rfl (zh.ev rfl) (bkeeps hb24 _ _ (hc32 y.1 (by first | omega | (simp; omega))).1) (bkeeps hb24 _ _ (hc32 y.1 (by first | omega | (simp; omega))).2.1) zk) ?_
        refine WL.val (.int .i64 (((f : Nat) : Int))) rfl rfl rfl (fun za zC zh zk => wp_move rfl (zh.ev rfl) zk) ?_
        refine WL.val (.int .i64 (((d : Nat) : Int))) rfl rfl rfl (fun za zC zh zk => wp_move rfl (zh.ev rfl) zk) ?_
        refine WL.val (.int .i64 ((((d + 1) : Nat) : Int))) rfl rfl rfl (fun za zC zh zk => addb_3 rfl (zh.ev rfl) (zh.ev rfl) (wrap_eq (by omega) (by omega) (by omega)) zk) ?_
        refine WL.call rfl rfl rfl (fun za zh zC => wp_call (by kernel_rfl) rfl (hv3 (zh.ev rfl) (zh.ev rfl) (zh.ev rfl))) (ih _ (tget_mem (by omega)) (d + 1) _ _ (by have z := T.size_le_sizeL (tget_mem (l := l) (k := y.1) (by omega)); omega) (size_at2 (by omega) hz) (IsT.below hb24 (hc32 y.1 (by first | omega | (simp; omega))).2.2)) ?_
        rintro _ w34 ⟨rfl, hq33⟩
        refine WL.val (.int .i64 ((((max 0 (T.deepL (l.take (y.1 + 1)) f (d + 1))) : Nat) : Int))) rfl rfl rfl (fun za zC zh zk => wp_max3 rfl (zh.ev rfl) (zh.ev rfl) (by have z := T.deepL_take (l := l) (k := y.1) (f := f) (d := d + 1) (by omega); omega) zk) ?_
        refine WL.val (.int .i64 ((((max 0 (T.deepL (l.take (y.1 + 1)) f (d + 1))) : Nat) : Int))) rfl rfl rfl (fun za zC zh zk => wp_assign rfl (zh.ev rfl) zk) ?_
        refine WL.nil (WE.sub (K' := [(0, .agg #[.int .i64 g, .slice a l.length c]), (1, .int .i64 (((f : Nat) : Int))), (2, .int .i64 (((d : Nat) : Int))), (3, .pointer (some ⟨g2, 0, none⟩)), (6, .int .i64 0), (7, .int .i64 ((((max 0 (T.deepL (l.take (y.1 + 1)) f (d + 1))) : Nat) : Int))), (8, .int .i64 (((y.1 : Nat) : Int))), (12, .bool (((g : Int) == (((f : Nat) : Int) : Int)))), (18, .bool ((decide ((((y.1 : Nat) : Int) : Int) < (((l.length : Nat) : Int) : Int)))))]) ⟨rfl, rfl, rfl, rfl, rfl, rfl, rfl, rfl, rfl, trivial⟩ ?_)
        refine WE.blockNormal ?_
        refine WE.next ?_
        refine WC.region ?_
        refine WL.val (.int .i64 (((y.1 : Nat) : Int))) rfl rfl rfl (fun za zC zh zk => wp_move rfl (zh.ev rfl) zk) ?_
        refine WL.val (.int .i64 ((((y.1 + 1) : Nat) : Int))) rfl rfl rfl (fun za zC zh zk => addb_3 rfl (zh.ev rfl) (zh.ev rfl) (wrap_eq (by omega) (by omega) (by omega)) zk) ?_
        refine WL.val (.int .i64 ((((y.1 + 1) : Nat) : Int))) rfl rfl rfl (fun za zC zh zk => wp_assign rfl (zh.ev rfl) zk) ?_
        refine WL.nil (WE.sub (K' := [(0, .agg #[.int .i64 g, .slice a l.length c]), (1, .int .i64 (((f : Nat) : Int))), (2, .int .i64 (((d : Nat) : Int))), (3, .pointer (some ⟨g2, 0, none⟩)), (6, .int .i64 0), (7, .int .i64 ((((max 0 (T.deepL (l.take (y.1 + 1)) f (d + 1))) : Nat) : Int))), (8, .int .i64 ((((y.1 + 1) : Nat) : Int))), (12, .bool (((g : Int) == (((f : Nat) : Int) : Int)))), (18, .bool ((decide ((((y.1 : Nat) : Int) : Int) < (((l.length : Nat) : Int) : Int)))))]) ⟨rfl, rfl, rfl, rfl, rfl, rfl, rfl, rfl, rfl, trivial⟩ ?_)
        refine WE.round ((y.1 + 1, max 0 (T.deepL (l.take (y.1 + 1)) f (d + 1)))) ⟨rfl, rfl, rfl, rfl, rfl, rfl, rfl, rfl, trivial⟩ ?_ ?_
        · have hb35 : Below w.heap.size w w34 := (bstep hb24 hq33)
          have hB36 := hB25.below hq33
          exact ⟨by (try dsimp only); omega, rfl, hb35, hB36⟩
        · (try dsimp only); omega
      · have h26 : ¬ ((((y.1 : Nat) : Int) : Int) < (((l.length : Nat) : Int) : Int)) := by simpa using h26
        refine WC.exit ?_
        refine WE.thenExit ?_
        refine WE.thenExit ?_
        refine WE.blockIs rfl ?_
        refine WE.next ?_
        refine WC.seq ?_
        refine WC.region ?_
        refine WL.val (.int .i64 (((y.2 : Nat) : Int))) rfl rfl rfl (fun za zC zh zk => wp_move rfl (zh.ev rfl) zk) ?_
        refine WL.val (.int .i64 (((y.2 : Nat) : Int))) rfl rfl rfl (fun za zC zh zk => wp_assign rfl (zh.ev rfl) zk) ?_
        refine WL.nil (WE.sub (K' := [(0, .agg #[.int .i64 g, .slice a l.length c]), (1, .int .i64 (((f : Nat) : Int))), (2, .int .i64 (((d : Nat) : Int))), (3, .pointer (some ⟨g2, 0, none⟩)), (6, .int .i64 (((y.2 : Nat) : Int))), (7, .int .i64 (((y.2 : Nat) : Int))), (8, .int .i64 (((y.1 : Nat) : Int))), (12, .bool (((g : Int) == (((f : Nat) : Int) : Int)))), (18, .bool ((decide ((((y.1 : Nat) : Int) : Int) < (((l.length : Nat) : Int) : Int)))))]) ⟨rfl, rfl, rfl, rfl, rfl, rfl, rfl, rfl, rfl, trivial⟩ ?_)
        refine WE.next ?_
        refine WC.ret ?_
        refine WE.ret1 rfl rfl ?_
        refine ⟨_, rfl, ?_, hb24⟩
        rw [hy, List.take_of_length_le (show l.length ≤ y.1 by omega), T.deep, hb0]

set_option maxRecDepth 100000 in
theorem rtrue_any (t : T) (w : World) (v : Value) (hv : IsT w t v) : Calls Try.prog 16 #[v] w (Ret fun v' w' => v' = .bool t.isTrue ∧ Below w.heap.size w w') := by
  obtain ⟨hf, a, c, rfl, _, _, _⟩ := hv.form
  refine Calls.walk (l := [.agg #[.int .i64 t.f, .slice a t.args.length c]]) Try.func16 rfl (by kernel_rfl) ?_
  refine WC.sub (K' := [(0, .agg #[.int .i64 t.f, .slice a t.args.length c])]) ⟨rfl, trivial⟩ ?_
  refine WC.seq ?_
  refine WC.region ?_
  refine WL.step (post := NewBlk w 32 #[.int .i64 t.f, .slice a t.args.length c]) rfl rfl rfl (fun za zC zh zk => box_32 rfl (zh.ev rfl) (zk _ _ (newBlk _ _ _))) ?_
  rintro _ w1 ⟨g2, rfl, hg3, hB4, hb5, hz6⟩
  have hl7 : w.heap.size ≤ g2 := by omega
  refine WL.val (.bool false) rfl rfl rfl (fun za zC zh zk => wp_assign rfl (zh.ev rfl) zk) ?_
  refine WL.nil (WE.sub (K' := [(0, .agg #[.int .i64 t.f, .slice a t.args.length c]), (1, .pointer (some ⟨g2, 0, none⟩)), (2, .bool false)]) ⟨rfl, rfl, rfl, trivial⟩ ?_)
  refine WE.next ?_
  refine WC.seq ?_
  refine WC.opt [(true, .val (.pointer (some ⟨g2, 0, none⟩))), (true, .val (.int .i64 t.f)), (true, .val (.bool (((t.f : Int) == (0 : Int))))), (true, .val (.bool (((t.f : Int) == (0 : Int))))), ((true && ((t.f : Int) == (0 : Int))), .val (.pointer (some ⟨g2, 1, none⟩))), ((true && ((t.f : Int) == (0 : Int))), .val (.slice a t.args.length c)), ((true && ((t.f : Int) == (0 : Int))), .val (.int .i64 (((t.args.length : Nat) : Int)))), ((true && ((t.f : Int) == (0 : Int))), .val (.bool (((((t.args.length : Nat) : Int) : Int) == (0 : Int))))), (true, .val (.bool ((((t.f : Int) == (0 : Int)) && ((((t.args.length : Nat) : Int) : Int) == (0 : Int)))))), (true, .val (.bool ((((t.f : Int) == (0 : Int)) && ((((t.args.length : Nat) : Int) : Int) == (0 : Int))))))] [(0, .agg #[.int .i64 t.f, .slice a t.args.length c]), (1, .pointer (some ⟨g2, 0, none⟩))] ⟨rfl, rfl, trivial⟩ (by kernel_rfl) (by kernel_rfl) (by kernel_rfl) ?_ ?_
  · refine ⟨⟨true, .none rfl, fun h w => optUndef h, fun zβ za zw zc => ?_⟩, ?_⟩
    · exact fld_32_0 rfl (zc.kn.ev rfl) ⟨_, rfl, Below.refl _ _, optDef zβ rfl⟩
    refine ⟨⟨true, .none rfl, fun h w => optUndef h, fun zβ za zw zc => ?_⟩, ?_⟩
    · exact ld_3 rfl ((show za.eval (.tmp 3) = za.tmps.getD 3 undef from rfl).trans (optVal (zc.dep 0 3 (by kernel_rfl)) rfl rfl)) (bkeeps zc.below _ _ ((hB4.cell 0).trans rfl)) ⟨_, rfl, Below.refl _ _, optDef zβ rfl⟩
    refine ⟨⟨true, .none rfl, fun h w => optUndef h, fun zβ za zw zc => ?_⟩, ?_⟩
    · exact eql_3 rfl ((show za.eval (.tmp 4) = za.tmps.getD 4 undef from rfl).trans (optVal (zc.dep 1 4 (by kernel_rfl)) rfl rfl)) (zc.kn.ev rfl) ⟨_, rfl, Below.refl _ _, optDef zβ rfl⟩
    refine ⟨⟨true, .none rfl, fun h w => optUndef h, fun zβ za zw zc => ?_⟩, ?_⟩
    · exact wp_move rfl ((show za.eval (.tmp 5) = za.tmps.getD 5 undef from rfl).trans (optVal (zc.dep 2 5 (by kernel_rfl)) rfl rfl)) ⟨_, rfl, Below.refl _ _, optDef zβ rfl⟩
    refine ⟨⟨(true && ((t.f : Int) == (0 : Int))), .yes (c := ((t.f : Int) == (0 : Int))) (d := true) rfl (fun v w h => h), fun h w => optUndef h, fun zβ za zw zc => ?_⟩, ?_⟩
    · exact fld_32_1 rfl (zc.kn.ev rfl) ⟨_, rfl, Below.refl _ _, optDef zβ rfl⟩
    refine ⟨⟨(true && ((t.f : Int) == (0 : Int))), .yes (c := ((t.f : Int) == (0 : Int))) (d := true) rfl (fun v w h => h), fun h w => optUndef h, fun zβ za zw zc => ?_⟩, ?_⟩
    · exact ld_30 rfl ((show za.eval (.tmp 7) = za.tmps.getD 7 undef from rfl).trans (optVal (zc.dep 4 7 (by kernel_rfl)) rfl zβ)) (bkeeps zc.below _ _ ((hB4.cell 1).trans rfl)) ⟨_, rfl, Below.refl _ _, optDef zβ rfl⟩
    refine ⟨⟨(true && ((t.f : Int) == (0 : Int))), .yes (c := ((t.f : Int) == (0 : Int))) (d := true) rfl (fun v w h => h), fun h w => optUndef h, fun zβ za zw zc => ?_⟩, ?_⟩
    · exact len_30 rfl ((show za.eval (.tmp 8) = za.tmps.getD 8 undef from rfl).trans (optVal (zc.dep 5 8 (by kernel_rfl)) rfl zβ)) ⟨_, rfl, Below.refl _ _, optDef zβ rfl⟩
    refine ⟨⟨(true && ((t.f : Int) == (0 : Int))), .yes (c := ((t.f : Int) == (0 : Int))) (d := true) rfl (fun v w h => h), fun h w => optUndef h, fun zβ za zw zc => ?_⟩, ?_⟩
    · exact eql_3 rfl ((show za.eval (.tmp 9) = za.tmps.getD 9 undef from rfl).trans (optVal (zc.dep 6 9 (by kernel_rfl)) rfl zβ)) (zc.kn.ev rfl) ⟨_, rfl, Below.refl _ _, optDef zβ rfl⟩
    refine ⟨⟨true, .none rfl, fun h w => optUndef h, fun zβ za zw zc => ?_⟩, ?_⟩
    · exact wp_and rfl ((show za.eval (.tmp 6) = za.tmps.getD 6 undef from rfl).trans (optVal (zc.dep 3 6 (by kernel_rfl)) rfl rfl)) (fun hp => ((show za.eval (.tmp 10) = za.tmps.getD 10 undef from rfl).trans (optVal (zc.dep 7 10 (by kernel_rfl)) rfl (bMk zβ hp)))) ⟨_, rfl, Below.refl _ _, optDef zβ rfl⟩
    refine ⟨⟨true, .none rfl, fun h w => optUndef h, fun zβ za zw zc => ?_⟩, ?_⟩
    · exact wp_assign rfl ((show za.eval (.tmp 11) = za.tmps.getD 11 undef from rfl).trans (optVal (zc.dep 8 11 (by kernel_rfl)) rfl rfl)) ⟨_, rfl, Below.refl _ _, optDef zβ rfl⟩
    exact trivial
  · intro za w8 zh hb9 zu
    have zh := zh.cons (d := 2) (v := .bool ((((t.f : Int) == (0 : Int)) && ((((t.args.length : Nat) : Int) : Int) == (0 : Int))))) (optVal (zu 9 2 (by kernel_rfl)) rfl rfl)
    clear zu
    refine (show WE _ [(0, .agg #[.int .i64 t.f, .slice a t.args.length c]), (1, .pointer (some ⟨g2, 0, none⟩)), (2, .bool ((((t.f : Int) == (0 : Int)) && ((((t.args.length : Nat) : Int) : Int) == (0 : Int)))))] w8 _ .normal from ?_) za (zh.sub ⟨rfl, rfl, rfl, trivial⟩)
    refine WE.next ?_
    refine WC.ret ?_
    refine WE.ret1 rfl rfl ?_
    have hb10 : Below w.heap.size w w8 := (bstep hb5 hb9)
    refine ⟨_, rfl, congrArg Value.bool ?_, hb10⟩
    rw [Bool.eq_iff_iff, T.isTrue_iff]; simp

set_option maxRecDepth 100000 in
theorem row_any (A B : List Int) (w : World) (a1 a2 : Option Addr) (c1 c2 : Nat) (hA : Nums w A a1) (hB : Nums w B a2) (hz : A.length ≤ 1073741824) : Calls Try.prog 10 #[.slice a1 A.length c1, .slice a2 B.length c2] w (Ret fun v' w' => v' = .bool (decide (A = B)) ∧ Below w.heap.size w w') := by
  refine Calls.walk (l := [.slice a1 A.length c1, .slice a2 B.length c2]) Try.func10 rfl (by kernel_rfl) ?_
  refine WC.sub (K' := [(0, .slice a1 A.length c1), (1, .slice a2 B.length c2)]) ⟨rfl, rfl, trivial⟩ ?_
  refine WC.seq ?_
  refine WC.region ?_
  refine WL.val (.bool false) rfl rfl rfl (fun za zC zh zk => wp_assign rfl (zh.ev rfl) zk) ?_
  refine WL.nil (WE.sub (K' := [(0, .slice a1 A.length c1), (1, .slice a2 B.length c2), (4, .bool false)]) ⟨rfl, rfl, rfl, trivial⟩ ?_)
  refine WE.next ?_
  refine WC.seq ?_
  refine WC.seq ?_
  refine WC.region ?_
  refine WL.val (.slice a1 A.length c1) rfl rfl rfl (fun za zC zh zk => wp_move rfl (zh.ev rfl) zk) ?_
  refine WL.val (.int .i64 (((A.length : Nat) : Int))) rfl rfl rfl (fun za zC zh zk => len_27 rfl (zh.ev rfl) zk) ?_
  refine WL.val (.slice a2 B.length c2) rfl rfl rfl (fun za zC zh zk => wp_move rfl (zh.ev rfl) zk) ?_
  refine WL.val (.int .i64 (((B.length : Nat) : Int))) rfl rfl rfl (fun za zC zh zk => len_27 rfl (zh.ev rfl) zk) ?_
  refine WL.val (.bool (((((A.length : Nat) : Int) : Int) != (((B.length : Nat) : Int) : Int)))) rfl rfl rfl (fun za zC zh zk => neq_3 rfl (zh.ev rfl) (zh.ev rfl) zk) ?_
  refine WL.nil (WE.sub (K' := [(0, .slice a1 A.length c1), (1, .slice a2 B.length c2), (4, .bool false), (10, .bool (((((A.length : Nat) : Int) : Int) != (((B.length : Nat) : Int) : Int))))]) ⟨rfl, rfl, rfl, rfl, trivial⟩ ?_)
  refine WE.next ?_
  refine WC.cond rfl (fun h1 => ?_) (fun h1 => ?_)
  · have h1 : (((A.length : Nat) : Int) : Int) ≠ (((B.length : Nat) : Int) : Int) := by simpa using h1
    refine WC.seq ?_
    refine WC.region ?_
    refine WL.val (.bool false) rfl rfl rfl (fun za zC zh zk => wp_assign rfl (zh.ev rfl) zk) ?_
    refine WL.nil (WE.sub (K' := [(0, .slice a1 A.length c1), (1, .slice a2 B.length c2), (4, .bool false), (10, .bool (((((A.length : Nat) : Int) : Int) != (((B.length : Nat) : Int) : Int))))]) ⟨rfl, rfl, rfl, rfl, trivial⟩ ?_)
    refine WE.next ?_
    refine WC.ret ?_
    refine WE.thenRet ?_
    refine WE.ret1 rfl rfl ?_
    exact ⟨_, rfl, congrArg Value.bool (decide_eq_false (fun e => by have z := h1; rw [e] at z; omega)).symm, (Below.refl _ _)⟩
  · have h1 : ¬ ((((A.length : Nat) : Int) : Int) ≠ (((B.length : Nat) : Int) : Int)) := by simpa using h1
    refine WC.skip ?_
    refine WE.next ?_
    refine WC.seq ?_
    refine WC.seq ?_
    refine WC.region ?_
    refine WL.val (.int .i64 0) rfl rfl rfl (fun za zC zh zk => wp_assign rfl (zh.ev rfl) zk) ?_
    refine WL.nil (WE.sub (K' := [(0, .slice a1 A.length c1), (1, .slice a2 B.length c2), (4, .bool false), (5, .int .i64 0), (10, .bool (((((A.length : Nat) : Int) : Int) != (((B.length : Nat) : Int) : Int))))]) ⟨rfl, rfl, rfl, rfl, rfl, trivial⟩ ?_)
    refine WE.next ?_
    refine WC.block ?_
    refine WC.loop (X := Nat) (fun k => A.length - k) (fun k => [(0, .slice a1 A.length c1), (1, .slice a2 B.length c2), (5, .int .i64 (((k : Nat) : Int))), (10, .bool (((((A.length : Nat) : Int) : Int) != (((B.length : Nat) : Int) : Int))))]) (fun k w2 => k ≤ A.length ∧ (∀ i, i < k → nget A i = nget B i) ∧ Below w.heap.size w w2) 0 ⟨rfl, rfl, rfl, rfl, trivial⟩ ?_ ?_
    · exact ⟨Nat.zero_le _, fun i h => absurd h (Nat.not_lt_zero i), (Below.refl _ _)⟩
    · rintro k w2 ⟨hk, hE, hb3⟩
      refine WC.seq ?_
      refine WC.seq ?_
      refine WC.region ?_
      refine WL.val (.int .i64 (((k : Nat) : Int))) rfl rfl rfl (fun za zC zh zk => wp_move rfl (zh.ev rfl) zk) ?_
      refine WL.val (.slice a1 A.length c1) rfl rfl rfl (fun za zC zh zk => wp_move rfl (zh.ev rfl) zk) ?_
      refine WL.val (.int .i64 (((A.length : Nat) : Int))) rfl rfl rfl (fun za zC zh zk => len_27 rfl (zh.ev rfl) zk) ?_
      refine WL.val (.bool ((decide ((((k : Nat) : Int) : Int) < (((A.length : Nat) : Int) : Int))))) rfl rfl rfl (fun za zC zh zk => lss_3 rfl (zh.ev rfl) (zh.ev rfl) zk) ?_
      refine WL.nil (WE.sub (K' := [(0, .slice a1 A.length c1), (1, .slice a2 B.length c2), (5, .int .i64 (((k : Nat) : Int))), (10, .bool (((((A.length : Nat) : Int) : Int) != (((B.length : Nat) : Int) : Int)))), (14, .bool ((decide ((((k : Nat) : Int) : Int) < (((A.length : Nat) : Int) : Int)))))]) ⟨rfl, rfl, rfl, rfl, rfl, trivial⟩ ?_)
      refine WE.next ?_
      refine WC.cond rfl (fun h4 => ?_) (fun h4 => ?_)
      · have h4 : (((k : Nat) : Int) : Int) < (((A.length : Nat) : Int) : Int) := by simpa using h4
        refine WC.skip ?_
        refine WE.next ?_
        refine WC.seq ?_
        refine WC.block ?_
        refine WC.seq ?_
        obtain ⟨b5, o6, ha7, hc8⟩ := hA
        obtain ⟨b9, o10, ha11, hc12⟩ := hB
        refine WC.opt [(true, .val (.slice a1 A.length c1)), (true, .val (.int .i64 (((k : Nat) : Int)))), (true, .val (.pointer (some ⟨b5, o6 + k, none⟩))), (true, .val (.int .i64 ((nget A k)))), (true, .val (.slice a2 B.length c2)), (true, .val (.int .i64 (((k : Nat) : Int)))), (true, .val (.pointer (some ⟨b9, o10 + k, none⟩))), (true, .val (.int .i64 ((nget B k)))), (true, .val (.bool ((((nget A k) : Int) != ((nget B k) : Int)))))] [(0, .slice a1 A.length c1), (1, .slice a2 B.length c2), (5, .int .i64 (((k : Nat) : Int))), (10, .bool (((((A.length : Nat) : Int) : Int) != (((B.length : Nat) : Int) : Int)))), (14, .bool ((decide ((((k : Nat) : Int) : Int) < (((A.length : Nat) : Int) : Int)))))] ⟨rfl, rfl, rfl, rfl, rfl, trivial⟩ (by kernel_rfl) (by kernel_rfl) (by kernel_rfl) ?_ ?_
        · refine ⟨⟨true, .none rfl, fun h w => optUndef h, fun zβ za zw zc => ?_⟩, ?_⟩
          · exact wp_move rfl (zc.kn.ev rfl) ⟨_, rfl, Below.refl _ _, optDef zβ rfl⟩
          refine ⟨⟨true, .none rfl, fun h w => optUndef h, fun zβ za zw zc => ?_⟩, ?_⟩
          · exact wp_move rfl (zc.kn.ev rfl) ⟨_, rfl, Below.refl _ _, optDef zβ rfl⟩
          refine ⟨⟨true, .none rfl, fun h w => optUndef h, fun zβ za zw zc => ?_⟩, ?_⟩
          · exact ix_27 (k := k) rfl ((show za.eval (.tmp 17) = za.tmps.getD 17 undef from rfl).trans (optVal (zc.dep 0 17 (by kernel_rfl)) rfl rfl)) (ha7 k (by first | omega | (simp; omega))) ((show za.eval (.tmp 18) = za.tmps.getD 18 undef from rfl).trans (optVal (zc.dep 1 18 (by kernel_rfl)) rfl rfl)) (by first | omega | (simp; omega)) ⟨_, rfl, Below.refl _ _, optDef zβ rfl⟩
          refine ⟨⟨true, .none rfl, fun h w => optUndef h, fun zβ za zw zc => ?_⟩, ?_⟩
          · exact ld_3 rfl ((show za.eval (.tmp 19) = za.tmps.getD 19 undef from rfl).trans (optVal (zc.dep 2 19 (by kernel_rfl)) rfl rfl)) (bkeeps (bstep hb3 zc.below) _ _ (hc8 k (by first | omega | (simp; omega)))) ⟨_, rfl, Below.refl _ _, optDef zβ rfl⟩
          refine ⟨⟨true, .none rfl, fun h w => optUndef h, fun zβ za zw zc => ?_⟩, ?_⟩
          · exact wp_move rfl (zc.kn.ev rfl) ⟨_, rfl, Below.refl _ _, optDef zβ rfl⟩
          refine ⟨⟨true, .none rfl, fun h w => optUndef h, fun zβ za zw zc => ?_⟩, ?_⟩
          · exact wp_move rfl (zc.kn.ev rfl) ⟨_, rfl, Below.refl _ _, optDef zβ rfl⟩
          refine ⟨⟨true, .none rfl, fun h w => optUndef h, fun zβ za zw zc => ?_⟩, ?_⟩
          · exact ix_27 (k := k) rfl ((show za.eval (.tmp 21) = za.tmps.getD 21 undef from rfl).trans (optVal (zc.dep 4 21 (by kernel_rfl)) rfl rfl)) (ha11 k (by first | omega | (simp; omega))) ((show za.eval (.tmp 22) = za.tmps.getD 22 undef from rfl).trans (optVal (zc.dep 5 22 (by kernel_rfl)) rfl rfl)) (by first | omega | (simp; omega)) ⟨_, rfl, Below.refl _ _, optDef zβ rfl⟩
          refine ⟨⟨true, .none rfl, fun h w => optUndef h, fun zβ za zw zc => ?_⟩, ?_⟩
          · exact ld_3 rfl ((show za.eval (.tmp 23) = za.tmps.getD 23 undef from rfl).trans (optVal (zc.dep 6 23 (by kernel_rfl)) rfl rfl)) (bkeeps (bstep hb3 zc.below) _ _ (hc12 k (by first | omega | (simp; omega)))) ⟨_, rfl, Below.refl _ _, optDef zβ rfl⟩
          refine ⟨⟨true, .none rfl, fun h w => optUndef h, fun zβ za zw zc => ?_⟩, ?_⟩
          · exact neq_3 rfl ((show za.eval (.tmp 20) = za.tmps.getD 20 undef from rfl).trans (optVal (zc.dep 3 20 (by kernel_rfl)) rfl rfl)) ((show za.eval (.tmp 24) = za.tmps.getD 24 undef from rfl).trans (optVal (zc.dep 7 24 (by kernel_rfl)) rfl rfl)) ⟨_, rfl, Below.refl _ _, optDef zβ rfl⟩
          exact trivial
        · intro za w13 zh hb14 zu
          have zh := zh.cons (d := 25) (v := .bool ((((nget A k) : Int) != ((nget B k) : Int)))) (optVal (zu 8 25 (by kernel_rfl)) rfl rfl)
          clear zu
          refine (show WE _ [(0, .slice a1 A.length c1), (1, .slice a2 B.length c2), (5, .int .i64 (((k : Nat) : Int))), (10, .bool (((((A.length : Nat) : Int) : Int) != (((B.length : Nat) : Int) : Int)))), (14, .bool ((decide ((((k : Nat) : Int) : Int) < (((A.length : Nat) : Int) : Int))))), (25, .bool ((((nget A k) : Int) != ((nget B k) : Int))))] w13 _ .normal from ?_) za (zh.sub ⟨rfl, rfl, rfl, rfl, rfl, rfl, trivial⟩)
          refine WE.next ?_
          refine WC.cond rfl (fun h15 => ?_) (fun h15 => ?_)
          · have h15 : ((nget A k) : Int) ≠ ((nget B k) : Int) := by simpa using h15
            refine WC.seq ?_
            refine WC.region ?_
            refine WL.val (.bool false) rfl rfl rfl (fun za zC zh zk => wp_assign rfl (zh.ev rfl) zk) ?_
            refine WL.nil (WE.sub (K' := [(0, .slice a1 A.length c1), (1, .slice a2 B.length c2), (4, .bool false), (5, .int .i64 (((k : Nat) : Int))), (10, .bool (((((A.length : Nat) : Int) : Int) != (((B.length : Nat) : Int) : Int)))), (14, .bool ((decide ((((k : Nat) : Int) : Int) < (((A.length : Nat) : Int) : Int))))), (25, .bool ((((nget A k) : Int) != ((nget B k) : Int))))]) ⟨rfl, rfl, rfl, rfl, rfl, rfl, rfl, trivial⟩ ?_)
            refine WE.next ?_
            refine WC.ret ?_
            refine WE.blockRet ?_
            refine WE.thenRet ?_
            refine WE.thenRet ?_
            refine WE.blockRet ?_
            refine WE.thenRet ?_
            refine WE.ret1 rfl rfl ?_
            have hb16 : Below w.heap.size w w13 := (bstep hb3 hb14)
            exact ⟨_, rfl, congrArg Value.bool (decide_eq_false (fun e => h15 (by rw [e]))).symm, hb16⟩
          · have h15 : ¬ (((nget A k) : Int) ≠ ((nget B k) : Int)) := by simpa using h15
            refine WC.skip ?_
            refine WE.blockNormal ?_
            refine WE.next ?_
            refine WC.region ?_
            refine WL.val (.int .i64 (((k : Nat) : Int))) rfl rfl rfl (fun za zC zh zk => wp_move rfl (zh.ev rfl) zk) ?_
            refine WL.val (.int .i64 ((((k + 1) : Nat) : Int))) rfl rfl rfl (fun za zC zh zk => addb_3 rfl (zh.ev rfl) (zh.ev rfl) (wrap_eq (by omega) (by omega) (by omega)) zk) ?_
            refine WL.val (.int .i64 ((((k + 1) : Nat) : Int))) rfl rfl rfl (fun za zC zh zk => wp_assign rfl (zh.ev rfl) zk) ?_
            refine WL.nil (WE.sub (K' := [(0, .slice a1 A.length c1), (1, .slice a2 B.length c2), (5, .int .i64 ((((k + 1) : Nat) : Int))), (10, .bool (((((A.length : Nat) : Int) : Int) != (((B.length : Nat) : Int) : Int)))), (14, .bool ((decide ((((k : Nat) : Int) : Int) < (((A.length : Nat) : Int) : Int))))), (25, .bool ((((nget A k) : Int) != ((nget B k) : Int))))]) ⟨rfl, rfl, rfl, rfl, rfl, rfl, trivial⟩ ?_)
            refine WE.round (k + 1) ⟨rfl, rfl, rfl, rfl, trivial⟩ ?_ ?_
            · have hb17 : Below w.heap.size w w13 := (bstep hb3 hb14)
              exact ⟨by omega, fun i hi => by rcases Nat.lt_or_ge i k with q | q; exact hE i q; (obtain rfl : i = k := by omega); have z := h15; omega, hb17⟩
            · omega
      · have h4 : ¬ ((((k : Nat) : Int) : Int) < (((A.length : Nat) : Int) : Int)) := by simpa using h4
        refine WC.exit ?_
        refine WE.thenExit ?_
        refine WE.thenExit ?_
        refine WE.blockIs rfl ?_
        refine WE.next ?_
        refine WC.seq ?_
        refine WC.region ?_
        refine WL.val (.bool true) rfl rfl rfl (fun za zC zh zk => wp_assign rfl (zh.ev rfl) zk) ?_
        refine WL.nil (WE.sub (K' := [(0, .slice a1 A.length c1), (1, .slice a2 B.length c2), (4, .bool true), (5, .int .i64 (((k : Nat) : Int))), (10, .bool (((((A.length : Nat) : Int) : Int) != (((B.length : Nat) : Int) : Int)))), (14, .bool ((decide ((((k : Nat) : Int) : Int) < (((A.length : Nat) : Int) : Int)))))]) ⟨rfl, rfl, rfl, rfl, rfl, rfl, trivial⟩ ?_)
        refine WE.next ?_
        refine WC.ret ?_
        refine WE.ret1 rfl rfl ?_
        exact ⟨_, rfl, congrArg Value.bool (decide_eq_true (nums_ext (by omega) (fun i hi => hE i (by omega)))).symm, hb3⟩

set_option maxRecDepth 100000 in
theorem may_row (A B : List Int) (w : World) (a1 a2 : Option Addr) (c1 c2 : Nat) (hA : Nums w A a1) (hB : Nums w B a2) (hl : A.length = B.length) (hz : A.length ≤ 1073741824) : Calls Try.prog 32 #[.slice a1 A.length c1, .slice a2 B.length c2] w (Ret fun v' w' => v' = .bool (mayB A B) ∧ Below w.heap.size w w') := by
  have hmi := mayB_iff (l := A) (s := B) (by omega)
  refine Calls.walk (l := [.slice a1 A.length c1, .slice a2 B.length c2]) Try.func32 rfl (by kernel_rfl) ?_
  refine WC.sub (K' := [(0, .slice a1 A.length c1), (1, .slice a2 B.length c2)]) ⟨rfl, rfl, trivial⟩ ?_
  refine WC.seq ?_
  refine WC.region ?_
  refine WL.val (.bool false) rfl rfl rfl (fun za zC zh zk => wp_assign rfl (zh.ev rfl) zk) ?_
  refine WL.nil (WE.sub (K' := [(0, .slice a1 A.length c1), (1, .slice a2 B.length c2), (4, .bool false)]) ⟨rfl, rfl, rfl, trivial⟩ ?_)
  refine WE.next ?_
  refine WC.seq ?_
  refine WC.seq ?_
  refine WC.region ?_
  refine WL.val (.slice a1 A.length c1) rfl rfl rfl (fun za zC zh zk => wp_move rfl (zh.ev rfl) zk) ?_
  refine WL.val (.int .i64 (((A.length : Nat) : Int))) rfl rfl rfl (fun za zC zh zk => len_27 rfl (zh.ev rfl) zk) ?_
  refine WL.val (.int .i64 0) rfl rfl rfl (fun za zC zh zk => wp_move rfl (zh.ev rfl) zk) ?_
  refine WL.nil (WE.sub (K' := [(0, .slice a1 A.length c1), (1, .slice a2 B.length c2), (4, .bool false), (7, .slice a1 A.length c1), (8, .int .i64 (((A.length : Nat) : Int))), (9, .int .i64 0)]) ⟨rfl, rfl, rfl, rfl, rfl, rfl, trivial⟩ ?_)
  refine WE.next ?_
  refine WC.block ?_
  refine WC.loop (X := Nat) (fun k => A.length - k) (fun k => [(0, .slice a1 A.length c1), (1, .slice a2 B.length c2), (7, .slice a1 A.length c1), (8, .int .i64 (((A.length : Nat) : Int))), (9, .int .i64 (((k : Nat) : Int)))]) (fun k w1 => k ≤ A.length ∧ (∀ i, i < k → nget A i ≤ nget B i) ∧ Below w.heap.size w w1) 0 ⟨rfl, rfl, rfl, rfl, rfl, trivial⟩ ?_ ?_
  · exact ⟨Nat.zero_le _, fun i h => absurd h (Nat.not_lt_zero i), (Below.refl _ _)⟩
  · rintro k w1 ⟨hk, hE, hb2⟩
    refine WC.seq ?_
    refine WC.region ?_
    refine WL.val (.bool ((decide ((((k : Nat) : Int) : Int) < (((A.length : Nat) : Int) : Int))))) rfl rfl rfl (fun za zC zh zk => lss_3 rfl (zh.ev rfl) (zh.ev rfl) zk) ?_
    refine WL.nil (WE.sub (K' := [(0, .slice a1 A.length c1), (1, .slice a2 B.length c2), (7, .slice a1 A.length c1), (8, .int .i64 (((A.length : Nat) : Int))), (9, .int .i64 (((k : Nat) : Int))), (10, .bool ((decide ((((k : Nat) : Int) : Int) < (((A.length : Nat) : Int) : Int)))))]) ⟨rfl, rfl, rfl, rfl, rfl, rfl, trivial⟩ ?_)
    refine WE.next ?_
    refine WC.seq ?_
    refine WC.cond rfl (fun h3 => ?_) (fun h3 => ?_)
    · have h3 : (((k : Nat) : Int) : Int) < (((A.length : Nat) : Int) : Int) := by simpa using h3
      refine WC.skip ?_
      refine WE.next ?_
      refine WC.seq ?_
      refine WC.block ?_
      refine WC.seq ?_
      refine WC.region ?_
      refine WL.val (.int .i64 (((k : Nat) : Int))) rfl rfl rfl (fun za zC zh zk => wp_move rfl (zh.ev rfl) zk) ?_
      obtain ⟨b4, o5, ha6, hc7⟩ := hA
      refine WL.val (.pointer (some ⟨b4, o5 + k, none⟩)) rfl rfl rfl (fun za zC zh zk => ix_27 (k := k) rfl (zh.ev rfl) (ha6 k (by first | omega | (simp; omega))) (zh.ev rfl) (by first | omega | (simp; omega)) zk) ?_
      refine WL.val (.int .i64 ((nget A k))) rfl rfl rfl (fun za zC zh zk => ld_3 rfl (zh.ev rfl) (bkeeps hb2 _ _ (hc7 k (by first | omega | (simp; omega)))) zk) ?_
      refine WL.val (.int .i64 (((k : Nat) : Int))) rfl rfl rfl (fun za zC zh zk => wp_assign rfl (zh.ev rfl) zk) ?_
      refine WL.val (.int .i64 ((nget A k))) rfl rfl rfl (fun za zC zh zk => wp_assign rfl (zh.ev rfl) zk) ?_
      refine WL.nil (WE.sub (K' := [(0, .slice a1 A.length c1), (1, .slice a2 B.length c2), (5, .int .i64 (((k : Nat) : Int))), (6, .int .i64 ((nget A k))), (7, .slice a1 A.length c1), (8, .int .i64 (((A.length : Nat) : Int))), (9, .int .i64 (((k : Nat) : Int))), (10, .bool ((decide ((((k : Nat) : Int) : Int) < (((A.length : Nat) : Int) : Int)))))]) ⟨rfl, rfl, rfl, rfl, rfl, rfl, rfl, rfl, trivial⟩ ?_)
      refine WE.next ?_
      refine WC.seq ?_
      refine WC.region ?_
      refine WL.val (.int .i64 ((nget A k))) rfl rfl rfl (fun za zC zh zk => wp_move rfl (zh.ev rfl) zk) ?_
      refine WL.val (.slice a2 B.length c2) rfl rfl rfl (fun za zC zh zk => wp_move rfl (zh.ev rfl) zk) ?_
      refine WL.val (.int .i64 (((k : Nat) : Int))) rfl rfl rfl (fun za zC zh zk => wp_move rfl (zh.ev rfl) zk) ?_
      obtain ⟨b8, o9, ha10, hc11⟩ := hB
      refine WL.val (.pointer (some ⟨b8, o9 + k, none⟩)) rfl rfl rfl (fun za zC zh zk => ix_27 (k := k) rfl (zh.ev rfl) (ha10 k (by first | omega | (simp; omega))) (zh.ev rfl) (by first | omega | (simp; omega)) zk) ?_
      refine WL.val (.int .i64 ((nget B k))) rfl rfl rfl (fun za zC zh zk => ld_3 rfl (zh.ev rfl) (bkeeps hb2 _ _ (hc11 k (by first | omega | (simp; omega)))) zk) ?_
      refine WL.val (.bool ((decide (((nget B k) : Int) < ((nget A k) : Int))))) rfl rfl rfl (fun za zC zh zk => gtr_3 rfl (zh.ev rfl) (zh.ev rfl) zk) ?_
      refine WL.nil (WE.sub (K' := [(0, .slice a1 A.length c1), (1, .slice a2 B.length c2), (5, .int .i64 (((k : Nat) : Int))), (6, .int .i64 ((nget A k))), (7, .slice a1 A.length c1), (8, .int .i64 (((A.length : Nat) : Int))), (9, .int .i64 (((k : Nat) : Int))), (10, .bool ((decide ((((k : Nat) : Int) : Int) < (((A.length : Nat) : Int) : Int))))), (19, .bool ((decide (((nget B k) : Int) < ((nget A k) : Int)))))]) ⟨rfl, rfl, rfl, rfl, rfl, rfl, rfl, rfl, rfl, trivial⟩ ?_)
      refine WE.next ?_
      refine WC.cond rfl (fun h12 => ?_) (fun h12 => ?_)
      · have h12 : ((nget B k) : Int) < ((nget A k) : Int) := by simpa using h12
        refine WC.seq ?_
        refine WC.region ?_
        refine WL.val (.bool false) rfl rfl rfl (fun za zC zh zk => wp_assign rfl (zh.ev rfl) zk) ?_
        refine WL.nil (WE.sub (K' := [(0, .slice a1 A.length c1), (1, .slice a2 B.length c2), (4, .bool false), (5, .int .i64 (((k : Nat) : Int))), (6, .int .i64 ((nget A k))), (7, .slice a1 A.length c1), (8, .int .i64 (((A.length : Nat) : Int))), (9, .int .i64 (((k : Nat) : Int))), (10, .bool ((decide ((((k : Nat) : Int) : Int) < (((A.length : Nat) : Int) : Int))))), (19, .bool ((decide (((nget B k) : Int) < ((nget A k) : Int)))))]) ⟨rfl, rfl, rfl, rfl, rfl, rfl, rfl, rfl, rfl, rfl, trivial⟩ ?_)
        refine WE.next ?_
        refine WC.ret ?_
        refine WE.blockRet ?_
        refine WE.thenRet ?_
        refine WE.thenRet ?_
        refine WE.blockRet ?_
        refine WE.thenRet ?_
        refine WE.ret1 rfl rfl ?_
        exact ⟨_, rfl, congrArg Value.bool (Bool.eq_false_iff.2 (fun e => by have z := hmi.1 e k (by omega); have z2 := h12; omega)).symm, hb2⟩
      · have h12 : ¬ (((nget B k) : Int) < ((nget A k) : Int)) := by simpa using h12
        refine WC.skip ?_
        refine WE.blockNormal ?_
        refine WE.next ?_
        refine WC.region ?_
        refine WL.val (.int .i64 ((((k + 1) : Nat) : Int))) rfl rfl rfl (fun za zC zh zk => addb_3 rfl (zh.ev rfl) (zh.ev rfl) (wrap_eq (by omega) (by omega) (by omega)) zk) ?_
        refine WL.val (.int .i64 ((((k + 1) : Nat) : Int))) rfl rfl rfl (fun za zC zh zk => wp_move rfl (zh.ev rfl) zk) ?_
        refine WL.nil (WE.sub (K' := [(0, .slice a1 A.length c1), (1, .slice a2 B.length c2), (5, .int .i64 (((k : Nat) : Int))), (6, .int .i64 ((nget A k))), (7, .slice a1 A.length c1), (8, .int .i64 (((A.length : Nat) : Int))), (9, .int .i64 ((((k + 1) : Nat) : Int))), (10, .bool ((decide ((((k : Nat) : Int) : Int) < (((A.length : Nat) : Int) : Int))))), (19, .bool ((decide (((nget B k) : Int) < ((nget A k) : Int)))))]) ⟨rfl, rfl, rfl, rfl, rfl, rfl, rfl, rfl, rfl, trivial⟩ ?_)
        refine WE.round (k + 1) ⟨rfl, rfl, rfl, rfl, rfl, trivial⟩ ?_ ?_
        · exact ⟨by omega, fun i hi => by rcases Nat.lt_or_ge i k with q | q; exact hE i q; (obtain rfl : i = k := by omega); have z := h12; omega, hb2⟩
        · omega
    · have h3 : ¬ ((((k : Nat) : Int) : Int) < (((A.length : Nat) : Int) : Int)) := by simpa using h3
      refine WC.exit ?_
      refine WE.thenExit ?_
      refine WE.thenExit ?_
      refine WE.blockIs rfl ?_
      refine WE.next ?_
      refine WC.seq ?_
      refine WC.region ?_
      refine WL.val (.bool true) rfl rfl rfl (fun za zC zh zk => wp_assign rfl (zh.ev rfl) zk) ?_
      refine WL.nil (WE.sub (K' := [(0, .slice a1 A.length c1), (1, .slice a2 B.length c2), (4, .bool true), (7, .slice a1 A.length c1), (8, .int .i64 (((A.length : Nat) : Int))), (9, .int .i64 (((k : Nat) : Int))), (10, .bool ((decide ((((k : Nat) : Int) : Int) < (((A.length : Nat) : Int) : Int)))))]) ⟨rfl, rfl, rfl, rfl, rfl, rfl, rfl, trivial⟩ ?_)
      refine WE.next ?_
      refine WC.ret ?_
      refine WE.ret1 rfl rfl ?_
      exact ⟨_, rfl, congrArg Value.bool (hmi.2 (fun i hi => hE i (by omega))).symm, hb2⟩

theorem cell_two {P : Program} {w : World} {g t : Nat} {u v : Value} (h : Blk w g t #[u, v]) : w.cell? ⟨g, 0, none⟩ = some u ∧ w.cell? ⟨g, 1, none⟩ = some v := ⟨by rw [h.cell]; rfl, by rw [h.cell]; rfl⟩
set_option maxRecDepth 100000 in
theorem of_any (f : Int) (a : Option Addr) (n c : Nat) (w : World) : Calls Try.prog 28 #[.int .i64 f, .slice a n c] w (Ret fun v' w' => v' = .agg #[.int .i64 f, .slice a n c] ∧ Below w.heap.size w w') := by
  refine Calls.walk (l := [.int .i64 f, .slice a n c]) Try.func28 rfl (by kernel_rfl) ?_
  refine WC.sub (K' := [(0, .int .i64 f), (1, .slice a n c)]) ⟨rfl, rfl, trivial⟩ ?_
  refine WC.seq ?_
  refine WC.region ?_
  refine WL.step (post := NewBlk w 32 #[.int .i64 0, .slice none 0 0]) rfl rfl rfl (fun za zC zh zk => alloc_32 rfl (zk _ _ (newBlk _ _ _))) ?_
  rintro _ w1 ⟨g2, rfl, hg3, hB4, hb5, hz6⟩
  have hl7 : w.heap.size ≤ g2 := by omega
  refine WL.nil (WE.sub (K' := [(0, .int .i64 f), (1, .slice a n c), (4, .pointer (some ⟨g2, 0, none⟩))]) ⟨rfl, rfl, rfl, trivial⟩ ?_)
  refine WE.next ?_
  refine WC.seq ?_
  refine WC.region ?_
  refine WL.val (.int .i64 f) rfl rfl rfl (fun za zC zh zk => wp_move rfl (zh.ev rfl) zk) ?_
  refine WL.val (.slice a n c) rfl rfl rfl (fun za zC zh zk => wp_move rfl (zh.ev rfl) zk) ?_
  refine WL.val (.agg #[.int .i64 f, .slice a n c]) rfl rfl rfl (fun za zC zh zk => build_32_0_1 rfl (zh.ev rfl) (zh.ev rfl) zk) ?_
  refine WL.step (post := fun _ w' => Upd g2 w1 w' ∧ Blk w' g2 32 #[.int .i64 f, .slice a n c]) rfl rfl rfl (fun za zC zh zk => st_32 rfl (zh.ev rfl) (zh.ev rfl) rfl rfl hB4 (by first | decide | simp) (fun v => zk v _ ⟨(Upd.at_ _ _ _ _).trans (Upd.at_ _ _ _ _), (hB4.set_ 0 _).set_ 1 _⟩)) ?_
  rintro v11 w8 ⟨hu9, hB10⟩
  have hb12 := upd_below hb5 hu9 (by omega)
  refine WL.nil (WE.sub (K' := [(0, .int .i64 f), (1, .slice a n c), (4, .pointer (some ⟨g2, 0, none⟩))]) ⟨rfl, rfl, rfl, trivial⟩ ?_)
  refine WE.next ?_
  refine WC.ret ?_
  refine WE.retAny (v := .agg #[.int .i64 f, .slice a n c]) (fun za zh => ?_) ?_
  · have z0 : za.tmps[4]?.getD undef = .pointer (some ⟨g2, 0, none⟩) := by rw [← Array.getD_eq_getD_getElem?]; exact zh.knows 4 _ rfl
    have y0 : w8.cell? ⟨g2, 0, none⟩ = some (.int .i64 f) := ((hB10.cell 0).trans rfl)
    have y1 : w8.cell? ⟨g2, 1, none⟩ = some (.slice a n c) := ((hB10.cell 1).trans rfl)
    simp [results, Try.results28, z0, y0, y1, go_sem]
  · exact ⟨_, rfl, rfl, hb12⟩

/-- A clause's size, as the law reckons it. -/
def lsize : List Li → Nat → Nat
  | [], n => n
  | x :: r, n => if n ≤ 40000 then lsize r (n + x.l.size + x.r.size) else n
theorem lsize_drop {l : List Li} {k n : Nat} (h : k < l.length) : lsize (l.drop k) n = if n ≤ 40000 then lsize (l.drop (k + 1)) (n + (lget l k).l.size + (lget l k).r.size) else n := by
  rw [List.drop_eq_getElem_cons h, lsize, lget_lt h]
set_option maxRecDepth 100000 in
theorem lsize_any (l : List Li) (w : World) (a : Option Addr) (c : Nat) (hl : IsCl w l a c) : Calls Try.prog 8 #[.slice a l.length c] w (Ret fun v' w' => v' = .int .i64 (lsize l l.length : Int) ∧ Below w.heap.size w w') := by
  have hr := hl.rows
  have hsm := hl.small
  refine Calls.walk (l := [.slice a l.length c]) Try.func8 rfl (by kernel_rfl) ?_
  refine WC.sub (K' := [(0, .slice a l.length c)]) ⟨rfl, trivial⟩ ?_
  refine WC.seq ?_
  refine WC.region ?_
  refine WL.val (.int .i64 0) rfl rfl rfl (fun za zC zh zk => wp_assign rfl (zh.ev rfl) zk) ?_
  refine WL.nil (WE.sub (K' := [(0, .slice a l.length c), (2, .int .i64 0)]) ⟨rfl, rfl, trivial⟩ ?_)
  refine WE.next ?_
  refine WC.seq ?_
  refine WC.region ?_
  refine WL.val (.slice a l.length c) rfl rfl rfl (fun za zC zh zk => wp_move rfl (zh.ev rfl) zk) ?_
  refine WL.val (.int .i64 (((l.length : Nat) : Int))) rfl rfl rfl (fun za zC zh zk => len_23 rfl (zh.ev rfl) zk) ?_
  refine WL.val (.int .i64 (((l.length : Nat) : Int))) rfl rfl rfl (fun za zC zh zk => wp_assign rfl (zh.ev rfl) zk) ?_
  refine WL.nil (WE.sub (K' := [(0, .slice a l.length c), (2, .int .i64 0), (3, .int .i64 (((l.length : Nat) : Int)))]) ⟨rfl, rfl, rfl, trivial⟩ ?_)
  refine WE.next ?_
  refine WC.seq ?_
  refine WC.seq ?_
  refine WC.region ?_
  refine WL.val (.int .i64 0) rfl rfl rfl (fun za zC zh zk => wp_assign rfl (zh.ev rfl) zk) ?_
  refine WL.nil (WE.sub (K' := [(0, .slice a l.length c), (2, .int .i64 0), (3, .int .i64 (((l.length : Nat) : Int))), (4, .int .i64 0)]) ⟨rfl, rfl, rfl, rfl, trivial⟩ ?_)
  refine WE.next ?_
  refine WC.block ?_
  refine WC.loop (X := Nat × Nat) (fun z => l.length - z.1) (fun z => [(0, .slice a l.length c), (2, .int .i64 0), (3, .int .i64 (((z.2 : Nat) : Int))), (4, .int .i64 (((z.1 : Nat) : Int)))]) (fun z w1 => z.1 ≤ l.length ∧ z.2 ≤ 17179869184 ∧ lsize (l.drop z.1) z.2 = lsize l l.length ∧ Below w.heap.size w w1) ((0, l.length)) ⟨rfl, rfl, rfl, rfl, trivial⟩ ?_ ?_
  · exact ⟨Nat.zero_le _, by (try dsimp only); omega, by simp, (Below.refl _ _)⟩
  · rintro z w1 ⟨hk, hzs, hE, hb2⟩
    have hpl : z.1 < l.length → (lget l z.1).l.size ≤ 4294967296 := fun h => hl.pl h
    have hpr : z.1 < l.length → (lget l z.1).r.size ≤ 4294967296 := fun h => hl.pr h
    refine WC.seq ?_
    refine WC.seq ?_
    refine WC.opt [(true, .val (.int .i64 (((z.1 : Nat) : Int)))), (true, .val (.slice a l.length c)), (true, .val (.int .i64 (((l.length : Nat) : Int)))), (true, .val (.bool ((decide ((((z.1 : Nat) : Int) : Int) < (((l.length : Nat) : Int) : Int)))))), (true, .val (.bool ((decide ((((z.1 : Nat) : Int) : Int) < (((l.length : Nat) : Int) : Int)))))), ((true && (decide ((((z.1 : Nat) : Int) : Int) < (((l.length : Nat) : Int) : Int)))), .val (.int .i64 (((z.2 : Nat) : Int)))), ((true && (decide ((((z.1 : Nat) : Int) : Int) < (((l.length : Nat) : Int) : Int)))), .val (.bool ((decide ((((z.2 : Nat) : Int) : Int) ≤ (40000 : Int)))))), (true, .val (.bool (((decide ((((z.1 : Nat) : Int) : Int) < (((l.length : Nat) : Int) : Int))) && (decide ((((z.2 : Nat) : Int) : Int) ≤ (40000 : Int)))))))] [(0, .slice a l.length c), (2, .int .i64 0), (3, .int .i64 (((z.2 : Nat) : Int))), (4, .int .i64 (((z.1 : Nat) : Int)))] ⟨rfl, rfl, rfl, rfl, trivial⟩ (by kernel_rfl) (by kernel_rfl) (by kernel_rfl) ?_ ?_
    · refine ⟨⟨true, .none rfl, fun h w => optUndef h, fun zβ za zw zc => ?_⟩, ?_⟩
      · exact wp_move rfl (zc.kn.ev rfl) ⟨_, rfl, Below.refl _ _, optDef zβ rfl⟩
      refine ⟨⟨true, .none rfl, fun h w => optUndef h, fun zβ za zw zc => ?_⟩, ?_⟩
      · exact wp_move rfl (zc.kn.ev rfl) ⟨_, rfl, Below.refl _ _, optDef zβ rfl⟩
      refine ⟨⟨true, .none rfl, fun h w => optUndef h, fun zβ za zw zc => ?_⟩, ?_⟩
      · exact len_23 rfl ((show za.eval (.tmp 8) = za.tmps.getD 8 undef from rfl).trans (optVal (zc.dep 1 8 (by kernel_rfl)) rfl rfl)) ⟨_, rfl, Below.refl _ _, optDef zβ rfl⟩
      refine ⟨⟨true, .none rfl, fun h w => optUndef h, fun zβ za zw zc => ?_⟩, ?_⟩
      · exact lss_3 rfl ((show za.eval (.tmp 7) = za.tmps.getD 7 undef from rfl).trans (optVal (zc.dep 0 7 (by kernel_rfl)) rfl rfl)) ((show za.eval (.tmp 9) = za.tmps.getD 9 undef from rfl).trans (optVal (zc.dep 2 9 (by kernel_rfl)) rfl rfl)) ⟨_, rfl, Below.refl _ _, optDef zβ rfl⟩
      refine ⟨⟨true, .none rfl, fun h w => optUndef h, fun zβ za zw zc => ?_⟩, ?_⟩
      · exact wp_move rfl ((show za.eval (.tmp 10) = za.tmps.getD 10 undef from rfl).trans (optVal (zc.dep 3 10 (by kernel_rfl)) rfl rfl)) ⟨_, rfl, Below.refl _ _, optDef zβ rfl⟩
      refine ⟨⟨(true && (decide ((((z.1 : Nat) : Int) : Int) < (((l.length : Nat) : Int) : Int)))), .yes (c := (decide ((((z.1 : Nat) : Int) : Int) < (((l.length : Nat) : Int) : Int)))) (d := true) rfl (fun v w h => h), fun h w => optUndef h, fun zβ za zw zc => ?_⟩, ?_⟩
      · exact wp_move rfl (zc.kn.ev rfl) ⟨_, rfl, Below.refl _ _, optDef zβ rfl⟩
      refine ⟨⟨(true && (decide ((((z.1 : Nat) : Int) : Int) < (((l.length : Nat) : Int) : Int)))), .yes (c := (decide ((((z.1 : Nat) : Int) : Int) < (((l.length : Nat) : Int) : Int)))) (d := true) rfl (fun v w h => h), fun h w => optUndef h, fun zβ za zw zc => ?_⟩, ?_⟩
      · exact leq_3 rfl ((show za.eval (.tmp 12) = za.tmps.getD 12 undef from rfl).trans (optVal (zc.dep 5 12 (by kernel_rfl)) rfl zβ)) (zc.kn.ev rfl) ⟨_, rfl, Below.refl _ _, optDef zβ rfl⟩
      refine ⟨⟨true, .none rfl, fun h w => optUndef h, fun zβ za zw zc => ?_⟩, ?_⟩
      · exact wp_and rfl ((show za.eval (.tmp 11) = za.tmps.getD 11 undef from rfl).trans (optVal (zc.dep 4 11 (by kernel_rfl)) rfl rfl)) (fun hp => ((show za.eval (.tmp 13) = za.tmps.getD 13 undef from rfl).trans (optVal (zc.dep 6 13 (by kernel_rfl)) rfl (bMk zβ hp)))) ⟨_, rfl, Below.refl _ _, optDef zβ rfl⟩
      exact trivial
    · intro za w3 zh hb4 zu
      have zh := zh.cons (d := 14) (v := .bool (((decide ((((z.1 : Nat) : Int) : Int) < (((l.length : Nat) : Int) : Int))) && (decide ((((z.2 : Nat) : Int) : Int) ≤ (40000 : Int)))))) (optVal (zu 7 14 (by kernel_rfl)) rfl rfl)
      clear zu
      refine (show WE _ [(0, .slice a l.length c), (2, .int .i64 0), (3, .int .i64 (((z.2 : Nat) : Int))), (4, .int .i64 (((z.1 : Nat) : Int))), (14, .bool (((decide ((((z.1 : Nat) : Int) : Int) < (((l.length : Nat) : Int) : Int))) && (decide ((((z.2 : Nat) : Int) : Int) ≤ (40000 : Int))))))] w3 _ .normal from ?_) za (zh.sub ⟨rfl, rfl, rfl, rfl, rfl, trivial⟩)
      refine WE.next ?_
      refine WC.cond rfl (fun h5 => ?_) (fun h5 => ?_)
      · have h5 : ((((z.1 : Nat) : Int) : Int) < (((l.length : Nat) : Int) : Int)) ∧ ((((z.2 : Nat) : Int) : Int) ≤ (40000 : Int)) := by simpa using h5
        have hpl1 := hpl (by omega)
        have hpr1 := hpr (by omega)
        refine WC.skip ?_
        refine WE.next ?_
        refine WC.seq ?_
        refine WC.block ?_
        obtain ⟨b6, o7, A8, C9, A10, C11, ha12, hc13⟩ := InRow.openL hr
        have hb14 : Below w.heap.size w w3 := (bstep hb2 hb4)
        refine WC.seqV (S := ((fun b => b < 0))) [(true, .val (.int .i64 (((z.2 : Nat) : Int)))), (true, .val (.slice a l.length c)), (true, .val (.int .i64 (((z.1 : Nat) : Int)))), (true, .val (.pointer (some ⟨b6, o7 + z.1 * 5, none⟩))), (true, .val (.pointer (some ⟨b6, o7 + z.1 * 5 + 1, none⟩))), (true, .val (.agg #[.int .i64 ((lget l z.1).l.f), .slice ((A8 z.1)) ((lget l z.1).l.args.length) ((C9 z.1))])), (true, .val (.int .i64 ((((lget l z.1).l.size : Nat) : Int)))), (true, .val (.int .i64 ((((z.2 + (lget l z.1).l.size) : Nat) : Int)))), (true, .val (.slice a l.length c)), (true, .val (.int .i64 (((z.1 : Nat) : Int)))), (true, .val (.pointer (some ⟨b6, o7 + z.1 * 5, none⟩))), (true, .val (.pointer (some ⟨b6, o7 + z.1 * 5 + 3, none⟩))), (true, .val (.agg #[.int .i64 ((lget l z.1).r.f), .slice ((A10 z.1)) ((lget l z.1).r.args.length) ((C11 z.1))])), (true, .val (.int .i64 ((((lget l z.1).r.size : Nat) : Int)))), (true, .val (.int .i64 (((((z.2 + (lget l z.1).l.size) + (lget l z.1).r.size) : Nat) : Int)))), (true, .val undef)] [(0, .slice a l.length c), (2, .int .i64 0), (4, .int .i64 (((z.1 : Nat) : Int))), (14, .bool (((decide ((((z.1 : Nat) : Int) : Int) < (((l.length : Nat) : Int) : Int))) && (decide ((((z.2 : Nat) : Int) : Int) ≤ (40000 : Int))))))] [15] [some (true, .int .i64 ((((z.2 + (lget l z.1).l.size + (lget l z.1).r.size) : Nat) : Int)))] (fun _ _ => True) ((fun _ _ _ _ _ => trivial)) (by decide) ⟨rfl, rfl, rfl, rfl, trivial⟩ (by kernel_rfl) (by kernel_rfl) (by kernel_rfl) (by kernel_rfl) trivial ?_ ?_
        · refine ⟨.inl ⟨rfl, true, .none rfl, (fun gg b h => by cases h), fun h w => optUndef h, fun zβ za zw zc => ?_⟩, ?_⟩
          · exact wp_move rfl ((show za.eval (.tmp 3) = za.tmps.getD 3 undef from rfl).trans (zc.old 3 _ rfl (by kernel_rfl))) ⟨_, rfl, Below.refl _ _, optDef zβ rfl⟩
          refine ⟨.inl ⟨rfl, true, .none rfl, (fun gg b h => by cases h), fun h w => optUndef h, fun zβ za zw zc => ?_⟩, ?_⟩
          · exact wp_move rfl (zc.kn.ev rfl) ⟨_, rfl, Below.refl _ _, optDef zβ rfl⟩
          refine ⟨.inl ⟨rfl, true, .none rfl, (fun gg b h => by cases h), fun h w => optUndef h, fun zβ za zw zc => ?_⟩, ?_⟩
          · exact wp_move rfl (zc.kn.ev rfl) ⟨_, rfl, Below.refl _ _, optDef zβ rfl⟩
          refine ⟨.inl ⟨rfl, true, .none rfl, (fun gg b h => by cases h), fun h w => optUndef h, fun zβ za zw zc => ?_⟩, ?_⟩
          · exact ix_23 (k := z.1) rfl ((show za.eval (.tmp 18) = za.tmps.getD 18 undef from rfl).trans (optSVal (zc.dep 1 18 (by kernel_rfl) (by decide)) rfl rfl)) (ha12 z.1 (by first | omega | (simp; omega))) ((show za.eval (.tmp 19) = za.tmps.getD 19 undef from rfl).trans (optSVal (zc.dep 2 19 (by kernel_rfl) (by decide)) rfl rfl)) (by first | omega | (simp; omega)) ⟨_, rfl, Below.refl _ _, optDef zβ rfl⟩
          refine ⟨.inl ⟨rfl, true, .none rfl, (fun gg b h => by cases h), fun h w => optUndef h, fun zβ za zw zc => ?_⟩, ?_⟩
          · exact fld_34_1 rfl ((show za.eval (.tmp 20) = za.tmps.getD 20 undef from rfl).trans (optSVal (zc.dep 3 20 (by kernel_rfl) (by decide)) rfl rfl)) ⟨_, rfl, Below.refl _ _, optDef zβ rfl⟩
          refine ⟨.inl ⟨rfl, true, .none rfl, (fun gg b h => by cases h), fun h w => optUndef h, fun zβ za zw zc => ?_⟩, ?_⟩
          · exact ld_32 rfl ((show za.eval (.tmp 21) = za.tmps.getD 21 undef from rfl).trans (optSVal (zc.dep 4 21 (by kernel_rfl) (by decide)) rfl rfl)) (bkeeps (bstep hb14 (Chg.toBelow zc.chg)) _ _ (hc13 z.1 (by first | omega | (simp; omega))).2.1) (bkeeps (bstep hb14 (Chg.toBelow zc.chg)) _ _ (hc13 z.1 (by first | omega | (simp; omega))).2.2.1) ⟨_, rfl, Below.refl _ _, optDef zβ rfl⟩
          refine ⟨.inl ⟨rfl, true, .none rfl, (fun gg b h => by cases h), fun h w => optUndef h, fun zβ za zw zc => ?_⟩, ?_⟩
          · exact wp_call (by kernel_rfl) rfl (hv1 ((show za.eval (.tmp 22) = za.tmps.getD 22 undef from rfl).trans (optSVal (zc.dep 5 22 (by kernel_rfl) (by decide)) rfl rfl))) (rsize_ok ((lget l z.1).l) _ _ (hpl (by omega)) (IsT.below (bstep hb14 (Chg.toBelow zc.chg)) (InT.isT (hc13 z.1 (by first | omega | (simp; omega))).2.2.2.2.2.1))) (fun v w' h => ⟨v, rfl, h.2, optDef zβ h.1⟩)
          refine ⟨.inl ⟨rfl, true, .none rfl, (fun gg b h => by cases h), fun h w => optUndef h, fun zβ za zw zc => ?_⟩, ?_⟩
          · exact addb_3 rfl ((show za.eval (.tmp 17) = za.tmps.getD 17 undef from rfl).trans (optSVal (zc.dep 0 17 (by kernel_rfl) (by decide)) rfl rfl)) ((show za.eval (.tmp 23) = za.tmps.getD 23 undef from rfl).trans (optSVal (zc.dep 6 23 (by kernel_rfl) (by decide)) rfl rfl)) (wrap_eq (by omega) (by omega) (by omega)) ⟨_, rfl, Below.refl _ _, optDef zβ rfl⟩
          refine ⟨.inl ⟨rfl, true, .none rfl, (fun gg b h => by cases h), fun h w => optUndef h, fun zβ za zw zc => ?_⟩, ?_⟩
          · exact wp_move rfl (zc.kn.ev rfl) ⟨_, rfl, Below.refl _ _, optDef zβ rfl⟩
          refine ⟨.inl ⟨rfl, true, .none rfl, (fun gg b h => by cases h), fun h w => optUndef h, fun zβ za zw zc => ?_⟩, ?_⟩
          · exact wp_move rfl (zc.kn.ev rfl) ⟨_, rfl, Below.refl _ _, optDef zβ rfl⟩
          refine ⟨.inl ⟨rfl, true, .none rfl, (fun gg b h => by cases h), fun h w => optUndef h, fun zβ za zw zc => ?_⟩, ?_⟩
          · exact ix_23 (k := z.1) rfl ((show za.eval (.tmp 25) = za.tmps.getD 25 undef from rfl).trans (optSVal (zc.dep 8 25 (by kernel_rfl) (by decide)) rfl rfl)) (ha12 z.1 (by first | omega | (simp; omega))) ((show za.eval (.tmp 26) = za.tmps.getD 26 undef from rfl).trans (optSVal (zc.dep 9 26 (by kernel_rfl) (by decide)) rfl rfl)) (by first | omega | (simp; omega)) ⟨_, rfl, Below.refl _ _, optDef zβ rfl⟩
          refine ⟨.inl ⟨rfl, true, .none rfl, (fun gg b h => by cases h), fun h w => optUndef h, fun zβ za zw zc => ?_⟩, ?_⟩
          · exact fld_34_2 rfl ((show za.eval (.tmp 27) = za.tmps.getD 27 undef from rfl).trans (optSVal (zc.dep 10 27 (by kernel_rfl) (by decide)) rfl rfl)) ⟨_, rfl, Below.refl _ _, optDef zβ rfl⟩
          refine ⟨.inl ⟨rfl, true, .none rfl, (fun gg b h => by cases h), fun h w => optUndef h, fun zβ za zw zc => ?_⟩, ?_⟩
          · exact ld_32 rfl ((show za.eval (.tmp 28) = za.tmps.getD 28 undef from rfl).trans (optSVal (zc.dep 11 28 (by kernel_rfl) (by decide)) rfl rfl)) (bkeeps (bstep hb14 (Chg.toBelow zc.chg)) _ _ (hc13 z.1 (by first | omega | (simp; omega))).2.2.2.1) (bkeeps (bstep hb14 (Chg.toBelow zc.chg)) _ _ (hc13 z.1 (by first | omega | (simp; omega))).2.2.2.2.1) ⟨_, rfl, Below.refl _ _, optDef zβ rfl⟩
          refine ⟨.inl ⟨rfl, true, .none rfl, (fun gg b h => by cases h), fun h w => optUndef h, fun zβ za zw zc => ?_⟩, ?_⟩
          · exact wp_call (by kernel_rfl) rfl (hv1 ((show za.eval (.tmp 29) = za.tmps.getD 29 undef from rfl).trans (optSVal (zc.dep 12 29 (by kernel_rfl) (by decide)) rfl rfl))) (rsize_ok ((lget l z.1).r) _ _ (hpr (by omega)) (IsT.below (bstep hb14 (Chg.toBelow zc.chg)) (InT.isT (hc13 z.1 (by first | omega | (simp; omega))).2.2.2.2.2.2))) (fun v w' h => ⟨v, rfl, h.2, optDef zβ h.1⟩)
          refine ⟨.inl ⟨rfl, true, .none rfl, (fun gg b h => by cases h), fun h w => optUndef h, fun zβ za zw zc => ?_⟩, ?_⟩
          · exact addb_3 rfl ((show za.eval (.tmp 24) = za.tmps.getD 24 undef from rfl).trans (optSVal (zc.dep 7 24 (by kernel_rfl) (by decide)) rfl rfl)) ((show za.eval (.tmp 30) = za.tmps.getD 30 undef from rfl).trans (optSVal (zc.dep 13 30 (by kernel_rfl) (by decide)) rfl rfl)) (wrap_eq (by omega) (by omega) (by omega)) ⟨_, rfl, Below.refl _ _, optDef zβ rfl⟩
          refine ⟨.inr ⟨0, rfl, by kernel_rfl, true, .none rfl, (fun gg b h => by cases h), (fun h => (nomatch h)), fun zβ za zw zvals zc => ?_⟩, ?_⟩
          · obtain rfl := vlen0 zc.len
            have zn := zc.now
            exact wp_assign rfl (((show za.eval (.tmp 31) = za.tmps.getD 31 undef from rfl).trans (optSVal (zc.dep 14 31 (by kernel_rfl) (by decide)) rfl rfl))) ⟨_, rfl, .ofBelow (Below.refl _ _), trivial, cvIs rfl⟩
          exact trivial
        · intro za w17 zvals zh zl hG18 hc19 zu zw zk
          obtain ⟨z0, rfl⟩ := vlen1 zl
          have zh := zh.cons (d := 3) (v := .int .i64 ((((z.2 + (lget l z.1).l.size + (lget l z.1).r.size) : Nat) : Int))) (zk 0 15 3 _ _ rfl (by kernel_rfl) rfl rfl)
          have hb20 := Chg.toBelow hc19
          clear zu zw zk
          refine (show WE _ [(0, .slice a l.length c), (2, .int .i64 0), (3, .int .i64 ((((z.2 + (lget l z.1).l.size + (lget l z.1).r.size) : Nat) : Int))), (4, .int .i64 (((z.1 : Nat) : Int))), (14, .bool (((decide ((((z.1 : Nat) : Int) : Int) < (((l.length : Nat) : Int) : Int))) && (decide ((((z.2 : Nat) : Int) : Int) ≤ (40000 : Int))))))] w17 _ .normal from ?_) za (zh.sub ⟨rfl, rfl, rfl, rfl, rfl, trivial⟩)
          refine WE.blockNormal ?_
          refine WE.next ?_
          refine WC.region ?_
          refine WL.val (.int .i64 (((z.1 : Nat) : Int))) rfl rfl rfl (fun za zC zh zk => wp_move rfl (zh.ev rfl) zk) ?_
          refine WL.val (.int .i64 ((((z.1 + 1) : Nat) : Int))) rfl rfl rfl (fun za zC zh zk => addb_3 rfl (zh.ev rfl) (zh.ev rfl) (wrap_eq (by omega) (by omega) (by omega)) zk) ?_
          refine WL.val (.int .i64 ((((z.1 + 1) : Nat) : Int))) rfl rfl rfl (fun za zC zh zk => wp_assign rfl (zh.ev rfl) zk) ?_
          refine WL.nil (WE.sub (K' := [(0, .slice a l.length c), (2, .int .i64 0), (3, .int .i64 ((((z.2 + (lget l z.1).l.size + (lget l z.1).r.size) : Nat) : Int))), (4, .int .i64 ((((z.1 + 1) : Nat) : Int))), (14, .bool (((decide ((((z.1 : Nat) : Int) : Int) < (((l.length : Nat) : Int) : Int))) && (decide ((((z.2 : Nat) : Int) : Int) ≤ (40000 : Int))))))]) ⟨rfl, rfl, rfl, rfl, rfl, trivial⟩ ?_)
          refine WE.round ((z.1 + 1, z.2 + (lget l z.1).l.size + (lget l z.1).r.size)) ⟨rfl, rfl, rfl, rfl, trivial⟩ ?_ ?_
          · have hb21 : Below w.heap.size w w17 := (bstep hb14 hb20)
            exact ⟨by (try dsimp only); omega, by (try dsimp only); omega, by have z9 := lsize_drop (l := l) (k := z.1) (n := z.2) (by omega); rw [if_pos (by omega)] at z9; rw [← hE, z9], hb21⟩
          · (try dsimp only); omega
      · have h5 : ¬ (((((z.1 : Nat) : Int) : Int) < (((l.length : Nat) : Int) : Int)) ∧ ((((z.2 : Nat) : Int) : Int) ≤ (40000 : Int))) := by simpa using h5
        refine WC.exit ?_
        refine WE.thenExit ?_
        refine WE.thenExit ?_
        refine WE.blockIs rfl ?_
        refine WE.next ?_
        refine WC.seq ?_
        refine WC.region ?_
        refine WL.val (.int .i64 (((z.2 : Nat) : Int))) rfl rfl rfl (fun za zC zh zk => wp_move rfl (zh.ev rfl) zk) ?_
        refine WL.val (.int .i64 (((z.2 : Nat) : Int))) rfl rfl rfl (fun za zC zh zk => wp_assign rfl (zh.ev rfl) zk) ?_
        refine WL.nil (WE.sub (K' := [(0, .slice a l.length c), (2, .int .i64 (((z.2 : Nat) : Int))), (3, .int .i64 (((z.2 : Nat) : Int))), (4, .int .i64 (((z.1 : Nat) : Int))), (14, .bool (((decide ((((z.1 : Nat) : Int) : Int) < (((l.length : Nat) : Int) : Int))) && (decide ((((z.2 : Nat) : Int) : Int) ≤ (40000 : Int))))))]) ⟨rfl, rfl, rfl, rfl, rfl, trivial⟩ ?_)
        refine WE.next ?_
        refine WC.ret ?_
        refine WE.ret1 rfl rfl ?_
        have hb22 : Below w.heap.size w w3 := (bstep hb2 hb4)
        refine ⟨_, rfl, ?_, hb22⟩
        rw [← hE]
        rcases Nat.lt_or_ge z.1 l.length with q | q
        · rw [lsize_drop q, if_neg (by omega)]
        · rw [List.drop_of_length_le q, lsize]

end Go.Proofs.Ytnblndmjjokepaa
