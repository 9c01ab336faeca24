/- The variables of a term, sorted and each but once: the walk. -/
import Derived.Test.YtlkiabgpnboicaaLVars
import Derived.Test.YtlkiabgpnboicaaVarsLib
namespace Go.Proofs.Ytlkiabgpnboicaa
open Go.RowKit Go

theorem intV_eq : intV = Value.int .i64 := rfl
mutual
theorem varsT_i64 {w : World} : ∀ (t : T) (v : Value), IsT w t v → ∀ x ∈ varsT t, I64 x
  | .mk f l, v, ⟨hf, a, c, _, _, _, hl⟩, x, hx => by
    rw [varsT, List.mem_append] at hx
    rcases hx with hx | hx
    · unfold newsF at hx
      split at hx
      · obtain rfl : x = -1 - f := by simpa using hx
        unfold I64 at *; omega
      · simp at hx
    · exact varsTL_i64 l a 0 hl x hx
theorem varsTL_i64 {w : World} : ∀ (l : List T) (a : Option Addr) (i : Nat), IsTs w l a i → ∀ x ∈ varsTL l, I64 x
  | [], _, _, _, x, hx => by simp [varsTL] at hx
  | t :: r, a, i, ⟨⟨_, _, _, _, _, _, _, h1⟩, h2⟩, x, hx => by
    rw [varsTL, List.mem_append] at hx
    rcases hx with hx | hx
    · exact varsT_i64 t _ h1 x hx
    · exact varsTL_i64 r a (i + 1) h2 x hx
end
set_option maxRecDepth 100000 in
theorem vars_any (t : T) (w : World) (v : Value) (hz : t.size ≤ 4294967296) (hv : IsT w t v) :
    Calls Try.prog 57 #[v] w (Ret fun v' w' => ∃ (l : List Int) (a : Option Addr) (c : Nat), v' = .slice a l.length c ∧ l.length ≤ c ∧ c ≤ maxLen ∧ IsInts w' l a ∧ (∀ x, x ∈ l ↔ x ∈ varsT t) ∧ Below w.heap.size w w') := by
  have hvt := hv
  have hI := varsT_i64 t v hv
  have hle := varsT_le t
  obtain ⟨hf, a, c, rfl, hc, hm, hl⟩ := hv.form
  refine Calls.walk (l := [.agg #[.int .i64 t.f, .slice a t.args.length c]]) Try.func57 rfl (by kernel_rfl) ?_
  refine WC.sub (K' := [(0, .agg #[.int .i64 t.f, .slice a t.args.length c])]) ⟨rfl, trivial⟩ ?_
  refine WC.seq ?_
  refine WC.region ?_
  refine WL.step (post := NewBlk w 27 #[.int .i64 t.f, .slice a t.args.length c]) rfl rfl rfl (fun za zC zh zk => box_27 rfl (zh.ev rfl) (zk _ _ (newBlk _ _ _))) ?_
  rintro _ w1 ⟨g2, rfl, hg3, hB4, hb5, hz6⟩
  have hl7 : w.heap.size ≤ g2 := by omega
  refine WL.val (.slice none 0 0) rfl rfl rfl (fun za zC zh zk => wp_assign rfl (zh.ev rfl) zk) ?_
  refine WL.nil (WE.sub (K' := [(0, .agg #[.int .i64 t.f, .slice a t.args.length c]), (1, .pointer (some ⟨g2, 0, none⟩)), (2, .slice none 0 0)]) ⟨rfl, rfl, rfl, trivial⟩ ?_)
  refine WE.next ?_
  refine WC.seq ?_
  refine WC.region ?_
  refine WL.step (post := NewBlk w1 22 #[.slice none 0 0]) rfl rfl rfl (fun za zC zh zk => alloc_22 rfl (zk _ _ (newBlk _ _ _))) ?_
  rintro _ w8 ⟨g9, rfl, hg10, hB11, hb12, hz13⟩
  have hl14 : g2 < g9 := by have z1 := hB4.lt; omega
  have hl15 : w.heap.size ≤ g9 := by have z2 := (hb5).size; omega
  have hl16 : w1.heap.size ≤ g9 := by omega
  refine WL.nil (WE.sub (K' := [(0, .agg #[.int .i64 t.f, .slice a t.args.length c]), (1, .pointer (some ⟨g2, 0, none⟩)), (2, .slice none 0 0), (3, .pointer (some ⟨g9, 0, none⟩))]) ⟨rfl, rfl, rfl, rfl, trivial⟩ ?_)
  refine WE.next ?_
  refine WC.seq ?_
  refine WC.region ?_
  refine WL.val (.func (Fn.func 62) #[] #[.pointer (some ⟨g9, 0, none⟩)]) rfl rfl rfl (fun za zC zh zk => mkfn rfl (hv0) (hv1 (zh.ev rfl)) zk) ?_
  have hg24 : w1.heap.size ≤ g9 := by omega
  have hw25 : w.heap.size ≤ w8.heap.size := (Nat.le_trans hb5.size hb12.size)
  refine WL.call rfl rfl rfl (fun za zh zC => wp_call (by kernel_rfl) rfl (hv2 (zh.ev rfl) (zh.ev rfl))) (each_any t w1 _ g2 0 g9 w8.heap.size a c [] none 0 0 hb12 (hB4.cell 0) (hB4.cell 1) (hvt.below hb5) hB11 own_nil (Nat.le_refl _) hg24 hb12.size (by simpa using hz)) ?_
  rintro _ w26 ⟨rfl, ⟨ra217, rc218, n219, hB220, hO221, hC22⟩⟩
  have hb27 : Below w.heap.size w w8 := (bstep hb5 hb12)
  have hB28 := hB4.below hb12
  have hb29 := chg_below hb27 hC22 (fun b hb => (by (try dsimp only at *); omega))
  have hb30 := chg_below hb12 hC22 (fun b hb => (by (try dsimp only at *); omega))
  have hB31 := chg_blk hB28 hC22 (by (try dsimp only at *); omega)
  obtain rfl := ownI_len hO221
  have hbs223 : w8.heap.size ≤ w26.heap.size := hC22.size
  refine WL.nil (WE.sub (K' := [(0, .agg #[.int .i64 t.f, .slice a t.args.length c]), (1, .pointer (some ⟨g2, 0, none⟩)), (2, .slice none 0 0), (3, .pointer (some ⟨g9, 0, none⟩))]) ⟨rfl, rfl, rfl, rfl, trivial⟩ ?_)
  refine WE.next ?_
  refine WC.seq ?_
  refine WC.region ?_
  refine WL.val (.slice ra217 ((([] : List Int) ++ varsT t).length) rc218) rfl rfl rfl (fun za zC zh zk => ld_22 rfl (zh.ev rfl) ((hB220.cell 0).trans rfl) zk) ?_
  refine WL.call rfl rfl rfl (fun za zh zC => wp_call (by kernel_rfl) rfl (hv1 (zh.ev rfl))) (sort_own hO221 (by simpa using Nat.le_trans hle hz)) ?_
  rintro _ w37 ⟨L32, rfl, hm33, hO34, hC35⟩
  have hb38 := chg_below hb29 hC35 (fun b hb => (by (try dsimp only at *); omega))
  have hb39 := chg_below hb30 hC35 (fun b hb => (by (try dsimp only at *); omega))
  have hB40 := chg_blk hB31 hC35 (by (try dsimp only at *); omega)
  have hB41 := chg_blk hB220 hC35 (by (try dsimp only at *); omega)
  have hb36 : w8.heap.size ≤ w37.heap.size := Nat.le_trans hbs223 hC35.size
  refine WL.nil (WE.sub (K' := [(0, .agg #[.int .i64 t.f, .slice a t.args.length c]), (1, .pointer (some ⟨g2, 0, none⟩)), (2, .slice none 0 0), (3, .pointer (some ⟨g9, 0, none⟩))]) ⟨rfl, rfl, rfl, rfl, trivial⟩ ?_)
  refine WE.next ?_
  refine WC.seq ?_
  refine WC.region ?_
  refine WL.val (.slice ra217 ((([] : List Int) ++ varsT t).length) rc218) rfl rfl rfl (fun za zC zh zk => ld_22 rfl (zh.ev rfl) ((hB41.cell 0).trans rfl) zk) ?_
  refine WL.call rfl rfl rfl (fun za zh zC => wp_call (by kernel_rfl) rfl (hv1 (zh.ev rfl))) (compact_own hO34 (by simpa using Nat.le_trans hle hz) (fun x hx => hI x (by have := (hm33 x).1 hx; simpa using this))) ?_
  rintro _ w43 ⟨l2, a2, c2, rfl, q1, q2, q3, q4, hC42⟩
  have hb44 := chg_below hb38 hC42 (fun b hb => (by (try dsimp only at *); omega))
  have hb45 := chg_below hb39 hC42 (fun b hb => (by (try dsimp only at *); omega))
  have hB46 := chg_blk hB40 hC42 (by (try dsimp only at *); omega)
  have hB47 := chg_blk hB41 hC42 (by (try dsimp only at *); omega)
  refine WL.val (.slice a2 l2.length c2) rfl rfl rfl (fun za zC zh zk => wp_assign rfl (zh.ev rfl) zk) ?_
  refine WL.nil (WE.sub (K' := [(0, .agg #[.int .i64 t.f, .slice a t.args.length c]), (1, .pointer (some ⟨g2, 0, none⟩)), (2, .slice a2 l2.length c2), (3, .pointer (some ⟨g9, 0, none⟩))]) ⟨rfl, rfl, rfl, rfl, trivial⟩ ?_)
  refine WE.next ?_
  refine WC.ret ?_
  refine WE.ret1 rfl rfl ?_
  exact ⟨_, rfl, l2, a2, c2, rfl, q1, q2, q3, (fun x => by rw [q4, hm33]; simp), hb44⟩

end Go.Proofs.Ytlkiabgpnboicaa
