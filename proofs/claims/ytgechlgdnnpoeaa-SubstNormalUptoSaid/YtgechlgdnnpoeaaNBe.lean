/- What two substitutions do together. -/
import Derived.Test.YtgechlgdnnpoeaaNBd
import Derived.Test.YtgechlgdnnpoeaaNBa
import Derived.WalkKit
import Derived.Test.YtgechlgdnnpoeaaNBb

/- Terms, bindings: the program and the document. -/
namespace Go.Proofs.Ytgechlgdnnpoeaa
open Go.RowKit Go

set_option maxRecDepth 100000 in
theorem apply_any (s : List Bd) (t : T) (w : World) (v : Value) (sa : Option Addr) (sc : Nat) (hz : t.size ≤ 4294967296) (hv : IsT w t v) (hs : IsSub w s sa sc) : Calls Try.prog 18 #[.slice sa s.length sc, v] w (Ret fun v' w' => NewT w w' (t.app s) v' ∧ Below w.heap.size w w') := by
  obtain ⟨hf, a, c, rfl, hc, hm, hl⟩ := hv.form
  refine Calls.walk (l := [.slice sa s.length sc, .agg #[.int .i64 t.f, .slice a t.args.length c]]) Try.func18 rfl (by kernel_rfl) ?_
  refine WC.sub (K' := [(0, .slice sa s.length sc), (1, .agg #[.int .i64 t.f, .slice a t.args.length c])]) ⟨rfl, rfl, trivial⟩ ?_
  refine WC.seq ?_
  refine WC.region ?_
  refine WL.step (post := NewBlk w 23 #[.slice sa s.length sc]) rfl rfl rfl (fun za zC zh zk => box_23 rfl (zh.ev rfl) (zk _ _ (newBlk _ _ _))) ?_
  rintro _ w1 ⟨g2, rfl, hg3, hB4, hb5, hz6⟩
  have hl7 : w.heap.size ≤ g2 := by omega
  refine WL.step (post := NewBlk w1 32 #[.int .i64 t.f, .slice a t.args.length c]) rfl rfl rfl (fun za zC zh zk => box_32 rfl (zh.ev rfl) (zk _ _ (newBlk _ _ _))) ?_
  rintro _ w8 ⟨g9, rfl, hg10, hB11, hb12, hz13⟩
  have hl14 : g2 < g9 := by have z1 := hB4.lt; omega
  have hl15 : w.heap.size ≤ g9 := by have z2 := (hb5).size; omega
  refine WL.step (post := NewBlk w8 32 #[.int .i64 0, .slice none 0 0]) rfl rfl rfl (fun za zC zh zk => alloc_32 rfl (zk _ _ (newBlk _ _ _))) ?_
  rintro _ w16 ⟨g17, rfl, hg18, hB19, hb20, hz21⟩
  have hl22 : g2 < g17 := by have z1 := hB4.lt; have z2 := (hb12).size; omega
  have hl23 : g9 < g17 := by have z1 := hB11.lt; omega
  have hb24 : Below w.heap.size w w8 := (bstep hb5 hb12)
  have hl25 : w.heap.size ≤ g17 := by have z2 := (hb24).size; omega
  refine WL.nil (WE.sub (K' := [(0, .slice sa s.length sc), (1, .agg #[.int .i64 t.f, .slice a t.args.length c]), (2, .pointer (some ⟨g2, 0, none⟩)), (3, .pointer (some ⟨g9, 0, none⟩)), (4, .pointer (some ⟨g17, 0, none⟩))]) ⟨rfl, rfl, rfl, rfl, rfl, trivial⟩ ?_)
  refine WE.next ?_
  refine WC.seq ?_
  refine WC.region ?_
  have hB26 := hB11.below hb20
  refine WL.val (.agg #[.int .i64 t.f, .slice a t.args.length c]) rfl rfl rfl (fun za zC zh zk => ld_32 rfl (zh.ev rfl) ((hB26.cell 0).trans rfl) ((hB26.cell 1).trans rfl) zk) ?_
  refine WL.val (.func (Fn.func 47) #[] #[.pointer (some ⟨g2, 0, none⟩)]) rfl rfl rfl (fun za zC zh zk => mkfn rfl (hv0) (hv1 (zh.ev rfl)) zk) ?_
  have hb28 : Below w1.heap.size w1 w16 := (bstep hb12 hb20)
  have hB27 := hB4.below hb28
  have hb29 : Below w.heap.size w w16 := (bstep hb5 hb28)
  have hl33 : g2 < w16.heap.size := by have z1 := hB27.lt; omega
  have hl34 : g9 < w16.heap.size := by have z1 := hB26.lt; omega
  have hl35 : g17 < w16.heap.size := by have z1 := hB19.lt; omega
  have hl36 : w.heap.size ≤ w16.heap.size := (hb29).size
  refine WL.call rfl rfl rfl (fun za zh zC => wp_call (by kernel_rfl) rfl (hv2 (zh.ev rfl) (zh.ev rfl))) (each_any s sa sc _ t _ _ hz (IsT.below hb29 hv) (hs.below hb29) hB27) ?_
  rintro v30 w37 ⟨hn31, hb32⟩
  obtain ⟨_, a38, c39, rfl, _, _, _⟩ := hn31.form
  have hB40 := hB19.below hb32
  refine WL.step (post := fun _ w' => Upd g17 w37 w' ∧ Blk w' g17 32 #[.int .i64 ((t.app s).f), .slice a38 ((t.app s).args.length) c39]) rfl rfl rfl (fun za zC zh zk => st_32 rfl (zh.ev rfl) (zh.ev rfl) rfl rfl hB40 (by first | decide | simp) (fun v => zk v _ ⟨(Upd.at_ _ _ _ _).trans (Upd.at_ _ _ _ _), (hB40.set_ 0 _).set_ 1 _⟩)) ?_
  rintro v44 w41 ⟨hu42, hB43⟩
  have hb45 : Below w.heap.size w w37 := (bstep hb29 hb32)
  have hb46 := upd_below hb45 hu42 (by omega)
  have hB47 := hB27.below hb32
  have hB48 := upd_blk hB47 hu42 (by omega)
  have hB49 := hB26.below hb32
  have hB50 := upd_blk hB49 hu42 (by omega)
  have ho51 := hn31.upd hu42 (by omega)
  refine WL.nil (WE.sub (K' := [(0, .slice sa s.length sc), (1, .agg #[.int .i64 t.f, .slice a t.args.length c]), (2, .pointer (some ⟨g2, 0, none⟩)), (3, .pointer (some ⟨g9, 0, none⟩)), (4, .pointer (some ⟨g17, 0, none⟩))]) ⟨rfl, rfl, rfl, rfl, rfl, trivial⟩ ?_)
  refine WE.next ?_
  refine WC.ret ?_
  refine WE.retAny (v := .agg #[.int .i64 ((t.app s).f), .slice a38 ((t.app s).args.length) c39]) (fun za zh => ?_) ?_
  · have z0 : za.tmps[4]?.getD undef = .pointer (some ⟨g17, 0, none⟩) := by rw [← Array.getD_eq_getD_getElem?]; exact zh.knows 4 _ rfl
    have y0_0 : w41.cell? ⟨g17, 0, none⟩ = some (.int .i64 ((t.app s).f)) := ((hB43.cell 0).trans rfl)
    have y0_1 : w41.cell? ⟨g17, 1, none⟩ = some (.slice a38 ((t.app s).args.length) c39) := ((hB43.cell 1).trans rfl)
    simp [results, Try.results18, z0, y0_0, y0_1, go_sem]
  · have hgz := (hb29).size
    exact ⟨_, rfl, (ho51).mono (fun b hb _ => by omega), hb46⟩

/-- What Get tells. -/
def GetIs (w w' : World) (o : Option T) (v : Value) : Prop := ∃ u, v = .tuple #[u, .bool o.isSome] ∧ NewT w w' (o.getD (.mk 0 [])) u
theorem newT_zero (w w' : World) : NewT w w' (.mk 0 []) (.agg #[.int .i64 0, .slice none 0 0]) := newT_leaf (by unfold I64; omega)

set_option maxRecDepth 100000 in
theorem get_any (s : List Bd) (m : Int) (w : World) (sa : Option Addr) (sc : Nat) (hs : IsSub w s sa sc) : Calls Try.prog 26 #[.slice sa s.length sc, .int .i64 m] w (Ret fun v' w' => GetIs w w' (subFind s m) v' ∧ Below w.heap.size w w') := by
  have hcap := hs.cap
  refine Calls.walk (l := [.slice sa s.length sc, .int .i64 m]) Try.func26 rfl (by kernel_rfl) ?_
  refine WC.sub (K' := [(0, .slice sa s.length sc), (1, .int .i64 m)]) ⟨rfl, rfl, trivial⟩ ?_
  refine WC.seq ?_
  refine WC.region ?_
  refine WL.step (post := NewBlk w 32 #[.int .i64 0, .slice none 0 0]) rfl rfl rfl (fun za zC zh zk => alloc_32 rfl (zk _ _ (newBlk _ _ _))) ?_
  rintro _ w1 ⟨g2, rfl, hg3, hB4, hb5, hz6⟩
  have hl7 : w.heap.size ≤ g2 := by omega
  refine WL.val (.bool false) rfl rfl rfl (fun za zC zh zk => wp_assign rfl (zh.ev rfl) zk) ?_
  refine WL.nil (WE.sub (K' := [(0, .slice sa s.length sc), (1, .int .i64 m), (4, .pointer (some ⟨g2, 0, none⟩)), (5, .bool false)]) ⟨rfl, rfl, rfl, rfl, trivial⟩ ?_)
  refine WE.next ?_
  refine WC.seq ?_
  refine WC.seq ?_
  refine WC.region ?_
  refine WL.val (.slice sa s.length sc) rfl rfl rfl (fun za zC zh zk => wp_move rfl (zh.ev rfl) zk) ?_
  refine WL.val (.int .i64 m) rfl rfl rfl (fun za zC zh zk => wp_move rfl (zh.ev rfl) zk) ?_
  refine WL.call rfl rfl rfl (fun za zh zC => wp_call (by kernel_rfl) rfl (hv2 (zh.ev rfl) (zh.ev rfl))) (find_any s m _ _ _ hs.len hs.cap hs.small (hs.below hb5).rows) ?_
  rintro v13 w8 ⟨hto9, hb10⟩
  rcases hf12 : subFind s m with _ | t11
  · rw [hf12] at hto9
    obtain rfl : v13 = .pointer none := hto9
    refine WL.val (.pointer none) rfl rfl rfl (fun za zC zh zk => wp_assign rfl (zh.ev rfl) zk) ?_
    refine WL.nil (WE.sub (K' := [(0, .slice sa s.length sc), (1, .int .i64 m), (4, .pointer (some ⟨g2, 0, none⟩)), (5, .bool false), (6, .pointer none)]) ⟨rfl, rfl, rfl, rfl, rfl, trivial⟩ ?_)
    refine WE.next ?_
    refine WC.seq ?_
    refine WC.region ?_
    refine WL.val (.pointer none) rfl rfl rfl (fun za zC zh zk => wp_move rfl (zh.ev rfl) zk) ?_
    refine WL.val (.bool false) rfl rfl rfl (fun za zC zh zk => neqn_57 rfl (zh.ev rfl) (zh.ev rfl) zk) ?_
    refine WL.nil (WE.sub (K' := [(0, .slice sa s.length sc), (1, .int .i64 m), (4, .pointer (some ⟨g2, 0, none⟩)), (5, .bool false), (6, .pointer none), (11, .bool false)]) ⟨rfl, rfl, rfl, rfl, rfl, rfl, trivial⟩ ?_)
    refine WE.next ?_
    refine WC.condF rfl rfl ?_
    refine WC.skip ?_
    refine WE.next ?_
    refine WC.seq ?_
    refine WC.region ?_
    refine WL.val (.agg #[.int .i64 0, .slice none 0 0]) rfl rfl rfl (fun za zC zh zk => build_32_ rfl  zk) ?_
    have hB14 := hB4.below hb10
    refine WL.step (post := fun _ w' => Upd g2 w8 w' ∧ Blk w' g2 32 #[.int .i64 0, .slice none 0 0]) rfl rfl rfl (fun za zC zh zk => st_32 rfl (zh.ev rfl) (zh.ev rfl) rfl rfl hB14 (by first | decide | simp) (fun v => zk v _ ⟨(Upd.at_ _ _ _ _).trans (Upd.at_ _ _ _ _), (hB14.set_ 0 _).set_ 1 _⟩)) ?_
    rintro v18 w15 ⟨hu16, hB17⟩
    have hb19 : Below w.heap.size w w8 := (bstep hb5 hb10)
    have hb20 := upd_below hb19 hu16 (by omega)
    refine WL.val (.bool false) rfl rfl rfl (fun za zC zh zk => wp_assign rfl (zh.ev rfl) zk) ?_
    refine WL.nil (WE.sub (K' := [(0, .slice sa s.length sc), (1, .int .i64 m), (4, .pointer (some ⟨g2, 0, none⟩)), (5, .bool false), (6, .pointer none), (11, .bool false)]) ⟨rfl, rfl, rfl, rfl, rfl, rfl, trivial⟩ ?_)
    refine WE.next ?_
    refine WC.ret ?_
    refine WE.retAny (v := .tuple #[.agg #[.int .i64 0, .slice none 0 0], .bool false]) (fun za zh => ?_) ?_
    · have z0 : za.tmps[4]?.getD undef = .pointer (some ⟨g2, 0, none⟩) := by rw [← Array.getD_eq_getD_getElem?]; exact zh.knows 4 _ rfl
      have y0_0 : w15.cell? ⟨g2, 0, none⟩ = some (.int .i64 0) := ((hB17.cell 0).trans rfl)
      have y0_1 : w15.cell? ⟨g2, 1, none⟩ = some (.slice none 0 0) := ((hB17.cell 1).trans rfl)
      have z1 : za.tmps[5]?.getD undef = .bool false := by rw [← Array.getD_eq_getD_getElem?]; exact zh.knows 5 _ rfl
      simp [results, Try.results26, z0, y0_0, y0_1, z1, go_sem]
    · exact ⟨_, rfl, ⟨_, by (try rw [hf12]); rfl, by (try rw [hf12]); exact newT_zero _ _⟩, hb20⟩
  · rw [hf12] at hto9
    obtain ⟨b21, o22, a23, c24, rfl, h25, h26, h27⟩ := hto9
    refine WL.val (.pointer (some ⟨b21, o22, none⟩)) rfl rfl rfl (fun za zC zh zk => wp_assign rfl (zh.ev rfl) zk) ?_
    refine WL.nil (WE.sub (K' := [(0, .slice sa s.length sc), (1, .int .i64 m), (4, .pointer (some ⟨g2, 0, none⟩)), (5, .bool false), (6, .pointer (some ⟨b21, o22, none⟩))]) ⟨rfl, rfl, rfl, rfl, rfl, trivial⟩ ?_)
    refine WE.next ?_
    refine WC.seq ?_
    refine WC.region ?_
    refine WL.val (.pointer (some ⟨b21, o22, none⟩)) rfl rfl rfl (fun za zC zh zk => wp_move rfl (zh.ev rfl) zk) ?_
    refine WL.val (.bool true) rfl rfl rfl (fun za zC zh zk => neqp_57 rfl (zh.ev rfl) (zh.ev rfl) zk) ?_
    refine WL.nil (WE.sub (K' := [(0, .slice sa s.length sc), (1, .int .i64 m), (4, .pointer (some ⟨g2, 0, none⟩)), (5, .bool false), (6, .pointer (some ⟨b21, o22, none⟩)), (11, .bool true)]) ⟨rfl, rfl, rfl, rfl, rfl, rfl, trivial⟩ ?_)
    refine WE.next ?_
    refine WC.condT rfl rfl ?_
    refine WC.seq ?_
    refine WC.region ?_
    refine WL.val (.pointer (some ⟨b21, o22, none⟩)) rfl rfl rfl (fun za zC zh zk => wp_move rfl (zh.ev rfl) zk) ?_
    refine WL.val (.pointer (some ⟨b21, o22, none⟩)) rfl rfl rfl (fun za zC zh zk => nilCheck_ rfl (zh.ev rfl) zk) ?_
    refine WL.val (.agg #[.int .i64 t11.f, .slice a23 t11.args.length c24]) rfl rfl rfl (fun za zC zh zk => ld_32 rfl (zh.ev rfl) h25 h26 zk) ?_
    have hl31 : g2 < w8.heap.size := by have z1 := hB4.lt; have z2 := (hb10).size; omega
    have hb33 : Below w.heap.size w w8 := (bstep hb5 hb10)
    have hl32 : w.heap.size ≤ w8.heap.size := (hb33).size
    refine WL.call rfl rfl rfl (fun za zh zC => wp_call (by kernel_rfl) rfl (hv1 (zh.ev rfl))) (copy_any t11 _ _ (hs.found hf12) (IsT.below (Below.refl _ _) h27)) ?_
    rintro v28 w34 ⟨hn29, hb30⟩
    obtain ⟨_, a35, c36, rfl, _, _, _⟩ := hn29.form
    have hb38 : Below w1.heap.size w1 w34 := (bstep hb10 hb30)
    have hB37 := hB4.below hb38
    refine WL.step (post := fun _ w' => Upd g2 w34 w' ∧ Blk w' g2 32 #[.int .i64 t11.f, .slice a35 t11.args.length c36]) rfl rfl rfl (fun za zC zh zk => st_32 rfl (zh.ev rfl) (zh.ev rfl) rfl rfl hB37 (by first | decide | simp) (fun v => zk v _ ⟨(Upd.at_ _ _ _ _).trans (Upd.at_ _ _ _ _), (hB37.set_ 0 _).set_ 1 _⟩)) ?_
    rintro v42 w39 ⟨hu40, hB41⟩
    have hb43 : Below w.heap.size w w34 := (bstep hb5 hb38)
    have hb44 := upd_below hb43 hu40 (by omega)
    have ho45 := hn29.upd hu40 (by omega)
    refine WL.val (.bool true) rfl rfl rfl (fun za zC zh zk => wp_assign rfl (zh.ev rfl) zk) ?_
    refine WL.nil (WE.sub (K' := [(0, .slice sa s.length sc), (1, .int .i64 m), (4, .pointer (some ⟨g2, 0, none⟩)), (5, .bool true), (6, .pointer (some ⟨b21, o22, none⟩)), (11, .bool true)]) ⟨rfl, rfl, rfl, rfl, rfl, rfl, trivial⟩ ?_)
    refine WE.next ?_
    refine WC.ret ?_
    refine WE.thenRet ?_
    refine WE.retAny (v := .tuple #[.agg #[.int .i64 t11.f, .slice a35 t11.args.length c36], .bool true]) (fun za zh => ?_) ?_
    · have z0 : za.tmps[4]?.getD undef = .pointer (some ⟨g2, 0, none⟩) := by rw [← Array.getD_eq_getD_getElem?]; exact zh.knows 4 _ rfl
      have y0_0 : w39.cell? ⟨g2, 0, none⟩ = some (.int .i64 t11.f) := ((hB41.cell 0).trans rfl)
      have y0_1 : w39.cell? ⟨g2, 1, none⟩ = some (.slice a35 t11.args.length c36) := ((hB41.cell 1).trans rfl)
      have z1 : za.tmps[5]?.getD undef = .bool true := by rw [← Array.getD_eq_getD_getElem?]; exact zh.knows 5 _ rfl
      simp [results, Try.results26, z0, y0_0, y0_1, z1, go_sem]
    · have hgz := (hb33).size
      exact ⟨_, rfl, ⟨_, by (try rw [hf12]); rfl, by (try rw [hf12]); exact (ho45).mono (fun b hb _ => by omega)⟩, hb44⟩

set_option maxRecDepth 100000 in
theorem rget_any (s : List Bd) (m : Int) (w : World) (sa : Option Addr) (sc : Nat) (hs : IsSub w s sa sc) : Calls Try.prog 27 #[.slice sa s.length sc, .int .i64 m] w (Ret fun v' w' => GetIs w w' (subFind s m) v' ∧ Below w.heap.size w w') := by
  have hcap := hs.cap
  have hsm := hs.small
  unfold maxLen at hcap
  refine Calls.walk (l := [.slice sa s.length sc, .int .i64 m]) Try.func27 rfl (by kernel_rfl) ?_
  refine WC.sub (K' := [(0, .slice sa s.length sc), (1, .int .i64 m)]) ⟨rfl, rfl, trivial⟩ ?_
  refine WC.seq ?_
  refine WC.region ?_
  refine WL.step (post := NewBlk w 32 #[.int .i64 0, .slice none 0 0]) rfl rfl rfl (fun za zC zh zk => alloc_32 rfl (zk _ _ (newBlk _ _ _))) ?_
  rintro _ w1 ⟨g2, rfl, hg3, hB4, hb5, hz6⟩
  have hl7 : w.heap.size ≤ g2 := by omega
  refine WL.val (.bool false) rfl rfl rfl (fun za zC zh zk => wp_assign rfl (zh.ev rfl) zk) ?_
  refine WL.nil (WE.sub (K' := [(0, .slice sa s.length sc), (1, .int .i64 m), (4, .pointer (some ⟨g2, 0, none⟩)), (5, .bool false)]) ⟨rfl, rfl, rfl, rfl, trivial⟩ ?_)
  refine WE.next ?_
  refine WC.seq ?_
  refine WC.seq ?_
  refine WC.region ?_
  refine WL.val (.int .i64 0) rfl rfl rfl (fun za zC zh zk => wp_assign rfl (zh.ev rfl) zk) ?_
  refine WL.nil (WE.sub (K' := [(0, .slice sa s.length sc), (1, .int .i64 m), (4, .pointer (some ⟨g2, 0, none⟩)), (5, .bool false), (6, .int .i64 0)]) ⟨rfl, rfl, rfl, rfl, rfl, trivial⟩ ?_)
  refine WE.next ?_
  refine WC.block ?_
  refine WC.loop (X := Nat) (fun k => s.length - k) (fun k => [(0, .slice sa s.length sc), (1, .int .i64 m), (4, .pointer (some ⟨g2, 0, none⟩)), (6, .int .i64 (((k : Nat) : Int)))]) (fun k w8 => k ≤ s.length ∧ (∀ i, i < k → (dget s i).var ≠ m) ∧ Below w.heap.size w w8 ∧ Blk w8 g2 32 #[.int .i64 0, .slice none 0 0]) 0 ⟨rfl, rfl, rfl, rfl, trivial⟩ ?_ ?_
  · exact ⟨Nat.zero_le _, fun i h => absurd h (Nat.not_lt_zero i), hb5, hB4⟩
  · rintro k w8 ⟨hk, hne, hb9, hB10⟩
    refine WC.seq ?_
    refine WC.seq ?_
    refine WC.region ?_
    refine WL.val (.int .i64 (((k : Nat) : Int))) rfl rfl rfl (fun za zC zh zk => wp_move rfl (zh.ev rfl) zk) ?_
    refine WL.val (.slice sa s.length sc) rfl rfl rfl (fun za zC zh zk => wp_move rfl (zh.ev rfl) zk) ?_
    refine WL.val (.int .i64 (((s.length : Nat) : Int))) rfl rfl rfl (fun za zC zh zk => len_23 rfl (zh.ev rfl) zk) ?_
    refine WL.val (.bool ((decide ((((k : Nat) : Int) : Int) < (((s.length : Nat) : Int) : Int))))) rfl rfl rfl (fun za zC zh zk => lss_3 rfl (zh.ev rfl) (zh.ev rfl) zk) ?_
    refine WL.nil (WE.sub (K' := [(0, .slice sa s.length sc), (1, .int .i64 m), (4, .pointer (some ⟨g2, 0, none⟩)), (6, .int .i64 (((k : Nat) : Int))), (10, .bool ((decide ((((k : Nat) : Int) : Int) < (((s.length : Nat) : Int) : Int)))))]) ⟨rfl, rfl, rfl, rfl, rfl, trivial⟩ ?_)
    refine WE.next ?_
    refine WC.cond rfl (fun h11 => ?_) (fun h11 => ?_)
    · have h11 : (((k : Nat) : Int) : Int) < (((s.length : Nat) : Int) : Int) := by simpa using h11
      refine WC.skip ?_
      refine WE.next ?_
      refine WC.seq ?_
      refine WC.block ?_
      refine WC.seq ?_
      refine WC.region ?_
      refine WL.val (.slice sa s.length sc) rfl rfl rfl (fun za zC zh zk => wp_move rfl (zh.ev rfl) zk) ?_
      refine WL.val (.int .i64 (((k : Nat) : Int))) rfl rfl rfl (fun za zC zh zk => wp_move rfl (zh.ev rfl) zk) ?_
      obtain ⟨b12, o13, A14, C15, ha16, hc17⟩ := InRow.openB hs.rows
      refine WL.val (.pointer (some ⟨b12, o13 + k * 3, none⟩)) rfl rfl rfl (fun za zC zh zk => ix_23 (k := k) rfl (zh.ev rfl) (ha16 k (by first | omega | (simp; omega))) (zh.ev rfl) (by first | omega | (simp; omega)) zk) ?_
      refine WL.val (.pointer (some ⟨b12, o13 + k * 3, none⟩)) rfl rfl rfl (fun za zC zh zk => fld_56_0 rfl (zh.ev rfl) zk) ?_
      refine WL.val (.int .i64 ((dget s k).var)) rfl rfl rfl (fun za zC zh zk => ld_3 rfl (zh.ev rfl) (bkeeps hb9 _ _ (hc17 k (by first | omega | (simp; omega))).1) zk) ?_
      refine WL.val (.int .i64 m) rfl rfl rfl (fun za zC zh zk => wp_move rfl (zh.ev rfl) zk) ?_
      refine WL.val (.bool ((((dget s k).var : Int) == (m : Int)))) rfl rfl rfl (fun za zC zh zk => eql_3 rfl (zh.ev rfl) (zh.ev rfl) zk) ?_
      refine WL.nil (WE.sub (K' := [(0, .slice sa s.length sc), (1, .int .i64 m), (4, .pointer (some ⟨g2, 0, none⟩)), (6, .int .i64 (((k : Nat) : Int))), (10, .bool ((decide ((((k : Nat) : Int) : Int) < (((s.length : Nat) : Int) : Int))))), (19, .bool ((((dget s k).var : Int) == (m : Int))))]) ⟨rfl, rfl, rfl, rfl, rfl, rfl, trivial⟩ ?_)
      refine WE.next ?_
      refine WC.cond rfl (fun h18 => ?_) (fun h18 => ?_)
      · have h18 : ((dget s k).var : Int) = (m : Int) := by simpa using h18
        refine WC.seq ?_
        refine WC.region ?_
        refine WL.val (.slice sa s.length sc) rfl rfl rfl (fun za zC zh zk => wp_move rfl (zh.ev rfl) zk) ?_
        refine WL.val (.int .i64 (((k : Nat) : Int))) rfl rfl rfl (fun za zC zh zk => wp_move rfl (zh.ev rfl) zk) ?_
        refine WL.val (.pointer (some ⟨b12, o13 + k * 3, none⟩)) rfl rfl rfl (fun za zC zh zk => ix_23 (k := k) rfl (zh.ev rfl) (ha16 k (by first | omega | (simp; omega))) (zh.ev rfl) (by first | omega | (simp; omega)) zk) ?_
        refine WL.val (.pointer (some ⟨b12, o13 + k * 3 + 1, none⟩)) rfl rfl rfl (fun za zC zh zk => fld_56_1 rfl (zh.ev rfl) zk) ?_
        refine WL.val (.agg #[.int .i64 ((dget s k).t.f), .slice ((A14 k)) ((dget s k).t.args.length) ((C15 k))]) rfl rfl rfl (fun za zC zh zk => ld_32 rfl (zh.ev rfl) (bkeeps hb9 _ _ (hc17 k (by first | omega | (simp; omega))).2.1) (bkeeps hb9 _ _ (hc17 k (by first | omega | (simp; omega))).2.2.1) zk) ?_
        have hfound : subFind s m = some (dget s k).t := subFind_at (by omega) h18 hne
        have hl22 : g2 < w8.heap.size := by have z1 := hB10.lt; omega
        have hl23 : w.heap.size ≤ w8.heap.size := (hb9).size
        refine WL.call rfl rfl rfl (fun za zh zC => wp_call (by kernel_rfl) rfl (hv1 (zh.ev rfl))) (rcopy_any (dget s k).t _ _ (hs.found hfound) (IsT.below hb9 (InT.isT (hc17 k (by first | omega | (simp; omega))).2.2.2.1))) ?_
        rintro v19 w24 ⟨hn20, hb21⟩
        obtain ⟨_, a25, c26, rfl, _, _, _⟩ := hn20.form
        have hB27 := hB10.below hb21
        refine WL.step (post := fun _ w' => Upd g2 w24 w' ∧ Blk w' g2 32 #[.int .i64 (((dget s k).t).f), .slice a25 (((dget s k).t).args.length) c26]) rfl rfl rfl (fun za zC zh zk => st_32 rfl (zh.ev rfl) (zh.ev rfl) rfl rfl hB27 (by first | decide | simp) (fun v => zk v _ ⟨(Upd.at_ _ _ _ _).trans (Upd.at_ _ _ _ _), (hB27.set_ 0 _).set_ 1 _⟩)) ?_
        rintro v31 w28 ⟨hu29, hB30⟩
        have hb32 : Below w.heap.size w w24 := (bstep hb9 hb21)
        have hb33 := upd_below hb32 hu29 (by omega)
        have ho34 := hn20.upd hu29 (by omega)
        refine WL.val (.bool true) rfl rfl rfl (fun za zC zh zk => wp_assign rfl (zh.ev rfl) zk) ?_
        refine WL.nil (WE.sub (K' := [(0, .slice sa s.length sc), (1, .int .i64 m), (4, .pointer (some ⟨g2, 0, none⟩)), (5, .bool true), (6, .int .i64 (((k : Nat) : Int))), (10, .bool ((decide ((((k : Nat) : Int) : Int) < (((s.length : Nat) : Int) : Int))))), (19, .bool ((((dget s k).var : Int) == (m : Int))))]) ⟨rfl, rfl, rfl, rfl, rfl, rfl, rfl, trivial⟩ ?_)
        refine WE.next ?_
        refine WC.ret ?_
        refine WE.blockRet ?_
        refine WE.thenRet ?_
        refine WE.thenRet ?_
        refine WE.blockRet ?_
        refine WE.thenRet ?_
        refine WE.retAny (v := .tuple #[.agg #[.int .i64 (((dget s k).t).f), .slice a25 (((dget s k).t).args.length) c26], .bool true]) (fun za zh => ?_) ?_
        · have z0 : za.tmps[4]?.getD undef = .pointer (some ⟨g2, 0, none⟩) := by rw [← Array.getD_eq_getD_getElem?]; exact zh.knows 4 _ rfl
          have y0_0 : w28.cell? ⟨g2, 0, none⟩ = some (.int .i64 (((dget s k).t).f)) := ((hB30.cell 0).trans rfl)
          have y0_1 : w28.cell? ⟨g2, 1, none⟩ = some (.slice a25 (((dget s k).t).args.length) c26) := ((hB30.cell 1).trans rfl)
          have z1 : za.tmps[5]?.getD undef = .bool true := by rw [← Array.getD_eq_getD_getElem?]; exact zh.knows 5 _ rfl
          simp [results, Try.results27, z0, y0_0, y0_1, z1, go_sem]
        · have hgz := (hb9).size
          exact ⟨_, rfl, ⟨_, by (try rw [hfound]); rfl, by (try rw [hfound]); exact (ho34).mono (fun b hb _ => by omega)⟩, hb33⟩
      · have h18 : ¬ (((dget s k).var : Int) = (m : Int)) := by simpa using h18
        refine WC.skip ?_
        refine WE.blockNormal ?_
        refine WE.next ?_
        refine WC.region ?_
        refine WL.val (.int .i64 (((k : Nat) : Int))) rfl rfl rfl (fun za zC zh zk => wp_move rfl (zh.ev rfl) zk) ?_
        refine WL.val (.int .i64 ((((k + 1) : Nat) : Int))) rfl rfl rfl (fun za zC zh zk => addb_3 rfl (zh.ev rfl) (zh.ev rfl) (wrap_eq (by omega) (by omega) (by omega)) zk) ?_
        refine WL.val (.int .i64 ((((k + 1) : Nat) : Int))) rfl rfl rfl (fun za zC zh zk => wp_assign rfl (zh.ev rfl) zk) ?_
        refine WL.nil (WE.sub (K' := [(0, .slice sa s.length sc), (1, .int .i64 m), (4, .pointer (some ⟨g2, 0, none⟩)), (6, .int .i64 ((((k + 1) : Nat) : Int))), (10, .bool ((decide ((((k : Nat) : Int) : Int) < (((s.length : Nat) : Int) : Int))))), (19, .bool ((((dget s k).var : Int) == (m : Int))))]) ⟨rfl, rfl, rfl, rfl, rfl, rfl, trivial⟩ ?_)
        refine WE.round (k + 1) ⟨rfl, rfl, rfl, rfl, trivial⟩ ?_ ?_
        · exact ⟨by omega, ne_step hne h18, hb9, hB10⟩
        · omega
    · have h11 : ¬ ((((k : Nat) : Int) : Int) < (((s.length : Nat) : Int) : Int)) := by simpa using h11
      refine WC.exit ?_
      refine WE.thenExit ?_
      refine WE.thenExit ?_
      refine WE.blockIs rfl ?_
      refine WE.next ?_
      refine WC.seq ?_
      refine WC.region ?_
      refine WL.val (.agg #[.int .i64 0, .slice none 0 0]) rfl rfl rfl (fun za zC zh zk => build_32_ rfl  zk) ?_
      refine WL.step (post := fun _ w' => Upd g2 w8 w' ∧ Blk w' g2 32 #[.int .i64 0, .slice none 0 0]) rfl rfl rfl (fun za zC zh zk => st_32 rfl (zh.ev rfl) (zh.ev rfl) rfl rfl hB10 (by first | decide | simp) (fun v => zk v _ ⟨(Upd.at_ _ _ _ _).trans (Upd.at_ _ _ _ _), (hB10.set_ 0 _).set_ 1 _⟩)) ?_
      rintro v38 w35 ⟨hu36, hB37⟩
      have hb39 := upd_below hb9 hu36 (by omega)
      refine WL.val (.bool false) rfl rfl rfl (fun za zC zh zk => wp_assign rfl (zh.ev rfl) zk) ?_
      refine WL.nil (WE.sub (K' := [(0, .slice sa s.length sc), (1, .int .i64 m), (4, .pointer (some ⟨g2, 0, none⟩)), (5, .bool false), (6, .int .i64 (((k : Nat) : Int))), (10, .bool ((decide ((((k : Nat) : Int) : Int) < (((s.length : Nat) : Int) : Int)))))]) ⟨rfl, rfl, rfl, rfl, rfl, rfl, trivial⟩ ?_)
      refine WE.next ?_
      refine WC.ret ?_
      refine WE.retAny (v := .tuple #[.agg #[.int .i64 0, .slice none 0 0], .bool false]) (fun za zh => ?_) ?_
      · have z0 : za.tmps[4]?.getD undef = .pointer (some ⟨g2, 0, none⟩) := by rw [← Array.getD_eq_getD_getElem?]; exact zh.knows 4 _ rfl
        have y0_0 : w35.cell? ⟨g2, 0, none⟩ = some (.int .i64 0) := ((hB37.cell 0).trans rfl)
        have y0_1 : w35.cell? ⟨g2, 1, none⟩ = some (.slice none 0 0) := ((hB37.cell 1).trans rfl)
        have z1 : za.tmps[5]?.getD undef = .bool false := by rw [← Array.getD_eq_getD_getElem?]; exact zh.knows 5 _ rfl
        simp [results, Try.results27, z0, y0_0, y0_1, z1, go_sem]
      · have hnone : subFind s m = none := subFind_none (fun i h => hne i (by omega))
        exact ⟨_, rfl, ⟨_, by (try rw [hnone]); rfl, by (try rw [hnone]); exact newT_zero _ _⟩, hb39⟩

theorem getIs_form {w w' : World} {o : Option T} {v : Value} (h : GetIs w w' o v) : ∃ u, v = .tuple #[u, .bool o.isSome] ∧ NewT w w' (o.getD (.mk 0 [])) u := h
theorem isSome_true {o : Option T} (h : o.isSome = true) : o = some (o.getD (.mk 0 [])) := by cases o with | none => cases h | some t => rfl
theorem isSome_false {o : Option T} (h : o.isSome = false) : o = none := by cases o with | none => rfl | some t => cases h

set_option maxRecDepth 100000 in
theorem rapply_any (s : List Bd) (sa : Option Addr) (sc : Nat) : ∀ (t : T) (w : World) (v : Value), t.size ≤ 4294967296 → IsT w t v → IsSub w s sa sc → Calls Try.prog 41 #[.slice sa s.length sc, v] w (Ret fun v' w' => NewT w w' (t.app s) v' ∧ Below w.heap.size w w') := by
  refine T.ind (fun f l ih => ?_)
  intro w v hz hv hs
  have hlen := len_le_sizeL l
  have hz' := hz
  simp only [T.size] at hz'
  obtain ⟨hf, a, c, rfl, hc, hmx, hl⟩ := hv
  have hf' := hf
  unfold I64 at hf'

  refine Calls.walk (l := [.slice sa s.length sc, .agg #[.int .i64 f, .slice a l.length c]]) Try.func41 rfl (by kernel_rfl) ?_
  refine WC.sub (K' := [(0, .slice sa s.length sc), (1, .agg #[.int .i64 f, .slice a l.length c])]) ⟨rfl, rfl, trivial⟩ ?_
  refine WC.seq ?_
  refine WC.region ?_
  refine WL.step (post := NewBlk w 32 #[.int .i64 f, .slice a l.length c]) rfl rfl rfl (fun za zC zh zk => box_32 rfl (zh.ev rfl) (zk _ _ (newBlk _ _ _))) ?_
  rintro _ w1 ⟨g2, rfl, hg3, hB4, hb5, hz6⟩
  have hl7 : w.heap.size ≤ g2 := by omega
  refine WL.step (post := NewBlk w1 32 #[.int .i64 0, .slice none 0 0]) rfl rfl rfl (fun za zC zh zk => alloc_32 rfl (zk _ _ (newBlk _ _ _))) ?_
  rintro _ w8 ⟨g9, rfl, hg10, hB11, hb12, hz13⟩
  have hl14 : g2 < g9 := by have z1 := hB4.lt; omega
  have hl15 : w.heap.size ≤ g9 := by have z2 := (hb5).size; omega
  refine WL.nil (WE.sub (K' := [(0, .slice sa s.length sc), (1, .agg #[.int .i64 f, .slice a l.length c]), (3, .pointer (some ⟨g2, 0, none⟩)), (4, .pointer (some ⟨g9, 0, none⟩))]) ⟨rfl, rfl, rfl, rfl, trivial⟩ ?_)
  refine WE.next ?_
  refine WC.seq ?_
  refine WC.seq ?_
  refine WC.region ?_
  refine WL.val (.pointer (some ⟨g2, 0, none⟩)) rfl rfl rfl (fun za zC zh zk => fld_32_0 rfl (zh.ev rfl) zk) ?_
  have hB16 := hB4.below hb12
  refine WL.val (.int .i64 f) rfl rfl rfl (fun za zC zh zk => ld_3 rfl (zh.ev rfl) ((hB16.cell 0).trans rfl) zk) ?_
  refine WL.val (.bool ((decide ((f : Int) < (0 : Int))))) rfl rfl rfl (fun za zC zh zk => lss_3 rfl (zh.ev rfl) (zh.ev rfl) zk) ?_
  refine WL.nil (WE.sub (K' := [(0, .slice sa s.length sc), (1, .agg #[.int .i64 f, .slice a l.length c]), (3, .pointer (some ⟨g2, 0, none⟩)), (4, .pointer (some ⟨g9, 0, none⟩)), (11, .bool ((decide ((f : Int) < (0 : Int)))))]) ⟨rfl, rfl, rfl, rfl, rfl, trivial⟩ ?_)
  refine WE.next ?_
  refine WC.cond rfl (fun h17 => ?_) (fun h17 => ?_)
  · have h17 : (f : Int) < (0 : Int) := by simpa using h17
    refine WC.seq ?_
    refine WC.region ?_
    refine WL.val (.slice sa s.length sc) rfl rfl rfl (fun za zC zh zk => wp_move rfl (zh.ev rfl) zk) ?_
    refine WL.val (.pointer (some ⟨g2, 0, none⟩)) rfl rfl rfl (fun za zC zh zk => fld_32_0 rfl (zh.ev rfl) zk) ?_
    refine WL.val (.int .i64 f) rfl rfl rfl (fun za zC zh zk => ld_3 rfl (zh.ev rfl) ((hB16.cell 0).trans rfl) zk) ?_
    refine WL.val (.int .i64 ((-1 - f))) rfl rfl rfl (fun za zC zh zk => subb_3 rfl (zh.ev rfl) (zh.ev rfl) (wrap_eq rfl (by omega) (by omega)) zk) ?_
    have hb18 : Below w.heap.size w w8 := (bstep hb5 hb12)
    have hl22 : g2 < w8.heap.size := by have z1 := hB16.lt; omega
    have hl23 : g9 < w8.heap.size := by have z1 := hB11.lt; omega
    have hl24 : w.heap.size ≤ w8.heap.size := (hb18).size
    refine WL.call rfl rfl rfl (fun za zh zC => wp_call (by kernel_rfl) rfl (hv2 (zh.ev rfl) (zh.ev rfl))) (rget_any s (-1 - f) _ _ _ (hs.below hb18)) ?_
    rintro _ w25 ⟨⟨u19, rfl, hn20⟩, hb21⟩
    obtain ⟨_, a26, c27, rfl, _, _, _⟩ := hn20.form
    refine WL.val (.tuple #[.agg #[.int .i64 ((((subFind s (-1 - f)).getD (.mk 0 []))).f), .slice a26 ((((subFind s (-1 - f)).getD (.mk 0 []))).args.length) c27], .bool ((subFind s (-1 - f)).isSome)]) rfl rfl rfl (fun za zC zh zk => wp_move rfl (zh.ev rfl) zk) ?_
    refine WL.val (.agg #[.int .i64 ((((subFind s (-1 - f)).getD (.mk 0 []))).f), .slice a26 ((((subFind s (-1 - f)).getD (.mk 0 []))).args.length) c27]) rfl rfl rfl (fun za zC zh zk => ext2_0 rfl (zh.ev rfl) zk) ?_
    refine WL.val (.bool ((subFind s (-1 - f)).isSome)) rfl rfl rfl (fun za zC zh zk => ext2_1 rfl (zh.ev rfl) zk) ?_
    refine WL.step (post := NewBlk w25 32 #[.int .i64 0, .slice none 0 0]) rfl rfl rfl (fun za zC zh zk => alloc_32 rfl (zk _ _ (newBlk _ _ _))) ?_
    rintro _ w28 ⟨g29, rfl, hg30, hB31, hb32, hz33⟩
    have hl34 : g2 < g29 := by have z1 := hB16.lt; have z2 := (hb21).size; omega
    have hl35 : g9 < g29 := by have z1 := hB11.lt; have z2 := (hb21).size; omega
    have hb36 : Below w.heap.size w w25 := (bstep hb18 hb21)
    have hl37 : w.heap.size ≤ g29 := by have z2 := (hb36).size; omega
    have hl38 : w25.heap.size ≤ g29 := by omega
    refine WL.step (post := fun _ w' => Upd g29 w28 w' ∧ Blk w' g29 32 #[.int .i64 ((((subFind s (-1 - f)).getD (.mk 0 []))).f), .slice a26 ((((subFind s (-1 - f)).getD (.mk 0 []))).args.length) c27]) rfl rfl rfl (fun za zC zh zk => st_32 rfl (zh.ev rfl) (zh.ev rfl) rfl rfl hB31 (by first | decide | simp) (fun v => zk v _ ⟨(Upd.at_ _ _ _ _).trans (Upd.at_ _ _ _ _), (hB31.set_ 0 _).set_ 1 _⟩)) ?_
    rintro v42 w39 ⟨hu40, hB41⟩
    have hb43 : Below w.heap.size w w28 := (bstep hb36 hb32)
    have hb44 := upd_below hb43 hu40 (by omega)
    have hb45 := upd_below hb32 hu40 (by omega)
    have hb47 : Below w8.heap.size w8 w28 := (bstep hb21 hb32)
    have hB46 := hB16.below hb47
    have hB48 := upd_blk hB46 hu40 (by omega)
    have hB49 := hB11.below hb47
    have hB50 := upd_blk hB49 hu40 (by omega)
    refine WL.val (.bool ((subFind s (-1 - f)).isSome)) rfl rfl rfl (fun za zC zh zk => wp_assign rfl (zh.ev rfl) zk) ?_
    refine WL.nil (WE.sub (K' := [(0, .slice sa s.length sc), (1, .agg #[.int .i64 f, .slice a l.length c]), (3, .pointer (some ⟨g2, 0, none⟩)), (4, .pointer (some ⟨g9, 0, none⟩)), (5, .pointer (some ⟨g29, 0, none⟩)), (6, .bool ((subFind s (-1 - f)).isSome)), (11, .bool ((decide ((f : Int) < (0 : Int)))))]) ⟨rfl, rfl, rfl, rfl, rfl, rfl, rfl, trivial⟩ ?_)
    refine WE.next ?_
    refine WC.seq ?_
    refine WC.region ?_
    refine WL.val (.bool ((subFind s (-1 - f)).isSome)) rfl rfl rfl (fun za zC zh zk => wp_move rfl (zh.ev rfl) zk) ?_
    refine WL.nil (WE.sub (K' := [(0, .slice sa s.length sc), (1, .agg #[.int .i64 f, .slice a l.length c]), (3, .pointer (some ⟨g2, 0, none⟩)), (4, .pointer (some ⟨g9, 0, none⟩)), (5, .pointer (some ⟨g29, 0, none⟩)), (6, .bool ((subFind s (-1 - f)).isSome)), (11, .bool ((decide ((f : Int) < (0 : Int))))), (20, .bool ((subFind s (-1 - f)).isSome))]) ⟨rfl, rfl, rfl, rfl, rfl, rfl, rfl, rfl, trivial⟩ ?_)
    refine WE.next ?_
    refine WC.cond rfl (fun h51 => ?_) (fun h51 => ?_)
    · skip
      refine WC.seq ?_
      refine WC.region ?_
      refine WL.val (.agg #[.int .i64 ((((subFind s (-1 - f)).getD (.mk 0 []))).f), .slice a26 ((((subFind s (-1 - f)).getD (.mk 0 []))).args.length) c27]) rfl rfl rfl (fun za zC zh zk => ld_32 rfl (zh.ev rfl) ((hB41.cell 0).trans rfl) ((hB41.cell 1).trans rfl) zk) ?_
      refine WL.step (post := fun _ w' => Upd g9 w39 w' ∧ Blk w' g9 32 #[.int .i64 ((((subFind s (-1 - f)).getD (.mk 0 []))).f), .slice a26 ((((subFind s (-1 - f)).getD (.mk 0 []))).args.length) c27]) rfl rfl rfl (fun za zC zh zk => st_32 rfl (zh.ev rfl) (zh.ev rfl) rfl rfl hB50 (by first | decide | simp) (fun v => zk v _ ⟨(Upd.at_ _ _ _ _).trans (Upd.at_ _ _ _ _), (hB50.set_ 0 _).set_ 1 _⟩)) ?_
      rintro v55 w52 ⟨hu53, hB54⟩
      have hb56 := upd_below hb44 hu53 (by omega)
      have hB57 := upd_blk hB48 hu53 (by omega)
      have hB58 := upd_blk hB41 hu53 (by omega)
      have ho59 := hn20.below hb45
      have ho60 := ho59.upd hu53 (by omega)
      refine WL.nil (WE.sub (K' := [(0, .slice sa s.length sc), (1, .agg #[.int .i64 f, .slice a l.length c]), (3, .pointer (some ⟨g2, 0, none⟩)), (4, .pointer (some ⟨g9, 0, none⟩)), (5, .pointer (some ⟨g29, 0, none⟩)), (6, .bool ((subFind s (-1 - f)).isSome)), (11, .bool ((decide ((f : Int) < (0 : Int))))), (20, .bool ((subFind s (-1 - f)).isSome))]) ⟨rfl, rfl, rfl, rfl, rfl, rfl, rfl, rfl, trivial⟩ ?_)
      refine WE.next ?_
      refine WC.ret ?_
      refine WE.thenRet ?_
      refine WE.retAny (v := .agg #[.int .i64 ((((subFind s (-1 - f)).getD (.mk 0 []))).f), .slice a26 ((((subFind s (-1 - f)).getD (.mk 0 []))).args.length) c27]) (fun za zh => ?_) ?_
      · have z0 : za.tmps[4]?.getD undef = .pointer (some ⟨g9, 0, none⟩) := by rw [← Array.getD_eq_getD_getElem?]; exact zh.knows 4 _ rfl
        have y0 : w52.cell? ⟨g9, 0, none⟩ = some (.int .i64 ((((subFind s (-1 - f)).getD (.mk 0 []))).f)) := ((hB54.cell 0).trans rfl)
        have y1 : w52.cell? ⟨g9, 1, none⟩ = some (.slice a26 ((((subFind s (-1 - f)).getD (.mk 0 []))).args.length) c27) := ((hB54.cell 1).trans rfl)
        simp [results, Try.results41, z0, y0, y1, go_sem]
      · have hgz := (hb18).size
        exact ⟨_, rfl, by rw [app_some ‹_› (isSome_true h51)]; exact (ho60).mono (fun b hb _ => by omega), hb56⟩
    · skip
      refine WC.skip ?_
      refine WE.next ?_
      refine WC.seq ?_
      refine WC.region ?_
      refine WL.val (.pointer (some ⟨g2, 0, none⟩)) rfl rfl rfl (fun za zC zh zk => fld_32_0 rfl (zh.ev rfl) zk) ?_
      refine WL.val (.int .i64 f) rfl rfl rfl (fun za zC zh zk => ld_3 rfl (zh.ev rfl) ((hB48.cell 0).trans rfl) zk) ?_
      refine WL.val (.agg #[.int .i64 f, .slice none 0 0]) rfl rfl rfl (fun za zC zh zk => build_32_0 rfl (zh.ev rfl) zk) ?_
      refine WL.step (post := NewBlk w39 32 #[.int .i64 0, .slice none 0 0]) rfl rfl rfl (fun za zC zh zk => alloc_32 rfl (zk _ _ (newBlk _ _ _))) ?_
      rintro _ w61 ⟨g62, rfl, hg63, hB64, hb65, hz66⟩
      have hl67 : g2 < g62 := by have z1 := hB48.lt; omega
      have hl68 : g9 < g62 := by have z1 := hB50.lt; omega
      have hl69 : g29 < g62 := by have z1 := hB41.lt; omega
      have hl70 : w.heap.size ≤ g62 := by have z2 := (hb44).size; omega
      have hl71 : w25.heap.size ≤ g62 := by have z2 := (hb45).size; omega
      refine WL.step (post := fun _ w' => Upd g62 w61 w' ∧ Blk w' g62 32 #[.int .i64 f, .slice none 0 0]) rfl rfl rfl (fun za zC zh zk => st_32 rfl (zh.ev rfl) (zh.ev rfl) rfl rfl hB64 (by first | decide | simp) (fun v => zk v _ ⟨(Upd.at_ _ _ _ _).trans (Upd.at_ _ _ _ _), (hB64.set_ 0 _).set_ 1 _⟩)) ?_
      rintro v75 w72 ⟨hu73, hB74⟩
      have hb76 : Below w.heap.size w w61 := (bstep hb44 hb65)
      have hb77 : Below w25.heap.size w25 w61 := (bstep hb45 hb65)
      have hb78 := upd_below hb76 hu73 (by omega)
      have hb79 := upd_below hb77 hu73 (by omega)
      have hB80 := hB48.below hb65
      have hB81 := upd_blk hB80 hu73 (by omega)
      have hB82 := hB50.below hb65
      have hB83 := upd_blk hB82 hu73 (by omega)
      have hB84 := hB41.below hb65
      have hB85 := upd_blk hB84 hu73 (by omega)
      refine WL.nil (WE.sub (K' := [(0, .slice sa s.length sc), (1, .agg #[.int .i64 f, .slice a l.length c]), (3, .pointer (some ⟨g2, 0, none⟩)), (4, .pointer (some ⟨g9, 0, none⟩)), (5, .pointer (some ⟨g29, 0, none⟩)), (6, .bool ((subFind s (-1 - f)).isSome)), (7, .pointer (some ⟨g62, 0, none⟩)), (11, .bool ((decide ((f : Int) < (0 : Int))))), (20, .bool ((subFind s (-1 - f)).isSome))]) ⟨rfl, rfl, rfl, rfl, rfl, rfl, rfl, rfl, rfl, trivial⟩ ?_)
      refine WE.next ?_
      refine WC.seq ?_
      refine WC.seq ?_
      refine WC.region ?_
      refine WL.val (.int .i64 0) rfl rfl rfl (fun za zC zh zk => wp_assign rfl (zh.ev rfl) zk) ?_
      refine WL.nil (WE.sub (K' := [(0, .slice sa s.length sc), (1, .agg #[.int .i64 f, .slice a l.length c]), (3, .pointer (some ⟨g2, 0, none⟩)), (4, .pointer (some ⟨g9, 0, none⟩)), (5, .pointer (some ⟨g29, 0, none⟩)), (6, .bool ((subFind s (-1 - f)).isSome)), (7, .pointer (some ⟨g62, 0, none⟩)), (8, .int .i64 0), (11, .bool ((decide ((f : Int) < (0 : Int))))), (20, .bool ((subFind s (-1 - f)).isSome))]) ⟨rfl, rfl, rfl, rfl, rfl, rfl, rfl, rfl, rfl, rfl, trivial⟩ ?_)
      refine WE.next ?_
      refine WC.block ?_
      have hl86 : g2 < w72.heap.size := by have z1 := hB81.lt; omega
      have hl87 : g9 < w72.heap.size := by have z1 := hB83.lt; omega
      have hl88 : g29 < w72.heap.size := by have z1 := hB85.lt; omega
      have hl89 : g62 < w72.heap.size := by have z1 := hB74.lt; omega
      have hl90 : w.heap.size ≤ w72.heap.size := (hb78).size
      have hR91 : RowE eltT w72 w72.heap.size 32 none 0 0 [] := RowE.nil
      refine WC.loop (X := Option Addr × Nat × Nat) (fun x => l.length - x.2.2) (fun x => [(0, .slice sa s.length sc), (1, .agg #[.int .i64 f, .slice a l.length c]), (3, .pointer (some ⟨g2, 0, none⟩)), (4, .pointer (some ⟨g9, 0, none⟩)), (5, .pointer (some ⟨g29, 0, none⟩)), (6, .bool ((subFind s (-1 - f)).isSome)), (7, .pointer (some ⟨g62, 0, none⟩)), (8, .int .i64 (((x.2.2 : Nat) : Int))), (11, .bool ((decide ((f : Int) < (0 : Int))))), (20, .bool ((subFind s (-1 - f)).isSome))]) (fun x w92 => x.2.2 ≤ l.length ∧ w72.heap.size ≤ (w92).heap.size ∧ Below w.heap.size w w92 ∧ Blk w92 g2 32 #[.int .i64 f, .slice a l.length c] ∧ Blk w92 g9 32 #[.int .i64 0, .slice none 0 0] ∧ Blk w92 g29 32 #[.int .i64 ((((subFind s (-1 - f)).getD (.mk 0 []))).f), .slice a26 ((((subFind s (-1 - f)).getD (.mk 0 []))).args.length) c27] ∧ Blk w92 g62 32 #[.int .i64 f, .slice x.1 x.2.2 x.2.1] ∧ RowE eltT (w92) w72.heap.size 32 x.1 x.2.1 x.2.2 ((l.take x.2.2).map (T.app s))) ((none, 0, 0)) ⟨rfl, rfl, rfl, rfl, rfl, rfl, rfl, rfl, rfl, rfl, trivial⟩ ?_ ?_
      · exact ⟨Nat.zero_le _, Nat.le_refl _, hb78, hB81, hB83, hB85, hB74, (by simpa using hR91)⟩
      · rintro x w92 ⟨hk, hBw, hb93, hB94, hB95, hB96, hB97, ho98⟩
        refine WC.seq ?_
        refine WC.seq ?_
        refine WC.region ?_
        refine WL.val (.int .i64 (((x.2.2 : Nat) : Int))) rfl rfl rfl (fun za zC zh zk => wp_move rfl (zh.ev rfl) zk) ?_
        refine WL.val (.pointer (some ⟨g2, 1, none⟩)) rfl rfl rfl (fun za zC zh zk => fld_32_1 rfl (zh.ev rfl) zk) ?_
        refine WL.val (.slice a l.length c) rfl rfl rfl (fun za zC zh zk => ld_30 rfl (zh.ev rfl) ((hB94.cell 1).trans rfl) zk) ?_
        refine WL.val (.int .i64 (((l.length : Nat) : Int))) rfl rfl rfl (fun za zC zh zk => len_30 rfl (zh.ev rfl) zk) ?_
        refine WL.val (.bool ((decide ((((x.2.2 : Nat) : Int) : Int) < (((l.length : Nat) : Int) : Int))))) rfl rfl rfl (fun za zC zh zk => lss_3 rfl (zh.ev rfl) (zh.ev rfl) zk) ?_
        refine WL.nil (WE.sub (K' := [(0, .slice sa s.length sc), (1, .agg #[.int .i64 f, .slice a l.length c]), (3, .pointer (some ⟨g2, 0, none⟩)), (4, .pointer (some ⟨g9, 0, none⟩)), (5, .pointer (some ⟨g29, 0, none⟩)), (6, .bool ((subFind s (-1 - f)).isSome)), (7, .pointer (some ⟨g62, 0, none⟩)), (8, .int .i64 (((x.2.2 : Nat) : Int))), (11, .bool ((decide ((f : Int) < (0 : Int))))), (20, .bool ((subFind s (-1 - f)).isSome)), (29, .bool ((decide ((((x.2.2 : Nat) : Int) : Int) < (((l.length : Nat) : Int) : Int)))))]) ⟨rfl, rfl, rfl, rfl, rfl, rfl, rfl, rfl, rfl, rfl, rfl, trivial⟩ ?_)
        refine WE.next ?_
        refine WC.cond rfl (fun h99 => ?_) (fun h99 => ?_)
        · have h99 : (((x.2.2 : Nat) : Int) : Int) < (((l.length : Nat) : Int) : Int) := by simpa using h99
          refine WC.skip ?_
          refine WE.next ?_
          refine WC.seq ?_
          refine WC.block ?_
          obtain ⟨b100, o101, A102, C103, ha104, hc105⟩ := IsTs.open hl
          have hSlt : ∀ b, (fun b => b = g62 ∨ (Value.slice x.1 x.2.2 x.2.1).ownBlock = some b) b → b < w92.heap.size := fun b h => h.elim (fun e => e ▸ hB97.lt) (fun h => (ho98.lt b h).2)
          have hSlo : ∀ b, (fun b => b = g62 ∨ (Value.slice x.1 x.2.2 x.2.1).ownBlock = some b) b → b = g62 ∨ (w72.heap.size ≤ b ∧ b < w92.heap.size) := fun b h => h.imp id (fun h => ho98.lt b h)
          have hBW : w72.heap.size ≤ w92.heap.size := by have z1 := hBw; omega
          have hlL : x.2.2 = (((l.take x.2.2).map (T.app s))).length := ho98.len
          refine WC.tail2 (S := ((fun b => b = g62 ∨ (Value.slice x.1 x.2.2 x.2.1).ownBlock = some b))) [(true, .val (.pointer (some ⟨g62, 1, none⟩))), (true, .val (.slice x.1 x.2.2 x.2.1)), (true, .val (.slice sa s.length sc)), (true, .val (.pointer (some ⟨g2, 1, none⟩))), (true, .val (.slice a l.length c)), (true, .val (.int .i64 (((x.2.2 : Nat) : Int)))), (true, .val (.pointer (some ⟨b100, o101 + x.2.2 * 2, none⟩))), (true, .val (.agg #[.int .i64 ((tget l x.2.2).f), .slice ((A102 x.2.2)) ((tget l x.2.2).args.length) ((C103 x.2.2))])), (true, .mem (fun v w' => NewT w92 w' (((tget l x.2.2).app s)) v) (fun v w w' hc h => InT.chg h hc (fun b hb hs => by have z := hSlt b hs; omega))), (true, .mem (fun v w' => OneRow eltT w92 32 (((tget l x.2.2).app s)) v w') (fun v w w' hc h => h.chg hc hSlt)), (true, .val undef), (true, .val (.pointer (some ⟨g62, 1, none⟩))), (true, .val undef)] [(0, .slice sa s.length sc), (1, .agg #[.int .i64 f, .slice a l.length c]), (3, .pointer (some ⟨g2, 0, none⟩)), (4, .pointer (some ⟨g9, 0, none⟩)), (5, .pointer (some ⟨g29, 0, none⟩)), (6, .bool ((subFind s (-1 - f)).isSome)), (7, .pointer (some ⟨g62, 0, none⟩)), (8, .int .i64 (((x.2.2 : Nat) : Int))), (11, .bool ((decide ((f : Int) < (0 : Int))))), (20, .bool ((subFind s (-1 - f)).isSome)), (29, .bool ((decide ((((x.2.2 : Nat) : Int) : Int) < (((l.length : Nat) : Int) : Int)))))] 10 12 ((x.2.2 + 1)) 42 (fun ra rc w => RowE eltT w w72.heap.size 32 ra rc (x.2.2 + 1) (((l.take x.2.2).map (T.app s) ++ [((tget l x.2.2).app s)])) ∧ Blk w g62 32 #[.int .i64 f, .slice x.1 x.2.2 x.2.1]) (fun ra rc w => RowE eltT w w72.heap.size 32 ra rc (x.2.2 + 1) (((l.take x.2.2).map (T.app s) ++ [((tget l x.2.2).app s)])) ∧ Blk w g62 32 #[.int .i64 f, .slice ra ((x.2.2 + 1)) rc]) (by decide) (fun ra rc w w' hb h => ⟨h.1.below hb, h.2.below hb⟩) (fun ra rc w w' hb h => ⟨h.1.below hb, h.2.below hb⟩) ⟨rfl, rfl, rfl, rfl, rfl, rfl, rfl, rfl, rfl, rfl, rfl, trivial⟩ (by kernel_rfl) (by kernel_rfl) (by kernel_rfl) (by kernel_rfl) (by kernel_rfl) ?_ ?_
          · refine ⟨.inl ⟨rfl, true, .none rfl, (fun gg b h => by cases h), fun h w => optUndef h, fun zβ za zw zc => ?_⟩, ?_⟩
            · exact fld_32_1 rfl (zc.kn.ev rfl) ⟨_, rfl, Below.refl _ _, optDef zβ rfl⟩
            refine ⟨.inl ⟨rfl, true, .none rfl, (fun gg b h => by cases h), fun h w => optUndef h, fun zβ za zw zc => ?_⟩, ?_⟩
            · exact ld_30 rfl ((show za.eval (.tmp 32) = za.tmps.getD 32 undef from rfl).trans (optSVal (zc.dep 0 32 (by kernel_rfl) (by decide)) rfl rfl)) (bkeeps (zc.early (by kernel_rfl)) _ _ ((hB97.cell 1).trans rfl)) ⟨_, rfl, Below.refl _ _, optDef zβ rfl⟩
            refine ⟨.inl ⟨rfl, true, .none rfl, (fun gg b h => by cases h), fun h w => optUndef h, fun zβ za zw zc => ?_⟩, ?_⟩
            · exact wp_move rfl (zc.kn.ev rfl) ⟨_, rfl, Below.refl _ _, optDef zβ rfl⟩
            refine ⟨.inl ⟨rfl, true, .none rfl, (fun gg b h => by cases h), fun h w => optUndef h, fun zβ za zw zc => ?_⟩, ?_⟩
            · exact fld_32_1 rfl (zc.kn.ev rfl) ⟨_, rfl, Below.refl _ _, optDef zβ rfl⟩
            refine ⟨.inl ⟨rfl, true, .none rfl, (fun gg b h => by cases h), fun h w => optUndef h, fun zβ za zw zc => ?_⟩, ?_⟩
            · exact ld_30 rfl ((show za.eval (.tmp 35) = za.tmps.getD 35 undef from rfl).trans (optSVal (zc.dep 3 35 (by kernel_rfl) (by decide)) rfl rfl)) (bkeeps (zc.early (by kernel_rfl)) _ _ ((hB94.cell 1).trans rfl)) ⟨_, rfl, Below.refl _ _, optDef zβ rfl⟩
            refine ⟨.inl ⟨rfl, true, .none rfl, (fun gg b h => by cases h), fun h w => optUndef h, fun zβ za zw zc => ?_⟩, ?_⟩
            · exact wp_move rfl (zc.kn.ev rfl) ⟨_, rfl, Below.refl _ _, optDef zβ rfl⟩
            refine ⟨.inl ⟨rfl, true, .none rfl, (fun gg b h => by cases h), fun h w => optUndef h, fun zβ za zw zc => ?_⟩, ?_⟩
            · exact ix_30 (k := x.2.2) rfl ((show za.eval (.tmp 36) = za.tmps.getD 36 undef from rfl).trans (optSVal (zc.dep 4 36 (by kernel_rfl) (by decide)) rfl rfl)) (ha104 x.2.2 (by first | omega | (simp; omega))) ((show za.eval (.tmp 37) = za.tmps.getD 37 undef from rfl).trans (optSVal (zc.dep 5 37 (by kernel_rfl) (by decide)) rfl rfl)) (by first | omega | (simp; omega)) ⟨_, rfl, Below.refl _ _, optDef zβ rfl⟩
            refine ⟨.inl ⟨rfl, true, .none rfl, (fun gg b h => by cases h), fun h w => optUndef h, fun zβ za zw zc => ?_⟩, ?_⟩
            · exact ld_32 rfl ((show za.eval (.tmp 38) = za.tmps.getD 38 undef from rfl).trans (optSVal (zc.dep 6 38 (by kernel_rfl) (by decide)) rfl rfl)) (bkeeps (bstep hb93 (zc.early (by kernel_rfl))) _ _ (hc105 x.2.2 (by first | omega | (simp; omega))).1) (bkeeps (bstep hb93 (zc.early (by kernel_rfl))) _ _ (hc105 x.2.2 (by first | omega | (simp; omega))).2.1) ⟨_, rfl, Below.refl _ _, optDef zβ rfl⟩
            refine ⟨.inl ⟨rfl, true, .none rfl, (fun gg b h => by cases h), fun h w => optUndef h, fun zβ za zw zc => ?_⟩, ?_⟩
            · exact wp_call (by kernel_rfl) rfl (hv2 ((show za.eval (.tmp 34) = za.tmps.getD 34 undef from rfl).trans (optSVal (zc.dep 2 34 (by kernel_rfl) (by decide)) rfl rfl)) ((show za.eval (.tmp 39) = za.tmps.getD 39 undef from rfl).trans (optSVal (zc.dep 7 39 (by kernel_rfl) (by decide)) rfl rfl))) (ih _ (tget_mem (by omega)) _ _ (size_at (by omega) hz) (IsT.below (bstep hb93 (zc.early (by kernel_rfl))) (hc105 x.2.2 (by first | omega | (simp; omega))).2.2) (hs.below (bstep hb93 (zc.early (by kernel_rfl))))) (fun v w' h => ⟨v, rfl, h.2, optDef zβ (InT.mono (fun b hb _ => Nat.le_trans (zc.early (by kernel_rfl)).size hb) h.1)⟩)
            refine ⟨.inl ⟨rfl, true, .none rfl, (fun gg b h => by cases h), fun h w => optUndef h, fun zβ za zw zc => ?_⟩, ?_⟩
            · have zv := (optSMem (zc.dep 8 40 (by kernel_rfl) (by decide)) rfl rfl)
              obtain ⟨_, a1, c1, e1, _⟩ := zv.form
              rw [e1] at zv
              exact row_30_1 rfl ((show za.eval (.tmp 40) = za.tmps.getD 40 undef from rfl).trans e1) ⟨_, rfl, balloc _ _, optDef zβ ⟨_, _, rfl, zc.chg.size, Blk.new' rfl, _, _, rfl, zv.below (balloc _ _)⟩⟩
            refine ⟨.inr (.inl ⟨rfl, rfl, fun za zw zc => ?_⟩), ?_⟩
            · obtain ⟨g1, cs, e1, hg1, hB1, hin⟩ := (optSMem (zc.dep 9 41 (by kernel_rfl) (by decide)) rfl rfl)
              exact wp_appE (E := eltT) (size := 2) (bytes := 32) (z := .agg #[.int .i64 0, .slice none 0 0]) rfl Try.underlying30 (by kernel_rfl) rfl (by decide) rfl ((show za.eval (.tmp 33) = za.tmps.getD 33 undef from rfl).trans (optSVal (zc.dep 1 33 (by kernel_rfl) (by decide)) rfl rfl)) ((show za.eval (.tmp 41) = za.tmps.getD 41 undef from rfl).trans e1) (ho98.below zc.below) hB1 (eltT.mono (fun b hb _ => ⟨by omega, fun e => by have z := (ho98.lt b e).2; omega⟩) hin) (by omega) (by omega) (by have z := zc.below.size; omega) (fun ra rc w' h1 h2 _ => ⟨ra, rc, rfl, ⟨h1, chg_blk (hB97.below zc.below) h2 (fun e => by have z := (ho98.lt _ e).1; omega)⟩, h2.mono (fun b hb => .inr hb)⟩)
            refine ⟨.inl ⟨rfl, true, .none rfl, (fun gg b h => by cases h), fun h w => optUndef h, fun zβ za zw zc => ?_⟩, ?_⟩
            · exact fld_32_1 rfl (zc.kn.ev rfl) ⟨_, rfl, Below.refl _ _, optDef zβ rfl⟩
            refine ⟨.inr (.inr ⟨rfl, rfl, 42, by kernel_rfl, fun za zw ra rc zk zd zv zg => ?_⟩), ?_⟩
            · exact st_30 rfl ((show za.eval (.tmp 43) = za.tmps.getD 43 undef from rfl).trans (optSVal (zd 11 43 (by kernel_rfl) (by decide)) rfl rfl)) ((show za.eval (.tmp 42) = za.tmps.getD 42 undef from rfl).trans zv) zg.2 (by first | decide | simp) (fun v => ⟨v, rfl, ⟨zg.1.upd (Upd.at_ _ _ _ _) (by omega), zg.2.set_ 1 _⟩, .ofUpd (Upd.at_ _ _ _ _) (.inl rfl)⟩)
            exact trivial
          · intro za w106 ra109 rc110 zh zv hG107 hc108 zu
            have hb111 := chg_below hb93 hc108 (fun b hb => (fun h => by rcases hSlo _ h with h | h <;> omega))
            have hB112 := chg_blk hB94 hc108 (fun h => by rcases hSlo _ h with h | h <;> omega)
            have hB113 := chg_blk hB95 hc108 (fun h => by rcases hSlo _ h with h | h <;> omega)
            have hB114 := chg_blk hB96 hc108 (fun h => by rcases hSlo _ h with h | h <;> omega)
            clear zu
            refine (show WE _ [(0, .slice sa s.length sc), (1, .agg #[.int .i64 f, .slice a l.length c]), (3, .pointer (some ⟨g2, 0, none⟩)), (4, .pointer (some ⟨g9, 0, none⟩)), (5, .pointer (some ⟨g29, 0, none⟩)), (6, .bool ((subFind s (-1 - f)).isSome)), (7, .pointer (some ⟨g62, 0, none⟩)), (8, .int .i64 (((x.2.2 : Nat) : Int))), (11, .bool ((decide ((f : Int) < (0 : Int))))), (20, .bool ((subFind s (-1 - f)).isSome)), (29, .bool ((decide ((((x.2.2 : Nat) : Int) : Int) < (((l.length : Nat) : Int) : Int)))))] w106 _ .normal from ?_) za (zh.sub ⟨rfl, rfl, rfl, rfl, rfl, rfl, rfl, rfl, rfl, rfl, rfl, trivial⟩)
            refine WE.blockNormal ?_
            refine WE.next ?_
            refine WC.region ?_
            refine WL.val (.int .i64 (((x.2.2 : Nat) : Int))) rfl rfl rfl (fun za zC zh zk => wp_move rfl (zh.ev rfl) zk) ?_
            refine WL.val (.int .i64 ((((x.2.2 + 1) : Nat) : Int))) rfl rfl rfl (fun za zC zh zk => addb_3 rfl (zh.ev rfl) (zh.ev rfl) (wrap_eq (by omega) (by omega) (by omega)) zk) ?_
            refine WL.val (.int .i64 ((((x.2.2 + 1) : Nat) : Int))) rfl rfl rfl (fun za zC zh zk => wp_assign rfl (zh.ev rfl) zk) ?_
            refine WL.nil (WE.sub (K' := [(0, .slice sa s.length sc), (1, .agg #[.int .i64 f, .slice a l.length c]), (3, .pointer (some ⟨g2, 0, none⟩)), (4, .pointer (some ⟨g9, 0, none⟩)), (5, .pointer (some ⟨g29, 0, none⟩)), (6, .bool ((subFind s (-1 - f)).isSome)), (7, .pointer (some ⟨g62, 0, none⟩)), (8, .int .i64 ((((x.2.2 + 1) : Nat) : Int))), (11, .bool ((decide ((f : Int) < (0 : Int))))), (20, .bool ((subFind s (-1 - f)).isSome)), (29, .bool ((decide ((((x.2.2 : Nat) : Int) : Int) < (((l.length : Nat) : Int) : Int)))))]) ⟨rfl, rfl, rfl, rfl, rfl, rfl, rfl, rfl, rfl, rfl, rfl, trivial⟩ ?_)
            refine WE.round ((ra109, rc110, x.2.2 + 1)) ⟨rfl, rfl, rfl, rfl, rfl, rfl, rfl, rfl, rfl, rfl, trivial⟩ ?_ ?_
            · exact ⟨by (try dsimp only at *); omega, (Nat.le_trans hBw hc108.size), hb111, hB112, hB113, hB114, hG107.2, (by rw [← take_map (by (try dsimp only at *); omega)]; exact hG107.1)⟩
            · dsimp only; omega
        · have h99 : ¬ ((((x.2.2 : Nat) : Int) : Int) < (((l.length : Nat) : Int) : Int)) := by simpa using h99
          refine WC.exit ?_
          refine WE.thenExit ?_
          refine WE.thenExit ?_
          refine WE.blockIs rfl ?_
          refine WE.next ?_
          refine WC.seq ?_
          refine WC.region ?_
          refine WL.val (.agg #[.int .i64 f, .slice x.1 x.2.2 x.2.1]) rfl rfl rfl (fun za zC zh zk => ld_32 rfl (zh.ev rfl) ((hB97.cell 0).trans rfl) ((hB97.cell 1).trans rfl) zk) ?_
          refine WL.step (post := fun _ w' => Upd g9 w92 w' ∧ Blk w' g9 32 #[.int .i64 f, .slice x.1 x.2.2 x.2.1]) rfl rfl rfl (fun za zC zh zk => st_32 rfl (zh.ev rfl) (zh.ev rfl) rfl rfl hB95 (by first | decide | simp) (fun v => zk v _ ⟨(Upd.at_ _ _ _ _).trans (Upd.at_ _ _ _ _), (hB95.set_ 0 _).set_ 1 _⟩)) ?_
          rintro v118 w115 ⟨hu116, hB117⟩
          have hb119 := upd_below hb93 hu116 (by omega)
          have hB120 := upd_blk hB94 hu116 (by omega)
          have hB121 := upd_blk hB96 hu116 (by omega)
          have hB122 := upd_blk hB97 hu116 (by omega)
          have ho123 := ho98.upd hu116 (by omega)
          refine WL.nil (WE.sub (K' := [(0, .slice sa s.length sc), (1, .agg #[.int .i64 f, .slice a l.length c]), (3, .pointer (some ⟨g2, 0, none⟩)), (4, .pointer (some ⟨g9, 0, none⟩)), (5, .pointer (some ⟨g29, 0, none⟩)), (6, .bool ((subFind s (-1 - f)).isSome)), (7, .pointer (some ⟨g62, 0, none⟩)), (8, .int .i64 (((x.2.2 : Nat) : Int))), (11, .bool ((decide ((f : Int) < (0 : Int))))), (20, .bool ((subFind s (-1 - f)).isSome)), (29, .bool ((decide ((((x.2.2 : Nat) : Int) : Int) < (((l.length : Nat) : Int) : Int)))))]) ⟨rfl, rfl, rfl, rfl, rfl, rfl, rfl, rfl, rfl, rfl, rfl, trivial⟩ ?_)
          refine WE.next ?_
          refine WC.ret ?_
          refine WE.retAny (v := .agg #[.int .i64 f, .slice x.1 x.2.2 x.2.1]) (fun za zh => ?_) ?_
          · have z0 : za.tmps[4]?.getD undef = .pointer (some ⟨g9, 0, none⟩) := by rw [← Array.getD_eq_getD_getElem?]; exact zh.knows 4 _ rfl
            have y0 : w115.cell? ⟨g9, 0, none⟩ = some (.int .i64 f) := ((hB117.cell 0).trans rfl)
            have y1 : w115.cell? ⟨g9, 1, none⟩ = some (.slice x.1 x.2.2 x.2.1) := ((hB117.cell 1).trans rfl)
            simp [results, Try.results41, z0, y0, y1, go_sem]
          · have z := ho123
            rw [List.take_of_length_le (by omega)] at z
            exact ⟨_, rfl, by rw [app_none (fun _ => isSome_false h51)]; exact newT_row hf z (by omega), hb119⟩
  · have h17 : ¬ ((f : Int) < (0 : Int)) := by simpa using h17
    refine WC.skip ?_
    refine WE.next ?_
    refine WC.seq ?_
    refine WC.region ?_
    refine WL.val (.pointer (some ⟨g2, 0, none⟩)) rfl rfl rfl (fun za zC zh zk => fld_32_0 rfl (zh.ev rfl) zk) ?_
    refine WL.val (.int .i64 f) rfl rfl rfl (fun za zC zh zk => ld_3 rfl (zh.ev rfl) ((hB16.cell 0).trans rfl) zk) ?_
    refine WL.val (.agg #[.int .i64 f, .slice none 0 0]) rfl rfl rfl (fun za zC zh zk => build_32_0 rfl (zh.ev rfl) zk) ?_
    refine WL.step (post := NewBlk w8 32 #[.int .i64 0, .slice none 0 0]) rfl rfl rfl (fun za zC zh zk => alloc_32 rfl (zk _ _ (newBlk _ _ _))) ?_
    rintro _ w124 ⟨g125, rfl, hg126, hB127, hb128, hz129⟩
    have hl130 : g2 < g125 := by have z1 := hB16.lt; omega
    have hl131 : g9 < g125 := by have z1 := hB11.lt; omega
    have hb132 : Below w.heap.size w w8 := (bstep hb5 hb12)
    have hl133 : w.heap.size ≤ g125 := by have z2 := (hb132).size; omega
    refine WL.step (post := fun _ w' => Upd g125 w124 w' ∧ Blk w' g125 32 #[.int .i64 f, .slice none 0 0]) rfl rfl rfl (fun za zC zh zk => st_32 rfl (zh.ev rfl) (zh.ev rfl) rfl rfl hB127 (by first | decide | simp) (fun v => zk v _ ⟨(Upd.at_ _ _ _ _).trans (Upd.at_ _ _ _ _), (hB127.set_ 0 _).set_ 1 _⟩)) ?_
    rintro v137 w134 ⟨hu135, hB136⟩
    have hb138 : Below w.heap.size w w124 := (bstep hb132 hb128)
    have hb139 := upd_below hb138 hu135 (by omega)
    have hB140 := hB16.below hb128
    have hB141 := upd_blk hB140 hu135 (by omega)
    have hB142 := hB11.below hb128
    have hB143 := upd_blk hB142 hu135 (by omega)
    refine WL.nil (WE.sub (K' := [(0, .slice sa s.length sc), (1, .agg #[.int .i64 f, .slice a l.length c]), (3, .pointer (some ⟨g2, 0, none⟩)), (4, .pointer (some ⟨g9, 0, none⟩)), (7, .pointer (some ⟨g125, 0, none⟩)), (11, .bool ((decide ((f : Int) < (0 : Int)))))]) ⟨rfl, rfl, rfl, rfl, rfl, rfl, trivial⟩ ?_)
    refine WE.next ?_
    refine WC.seq ?_
    refine WC.seq ?_
    refine WC.region ?_
    refine WL.val (.int .i64 0) rfl rfl rfl (fun za zC zh zk => wp_assign rfl (zh.ev rfl) zk) ?_
    refine WL.nil (WE.sub (K' := [(0, .slice sa s.length sc), (1, .agg #[.int .i64 f, .slice a l.length c]), (3, .pointer (some ⟨g2, 0, none⟩)), (4, .pointer (some ⟨g9, 0, none⟩)), (7, .pointer (some ⟨g125, 0, none⟩)), (8, .int .i64 0), (11, .bool ((decide ((f : Int) < (0 : Int)))))]) ⟨rfl, rfl, rfl, rfl, rfl, rfl, rfl, trivial⟩ ?_)
    refine WE.next ?_
    refine WC.block ?_
    have hl144 : g2 < w134.heap.size := by have z1 := hB141.lt; omega
    have hl145 : g9 < w134.heap.size := by have z1 := hB143.lt; omega
    have hl146 : g125 < w134.heap.size := by have z1 := hB136.lt; omega
    have hl147 : w.heap.size ≤ w134.heap.size := (hb139).size
    have hR148 : RowE eltT w134 w134.heap.size 32 none 0 0 [] := RowE.nil
    refine WC.loop (X := Option Addr × Nat × Nat) (fun x => l.length - x.2.2) (fun x => [(0, .slice sa s.length sc), (1, .agg #[.int .i64 f, .slice a l.length c]), (3, .pointer (some ⟨g2, 0, none⟩)), (4, .pointer (some ⟨g9, 0, none⟩)), (7, .pointer (some ⟨g125, 0, none⟩)), (8, .int .i64 (((x.2.2 : Nat) : Int))), (11, .bool ((decide ((f : Int) < (0 : Int)))))]) (fun x w149 => x.2.2 ≤ l.length ∧ w134.heap.size ≤ (w149).heap.size ∧ Below w.heap.size w w149 ∧ Blk w149 g2 32 #[.int .i64 f, .slice a l.length c] ∧ Blk w149 g9 32 #[.int .i64 0, .slice none 0 0] ∧ Blk w149 g125 32 #[.int .i64 f, .slice x.1 x.2.2 x.2.1] ∧ RowE eltT (w149) w134.heap.size 32 x.1 x.2.1 x.2.2 ((l.take x.2.2).map (T.app s))) ((none, 0, 0)) ⟨rfl, rfl, rfl, rfl, rfl, rfl, rfl, trivial⟩ ?_ ?_
    · exact ⟨Nat.zero_le _, Nat.le_refl _, hb139, hB141, hB143, hB136, (by simpa using hR148)⟩
    · rintro x w149 ⟨hk, hBw, hb150, hB151, hB152, hB153, ho154⟩
      refine WC.seq ?_
      refine WC.seq ?_
      refine WC.region ?_
      refine WL.val (.int .i64 (((x.2.2 : Nat) : Int))) rfl rfl rfl (fun za zC zh zk => wp_move rfl (zh.ev rfl) zk) ?_
      refine WL.val (.pointer (some ⟨g2, 1, none⟩)) rfl rfl rfl (fun za zC zh zk => fld_32_1 rfl (zh.ev rfl) zk) ?_
      refine WL.val (.slice a l.length c) rfl rfl rfl (fun za zC zh zk => ld_30 rfl (zh.ev rfl) ((hB151.cell 1).trans rfl) zk) ?_
      refine WL.val (.int .i64 (((l.length : Nat) : Int))) rfl rfl rfl (fun za zC zh zk => len_30 rfl (zh.ev rfl) zk) ?_
      refine WL.val (.bool ((decide ((((x.2.2 : Nat) : Int) : Int) < (((l.length : Nat) : Int) : Int))))) rfl rfl rfl (fun za zC zh zk => lss_3 rfl (zh.ev rfl) (zh.ev rfl) zk) ?_
      refine WL.nil (WE.sub (K' := [(0, .slice sa s.length sc), (1, .agg #[.int .i64 f, .slice a l.length c]), (3, .pointer (some ⟨g2, 0, none⟩)), (4, .pointer (some ⟨g9, 0, none⟩)), (7, .pointer (some ⟨g125, 0, none⟩)), (8, .int .i64 (((x.2.2 : Nat) : Int))), (11, .bool ((decide ((f : Int) < (0 : Int))))), (29, .bool ((decide ((((x.2.2 : Nat) : Int) : Int) < (((l.length : Nat) : Int) : Int)))))]) ⟨rfl, rfl, rfl, rfl, rfl, rfl, rfl, rfl, trivial⟩ ?_)
      refine WE.next ?_
      refine WC.cond rfl (fun h155 => ?_) (fun h155 => ?_)
      · have h155 : (((x.2.2 : Nat) : Int) : Int) < (((l.length : Nat) : Int) : Int) := by simpa using h155
        refine WC.skip ?_
        refine WE.next ?_
        refine WC.seq ?_
        refine WC.block ?_
        obtain ⟨b156, o157, A158, C159, ha160, hc161⟩ := IsTs.open hl
        have hSlt : ∀ b, (fun b => b = g125 ∨ (Value.slice x.1 x.2.2 x.2.1).ownBlock = some b) b → b < w149.heap.size := fun b h => h.elim (fun e => e ▸ hB153.lt) (fun h => (ho154.lt b h).2)
        have hSlo : ∀ b, (fun b => b = g125 ∨ (Value.slice x.1 x.2.2 x.2.1).ownBlock = some b) b → b = g125 ∨ (w134.heap.size ≤ b ∧ b < w149.heap.size) := fun b h => h.imp id (fun h => ho154.lt b h)
        have hBW : w134.heap.size ≤ w149.heap.size := by have z1 := hBw; omega
        have hlL : x.2.2 = (((l.take x.2.2).map (T.app s))).length := ho154.len
        refine WC.tail2 (S := ((fun b => b = g125 ∨ (Value.slice x.1 x.2.2 x.2.1).ownBlock = some b))) [(true, .val (.pointer (some ⟨g125, 1, none⟩))), (true, .val (.slice x.1 x.2.2 x.2.1)), (true, .val (.slice sa s.length sc)), (true, .val (.pointer (some ⟨g2, 1, none⟩))), (true, .val (.slice a l.length c)), (true, .val (.int .i64 (((x.2.2 : Nat) : Int)))), (true, .val (.pointer (some ⟨b156, o157 + x.2.2 * 2, none⟩))), (true, .val (.agg #[.int .i64 ((tget l x.2.2).f), .slice ((A158 x.2.2)) ((tget l x.2.2).args.length) ((C159 x.2.2))])), (true, .mem (fun v w' => NewT w149 w' (((tget l x.2.2).app s)) v) (fun v w w' hc h => InT.chg h hc (fun b hb hs => by have z := hSlt b hs; omega))), (true, .mem (fun v w' => OneRow eltT w149 32 (((tget l x.2.2).app s)) v w') (fun v w w' hc h => h.chg hc hSlt)), (true, .val undef), (true, .val (.pointer (some ⟨g125, 1, none⟩))), (true, .val undef)] [(0, .slice sa s.length sc), (1, .agg #[.int .i64 f, .slice a l.length c]), (3, .pointer (some ⟨g2, 0, none⟩)), (4, .pointer (some ⟨g9, 0, none⟩)), (7, .pointer (some ⟨g125, 0, none⟩)), (8, .int .i64 (((x.2.2 : Nat) : Int))), (11, .bool ((decide ((f : Int) < (0 : Int))))), (29, .bool ((decide ((((x.2.2 : Nat) : Int) : Int) < (((l.length : Nat) : Int) : Int)))))] 10 12 ((x.2.2 + 1)) 42 (fun ra rc w => RowE eltT w w134.heap.size 32 ra rc (x.2.2 + 1) (((l.take x.2.2).map (T.app s) ++ [((tget l x.2.2).app s)])) ∧ Blk w g125 32 #[.int .i64 f, .slice x.1 x.2.2 x.2.1]) (fun ra rc w => RowE eltT w w134.heap.size 32 ra rc (x.2.2 + 1) (((l.take x.2.2).map (T.app s) ++ [((tget l x.2.2).app s)])) ∧ Blk w g125 32 #[.int .i64 f, .slice ra ((x.2.2 + 1)) rc]) (by decide) (fun ra rc w w' hb h => ⟨h.1.below hb, h.2.below hb⟩) (fun ra rc w w' hb h => ⟨h.1.below hb, h.2.below hb⟩) ⟨rfl, rfl, rfl, rfl, rfl, rfl, rfl, rfl, trivial⟩ (by kernel_rfl) (by kernel_rfl) (by kernel_rfl) (by kernel_rfl) (by kernel_rfl) ?_ ?_
        · refine ⟨.inl ⟨rfl, true, .none rfl, (fun gg b h => by cases h), fun h w => optUndef h, fun zβ za zw zc => ?_⟩, ?_⟩
          · exact fld_32_1 rfl (zc.kn.ev rfl) ⟨_, rfl, Below.refl _ _, optDef zβ rfl⟩
          refine ⟨.inl ⟨rfl, true, .none rfl, (fun gg b h => by cases h), fun h w => optUndef h, fun zβ za zw zc => ?_⟩, ?_⟩
          · exact ld_30 rfl ((show za.eval (.tmp 32) = za.tmps.getD 32 undef from rfl).trans (optSVal (zc.dep 0 32 (by kernel_rfl) (by decide)) rfl rfl)) (bkeeps (zc.early (by kernel_rfl)) _ _ ((hB153.cell 1).trans rfl)) ⟨_, rfl, Below.refl _ _, optDef zβ rfl⟩
          refine ⟨.inl ⟨rfl, true, .none rfl, (fun gg b h => by cases h), fun h w => optUndef h, fun zβ za zw zc => ?_⟩, ?_⟩
          · exact wp_move rfl (zc.kn.ev rfl) ⟨_, rfl, Below.refl _ _, optDef zβ rfl⟩
          refine ⟨.inl ⟨rfl, true, .none rfl, (fun gg b h => by cases h), fun h w => optUndef h, fun zβ za zw zc => ?_⟩, ?_⟩
          · exact fld_32_1 rfl (zc.kn.ev rfl) ⟨_, rfl, Below.refl _ _, optDef zβ rfl⟩
          refine ⟨.inl ⟨rfl, true, .none rfl, (fun gg b h => by cases h), fun h w => optUndef h, fun zβ za zw zc => ?_⟩, ?_⟩
          · exact ld_30 rfl ((show za.eval (.tmp 35) = za.tmps.getD 35 undef from rfl).trans (optSVal (zc.dep 3 35 (by kernel_rfl) (by decide)) rfl rfl)) (bkeeps (zc.early (by kernel_rfl)) _ _ ((hB151.cell 1).trans rfl)) ⟨_, rfl, Below.refl _ _, optDef zβ rfl⟩
          refine ⟨.inl ⟨rfl, true, .none rfl, (fun gg b h => by cases h), fun h w => optUndef h, fun zβ za zw zc => ?_⟩, ?_⟩
          · exact wp_move rfl (zc.kn.ev rfl) ⟨_, rfl, Below.refl _ _, optDef zβ rfl⟩
          refine ⟨.inl ⟨rfl, true, .none rfl, (fun gg b h => by cases h), fun h w => optUndef h, fun zβ za zw zc => ?_⟩, ?_⟩
          · exact ix_30 (k := x.2.2) rfl ((show za.eval (.tmp 36) = za.tmps.getD 36 undef from rfl).trans (optSVal (zc.dep 4 36 (by kernel_rfl) (by decide)) rfl rfl)) (ha160 x.2.2 (by first | omega | (simp; omega))) ((show za.eval (.tmp 37) = za.tmps.getD 37 undef from rfl).trans (optSVal (zc.dep 5 37 (by kernel_rfl) (by decide)) rfl rfl)) (by first | omega | (simp; omega)) ⟨_, rfl, Below.refl _ _, optDef zβ rfl⟩
          refine ⟨.inl ⟨rfl, true, .none rfl, (fun gg b h => by cases h), fun h w => optUndef h, fun zβ za zw zc => ?_⟩, ?_⟩
          · exact ld_32 rfl ((show za.eval (.tmp 38) = za.tmps.getD 38 undef from rfl).trans (optSVal (zc.dep 6 38 (by kernel_rfl) (by decide)) rfl rfl)) (bkeeps (bstep hb150 (zc.early (by kernel_rfl))) _ _ (hc161 x.2.2 (by first | omega | (simp; omega))).1) (bkeeps (bstep hb150 (zc.early (by kernel_rfl))) _ _ (hc161 x.2.2 (by first | omega | (simp; omega))).2.1) ⟨_, rfl, Below.refl _ _, optDef zβ rfl⟩
          refine ⟨.inl ⟨rfl, true, .none rfl, (fun gg b h => by cases h), fun h w => optUndef h, fun zβ za zw zc => ?_⟩, ?_⟩
          · exact wp_call (by kernel_rfl) rfl (hv2 ((show za.eval (.tmp 34) = za.tmps.getD 34 undef from rfl).trans (optSVal (zc.dep 2 34 (by kernel_rfl) (by decide)) rfl rfl)) ((show za.eval (.tmp 39) = za.tmps.getD 39 undef from rfl).trans (optSVal (zc.dep 7 39 (by kernel_rfl) (by decide)) rfl rfl))) (ih _ (tget_mem (by omega)) _ _ (size_at (by omega) hz) (IsT.below (bstep hb150 (zc.early (by kernel_rfl))) (hc161 x.2.2 (by first | omega | (simp; omega))).2.2) (hs.below (bstep hb150 (zc.early (by kernel_rfl))))) (fun v w' h => ⟨v, rfl, h.2, optDef zβ (InT.mono (fun b hb _ => Nat.le_trans (zc.early (by kernel_rfl)).size hb) h.1)⟩)
          refine ⟨.inl ⟨rfl, true, .none rfl, (fun gg b h => by cases h), fun h w => optUndef h, fun zβ za zw zc => ?_⟩, ?_⟩
          · have zv := (optSMem (zc.dep 8 40 (by kernel_rfl) (by decide)) rfl rfl)
            obtain ⟨_, a1, c1, e1, _⟩ := zv.form
            rw [e1] at zv
            exact row_30_1 rfl ((show za.eval (.tmp 40) = za.tmps.getD 40 undef from rfl).trans e1) ⟨_, rfl, balloc _ _, optDef zβ ⟨_, _, rfl, zc.chg.size, Blk.new' rfl, _, _, rfl, zv.below (balloc _ _)⟩⟩
          refine ⟨.inr (.inl ⟨rfl, rfl, fun za zw zc => ?_⟩), ?_⟩
          · obtain ⟨g1, cs, e1, hg1, hB1, hin⟩ := (optSMem (zc.dep 9 41 (by kernel_rfl) (by decide)) rfl rfl)
            exact wp_appE (E := eltT) (size := 2) (bytes := 32) (z := .agg #[.int .i64 0, .slice none 0 0]) rfl Try.underlying30 (by kernel_rfl) rfl (by decide) rfl ((show za.eval (.tmp 33) = za.tmps.getD 33 undef from rfl).trans (optSVal (zc.dep 1 33 (by kernel_rfl) (by decide)) rfl rfl)) ((show za.eval (.tmp 41) = za.tmps.getD 41 undef from rfl).trans e1) (ho154.below zc.below) hB1 (eltT.mono (fun b hb _ => ⟨by omega, fun e => by have z := (ho154.lt b e).2; omega⟩) hin) (by omega) (by omega) (by have z := zc.below.size; omega) (fun ra rc w' h1 h2 _ => ⟨ra, rc, rfl, ⟨h1, chg_blk (hB153.below zc.below) h2 (fun e => by have z := (ho154.lt _ e).1; omega)⟩, h2.mono (fun b hb => .inr hb)⟩)
          refine ⟨.inl ⟨rfl, true, .none rfl, (fun gg b h => by cases h), fun h w => optUndef h, fun zβ za zw zc => ?_⟩, ?_⟩
          · exact fld_32_1 rfl (zc.kn.ev rfl) ⟨_, rfl, Below.refl _ _, optDef zβ rfl⟩
          refine ⟨.inr (.inr ⟨rfl, rfl, 42, by kernel_rfl, fun za zw ra rc zk zd zv zg => ?_⟩), ?_⟩
          · exact st_30 rfl ((show za.eval (.tmp 43) = za.tmps.getD 43 undef from rfl).trans (optSVal (zd 11 43 (by kernel_rfl) (by decide)) rfl rfl)) ((show za.eval (.tmp 42) = za.tmps.getD 42 undef from rfl).trans zv) zg.2 (by first | decide | simp) (fun v => ⟨v, rfl, ⟨zg.1.upd (Upd.at_ _ _ _ _) (by omega), zg.2.set_ 1 _⟩, .ofUpd (Upd.at_ _ _ _ _) (.inl rfl)⟩)
          exact trivial
        · intro za w162 ra165 rc166 zh zv hG163 hc164 zu
          have hb167 := chg_below hb150 hc164 (fun b hb => (fun h => by rcases hSlo _ h with h | h <;> omega))
          have hB168 := chg_blk hB151 hc164 (fun h => by rcases hSlo _ h with h | h <;> omega)
          have hB169 := chg_blk hB152 hc164 (fun h => by rcases hSlo _ h with h | h <;> omega)
          clear zu
          refine (show WE _ [(0, .slice sa s.length sc), (1, .agg #[.int .i64 f, .slice a l.length c]), (3, .pointer (some ⟨g2, 0, none⟩)), (4, .pointer (some ⟨g9, 0, none⟩)), (7, .pointer (some ⟨g125, 0, none⟩)), (8, .int .i64 (((x.2.2 : Nat) : Int))), (11, .bool ((decide ((f : Int) < (0 : Int))))), (29, .bool ((decide ((((x.2.2 : Nat) : Int) : Int) < (((l.length : Nat) : Int) : Int)))))] w162 _ .normal from ?_) za (zh.sub ⟨rfl, rfl, rfl, rfl, rfl, rfl, rfl, rfl, trivial⟩)
          refine WE.blockNormal ?_
          refine WE.next ?_
          refine WC.region ?_
          refine WL.val (.int .i64 (((x.2.2 : Nat) : Int))) rfl rfl rfl (fun za zC zh zk => wp_move rfl (zh.ev rfl) zk) ?_
          refine WL.val (.int .i64 ((((x.2.2 + 1) : Nat) : Int))) rfl rfl rfl (fun za zC zh zk => addb_3 rfl (zh.ev rfl) (zh.ev rfl) (wrap_eq (by omega) (by omega) (by omega)) zk) ?_
          refine WL.val (.int .i64 ((((x.2.2 + 1) : Nat) : Int))) rfl rfl rfl (fun za zC zh zk => wp_assign rfl (zh.ev rfl) zk) ?_
          refine WL.nil (WE.sub (K' := [(0, .slice sa s.length sc), (1, .agg #[.int .i64 f, .slice a l.length c]), (3, .pointer (some ⟨g2, 0, none⟩)), (4, .pointer (some ⟨g9, 0, none⟩)), (7, .pointer (some ⟨g125, 0, none⟩)), (8, .int .i64 ((((x.2.2 + 1) : Nat) : Int))), (11, .bool ((decide ((f : Int) < (0 : Int))))), (29, .bool ((decide ((((x.2.2 : Nat) : Int) : Int) < (((l.length : Nat) : Int) : Int)))))]) ⟨rfl, rfl, rfl, rfl, rfl, rfl, rfl, rfl, trivial⟩ ?_)
          refine WE.round ((ra165, rc166, x.2.2 + 1)) ⟨rfl, rfl, rfl, rfl, rfl, rfl, rfl, trivial⟩ ?_ ?_
          · exact ⟨by (try dsimp only at *); omega, (Nat.le_trans hBw hc164.size), hb167, hB168, hB169, hG163.2, (by rw [← take_map (by (try dsimp only at *); omega)]; exact hG163.1)⟩
          · dsimp only; omega
      · have h155 : ¬ ((((x.2.2 : Nat) : Int) : Int) < (((l.length : Nat) : Int) : Int)) := by simpa using h155
        refine WC.exit ?_
        refine WE.thenExit ?_
        refine WE.thenExit ?_
        refine WE.blockIs rfl ?_
        refine WE.next ?_
        refine WC.seq ?_
        refine WC.region ?_
        refine WL.val (.agg #[.int .i64 f, .slice x.1 x.2.2 x.2.1]) rfl rfl rfl (fun za zC zh zk => ld_32 rfl (zh.ev rfl) ((hB153.cell 0).trans rfl) ((hB153.cell 1).trans rfl) zk) ?_
        refine WL.step (post := fun _ w' => Upd g9 w149 w' ∧ Blk w' g9 32 #[.int .i64 f, .slice x.1 x.2.2 x.2.1]) rfl rfl rfl (fun za zC zh zk => st_32 rfl (zh.ev rfl) (zh.ev rfl) rfl rfl hB152 (by first | decide | simp) (fun v => zk v _ ⟨(Upd.at_ _ _ _ _).trans (Upd.at_ _ _ _ _), (hB152.set_ 0 _).set_ 1 _⟩)) ?_
        rintro v173 w170 ⟨hu171, hB172⟩
        have hb174 := upd_below hb150 hu171 (by omega)
        have hB175 := upd_blk hB151 hu171 (by omega)
        have hB176 := upd_blk hB153 hu171 (by omega)
        have ho177 := ho154.upd hu171 (by omega)
        refine WL.nil (WE.sub (K' := [(0, .slice sa s.length sc), (1, .agg #[.int .i64 f, .slice a l.length c]), (3, .pointer (some ⟨g2, 0, none⟩)), (4, .pointer (some ⟨g9, 0, none⟩)), (7, .pointer (some ⟨g125, 0, none⟩)), (8, .int .i64 (((x.2.2 : Nat) : Int))), (11, .bool ((decide ((f : Int) < (0 : Int))))), (29, .bool ((decide ((((x.2.2 : Nat) : Int) : Int) < (((l.length : Nat) : Int) : Int)))))]) ⟨rfl, rfl, rfl, rfl, rfl, rfl, rfl, rfl, trivial⟩ ?_)
        refine WE.next ?_
        refine WC.ret ?_
        refine WE.retAny (v := .agg #[.int .i64 f, .slice x.1 x.2.2 x.2.1]) (fun za zh => ?_) ?_
        · have z0 : za.tmps[4]?.getD undef = .pointer (some ⟨g9, 0, none⟩) := by rw [← Array.getD_eq_getD_getElem?]; exact zh.knows 4 _ rfl
          have y0 : w170.cell? ⟨g9, 0, none⟩ = some (.int .i64 f) := ((hB172.cell 0).trans rfl)
          have y1 : w170.cell? ⟨g9, 1, none⟩ = some (.slice x.1 x.2.2 x.2.1) := ((hB172.cell 1).trans rfl)
          simp [results, Try.results41, z0, y0, y1, go_sem]
        · have z := ho177
          rw [List.take_of_length_le (by omega)] at z
          exact ⟨_, rfl, by rw [app_none (fun h => absurd h ‹_›)]; exact newT_row hf z (by omega), hb174⟩

end Go.Proofs.Ytgechlgdnnpoeaa

/- Terms compared and found the same: the document's way. -/
namespace Go.Proofs.Ytgechlgdnnpoeaa
open Go.RowKit Go.Sort Go


set_option maxHeartbeats 400000 in
theorem compare_any (s : T) : ∀ (t : T) (w : World) (v u : Value), IsT w s v → IsT w t u →
    Calls Try.prog 45 #[v, u] w fun e w' => e = .returned (.int .i64 (T.cmp s t)) ∧ Below w.heap.size w w' := by
  induction s using T.ind with
  | h f l ih =>
  intro t w v u hv hu
  obtain ⟨g, q⟩ := t
  obtain ⟨⟨hf1, hf2⟩, a, c, rfl, hc, hm, hl⟩ := hv
  obtain ⟨⟨hg1, hg2⟩, a', c', rfl, hc', hm', hq⟩ := hu
  unfold maxLen at hm hm'
  by_cases hfg : f = g
  · have E := Lib.hid (show T.cmp (.mk f l) (.mk g q) = T.cmpL l q by rw [T.cmp, if_neg (by simpa using hfg)])
    have hne : (f != g) = false := by simpa using hfg
    subst hfg
    go_enter Try.func45, Try.ntmps45
    go_wp2_with fail
    go_loopw [5] (fun i wr => ∃ (k : Nat), k ≤ l.length ∧ k ≤ q.length ∧ i = .int .i64 k ∧ Hid (T.cmpL l q = T.cmpL (l.drop k) (q.drop k)) ∧ Below w.heap.size w wr ∧ Box wr w.heap.size [.int .i64 f, .slice a l.length c] ∧ Box wr (w.heap.size + 1) [.int .i64 f, .slice a' q.length c']) (fun i _ => l.length - (intOf i).toNat)
    case atStart => exact ⟨0, Nat.zero_le _, Nat.zero_le _, rfl, rfl, balloc2 _ _ _, (Box.new _ _ _).alloc _, by have := Box.new (w.alloc (.cells #[.int .i64 f, .slice a l.length c] 32)) [.int .i64 f, .slice a' q.length c'] 32; simpa using this⟩
    case round =>
      obtain ⟨k, hk, hkq, rfl, hx, hw, hB1, hB2⟩ := hrel
      obtain ⟨s0, s1⟩ := hB1.two
      obtain ⟨t0, t1⟩ := hB2.two
      by_cases hlt : k < l.length
      · by_cases hlq : k < q.length
        · obtain ⟨b1, o1, a1, c1, rfl, g1, g2, h3⟩ := hl.at_ hw k hlt
          obtain ⟨b2, o2, a2, c2, rfl, g3, g4, h4⟩ := hq.at_ hw k hlq
          have IH := fun w v u => ih l[k] (List.getElem_mem hlt) q[k] w v u
          have q5 := T.cmpL_drop l q k hlt hlq
          have k0 : (0 : Int) ≤ (k : Int) := by omega
          have k1 : (k : Int) < (l.length : Int) := by omega
          have k2 : (k : Int) < (q.length : Int) := by omega
          have r0 := cell_regrown s1
          have r1 := cell_regrown t1
          have r2 := cell_regrown g1
          have r3 := cell_regrown g2
          have r4 := cell_regrown g3
          have r5 := cell_regrown g4
          have Hh3 := Lib.hid h3
          have Hh4 := Lib.hid h4
          have HhB1 := Lib.hid hB1
          have HhB2 := Lib.hid hB2
          have Hhw := Lib.hid hw
          have Hq5 := Lib.hid q5
          have Hhx := Lib.hid hx
          clear h3 h4 hB1 hB2 hw q5 hx
          clear ih hl hq
          by_cases hz : T.cmp l[k] q[k] = 0
          · rw [hz] at IH
            have Hz := Lib.hid hz
            clear hz
            go_wp2_with fail
            refine wp_region_quiet_below (by kernel_rfl) (by kernel_rfl) ?_
            repeat (quiet_step (exact Calls.regrown_of (IH _ _ _ (Hh3.out.below (below_regrown _ _ _)) (Hh4.out.below (below_regrown _ _ _)))))
            refine wpQuiet_nil ?_
            intro _ hw'
            obtain ⟨⟨dq, osq⟩, hw''⟩ := hw'
            subst hw''
            have hbq := below_regrown wr dq osq
            generalize grow (redrawn wr dq) osq = wq at hbq ⊢
            go_wp2_with fail
            go_roundw
            case rel => exact ⟨k + 1, by omega, by omega, by go_num, by unfold Hid; rw [Hhx.out, Hq5.out, if_pos Hz.out], bstep Hhw.out hbq, HhB1.out.below hbq, HhB2.out.below hbq⟩
            case measure => simp [intOf]; omega
          · have hzb : (T.cmp l[k] q[k] != 0) = true := by simpa using hz
            have Hz := Lib.hid hz
            clear hz
            go_wp2_with fail
            refine wp_region_quiet_below (by kernel_rfl) (by kernel_rfl) ?_
            repeat (quiet_step (exact Calls.regrown_of (IH _ _ _ (Hh3.out.below (below_regrown _ _ _)) (Hh4.out.below (below_regrown _ _ _)))))
            refine wpQuiet_nil ?_
            intro _ hw'
            obtain ⟨⟨dq, osq⟩, hw''⟩ := hw'
            subst hw''
            have hbq := below_regrown wr dq osq
            generalize grow (redrawn wr dq) osq = wq at hbq ⊢
            go_wp2_with fail
            go_ret
            exact ⟨rint (by rw [E.out, Hhx.out, Hq5.out, if_neg Hz.out]), bstep Hhw.out hbq⟩
        · have Q := Lib.hid (show T.cmpL (l.drop k) (q.drop k) = 1 from T.cmpL_long l q k hlt (by omega))
          have Hhw := Lib.hid hw
          have Hhx := Lib.hid hx
          clear hw hx
          clear ih hl hq
          go_wp2_with fail
          go_ret
          exact ⟨rint (by rw [E.out, Hhx.out, Q.out]), Hhw.out⟩
      · obtain rfl : k = l.length := by omega
        by_cases hlq : l.length < q.length
        · have Q := Lib.hid (show T.cmpL (l.drop l.length) (q.drop l.length) = -1 from T.cmpL_short l q hlq)
          have Hhw := Lib.hid hw
          have Hhx := Lib.hid hx
          clear hw hx
          clear ih hl hq
          go_wp2_with fail
          go_ret
          exact ⟨rint (by rw [E.out, Hhx.out, Q.out]), Hhw.out⟩
        · have Q := Lib.hid (show T.cmpL (l.drop l.length) (q.drop l.length) = 0 from T.cmpL_end l q (by omega))
          have Hhw := Lib.hid hw
          have Hhx := Lib.hid hx
          clear hw hx
          clear ih hl hq
          go_wp2_with fail
          go_ret
          exact ⟨rint (by rw [E.out, Hhx.out, Q.out]), Hhw.out⟩
  · have hne : (f != g) = true := by simpa using hfg
    by_cases hf : f < 0
    · by_cases hg : g < 0
      · by_cases hlt : g < f
        · have E := Lib.hid (show T.cmp (.mk f l) (.mk g q) = -1 by rw [T.cmp, if_pos hfg, if_pos ⟨hf, hg⟩, if_pos hlt])
          go_enter Try.func45, Try.ntmps45
          go_wp2_with fail
          go_ret
          exact ⟨rint E.out, balloc2 _ _ _⟩
        · have E := Lib.hid (show T.cmp (.mk f l) (.mk g q) = 1 by rw [T.cmp, if_pos hfg, if_pos ⟨hf, hg⟩, if_neg hlt])
          go_enter Try.func45, Try.ntmps45
          go_wp2_with fail
          go_ret
          exact ⟨rint E.out, balloc2 _ _ _⟩
      · have hlt : f < g := by omega
        have E := Lib.hid (show T.cmp (.mk f l) (.mk g q) = -1 by rw [T.cmp, if_pos hfg, if_neg (by omega), if_pos hlt])
        go_enter Try.func45, Try.ntmps45
        go_wp2_with fail
        go_ret
        exact ⟨rint E.out, balloc2 _ _ _⟩
    · by_cases hlt : f < g
      · have E := Lib.hid (show T.cmp (.mk f l) (.mk g q) = -1 by rw [T.cmp, if_pos hfg, if_neg (by omega), if_pos hlt])
        go_enter Try.func45, Try.ntmps45
        go_wp2_with fail
        go_ret
        exact ⟨rint E.out, balloc2 _ _ _⟩
      · have E := Lib.hid (show T.cmp (.mk f l) (.mk g q) = 1 by rw [T.cmp, if_pos hfg, if_neg (by omega), if_neg hlt])
        go_enter Try.func45, Try.ntmps45
        go_wp2_with fail
        go_ret
        exact ⟨rint E.out, balloc2 _ _ _⟩

theorem rsame_any (s t : T) (w : World) (v u : Value) (hv : IsT w s v) (hu : IsT w t u) :
    Calls Try.prog 17 #[v, u] w fun e w' => e = .returned (.bool (T.same s t)) ∧ Below w.heap.size w w' := by
  obtain ⟨_, a, c, rfl, hc, hm, _⟩ := hv.form
  obtain ⟨_, a', c', rfl, hc', hm', _⟩ := hu.form
  unfold maxLen at hm hm'
  have E := T.cmp_same s t
  have C := fun w v u => compare_any s t w v u
  cases hs : T.same s t with
  | true =>
    rw [hs, if_pos rfl] at E
    rw [E] at C
    have Hhv := Lib.hid hv
    have Hhu := Lib.hid hu
    clear hv hu
    clear hs E
    go_enter Try.func17, Try.ntmps17
    go_wp2_with (go_at_call 45; refine (C _ _ _ (Hhv.out.below (balloc2 _ _ _)) (Hhu.out.below (balloc2 _ _ _))).mono ?_; rintro e w' ⟨rfl, hb'⟩)
    go_ret
    exact ⟨rfl, bstep (balloc2 _ _ _) hb'⟩
  | false =>
    rw [hs] at E
    have E' : (T.cmp s t == 0) = false := by simpa using E
    have Hhv := Lib.hid hv
    have Hhu := Lib.hid hu
    clear hv hu
    clear hs E
    go_enter Try.func17, Try.ntmps17
    go_wp2_with (go_at_call 45; refine (C _ _ _ (Hhv.out.below (balloc2 _ _ _)) (Hhu.out.below (balloc2 _ _ _))).mono ?_; rintro e w' ⟨rfl, hb'⟩)
    go_ret
    exact ⟨rfl, bstep (balloc2 _ _ _) hb'⟩

end Go.Proofs.Ytgechlgdnnpoeaa

/- The size of a term: the walk. -/
namespace Go.Proofs.Ytgechlgdnnpoeaa
open Go.RowKit

theorem size_any (t : T) : ∀ (w : World) (v : Value), IsT w t v →
    Calls Try.prog 44 #[v] w fun e w' => e = .returned (.int .i64 (wrap64 t.size)) ∧ Below w.heap.size w w' := by
  induction t using T.ind with
  | h f l ih =>
  intro w v hv
  obtain ⟨_, a, c, rfl, hc, hm, hl⟩ := hv
  unfold maxLen at hm
  go_enter Try.func44, Try.ntmps44
  go_wp2
  go_loopw [3, 4] (fun n i wr => ∃ (k : Nat), k ≤ l.length ∧ i = .int .i64 k ∧ n = .int .i64 (wrap64 (1 + T.sizeL (l.take k) : Nat)) ∧ Below w.heap.size w wr ∧ Box wr w.heap.size [.int .i64 f, .slice a l.length c]) (fun _ i _ => l.length - (intOf i).toNat)
  case atStart => exact ⟨0, Nat.zero_le _, rfl, vint (by simp [T.sizeL, wrap64]), balloc _ _, Box.new _ _ _⟩
  case round =>
    obtain ⟨k, hk, rfl, rfl, hw, hB⟩ := hrel
    obtain ⟨_, b1⟩ := hB.two
    by_cases hlt : k < l.length
    · obtain ⟨b, o, a', c', rfl, g1, g2, h3⟩ := hl.at_ hw k hlt
      have IH := fun w v => ih l[k] (List.getElem_mem hlt) w v
      have Hh3 := Lib.hid h3
      have HhB := Lib.hid hB
      have Hhw := Lib.hid hw
      clear h3 hB hw
      clear ih hl
      go_wp2_with (go_at_call 44; refine (IH _ _ Hh3.out).mono ?_; rintro e w' ⟨rfl, hb'⟩)
      go_roundw
      case rel => exact ⟨k + 1, by omega, by go_num, by rw [wrap64_add, T.sizeL_take_succ l k hlt]; congr 2; omega, bstep Hhw.out hb', HhB.out.below hb'⟩
      case measure => simp [intOf]; omega
    · go_wp2_with fail
      go_ret
      obtain rfl : k = l.length := by omega
      exact ⟨rint (by rw [List.take_length]; rfl), hw⟩

end Go.Proofs.Ytgechlgdnnpoeaa

/- Operations, one law a kind and type. -/
namespace Go.Proofs.Ytgechlgdnnpoeaa
open Go.RowKit Go
set_option maxRecDepth 100000

theorem slo_23 {w : World} {a : Act} {K : Act → World → Prop} {Q : Exit → Act → World → Prop} {o : Oper} {x lo : Operand} {r : Option Addr} {n c k : Nat} (ho : o.op = .slice 23 x (some lo) none none) (hx : a.eval x = .slice r n c) (hl : a.eval lo = .int .i64 (k : Int)) (hk : k ≤ n) (hc : n ≤ c) (hK : K (a.put o.dst (.slice (slA r k 3 c) (n - k) (c - k))) w) : o.wp Try.prog a w K Q := by
  have h0 : (0 : Int) ≤ (k : Int) := by omega
  have h1 : (k : Int) ≤ (n : Int) := by omega
  unfold slA at hK
  unfold Oper.wp execOp
  simp only [ho, hx, hl, Option.map_some, Option.map_none]
  go_simp
  exact hK
theorem shi_23 {w : World} {a : Act} {K : Act → World → Prop} {Q : Exit → Act → World → Prop} {o : Oper} {x hi : Operand} {r : Option Addr} {n c k : Nat} (ho : o.op = .slice 23 x none (some hi) none) (hx : a.eval x = .slice r n c) (hl : a.eval hi = .int .i64 (k : Int)) (hk : k ≤ c) (hK : K (a.put o.dst (.slice r k c)) w) : o.wp Try.prog a w K Q := by
  have h0 : (0 : Int) ≤ (k : Int) := by omega
  have h1 : (k : Int) ≤ (c : Int) := by omega
  unfold Oper.wp execOp
  simp only [ho, hx, hl, Option.map_some, Option.map_none]
  go_simp
  exact hK
theorem min_3 {w : World} {a : Act} {K : Act → World → Prop} {Q : Exit → Act → World → Prop} {o : Oper} {x y : Operand} {m n : Int} (ho : o.op = .call { callee := .builtin .min, args := #[x, y], argTypes := #[3, 3] }) (hx : a.eval x = .int .i64 m) (hy : a.eval y = .int .i64 n) (hK : K (a.put o.dst (.int .i64 (min m n))) w) : o.wp Try.prog a w K Q := by
  unfold Oper.wp execOp
  simp only [ho, resolve, List.map_toArray, List.map_cons, List.map_nil, hx, hy]
  go_simp
  first
    | exact hK
    | (have e : min m n = (if n < m then n else m) := by split <;> omega
       rw [e] at hK
       exact hK)
theorem max_3 {w : World} {a : Act} {K : Act → World → Prop} {Q : Exit → Act → World → Prop} {o : Oper} {x y : Operand} {m n : Int} (ho : o.op = .call { callee := .builtin .max, args := #[x, y], argTypes := #[3, 3] }) (hx : a.eval x = .int .i64 m) (hy : a.eval y = .int .i64 n) (hK : K (a.put o.dst (.int .i64 (max m n))) w) : o.wp Try.prog a w K Q := by
  unfold Oper.wp execOp
  simp only [ho, resolve, List.map_toArray, List.map_cons, List.map_nil, hx, hy]
  go_simp
  first
    | exact hK
    | (have e : max m n = (if m < n then n else m) := by split <;> omega
       rw [e] at hK
       exact hK)
theorem alloc_75 {w : World} {a : Act} {K : Act → World → Prop} {Q : Exit → Act → World → Prop} {o : Oper} (ho : o.op = .alloc 75) (hK : K (a.put o.dst (.pointer (some ⟨w.heap.size, 0, none⟩))) (w.alloc (.cells #[.map none] 75))) : o.wp Try.prog a w K Q := by
  unfold Oper.wp execOp
  simp only [ho]
  go_simp
  exact hK
theorem st_75 {w : World} {a : Act} {K : Act → World → Prop} {Q : Exit → Act → World → Prop} {o : Oper} {x y : Operand} {g p : Nat} {ty : TypeId} {cs : Array Value} {c0 : Option Nat} (ho : o.op = .store 75 x y) (hx : a.eval x = .pointer (some ⟨g, p, none⟩)) (hy : a.eval y = .map c0) (hB : Blk w g ty cs) (hp : p + 0 < cs.size) (hK : ∀ v, K (a.put o.dst v) (w.setCell ⟨g, p, none⟩ (.map c0))) : o.wp Try.prog a w K Q := by
  have h0 := (hB.cell (p)).trans (Array.getElem?_eq_getElem (by first | omega | (simp; omega)))
  have f0 := hB.frozen (p)
  clear hB
  unfold Oper.wp execOp
  simp only [ho, hx, hy]
  go_simp
  exact hK _
theorem alloc_23 {w : World} {a : Act} {K : Act → World → Prop} {Q : Exit → Act → World → Prop} {o : Oper} (ho : o.op = .alloc 23) (hK : K (a.put o.dst (.pointer (some ⟨w.heap.size, 0, none⟩))) (w.alloc (.cells #[.slice none 0 0] 23))) : o.wp Try.prog a w K Q := by
  unfold Oper.wp execOp
  simp only [ho]
  go_simp
  exact hK
theorem ld_75 {w : World} {a : Act} {K : Act → World → Prop} {Q : Exit → Act → World → Prop} {o : Oper} {x : Operand} {p : Addr} {v : Value} (ho : o.op = .load 75 x) (hx : a.eval x = .pointer (some p)) (hc : w.cell? p = some v) (hK : K (a.put o.dst (v)) w) : o.wp Try.prog a w K Q := by
  unfold Oper.wp execOp
  simp only [ho, hx]
  go_simp
  exact hK
theorem st_23 {w : World} {a : Act} {K : Act → World → Prop} {Q : Exit → Act → World → Prop} {o : Oper} {x y : Operand} {g p : Nat} {ty : TypeId} {cs : Array Value} {c0a : Option Addr} {c0n c0c : Nat} (ho : o.op = .store 23 x y) (hx : a.eval x = .pointer (some ⟨g, p, none⟩)) (hy : a.eval y = .slice c0a c0n c0c) (hB : Blk w g ty cs) (hp : p + 0 < cs.size) (hK : ∀ v, K (a.put o.dst v) (w.setCell ⟨g, p, none⟩ (.slice c0a c0n c0c))) : o.wp Try.prog a w K Q := by
  have h0 := (hB.cell (p)).trans (Array.getElem?_eq_getElem (by first | omega | (simp; omega)))
  have f0 := hB.frozen (p)
  clear hB
  unfold Oper.wp execOp
  simp only [ho, hx, hy]
  go_simp
  exact hK _
theorem len_76 {w : World} {a : Act} {K : Act → World → Prop} {Q : Exit → Act → World → Prop} {o : Oper} {x : Operand} {r : Option Addr} {n c : Nat} (ho : o.op = .call { callee := .builtin .len, args := #[x], argTypes := #[76] }) (hx : a.eval x = .slice r n c) (hK : K (a.put o.dst (.int .i64 n)) w) : o.wp Try.prog a w K Q := by
  unfold Oper.wp execOp
  simp only [ho, resolve, List.map_toArray, List.map_cons, List.map_nil, hx]
  go_simp
  exact hK
theorem ix_76 {w : World} {a : Act} {K : Act → World → Prop} {Q : Exit → Act → World → Prop} {o : Oper} {x y : Operand} {r : Option Addr} {b p n c k : Nat} (ho : o.op = .indexAddr 76 x y) (hx : a.eval x = .slice r n c) (hr : r = some ⟨b, p, none⟩) (hy : a.eval y = .int .i64 (k : Int)) (hk : k < n) (hK : K (a.put o.dst (.pointer (some ⟨b, p + k, none⟩))) w) : o.wp Try.prog a w K Q := by
  subst hr
  have h0 : (0 : Int) ≤ (k : Int) := by omega
  have h1 : (k : Int) < (n : Int) := by omega
  unfold Oper.wp execOp
  simp only [ho, hx, hy]
  go_simp
  exact hK
theorem row_76_1 {w : World} {a : Act} {K : Act → World → Prop} {Q : Exit → Act → World → Prop} {o : Oper} {x0 : Operand} {c0 : Int} (ho : o.op = .buildSlice 76 1 #[(0, x0)]) (h0 : a.eval x0 = .int .i64 c0) (hK : K (a.put o.dst (.slice (some ⟨w.heap.size, 0, none⟩) 1 1)) (w.alloc (.cells #[.int .i64 c0] 3))) : o.wp Try.prog a w K Q := by
  unfold Oper.wp execOp
  simp only [ho, List.map_toArray, List.map_cons, List.map_nil, h0]
  go_simp
  exact hK
theorem app_76 {w : World} {a : Act} {K : Act → World → Prop} {Q : Exit → Act → World → Prop} {o : Oper} {s x : Operand} {n m rc : Nat} {S : Nat → Prop} {ra : Option Addr} {y : Value} {xs news : List Value} (ho : o.op = .call { callee := .builtin .append, args := #[s, x], argTypes := #[76, 76] }) (hs : a.eval s = .slice ra n rc) (hx : a.eval x = y) (hown : Own w S 3 1 ra rc n xs) (hsrc : SrcIs w y m news) (hl : news.length = m * 1) (h1 : ∀ u ∈ news, u.oneCell' = true)
    (hb : (n + m) * 8 ≤ 140737488355328) (hn : n + m ≤ 9223372036854775807) (hS : S w.heap.size) (hK : ∀ ra rc w', Own w' S 3 1 ra rc (n + m) (xs ++ news) → Chg S w w' → K (a.put o.dst (.slice ra (n + m) rc)) w') : o.wp Try.prog a w K Q :=
  wp_own Try.underlying76 (z := .int .i64 0) (size := 1) (bytes := 8) (by kernel_rfl) rfl (by decide) ho hs hx hown hsrc hl h1 hb hn hS hK

end Go.Proofs.Ytgechlgdnnpoeaa

/- Regions in whatever order in which a row grows by append and is then given to a variable ('l = append(l, f(..))'). -/
namespace Go.Proofs.Ytgechlgdnnpoeaa
open Go.RowKit Go

section
variable {P : Program} {ops : Array Oper}
structure CtxH (ops : Array Oper) (chain : List Nat) (R : Nat → Value → World → Prop) (G : List (Option Value) → World → Prop) (n : Fr) (K Ke : Known) (i : Nat) (o : Oper) (a : Act) (w : World) (vs : List (Option Value)) : Prop where
  now : G vs w
  kn : Kn n K a
  dep : ∀ j d, depB ops o j d = true → chain.contains j = false → R j (a.tmps.getD d undef) w
  len : vs.length = chain.length
  link : ∀ (p c d : Nat), chain[p]? = some c → depB ops o c d = true → vs[p]? = some (some (a.tmps.getD d undef))
  done : ∀ (p c : Nat), chain[p]? = some c → o.after.any (fun e => e.on == c && Region.binds .any e) = true → ∃ v, vs[p]? = some (some v)
  most : ∀ (p c : Nat), chain[p]? = some c → afterB ops c i = true → vs[p]? = some none
  mostT : ∀ (p c : Nat), chain[p]? = some c → (ancL ops c).contains i = true → vs[p]? = some none
  old : ∀ d v, look Ke d = some v → (∀ c, (ops[c]?).bind (·.dst) = some d → (ancL ops c).contains i = true) → a.tmps.getD d undef = v

def SoundH (P : Program) (ops : Array Oper) (Q : Exit → Act → World → Prop) (chain : List Nat) (R : Nat → Value → World → Prop) (Le : World → World → Prop) (G : List (Option Value) → World → Prop) (n : Fr) (K Ke : Known) (i : Nat) (o : Oper) : Prop :=
  (chain.contains i = false ∧ ∃ β, GuardIs R o β ∧ (∀ g b, o.guard = some (g, b) → chain.contains g = false) ∧ (β = false → ∀ w, R i undef w) ∧
    (β = true → ∀ (a : Act) (w : World) (vs : List (Option Value)), CtxH ops chain R G n K Ke i o a w vs →
      o.wpIn (fen n.r) 0 P a w (fun a' w' => ∃ v, a' = Act.put a o.dst v ∧ Le w w' ∧ G vs w' ∧ R i v w') Q)) ∨
  (∃ p, chain[p]? = some i ∧ o.guard = none ∧ ∀ (a : Act) (w : World) (vs : List (Option Value)), CtxH ops chain R G n K Ke i o a w vs → vs[p]? = some none →
      o.wpIn (fen n.r) 0 P a w (fun a' w' => ∃ v, a' = Act.put a o.dst v ∧ Le w w' ∧ G (vs.set p (some v)) w') Q)

def SoundFromH (P : Program) (ops : Array Oper) (Q : Exit → Act → World → Prop) (chain : List Nat) (R : Nat → Value → World → Prop) (Le : World → World → Prop) (G : List (Option Value) → World → Prop) (n : Fr) (K Ke : Known) : Nat → List Oper → Prop
  | _, [] => True
  | k, o :: r => SoundH P ops Q chain R Le G n K Ke k o ∧ SoundFromH P ops Q chain R Le G n K Ke (k + 1) r

theorem SoundFromH.at_ {Q : Exit → Act → World → Prop} {chain : List Nat} {R : Nat → Value → World → Prop} {Le : World → World → Prop} {G : List (Option Value) → World → Prop} {n : Fr} {K Ke : Known} : ∀ {l : List Oper} {k : Nat}, SoundFromH P ops Q chain R Le G n K Ke k l → ∀ i o, l[i]? = some o → SoundH P ops Q chain R Le G n K Ke (k + i) o
  | [], _, _, i, o, h => by simp at h
  | x :: r, k, h, 0, o, ho => by simp at ho; subst ho; exact h.1
  | x :: r, k, h, i + 1, o, ho => by
    have := h.2.at_ i o (by simpa using ho)
    rwa [show k + 1 + i = k + (i + 1) by omega] at this

structure AtH (ops : Array Oper) (chain : List Nat) (R : Nat → Value → World → Prop) (G : List (Option Value) → World → Prop) (n : Fr) (K Ke : Known) (listed : Array Bool) (a : Act) (vs : List (Option Value)) (w : World) : Prop where
  size : listed.size = ops.size
  kn : Kn n K a
  plain : ∀ i d, chain.contains i = false → listed.getD i false = true → (ops[i]?).bind (·.dst) = some d → R i (a.tmps.getD d undef) w
  link : ∀ p c : Nat, chain[p]? = some c → (listed.getD c false = true ↔ ∃ v, vs[p]? = some (some v))
  vals : ∀ (p c d : Nat), chain[p]? = some c → listed.getD c false = true → (ops[c]?).bind (·.dst) = some d → vs[p]? = some (some (a.tmps.getD d undef))
  len : vs.length = chain.length
  closed : ∀ i o, ops[i]? = some o → listed.getD i false = true → ∀ e ∈ o.after, Region.binds .any e = true → listed.getD e.on false = true
  now : G vs w
  old : ∀ d v, look Ke d = some v → (∀ c, (ops[c]?).bind (·.dst) = some d → listed.getD c false = false) → a.tmps.getD d undef = v

theorem wp_any_genH {Q : Exit → Act → World → Prop} {n : Fr} {K Ke : Known} (chain : List Nat) (R : Nat → Value → World → Prop) (Le : World → World → Prop) (G : List (Option Value) → World → Prop)
    (hB : opsB ops n.n = true) (hnd : chain.Nodup) (hin : (chain.all fun c => Nat.blt c ops.size) = true) (hclear : clearB ops K = true)
    (hR : ∀ i v w w', R i v w → Le w w' → R i v w')
    (h : SoundFromH P ops Q chain R Le G n K Ke 0 ops.toList)
    (hQ : ∀ (a : Act) (w : World) (vs : List (Option Value)), Kn n K a → vs.length = chain.length → (∀ p, p < chain.length → ∃ v, vs[p]? = some (some v)) → G vs w → (∀ i d, (ops[i]?).bind (·.dst) = some d → chain.contains i = false → R i (a.tmps.getD d undef) w) → (∀ (p c d : Nat), chain[p]? = some c → (ops[c]?).bind (·.dst) = some d → vs[p]? = some (some (a.tmps.getD d undef))) → Q .normal a w) :
    ∀ (a0 : Act) (w0 : World), Kn n K a0 → Kn n Ke a0 → G (List.replicate chain.length none) w0 → wpAnyIn (fen n.r) 0 P .any ops Q ops.size (Array.replicate ops.size false) a0 w0 := by
  have main : ∀ (fuel : Nat) (listed : Array Bool) (a : Act) (vs : List (Option Value)) (w : World), listed.toList.count false ≤ fuel → AtH ops chain R G n K Ke listed a vs w →
      wpAnyIn (fen n.r) 0 P .any ops Q fuel listed a w := by
    intro fuel
    have done : ∀ (listed : Array Bool) (a : Act) (vs : List (Option Value)) (w : World), Region.ready .any ops listed = [] → AtH ops chain R G n K Ke listed a vs w → Q .normal a w := by
      intro listed a vs w hr H
      have all : ∀ i, i < ops.size → listed.getD i false = true := fun i hi => by
        have := ready_nil hB H.size hr i hi
        have hs := H.size
        simpa [Array.getD, show i < listed.size by omega] using this
      have hin' : ∀ p c, chain[p]? = some c → c < ops.size := fun p c hc => by
        have := List.all_eq_true.1 hin _ (List.mem_of_getElem? hc)
        simpa [Nat.blt_eq] using this
      have lt_of : ∀ i d, (ops[i]?).bind (·.dst) = some d → i < ops.size := fun i d hd => by
        rcases Nat.lt_or_ge i ops.size with h | h
        · exact h
        · simp [Array.getElem?_eq_none h] at hd
      exact hQ a w vs H.kn H.len (fun p hp => (H.link p chain[p] (by simp [hp])).1 (all _ (hin' p _ (by simp [hp])))) H.now (fun i d hd hc => H.plain i d hc (all i (lt_of i d hd)) hd) (fun p c d hc hd => H.vals p c d hc (all c (hin' p c hc)) hd)
    induction fuel with
    | zero =>
      intro listed a vs w hc H
      have hr : Region.ready .any ops listed = [] := by
        cases hr : Region.ready .any ops listed with
        | nil => rfl
        | cons i r =>
          have := (mem_ready (md := .any) (ops := ops) (j := i) (listed := listed)).1 (by rw [hr]; simp)
          rw [count_zero hc i] at this
          simp at this
      exact ⟨hr, done listed a vs w hr H⟩
    | succ fuel ih =>
      intro listed a vs w hc H
      refine ⟨fun hr => done listed a vs w hr H, fun i hi => ?_⟩
      obtain ⟨hun, o, ho, haf⟩ := mem_ready.1 hi
      have hilt : i < ops.size := by
        rcases Nat.lt_or_ge i ops.size with h | h
        · exact h
        · simp [Array.getElem?_eq_none h] at ho
      have hils : i < listed.size := by have := H.size; omega
      have hun' := getD_false_of hun
      have ok := opsB_spec hB ho
      have hs2 := h.at_ i o (by simpa using ho)
      rw [Nat.zero_add] at hs2
      have after_of : ∀ j d, depB ops o j d = true → listed.getD j false = true ∧ (ops[j]?).bind (·.dst) = some d := by
        intro j d hj
        simp only [depB, Bool.and_eq_true, Array.any_eq_true, beq_iff_eq] at hj
        obtain ⟨⟨k, hk, h1, h2⟩, h3⟩ := hj
        exact ⟨h1 ▸ haf _ (Array.getElem_mem hk) h2, h3⟩
      have ctx : CtxH ops chain R G n K Ke i o a w vs := by
        have opt : ∀ p c, chain[p]? = some c → listed.getD c false = false → vs[p]? = some none := fun p c hc hl => by
          have hp : p < vs.length := by rw [H.len]; exact (List.getElem?_eq_some_iff.1 hc).1
          rw [List.getElem?_eq_getElem hp]
          cases hx : vs[p] with
          | none => rfl
          | some v =>
            have := (H.link p c hc).2 ⟨v, by rw [List.getElem?_eq_getElem hp, hx]⟩
            rw [hl] at this; cases this
        refine ⟨H.now, H.kn, fun j d hj hc => H.plain j d hc (after_of j d hj).1 (after_of j d hj).2, H.len, fun p c d hc hj => H.vals p c d hc (after_of c d hj).1 (after_of c d hj).2, fun p c hc ha => ?_, fun p c hc ha => opt p c hc ?_, fun p c hc ha => opt p c hc ?_, fun d v hd hc => H.old d v hd fun c hcd => ?_⟩
        · simp only [Array.any_eq_true, Bool.and_eq_true, beq_iff_eq] at ha
          obtain ⟨k, hk, h1, h2⟩ := ha
          exact (H.link p c hc).1 (h1 ▸ haf _ (Array.getElem_mem hk) h2)
        · cases hl : listed.getD c false with
          | false => rfl
          | true =>
            exfalso
            unfold afterB at ha
            split at ha
            · rename_i oc hoc
              simp only [Array.any_eq_true, Bool.and_eq_true, beq_iff_eq] at ha
              obtain ⟨k, hk, h1, h2⟩ := ha
              have := H.closed c oc hoc hl _ (Array.getElem_mem hk) h2
              rw [h1, hun'] at this
              cases this
            · cases ha
        · cases hl : listed.getD c false with
          | false => rfl
          | true =>
            exfalso
            have := anc_listed H.closed hl i (by simpa using ha)
            rw [hun'] at this
            cases this
        · cases hl : listed.getD c false with
          | false => rfl
          | true =>
            exfalso
            have := anc_listed H.closed hl i (by simpa using hc c hcd)
            rw [hun'] at this
            cases this
      unfold wpOpIn
      simp only [ho]
      -- what is behind a step
      have step : ∀ (v : Value) (vs' : List (Option Value)) (w' : World), (∀ j u, R j u w → R j u w') → G vs' w' → (∀ d, o.dst = some d → chain.contains i = false → R i v w') →
          ((chain.contains i = false ∧ vs' = vs) ∨ (∃ p, chain[p]? = some i ∧ vs' = vs.set p (some v))) →
          wpAnyIn (fen n.r) 0 P .any ops Q fuel (listed.setIfInBounds i true) (Act.put a o.dst v) w' := by
        intro v vs' w' hle hG hRi hvs
        have hc' := count_set (l := listed) hils hun hc
        have hset : ∀ j, (listed.setIfInBounds i true).getD j false = true ↔ j = i ∨ listed.getD j false = true := by
          intro j
          by_cases hj : j = i
          · subst hj; simp [getD_set_eq hils]
          · rw [getD_set_ne false (Ne.symm hj)]; simp [hj]
        have hother : ∀ j k, j ≠ i → (ops[j]?).bind (·.dst) = some k → (Act.put a o.dst v).tmps.getD k undef = a.tmps.getD k undef := by
          intro j k hji hjk
          refine act_put_other (fun hd => ?_)
          have hjlt : j < ops.size := by
            rcases Nat.lt_or_ge j ops.size with h | h
            · exact h
            · simp [Array.getElem?_eq_none h] at hjk
          exact hji (ok.own k j hd hjlt hjk).symm
        have hself : ∀ d, (ops[i]?).bind (·.dst) = some d → (Act.put a o.dst v).tmps.getD d undef = v := by
          intro d hd
          rw [ho] at hd
          simp only [Option.bind_some] at hd
          rw [hd]
          exact act_put_self (by rw [H.kn.size]; exact ok.lt d hd)
        refine ih _ _ vs' w' hc' ⟨by simpa using H.size, H.kn.put_clear (fun k hk => clearB_look hclear (mem_dsts ho hk)) v, fun j d hjc hj hjd => ?_, fun p c hpc => ?_, fun p c d hpc hp hcd => ?_, ?_, fun j oj hoj hj e he hb => ?_, hG, fun d u hd hc => ?_⟩
        · by_cases hji : j = i
          · subst hji
            rw [hself d hjd]
            rw [ho] at hjd
            exact hRi d hjd hjc
          · rw [hother j d hji hjd]
            exact hle _ _ (H.plain j d hjc (((hset j).1 hj).resolve_left hji) hjd)
        · rw [hset]
          rcases hvs with ⟨hci, rfl⟩ | ⟨q, hq, rfl⟩
          · have : c ≠ i := by
              rintro rfl
              have := List.mem_of_getElem? hpc
              simp [this] at hci
            exact ⟨fun h => (H.link p c hpc).1 (h.resolve_left this), fun h => .inr ((H.link p c hpc).2 h)⟩
          · have hpl : q < vs.length := by rw [H.len]; exact (List.getElem?_eq_some_iff.1 hq).1
            by_cases hpq : p = q
            · subst hpq
              rw [hq] at hpc
              simp only [Option.some.injEq] at hpc
              subst hpc
              exact ⟨fun _ => ⟨v, by rw [List.getElem?_set_self hpl]⟩, fun _ => .inl rfl⟩
            · have hci : c ≠ i := by
                rintro rfl
                exact hpq ((List.getElem?_inj (List.getElem?_eq_some_iff.1 hpc).1 hnd).1 (hpc.trans hq.symm))
              rw [List.getElem?_set_ne (Ne.symm hpq)]
              exact ⟨fun h => (H.link p c hpc).1 (h.resolve_left hci), fun h => .inr ((H.link p c hpc).2 h)⟩
        · rcases hvs with ⟨hci, rfl⟩ | ⟨q, hq, rfl⟩
          · have hne : c ≠ i := by
              rintro rfl
              have := List.mem_of_getElem? hpc
              simp [this] at hci
            rw [hother c d hne hcd]
            exact H.vals p c d hpc (((hset c).1 hp).resolve_left hne) hcd
          · have hpl : q < vs.length := by rw [H.len]; exact (List.getElem?_eq_some_iff.1 hq).1
            by_cases hpq : p = q
            · subst hpq
              rw [hq] at hpc
              simp only [Option.some.injEq] at hpc
              subst hpc
              rw [hself d hcd, List.getElem?_set_self hpl]
            · have hne : c ≠ i := by
                rintro rfl
                exact hpq ((List.getElem?_inj (List.getElem?_eq_some_iff.1 hpc).1 hnd).1 (hpc.trans hq.symm))
              rw [hother c d hne hcd, List.getElem?_set_ne (Ne.symm hpq)]
              exact H.vals p c d hpc (((hset c).1 hp).resolve_left hne) hcd
        · rcases hvs with ⟨hci, rfl⟩ | ⟨q, hq, rfl⟩
          · exact H.len
          · rw [List.length_set]; exact H.len
        · rw [hset]
          by_cases hji : j = i
          · subst hji
            rw [ho] at hoj
            simp only [Option.some.injEq] at hoj
            subst hoj
            exact .inr (haf e he hb)
          · exact .inr (H.closed j oj hoj (((hset j).1 hj).resolve_left hji) e he hb)
        · have hne : o.dst ≠ some d := fun e => by
            have := hc i (by rw [ho]; exact e)
            rw [(hset i).2 (.inl rfl)] at this
            cases this
          rw [act_put_other hne]
          refine H.old d u hd fun c hcd => ?_
          cases hl : listed.getD c false with
          | false => rfl
          | true => have := hc c hcd; rw [(hset c).2 (.inr hl)] at this; cases this
      rcases hs2 with ⟨hci, β, hg, hgc, hs1, hs2⟩ | ⟨p, hp, hgn, hs2⟩
      · have hwant : Region.wanted o (yielded ops a.tmps) = β := by
          have known : ∀ g c d b, o.guard = some (g, b) → (∀ v w, R g v w → (d = true → v = .bool c) ∧ (d = false → v = undef)) → yielded ops a.tmps g = if d then some c else none := by
            intro g c dd b hgb hv
            obtain ⟨⟨e, he, h1, h2⟩, d, hd⟩ := ok.guard g b hgb
            have hv := hv (a.tmps.getD d undef) w (H.plain g d (hgc g b hgb) (h1 ▸ haf e he h2) hd)
            have hdlt : d < a.tmps.size := by
              obtain ⟨og, hog, hgd⟩ := Option.bind_eq_some_iff.1 hd
              rw [H.kn.size]
              exact (opsB_spec hB hog).lt d hgd
            unfold yielded
            rw [hd]
            simp only [Array.getD_eq_getD_getElem?, Array.getElem?_eq_getElem hdlt, Option.getD_some] at hv
            cases dd with
            | true => simp [hdlt, hv.1 rfl]
            | false => simp [hdlt, hv.2 rfl, undef]
          cases hg with
          | none h => unfold Region.wanted; rw [h]
          | @yes g c d h hv => have := known _ _ _ _ h hv; unfold Region.wanted; rw [h]; simp only [this]; cases d <;> simp
          | @no g c d h hv => have := known _ _ _ _ h hv; unfold Region.wanted; rw [h]; simp only [this]; cases d <;> cases c <;> simp
        cases hβ : β with
        | false =>
          rw [hβ] at hwant
          simp only [hwant, Bool.false_eq_true, if_false]
          refine ⟨fun f _ => fen_fn _ f, ?_⟩
          exact step undef vs w (fun _ _ h => h) H.now (fun _ _ _ => hs1 hβ w) (.inl ⟨hci, rfl⟩)
        | true =>
          rw [hβ] at hwant
          simp only [hwant, if_true]
          refine Oper.wpIn_mono ?_ (hs2 hβ a w vs ctx)
          rintro a' w' ⟨v, rfl, hle, hG, hRi⟩
          exact step v vs w' (fun j u hj => hR j u _ _ hj hle) hG (fun _ _ _ => hRi) (.inl ⟨hci, rfl⟩)
      · have hwant : Region.wanted o (yielded ops a.tmps) = true := by unfold Region.wanted; rw [hgn]
        have hnone : vs[p]? = some none := by
          have hp' : p < vs.length := by rw [H.len]; exact (List.getElem?_eq_some_iff.1 hp).1
          rw [List.getElem?_eq_getElem hp']
          cases hx : vs[p] with
          | none => rfl
          | some v =>
            have := (H.link p i hp).2 ⟨v, by rw [List.getElem?_eq_getElem hp', hx]⟩
            rw [hun'] at this; cases this
        simp only [hwant, if_true]
        refine Oper.wpIn_mono ?_ (hs2 a w vs ctx hnone)
        rintro a' w' ⟨v, rfl, hle, hG⟩
        have hcc : chain.contains i = true := by
          have := List.mem_of_getElem? hp
          simpa using this
        exact step v (vs.set p (some v)) w' (fun j u hj => hR j u _ _ hj hle) hG (fun _ _ h => by rw [hcc] at h; cases h) (.inr ⟨p, hp, rfl⟩)
  intro a0 w0 hk0 hke h0
  have nothing' : ∀ i, (Array.replicate ops.size false).getD i false = false := fun i => by
    by_cases h : i < ops.size <;> simp [Array.getD, h]
  refine main _ _ _ (List.replicate chain.length none) _ (by simp) ⟨by simp, hk0, fun i d _ hi => ?_, fun p c hpc => ?_, fun p c d _ hp => ?_, by simp, fun i o _ hi => ?_, h0, fun d v hd _ => hke.knows d v hd⟩
  · rw [nothing'] at hi; cases hi
  · rw [nothing']
    refine ⟨fun h => (by cases h), fun ⟨v, hv⟩ => ?_⟩
    have hp := (List.getElem?_eq_some_iff.1 hpc).1
    simp [hp] at hv
  · rw [nothing'] at hp; cases hp
  · rw [nothing'] at hi; cases hi

/-- The law: of what is known of the frame 'K0' is what the region does not write. -/
theorem WC.genH {id : Nat} {dr : Bool} {Q : Exit → Act → World → Prop} {n : Fr} {K : Known} {w : World} (chain : List Nat) (R : Nat → Value → World → Prop) (Le : World → World → Prop) (G : List (Option Value) → World → Prop) (K0 : Known)
    (hs : subK K0 K) (hclear : clearB ops K0 = true) (hm : P.follows .mixedOrders = true) (hB : opsB ops n.n = true) (hnd : chain.Nodup) (hin : (chain.all fun c => Nat.blt c ops.size) = true)
    (hR : ∀ i v w w', R i v w → Le w w' → R i v w') (h0 : G (List.replicate chain.length none) (bif dr then w.drew else w))
    (h : SoundFromH P ops Q chain R Le G n K0 K 0 ops.toList)
    (hQ : ∀ (a : Act) (w : World) (vs : List (Option Value)), Kn n K0 a → vs.length = chain.length → (∀ p, p < chain.length → ∃ v, vs[p]? = some (some v)) → G vs w → (∀ i d, (ops[i]?).bind (·.dst) = some d → chain.contains i = false → R i (a.tmps.getD d undef) w) → (∀ (p c d : Nat), chain[p]? = some c → (ops[c]?).bind (·.dst) = some d → vs[p]? = some (some (a.tmps.getD d undef))) → Q .normal a w) :
    WC P n K w (.region id ops dr) Q := by
  intro a ha
  have main := wp_any_genH (Ke := K) chain R Le G hB hnd hin hclear hR h hQ a
  cases dr with
  | true => exact wpIn_region_any hm (main _ (ha.sub hs) ha h0)
  | false => exact any_start hB (main _ (ha.sub hs) ha h0)
end

section
variable {P : Program} {ops : Array Oper} {S : Nat → Prop}
/-- That slot 'd' is not written yet. -/
def earlyB (ops : Array Oper) (i d : Nat) : Bool := (List.range ops.size).all fun c => !((ops[c]?).bind (·.dst) == some d) || (ancL ops c).contains i
theorem earlyB_of {ops : Array Oper} {i d : Nat} (h : earlyB ops i d = true) : ∀ c, (ops[c]?).bind (·.dst) = some d → (ancL ops c).contains i = true := fun c hc => by
  have hlt : c < ops.size := by
    rcases Nat.lt_or_ge c ops.size with h | h
    · exact h
    · simp [Array.getElem?_eq_none h] at hc
  have := List.all_eq_true.1 h c (List.mem_range.2 hlt)
  simpa [hc] using this
structure CtxA3 (ops : Array Oper) (l : List (Bool × SpS S)) (chain : List Nat) (first : Nat) (n : Fr) (K Ke : Known) (w0 : World) (i : Nat) (o : Oper) (a : Act) (w : World) : Prop extends CtxA ops l chain first n K w0 i o a w where
  old : ∀ d v, look Ke d = some v → earlyB ops i d = true → a.tmps.getD d undef = v
def Tail3 (P : Program) (ops : Array Oper) (Q : Exit → Act → World → Prop) (l : List (Bool × SpS S)) (n : Fr) (K Ke : Known) (w0 : World) (p q N : Nat) (GA : Option Addr → Nat → World → Prop) : Nat → List Oper → Prop
  | _, [] => True
  | i, o :: r => (([p, q].contains i = false ∧ ∃ β, GuardIs (optS l) o β ∧ (∀ g b, o.guard = some (g, b) → [p, q].contains g = false) ∧ (β = false → ∀ w, optS l i undef w) ∧
      (β = true → ∀ a w, CtxA3 ops l [p, q] p n K Ke w0 i o a w → o.wp P a w (fun a' w' => ∃ v, a' = Act.put a o.dst v ∧ Below w.heap.size w w' ∧ optS l i v w') Q)) ∨
    (i = p ∧ o.guard = none ∧ ∀ a w, CtxB ops l [p, q] n K w0 o a w → o.wp P a w (fun a' w' => ∃ ra rc, a' = Act.put a o.dst (.slice ra N rc) ∧ GA ra rc w' ∧ Chg S w w') Q) ∨
    (i = q ∧ o.guard = none ∧ ∃ d, depB ops o p d = true ∧ o.op = .assign (.tmp d))) ∧ Tail3 P ops Q l n K Ke w0 p q N GA (i + 1) r
def G3 (S : Nat → Prop) (w0 : World) (N : Nat) (GA : Option Addr → Nat → World → Prop) : List (Option Value) → World → Prop
  | [none, none], w => Below w0.heap.size w0 w
  | [some v, none], w => ∃ ra rc, v = .slice ra N rc ∧ GA ra rc w ∧ Chg S w0 w
  | [some v, some u], w => ∃ ra rc, v = .slice ra N rc ∧ u = .slice ra N rc ∧ GA ra rc w ∧ Chg S w0 w
  | _, _ => False
theorem G3.chg {w0 w : World} {N : Nat} {GA : Option Addr → Nat → World → Prop} : ∀ {vs : List (Option Value)}, G3 S w0 N GA vs w → Chg S w0 w
  | [none, none], h => .ofBelow h
  | [some _, none], h => by obtain ⟨_, _, _, _, h⟩ := h; exact h
  | [some _, some _], h => by obtain ⟨_, _, _, _, _, h⟩ := h; exact h
  | [none, some _], h => h.elim
  | [], h => h.elim
  | [x], h => by cases x <;> exact h.elim
  | _ :: _ :: _ :: _, h => by simp [G3] at h
theorem Tail3.gen {Q : Exit → Act → World → Prop} {l : List (Bool × SpS S)} {n : Fr} {K Ke : Known} {w0 : World} {p q N : Nat} {GA : Option Addr → Nat → World → Prop} (hpq : p ≠ q) (hGA : ∀ ra rc w w', Below w.heap.size w w' → GA ra rc w → GA ra rc w') : ∀ {lo : List Oper} {i : Nat}, Tail3 P ops Q l n K Ke w0 p q N GA i lo →
    SoundFromH P ops Q [p, q] (optS l) (Chg S) (G3 S w0 N GA) n K Ke i lo
  | [], _, _ => trivial
  | o :: r, i, ⟨h, hr⟩ => by
    refine ⟨?_, hr.gen hpq hGA⟩
    rcases h with ⟨hi, β, h1, h2, h3, h4⟩ | ⟨rfl, hg, h4⟩ | ⟨rfl, hg, d, hd, ho⟩
    · refine .inl ⟨hi, β, h1, h2, h3, fun hβ a w vs C => ?_⟩
      refine Oper.wpIn_mono ?_ (wpIn_of (h4 hβ a w ⟨⟨C.now.chg, C.kn, C.dep, fun he => ?_⟩, fun d v hd hb => C.old d v hd (earlyB_of hb)⟩) (by rintro a' w' ⟨v, rfl, _⟩; exact put_defers _ _ _))
      · rintro a' w' ⟨v, rfl, hb, hR⟩
        refine ⟨v, rfl, .ofBelow hb, ?_, hR⟩
        match vs, C.len, C.now with
        | [none, none], _, h => exact bstep h hb
        | [some _, none], _, ⟨ra, rc, e, h, hc⟩ => exact ⟨ra, rc, e, hGA _ _ _ _ hb h, hc.trans (.ofBelow hb)⟩
        | [some _, some _], _, ⟨ra, rc, e, e2, h, hc⟩ => exact ⟨ra, rc, e, e2, hGA _ _ _ _ hb h, hc.trans (.ofBelow hb)⟩
        | [none, some _], _, h => exact h.elim
      · have := C.mostT 0 p rfl he
        match vs, C.len, C.now, this with
        | [none, none], _, h, _ => exact h
        | [none, some _], _, h, _ => exact h.elim
    · refine .inr ⟨0, rfl, hg, fun a w vs C hn => ?_⟩
      match vs, C.len, C.now, hn, C with
      | [none, none], _, h, _, C =>
        refine Oper.wpIn_mono ?_ (wpIn_of (h4 a w ⟨h, C.kn, C.dep⟩) (by rintro a' w' ⟨_, _, rfl, _⟩; exact put_defers _ _ _))
        rintro a' w' ⟨ra, rc, rfl, hG, hc⟩
        exact ⟨_, rfl, hc, ra, rc, rfl, hG, (Chg.ofBelow h).trans hc⟩
      | [none, some _], _, h, _, _ => exact h.elim
    · refine .inr ⟨1, rfl, hg, fun a w vs C hn => ?_⟩
      have hl := C.link 0 p d rfl hd
      match vs, C.len, C.now, hn, hl, C with
      | [some v, none], _, ⟨ra, rc, e, h, hc⟩, _, hl, C =>
        have hv : v = a.tmps.getD d undef := by simpa using hl
        refine Oper.wpIn_mono ?_ (wpIn_of (K := fun a' w' => a' = Act.put a o.dst (.slice ra N rc) ∧ w' = w) (wp_assign ho (show a.tmps.getD d undef = .slice ra N rc from (hv ▸ e)) ⟨rfl, rfl⟩) (by rintro a' w' ⟨rfl, _⟩; exact put_defers _ _ _))
        rintro a' w' ⟨rfl, rfl⟩
        exact ⟨_, rfl, .refl _ _, ra, rc, e, rfl, h, hc⟩
theorem WC.tail3 {id : Nat} {dr : Bool} {Q : Exit → Act → World → Prop} {n : Fr} {K : Known} {w : World} (l : List (Bool × SpS S)) (K0 : Known) (p q N dp dq : Nat) (GA : Option Addr → Nat → World → Prop) (hpq : p ≠ q) (hGA : ∀ ra rc w w', Below w.heap.size w w' → GA ra rc w → GA ra rc w')
    (hs : subK K0 K) (hclear : clearB ops K0 = true) (hm : P.follows .mixedOrders = true) (hB : opsB ops n.n = true) (hin : ([p, q].all fun c => Nat.blt c ops.size) = true) (hdp : (ops[p]?).bind (·.dst) = some dp) (hdq : (ops[q]?).bind (·.dst) = some dq)
    (h : Tail3 P ops Q l n K0 K w p q N GA 0 ops.toList)
    (hQ : ∀ (a : Act) (w' : World) (ra : Option Addr) (rc : Nat), Kn n K0 a → a.tmps.getD dp undef = .slice ra N rc → a.tmps.getD dq undef = .slice ra N rc → GA ra rc w' → Chg S w w' → (∀ i d, (ops[i]?).bind (·.dst) = some d → [p, q].contains i = false → optS l i (a.tmps.getD d undef) w') → Q .normal a w') :
    WC P n K w (.region id ops dr) Q := by
  refine WC.genH [p, q] (optS l) (Chg S) (G3 S w N GA) K0 hs hclear hm hB (by simpa using hpq) hin (optSKeep l) ?_ (h.gen hpq hGA) (fun a w' vs hk hlen hall hG hu hl => ?_)
  · cases dr with
    | true => exact (Below.refl _ _).drew
    | false => exact Below.refl _ _
  · obtain ⟨v, hv⟩ := hall 0 (by simp)
    obtain ⟨u, hu1⟩ := hall 1 (by simp)
    have hx := hl 0 p dp rfl hdp
    have hx2 := hl 1 q dq rfl hdq
    match vs, hlen, hv, hu1, hx, hx2, hG with
    | [some y, some z], _, _, _, hx, hx2, ⟨ra, rc, e, e2, hG, hc⟩ =>
      have hy : y = a.tmps.getD dp undef := by simpa using hx
      have hz : z = a.tmps.getD dq undef := by simpa using hx2
      exact hQ a w' ra rc hk (hy ▸ e) (hz ▸ e2) hG hc hu
end

end Go.Proofs.Ytgechlgdnnpoeaa

namespace Go.Proofs.Ytgechlgdnnpoeaa
open Go.RowKit Go

/-- A binding whose term is new. -/
def BdNew (w0 w : World) (x : Bd) (v : Value) : Prop := ∃ u v', v = .agg #[.int .i64 x.var, u, v'] ∧ I64 x.var ∧ NewT w0 w x.t (.agg #[u, v'])
theorem BdNew.chg {w0 w w' : World} {x : Bd} {v : Value} {S : Nat → Prop} (h : BdNew w0 w x v) (hc : Chg S w w') (hS : ∀ b, S b → b < w0.heap.size) : BdNew w0 w' x v := by
  obtain ⟨u, v', e, h0, h1⟩ := h
  exact ⟨u, v', e, h0, InT.chg h1 hc (fun b hb hs => by have := hS b hs; omega)⟩

def Bd.ap (s : List Bd) (x : Bd) : Bd := ⟨x.var, x.t.app s⟩
def cxr (a b : List Bd) : List Bd := b.filter fun y => (subFind a y.var).isNone
def cx (a b : List Bd) : List Bd := a.map (Bd.ap b) ++ cxr a b
theorem take_ap {s l : List Bd} {k : Nat} (h : k < l.length) : (l.take k).map (Bd.ap s) ++ [(dget l k).ap s] = (l.take (k + 1)).map (Bd.ap s) := by
  rw [List.take_succ_eq_append_getElem h, List.map_append, dget_lt h]; rfl
theorem take_cxr {a b L : List Bd} {k : Nat} (h : k < b.length) (hn : subFind a (dget b k).var = none) : (L ++ cxr a (b.take k)) ++ [dget b k] = L ++ cxr a (b.take (k + 1)) := by
  unfold cxr
  rw [List.take_succ_eq_append_getElem h, List.filter_append, List.append_assoc, dget_lt h]
  rw [dget_lt h] at hn
  simp [hn]
theorem skip_cxr {a b L : List Bd} {k : Nat} {t : T} (h : k < b.length) (hn : subFind a (dget b k).var = some t) : L ++ cxr a (b.take k) = L ++ cxr a (b.take (k + 1)) := by
  unfold cxr
  rw [List.take_succ_eq_append_getElem h, List.filter_append]
  rw [dget_lt h] at hn
  simp [hn]
theorem len_cxr (a b : List Bd) : (cxr a b).length ≤ b.length := List.length_filter_le _ _

theorem subFind_isSome {l : List Bd} {m : Int} : (subFind l m).isSome = true ↔ ∃ b ∈ l, b.var = m := by
  unfold subFind
  rw [Option.isSome_map, List.find?_isSome]
  simp
/-- What is told: in order, and what is itself is left out. -/
structure CompOf (a b R : List Bd) : Prop where
  sorted : R.Pairwise fun x y => x.var < y.var
  mem : ∀ x, x ∈ R ↔ x ∈ cx a b ∧ x.itself = false
theorem sorted_ext : ∀ {l l' : List Bd}, l.Pairwise (fun x y => x.var < y.var) → l'.Pairwise (fun x y => x.var < y.var) → (∀ x, x ∈ l ↔ x ∈ l') → l = l'
  | [], [], _, _, _ => rfl
  | [], y :: r, _, _, h => absurd ((h y).2 (by simp)) (by simp)
  | x :: r, [], _, _, h => absurd ((h x).1 (by simp)) (by simp)
  | x :: r, y :: q, h1, h2, h => by
    obtain ⟨h3, h4⟩ := List.pairwise_cons.1 h1
    obtain ⟨h5, h6⟩ := List.pairwise_cons.1 h2
    have e : x = y := by
      rcases List.mem_cons.1 ((h x).1 (by simp)) with e | hx
      · exact e
      · rcases List.mem_cons.1 ((h y).2 (by simp)) with e | hy
        · exact e.symm
        · have := h5 x hx; have := h3 y hy; omega
    subst e
    congr 1
    refine sorted_ext h4 h6 fun z => ?_
    constructor
    · intro hz
      rcases List.mem_cons.1 ((h z).1 (by simp [hz])) with e | hz'
      · subst e; have := h3 z hz; omega
      · exact hz'
    · intro hz
      rcases List.mem_cons.1 ((h z).2 (by simp [hz])) with e | hz'
      · subst e; have := h5 z hz; omega
      · exact hz'
theorem CompOf.unique {a b R R' : List Bd} (h : CompOf a b R) (h' : CompOf a b R') : R = R' := sorted_ext h.sorted h'.sorted fun x => (h.mem x).trans (h'.mem x).symm

theorem cx_distinct {a b : List Bd} (ha : a.Pairwise fun x y => x.var < y.var) (hb : b.Pairwise fun x y => x.var < y.var) : (cx a b).Pairwise fun x y => x.var ≠ y.var := by
  unfold cx
  refine List.pairwise_append.2 ⟨?_, ?_, ?_⟩
  · rw [List.pairwise_map]
    exact ha.imp fun h e => by simp only [Bd.ap] at e; omega
  · exact (hb.filter _).imp fun h e => by omega
  · intro x hx y hy e
    obtain ⟨x', hx', rfl⟩ := List.mem_map.1 hx
    obtain ⟨_, hy2⟩ := List.mem_filter.1 hy
    have : (subFind a y.var).isSome = true := subFind_isSome.2 ⟨x', hx', e⟩
    rw [Option.isSome_iff_ne_none] at this
    simp at hy2
    exact this hy2
/-- What was sorted, and has lost what is itself, is it. -/
theorem compOf_sorted {a b L : List Bd} (ha : subOk (-1) a = true) (hb : subOk (-1) b = true) (hp : L.Perm (cx a b)) (hs : L.Pairwise fun x y => x.var ≤ y.var) : CompOf a b (L.filter fun x => !x.itself) := by
  have hd := cx_distinct (subOk_sorted a _ ha).2 (subOk_sorted b _ hb).2
  have hd' : L.Pairwise fun x y => x.var ≠ y.var := (hp.pairwise_iff fun h e => h e.symm).2 hd
  refine ⟨?_, fun x => ?_⟩
  · exact ((hs.and hd').imp fun ⟨h1, h2⟩ => by omega).filter _
  · rw [List.mem_filter, hp.mem_iff]; simp

end Go.Proofs.Ytgechlgdnnpoeaa
