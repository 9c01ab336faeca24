/- The walks through what adds symbols. -/
import Derived.Test.YtbnjppmmhhjjbaaDoorSgnSmall
namespace Go.Proofs.YtbnjppmmhhjjbaaDoor
open Go.RowKit Go
set_option linter.unusedVariables false
set_option linter.unusedSimpArgs false

theorem isSys_none {w : World} {l : List Sy} (h : IsSys w l none) : l = [] := by
  cases l with
  | nil => rfl
  | cons x r => obtain ⟨b, o, ha, _⟩ := h.open; have := ha 0 (by simp); cases this
set_option maxRecDepth 100000 in
theorem clone_any (l : List Sy) (w : World) (a : Option Addr) (c : Nat) (hc : l.length ≤ c) (hm : c ≤ maxLen) (hz : l.length ≤ 4294967296) (hl : IsSys w l a) : Calls Tryd.prog 23 #[.slice a l.length c] w (Ret fun v' w' => ∃ ra rc, v' = .slice ra l.length rc ∧ World.ownsRow w' w.heap.size 26 3 (.slice ra l.length rc) l.length (syCells l) ∧ Below w.heap.size w w') := by
  unfold maxLen at hm
  refine Calls.walk (l := [.slice a l.length c]) Tryd.func23 rfl (by kernel_rfl) ?_
  refine WC.sub (K' := [(0, .slice a l.length c)]) ⟨rfl, trivial⟩ ?_
  refine WC.seq ?_
  refine WC.region ?_
  refine WL.val (.slice none 0 0) rfl rfl rfl (fun za zC zh zk => wp_assign rfl (zh.ev rfl) zk) ?_
  refine WL.nil (WE.sub (K' := [(0, .slice a l.length c), (2, .slice none 0 0)]) ⟨rfl, rfl, trivial⟩ ?_)
  refine WE.next ?_
  refine WC.seq ?_
  refine WC.seq ?_
  refine WC.region ?_
  refine WL.val (.slice a l.length c) rfl rfl rfl (fun za zC zh zk => wp_move rfl (zh.ev rfl) zk) ?_
  refine WL.val (.bool a.isNone) rfl rfl rfl (fun za zC zh zk => eqlnil_22 rfl (zh.ev rfl) (zh.ev rfl) zk) ?_
  refine WL.nil (WE.sub (K' := [(0, .slice a l.length c), (2, .slice none 0 0), (4, .bool a.isNone)]) ⟨rfl, rfl, rfl, trivial⟩ ?_)
  refine WE.next ?_
  refine WC.cond rfl (fun h1 => ?_) (fun h1 => ?_)
  · skip
    refine WC.seq ?_
    refine WC.region ?_
    refine WL.val (.slice none 0 0) rfl rfl rfl (fun za zC zh zk => wp_assign rfl (zh.ev rfl) zk) ?_
    refine WL.nil (WE.sub (K' := [(0, .slice a l.length c), (2, .slice none 0 0), (4, .bool a.isNone)]) ⟨rfl, rfl, rfl, trivial⟩ ?_)
    refine WE.next ?_
    refine WC.ret ?_
    refine WE.thenRet ?_
    refine WE.ret1 rfl rfl ?_
    have e : l = [] := isSys_none (by have z := ‹a.isNone = true›; cases a with | none => exact hl | some x => cases z)
    subst e
    exact ⟨_, rfl, none, 0, rfl, World.ownsRow_nil _ _ _ _, (Below.refl _ _)⟩
  · skip
    refine WC.skip ?_
    refine WE.next ?_
    refine WC.seq ?_
    refine WC.region ?_
    refine WL.step (post := NewRow w 26 #[] 0) rfl rfl rfl (fun za zC zh zk => row_22_0 rfl  (zk _ _ (newRow _ _ _ _))) ?_
    rintro _ w2 ⟨g3, rfl, hg4, hB5, hb6, hz7⟩
    have hl8 : w.heap.size ≤ g3 := by omega
    have hr9 : Own w2 (fun b => w.heap.size ≤ b) 26 3 (some ⟨g3, 0, none⟩) 0 0 [] := own_empty hB5 (by (try dsimp only at *); omega)
    refine WL.val (.slice a l.length c) rfl rfl rfl (fun za zC zh zk => wp_move rfl (zh.ev rfl) zk) ?_
    refine WL.step (post := fun v w' => ∃ ra rc, v = .slice ra (0 + l.length) rc ∧ Own w' (fun b => w.heap.size ≤ b) 26 3 ra rc (0 + l.length) ([] ++ (syCells l)) ∧ Chg (fun b => w.heap.size ≤ b) w2 w') rfl rfl rfl (fun za zC zh zk => app_22 (S := (fun b => w.heap.size ≤ b)) (xs := []) (news := (syCells l)) rfl (zh.ev rfl) (zh.ev rfl) hr9 (SrcIs.ofSys (IsSys.below hb6 hl)) (syCells_len _) (syCells_oneCell _) (by omega) (by omega) (by have z1 := hb6.size; (try dsimp only at *); omega) (fun ra rc w' h1 h2 => zk _ _ ⟨ra, rc, rfl, h1, h2⟩)) ?_
    rintro _ w10 ⟨ra11, rc12, rfl, hr13, hc14⟩
    have hb15 := chg_below hb6 hc14 (fun b hb => (by (try dsimp only at *); omega))
    refine WL.val (.slice ra11 ((0 + l.length)) rc12) rfl rfl rfl (fun za zC zh zk => wp_assign rfl (zh.ev rfl) zk) ?_
    refine WL.nil (WE.sub (K' := [(0, .slice a l.length c), (2, .slice ra11 ((0 + l.length)) rc12), (4, .bool a.isNone)]) ⟨rfl, rfl, rfl, trivial⟩ ?_)
    refine WE.next ?_
    refine WC.ret ?_
    refine WE.ret1 rfl rfl ?_
    refine ⟨_, rfl, ra11, rc12, by rw [Nat.zero_add], ?_, hb15⟩
    have z := hr13
    rw [Nat.zero_add, List.nil_append] at z
    exact z.to (fun b hb => hb)

set_option maxRecDepth 100000 in
theorem copy_any (l : List Sy) (w : World) (v : Value) (hz : l.length ≤ 4294967296) (hv : IsSig w l v) : Calls Tryd.prog 6 #[v] w (Ret fun v' w' => IsSig w' l v' ∧ Below w.heap.size w w') := by
  obtain ⟨a, c, rfl, hc, hm, hl⟩ := hv
  refine Calls.walk (l := [.agg #[.slice a l.length c]]) Tryd.func6 rfl (by kernel_rfl) ?_
  refine WC.sub (K' := [(0, .agg #[.slice a l.length c])]) ⟨rfl, trivial⟩ ?_
  refine WC.seq ?_
  refine WC.region ?_
  refine WL.step (post := NewBlk w 24 #[.slice a l.length c]) rfl rfl rfl (fun za zC zh zk => box_24 rfl (zh.ev rfl) (zk _ _ (newBlk _ _ _))) ?_
  rintro _ w1 ⟨g2, rfl, hg3, hB4, hb5, hz6⟩
  have hl7 : w.heap.size ≤ g2 := by omega
  refine WL.step (post := NewBlk w1 24 #[.slice none 0 0]) rfl rfl rfl (fun za zC zh zk => alloc_24 rfl (zk _ _ (newBlk _ _ _))) ?_
  rintro _ w8 ⟨g9, rfl, hg10, hB11, hb12, hz13⟩
  have hl14 : g2 < g9 := by have z1 := hB4.lt; omega
  have hl15 : w.heap.size ≤ g9 := by have z2 := (hb5).size; omega
  refine WL.nil (WE.sub (K' := [(0, .agg #[.slice a l.length c]), (1, .pointer (some ⟨g2, 0, none⟩)), (2, .pointer (some ⟨g9, 0, none⟩))]) ⟨rfl, rfl, rfl, trivial⟩ ?_)
  refine WE.next ?_
  refine WC.seq ?_
  refine WC.region ?_
  refine WL.step (post := NewBlk w8 24 #[.slice none 0 0]) rfl rfl rfl (fun za zC zh zk => alloc_24 rfl (zk _ _ (newBlk _ _ _))) ?_
  rintro _ w16 ⟨g17, rfl, hg18, hB19, hb20, hz21⟩
  have hl22 : g2 < g17 := by have z1 := hB4.lt; have z2 := (hb12).size; omega
  have hl23 : g9 < g17 := by have z1 := hB11.lt; omega
  have hb24 : Below w.heap.size w w8 := (bstep hb5 hb12)
  have hl25 : w.heap.size ≤ g17 := by have z2 := (hb24).size; omega
  refine WL.nil (WE.sub (K' := [(0, .agg #[.slice a l.length c]), (1, .pointer (some ⟨g2, 0, none⟩)), (2, .pointer (some ⟨g9, 0, none⟩)), (3, .pointer (some ⟨g17, 0, none⟩))]) ⟨rfl, rfl, rfl, rfl, trivial⟩ ?_)
  refine WE.next ?_
  refine WC.seq ?_
  refine WC.region ?_
  refine WL.val (.pointer (some ⟨g17, 0, none⟩)) rfl rfl rfl (fun za zC zh zk => fld_24_0 rfl (zh.ev rfl) zk) ?_
  refine WL.val (.slice none 0 0) rfl rfl rfl (fun za zC zh zk => ld_22 rfl (zh.ev rfl) ((hB19.cell 0).trans rfl) zk) ?_
  refine WL.val (.pointer (some ⟨g2, 0, none⟩)) rfl rfl rfl (fun za zC zh zk => fld_24_0 rfl (zh.ev rfl) zk) ?_
  have hb27 : Below w1.heap.size w1 w16 := (bstep hb12 hb20)
  have hB26 := hB4.below hb27
  refine WL.val (.slice a l.length c) rfl rfl rfl (fun za zC zh zk => ld_22 rfl (zh.ev rfl) ((hB26.cell 0).trans rfl) zk) ?_
  have hl28 : g2 < w16.heap.size := by have z1 := hB26.lt; omega
  have hl29 : g9 < w16.heap.size := by have z1 := hB11.lt; have z2 := (hb20).size; omega
  have hl30 : g17 < w16.heap.size := by have z1 := hB19.lt; omega
  have hb32 : Below w.heap.size w w16 := (bstep hb5 hb27)
  have hl31 : w.heap.size ≤ w16.heap.size := (hb32).size
  refine WL.step (post := fun v w' => ∃ ra rc, v = .slice ra (0 + l.length) rc ∧ Own w' (fun b => w16.heap.size ≤ b) 26 3 ra rc (0 + l.length) ([] ++ (syCells l)) ∧ Chg (fun b => w16.heap.size ≤ b) w16 w') rfl rfl rfl (fun za zC zh zk => app_22 (S := (fun b => w16.heap.size ≤ b)) (xs := []) (news := (syCells l)) rfl (zh.ev rfl) (zh.ev rfl) own_nil (SrcIs.ofSys (IsSys.below hb32 hl)) (syCells_len _) (syCells_oneCell _) (by omega) (by omega) (by (try dsimp only at *); omega) (fun ra rc w' h1 h2 => zk _ _ ⟨ra, rc, rfl, h1, h2⟩)) ?_
  rintro _ w33 ⟨ra34, rc35, rfl, hr36, hc37⟩
  have hB38 := hB11.below hb20
  have hb39 := chg_below hb32 hc37 (fun b hb => (by (try dsimp only at *); omega))
  have hB40 := chg_blk hB26 hc37 (by (try dsimp only at *); omega)
  have hB41 := chg_blk hB38 hc37 (by (try dsimp only at *); omega)
  have hB42 := chg_blk hB19 hc37 (by (try dsimp only at *); omega)
  refine WL.val (.pointer (some ⟨g17, 0, none⟩)) rfl rfl rfl (fun za zC zh zk => fld_24_0 rfl (zh.ev rfl) zk) ?_
  refine WL.step (post := fun _ w' => Upd g17 w33 w' ∧ Blk w' g17 24 #[.slice ra34 ((0 + l.length)) rc35]) rfl rfl rfl (fun za zC zh zk => st_22 rfl (zh.ev rfl) (zh.ev rfl) hB42 (by first | decide | simp) (fun v => zk v _ ⟨Upd.at_ _ _ _ _, hB42.set_ 0 _⟩)) ?_
  rintro v46 w43 ⟨hu44, hB45⟩
  have hb47 := upd_below hb39 hu44 (by omega)
  have hB48 := upd_blk hB40 hu44 (by omega)
  have hB49 := upd_blk hB41 hu44 (by omega)
  have hr50 := hr36.upd hu44 (by (try dsimp only at *); omega)
  refine WL.nil (WE.sub (K' := [(0, .agg #[.slice a l.length c]), (1, .pointer (some ⟨g2, 0, none⟩)), (2, .pointer (some ⟨g9, 0, none⟩)), (3, .pointer (some ⟨g17, 0, none⟩))]) ⟨rfl, rfl, rfl, rfl, trivial⟩ ?_)
  refine WE.next ?_
  refine WC.seq ?_
  refine WC.region ?_
  refine WL.val (.agg #[.slice ra34 ((0 + l.length)) rc35]) rfl rfl rfl (fun za zC zh zk => ld_24 rfl (zh.ev rfl) ((hB45.cell 0).trans rfl) zk) ?_
  refine WL.step (post := fun _ w' => Upd g9 w43 w' ∧ Blk w' g9 24 #[.slice ra34 ((0 + l.length)) rc35]) rfl rfl rfl (fun za zC zh zk => st_24 rfl (zh.ev rfl) (zh.ev rfl) rfl hB49 (by first | decide | simp) (fun v => zk v _ ⟨Upd.at_ _ _ _ _, hB49.set_ 0 _⟩)) ?_
  rintro v54 w51 ⟨hu52, hB53⟩
  have hb55 := upd_below hb47 hu52 (by omega)
  have hB56 := upd_blk hB48 hu52 (by omega)
  have hB57 := upd_blk hB45 hu52 (by omega)
  have hr58 := hr50.upd hu52 (by (try dsimp only at *); omega)
  refine WL.nil (WE.sub (K' := [(0, .agg #[.slice a l.length c]), (1, .pointer (some ⟨g2, 0, none⟩)), (2, .pointer (some ⟨g9, 0, none⟩)), (3, .pointer (some ⟨g17, 0, none⟩))]) ⟨rfl, rfl, rfl, rfl, trivial⟩ ?_)
  refine WE.next ?_
  refine WC.ret ?_
  refine WE.retAny (v := .agg #[.slice ra34 ((0 + l.length)) rc35]) (fun za zh => ?_) ?_
  · have z0 : za.tmps[2]?.getD undef = .pointer (some ⟨g9, 0, none⟩) := by rw [← Array.getD_eq_getD_getElem?]; exact zh.knows 2 _ rfl
    have y0 : w51.cell? ⟨g9, 0, none⟩ = some (.slice ra34 ((0 + l.length)) rc35) := ((hB53.cell 0).trans rfl)
    simp [results, Tryd.results6, z0, y0, go_sem]
  · have z := hr58
    rw [Nat.zero_add, List.nil_append] at z
    obtain ⟨_, z1, z2, z3⟩ := sys_of_own z.1 hl.wfs
    exact ⟨_, rfl, ⟨ra34, rc35, by rw [Nat.zero_add], z1, z2, z3⟩, hb55⟩

end Go.Proofs.YtbnjppmmhhjjbaaDoor
