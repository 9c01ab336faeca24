/- By what a queue goes: the program and the document. -/
import Derived.Test.YtjhkoiggeepajaaHWeigh
namespace Go.Proofs.Ytjhkoiggeepajaa
open Go.RowKit Go
set_option linter.unusedVariables false
set_option linter.unusedSimpArgs false

set_option maxRecDepth 100000 in
theorem wg1_any (l : List Li) (w : World) (a : Option Addr) (c : Nat) (hl : IsCl w l a c) (hlz : l.length ≤ 1048576) (goal : Bool) : Calls Try.prog 31 #[.slice a l.length c, .bool goal] w (Ret fun v' w' => v' = .agg #[.int .i64 0, .int .i64 0] ∧ Below w.heap.size w w') := by
  refine Calls.walk (l := [.slice a l.length c, .bool goal]) Try.func31 rfl (by kernel_rfl) ?_
  refine WC.sub (K' := [(0, .slice a l.length c), (1, .bool goal)]) ⟨rfl, rfl, trivial⟩ ?_
  refine WC.seq ?_
  refine WC.region ?_
  refine WL.step (post := NewBlk w 26 #[.int .i64 0, .int .i64 0]) rfl rfl rfl (fun za zC zh zk => alloc_26 rfl (zk _ _ (newBlk _ _ _))) ?_
  rintro _ w1 ⟨g2, rfl, hg3, hB4, hb5, hz6⟩
  have hl7 : w.heap.size ≤ g2 := by omega
  refine WL.nil (WE.sub (K' := [(4, .pointer (some ⟨g2, 0, none⟩))]) ⟨rfl, trivial⟩ ?_)
  refine WE.next ?_
  refine WC.seq ?_
  refine WC.region ?_
  refine WL.val (.agg #[.int .i64 0, .int .i64 0]) rfl rfl rfl (fun za zC zh zk => build_26_ rfl  zk) ?_
  refine WL.step (post := fun _ w' => Upd g2 w1 w' ∧ Blk w' g2 26 #[.int .i64 0, .int .i64 0]) rfl rfl rfl (fun za zC zh zk => st_26 rfl (zh.ev rfl) (zh.ev rfl) rfl rfl hB4 (by first | decide | simp) (fun v => zk v _ ⟨(Upd.at_ _ _ _ _).trans (Upd.at_ _ _ _ _), (hB4.set_ 0 _).set_ 1 _⟩)) ?_
  rintro v11 w8 ⟨hu9, hB10⟩
  have hb12 := upd_below hb5 hu9 (by omega)
  refine WL.nil (WE.sub (K' := [(4, .pointer (some ⟨g2, 0, none⟩))]) ⟨rfl, trivial⟩ ?_)
  refine WE.next ?_
  refine WC.ret ?_
  refine WE.retAny (v := .agg #[.int .i64 0, .int .i64 0]) (fun za zh => ?_) ?_
  · have z0 : za.tmps[4]?.getD undef = .pointer (some ⟨g2, 0, none⟩) := by rw [← Array.getD_eq_getD_getElem?]; exact zh.knows 4 _ rfl
    have y0 : w8.cell? ⟨g2, 0, none⟩ = some (.int .i64 0) := ((hB10.cell 0).trans rfl)
    have y1 : w8.cell? ⟨g2, 1, none⟩ = some (.int .i64 0) := ((hB10.cell 1).trans rfl)
    simp [results, Try.results31, z0, y0, y1, go_sem]
  · exact ⟨_, rfl, rfl, hb12⟩

set_option maxRecDepth 100000 in
theorem wg2_any (l : List Li) (w : World) (a : Option Addr) (c : Nat) (hl : IsCl w l a c) (hlz : l.length ≤ 1048576) (goal : Bool) : Calls Try.prog 32 #[.slice a l.length c, .bool goal] w (Ret fun v' w' => v' = .agg #[.int .i64 (clSize l : Int), .int .i64 0] ∧ Below w.heap.size w w') := by
  refine Calls.walk (l := [.slice a l.length c, .bool goal]) Try.func32 rfl (by kernel_rfl) ?_
  refine WC.sub (K' := [(0, .slice a l.length c), (1, .bool goal)]) ⟨rfl, rfl, trivial⟩ ?_
  refine WC.seq ?_
  refine WC.region ?_
  refine WL.step (post := NewBlk w 26 #[.int .i64 0, .int .i64 0]) rfl rfl rfl (fun za zC zh zk => alloc_26 rfl (zk _ _ (newBlk _ _ _))) ?_
  rintro _ w1 ⟨g2, rfl, hg3, hB4, hb5, hz6⟩
  have hl7 : w.heap.size ≤ g2 := by omega
  refine WL.nil (WE.sub (K' := [(0, .slice a l.length c), (4, .pointer (some ⟨g2, 0, none⟩))]) ⟨rfl, rfl, trivial⟩ ?_)
  refine WE.next ?_
  refine WC.seq ?_
  refine WC.region ?_
  refine WL.val (.slice a l.length c) rfl rfl rfl (fun za zC zh zk => wp_move rfl (zh.ev rfl) zk) ?_
  refine WL.call rfl rfl rfl (fun za zh zC => wp_call (by kernel_rfl) rfl (hv1 (zh.ev rfl))) (psize_any l _ _ _ (hl.below hb5) hlz) ?_
  rintro _ w9 ⟨rfl, hq8⟩
  refine WL.val (.agg #[.int .i64 ((((clSize l) : Nat) : Int)), .int .i64 0]) rfl rfl rfl (fun za zC zh zk => build_26_0 rfl (zh.ev rfl) zk) ?_
  have hB10 := hB4.below hq8
  refine WL.step (post := fun _ w' => Upd g2 w9 w' ∧ Blk w' g2 26 #[.int .i64 ((((clSize l) : Nat) : Int)), .int .i64 0]) rfl rfl rfl (fun za zC zh zk => st_26 rfl (zh.ev rfl) (zh.ev rfl) rfl rfl hB10 (by first | decide | simp) (fun v => zk v _ ⟨(Upd.at_ _ _ _ _).trans (Upd.at_ _ _ _ _), (hB10.set_ 0 _).set_ 1 _⟩)) ?_
  rintro v14 w11 ⟨hu12, hB13⟩
  have hb15 : Below w.heap.size w w9 := (bstep hb5 hq8)
  have hb16 := upd_below hb15 hu12 (by omega)
  refine WL.nil (WE.sub (K' := [(0, .slice a l.length c), (4, .pointer (some ⟨g2, 0, none⟩))]) ⟨rfl, rfl, trivial⟩ ?_)
  refine WE.next ?_
  refine WC.ret ?_
  refine WE.retAny (v := .agg #[.int .i64 ((((clSize l) : Nat) : Int)), .int .i64 0]) (fun za zh => ?_) ?_
  · have z0 : za.tmps[4]?.getD undef = .pointer (some ⟨g2, 0, none⟩) := by rw [← Array.getD_eq_getD_getElem?]; exact zh.knows 4 _ rfl
    have y0 : w11.cell? ⟨g2, 0, none⟩ = some (.int .i64 ((((clSize l) : Nat) : Int))) := ((hB13.cell 0).trans rfl)
    have y1 : w11.cell? ⟨g2, 1, none⟩ = some (.int .i64 0) := ((hB13.cell 1).trans rfl)
    simp [results, Try.results32, z0, y0, y1, go_sem]
  · exact ⟨_, rfl, rfl, hb16⟩

set_option maxRecDepth 100000 in
theorem wg3_any (l : List Li) (w : World) (a : Option Addr) (c : Nat) (hl : IsCl w l a c) (hlz : l.length ≤ 1048576) (goal : Bool) : Calls Try.prog 34 #[.slice a l.length c, .bool goal] w (Ret fun v' w' => v' = .agg #[.int .i64 (clWgt l : Int), .int .i64 0] ∧ Below w.heap.size w w') := by
  have hr := hl.rows
  have hlw : ∀ k, clWgt (l.take k) ≤ l.length * 17179869184 := fun k => clWgt_le (fun x hx => ⟨hl.partsL x hx, hl.partsR x hx⟩) k
  have hle : ∀ k, clSize (l.take k) ≤ l.length * 8589934592 := fun k => clSize_le (fun x hx => ⟨hl.partsL x hx, hl.partsR x hx⟩) k
  have hpl : ∀ k, k < l.length → (lget l k).l.size ≤ 4294967296 := fun k h => hl.pl h
  have hpr : ∀ k, k < l.length → (lget l k).r.size ≤ 4294967296 := fun k h => hl.pr h
  refine Calls.walk (l := [.slice a l.length c, .bool goal]) Try.func34 rfl (by kernel_rfl) ?_
  refine WC.sub (K' := [(0, .slice a l.length c), (1, .bool goal)]) ⟨rfl, rfl, trivial⟩ ?_
  refine WC.seq ?_
  refine WC.region ?_
  refine WL.step (post := NewBlk w 26 #[.int .i64 0, .int .i64 0]) rfl rfl rfl (fun za zC zh zk => alloc_26 rfl (zk _ _ (newBlk _ _ _))) ?_
  rintro _ w1 ⟨g2, rfl, hg3, hB4, hb5, hz6⟩
  have hl7 : w.heap.size ≤ g2 := by omega
  refine WL.nil (WE.sub (K' := [(0, .slice a l.length c), (4, .pointer (some ⟨g2, 0, none⟩))]) ⟨rfl, rfl, trivial⟩ ?_)
  refine WE.next ?_
  refine WC.seq ?_
  refine WC.region ?_
  refine WL.val (.int .i64 0) rfl rfl rfl (fun za zC zh zk => wp_assign rfl (zh.ev rfl) zk) ?_
  refine WL.nil (WE.sub (K' := [(0, .slice a l.length c), (4, .pointer (some ⟨g2, 0, none⟩)), (5, .int .i64 0)]) ⟨rfl, rfl, rfl, trivial⟩ ?_)
  refine WE.next ?_
  refine WC.seq ?_
  refine WC.seq ?_
  refine WC.region ?_
  refine WL.val (.slice a l.length c) rfl rfl rfl (fun za zC zh zk => wp_move rfl (zh.ev rfl) zk) ?_
  refine WL.val (.int .i64 (((l.length : Nat) : Int))) rfl rfl rfl (fun za zC zh zk => len_24 rfl (zh.ev rfl) zk) ?_
  refine WL.val (.int .i64 0) rfl rfl rfl (fun za zC zh zk => wp_move rfl (zh.ev rfl) zk) ?_
  refine WL.nil (WE.sub (K' := [(0, .slice a l.length c), (4, .pointer (some ⟨g2, 0, none⟩)), (5, .int .i64 0), (8, .int .i64 (((l.length : Nat) : Int))), (9, .int .i64 0)]) ⟨rfl, rfl, rfl, rfl, rfl, trivial⟩ ?_)
  refine WE.next ?_
  refine WC.block ?_
  refine WC.loop (X := Nat) (fun k => l.length - k) (fun k => [(0, .slice a l.length c), (4, .pointer (some ⟨g2, 0, none⟩)), (5, .int .i64 ((((clWgt (l.take k)) : Nat) : Int))), (8, .int .i64 (((l.length : Nat) : Int))), (9, .int .i64 (((k : Nat) : Int)))]) (fun k w8 => k ≤ l.length ∧ Below w.heap.size w w8 ∧ Blk w8 g2 26 #[.int .i64 0, .int .i64 0]) 0 ⟨rfl, rfl, rfl, rfl, rfl, trivial⟩ ?_ ?_
  · exact ⟨Nat.zero_le _, hb5, hB4⟩
  · rintro k w8 ⟨hk, hb9, hB10⟩
    refine WC.seq ?_
    refine WC.region ?_
    refine WL.val (.bool ((decide ((((k : Nat) : Int) : Int) < (((l.length : Nat) : Int) : Int))))) rfl rfl rfl (fun za zC zh zk => lss_3 rfl (zh.ev rfl) (zh.ev rfl) zk) ?_
    refine WL.nil (WE.sub (K' := [(0, .slice a l.length c), (4, .pointer (some ⟨g2, 0, none⟩)), (5, .int .i64 ((((clWgt (l.take k)) : Nat) : Int))), (8, .int .i64 (((l.length : Nat) : Int))), (9, .int .i64 (((k : Nat) : Int))), (10, .bool ((decide ((((k : Nat) : Int) : Int) < (((l.length : Nat) : Int) : Int)))))]) ⟨rfl, rfl, rfl, rfl, rfl, rfl, trivial⟩ ?_)
    refine WE.next ?_
    refine WC.seq ?_
    refine WC.cond rfl (fun h11 => ?_) (fun h11 => ?_)
    · have h11 : (((k : Nat) : Int) : Int) < (((l.length : Nat) : Int) : Int) := by simpa using h11
      refine WC.skip ?_
      refine WE.next ?_
      refine WC.seq ?_
      refine WC.block ?_
      refine WC.seq ?_
      refine WC.region ?_
      refine WL.val (.int .i64 (((k : Nat) : Int))) rfl rfl rfl (fun za zC zh zk => wp_move rfl (zh.ev rfl) zk) ?_
      refine WL.val (.int .i64 (((k : Nat) : Int))) rfl rfl rfl (fun za zC zh zk => wp_assign rfl (zh.ev rfl) zk) ?_
      refine WL.nil (WE.sub (K' := [(0, .slice a l.length c), (4, .pointer (some ⟨g2, 0, none⟩)), (5, .int .i64 ((((clWgt (l.take k)) : Nat) : Int))), (6, .int .i64 (((k : Nat) : Int))), (8, .int .i64 (((l.length : Nat) : Int))), (9, .int .i64 (((k : Nat) : Int))), (10, .bool ((decide ((((k : Nat) : Int) : Int) < (((l.length : Nat) : Int) : Int)))))]) ⟨rfl, rfl, rfl, rfl, rfl, rfl, rfl, trivial⟩ ?_)
      refine WE.next ?_
      refine WC.seq ?_
      refine WC.region ?_
      refine WL.val (.int .i64 ((((clWgt (l.take k)) : Nat) : Int))) rfl rfl rfl (fun za zC zh zk => wp_move rfl (zh.ev rfl) zk) ?_
      refine WL.val (.slice a l.length c) rfl rfl rfl (fun za zC zh zk => wp_move rfl (zh.ev rfl) zk) ?_
      refine WL.val (.int .i64 (((k : Nat) : Int))) rfl rfl rfl (fun za zC zh zk => wp_move rfl (zh.ev rfl) zk) ?_
      obtain ⟨b12, o13, A14, C15, A16, C17, ha18, hc19⟩ := InRow.openL hr
      refine WL.val (.pointer (some ⟨b12, o13 + k * 5, none⟩)) rfl rfl rfl (fun za zC zh zk => ix_24 (k := k) rfl (zh.ev rfl) (ha18 k (by first | omega | (simp; omega))) (zh.ev rfl) (by first | omega | (simp; omega)) zk) ?_
      refine WL.val (.pointer (some ⟨b12, o13 + k * 5 + 1, none⟩)) rfl rfl rfl (fun za zC zh zk => fld_65_1 rfl (zh.ev rfl) zk) ?_
      refine WL.call rfl rfl rfl (fun za zh zC => wp_call (by kernel_rfl) rfl (hv1 (zh.ev rfl))) (weight_any (lget l k).l _ b12 (o13 + k * 5 + 1) _ _ (hpl k (by omega)) (bkeeps hb9 _ _ (hc19 k (by first | omega | (simp; omega))).2.1) (bkeeps hb9 _ _ (hc19 k (by first | omega | (simp; omega))).2.2.1) (IsT.below hb9 (InT.isT (hc19 k (by first | omega | (simp; omega))).2.2.2.2.2.1))) ?_
      rintro _ w21 ⟨rfl, hq20⟩
      refine WL.val (.int .i64 ((((clWgt (l.take k) + (lget l k).l.wgt) : Nat) : Int))) rfl rfl rfl (fun za zC zh zk => addb_3 rfl (zh.ev rfl) (zh.ev rfl) (wrap_eq (by omega) (by omega) (by have z := hlw k; have z2 := T.wgt_le (lget l k).l; have z3 := hpl k (by omega); omega)) zk) ?_
      refine WL.val (.int .i64 ((((clWgt (l.take k) + (lget l k).l.wgt) : Nat) : Int))) rfl rfl rfl (fun za zC zh zk => wp_assign rfl (zh.ev rfl) zk) ?_
      refine WL.nil (WE.sub (K' := [(0, .slice a l.length c), (4, .pointer (some ⟨g2, 0, none⟩)), (5, .int .i64 ((((clWgt (l.take k) + (lget l k).l.wgt) : Nat) : Int))), (6, .int .i64 (((k : Nat) : Int))), (8, .int .i64 (((l.length : Nat) : Int))), (9, .int .i64 (((k : Nat) : Int))), (10, .bool ((decide ((((k : Nat) : Int) : Int) < (((l.length : Nat) : Int) : Int)))))]) ⟨rfl, rfl, rfl, rfl, rfl, rfl, rfl, trivial⟩ ?_)
      refine WE.next ?_
      refine WC.seq ?_
      refine WC.region ?_
      refine WL.val (.slice a l.length c) rfl rfl rfl (fun za zC zh zk => wp_move rfl (zh.ev rfl) zk) ?_
      refine WL.val (.int .i64 (((k : Nat) : Int))) rfl rfl rfl (fun za zC zh zk => wp_move rfl (zh.ev rfl) zk) ?_
      refine WL.val (.pointer (some ⟨b12, o13 + k * 5, none⟩)) rfl rfl rfl (fun za zC zh zk => ix_24 (k := k) rfl (zh.ev rfl) (ha18 k (by first | omega | (simp; omega))) (zh.ev rfl) (by first | omega | (simp; omega)) zk) ?_
      refine WL.val (.pointer (some ⟨b12, o13 + k * 5 + 3, none⟩)) rfl rfl rfl (fun za zC zh zk => fld_65_2 rfl (zh.ev rfl) zk) ?_
      have hb22 : Below w.heap.size w w21 := (bstep hb9 hq20)
      refine WL.val (.agg #[.int .i64 ((lget l k).r.f), .slice ((A16 k)) ((lget l k).r.args.length) ((C17 k))]) rfl rfl rfl (fun za zC zh zk => ld_63 rfl (zh.ev rfl) (bkeeps hb22 _ _ (hc19 k (by first | omega | (simp; omega))).2.2.2.1) (bkeeps hb22 _ _ (hc19 k (by first | omega | (simp; omega))).2.2.2.2.1) zk) ?_
      refine WL.call rfl rfl rfl (fun za zh zC => wp_call (by kernel_rfl) rfl (hv1 (zh.ev rfl))) (ptrue_any (lget l k).r _ _ (IsT.below hb22 (InT.isT (hc19 k (by first | omega | (simp; omega))).2.2.2.2.2.2))) ?_
      rintro _ w24 ⟨rfl, hq23⟩
      refine WL.val (.bool ((!(lget l k).r.isTrue))) rfl rfl rfl (fun za zC zh zk => wp_not rfl (zh.ev rfl) zk) ?_
      refine WL.nil (WE.sub (K' := [(0, .slice a l.length c), (4, .pointer (some ⟨g2, 0, none⟩)), (5, .int .i64 ((((clWgt (l.take k) + (lget l k).l.wgt) : Nat) : Int))), (6, .int .i64 (((k : Nat) : Int))), (8, .int .i64 (((l.length : Nat) : Int))), (9, .int .i64 (((k : Nat) : Int))), (10, .bool ((decide ((((k : Nat) : Int) : Int) < (((l.length : Nat) : Int) : Int))))), (25, .bool ((!(lget l k).r.isTrue)))]) ⟨rfl, rfl, rfl, rfl, rfl, rfl, rfl, rfl, trivial⟩ ?_)
      refine WE.next ?_
      refine WC.cond rfl (fun h25 => ?_) (fun h25 => ?_)
      · have h25 : ¬ ((lget l k).r.isTrue = true) := by simpa using h25
        refine WC.region ?_
        refine WL.val (.int .i64 ((((clWgt (l.take k) + (lget l k).l.wgt) : Nat) : Int))) rfl rfl rfl (fun za zC zh zk => wp_move rfl (zh.ev rfl) zk) ?_
        refine WL.val (.slice a l.length c) rfl rfl rfl (fun za zC zh zk => wp_move rfl (zh.ev rfl) zk) ?_
        refine WL.val (.int .i64 (((k : Nat) : Int))) rfl rfl rfl (fun za zC zh zk => wp_move rfl (zh.ev rfl) zk) ?_
        refine WL.val (.pointer (some ⟨b12, o13 + k * 5, none⟩)) rfl rfl rfl (fun za zC zh zk => ix_24 (k := k) rfl (zh.ev rfl) (ha18 k (by first | omega | (simp; omega))) (zh.ev rfl) (by first | omega | (simp; omega)) zk) ?_
        refine WL.val (.pointer (some ⟨b12, o13 + k * 5 + 3, none⟩)) rfl rfl rfl (fun za zC zh zk => fld_65_2 rfl (zh.ev rfl) zk) ?_
        have hb26 : Below w.heap.size w w24 := (bstep hb22 hq23)
        refine WL.call rfl rfl rfl (fun za zh zC => wp_call (by kernel_rfl) rfl (hv1 (zh.ev rfl))) (weight_any (lget l k).r _ b12 (o13 + k * 5 + 3) _ _ (hpr k (by omega)) (bkeeps hb26 _ _ (hc19 k (by first | omega | (simp; omega))).2.2.2.1) (bkeeps hb26 _ _ (hc19 k (by first | omega | (simp; omega))).2.2.2.2.1) (IsT.below hb26 (InT.isT (hc19 k (by first | omega | (simp; omega))).2.2.2.2.2.2))) ?_
        rintro _ w28 ⟨rfl, hq27⟩
        refine WL.val (.int .i64 ((((clWgt (l.take (k + 1))) : Nat) : Int))) rfl rfl rfl (fun za zC zh zk => addb_3 rfl (zh.ev rfl) (zh.ev rfl) (wrap_eq (by rw [clWgt_take (by omega)]; unfold Li.wg; rw [if_neg h25]; omega) (by omega) (by have z := hlw (k + 1); omega)) zk) ?_
        refine WL.val (.int .i64 ((((clWgt (l.take (k + 1))) : Nat) : Int))) rfl rfl rfl (fun za zC zh zk => wp_assign rfl (zh.ev rfl) zk) ?_
        refine WL.nil (WE.sub (K' := [(0, .slice a l.length c), (4, .pointer (some ⟨g2, 0, none⟩)), (5, .int .i64 ((((clWgt (l.take (k + 1))) : Nat) : Int))), (6, .int .i64 (((k : Nat) : Int))), (8, .int .i64 (((l.length : Nat) : Int))), (9, .int .i64 (((k : Nat) : Int))), (10, .bool ((decide ((((k : Nat) : Int) : Int) < (((l.length : Nat) : Int) : Int))))), (25, .bool ((!(lget l k).r.isTrue)))]) ⟨rfl, rfl, rfl, rfl, rfl, rfl, rfl, rfl, trivial⟩ ?_)
        refine WE.blockNormal ?_
        refine WE.next ?_
        refine WC.region ?_
        refine WL.val (.int .i64 ((((k + 1) : Nat) : Int))) rfl rfl rfl (fun za zC zh zk => addb_3 rfl (zh.ev rfl) (zh.ev rfl) (wrap_eq (by omega) (by omega) (by omega)) zk) ?_
        refine WL.val (.int .i64 ((((k + 1) : Nat) : Int))) rfl rfl rfl (fun za zC zh zk => wp_move rfl (zh.ev rfl) zk) ?_
        refine WL.nil (WE.sub (K' := [(0, .slice a l.length c), (4, .pointer (some ⟨g2, 0, none⟩)), (5, .int .i64 ((((clWgt (l.take (k + 1))) : Nat) : Int))), (6, .int .i64 (((k : Nat) : Int))), (8, .int .i64 (((l.length : Nat) : Int))), (9, .int .i64 ((((k + 1) : Nat) : Int))), (10, .bool ((decide ((((k : Nat) : Int) : Int) < (((l.length : Nat) : Int) : Int))))), (25, .bool ((!(lget l k).r.isTrue)))]) ⟨rfl, rfl, rfl, rfl, rfl, rfl, rfl, rfl, trivial⟩ ?_)
        refine WE.round (k + 1) ⟨rfl, rfl, rfl, rfl, rfl, trivial⟩ ?_ ?_
        · have hb29 : Below w.heap.size w w28 := (bstep hb26 hq27)
          have hb31 : Below w8.heap.size w8 w28 := (bstep (bstep hq20 hq23) hq27)
          have hB30 := hB10.below hb31
          exact ⟨by omega, hb29, hB30⟩
        · omega
      · have h25 : ¬ (¬ ((lget l k).r.isTrue = true)) := by simpa using h25
        have hwt : clWgt (l.take k) + (lget l k).l.wgt = clWgt (l.take (k + 1)) := by rw [clWgt_take (by omega)]; unfold Li.wg; rw [if_pos (by simpa using h25)]
        refine WC.sub (K' := [(0, .slice a l.length c), (4, .pointer (some ⟨g2, 0, none⟩)), (5, .int .i64 ((((clWgt (l.take (k + 1))) : Nat) : Int))), (6, .int .i64 (((k : Nat) : Int))), (8, .int .i64 (((l.length : Nat) : Int))), (9, .int .i64 (((k : Nat) : Int))), (10, .bool ((decide ((((k : Nat) : Int) : Int) < (((l.length : Nat) : Int) : Int))))), (25, .bool ((!(lget l k).r.isTrue)))]) ⟨rfl, rfl, (by rw [← hwt]; rfl), rfl, rfl, rfl, rfl, rfl, trivial⟩ ?_
        refine WC.skip ?_
        refine WE.blockNormal ?_
        refine WE.next ?_
        refine WC.region ?_
        refine WL.val (.int .i64 ((((k + 1) : Nat) : Int))) rfl rfl rfl (fun za zC zh zk => addb_3 rfl (zh.ev rfl) (zh.ev rfl) (wrap_eq (by omega) (by omega) (by omega)) zk) ?_
        refine WL.val (.int .i64 ((((k + 1) : Nat) : Int))) rfl rfl rfl (fun za zC zh zk => wp_move rfl (zh.ev rfl) zk) ?_
        refine WL.nil (WE.sub (K' := [(0, .slice a l.length c), (4, .pointer (some ⟨g2, 0, none⟩)), (5, .int .i64 ((((clWgt (l.take (k + 1))) : Nat) : Int))), (6, .int .i64 (((k : Nat) : Int))), (8, .int .i64 (((l.length : Nat) : Int))), (9, .int .i64 ((((k + 1) : Nat) : Int))), (10, .bool ((decide ((((k : Nat) : Int) : Int) < (((l.length : Nat) : Int) : Int))))), (25, .bool ((!(lget l k).r.isTrue)))]) ⟨rfl, rfl, rfl, rfl, rfl, rfl, rfl, rfl, trivial⟩ ?_)
        refine WE.round (k + 1) ⟨rfl, rfl, rfl, rfl, rfl, trivial⟩ ?_ ?_
        · have hb32 : Below w.heap.size w w24 := (bstep hb22 hq23)
          have hb34 : Below w8.heap.size w8 w24 := (bstep hq20 hq23)
          have hB33 := hB10.below hb34
          exact ⟨by omega, hb32, hB33⟩
        · omega
    · have h11 : ¬ ((((k : Nat) : Int) : Int) < (((l.length : Nat) : Int) : Int)) := by simpa using h11
      refine WC.exit ?_
      refine WE.thenExit ?_
      refine WE.thenExit ?_
      refine WE.blockIs rfl ?_
      refine WE.next ?_
      refine WC.seq ?_
      refine WC.region ?_
      refine WL.val (.int .i64 ((((clWgt (l.take k)) : Nat) : Int))) rfl rfl rfl (fun za zC zh zk => wp_move rfl (zh.ev rfl) zk) ?_
      refine WL.val (.agg #[.int .i64 ((((clWgt (l.take k)) : Nat) : Int)), .int .i64 0]) rfl rfl rfl (fun za zC zh zk => build_26_0 rfl (zh.ev rfl) zk) ?_
      refine WL.step (post := fun _ w' => Upd g2 w8 w' ∧ Blk w' g2 26 #[.int .i64 ((((clWgt (l.take k)) : Nat) : Int)), .int .i64 0]) rfl rfl rfl (fun za zC zh zk => st_26 rfl (zh.ev rfl) (zh.ev rfl) rfl rfl hB10 (by first | decide | simp) (fun v => zk v _ ⟨(Upd.at_ _ _ _ _).trans (Upd.at_ _ _ _ _), (hB10.set_ 0 _).set_ 1 _⟩)) ?_
      rintro v38 w35 ⟨hu36, hB37⟩
      have hb39 := upd_below hb9 hu36 (by omega)
      refine WL.nil (WE.sub (K' := [(0, .slice a l.length c), (4, .pointer (some ⟨g2, 0, none⟩)), (5, .int .i64 ((((clWgt (l.take k)) : Nat) : Int))), (8, .int .i64 (((l.length : Nat) : Int))), (9, .int .i64 (((k : Nat) : Int))), (10, .bool ((decide ((((k : Nat) : Int) : Int) < (((l.length : Nat) : Int) : Int)))))]) ⟨rfl, rfl, rfl, rfl, rfl, rfl, trivial⟩ ?_)
      refine WE.next ?_
      refine WC.ret ?_
      refine WE.retAny (v := .agg #[.int .i64 ((((clWgt (l.take k)) : Nat) : Int)), .int .i64 0]) (fun za zh => ?_) ?_
      · have z0 : za.tmps[4]?.getD undef = .pointer (some ⟨g2, 0, none⟩) := by rw [← Array.getD_eq_getD_getElem?]; exact zh.knows 4 _ rfl
        have y0 : w35.cell? ⟨g2, 0, none⟩ = some (.int .i64 ((((clWgt (l.take k)) : Nat) : Int))) := ((hB37.cell 0).trans rfl)
        have y1 : w35.cell? ⟨g2, 1, none⟩ = some (.int .i64 0) := ((hB37.cell 1).trans rfl)
        simp [results, Try.results34, z0, y0, y1, go_sem]
      · exact ⟨_, rfl, by rw [List.take_of_length_le (show l.length ≤ k by omega)], hb39⟩

set_option maxRecDepth 100000 in
theorem wg4_any (l : List Li) (w : World) (a : Option Addr) (c : Nat) (hl : IsCl w l a c) (hlz : l.length ≤ 1048576) (goal : Bool) : Calls Try.prog 37 #[.slice a l.length c, .bool goal] w (Ret fun v' w' => v' = .agg #[.int .i64 (l.length : Int), .int .i64 (clSize l : Int)] ∧ Below w.heap.size w w') := by
  refine Calls.walk (l := [.slice a l.length c, .bool goal]) Try.func37 rfl (by kernel_rfl) ?_
  refine WC.sub (K' := [(0, .slice a l.length c), (1, .bool goal)]) ⟨rfl, rfl, trivial⟩ ?_
  refine WC.seq ?_
  refine WC.region ?_
  refine WL.step (post := NewBlk w 26 #[.int .i64 0, .int .i64 0]) rfl rfl rfl (fun za zC zh zk => alloc_26 rfl (zk _ _ (newBlk _ _ _))) ?_
  rintro _ w1 ⟨g2, rfl, hg3, hB4, hb5, hz6⟩
  have hl7 : w.heap.size ≤ g2 := by omega
  refine WL.nil (WE.sub (K' := [(0, .slice a l.length c), (4, .pointer (some ⟨g2, 0, none⟩))]) ⟨rfl, rfl, trivial⟩ ?_)
  refine WE.next ?_
  refine WC.seq ?_
  refine WC.region ?_
  refine WL.val (.slice a l.length c) rfl rfl rfl (fun za zC zh zk => wp_move rfl (zh.ev rfl) zk) ?_
  refine WL.val (.int .i64 (((l.length : Nat) : Int))) rfl rfl rfl (fun za zC zh zk => len_24 rfl (zh.ev rfl) zk) ?_
  refine WL.val (.slice a l.length c) rfl rfl rfl (fun za zC zh zk => wp_move rfl (zh.ev rfl) zk) ?_
  refine WL.call rfl rfl rfl (fun za zh zC => wp_call (by kernel_rfl) rfl (hv1 (zh.ev rfl))) (psize_any l _ _ _ (hl.below hb5) hlz) ?_
  rintro _ w9 ⟨rfl, hq8⟩
  refine WL.val (.agg #[.int .i64 (((l.length : Nat) : Int)), .int .i64 ((((clSize l) : Nat) : Int))]) rfl rfl rfl (fun za zC zh zk => build_26_0_1 rfl (zh.ev rfl) (zh.ev rfl) zk) ?_
  have hB10 := hB4.below hq8
  refine WL.step (post := fun _ w' => Upd g2 w9 w' ∧ Blk w' g2 26 #[.int .i64 (((l.length : Nat) : Int)), .int .i64 ((((clSize l) : Nat) : Int))]) rfl rfl rfl (fun za zC zh zk => st_26 rfl (zh.ev rfl) (zh.ev rfl) rfl rfl hB10 (by first | decide | simp) (fun v => zk v _ ⟨(Upd.at_ _ _ _ _).trans (Upd.at_ _ _ _ _), (hB10.set_ 0 _).set_ 1 _⟩)) ?_
  rintro v14 w11 ⟨hu12, hB13⟩
  have hb15 : Below w.heap.size w w9 := (bstep hb5 hq8)
  have hb16 := upd_below hb15 hu12 (by omega)
  refine WL.nil (WE.sub (K' := [(0, .slice a l.length c), (4, .pointer (some ⟨g2, 0, none⟩))]) ⟨rfl, rfl, trivial⟩ ?_)
  refine WE.next ?_
  refine WC.ret ?_
  refine WE.retAny (v := .agg #[.int .i64 (((l.length : Nat) : Int)), .int .i64 ((((clSize l) : Nat) : Int))]) (fun za zh => ?_) ?_
  · have z0 : za.tmps[4]?.getD undef = .pointer (some ⟨g2, 0, none⟩) := by rw [← Array.getD_eq_getD_getElem?]; exact zh.knows 4 _ rfl
    have y0 : w11.cell? ⟨g2, 0, none⟩ = some (.int .i64 (((l.length : Nat) : Int))) := ((hB13.cell 0).trans rfl)
    have y1 : w11.cell? ⟨g2, 1, none⟩ = some (.int .i64 ((((clSize l) : Nat) : Int))) := ((hB13.cell 1).trans rfl)
    simp [results, Try.results37, z0, y0, y1, go_sem]
  · exact ⟨_, rfl, rfl, hb16⟩

set_option maxRecDepth 100000 in
theorem wg5_any (l : List Li) (w : World) (a : Option Addr) (c : Nat) (hl : IsCl w l a c) (hlz : l.length ≤ 1048576) (goal : Bool) : Calls Try.prog 38 #[.slice a l.length c, .bool goal] w (Ret fun v' w' => v' = .agg #[.int .i64 (if goal = true then 0 else 1), .int .i64 (clSize l : Int)] ∧ Below w.heap.size w w') := by
  refine Calls.walk (l := [.slice a l.length c, .bool goal]) Try.func38 rfl (by kernel_rfl) ?_
  refine WC.sub (K' := [(0, .slice a l.length c), (1, .bool goal)]) ⟨rfl, rfl, trivial⟩ ?_
  refine WC.seq ?_
  refine WC.region ?_
  refine WL.step (post := NewBlk w 26 #[.int .i64 0, .int .i64 0]) rfl rfl rfl (fun za zC zh zk => alloc_26 rfl (zk _ _ (newBlk _ _ _))) ?_
  rintro _ w1 ⟨g2, rfl, hg3, hB4, hb5, hz6⟩
  have hl7 : w.heap.size ≤ g2 := by omega
  refine WL.nil (WE.sub (K' := [(0, .slice a l.length c), (1, .bool goal), (4, .pointer (some ⟨g2, 0, none⟩))]) ⟨rfl, rfl, rfl, trivial⟩ ?_)
  refine WE.next ?_
  refine WC.seq ?_
  refine WC.seq ?_
  refine WC.region ?_
  refine WL.val (.bool goal) rfl rfl rfl (fun za zC zh zk => wp_move rfl (zh.ev rfl) zk) ?_
  refine WL.nil (WE.sub (K' := [(0, .slice a l.length c), (1, .bool goal), (4, .pointer (some ⟨g2, 0, none⟩)), (5, .bool goal)]) ⟨rfl, rfl, rfl, rfl, trivial⟩ ?_)
  refine WE.next ?_
  refine WC.cond rfl (fun h8 => ?_) (fun h8 => ?_)
  · skip
    refine WC.seq ?_
    refine WC.region ?_
    refine WL.val (.slice a l.length c) rfl rfl rfl (fun za zC zh zk => wp_move rfl (zh.ev rfl) zk) ?_
    refine WL.call rfl rfl rfl (fun za zh zC => wp_call (by kernel_rfl) rfl (hv1 (zh.ev rfl))) (psize_any l _ _ _ (hl.below hb5) hlz) ?_
    rintro _ w10 ⟨rfl, hq9⟩
    refine WL.val (.agg #[.int .i64 0, .int .i64 ((((clSize l) : Nat) : Int))]) rfl rfl rfl (fun za zC zh zk => build_26_0_1 rfl (zh.ev rfl) (zh.ev rfl) zk) ?_
    have hB11 := hB4.below hq9
    refine WL.step (post := fun _ w' => Upd g2 w10 w' ∧ Blk w' g2 26 #[.int .i64 0, .int .i64 ((((clSize l) : Nat) : Int))]) rfl rfl rfl (fun za zC zh zk => st_26 rfl (zh.ev rfl) (zh.ev rfl) rfl rfl hB11 (by first | decide | simp) (fun v => zk v _ ⟨(Upd.at_ _ _ _ _).trans (Upd.at_ _ _ _ _), (hB11.set_ 0 _).set_ 1 _⟩)) ?_
    rintro v15 w12 ⟨hu13, hB14⟩
    have hb16 : Below w.heap.size w w10 := (bstep hb5 hq9)
    have hb17 := upd_below hb16 hu13 (by omega)
    refine WL.nil (WE.sub (K' := [(0, .slice a l.length c), (1, .bool goal), (4, .pointer (some ⟨g2, 0, none⟩)), (5, .bool goal)]) ⟨rfl, rfl, rfl, rfl, trivial⟩ ?_)
    refine WE.next ?_
    refine WC.ret ?_
    refine WE.thenRet ?_
    refine WE.retAny (v := .agg #[.int .i64 0, .int .i64 ((((clSize l) : Nat) : Int))]) (fun za zh => ?_) ?_
    · have z0 : za.tmps[4]?.getD undef = .pointer (some ⟨g2, 0, none⟩) := by rw [← Array.getD_eq_getD_getElem?]; exact zh.knows 4 _ rfl
      have y0 : w12.cell? ⟨g2, 0, none⟩ = some (.int .i64 0) := ((hB14.cell 0).trans rfl)
      have y1 : w12.cell? ⟨g2, 1, none⟩ = some (.int .i64 ((((clSize l) : Nat) : Int))) := ((hB14.cell 1).trans rfl)
      simp [results, Try.results38, z0, y0, y1, go_sem]
    · exact ⟨_, rfl, by rw [h8]; rfl, hb17⟩
  · skip
    refine WC.skip ?_
    refine WE.next ?_
    refine WC.seq ?_
    refine WC.region ?_
    refine WL.val (.slice a l.length c) rfl rfl rfl (fun za zC zh zk => wp_move rfl (zh.ev rfl) zk) ?_
    refine WL.call rfl rfl rfl (fun za zh zC => wp_call (by kernel_rfl) rfl (hv1 (zh.ev rfl))) (psize_any l _ _ _ (hl.below hb5) hlz) ?_
    rintro _ w19 ⟨rfl, hq18⟩
    refine WL.val (.agg #[.int .i64 1, .int .i64 ((((clSize l) : Nat) : Int))]) rfl rfl rfl (fun za zC zh zk => build_26_0_1 rfl (zh.ev rfl) (zh.ev rfl) zk) ?_
    have hB20 := hB4.below hq18
    refine WL.step (post := fun _ w' => Upd g2 w19 w' ∧ Blk w' g2 26 #[.int .i64 1, .int .i64 ((((clSize l) : Nat) : Int))]) rfl rfl rfl (fun za zC zh zk => st_26 rfl (zh.ev rfl) (zh.ev rfl) rfl rfl hB20 (by first | decide | simp) (fun v => zk v _ ⟨(Upd.at_ _ _ _ _).trans (Upd.at_ _ _ _ _), (hB20.set_ 0 _).set_ 1 _⟩)) ?_
    rintro v24 w21 ⟨hu22, hB23⟩
    have hb25 : Below w.heap.size w w19 := (bstep hb5 hq18)
    have hb26 := upd_below hb25 hu22 (by omega)
    refine WL.nil (WE.sub (K' := [(0, .slice a l.length c), (1, .bool goal), (4, .pointer (some ⟨g2, 0, none⟩)), (5, .bool goal)]) ⟨rfl, rfl, rfl, rfl, trivial⟩ ?_)
    refine WE.next ?_
    refine WC.ret ?_
    refine WE.retAny (v := .agg #[.int .i64 1, .int .i64 ((((clSize l) : Nat) : Int))]) (fun za zh => ?_) ?_
    · have z0 : za.tmps[4]?.getD undef = .pointer (some ⟨g2, 0, none⟩) := by rw [← Array.getD_eq_getD_getElem?]; exact zh.knows 4 _ rfl
      have y0 : w21.cell? ⟨g2, 0, none⟩ = some (.int .i64 1) := ((hB23.cell 0).trans rfl)
      have y1 : w21.cell? ⟨g2, 1, none⟩ = some (.int .i64 ((((clSize l) : Nat) : Int))) := ((hB23.cell 1).trans rfl)
      simp [results, Try.results38, z0, y0, y1, go_sem]
    · exact ⟨_, rfl, by rw [h8]; rfl, hb26⟩

set_option maxRecDepth 100000 in
theorem weights_any (w : World) : Calls Try.prog 21 #[] w (Ret fun v' w' => v' = .agg #[.func (.func 31) #[] #[], .func (.func 32) #[] #[], .func (.func 34) #[] #[], .func (.func 37) #[] #[], .func (.func 38) #[] #[]] ∧ Below w.heap.size w w') := by
  refine Calls.walk (l := []) Try.func21 rfl (by kernel_rfl) ?_
  refine WC.sub (K' := []) trivial ?_
  refine WC.seq ?_
  refine WC.region ?_
  refine WL.step (post := NewBlk w 58 #[.nilFunc, .nilFunc, .nilFunc, .nilFunc, .nilFunc]) rfl rfl rfl (fun za zC zh zk => alloc_58 rfl (zk _ _ (newBlk _ _ _))) ?_
  rintro _ w1 ⟨g2, rfl, hg3, hB4, hb5, hz6⟩
  have hl7 : w.heap.size ≤ g2 := by omega
  refine WL.nil (WE.sub (K' := [(0, .pointer (some ⟨g2, 0, none⟩))]) ⟨rfl, trivial⟩ ?_)
  refine WE.next ?_
  refine WC.seq ?_
  refine WC.region ?_
  refine WL.val (.agg #[.func (.func 31) #[] #[], .func (.func 32) #[] #[], .func (.func 34) #[] #[], .func (.func 37) #[] #[], .func (.func 38) #[] #[]]) rfl rfl rfl (fun za zC zh zk => build_58_0_1_2_3_4 rfl (zh.ev rfl) (zh.ev rfl) (zh.ev rfl) (zh.ev rfl) (zh.ev rfl) zk) ?_
  refine WL.step (post := fun _ w' => Upd g2 w1 w' ∧ Blk w' g2 58 #[.func (.func 31) #[] #[], .func (.func 32) #[] #[], .func (.func 34) #[] #[], .func (.func 37) #[] #[], .func (.func 38) #[] #[]]) rfl rfl rfl (fun za zC zh zk => st_58 rfl (zh.ev rfl) (zh.ev rfl) rfl rfl rfl rfl rfl hB4 (by first | decide | simp) (fun v => zk v _ ⟨((((Upd.at_ _ _ _ _).trans (Upd.at_ _ _ _ _)).trans (Upd.at_ _ _ _ _)).trans (Upd.at_ _ _ _ _)).trans (Upd.at_ _ _ _ _), ((((hB4.set_ 0 _).set_ 1 _).set_ 2 _).set_ 3 _).set_ 4 _⟩)) ?_
  rintro v11 w8 ⟨hu9, hB10⟩
  have hb12 := upd_below hb5 hu9 (by omega)
  refine WL.nil (WE.sub (K' := [(0, .pointer (some ⟨g2, 0, none⟩))]) ⟨rfl, trivial⟩ ?_)
  refine WE.next ?_
  refine WC.ret ?_
  refine WE.retAny (v := .agg #[.func (.func 31) #[] #[], .func (.func 32) #[] #[], .func (.func 34) #[] #[], .func (.func 37) #[] #[], .func (.func 38) #[] #[]]) (fun za zh => ?_) ?_
  · have z0 : za.tmps[0]?.getD undef = .pointer (some ⟨g2, 0, none⟩) := by rw [← Array.getD_eq_getD_getElem?]; exact zh.knows 0 _ rfl
    have y0 : w8.cell? ⟨g2, 0, none⟩ = some (.func (.func 31) #[] #[]) := ((hB10.cell 0).trans rfl)
    have y1 : w8.cell? ⟨g2, 1, none⟩ = some (.func (.func 32) #[] #[]) := ((hB10.cell 1).trans rfl)
    have y2 : w8.cell? ⟨g2, 2, none⟩ = some (.func (.func 34) #[] #[]) := ((hB10.cell 2).trans rfl)
    have y3 : w8.cell? ⟨g2, 3, none⟩ = some (.func (.func 37) #[] #[]) := ((hB10.cell 3).trans rfl)
    have y4 : w8.cell? ⟨g2, 4, none⟩ = some (.func (.func 38) #[] #[]) := ((hB10.cell 4).trans rfl)
    simp [results, Try.results21, z0, y0, y1, y2, y3, y4, go_sem]
  · exact ⟨_, rfl, rfl, hb12⟩

theorem idx5_0 {w : World} {a : Act} {K : Act → World → Prop} {Q : Exit → Act → World → Prop} {o : Oper} {x y : Operand} {f0 f1 f2 f3 f4 : Value} (ho : o.op = .index 58 x y) (hx : a.eval x = .agg #[f0, f1, f2, f3, f4]) (hy : a.eval y = .int .i64 0) (hK : K (a.put o.dst f0) w) : o.wp Try.prog a w K Q := by
  unfold Oper.wp execOp
  simp only [ho, hx, hy]
  go_simp
  exact hK
theorem idx5_1 {w : World} {a : Act} {K : Act → World → Prop} {Q : Exit → Act → World → Prop} {o : Oper} {x y : Operand} {f0 f1 f2 f3 f4 : Value} (ho : o.op = .index 58 x y) (hx : a.eval x = .agg #[f0, f1, f2, f3, f4]) (hy : a.eval y = .int .i64 1) (hK : K (a.put o.dst f1) w) : o.wp Try.prog a w K Q := by
  unfold Oper.wp execOp
  simp only [ho, hx, hy]
  go_simp
  exact hK
theorem idx5_2 {w : World} {a : Act} {K : Act → World → Prop} {Q : Exit → Act → World → Prop} {o : Oper} {x y : Operand} {f0 f1 f2 f3 f4 : Value} (ho : o.op = .index 58 x y) (hx : a.eval x = .agg #[f0, f1, f2, f3, f4]) (hy : a.eval y = .int .i64 2) (hK : K (a.put o.dst f2) w) : o.wp Try.prog a w K Q := by
  unfold Oper.wp execOp
  simp only [ho, hx, hy]
  go_simp
  exact hK
theorem idx5_3 {w : World} {a : Act} {K : Act → World → Prop} {Q : Exit → Act → World → Prop} {o : Oper} {x y : Operand} {f0 f1 f2 f3 f4 : Value} (ho : o.op = .index 58 x y) (hx : a.eval x = .agg #[f0, f1, f2, f3, f4]) (hy : a.eval y = .int .i64 3) (hK : K (a.put o.dst f3) w) : o.wp Try.prog a w K Q := by
  unfold Oper.wp execOp
  simp only [ho, hx, hy]
  go_simp
  exact hK
theorem idx5_4 {w : World} {a : Act} {K : Act → World → Prop} {Q : Exit → Act → World → Prop} {o : Oper} {x y : Operand} {f0 f1 f2 f3 f4 : Value} (ho : o.op = .index 58 x y) (hx : a.eval x = .agg #[f0, f1, f2, f3, f4]) (hy : a.eval y = .int .i64 4) (hK : K (a.put o.dst f4) w) : o.wp Try.prog a w K Q := by
  unfold Oper.wp execOp
  simp only [ho, hx, hy]
  go_simp
  exact hK
set_option maxRecDepth 100000 in
theorem weigh_0 (l : List Li) (w : World) (a : Option Addr) (c : Nat) (hl : IsCl w l a c) (hlz : l.length ≤ 1048576) (goal : Bool) : Calls Try.prog 8 #[.int .i64 0, .slice a l.length c, .bool goal] w (Ret fun v' w' => v' = .agg #[.int .i64 0, .int .i64 0] ∧ Below w.heap.size w w') := by
  refine Calls.walk (l := [.int .i64 0, .slice a l.length c, .bool goal]) Try.func8 rfl (by kernel_rfl) ?_
  refine WC.sub (K' := [(0, .int .i64 0), (1, .slice a l.length c), (2, .bool goal)]) ⟨rfl, rfl, rfl, trivial⟩ ?_
  refine WC.seq ?_
  refine WC.region ?_
  refine WL.step (post := NewBlk w 26 #[.int .i64 0, .int .i64 0]) rfl rfl rfl (fun za zC zh zk => alloc_26 rfl (zk _ _ (newBlk _ _ _))) ?_
  rintro _ w1 ⟨g2, rfl, hg3, hB4, hb5, hz6⟩
  have hl7 : w.heap.size ≤ g2 := by omega
  refine WL.nil (WE.sub (K' := [(0, .int .i64 0), (1, .slice a l.length c), (2, .bool goal), (6, .pointer (some ⟨g2, 0, none⟩))]) ⟨rfl, rfl, rfl, rfl, trivial⟩ ?_)
  refine WE.next ?_
  refine WC.seq ?_
  refine WC.seq ?_
  refine WC.region ?_
  refine WL.val (.int .i64 0) rfl rfl rfl (fun za zC zh zk => wp_move rfl (zh.ev rfl) zk) ?_
  refine WL.val (.bool false) rfl rfl rfl (fun za zC zh zk => lss_22 rfl (zh.ev rfl) (zh.ev rfl) zk) ?_
  refine WL.val (.bool false) rfl rfl rfl (fun za zC zh zk => wp_move rfl (zh.ev rfl) zk) ?_
  refine WL.want (d := 9) rfl rfl rfl ?_
  refine WL.val (.int .i64 0) rfl rfl rfl (fun za zC zh zk => wp_move rfl (zh.ev rfl) zk) ?_
  refine WL.want (d := 9) rfl rfl rfl ?_
  refine WL.val (.bool false) rfl rfl rfl (fun za zC zh zk => gtr_22 rfl (zh.ev rfl) (zh.ev rfl) zk) ?_
  refine WL.val (.bool false) rfl rfl rfl (fun za zC zh zk => wp_pickF rfl (zh.ev rfl) (zh.ev rfl) zk) ?_
  refine WL.nil (WE.sub (K' := [(0, .int .i64 0), (1, .slice a l.length c), (2, .bool goal), (6, .pointer (some ⟨g2, 0, none⟩)), (12, .bool false)]) ⟨rfl, rfl, rfl, rfl, rfl, trivial⟩ ?_)
  refine WE.next ?_
  refine WC.condF rfl rfl ?_
  refine WC.skip ?_
  refine WE.next ?_
  refine WC.seq ?_
  refine WC.region ?_
  refine WL.call rfl rfl rfl (fun za zh zC => wp_call (by kernel_rfl) rfl (hv0)) (weights_any _) ?_
  rintro _ w9 ⟨rfl, hq8⟩
  refine WL.val (.int .i64 0) rfl rfl rfl (fun za zC zh zk => wp_move rfl (zh.ev rfl) zk) ?_
  refine WL.val (.func (.func 31) #[] #[]) rfl rfl rfl (fun za zC zh zk => idx5_0 rfl (zh.ev rfl) (zh.ev rfl) zk) ?_
  refine WL.val (.slice a l.length c) rfl rfl rfl (fun za zC zh zk => wp_move rfl (zh.ev rfl) zk) ?_
  refine WL.val (.bool goal) rfl rfl rfl (fun za zC zh zk => wp_move rfl (zh.ev rfl) zk) ?_
  have hb10 : Below w.heap.size w w9 := (bstep hb5 hq8)
  refine WL.call rfl rfl rfl (fun za zh zC => wp_callv (by kernel_rfl) rfl (zh.ev rfl) (hv2 (zh.ev rfl) (zh.ev rfl))) (wg1_any l _ _ _ (hl.below hb10) hlz goal) ?_
  rintro _ w12 ⟨rfl, hq11⟩
  have hb14 : Below w1.heap.size w1 w12 := (bstep hq8 hq11)
  have hB13 := hB4.below hb14
  refine WL.step (post := fun _ w' => Upd g2 w12 w' ∧ Blk w' g2 26 #[.int .i64 0, .int .i64 0]) rfl rfl rfl (fun za zC zh zk => st_26 rfl (zh.ev rfl) (zh.ev rfl) rfl rfl hB13 (by first | decide | simp) (fun v => zk v _ ⟨(Upd.at_ _ _ _ _).trans (Upd.at_ _ _ _ _), (hB13.set_ 0 _).set_ 1 _⟩)) ?_
  rintro v18 w15 ⟨hu16, hB17⟩
  have hb19 : Below w.heap.size w w12 := (bstep hb5 hb14)
  have hb20 := upd_below hb19 hu16 (by omega)
  refine WL.nil (WE.sub (K' := [(0, .int .i64 0), (1, .slice a l.length c), (2, .bool goal), (6, .pointer (some ⟨g2, 0, none⟩)), (12, .bool false)]) ⟨rfl, rfl, rfl, rfl, rfl, trivial⟩ ?_)
  refine WE.next ?_
  refine WC.ret ?_
  refine WE.retAny (v := .agg #[.int .i64 0, .int .i64 0]) (fun za zh => ?_) ?_
  · have z0 : za.tmps[6]?.getD undef = .pointer (some ⟨g2, 0, none⟩) := by rw [← Array.getD_eq_getD_getElem?]; exact zh.knows 6 _ rfl
    have y0 : w15.cell? ⟨g2, 0, none⟩ = some (.int .i64 0) := ((hB17.cell 0).trans rfl)
    have y1 : w15.cell? ⟨g2, 1, none⟩ = some (.int .i64 0) := ((hB17.cell 1).trans rfl)
    simp [results, Try.results8, z0, y0, y1, go_sem]
  · exact ⟨_, rfl, rfl, hb20⟩

set_option maxRecDepth 100000 in
theorem weigh_1 (l : List Li) (w : World) (a : Option Addr) (c : Nat) (hl : IsCl w l a c) (hlz : l.length ≤ 1048576) (goal : Bool) : Calls Try.prog 8 #[.int .i64 1, .slice a l.length c, .bool goal] w (Ret fun v' w' => v' = .agg #[.int .i64 (clSize l : Int), .int .i64 0] ∧ Below w.heap.size w w') := by
  refine Calls.walk (l := [.int .i64 1, .slice a l.length c, .bool goal]) Try.func8 rfl (by kernel_rfl) ?_
  refine WC.sub (K' := [(0, .int .i64 1), (1, .slice a l.length c), (2, .bool goal)]) ⟨rfl, rfl, rfl, trivial⟩ ?_
  refine WC.seq ?_
  refine WC.region ?_
  refine WL.step (post := NewBlk w 26 #[.int .i64 0, .int .i64 0]) rfl rfl rfl (fun za zC zh zk => alloc_26 rfl (zk _ _ (newBlk _ _ _))) ?_
  rintro _ w1 ⟨g2, rfl, hg3, hB4, hb5, hz6⟩
  have hl7 : w.heap.size ≤ g2 := by omega
  refine WL.nil (WE.sub (K' := [(0, .int .i64 1), (1, .slice a l.length c), (2, .bool goal), (6, .pointer (some ⟨g2, 0, none⟩))]) ⟨rfl, rfl, rfl, rfl, trivial⟩ ?_)
  refine WE.next ?_
  refine WC.seq ?_
  refine WC.seq ?_
  refine WC.region ?_
  refine WL.val (.int .i64 1) rfl rfl rfl (fun za zC zh zk => wp_move rfl (zh.ev rfl) zk) ?_
  refine WL.val (.bool false) rfl rfl rfl (fun za zC zh zk => lss_22 rfl (zh.ev rfl) (zh.ev rfl) zk) ?_
  refine WL.val (.bool false) rfl rfl rfl (fun za zC zh zk => wp_move rfl (zh.ev rfl) zk) ?_
  refine WL.want (d := 9) rfl rfl rfl ?_
  refine WL.val (.int .i64 1) rfl rfl rfl (fun za zC zh zk => wp_move rfl (zh.ev rfl) zk) ?_
  refine WL.want (d := 9) rfl rfl rfl ?_
  refine WL.val (.bool false) rfl rfl rfl (fun za zC zh zk => gtr_22 rfl (zh.ev rfl) (zh.ev rfl) zk) ?_
  refine WL.val (.bool false) rfl rfl rfl (fun za zC zh zk => wp_pickF rfl (zh.ev rfl) (zh.ev rfl) zk) ?_
  refine WL.nil (WE.sub (K' := [(0, .int .i64 1), (1, .slice a l.length c), (2, .bool goal), (6, .pointer (some ⟨g2, 0, none⟩)), (12, .bool false)]) ⟨rfl, rfl, rfl, rfl, rfl, trivial⟩ ?_)
  refine WE.next ?_
  refine WC.condF rfl rfl ?_
  refine WC.skip ?_
  refine WE.next ?_
  refine WC.seq ?_
  refine WC.region ?_
  refine WL.call rfl rfl rfl (fun za zh zC => wp_call (by kernel_rfl) rfl (hv0)) (weights_any _) ?_
  rintro _ w9 ⟨rfl, hq8⟩
  refine WL.val (.int .i64 1) rfl rfl rfl (fun za zC zh zk => wp_move rfl (zh.ev rfl) zk) ?_
  refine WL.val (.func (.func 32) #[] #[]) rfl rfl rfl (fun za zC zh zk => idx5_1 rfl (zh.ev rfl) (zh.ev rfl) zk) ?_
  refine WL.val (.slice a l.length c) rfl rfl rfl (fun za zC zh zk => wp_move rfl (zh.ev rfl) zk) ?_
  refine WL.val (.bool goal) rfl rfl rfl (fun za zC zh zk => wp_move rfl (zh.ev rfl) zk) ?_
  have hb10 : Below w.heap.size w w9 := (bstep hb5 hq8)
  refine WL.call rfl rfl rfl (fun za zh zC => wp_callv (by kernel_rfl) rfl (zh.ev rfl) (hv2 (zh.ev rfl) (zh.ev rfl))) (wg2_any l _ _ _ (hl.below hb10) hlz goal) ?_
  rintro _ w12 ⟨rfl, hq11⟩
  have hb14 : Below w1.heap.size w1 w12 := (bstep hq8 hq11)
  have hB13 := hB4.below hb14
  refine WL.step (post := fun _ w' => Upd g2 w12 w' ∧ Blk w' g2 26 #[.int .i64 ((clSize l : Int)), .int .i64 0]) rfl rfl rfl (fun za zC zh zk => st_26 rfl (zh.ev rfl) (zh.ev rfl) rfl rfl hB13 (by first | decide | simp) (fun v => zk v _ ⟨(Upd.at_ _ _ _ _).trans (Upd.at_ _ _ _ _), (hB13.set_ 0 _).set_ 1 _⟩)) ?_
  rintro v18 w15 ⟨hu16, hB17⟩
  have hb19 : Below w.heap.size w w12 := (bstep hb5 hb14)
  have hb20 := upd_below hb19 hu16 (by omega)
  refine WL.nil (WE.sub (K' := [(0, .int .i64 1), (1, .slice a l.length c), (2, .bool goal), (6, .pointer (some ⟨g2, 0, none⟩)), (12, .bool false)]) ⟨rfl, rfl, rfl, rfl, rfl, trivial⟩ ?_)
  refine WE.next ?_
  refine WC.ret ?_
  refine WE.retAny (v := .agg #[.int .i64 ((clSize l : Int)), .int .i64 0]) (fun za zh => ?_) ?_
  · have z0 : za.tmps[6]?.getD undef = .pointer (some ⟨g2, 0, none⟩) := by rw [← Array.getD_eq_getD_getElem?]; exact zh.knows 6 _ rfl
    have y0 : w15.cell? ⟨g2, 0, none⟩ = some (.int .i64 ((clSize l : Int))) := ((hB17.cell 0).trans rfl)
    have y1 : w15.cell? ⟨g2, 1, none⟩ = some (.int .i64 0) := ((hB17.cell 1).trans rfl)
    simp [results, Try.results8, z0, y0, y1, go_sem]
  · exact ⟨_, rfl, rfl, hb20⟩

set_option maxRecDepth 100000 in
theorem weigh_2 (l : List Li) (w : World) (a : Option Addr) (c : Nat) (hl : IsCl w l a c) (hlz : l.length ≤ 1048576) (goal : Bool) : Calls Try.prog 8 #[.int .i64 2, .slice a l.length c, .bool goal] w (Ret fun v' w' => v' = .agg #[.int .i64 (clWgt l : Int), .int .i64 0] ∧ Below w.heap.size w w') := by
  refine Calls.walk (l := [.int .i64 2, .slice a l.length c, .bool goal]) Try.func8 rfl (by kernel_rfl) ?_
  refine WC.sub (K' := [(0, .int .i64 2), (1, .slice a l.length c), (2, .bool goal)]) ⟨rfl, rfl, rfl, trivial⟩ ?_
  refine WC.seq ?_
  refine WC.region ?_
  refine WL.step (post := NewBlk w 26 #[.int .i64 0, .int .i64 0]) rfl rfl rfl (fun za zC zh zk => alloc_26 rfl (zk _ _ (newBlk _ _ _))) ?_
  rintro _ w1 ⟨g2, rfl, hg3, hB4, hb5, hz6⟩
  have hl7 : w.heap.size ≤ g2 := by omega
  refine WL.nil (WE.sub (K' := [(0, .int .i64 2), (1, .slice a l.length c), (2, .bool goal), (6, .pointer (some ⟨g2, 0, none⟩))]) ⟨rfl, rfl, rfl, rfl, trivial⟩ ?_)
  refine WE.next ?_
  refine WC.seq ?_
  refine WC.seq ?_
  refine WC.region ?_
  refine WL.val (.int .i64 2) rfl rfl rfl (fun za zC zh zk => wp_move rfl (zh.ev rfl) zk) ?_
  refine WL.val (.bool false) rfl rfl rfl (fun za zC zh zk => lss_22 rfl (zh.ev rfl) (zh.ev rfl) zk) ?_
  refine WL.val (.bool false) rfl rfl rfl (fun za zC zh zk => wp_move rfl (zh.ev rfl) zk) ?_
  refine WL.want (d := 9) rfl rfl rfl ?_
  refine WL.val (.int .i64 2) rfl rfl rfl (fun za zC zh zk => wp_move rfl (zh.ev rfl) zk) ?_
  refine WL.want (d := 9) rfl rfl rfl ?_
  refine WL.val (.bool false) rfl rfl rfl (fun za zC zh zk => gtr_22 rfl (zh.ev rfl) (zh.ev rfl) zk) ?_
  refine WL.val (.bool false) rfl rfl rfl (fun za zC zh zk => wp_pickF rfl (zh.ev rfl) (zh.ev rfl) zk) ?_
  refine WL.nil (WE.sub (K' := [(0, .int .i64 2), (1, .slice a l.length c), (2, .bool goal), (6, .pointer (some ⟨g2, 0, none⟩)), (12, .bool false)]) ⟨rfl, rfl, rfl, rfl, rfl, trivial⟩ ?_)
  refine WE.next ?_
  refine WC.condF rfl rfl ?_
  refine WC.skip ?_
  refine WE.next ?_
  refine WC.seq ?_
  refine WC.region ?_
  refine WL.call rfl rfl rfl (fun za zh zC => wp_call (by kernel_rfl) rfl (hv0)) (weights_any _) ?_
  rintro _ w9 ⟨rfl, hq8⟩
  refine WL.val (.int .i64 2) rfl rfl rfl (fun za zC zh zk => wp_move rfl (zh.ev rfl) zk) ?_
  refine WL.val (.func (.func 34) #[] #[]) rfl rfl rfl (fun za zC zh zk => idx5_2 rfl (zh.ev rfl) (zh.ev rfl) zk) ?_
  refine WL.val (.slice a l.length c) rfl rfl rfl (fun za zC zh zk => wp_move rfl (zh.ev rfl) zk) ?_
  refine WL.val (.bool goal) rfl rfl rfl (fun za zC zh zk => wp_move rfl (zh.ev rfl) zk) ?_
  have hb10 : Below w.heap.size w w9 := (bstep hb5 hq8)
  refine WL.call rfl rfl rfl (fun za zh zC => wp_callv (by kernel_rfl) rfl (zh.ev rfl) (hv2 (zh.ev rfl) (zh.ev rfl))) (wg3_any l _ _ _ (hl.below hb10) hlz goal) ?_
  rintro _ w12 ⟨rfl, hq11⟩
  have hb14 : Below w1.heap.size w1 w12 := (bstep hq8 hq11)
  have hB13 := hB4.below hb14
  refine WL.step (post := fun _ w' => Upd g2 w12 w' ∧ Blk w' g2 26 #[.int .i64 ((clWgt l : Int)), .int .i64 0]) rfl rfl rfl (fun za zC zh zk => st_26 rfl (zh.ev rfl) (zh.ev rfl) rfl rfl hB13 (by first | decide | simp) (fun v => zk v _ ⟨(Upd.at_ _ _ _ _).trans (Upd.at_ _ _ _ _), (hB13.set_ 0 _).set_ 1 _⟩)) ?_
  rintro v18 w15 ⟨hu16, hB17⟩
  have hb19 : Below w.heap.size w w12 := (bstep hb5 hb14)
  have hb20 := upd_below hb19 hu16 (by omega)
  refine WL.nil (WE.sub (K' := [(0, .int .i64 2), (1, .slice a l.length c), (2, .bool goal), (6, .pointer (some ⟨g2, 0, none⟩)), (12, .bool false)]) ⟨rfl, rfl, rfl, rfl, rfl, trivial⟩ ?_)
  refine WE.next ?_
  refine WC.ret ?_
  refine WE.retAny (v := .agg #[.int .i64 ((clWgt l : Int)), .int .i64 0]) (fun za zh => ?_) ?_
  · have z0 : za.tmps[6]?.getD undef = .pointer (some ⟨g2, 0, none⟩) := by rw [← Array.getD_eq_getD_getElem?]; exact zh.knows 6 _ rfl
    have y0 : w15.cell? ⟨g2, 0, none⟩ = some (.int .i64 ((clWgt l : Int))) := ((hB17.cell 0).trans rfl)
    have y1 : w15.cell? ⟨g2, 1, none⟩ = some (.int .i64 0) := ((hB17.cell 1).trans rfl)
    simp [results, Try.results8, z0, y0, y1, go_sem]
  · exact ⟨_, rfl, rfl, hb20⟩

set_option maxRecDepth 100000 in
theorem weigh_3 (l : List Li) (w : World) (a : Option Addr) (c : Nat) (hl : IsCl w l a c) (hlz : l.length ≤ 1048576) (goal : Bool) : Calls Try.prog 8 #[.int .i64 3, .slice a l.length c, .bool goal] w (Ret fun v' w' => v' = .agg #[.int .i64 (l.length : Int), .int .i64 (clSize l : Int)] ∧ Below w.heap.size w w') := by
  refine Calls.walk (l := [.int .i64 3, .slice a l.length c, .bool goal]) Try.func8 rfl (by kernel_rfl) ?_
  refine WC.sub (K' := [(0, .int .i64 3), (1, .slice a l.length c), (2, .bool goal)]) ⟨rfl, rfl, rfl, trivial⟩ ?_
  refine WC.seq ?_
  refine WC.region ?_
  refine WL.step (post := NewBlk w 26 #[.int .i64 0, .int .i64 0]) rfl rfl rfl (fun za zC zh zk => alloc_26 rfl (zk _ _ (newBlk _ _ _))) ?_
  rintro _ w1 ⟨g2, rfl, hg3, hB4, hb5, hz6⟩
  have hl7 : w.heap.size ≤ g2 := by omega
  refine WL.nil (WE.sub (K' := [(0, .int .i64 3), (1, .slice a l.length c), (2, .bool goal), (6, .pointer (some ⟨g2, 0, none⟩))]) ⟨rfl, rfl, rfl, rfl, trivial⟩ ?_)
  refine WE.next ?_
  refine WC.seq ?_
  refine WC.seq ?_
  refine WC.region ?_
  refine WL.val (.int .i64 3) rfl rfl rfl (fun za zC zh zk => wp_move rfl (zh.ev rfl) zk) ?_
  refine WL.val (.bool false) rfl rfl rfl (fun za zC zh zk => lss_22 rfl (zh.ev rfl) (zh.ev rfl) zk) ?_
  refine WL.val (.bool false) rfl rfl rfl (fun za zC zh zk => wp_move rfl (zh.ev rfl) zk) ?_
  refine WL.want (d := 9) rfl rfl rfl ?_
  refine WL.val (.int .i64 3) rfl rfl rfl (fun za zC zh zk => wp_move rfl (zh.ev rfl) zk) ?_
  refine WL.want (d := 9) rfl rfl rfl ?_
  refine WL.val (.bool false) rfl rfl rfl (fun za zC zh zk => gtr_22 rfl (zh.ev rfl) (zh.ev rfl) zk) ?_
  refine WL.val (.bool false) rfl rfl rfl (fun za zC zh zk => wp_pickF rfl (zh.ev rfl) (zh.ev rfl) zk) ?_
  refine WL.nil (WE.sub (K' := [(0, .int .i64 3), (1, .slice a l.length c), (2, .bool goal), (6, .pointer (some ⟨g2, 0, none⟩)), (12, .bool false)]) ⟨rfl, rfl, rfl, rfl, rfl, trivial⟩ ?_)
  refine WE.next ?_
  refine WC.condF rfl rfl ?_
  refine WC.skip ?_
  refine WE.next ?_
  refine WC.seq ?_
  refine WC.region ?_
  refine WL.call rfl rfl rfl (fun za zh zC => wp_call (by kernel_rfl) rfl (hv0)) (weights_any _) ?_
  rintro _ w9 ⟨rfl, hq8⟩
  refine WL.val (.int .i64 3) rfl rfl rfl (fun za zC zh zk => wp_move rfl (zh.ev rfl) zk) ?_
  refine WL.val (.func (.func 37) #[] #[]) rfl rfl rfl (fun za zC zh zk => idx5_3 rfl (zh.ev rfl) (zh.ev rfl) zk) ?_
  refine WL.val (.slice a l.length c) rfl rfl rfl (fun za zC zh zk => wp_move rfl (zh.ev rfl) zk) ?_
  refine WL.val (.bool goal) rfl rfl rfl (fun za zC zh zk => wp_move rfl (zh.ev rfl) zk) ?_
  have hb10 : Below w.heap.size w w9 := (bstep hb5 hq8)
  refine WL.call rfl rfl rfl (fun za zh zC => wp_callv (by kernel_rfl) rfl (zh.ev rfl) (hv2 (zh.ev rfl) (zh.ev rfl))) (wg4_any l _ _ _ (hl.below hb10) hlz goal) ?_
  rintro _ w12 ⟨rfl, hq11⟩
  have hb14 : Below w1.heap.size w1 w12 := (bstep hq8 hq11)
  have hB13 := hB4.below hb14
  refine WL.step (post := fun _ w' => Upd g2 w12 w' ∧ Blk w' g2 26 #[.int .i64 ((l.length : Int)), .int .i64 ((clSize l : Int))]) rfl rfl rfl (fun za zC zh zk => st_26 rfl (zh.ev rfl) (zh.ev rfl) rfl rfl hB13 (by first | decide | simp) (fun v => zk v _ ⟨(Upd.at_ _ _ _ _).trans (Upd.at_ _ _ _ _), (hB13.set_ 0 _).set_ 1 _⟩)) ?_
  rintro v18 w15 ⟨hu16, hB17⟩
  have hb19 : Below w.heap.size w w12 := (bstep hb5 hb14)
  have hb20 := upd_below hb19 hu16 (by omega)
  refine WL.nil (WE.sub (K' := [(0, .int .i64 3), (1, .slice a l.length c), (2, .bool goal), (6, .pointer (some ⟨g2, 0, none⟩)), (12, .bool false)]) ⟨rfl, rfl, rfl, rfl, rfl, trivial⟩ ?_)
  refine WE.next ?_
  refine WC.ret ?_
  refine WE.retAny (v := .agg #[.int .i64 ((l.length : Int)), .int .i64 ((clSize l : Int))]) (fun za zh => ?_) ?_
  · have z0 : za.tmps[6]?.getD undef = .pointer (some ⟨g2, 0, none⟩) := by rw [← Array.getD_eq_getD_getElem?]; exact zh.knows 6 _ rfl
    have y0 : w15.cell? ⟨g2, 0, none⟩ = some (.int .i64 ((l.length : Int))) := ((hB17.cell 0).trans rfl)
    have y1 : w15.cell? ⟨g2, 1, none⟩ = some (.int .i64 ((clSize l : Int))) := ((hB17.cell 1).trans rfl)
    simp [results, Try.results8, z0, y0, y1, go_sem]
  · exact ⟨_, rfl, rfl, hb20⟩

set_option maxRecDepth 100000 in
theorem weigh_4 (l : List Li) (w : World) (a : Option Addr) (c : Nat) (hl : IsCl w l a c) (hlz : l.length ≤ 1048576) (goal : Bool) : Calls Try.prog 8 #[.int .i64 4, .slice a l.length c, .bool goal] w (Ret fun v' w' => v' = .agg #[.int .i64 (if goal = true then 0 else 1), .int .i64 (clSize l : Int)] ∧ Below w.heap.size w w') := by
  refine Calls.walk (l := [.int .i64 4, .slice a l.length c, .bool goal]) Try.func8 rfl (by kernel_rfl) ?_
  refine WC.sub (K' := [(0, .int .i64 4), (1, .slice a l.length c), (2, .bool goal)]) ⟨rfl, rfl, rfl, trivial⟩ ?_
  refine WC.seq ?_
  refine WC.region ?_
  refine WL.step (post := NewBlk w 26 #[.int .i64 0, .int .i64 0]) rfl rfl rfl (fun za zC zh zk => alloc_26 rfl (zk _ _ (newBlk _ _ _))) ?_
  rintro _ w1 ⟨g2, rfl, hg3, hB4, hb5, hz6⟩
  have hl7 : w.heap.size ≤ g2 := by omega
  refine WL.nil (WE.sub (K' := [(0, .int .i64 4), (1, .slice a l.length c), (2, .bool goal), (6, .pointer (some ⟨g2, 0, none⟩))]) ⟨rfl, rfl, rfl, rfl, trivial⟩ ?_)
  refine WE.next ?_
  refine WC.seq ?_
  refine WC.seq ?_
  refine WC.region ?_
  refine WL.val (.int .i64 4) rfl rfl rfl (fun za zC zh zk => wp_move rfl (zh.ev rfl) zk) ?_
  refine WL.val (.bool false) rfl rfl rfl (fun za zC zh zk => lss_22 rfl (zh.ev rfl) (zh.ev rfl) zk) ?_
  refine WL.val (.bool false) rfl rfl rfl (fun za zC zh zk => wp_move rfl (zh.ev rfl) zk) ?_
  refine WL.want (d := 9) rfl rfl rfl ?_
  refine WL.val (.int .i64 4) rfl rfl rfl (fun za zC zh zk => wp_move rfl (zh.ev rfl) zk) ?_
  refine WL.want (d := 9) rfl rfl rfl ?_
  refine WL.val (.bool false) rfl rfl rfl (fun za zC zh zk => gtr_22 rfl (zh.ev rfl) (zh.ev rfl) zk) ?_
  refine WL.val (.bool false) rfl rfl rfl (fun za zC zh zk => wp_pickF rfl (zh.ev rfl) (zh.ev rfl) zk) ?_
  refine WL.nil (WE.sub (K' := [(0, .int .i64 4), (1, .slice a l.length c), (2, .bool goal), (6, .pointer (some ⟨g2, 0, none⟩)), (12, .bool false)]) ⟨rfl, rfl, rfl, rfl, rfl, trivial⟩ ?_)
  refine WE.next ?_
  refine WC.condF rfl rfl ?_
  refine WC.skip ?_
  refine WE.next ?_
  refine WC.seq ?_
  refine WC.region ?_
  refine WL.call rfl rfl rfl (fun za zh zC => wp_call (by kernel_rfl) rfl (hv0)) (weights_any _) ?_
  rintro _ w9 ⟨rfl, hq8⟩
  refine WL.val (.int .i64 4) rfl rfl rfl (fun za zC zh zk => wp_move rfl (zh.ev rfl) zk) ?_
  refine WL.val (.func (.func 38) #[] #[]) rfl rfl rfl (fun za zC zh zk => idx5_4 rfl (zh.ev rfl) (zh.ev rfl) zk) ?_
  refine WL.val (.slice a l.length c) rfl rfl rfl (fun za zC zh zk => wp_move rfl (zh.ev rfl) zk) ?_
  refine WL.val (.bool goal) rfl rfl rfl (fun za zC zh zk => wp_move rfl (zh.ev rfl) zk) ?_
  have hb10 : Below w.heap.size w w9 := (bstep hb5 hq8)
  refine WL.call rfl rfl rfl (fun za zh zC => wp_callv (by kernel_rfl) rfl (zh.ev rfl) (hv2 (zh.ev rfl) (zh.ev rfl))) (wg5_any l _ _ _ (hl.below hb10) hlz goal) ?_
  rintro _ w12 ⟨rfl, hq11⟩
  have hb14 : Below w1.heap.size w1 w12 := (bstep hq8 hq11)
  have hB13 := hB4.below hb14
  refine WL.step (post := fun _ w' => Upd g2 w12 w' ∧ Blk w' g2 26 #[.int .i64 ((if goal = true then 0 else 1)), .int .i64 ((clSize l : Int))]) rfl rfl rfl (fun za zC zh zk => st_26 rfl (zh.ev rfl) (zh.ev rfl) rfl rfl hB13 (by first | decide | simp) (fun v => zk v _ ⟨(Upd.at_ _ _ _ _).trans (Upd.at_ _ _ _ _), (hB13.set_ 0 _).set_ 1 _⟩)) ?_
  rintro v18 w15 ⟨hu16, hB17⟩
  have hb19 : Below w.heap.size w w12 := (bstep hb5 hb14)
  have hb20 := upd_below hb19 hu16 (by omega)
  refine WL.nil (WE.sub (K' := [(0, .int .i64 4), (1, .slice a l.length c), (2, .bool goal), (6, .pointer (some ⟨g2, 0, none⟩)), (12, .bool false)]) ⟨rfl, rfl, rfl, rfl, rfl, trivial⟩ ?_)
  refine WE.next ?_
  refine WC.ret ?_
  refine WE.retAny (v := .agg #[.int .i64 ((if goal = true then 0 else 1)), .int .i64 ((clSize l : Int))]) (fun za zh => ?_) ?_
  · have z0 : za.tmps[6]?.getD undef = .pointer (some ⟨g2, 0, none⟩) := by rw [← Array.getD_eq_getD_getElem?]; exact zh.knows 6 _ rfl
    have y0 : w15.cell? ⟨g2, 0, none⟩ = some (.int .i64 ((if goal = true then 0 else 1))) := ((hB17.cell 0).trans rfl)
    have y1 : w15.cell? ⟨g2, 1, none⟩ = some (.int .i64 ((clSize l : Int))) := ((hB17.cell 1).trans rfl)
    simp [results, Try.results8, z0, y0, y1, go_sem]
  · exact ⟨_, rfl, rfl, hb20⟩

set_option maxRecDepth 100000 in
theorem weigh_bad (k : Int) (hk : k < 0 ∨ 4 < k) (l : List Li) (w : World) (a : Option Addr) (c : Nat) (hl : IsCl w l a c) (hlz : l.length ≤ 1048576) (goal : Bool) : Calls Try.prog 8 #[.int .i64 k, .slice a l.length c, .bool goal] w (Ret fun v' w' => v' = .agg #[.int .i64 0, .int .i64 0] ∧ Below w.heap.size w w') := by
  refine Calls.walk (l := [.int .i64 k, .slice a l.length c, .bool goal]) Try.func8 rfl (by kernel_rfl) ?_
  refine WC.sub (K' := [(0, .int .i64 k), (1, .slice a l.length c), (2, .bool goal)]) ⟨rfl, rfl, rfl, trivial⟩ ?_
  refine WC.seq ?_
  refine WC.region ?_
  refine WL.step (post := NewBlk w 26 #[.int .i64 0, .int .i64 0]) rfl rfl rfl (fun za zC zh zk => alloc_26 rfl (zk _ _ (newBlk _ _ _))) ?_
  rintro _ w1 ⟨g2, rfl, hg3, hB4, hb5, hz6⟩
  have hl7 : w.heap.size ≤ g2 := by omega
  refine WL.nil (WE.sub (K' := [(0, .int .i64 k), (1, .slice a l.length c), (2, .bool goal), (6, .pointer (some ⟨g2, 0, none⟩))]) ⟨rfl, rfl, rfl, rfl, trivial⟩ ?_)
  refine WE.next ?_
  refine WC.seq ?_
  refine WC.seq ?_
  refine WC.opt [(true, .val (.int .i64 k)), (true, .val (.bool ((decide ((k : Int) < (0 : Int)))))), (true, .val (.bool ((decide ((k : Int) < (0 : Int)))))), ((true && !(decide ((k : Int) < (0 : Int)))), .val (.int .i64 k)), ((true && !(decide ((k : Int) < (0 : Int)))), .val (.bool ((decide ((4 : Int) < (k : Int)))))), (true, .val (.bool (((decide ((k : Int) < (0 : Int))) || (decide ((4 : Int) < (k : Int)))))))] [(0, .int .i64 k), (1, .slice a l.length c), (2, .bool goal), (6, .pointer (some ⟨g2, 0, none⟩))] ⟨rfl, rfl, rfl, rfl, trivial⟩ (by kernel_rfl) (by kernel_rfl) (by kernel_rfl) ?_ ?_
  · refine ⟨⟨true, .none rfl, fun h w => optUndef h, fun zβ za zw zc => ?_⟩, ?_⟩
    · exact wp_move rfl (zc.kn.ev rfl) ⟨_, rfl, Below.refl _ _, optDef zβ rfl⟩
    refine ⟨⟨true, .none rfl, fun h w => optUndef h, fun zβ za zw zc => ?_⟩, ?_⟩
    · exact lss_22 rfl ((show za.eval (.tmp 7) = za.tmps.getD 7 undef from rfl).trans (optVal (zc.dep 0 7 (by kernel_rfl)) rfl rfl)) (zc.kn.ev rfl) ⟨_, rfl, Below.refl _ _, optDef zβ rfl⟩
    refine ⟨⟨true, .none rfl, fun h w => optUndef h, fun zβ za zw zc => ?_⟩, ?_⟩
    · exact wp_move rfl ((show za.eval (.tmp 8) = za.tmps.getD 8 undef from rfl).trans (optVal (zc.dep 1 8 (by kernel_rfl)) rfl rfl)) ⟨_, rfl, Below.refl _ _, optDef zβ rfl⟩
    refine ⟨⟨(true && !(decide ((k : Int) < (0 : Int)))), .no (c := (decide ((k : Int) < (0 : Int)))) (d := true) rfl (fun v w h => h), fun h w => optUndef h, fun zβ za zw zc => ?_⟩, ?_⟩
    · exact wp_move rfl (zc.kn.ev rfl) ⟨_, rfl, Below.refl _ _, optDef zβ rfl⟩
    refine ⟨⟨(true && !(decide ((k : Int) < (0 : Int)))), .no (c := (decide ((k : Int) < (0 : Int)))) (d := true) rfl (fun v w h => h), fun h w => optUndef h, fun zβ za zw zc => ?_⟩, ?_⟩
    · exact gtr_22 rfl ((show za.eval (.tmp 10) = za.tmps.getD 10 undef from rfl).trans (optVal (zc.dep 3 10 (by kernel_rfl)) rfl zβ)) (zc.kn.ev rfl) ⟨_, rfl, Below.refl _ _, optDef zβ rfl⟩
    refine ⟨⟨true, .none rfl, fun h w => optUndef h, fun zβ za zw zc => ?_⟩, ?_⟩
    · exact wp_or rfl ((show za.eval (.tmp 9) = za.tmps.getD 9 undef from rfl).trans (optVal (zc.dep 2 9 (by kernel_rfl)) rfl rfl)) (fun hp => ((show za.eval (.tmp 11) = za.tmps.getD 11 undef from rfl).trans (optVal (zc.dep 4 11 (by kernel_rfl)) rfl (bMkN zβ hp)))) ⟨_, rfl, Below.refl _ _, optDef zβ rfl⟩
    exact trivial
  · intro za w8 zh hb9 zu
    have zh := zh.cons (d := 12) (v := .bool (((decide ((k : Int) < (0 : Int))) || (decide ((4 : Int) < (k : Int)))))) (optVal (zu 5 12 (by kernel_rfl)) rfl rfl)
    clear zu
    refine (show WE _ [(0, .int .i64 k), (1, .slice a l.length c), (2, .bool goal), (6, .pointer (some ⟨g2, 0, none⟩)), (12, .bool (((decide ((k : Int) < (0 : Int))) || (decide ((4 : Int) < (k : Int))))))] w8 _ .normal from ?_) za (zh.sub ⟨rfl, rfl, rfl, rfl, rfl, trivial⟩)
    refine WE.next ?_
    refine WC.condT rfl (by simp; omega) ?_
    refine WC.seq ?_
    refine WC.region ?_
    refine WL.val (.agg #[.int .i64 0, .int .i64 0]) rfl rfl rfl (fun za zC zh zk => build_26_ rfl  zk) ?_
    have hB10 := hB4.below hb9
    refine WL.step (post := fun _ w' => Upd g2 w8 w' ∧ Blk w' g2 26 #[.int .i64 0, .int .i64 0]) rfl rfl rfl (fun za zC zh zk => st_26 rfl (zh.ev rfl) (zh.ev rfl) rfl rfl hB10 (by first | decide | simp) (fun v => zk v _ ⟨(Upd.at_ _ _ _ _).trans (Upd.at_ _ _ _ _), (hB10.set_ 0 _).set_ 1 _⟩)) ?_
    rintro v14 w11 ⟨hu12, hB13⟩
    have hb15 : Below w.heap.size w w8 := (bstep hb5 hb9)
    have hb16 := upd_below hb15 hu12 (by omega)
    refine WL.nil (WE.sub (K' := [(0, .int .i64 k), (1, .slice a l.length c), (2, .bool goal), (6, .pointer (some ⟨g2, 0, none⟩)), (12, .bool (((decide ((k : Int) < (0 : Int))) || (decide ((4 : Int) < (k : Int))))))]) ⟨rfl, rfl, rfl, rfl, rfl, trivial⟩ ?_)
    refine WE.next ?_
    refine WC.ret ?_
    refine WE.thenRet ?_
    refine WE.retAny (v := .agg #[.int .i64 0, .int .i64 0]) (fun za zh => ?_) ?_
    · have z0 : za.tmps[6]?.getD undef = .pointer (some ⟨g2, 0, none⟩) := by rw [← Array.getD_eq_getD_getElem?]; exact zh.knows 6 _ rfl
      have y0 : w11.cell? ⟨g2, 0, none⟩ = some (.int .i64 0) := ((hB13.cell 0).trans rfl)
      have y1 : w11.cell? ⟨g2, 1, none⟩ = some (.int .i64 0) := ((hB13.cell 1).trans rfl)
      simp [results, Try.results8, z0, y0, y1, go_sem]
    · exact ⟨_, rfl, rfl, hb16⟩

theorem weigh_any (k : Int) (l : List Li) (w : World) (a : Option Addr) (c : Nat) (hl : IsCl w l a c) (hlz : l.length ≤ 1048576) (goal : Bool) : Calls Try.prog 8 #[.int .i64 k, .slice a l.length c, .bool goal] w (Ret fun v' w' => v' = .agg #[.int .i64 (weighP k l goal).1, .int .i64 (weighP k l goal).2] ∧ Below w.heap.size w w') := by
  by_cases hk : k < 0 ∨ 4 < k
  · have e : weighP k l goal = (0, 0) := by unfold weighP; rw [if_neg (by omega), if_neg (by omega), if_neg (by omega), if_neg (by omega)]
    rw [e]; exact weigh_bad k hk l w a c hl hlz goal
  · rcases (show k = 0 ∨ k = 1 ∨ k = 2 ∨ k = 3 ∨ k = 4 by omega) with rfl | rfl | rfl | rfl | rfl
    · exact weigh_0 l w a c hl hlz goal
    · exact weigh_1 l w a c hl hlz goal
    · exact weigh_2 l w a c hl hlz goal
    · exact weigh_3 l w a c hl hlz goal
    · exact weigh_4 l w a c hl hlz goal
set_option maxRecDepth 100000 in
theorem rweigh_any (k : Int) (l : List Li) (w : World) (a : Option Addr) (c : Nat) (hl : IsCl w l a c) (hlz : l.length ≤ 1048576) (goal : Bool) : Calls Try.prog 9 #[.int .i64 k, .slice a l.length c, .bool goal] w (Ret fun v' w' => v' = .agg #[.int .i64 (weighP k l goal).1, .int .i64 (weighP k l goal).2] ∧ Below w.heap.size w w') := by
  have hr := hl.rows
  have hlw : ∀ k, clWgt (l.take k) ≤ l.length * 17179869184 := fun k => clWgt_le (fun x hx => ⟨hl.partsL x hx, hl.partsR x hx⟩) k
  have hle : ∀ k, clSize (l.take k) ≤ l.length * 8589934592 := fun k => clSize_le (fun x hx => ⟨hl.partsL x hx, hl.partsR x hx⟩) k
  have hpl : ∀ k, k < l.length → (lget l k).l.size ≤ 4294967296 := fun k h => hl.pl h
  have hpr : ∀ k, k < l.length → (lget l k).r.size ≤ 4294967296 := fun k h => hl.pr h
  refine Calls.walk (l := [.int .i64 k, .slice a l.length c, .bool goal]) Try.func9 rfl (by kernel_rfl) ?_
  refine WC.sub (K' := [(0, .int .i64 k), (1, .slice a l.length c), (2, .bool goal)]) ⟨rfl, rfl, rfl, trivial⟩ ?_
  refine WC.seq ?_
  refine WC.region ?_
  refine WL.step (post := NewBlk w 26 #[.int .i64 0, .int .i64 0]) rfl rfl rfl (fun za zC zh zk => alloc_26 rfl (zk _ _ (newBlk _ _ _))) ?_
  rintro _ w1 ⟨g2, rfl, hg3, hB4, hb5, hz6⟩
  have hl7 : w.heap.size ≤ g2 := by omega
  refine WL.nil (WE.sub (K' := [(0, .int .i64 k), (1, .slice a l.length c), (2, .bool goal), (6, .pointer (some ⟨g2, 0, none⟩))]) ⟨rfl, rfl, rfl, rfl, trivial⟩ ?_)
  refine WE.next ?_
  refine WC.seq ?_
  refine WC.seq ?_
  refine WC.region ?_
  refine WL.val (.int .i64 k) rfl rfl rfl (fun za zC zh zk => wp_move rfl (zh.ev rfl) zk) ?_
  refine WL.nil (WE.sub (K' := [(0, .int .i64 k), (1, .slice a l.length c), (2, .bool goal), (6, .pointer (some ⟨g2, 0, none⟩)), (9, .int .i64 k)]) ⟨rfl, rfl, rfl, rfl, rfl, trivial⟩ ?_)
  refine WE.next ?_
  refine WC.block ?_
  refine WC.seq ?_
  refine WC.region ?_
  refine WL.val (.bool (((k : Int) == (1 : Int)))) rfl rfl rfl (fun za zC zh zk => eql_22 rfl (zh.ev rfl) (zh.ev rfl) zk) ?_
  refine WL.val (.bool (((k : Int) == (1 : Int)))) rfl rfl rfl (fun za zC zh zk => wp_assign rfl (zh.ev rfl) zk) ?_
  refine WL.nil (WE.sub (K' := [(0, .int .i64 k), (1, .slice a l.length c), (2, .bool goal), (6, .pointer (some ⟨g2, 0, none⟩)), (9, .int .i64 k), (10, .bool (((k : Int) == (1 : Int))))]) ⟨rfl, rfl, rfl, rfl, rfl, rfl, trivial⟩ ?_)
  refine WE.next ?_
  refine WC.cond rfl (fun h8 => ?_) (fun h8 => ?_)
  · have h8 : (k : Int) = (1 : Int) := by simpa using h8
    refine WC.seq ?_
    refine WC.region ?_
    refine WL.val (.slice a l.length c) rfl rfl rfl (fun za zC zh zk => wp_move rfl (zh.ev rfl) zk) ?_
    refine WL.call rfl rfl rfl (fun za zh zC => wp_call (by kernel_rfl) rfl (hv1 (zh.ev rfl))) (rsizec_any l _ _ _ (hl.below hb5) hlz) ?_
    rintro _ w10 ⟨rfl, hq9⟩
    refine WL.val (.agg #[.int .i64 ((((clSize l) : Nat) : Int)), .int .i64 0]) rfl rfl rfl (fun za zC zh zk => build_26_0_1 rfl (zh.ev rfl) (zh.ev rfl) zk) ?_
    have hB11 := hB4.below hq9
    refine WL.step (post := fun _ w' => Upd g2 w10 w' ∧ Blk w' g2 26 #[.int .i64 ((((clSize l) : Nat) : Int)), .int .i64 0]) rfl rfl rfl (fun za zC zh zk => st_26 rfl (zh.ev rfl) (zh.ev rfl) rfl rfl hB11 (by first | decide | simp) (fun v => zk v _ ⟨(Upd.at_ _ _ _ _).trans (Upd.at_ _ _ _ _), (hB11.set_ 0 _).set_ 1 _⟩)) ?_
    rintro v15 w12 ⟨hu13, hB14⟩
    have hb16 : Below w.heap.size w w10 := (bstep hb5 hq9)
    have hb17 := upd_below hb16 hu13 (by omega)
    refine WL.nil (WE.sub (K' := [(0, .int .i64 k), (1, .slice a l.length c), (2, .bool goal), (6, .pointer (some ⟨g2, 0, none⟩)), (9, .int .i64 k), (10, .bool (((k : Int) == (1 : Int))))]) ⟨rfl, rfl, rfl, rfl, rfl, rfl, trivial⟩ ?_)
    refine WE.next ?_
    refine WC.ret ?_
    refine WE.blockRet ?_
    refine WE.thenRet ?_
    refine WE.retAny (v := .agg #[.int .i64 ((((clSize l) : Nat) : Int)), .int .i64 0]) (fun za zh => ?_) ?_
    · have z0 : za.tmps[6]?.getD undef = .pointer (some ⟨g2, 0, none⟩) := by rw [← Array.getD_eq_getD_getElem?]; exact zh.knows 6 _ rfl
      have y0 : w12.cell? ⟨g2, 0, none⟩ = some (.int .i64 ((((clSize l) : Nat) : Int))) := ((hB14.cell 0).trans rfl)
      have y1 : w12.cell? ⟨g2, 1, none⟩ = some (.int .i64 0) := ((hB14.cell 1).trans rfl)
      simp [results, Try.results9, z0, y0, y1, go_sem]
    · exact ⟨_, rfl, by unfold weighP; rw [if_pos h8], hb17⟩
  · have h8 : ¬ ((k : Int) = (1 : Int)) := by simpa using h8
    refine WC.seq ?_
    refine WC.region ?_
    refine WL.val (.bool (((k : Int) == (2 : Int)))) rfl rfl rfl (fun za zC zh zk => eql_22 rfl (zh.ev rfl) (zh.ev rfl) zk) ?_
    refine WL.val (.bool (((k : Int) == (2 : Int)))) rfl rfl rfl (fun za zC zh zk => wp_assign rfl (zh.ev rfl) zk) ?_
    refine WL.nil (WE.sub (K' := [(0, .int .i64 k), (1, .slice a l.length c), (2, .bool goal), (6, .pointer (some ⟨g2, 0, none⟩)), (9, .int .i64 k), (10, .bool (((k : Int) == (1 : Int)))), (15, .bool (((k : Int) == (2 : Int))))]) ⟨rfl, rfl, rfl, rfl, rfl, rfl, rfl, trivial⟩ ?_)
    refine WE.next ?_
    refine WC.cond rfl (fun h18 => ?_) (fun h18 => ?_)
    · have h18 : (k : Int) = (2 : Int) := by simpa using h18
      refine WC.seq ?_
      refine WC.region ?_
      refine WL.val (.int .i64 0) rfl rfl rfl (fun za zC zh zk => wp_assign rfl (zh.ev rfl) zk) ?_
      refine WL.nil (WE.sub (K' := [(0, .int .i64 k), (1, .slice a l.length c), (2, .bool goal), (6, .pointer (some ⟨g2, 0, none⟩)), (7, .int .i64 0), (9, .int .i64 k), (10, .bool (((k : Int) == (1 : Int)))), (15, .bool (((k : Int) == (2 : Int))))]) ⟨rfl, rfl, rfl, rfl, rfl, rfl, rfl, rfl, trivial⟩ ?_)
      refine WE.next ?_
      refine WC.seq ?_
      refine WC.seq ?_
      refine WC.region ?_
      refine WL.val (.int .i64 0) rfl rfl rfl (fun za zC zh zk => wp_assign rfl (zh.ev rfl) zk) ?_
      refine WL.nil (WE.sub (K' := [(0, .int .i64 k), (1, .slice a l.length c), (2, .bool goal), (6, .pointer (some ⟨g2, 0, none⟩)), (7, .int .i64 0), (8, .int .i64 0), (9, .int .i64 k), (10, .bool (((k : Int) == (1 : Int)))), (15, .bool (((k : Int) == (2 : Int))))]) ⟨rfl, rfl, rfl, rfl, rfl, rfl, rfl, rfl, rfl, trivial⟩ ?_)
      refine WE.next ?_
      refine WC.block ?_
      refine WC.loop (X := Nat) (fun i => l.length - i) (fun i => [(0, .int .i64 k), (1, .slice a l.length c), (2, .bool goal), (6, .pointer (some ⟨g2, 0, none⟩)), (7, .int .i64 ((((clWgt (l.take i)) : Nat) : Int))), (8, .int .i64 (((i : Nat) : Int))), (9, .int .i64 k), (10, .bool (((k : Int) == (1 : Int)))), (15, .bool (((k : Int) == (2 : Int))))]) (fun i w19 => i ≤ l.length ∧ Below w.heap.size w w19 ∧ Blk w19 g2 26 #[.int .i64 0, .int .i64 0]) 0 ⟨rfl, rfl, rfl, rfl, rfl, rfl, rfl, rfl, rfl, trivial⟩ ?_ ?_
      · exact ⟨Nat.zero_le _, hb5, hB4⟩
      · rintro i w19 ⟨hk, hb20, hB21⟩
        refine WC.seq ?_
        refine WC.seq ?_
        refine WC.region ?_
        refine WL.val (.int .i64 (((i : Nat) : Int))) rfl rfl rfl (fun za zC zh zk => wp_move rfl (zh.ev rfl) zk) ?_
        refine WL.val (.slice a l.length c) rfl rfl rfl (fun za zC zh zk => wp_move rfl (zh.ev rfl) zk) ?_
        refine WL.val (.int .i64 (((l.length : Nat) : Int))) rfl rfl rfl (fun za zC zh zk => len_24 rfl (zh.ev rfl) zk) ?_
        refine WL.val (.bool ((decide ((((i : Nat) : Int) : Int) < (((l.length : Nat) : Int) : Int))))) rfl rfl rfl (fun za zC zh zk => lss_3 rfl (zh.ev rfl) (zh.ev rfl) zk) ?_
        refine WL.nil (WE.sub (K' := [(0, .int .i64 k), (1, .slice a l.length c), (2, .bool goal), (6, .pointer (some ⟨g2, 0, none⟩)), (7, .int .i64 ((((clWgt (l.take i)) : Nat) : Int))), (8, .int .i64 (((i : Nat) : Int))), (9, .int .i64 k), (10, .bool (((k : Int) == (1 : Int)))), (15, .bool (((k : Int) == (2 : Int)))), (20, .bool ((decide ((((i : Nat) : Int) : Int) < (((l.length : Nat) : Int) : Int)))))]) ⟨rfl, rfl, rfl, rfl, rfl, rfl, rfl, rfl, rfl, rfl, trivial⟩ ?_)
        refine WE.next ?_
        refine WC.cond rfl (fun h22 => ?_) (fun h22 => ?_)
        · have h22 : (((i : Nat) : Int) : Int) < (((l.length : Nat) : Int) : Int) := by simpa using h22
          refine WC.skip ?_
          refine WE.next ?_
          refine WC.seq ?_
          refine WC.block ?_
          refine WC.seq ?_
          refine WC.region ?_
          refine WL.val (.int .i64 ((((clWgt (l.take i)) : Nat) : Int))) rfl rfl rfl (fun za zC zh zk => wp_move rfl (zh.ev rfl) zk) ?_
          refine WL.val (.slice a l.length c) rfl rfl rfl (fun za zC zh zk => wp_move rfl (zh.ev rfl) zk) ?_
          refine WL.val (.int .i64 (((i : Nat) : Int))) rfl rfl rfl (fun za zC zh zk => wp_move rfl (zh.ev rfl) zk) ?_
          obtain ⟨b23, o24, A25, C26, A27, C28, ha29, hc30⟩ := InRow.openL hr
          refine WL.val (.pointer (some ⟨b23, o24 + i * 5, none⟩)) rfl rfl rfl (fun za zC zh zk => ix_24 (k := i) rfl (zh.ev rfl) (ha29 i (by first | omega | (simp; omega))) (zh.ev rfl) (by first | omega | (simp; omega)) zk) ?_
          refine WL.val (.pointer (some ⟨b23, o24 + i * 5 + 1, none⟩)) rfl rfl rfl (fun za zC zh zk => fld_65_1 rfl (zh.ev rfl) zk) ?_
          refine WL.val (.agg #[.int .i64 ((lget l i).l.f), .slice ((A25 i)) ((lget l i).l.args.length) ((C26 i))]) rfl rfl rfl (fun za zC zh zk => ld_63 rfl (zh.ev rfl) (bkeeps hb20 _ _ (hc30 i (by first | omega | (simp; omega))).2.1) (bkeeps hb20 _ _ (hc30 i (by first | omega | (simp; omega))).2.2.1) zk) ?_
          refine WL.call rfl rfl rfl (fun za zh zC => wp_call (by kernel_rfl) rfl (hv1 (zh.ev rfl))) (rweight_any (lget l i).l _ _ (hpl i (by omega)) (IsT.below hb20 (InT.isT (hc30 i (by first | omega | (simp; omega))).2.2.2.2.2.1))) ?_
          rintro _ w32 ⟨rfl, hq31⟩
          refine WL.val (.int .i64 ((((clWgt (l.take i) + (lget l i).l.wgt) : Nat) : Int))) rfl rfl rfl (fun za zC zh zk => addb_3 rfl (zh.ev rfl) (zh.ev rfl) (wrap_eq (by omega) (by omega) (by have z := hlw i; have z2 := T.wgt_le (lget l i).l; have z3 := hpl i (by omega); omega)) zk) ?_
          refine WL.val (.int .i64 ((((clWgt (l.take i) + (lget l i).l.wgt) : Nat) : Int))) rfl rfl rfl (fun za zC zh zk => wp_assign rfl (zh.ev rfl) zk) ?_
          refine WL.nil (WE.sub (K' := [(0, .int .i64 k), (1, .slice a l.length c), (2, .bool goal), (6, .pointer (some ⟨g2, 0, none⟩)), (7, .int .i64 ((((clWgt (l.take i) + (lget l i).l.wgt) : Nat) : Int))), (8, .int .i64 (((i : Nat) : Int))), (9, .int .i64 k), (10, .bool (((k : Int) == (1 : Int)))), (15, .bool (((k : Int) == (2 : Int)))), (20, .bool ((decide ((((i : Nat) : Int) : Int) < (((l.length : Nat) : Int) : Int)))))]) ⟨rfl, rfl, rfl, rfl, rfl, rfl, rfl, rfl, rfl, rfl, trivial⟩ ?_)
          refine WE.next ?_
          refine WC.seq ?_
          refine WC.region ?_
          refine WL.val (.slice a l.length c) rfl rfl rfl (fun za zC zh zk => wp_move rfl (zh.ev rfl) zk) ?_
          refine WL.val (.int .i64 (((i : Nat) : Int))) rfl rfl rfl (fun za zC zh zk => wp_move rfl (zh.ev rfl) zk) ?_
          refine WL.val (.pointer (some ⟨b23, o24 + i * 5, none⟩)) rfl rfl rfl (fun za zC zh zk => ix_24 (k := i) rfl (zh.ev rfl) (ha29 i (by first | omega | (simp; omega))) (zh.ev rfl) (by first | omega | (simp; omega)) zk) ?_
          refine WL.val (.pointer (some ⟨b23, o24 + i * 5 + 3, none⟩)) rfl rfl rfl (fun za zC zh zk => fld_65_2 rfl (zh.ev rfl) zk) ?_
          have hb33 : Below w.heap.size w w32 := (bstep hb20 hq31)
          refine WL.val (.agg #[.int .i64 ((lget l i).r.f), .slice ((A27 i)) ((lget l i).r.args.length) ((C28 i))]) rfl rfl rfl (fun za zC zh zk => ld_63 rfl (zh.ev rfl) (bkeeps hb33 _ _ (hc30 i (by first | omega | (simp; omega))).2.2.2.1) (bkeeps hb33 _ _ (hc30 i (by first | omega | (simp; omega))).2.2.2.2.1) zk) ?_
          refine WL.call rfl rfl rfl (fun za zh zC => wp_call (by kernel_rfl) rfl (hv1 (zh.ev rfl))) (rtrue_any (lget l i).r _ _ (IsT.below hb33 (InT.isT (hc30 i (by first | omega | (simp; omega))).2.2.2.2.2.2))) ?_
          rintro _ w35 ⟨rfl, hq34⟩
          refine WL.val (.bool ((!(lget l i).r.isTrue))) rfl rfl rfl (fun za zC zh zk => wp_not rfl (zh.ev rfl) zk) ?_
          refine WL.nil (WE.sub (K' := [(0, .int .i64 k), (1, .slice a l.length c), (2, .bool goal), (6, .pointer (some ⟨g2, 0, none⟩)), (7, .int .i64 ((((clWgt (l.take i) + (lget l i).l.wgt) : Nat) : Int))), (8, .int .i64 (((i : Nat) : Int))), (9, .int .i64 k), (10, .bool (((k : Int) == (1 : Int)))), (15, .bool (((k : Int) == (2 : Int)))), (20, .bool ((decide ((((i : Nat) : Int) : Int) < (((l.length : Nat) : Int) : Int))))), (37, .bool ((!(lget l i).r.isTrue)))]) ⟨rfl, rfl, rfl, rfl, rfl, rfl, rfl, rfl, rfl, rfl, rfl, trivial⟩ ?_)
          refine WE.next ?_
          refine WC.cond rfl (fun h36 => ?_) (fun h36 => ?_)
          · have h36 : ¬ ((lget l i).r.isTrue = true) := by simpa using h36
            refine WC.region ?_
            refine WL.val (.int .i64 ((((clWgt (l.take i) + (lget l i).l.wgt) : Nat) : Int))) rfl rfl rfl (fun za zC zh zk => wp_move rfl (zh.ev rfl) zk) ?_
            refine WL.val (.slice a l.length c) rfl rfl rfl (fun za zC zh zk => wp_move rfl (zh.ev rfl) zk) ?_
            refine WL.val (.int .i64 (((i : Nat) : Int))) rfl rfl rfl (fun za zC zh zk => wp_move rfl (zh.ev rfl) zk) ?_
            refine WL.val (.pointer (some ⟨b23, o24 + i * 5, none⟩)) rfl rfl rfl (fun za zC zh zk => ix_24 (k := i) rfl (zh.ev rfl) (ha29 i (by first | omega | (simp; omega))) (zh.ev rfl) (by first | omega | (simp; omega)) zk) ?_
            refine WL.val (.pointer (some ⟨b23, o24 + i * 5 + 3, none⟩)) rfl rfl rfl (fun za zC zh zk => fld_65_2 rfl (zh.ev rfl) zk) ?_
            have hb37 : Below w.heap.size w w35 := (bstep hb33 hq34)
            refine WL.val (.agg #[.int .i64 ((lget l i).r.f), .slice ((A27 i)) ((lget l i).r.args.length) ((C28 i))]) rfl rfl rfl (fun za zC zh zk => ld_63 rfl (zh.ev rfl) (bkeeps hb37 _ _ (hc30 i (by first | omega | (simp; omega))).2.2.2.1) (bkeeps hb37 _ _ (hc30 i (by first | omega | (simp; omega))).2.2.2.2.1) zk) ?_
            refine WL.call rfl rfl rfl (fun za zh zC => wp_call (by kernel_rfl) rfl (hv1 (zh.ev rfl))) (rweight_any (lget l i).r _ _ (hpr i (by omega)) (IsT.below hb37 (InT.isT (hc30 i (by first | omega | (simp; omega))).2.2.2.2.2.2))) ?_
            rintro _ w39 ⟨rfl, hq38⟩
            refine WL.val (.int .i64 ((((clWgt (l.take (i + 1))) : Nat) : Int))) rfl rfl rfl (fun za zC zh zk => addb_3 rfl (zh.ev rfl) (zh.ev rfl) (wrap_eq (by rw [clWgt_take (by omega)]; unfold Li.wg; rw [if_neg h36]; omega) (by omega) (by have z := hlw (i + 1); omega)) zk) ?_
            refine WL.val (.int .i64 ((((clWgt (l.take (i + 1))) : Nat) : Int))) rfl rfl rfl (fun za zC zh zk => wp_assign rfl (zh.ev rfl) zk) ?_
            refine WL.nil (WE.sub (K' := [(0, .int .i64 k), (1, .slice a l.length c), (2, .bool goal), (6, .pointer (some ⟨g2, 0, none⟩)), (7, .int .i64 ((((clWgt (l.take (i + 1))) : Nat) : Int))), (8, .int .i64 (((i : Nat) : Int))), (9, .int .i64 k), (10, .bool (((k : Int) == (1 : Int)))), (15, .bool (((k : Int) == (2 : Int)))), (20, .bool ((decide ((((i : Nat) : Int) : Int) < (((l.length : Nat) : Int) : Int))))), (37, .bool ((!(lget l i).r.isTrue)))]) ⟨rfl, rfl, rfl, rfl, rfl, rfl, rfl, rfl, rfl, rfl, rfl, trivial⟩ ?_)
            refine WE.blockNormal ?_
            refine WE.next ?_
            refine WC.region ?_
            refine WL.val (.int .i64 (((i : Nat) : Int))) rfl rfl rfl (fun za zC zh zk => wp_move rfl (zh.ev rfl) zk) ?_
            refine WL.val (.int .i64 ((((i + 1) : Nat) : Int))) rfl rfl rfl (fun za zC zh zk => addb_3 rfl (zh.ev rfl) (zh.ev rfl) (wrap_eq (by omega) (by omega) (by omega)) zk) ?_
            refine WL.val (.int .i64 ((((i + 1) : Nat) : Int))) rfl rfl rfl (fun za zC zh zk => wp_assign rfl (zh.ev rfl) zk) ?_
            refine WL.nil (WE.sub (K' := [(0, .int .i64 k), (1, .slice a l.length c), (2, .bool goal), (6, .pointer (some ⟨g2, 0, none⟩)), (7, .int .i64 ((((clWgt (l.take (i + 1))) : Nat) : Int))), (8, .int .i64 ((((i + 1) : Nat) : Int))), (9, .int .i64 k), (10, .bool (((k : Int) == (1 : Int)))), (15, .bool (((k : Int) == (2 : Int)))), (20, .bool ((decide ((((i : Nat) : Int) : Int) < (((l.length : Nat) : Int) : Int))))), (37, .bool ((!(lget l i).r.isTrue)))]) ⟨rfl, rfl, rfl, rfl, rfl, rfl, rfl, rfl, rfl, rfl, rfl, trivial⟩ ?_)
            refine WE.round (i + 1) ⟨rfl, rfl, rfl, rfl, rfl, rfl, rfl, rfl, rfl, trivial⟩ ?_ ?_
            · have hb40 : Below w.heap.size w w39 := (bstep hb37 hq38)
              have hb42 : Below w19.heap.size w19 w39 := (bstep (bstep hq31 hq34) hq38)
              have hB41 := hB21.below hb42
              exact ⟨by omega, hb40, hB41⟩
            · omega
          · have h36 : ¬ (¬ ((lget l i).r.isTrue = true)) := by simpa using h36
            have hwt : clWgt (l.take i) + (lget l i).l.wgt = clWgt (l.take (i + 1)) := by rw [clWgt_take (by omega)]; unfold Li.wg; rw [if_pos (by simpa using h36)]
            refine WC.sub (K' := [(0, .int .i64 k), (1, .slice a l.length c), (2, .bool goal), (6, .pointer (some ⟨g2, 0, none⟩)), (7, .int .i64 ((((clWgt (l.take (i + 1))) : Nat) : Int))), (8, .int .i64 (((i : Nat) : Int))), (9, .int .i64 k), (10, .bool (((k : Int) == (1 : Int)))), (15, .bool (((k : Int) == (2 : Int)))), (20, .bool ((decide ((((i : Nat) : Int) : Int) < (((l.length : Nat) : Int) : Int))))), (37, .bool ((!(lget l i).r.isTrue)))]) ⟨rfl, rfl, rfl, rfl, (by rw [← hwt]; rfl), rfl, rfl, rfl, rfl, rfl, rfl, trivial⟩ ?_
            refine WC.skip ?_
            refine WE.blockNormal ?_
            refine WE.next ?_
            refine WC.region ?_
            refine WL.val (.int .i64 (((i : Nat) : Int))) rfl rfl rfl (fun za zC zh zk => wp_move rfl (zh.ev rfl) zk) ?_
            refine WL.val (.int .i64 ((((i + 1) : Nat) : Int))) rfl rfl rfl (fun za zC zh zk => addb_3 rfl (zh.ev rfl) (zh.ev rfl) (wrap_eq (by omega) (by omega) (by omega)) zk) ?_
            refine WL.val (.int .i64 ((((i + 1) : Nat) : Int))) rfl rfl rfl (fun za zC zh zk => wp_assign rfl (zh.ev rfl) zk) ?_
            refine WL.nil (WE.sub (K' := [(0, .int .i64 k), (1, .slice a l.length c), (2, .bool goal), (6, .pointer (some ⟨g2, 0, none⟩)), (7, .int .i64 ((((clWgt (l.take (i + 1))) : Nat) : Int))), (8, .int .i64 ((((i + 1) : Nat) : Int))), (9, .int .i64 k), (10, .bool (((k : Int) == (1 : Int)))), (15, .bool (((k : Int) == (2 : Int)))), (20, .bool ((decide ((((i : Nat) : Int) : Int) < (((l.length : Nat) : Int) : Int))))), (37, .bool ((!(lget l i).r.isTrue)))]) ⟨rfl, rfl, rfl, rfl, rfl, rfl, rfl, rfl, rfl, rfl, rfl, trivial⟩ ?_)
            refine WE.round (i + 1) ⟨rfl, rfl, rfl, rfl, rfl, rfl, rfl, rfl, rfl, trivial⟩ ?_ ?_
            · have hb43 : Below w.heap.size w w35 := (bstep hb33 hq34)
              have hb45 : Below w19.heap.size w19 w35 := (bstep hq31 hq34)
              have hB44 := hB21.below hb45
              exact ⟨by omega, hb43, hB44⟩
            · omega
        · have h22 : ¬ ((((i : Nat) : Int) : Int) < (((l.length : Nat) : Int) : Int)) := by simpa using h22
          refine WC.exit ?_
          refine WE.thenExit ?_
          refine WE.thenExit ?_
          refine WE.blockIs rfl ?_
          refine WE.next ?_
          refine WC.seq ?_
          refine WC.region ?_
          refine WL.val (.int .i64 ((((clWgt (l.take i)) : Nat) : Int))) rfl rfl rfl (fun za zC zh zk => wp_move rfl (zh.ev rfl) zk) ?_
          refine WL.val (.agg #[.int .i64 ((((clWgt (l.take i)) : Nat) : Int)), .int .i64 0]) rfl rfl rfl (fun za zC zh zk => build_26_0_1 rfl (zh.ev rfl) (zh.ev rfl) zk) ?_
          refine WL.step (post := fun _ w' => Upd g2 w19 w' ∧ Blk w' g2 26 #[.int .i64 ((((clWgt (l.take i)) : Nat) : Int)), .int .i64 0]) rfl rfl rfl (fun za zC zh zk => st_26 rfl (zh.ev rfl) (zh.ev rfl) rfl rfl hB21 (by first | decide | simp) (fun v => zk v _ ⟨(Upd.at_ _ _ _ _).trans (Upd.at_ _ _ _ _), (hB21.set_ 0 _).set_ 1 _⟩)) ?_
          rintro v49 w46 ⟨hu47, hB48⟩
          have hb50 := upd_below hb20 hu47 (by omega)
          refine WL.nil (WE.sub (K' := [(0, .int .i64 k), (1, .slice a l.length c), (2, .bool goal), (6, .pointer (some ⟨g2, 0, none⟩)), (7, .int .i64 ((((clWgt (l.take i)) : Nat) : Int))), (8, .int .i64 (((i : Nat) : Int))), (9, .int .i64 k), (10, .bool (((k : Int) == (1 : Int)))), (15, .bool (((k : Int) == (2 : Int)))), (20, .bool ((decide ((((i : Nat) : Int) : Int) < (((l.length : Nat) : Int) : Int)))))]) ⟨rfl, rfl, rfl, rfl, rfl, rfl, rfl, rfl, rfl, rfl, trivial⟩ ?_)
          refine WE.next ?_
          refine WC.ret ?_
          refine WE.blockRet ?_
          refine WE.thenRet ?_
          refine WE.retAny (v := .agg #[.int .i64 ((((clWgt (l.take i)) : Nat) : Int)), .int .i64 0]) (fun za zh => ?_) ?_
          · have z0 : za.tmps[6]?.getD undef = .pointer (some ⟨g2, 0, none⟩) := by rw [← Array.getD_eq_getD_getElem?]; exact zh.knows 6 _ rfl
            have y0 : w46.cell? ⟨g2, 0, none⟩ = some (.int .i64 ((((clWgt (l.take i)) : Nat) : Int))) := ((hB48.cell 0).trans rfl)
            have y1 : w46.cell? ⟨g2, 1, none⟩ = some (.int .i64 0) := ((hB48.cell 1).trans rfl)
            simp [results, Try.results9, z0, y0, y1, go_sem]
          · exact ⟨_, rfl, by unfold weighP; rw [if_neg h8, if_pos h18]; (try rw [List.take_of_length_le (show l.length ≤ i by omega)]), hb50⟩
    · have h18 : ¬ ((k : Int) = (2 : Int)) := by simpa using h18
      refine WC.seq ?_
      refine WC.region ?_
      refine WL.val (.bool (((k : Int) == (3 : Int)))) rfl rfl rfl (fun za zC zh zk => eql_22 rfl (zh.ev rfl) (zh.ev rfl) zk) ?_
      refine WL.val (.bool (((k : Int) == (3 : Int)))) rfl rfl rfl (fun za zC zh zk => wp_assign rfl (zh.ev rfl) zk) ?_
      refine WL.nil (WE.sub (K' := [(0, .int .i64 k), (1, .slice a l.length c), (2, .bool goal), (6, .pointer (some ⟨g2, 0, none⟩)), (9, .int .i64 k), (10, .bool (((k : Int) == (1 : Int)))), (15, .bool (((k : Int) == (2 : Int)))), (48, .bool (((k : Int) == (3 : Int))))]) ⟨rfl, rfl, rfl, rfl, rfl, rfl, rfl, rfl, trivial⟩ ?_)
      refine WE.next ?_
      refine WC.cond rfl (fun h51 => ?_) (fun h51 => ?_)
      · have h51 : (k : Int) = (3 : Int) := by simpa using h51
        refine WC.seq ?_
        refine WC.region ?_
        refine WL.val (.slice a l.length c) rfl rfl rfl (fun za zC zh zk => wp_move rfl (zh.ev rfl) zk) ?_
        refine WL.val (.int .i64 (((l.length : Nat) : Int))) rfl rfl rfl (fun za zC zh zk => len_24 rfl (zh.ev rfl) zk) ?_
        refine WL.val (.slice a l.length c) rfl rfl rfl (fun za zC zh zk => wp_move rfl (zh.ev rfl) zk) ?_
        refine WL.call rfl rfl rfl (fun za zh zC => wp_call (by kernel_rfl) rfl (hv1 (zh.ev rfl))) (rsizec_any l _ _ _ (hl.below hb5) hlz) ?_
        rintro _ w53 ⟨rfl, hq52⟩
        refine WL.val (.agg #[.int .i64 (((l.length : Nat) : Int)), .int .i64 ((((clSize l) : Nat) : Int))]) rfl rfl rfl (fun za zC zh zk => build_26_0_1 rfl (zh.ev rfl) (zh.ev rfl) zk) ?_
        have hB54 := hB4.below hq52
        refine WL.step (post := fun _ w' => Upd g2 w53 w' ∧ Blk w' g2 26 #[.int .i64 (((l.length : Nat) : Int)), .int .i64 ((((clSize l) : Nat) : Int))]) rfl rfl rfl (fun za zC zh zk => st_26 rfl (zh.ev rfl) (zh.ev rfl) rfl rfl hB54 (by first | decide | simp) (fun v => zk v _ ⟨(Upd.at_ _ _ _ _).trans (Upd.at_ _ _ _ _), (hB54.set_ 0 _).set_ 1 _⟩)) ?_
        rintro v58 w55 ⟨hu56, hB57⟩
        have hb59 : Below w.heap.size w w53 := (bstep hb5 hq52)
        have hb60 := upd_below hb59 hu56 (by omega)
        refine WL.nil (WE.sub (K' := [(0, .int .i64 k), (1, .slice a l.length c), (2, .bool goal), (6, .pointer (some ⟨g2, 0, none⟩)), (9, .int .i64 k), (10, .bool (((k : Int) == (1 : Int)))), (15, .bool (((k : Int) == (2 : Int)))), (48, .bool (((k : Int) == (3 : Int))))]) ⟨rfl, rfl, rfl, rfl, rfl, rfl, rfl, rfl, trivial⟩ ?_)
        refine WE.next ?_
        refine WC.ret ?_
        refine WE.blockRet ?_
        refine WE.thenRet ?_
        refine WE.retAny (v := .agg #[.int .i64 (((l.length : Nat) : Int)), .int .i64 ((((clSize l) : Nat) : Int))]) (fun za zh => ?_) ?_
        · have z0 : za.tmps[6]?.getD undef = .pointer (some ⟨g2, 0, none⟩) := by rw [← Array.getD_eq_getD_getElem?]; exact zh.knows 6 _ rfl
          have y0 : w55.cell? ⟨g2, 0, none⟩ = some (.int .i64 (((l.length : Nat) : Int))) := ((hB57.cell 0).trans rfl)
          have y1 : w55.cell? ⟨g2, 1, none⟩ = some (.int .i64 ((((clSize l) : Nat) : Int))) := ((hB57.cell 1).trans rfl)
          simp [results, Try.results9, z0, y0, y1, go_sem]
        · exact ⟨_, rfl, by unfold weighP; rw [if_neg h8, if_neg h18, if_pos h51], hb60⟩
      · have h51 : ¬ ((k : Int) = (3 : Int)) := by simpa using h51
        refine WC.seq ?_
        refine WC.region ?_
        refine WL.val (.bool (((k : Int) == (4 : Int)))) rfl rfl rfl (fun za zC zh zk => eql_22 rfl (zh.ev rfl) (zh.ev rfl) zk) ?_
        refine WL.val (.bool (((k : Int) == (4 : Int)))) rfl rfl rfl (fun za zC zh zk => wp_assign rfl (zh.ev rfl) zk) ?_
        refine WL.nil (WE.sub (K' := [(0, .int .i64 k), (1, .slice a l.length c), (2, .bool goal), (6, .pointer (some ⟨g2, 0, none⟩)), (9, .int .i64 k), (10, .bool (((k : Int) == (1 : Int)))), (15, .bool (((k : Int) == (2 : Int)))), (48, .bool (((k : Int) == (3 : Int)))), (55, .bool (((k : Int) == (4 : Int))))]) ⟨rfl, rfl, rfl, rfl, rfl, rfl, rfl, rfl, rfl, trivial⟩ ?_)
        refine WE.next ?_
        refine WC.cond rfl (fun h61 => ?_) (fun h61 => ?_)
        · have h61 : (k : Int) = (4 : Int) := by simpa using h61
          refine WC.seq ?_
          refine WC.seq ?_
          refine WC.region ?_
          refine WL.val (.bool goal) rfl rfl rfl (fun za zC zh zk => wp_move rfl (zh.ev rfl) zk) ?_
          refine WL.nil (WE.sub (K' := [(0, .int .i64 k), (1, .slice a l.length c), (2, .bool goal), (6, .pointer (some ⟨g2, 0, none⟩)), (9, .int .i64 k), (10, .bool (((k : Int) == (1 : Int)))), (15, .bool (((k : Int) == (2 : Int)))), (48, .bool (((k : Int) == (3 : Int)))), (55, .bool (((k : Int) == (4 : Int)))), (57, .bool goal)]) ⟨rfl, rfl, rfl, rfl, rfl, rfl, rfl, rfl, rfl, rfl, trivial⟩ ?_)
          refine WE.next ?_
          refine WC.cond rfl (fun h62 => ?_) (fun h62 => ?_)
          · skip
            refine WC.seq ?_
            refine WC.region ?_
            refine WL.val (.slice a l.length c) rfl rfl rfl (fun za zC zh zk => wp_move rfl (zh.ev rfl) zk) ?_
            refine WL.call rfl rfl rfl (fun za zh zC => wp_call (by kernel_rfl) rfl (hv1 (zh.ev rfl))) (rsizec_any l _ _ _ (hl.below hb5) hlz) ?_
            rintro _ w64 ⟨rfl, hq63⟩
            refine WL.val (.agg #[.int .i64 0, .int .i64 ((((clSize l) : Nat) : Int))]) rfl rfl rfl (fun za zC zh zk => build_26_0_1 rfl (zh.ev rfl) (zh.ev rfl) zk) ?_
            have hB65 := hB4.below hq63
            refine WL.step (post := fun _ w' => Upd g2 w64 w' ∧ Blk w' g2 26 #[.int .i64 0, .int .i64 ((((clSize l) : Nat) : Int))]) rfl rfl rfl (fun za zC zh zk => st_26 rfl (zh.ev rfl) (zh.ev rfl) rfl rfl hB65 (by first | decide | simp) (fun v => zk v _ ⟨(Upd.at_ _ _ _ _).trans (Upd.at_ _ _ _ _), (hB65.set_ 0 _).set_ 1 _⟩)) ?_
            rintro v69 w66 ⟨hu67, hB68⟩
            have hb70 : Below w.heap.size w w64 := (bstep hb5 hq63)
            have hb71 := upd_below hb70 hu67 (by omega)
            refine WL.nil (WE.sub (K' := [(0, .int .i64 k), (1, .slice a l.length c), (2, .bool goal), (6, .pointer (some ⟨g2, 0, none⟩)), (9, .int .i64 k), (10, .bool (((k : Int) == (1 : Int)))), (15, .bool (((k : Int) == (2 : Int)))), (48, .bool (((k : Int) == (3 : Int)))), (55, .bool (((k : Int) == (4 : Int)))), (57, .bool goal)]) ⟨rfl, rfl, rfl, rfl, rfl, rfl, rfl, rfl, rfl, rfl, trivial⟩ ?_)
            refine WE.next ?_
            refine WC.ret ?_
            refine WE.thenRet ?_
            refine WE.blockRet ?_
            refine WE.thenRet ?_
            refine WE.retAny (v := .agg #[.int .i64 0, .int .i64 ((((clSize l) : Nat) : Int))]) (fun za zh => ?_) ?_
            · have z0 : za.tmps[6]?.getD undef = .pointer (some ⟨g2, 0, none⟩) := by rw [← Array.getD_eq_getD_getElem?]; exact zh.knows 6 _ rfl
              have y0 : w66.cell? ⟨g2, 0, none⟩ = some (.int .i64 0) := ((hB68.cell 0).trans rfl)
              have y1 : w66.cell? ⟨g2, 1, none⟩ = some (.int .i64 ((((clSize l) : Nat) : Int))) := ((hB68.cell 1).trans rfl)
              simp [results, Try.results9, z0, y0, y1, go_sem]
            · exact ⟨_, rfl, by unfold weighP; rw [if_neg h8, if_neg h18, if_neg h51, if_pos h61]; (try rw [h62]); (try rfl), hb71⟩
          · skip
            refine WC.skip ?_
            refine WE.next ?_
            refine WC.seq ?_
            refine WC.region ?_
            refine WL.val (.slice a l.length c) rfl rfl rfl (fun za zC zh zk => wp_move rfl (zh.ev rfl) zk) ?_
            refine WL.call rfl rfl rfl (fun za zh zC => wp_call (by kernel_rfl) rfl (hv1 (zh.ev rfl))) (rsizec_any l _ _ _ (hl.below hb5) hlz) ?_
            rintro _ w73 ⟨rfl, hq72⟩
            refine WL.val (.agg #[.int .i64 1, .int .i64 ((((clSize l) : Nat) : Int))]) rfl rfl rfl (fun za zC zh zk => build_26_0_1 rfl (zh.ev rfl) (zh.ev rfl) zk) ?_
            have hB74 := hB4.below hq72
            refine WL.step (post := fun _ w' => Upd g2 w73 w' ∧ Blk w' g2 26 #[.int .i64 1, .int .i64 ((((clSize l) : Nat) : Int))]) rfl rfl rfl (fun za zC zh zk => st_26 rfl (zh.ev rfl) (zh.ev rfl) rfl rfl hB74 (by first | decide | simp) (fun v => zk v _ ⟨(Upd.at_ _ _ _ _).trans (Upd.at_ _ _ _ _), (hB74.set_ 0 _).set_ 1 _⟩)) ?_
            rintro v78 w75 ⟨hu76, hB77⟩
            have hb79 : Below w.heap.size w w73 := (bstep hb5 hq72)
            have hb80 := upd_below hb79 hu76 (by omega)
            refine WL.nil (WE.sub (K' := [(0, .int .i64 k), (1, .slice a l.length c), (2, .bool goal), (6, .pointer (some ⟨g2, 0, none⟩)), (9, .int .i64 k), (10, .bool (((k : Int) == (1 : Int)))), (15, .bool (((k : Int) == (2 : Int)))), (48, .bool (((k : Int) == (3 : Int)))), (55, .bool (((k : Int) == (4 : Int)))), (57, .bool goal)]) ⟨rfl, rfl, rfl, rfl, rfl, rfl, rfl, rfl, rfl, rfl, trivial⟩ ?_)
            refine WE.next ?_
            refine WC.ret ?_
            refine WE.blockRet ?_
            refine WE.thenRet ?_
            refine WE.retAny (v := .agg #[.int .i64 1, .int .i64 ((((clSize l) : Nat) : Int))]) (fun za zh => ?_) ?_
            · have z0 : za.tmps[6]?.getD undef = .pointer (some ⟨g2, 0, none⟩) := by rw [← Array.getD_eq_getD_getElem?]; exact zh.knows 6 _ rfl
              have y0 : w75.cell? ⟨g2, 0, none⟩ = some (.int .i64 1) := ((hB77.cell 0).trans rfl)
              have y1 : w75.cell? ⟨g2, 1, none⟩ = some (.int .i64 ((((clSize l) : Nat) : Int))) := ((hB77.cell 1).trans rfl)
              simp [results, Try.results9, z0, y0, y1, go_sem]
            · exact ⟨_, rfl, by unfold weighP; rw [if_neg h8, if_neg h18, if_neg h51, if_pos h61]; (try rw [h62]); (try rfl), hb80⟩
        · have h61 : ¬ ((k : Int) = (4 : Int)) := by simpa using h61
          refine WC.skip ?_
          refine WE.blockNormal ?_
          refine WE.next ?_
          refine WC.seq ?_
          refine WC.region ?_
          refine WL.val (.agg #[.int .i64 0, .int .i64 0]) rfl rfl rfl (fun za zC zh zk => build_26_ rfl  zk) ?_
          refine WL.step (post := fun _ w' => Upd g2 w1 w' ∧ Blk w' g2 26 #[.int .i64 0, .int .i64 0]) rfl rfl rfl (fun za zC zh zk => st_26 rfl (zh.ev rfl) (zh.ev rfl) rfl rfl hB4 (by first | decide | simp) (fun v => zk v _ ⟨(Upd.at_ _ _ _ _).trans (Upd.at_ _ _ _ _), (hB4.set_ 0 _).set_ 1 _⟩)) ?_
          rintro v84 w81 ⟨hu82, hB83⟩
          have hb85 := upd_below hb5 hu82 (by omega)
          refine WL.nil (WE.sub (K' := [(0, .int .i64 k), (1, .slice a l.length c), (2, .bool goal), (6, .pointer (some ⟨g2, 0, none⟩)), (9, .int .i64 k), (10, .bool (((k : Int) == (1 : Int)))), (15, .bool (((k : Int) == (2 : Int)))), (48, .bool (((k : Int) == (3 : Int)))), (55, .bool (((k : Int) == (4 : Int))))]) ⟨rfl, rfl, rfl, rfl, rfl, rfl, rfl, rfl, rfl, trivial⟩ ?_)
          refine WE.next ?_
          refine WC.ret ?_
          refine WE.retAny (v := .agg #[.int .i64 0, .int .i64 0]) (fun za zh => ?_) ?_
          · have z0 : za.tmps[6]?.getD undef = .pointer (some ⟨g2, 0, none⟩) := by rw [← Array.getD_eq_getD_getElem?]; exact zh.knows 6 _ rfl
            have y0 : w81.cell? ⟨g2, 0, none⟩ = some (.int .i64 0) := ((hB83.cell 0).trans rfl)
            have y1 : w81.cell? ⟨g2, 1, none⟩ = some (.int .i64 0) := ((hB83.cell 1).trans rfl)
            simp [results, Try.results9, z0, y0, y1, go_sem]
          · exact ⟨_, rfl, by unfold weighP; rw [if_neg h8, if_neg h18, if_neg h51, if_neg h61], hb85⟩

end Go.Proofs.Ytjhkoiggeepajaa
