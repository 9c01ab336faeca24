/- The walk through the law MatchActs. -/
import Derived.Test.YtcmfjnadjddboaaMAj

namespace Go.Proofs.Ytcmfjnadjddboaa
open Go.RowKit Go
set_option linter.unusedVariables false
set_option linter.unusedSimpArgs false

set_option linter.unnecessarySimpa false

set_option maxRecDepth 100000 in
set_option maxHeartbeats 4000000 in
theorem acts_any (l : List Ac) (w : World) (pa : Option Addr) (ca : Nat) (hrow : InRow eltA (fun _ => True) w l pa) (hl1 : l.length ≤ ca) (hl2 : ca ≤ maxLen) (hsz : acsz l ≤ 1048576) : Calls Try.prog 4 #[.slice pa l.length ca] w (Ret fun v' w' => v' = .bool true ∧ Below w.heap.size w w') := by
  unfold maxLen at hl2
  refine Calls.walk (l := [.slice pa l.length ca]) Try.func4 rfl (by kernel_rfl) ?_
  refine WC.sub (K' := [(0, .slice pa l.length ca)]) ⟨rfl, trivial⟩ ?_
  refine WC.seq ?_
  refine WC.region ?_
  refine WL.val (.bool false) rfl rfl rfl (fun za zC zh zk => wp_assign rfl (zh.ev rfl) zk) ?_
  refine WL.nil (WE.sub (K' := [(0, .slice pa l.length ca), (2, .bool false)]) ⟨rfl, rfl, trivial⟩ ?_)
  refine WE.next ?_
  refine WC.seq ?_
  refine WC.region ?_
  refine WL.call rfl rfl rfl (fun za zh zC => wp_call (by kernel_rfl) rfl (hv0)) (new_any _) ?_
  rintro _ w1 ⟨⟨gm, C0, rfl, hMA, hC0⟩, hbn⟩
  refine WL.val (.agg #[.slice none 0 0]) rfl rfl rfl (fun za zC zh zk => build_37_ rfl  zk) ?_
  refine WL.step (post := NewBlk w1 37 #[.slice none 0 0]) rfl rfl rfl (fun za zC zh zk => box_37 rfl (zh.ev rfl) (zk _ _ (newBlk _ _ _))) ?_
  rintro _ w2 ⟨g3, rfl, hg4, hB5, hb6, hz7⟩
  have hl8 : w.heap.size ≤ g3 := by have z2 := (hbn).size; omega
  have hl9 : w1.heap.size ≤ g3 := by omega
  refine WL.val (.pointer (some ⟨gm, 0, none⟩)) rfl rfl rfl (fun za zC zh zk => wp_assign rfl (zh.ev rfl) zk) ?_
  refine WL.val (.pointer (some ⟨g3, 0, none⟩)) rfl rfl rfl (fun za zC zh zk => wp_assign rfl (zh.ev rfl) zk) ?_
  refine WL.nil (WE.sub (K' := [(0, .slice pa l.length ca), (2, .bool false), (3, .pointer (some ⟨gm, 0, none⟩)), (4, .pointer (some ⟨g3, 0, none⟩))]) ⟨rfl, rfl, rfl, rfl, trivial⟩ ?_)
  refine WE.next ?_
  refine WC.seq ?_
  refine WC.seq ?_
  refine WC.region ?_
  refine WL.val (.slice pa l.length ca) rfl rfl rfl (fun za zC zh zk => wp_move rfl (zh.ev rfl) zk) ?_
  refine WL.val (.int .i64 (((l.length : Nat) : Int))) rfl rfl rfl (fun za zC zh zk => len_32 rfl (zh.ev rfl) zk) ?_
  refine WL.val (.int .i64 0) rfl rfl rfl (fun za zC zh zk => wp_move rfl (zh.ev rfl) zk) ?_
  refine WL.nil (WE.sub (K' := [(0, .slice pa l.length ca), (2, .bool false), (3, .pointer (some ⟨gm, 0, none⟩)), (4, .pointer (some ⟨g3, 0, none⟩)), (14, .slice pa l.length ca), (15, .int .i64 (((l.length : Nat) : Int))), (16, .int .i64 0)]) ⟨rfl, rfl, rfl, rfl, rfl, rfl, rfl, trivial⟩ ?_)
  refine WE.next ?_
  refine WC.block ?_
  have hwa : w.heap.size ≤ w1.heap.size := hbn.size
  have hclt := hMA.clt
  have hgzm : w1.heap.size ≤ g3 := by have z : w1.heap.size ≤ w1.heap.size := (Nat.le_refl _); omega
  have hw0 : w.heap.size ≤ g3 := by have z : w.heap.size ≤ w1.heap.size := hbn.size; omega
  have ho10 := hMA.below hb6
  have hBo : Both (fun b => w.heap.size ≤ b) gm g3 [] [] w2 := ⟨C0, fun b => b = g3, ho10, ⟨_, _, RefIn.start hB5⟩, fun b q => by have z := hC0 b q; have z2 : w.heap.size ≤ w.heap.size := (Nat.le_refl _); omega, fun b q => by (try dsimp only at *); omega, fun b q q2 => by have z := hclt b q; (try dsimp only at *); omega⟩
  refine WC.loop (X := Nat × List Bd) (fun x => l.length - x.1) (fun x => [(0, .slice pa l.length ca), (3, .pointer (some ⟨gm, 0, none⟩)), (4, .pointer (some ⟨g3, 0, none⟩)), (14, .slice pa l.length ca), (15, .int .i64 (((l.length : Nat) : Int))), (16, .int .i64 (((x.1 : Nat) : Int)))]) (fun x w11 => x.1 ≤ l.length ∧ x.2.length ≤ acsz (l.take x.1) ∧ Below w.heap.size w w11 ∧ Both (fun b => w.heap.size ≤ b) gm g3 x.2 x.2 (w11)) ((0, [])) ⟨rfl, rfl, rfl, rfl, rfl, rfl, trivial⟩ ?_ ?_
  · have hb12 : Below w.heap.size w w2 := (bstep hbn hb6)
    exact ⟨Nat.zero_le _, Nat.zero_le _, hb12, hBo⟩
  · rintro x w11 ⟨hk, hlen, hb13, ho14⟩
    refine WC.seq ?_
    refine WC.region ?_
    refine WL.val (.bool ((decide ((((x.1 : Nat) : Int) : Int) < (((l.length : Nat) : Int) : Int))))) rfl rfl rfl (fun za zC zh zk => lss_3 rfl (zh.ev rfl) (zh.ev rfl) zk) ?_
    refine WL.nil (WE.sub (K' := [(0, .slice pa l.length ca), (3, .pointer (some ⟨gm, 0, none⟩)), (4, .pointer (some ⟨g3, 0, none⟩)), (14, .slice pa l.length ca), (15, .int .i64 (((l.length : Nat) : Int))), (16, .int .i64 (((x.1 : Nat) : Int))), (17, .bool ((decide ((((x.1 : Nat) : Int) : Int) < (((l.length : Nat) : Int) : Int)))))]) ⟨rfl, rfl, rfl, rfl, rfl, rfl, rfl, trivial⟩ ?_)
    refine WE.next ?_
    refine WC.seq ?_
    refine WC.cond rfl (fun h15 => ?_) (fun h15 => ?_)
    · have h15 : (((x.1 : Nat) : Int) : Int) < (((l.length : Nat) : Int) : Int) := by simpa using h15
      refine WC.skip ?_
      refine WE.next ?_
      refine WC.seq ?_
      refine WC.block ?_
      refine WC.seq ?_
      obtain ⟨rb, ro, a1, a2, a3, a4, c1, c2, c3, c4, hra, hc0, hc1, hc2, hc3, hc4, hc5, hc6, hc7, hc8, hc9, hc10, hc11, hP, hT, hQ, hU, hk64, hn64⟩ := hrow.openA (k := x.1) (by omega)
      have hxs := xsz_le (l := l) (k := x.1) (by omega)
      have hxt := acsz_take (l := l) (k := x.1) (by omega)
      have hxl := acsz_le (l := l) (k := x.1)
      unfold Ac.size at hxs hxt
      have hPi := (InT.isT hP).inT
      have hTi := (InT.isT hT).inT
      have hQi := (InT.isT hQ).inT
      have hUi := (InT.isT hU).inT
      refine WC.region ?_
      refine WL.val (.int .i64 (((x.1 : Nat) : Int))) rfl rfl rfl (fun za zC zh zk => wp_move rfl (zh.ev rfl) zk) ?_
      refine WL.val (.pointer (some ⟨rb, ro + x.1 * 12, none⟩)) rfl rfl rfl (fun za zC zh zk => ix_32 (k := x.1) rfl (zh.ev rfl) hra (zh.ev rfl) (by first | omega | (simp; omega)) zk) ?_
      have hc16 := bkeeps hb13 _ _ hc0
      have hc17 := bkeeps hb13 _ _ hc1
      have hc18 := bkeeps hb13 _ _ hc2
      have hc19 := bkeeps hb13 _ _ hc3
      have hc20 := bkeeps hb13 _ _ hc4
      have hc21 := bkeeps hb13 _ _ hc5
      have hc22 := bkeeps hb13 _ _ hc6
      have hc23 := bkeeps hb13 _ _ hc7
      have hc24 := bkeeps hb13 _ _ hc8
      have hc25 := bkeeps hb13 _ _ hc9
      have hc26 := bkeeps hb13 _ _ hc10
      have hc27 := bkeeps hb13 _ _ hc11
      refine WL.val (.agg #[.int .i64 ((xget l x.1).kind), .int .i64 ((xget l x.1).p.f), .slice a1 ((xget l x.1).p.args.length) c1, .int .i64 ((xget l x.1).t.f), .slice a2 ((xget l x.1).t.args.length) c2, .int .i64 ((xget l x.1).q.f), .slice a3 ((xget l x.1).q.args.length) c3, .int .i64 ((xget l x.1).u.f), .slice a4 ((xget l x.1).u.args.length) c4, .bool ((xget l x.1).a), .bool ((xget l x.1).b), .int .i64 ((xget l x.1).n)]) rfl rfl rfl (fun za zC zh zk => ld_39 rfl (zh.ev rfl) hc16 hc17 hc18 hc19 hc20 hc21 hc22 hc23 hc24 hc25 hc26 hc27 zk) ?_
      refine WL.step (post := NewBlk w11 39 #[.int .i64 0, .int .i64 0, .slice none 0 0, .int .i64 0, .slice none 0 0, .int .i64 0, .slice none 0 0, .int .i64 0, .slice none 0 0, .bool false, .bool false, .int .i64 0]) rfl rfl rfl (fun za zC zh zk => alloc_39 rfl (zk _ _ (newBlk _ _ _))) ?_
      rintro _ w28 ⟨g29, rfl, hg30, hB31, hb32, hz33⟩
      have hl34 : w.heap.size ≤ g29 := by have z2 := (hb13).size; omega
      have hl35 : w11.heap.size ≤ g29 := by omega
      refine WL.val (.int .i64 (((x.1 : Nat) : Int))) rfl rfl rfl (fun za zC zh zk => wp_assign rfl (zh.ev rfl) zk) ?_
      refine WL.step (post := fun _ w' => Upd g29 w28 w' ∧ Blk w' g29 39 #[.int .i64 ((xget l x.1).kind), .int .i64 ((xget l x.1).p.f), .slice a1 ((xget l x.1).p.args.length) c1, .int .i64 ((xget l x.1).t.f), .slice a2 ((xget l x.1).t.args.length) c2, .int .i64 ((xget l x.1).q.f), .slice a3 ((xget l x.1).q.args.length) c3, .int .i64 ((xget l x.1).u.f), .slice a4 ((xget l x.1).u.args.length) c4, .bool ((xget l x.1).a), .bool ((xget l x.1).b), .int .i64 ((xget l x.1).n)]) rfl rfl rfl (fun za zC zh zk => st_39 rfl (zh.ev rfl) (zh.ev rfl) rfl rfl rfl rfl rfl rfl rfl rfl rfl rfl rfl rfl hB31 (by first | decide | simp) (fun v => by have zb0 : Blk _ g29 39 #[.int .i64 ((xget l x.1).kind), .int .i64 0, .slice none 0 0, .int .i64 0, .slice none 0 0, .int .i64 0, .slice none 0 0, .int .i64 0, .slice none 0 0, .bool false, .bool false, .int .i64 0] := hB31.set_ 0 _; have zb1 : Blk _ g29 39 #[.int .i64 ((xget l x.1).kind), .int .i64 ((xget l x.1).p.f), .slice none 0 0, .int .i64 0, .slice none 0 0, .int .i64 0, .slice none 0 0, .int .i64 0, .slice none 0 0, .bool false, .bool false, .int .i64 0] := zb0.set_ 1 _; have zb2 : Blk _ g29 39 #[.int .i64 ((xget l x.1).kind), .int .i64 ((xget l x.1).p.f), .slice a1 ((xget l x.1).p.args.length) c1, .int .i64 0, .slice none 0 0, .int .i64 0, .slice none 0 0, .int .i64 0, .slice none 0 0, .bool false, .bool false, .int .i64 0] := zb1.set_ 2 _; have zb3 : Blk _ g29 39 #[.int .i64 ((xget l x.1).kind), .int .i64 ((xget l x.1).p.f), .slice a1 ((xget l x.1).p.args.length) c1, .int .i64 ((xget l x.1).t.f), .slice none 0 0, .int .i64 0, .slice none 0 0, .int .i64 0, .slice none 0 0, .bool false, .bool false, .int .i64 0] := zb2.set_ 3 _; have zb4 : Blk _ g29 39 #[.int .i64 ((xget l x.1).kind), .int .i64 ((xget l x.1).p.f), .slice a1 ((xget l x.1).p.args.length) c1, .int .i64 ((xget l x.1).t.f), .slice a2 ((xget l x.1).t.args.length) c2, .int .i64 0, .slice none 0 0, .int .i64 0, .slice none 0 0, .bool false, .bool false, .int .i64 0] := zb3.set_ 4 _; have zb5 : Blk _ g29 39 #[.int .i64 ((xget l x.1).kind), .int .i64 ((xget l x.1).p.f), .slice a1 ((xget l x.1).p.args.length) c1, .int .i64 ((xget l x.1).t.f), .slice a2 ((xget l x.1).t.args.length) c2, .int .i64 ((xget l x.1).q.f), .slice none 0 0, .int .i64 0, .slice none 0 0, .bool false, .bool false, .int .i64 0] := zb4.set_ 5 _; have zb6 : Blk _ g29 39 #[.int .i64 ((xget l x.1).kind), .int .i64 ((xget l x.1).p.f), .slice a1 ((xget l x.1).p.args.length) c1, .int .i64 ((xget l x.1).t.f), .slice a2 ((xget l x.1).t.args.length) c2, .int .i64 ((xget l x.1).q.f), .slice a3 ((xget l x.1).q.args.length) c3, .int .i64 0, .slice none 0 0, .bool false, .bool false, .int .i64 0] := zb5.set_ 6 _; have zb7 : Blk _ g29 39 #[.int .i64 ((xget l x.1).kind), .int .i64 ((xget l x.1).p.f), .slice a1 ((xget l x.1).p.args.length) c1, .int .i64 ((xget l x.1).t.f), .slice a2 ((xget l x.1).t.args.length) c2, .int .i64 ((xget l x.1).q.f), .slice a3 ((xget l x.1).q.args.length) c3, .int .i64 ((xget l x.1).u.f), .slice none 0 0, .bool false, .bool false, .int .i64 0] := zb6.set_ 7 _; have zb8 : Blk _ g29 39 #[.int .i64 ((xget l x.1).kind), .int .i64 ((xget l x.1).p.f), .slice a1 ((xget l x.1).p.args.length) c1, .int .i64 ((xget l x.1).t.f), .slice a2 ((xget l x.1).t.args.length) c2, .int .i64 ((xget l x.1).q.f), .slice a3 ((xget l x.1).q.args.length) c3, .int .i64 ((xget l x.1).u.f), .slice a4 ((xget l x.1).u.args.length) c4, .bool false, .bool false, .int .i64 0] := zb7.set_ 8 _; have zb9 : Blk _ g29 39 #[.int .i64 ((xget l x.1).kind), .int .i64 ((xget l x.1).p.f), .slice a1 ((xget l x.1).p.args.length) c1, .int .i64 ((xget l x.1).t.f), .slice a2 ((xget l x.1).t.args.length) c2, .int .i64 ((xget l x.1).q.f), .slice a3 ((xget l x.1).q.args.length) c3, .int .i64 ((xget l x.1).u.f), .slice a4 ((xget l x.1).u.args.length) c4, .bool ((xget l x.1).a), .bool false, .int .i64 0] := zb8.set_ 9 _; have zb10 : Blk _ g29 39 #[.int .i64 ((xget l x.1).kind), .int .i64 ((xget l x.1).p.f), .slice a1 ((xget l x.1).p.args.length) c1, .int .i64 ((xget l x.1).t.f), .slice a2 ((xget l x.1).t.args.length) c2, .int .i64 ((xget l x.1).q.f), .slice a3 ((xget l x.1).q.args.length) c3, .int .i64 ((xget l x.1).u.f), .slice a4 ((xget l x.1).u.args.length) c4, .bool ((xget l x.1).a), .bool ((xget l x.1).b), .int .i64 0] := zb9.set_ 10 _; have zb11 : Blk _ g29 39 #[.int .i64 ((xget l x.1).kind), .int .i64 ((xget l x.1).p.f), .slice a1 ((xget l x.1).p.args.length) c1, .int .i64 ((xget l x.1).t.f), .slice a2 ((xget l x.1).t.args.length) c2, .int .i64 ((xget l x.1).q.f), .slice a3 ((xget l x.1).q.args.length) c3, .int .i64 ((xget l x.1).u.f), .slice a4 ((xget l x.1).u.args.length) c4, .bool ((xget l x.1).a), .bool ((xget l x.1).b), .int .i64 ((xget l x.1).n)] := zb10.set_ 11 _; exact zk v _ ⟨(((((((((((Upd.at_ _ _ _ _).trans (Upd.at_ _ _ _ _)).trans (Upd.at_ _ _ _ _)).trans (Upd.at_ _ _ _ _)).trans (Upd.at_ _ _ _ _)).trans (Upd.at_ _ _ _ _)).trans (Upd.at_ _ _ _ _)).trans (Upd.at_ _ _ _ _)).trans (Upd.at_ _ _ _ _)).trans (Upd.at_ _ _ _ _)).trans (Upd.at_ _ _ _ _)).trans (Upd.at_ _ _ _ _), zb11⟩)) ?_
      rintro v39 w36 ⟨hu37, hB38⟩
      have hb40 : Below w.heap.size w w28 := (bstep hb13 hb32)
      have hb41 := upd_below hb40 hu37 (by omega)
      have hb42 := upd_below hb32 hu37 (by omega)
      refine WL.nil (WE.sub (K' := [(0, .slice pa l.length ca), (3, .pointer (some ⟨gm, 0, none⟩)), (4, .pointer (some ⟨g3, 0, none⟩)), (5, .int .i64 (((x.1 : Nat) : Int))), (6, .pointer (some ⟨g29, 0, none⟩)), (14, .slice pa l.length ca), (15, .int .i64 (((l.length : Nat) : Int))), (16, .int .i64 (((x.1 : Nat) : Int))), (17, .bool ((decide ((((x.1 : Nat) : Int) : Int) < (((l.length : Nat) : Int) : Int)))))]) ⟨rfl, rfl, rfl, rfl, rfl, rfl, rfl, rfl, rfl, trivial⟩ ?_)
      refine WE.next ?_
      refine WC.seq ?_
      refine WC.seq ?_
      refine WC.region ?_
      refine WL.val (.int .i64 (((x.1 : Nat) : Int))) rfl rfl rfl (fun za zC zh zk => wp_move rfl (zh.ev rfl) zk) ?_
      refine WL.val (.bool ((decide ((60 : Int) ≤ (((x.1 : Nat) : Int) : Int))))) rfl rfl rfl (fun za zC zh zk => geq_3 rfl (zh.ev rfl) (zh.ev rfl) zk) ?_
      refine WL.nil (WE.sub (K' := [(0, .slice pa l.length ca), (3, .pointer (some ⟨gm, 0, none⟩)), (4, .pointer (some ⟨g3, 0, none⟩)), (5, .int .i64 (((x.1 : Nat) : Int))), (6, .pointer (some ⟨g29, 0, none⟩)), (14, .slice pa l.length ca), (15, .int .i64 (((l.length : Nat) : Int))), (16, .int .i64 (((x.1 : Nat) : Int))), (17, .bool ((decide ((((x.1 : Nat) : Int) : Int) < (((l.length : Nat) : Int) : Int))))), (22, .bool ((decide ((60 : Int) ≤ (((x.1 : Nat) : Int) : Int)))))]) ⟨rfl, rfl, rfl, rfl, rfl, rfl, rfl, rfl, rfl, rfl, trivial⟩ ?_)
      refine WE.next ?_
      refine WC.cond rfl (fun h43 => ?_) (fun h43 => ?_)
      · have h43 : (60 : Int) ≤ (((x.1 : Nat) : Int) : Int) := by simpa using h43
        refine WC.exit ?_
        refine WE.thenExit ?_
        refine WE.blockNot rfl ?_
        refine WE.thenExit ?_
        refine WE.thenExit ?_
        refine WE.blockIs rfl ?_
        refine WE.next ?_
        refine WC.seq ?_
        refine WC.region ?_
        refine WL.call rfl rfl rfl (fun za zh zC => wp_call (by kernel_rfl) rfl (hv0)) (wakes_any _) ?_
        rintro _ w45 ⟨rfl, hq44⟩
        refine WL.val (.bool true) rfl rfl rfl (fun za zC zh zk => wp_assign rfl (zh.ev rfl) zk) ?_
        refine WL.nil (WE.sub (K' := [(0, .slice pa l.length ca), (2, .bool true), (3, .pointer (some ⟨gm, 0, none⟩)), (4, .pointer (some ⟨g3, 0, none⟩)), (5, .int .i64 (((x.1 : Nat) : Int))), (6, .pointer (some ⟨g29, 0, none⟩)), (14, .slice pa l.length ca), (15, .int .i64 (((l.length : Nat) : Int))), (16, .int .i64 (((x.1 : Nat) : Int))), (17, .bool ((decide ((((x.1 : Nat) : Int) : Int) < (((l.length : Nat) : Int) : Int))))), (22, .bool ((decide ((60 : Int) ≤ (((x.1 : Nat) : Int) : Int)))))]) ⟨rfl, rfl, rfl, rfl, rfl, rfl, rfl, rfl, rfl, rfl, rfl, trivial⟩ ?_)
        refine WE.next ?_
        refine WC.ret ?_
        refine WE.ret1 rfl rfl ?_
        have hb46 : Below w.heap.size w w45 := (bstep hb41 hq44)
        exact ⟨_, rfl, rfl, hb46⟩
      · have h43 : ¬ ((60 : Int) ≤ (((x.1 : Nat) : Int) : Int)) := by simpa using h43
        refine WC.skip ?_
        refine WE.next ?_
        refine WC.seq ?_
        refine WC.two [(true, .pointer (some ⟨g29, 9, none⟩)), (true, .bool ((xget l x.1).a)), (true, .pointer (some ⟨g29, 1, none⟩)), (true, .agg #[.int .i64 ((xget l x.1).p.f), .slice a1 ((xget l x.1).p.args.length) c1]), (true, .pointer (some ⟨g29, 5, none⟩)), (true, .agg #[.int .i64 ((xget l x.1).q.f), .slice a3 ((xget l x.1).q.args.length) c3]), (true, .agg #[.bool ((xget l x.1).a), .int .i64 ((xget l x.1).p.f), .slice a1 ((xget l x.1).p.args.length) c1, .int .i64 ((xget l x.1).q.f), .slice a3 ((xget l x.1).q.args.length) c3]), (true, .pointer (some ⟨g29, 10, none⟩)), (true, .bool ((xget l x.1).b)), (true, .pointer (some ⟨g29, 3, none⟩)), (true, .agg #[.int .i64 ((xget l x.1).t.f), .slice a2 ((xget l x.1).t.args.length) c2]), (true, .pointer (some ⟨g29, 7, none⟩)), (true, .agg #[.int .i64 ((xget l x.1).u.f), .slice a4 ((xget l x.1).u.args.length) c4]), (true, .agg #[.bool ((xget l x.1).b), .int .i64 ((xget l x.1).t.f), .slice a2 ((xget l x.1).t.args.length) c2, .int .i64 ((xget l x.1).u.f), .slice a4 ((xget l x.1).u.args.length) c4]), (true, undef), (true, undef), (true, undef), (true, undef)] [(0, .slice pa l.length ca), (3, .pointer (some ⟨gm, 0, none⟩)), (4, .pointer (some ⟨g3, 0, none⟩)), (5, .int .i64 (((x.1 : Nat) : Int))), (6, .pointer (some ⟨g29, 0, none⟩)), (14, .slice pa l.length ca), (15, .int .i64 (((l.length : Nat) : Int))), (16, .int .i64 (((x.1 : Nat) : Int))), (17, .bool ((decide ((((x.1 : Nat) : Int) : Int) < (((l.length : Nat) : Int) : Int))))), (22, .bool ((decide ((60 : Int) ≤ (((x.1 : Nat) : Int) : Int)))))] (t1 := 41) (z1 := #[.bool false, .int .i64 0, .slice none 0 0, .int .i64 0, .slice none 0 0]) (c1 := #[.bool ((xget l x.1).a), .int .i64 ((xget l x.1).p.f), .slice a1 ((xget l x.1).p.args.length) c1, .int .i64 ((xget l x.1).q.f), .slice a3 ((xget l x.1).q.args.length) c3]) (t2 := 41) (z2 := #[.bool false, .int .i64 0, .slice none 0 0, .int .i64 0, .slice none 0 0]) (c2 := #[.bool ((xget l x.1).b), .int .i64 ((xget l x.1).t.f), .slice a2 ((xget l x.1).t.args.length) c2, .int .i64 ((xget l x.1).u.f), .slice a4 ((xget l x.1).u.args.length) c4]) 14 15 16 17 7 8 (by decide) (by kernel_rfl) rfl rfl ⟨rfl, rfl, rfl, rfl, rfl, rfl, rfl, rfl, rfl, rfl, trivial⟩ (by kernel_rfl) (by kernel_rfl) (by kernel_rfl) ?_ ?_
        · refine ⟨.inl ⟨by decide, rfl, fun za zw zc => ?_⟩, ?_⟩
          · exact fld_39_5 rfl (zc.kn.ev rfl) ⟨_, rfl, rfl, optDef rfl rfl⟩
          refine ⟨.inl ⟨by decide, rfl, fun za zw zc => ?_⟩, ?_⟩
          · exact ld_4 rfl ((show za.eval (.tmp 23) = za.tmps.getD 23 undef from rfl).trans (valVal (zc.dep 0 23 (by kernel_rfl) (by decide)) rfl rfl)) (bkeeps zc.below _ _ ((hB38.cell 9).trans rfl)) ⟨_, rfl, rfl, optDef rfl rfl⟩
          refine ⟨.inl ⟨by decide, rfl, fun za zw zc => ?_⟩, ?_⟩
          · exact fld_39_1 rfl (zc.kn.ev rfl) ⟨_, rfl, rfl, optDef rfl rfl⟩
          refine ⟨.inl ⟨by decide, rfl, fun za zw zc => ?_⟩, ?_⟩
          · exact ld_24 rfl ((show za.eval (.tmp 25) = za.tmps.getD 25 undef from rfl).trans (valVal (zc.dep 2 25 (by kernel_rfl) (by decide)) rfl rfl)) (bkeeps zc.below _ _ ((hB38.cell 1).trans rfl)) (bkeeps zc.below _ _ ((hB38.cell 2).trans rfl)) ⟨_, rfl, rfl, optDef rfl rfl⟩
          refine ⟨.inl ⟨by decide, rfl, fun za zw zc => ?_⟩, ?_⟩
          · exact fld_39_3 rfl (zc.kn.ev rfl) ⟨_, rfl, rfl, optDef rfl rfl⟩
          refine ⟨.inl ⟨by decide, rfl, fun za zw zc => ?_⟩, ?_⟩
          · exact ld_24 rfl ((show za.eval (.tmp 27) = za.tmps.getD 27 undef from rfl).trans (valVal (zc.dep 4 27 (by kernel_rfl) (by decide)) rfl rfl)) (bkeeps zc.below _ _ ((hB38.cell 5).trans rfl)) (bkeeps zc.below _ _ ((hB38.cell 6).trans rfl)) ⟨_, rfl, rfl, optDef rfl rfl⟩
          refine ⟨.inl ⟨by decide, rfl, fun za zw zc => ?_⟩, ?_⟩
          · exact build_41_0_1_2 rfl ((show za.eval (.tmp 24) = za.tmps.getD 24 undef from rfl).trans (valVal (zc.dep 1 24 (by kernel_rfl) (by decide)) rfl rfl)) ((show za.eval (.tmp 26) = za.tmps.getD 26 undef from rfl).trans (valVal (zc.dep 3 26 (by kernel_rfl) (by decide)) rfl rfl)) ((show za.eval (.tmp 28) = za.tmps.getD 28 undef from rfl).trans (valVal (zc.dep 5 28 (by kernel_rfl) (by decide)) rfl rfl)) ⟨_, rfl, rfl, optDef rfl rfl⟩
          refine ⟨.inl ⟨by decide, rfl, fun za zw zc => ?_⟩, ?_⟩
          · exact fld_39_6 rfl (zc.kn.ev rfl) ⟨_, rfl, rfl, optDef rfl rfl⟩
          refine ⟨.inl ⟨by decide, rfl, fun za zw zc => ?_⟩, ?_⟩
          · exact ld_4 rfl ((show za.eval (.tmp 30) = za.tmps.getD 30 undef from rfl).trans (valVal (zc.dep 7 30 (by kernel_rfl) (by decide)) rfl rfl)) (bkeeps zc.below _ _ ((hB38.cell 10).trans rfl)) ⟨_, rfl, rfl, optDef rfl rfl⟩
          refine ⟨.inl ⟨by decide, rfl, fun za zw zc => ?_⟩, ?_⟩
          · exact fld_39_2 rfl (zc.kn.ev rfl) ⟨_, rfl, rfl, optDef rfl rfl⟩
          refine ⟨.inl ⟨by decide, rfl, fun za zw zc => ?_⟩, ?_⟩
          · exact ld_24 rfl ((show za.eval (.tmp 32) = za.tmps.getD 32 undef from rfl).trans (valVal (zc.dep 9 32 (by kernel_rfl) (by decide)) rfl rfl)) (bkeeps zc.below _ _ ((hB38.cell 3).trans rfl)) (bkeeps zc.below _ _ ((hB38.cell 4).trans rfl)) ⟨_, rfl, rfl, optDef rfl rfl⟩
          refine ⟨.inl ⟨by decide, rfl, fun za zw zc => ?_⟩, ?_⟩
          · exact fld_39_4 rfl (zc.kn.ev rfl) ⟨_, rfl, rfl, optDef rfl rfl⟩
          refine ⟨.inl ⟨by decide, rfl, fun za zw zc => ?_⟩, ?_⟩
          · exact ld_24 rfl ((show za.eval (.tmp 34) = za.tmps.getD 34 undef from rfl).trans (valVal (zc.dep 11 34 (by kernel_rfl) (by decide)) rfl rfl)) (bkeeps zc.below _ _ ((hB38.cell 7).trans rfl)) (bkeeps zc.below _ _ ((hB38.cell 8).trans rfl)) ⟨_, rfl, rfl, optDef rfl rfl⟩
          refine ⟨.inl ⟨by decide, rfl, fun za zw zc => ?_⟩, ?_⟩
          · exact build_41_0_1_2 rfl ((show za.eval (.tmp 31) = za.tmps.getD 31 undef from rfl).trans (valVal (zc.dep 8 31 (by kernel_rfl) (by decide)) rfl rfl)) ((show za.eval (.tmp 33) = za.tmps.getD 33 undef from rfl).trans (valVal (zc.dep 10 33 (by kernel_rfl) (by decide)) rfl rfl)) ((show za.eval (.tmp 35) = za.tmps.getD 35 undef from rfl).trans (valVal (zc.dep 12 35 (by kernel_rfl) (by decide)) rfl rfl)) ⟨_, rfl, rfl, optDef rfl rfl⟩
          refine ⟨.inr (.inl ⟨rfl, rfl, fun za zw zc => ?_⟩), ?_⟩
          · exact alloc_41 rfl ⟨rfl, rfl⟩
          refine ⟨.inr (.inr (.inl ⟨rfl, rfl, fun za zw zc => ?_⟩)), ?_⟩
          · exact alloc_41 rfl ⟨rfl, rfl⟩
          refine ⟨.inr (.inr (.inr (.inl ⟨rfl, rfl, 7, by kernel_rfl, fun za zw g zc z1 zB => ?_⟩))), ?_⟩
          · exact st_41 rfl ((show za.eval (.tmp 7) = za.tmps.getD 7 undef from rfl).trans z1) ((show za.eval (.tmp 29) = za.tmps.getD 29 undef from rfl).trans (valVal (zc.dep 6 29 (by kernel_rfl) (by decide)) rfl rfl)) rfl rfl rfl rfl rfl zB (by first | decide | simp) (fun v => ⟨v, rfl, ((((Upd.at_ _ _ _ _).trans (Upd.at_ _ _ _ _)).trans (Upd.at_ _ _ _ _)).trans (Upd.at_ _ _ _ _)).trans (Upd.at_ _ _ _ _), ((((zB.set_ 0 _).set_ 1 _).set_ 2 _).set_ 3 _).set_ 4 _⟩)
          refine ⟨.inr (.inr (.inr (.inr ⟨rfl, rfl, 8, by kernel_rfl, fun za zw g zc z1 zB => ?_⟩))), ?_⟩
          · exact st_41 rfl ((show za.eval (.tmp 8) = za.tmps.getD 8 undef from rfl).trans z1) ((show za.eval (.tmp 36) = za.tmps.getD 36 undef from rfl).trans (valVal (zc.dep 13 36 (by kernel_rfl) (by decide)) rfl rfl)) rfl rfl rfl rfl rfl zB (by first | decide | simp) (fun v => ⟨v, rfl, ((((Upd.at_ _ _ _ _).trans (Upd.at_ _ _ _ _)).trans (Upd.at_ _ _ _ _)).trans (Upd.at_ _ _ _ _)).trans (Upd.at_ _ _ _ _), ((((zB.set_ 0 _).set_ 1 _).set_ 2 _).set_ 3 _).set_ 4 _⟩)
          exact trivial
        · intro za w47 g48 g49 zh hb50 hg51 hg52 hne53 hB54 hB55 ha56 hb57 zu
          have hl58 : g29 < g48 := by have z1 := hB38.lt; omega
          have hl59 : w.heap.size ≤ g48 := by have z2 := (hb41).size; omega
          have hl60 : w11.heap.size ≤ g48 := by have z2 := (hb42).size; omega
          have hl61 : g29 < g49 := by have z1 := hB38.lt; omega
          have hl62 : w.heap.size ≤ g49 := by have z2 := (hb41).size; omega
          have hl63 : w11.heap.size ≤ g49 := by have z2 := (hb42).size; omega
          have zh := zh.cons (d := 7) ha56
          have zh := zh.cons (d := 8) hb57
          clear zu
          refine (show WE _ [(0, .slice pa l.length ca), (3, .pointer (some ⟨gm, 0, none⟩)), (4, .pointer (some ⟨g3, 0, none⟩)), (5, .int .i64 (((x.1 : Nat) : Int))), (6, .pointer (some ⟨g29, 0, none⟩)), (7, .pointer (some ⟨g48, 0, none⟩)), (8, .pointer (some ⟨g49, 0, none⟩)), (14, .slice pa l.length ca), (15, .int .i64 (((l.length : Nat) : Int))), (16, .int .i64 (((x.1 : Nat) : Int))), (17, .bool ((decide ((((x.1 : Nat) : Int) : Int) < (((l.length : Nat) : Int) : Int))))), (22, .bool ((decide ((60 : Int) ≤ (((x.1 : Nat) : Int) : Int)))))] w47 _ .normal from ?_) za (zh.sub ⟨rfl, rfl, rfl, rfl, rfl, rfl, rfl, rfl, rfl, rfl, rfl, rfl, trivial⟩)
          refine WE.next ?_
          refine WC.seq ?_
          have hw9 : w.heap.size ≤ w11.heap.size := hb13.size
          have hl64 : w11.heap.size ≤ g29 := by have z : w11.heap.size ≤ w11.heap.size := (Nat.le_refl _); omega
          have hl65 : w11.heap.size ≤ g48 := by have z : w11.heap.size ≤ w36.heap.size := hb42.size; omega
          have hl66 : w11.heap.size ≤ g49 := by have z : w11.heap.size ≤ w36.heap.size := hb42.size; omega
          have hBr : Both (fun b => w.heap.size ≤ b ∧ b ≠ g29 ∧ b ≠ g48 ∧ b ≠ g49) gm g3 x.2 x.2 w11 := Both.mono ho14 (fun b q z => by (try dsimp only at *); omega)
          refine WC.region ?_
          refine WL.val (.bool true) rfl rfl rfl (fun za zC zh zk => wp_assign rfl (zh.ev rfl) zk) ?_
          refine WL.val (.bool true) rfl rfl rfl (fun za zC zh zk => wp_assign rfl (zh.ev rfl) zk) ?_
          refine WL.nil (WE.sub (K' := [(0, .slice pa l.length ca), (3, .pointer (some ⟨gm, 0, none⟩)), (4, .pointer (some ⟨g3, 0, none⟩)), (5, .int .i64 (((x.1 : Nat) : Int))), (6, .pointer (some ⟨g29, 0, none⟩)), (7, .pointer (some ⟨g48, 0, none⟩)), (8, .pointer (some ⟨g49, 0, none⟩)), (9, .bool true), (10, .bool true), (14, .slice pa l.length ca), (15, .int .i64 (((l.length : Nat) : Int))), (16, .int .i64 (((x.1 : Nat) : Int))), (17, .bool ((decide ((((x.1 : Nat) : Int) : Int) < (((l.length : Nat) : Int) : Int))))), (22, .bool ((decide ((60 : Int) ≤ (((x.1 : Nat) : Int) : Int)))))]) ⟨rfl, rfl, rfl, rfl, rfl, rfl, rfl, rfl, rfl, rfl, rfl, rfl, rfl, rfl, trivial⟩ ?_)
          refine WE.next ?_
          refine WC.seq ?_
          refine WC.seq ?_
          refine WC.region ?_
          refine WL.val (.pointer (some ⟨g29, 0, none⟩)) rfl rfl rfl (fun za zC zh zk => fld_39_0 rfl (zh.ev rfl) zk) ?_
          have hB67 := hB38.below hb50
          refine WL.val (.int .i64 ((xget l x.1).kind)) rfl rfl rfl (fun za zC zh zk => ld_3 rfl (zh.ev rfl) ((hB67.cell 0).trans rfl) zk) ?_
          refine WL.nil (WE.sub (K' := [(0, .slice pa l.length ca), (3, .pointer (some ⟨gm, 0, none⟩)), (4, .pointer (some ⟨g3, 0, none⟩)), (5, .int .i64 (((x.1 : Nat) : Int))), (6, .pointer (some ⟨g29, 0, none⟩)), (7, .pointer (some ⟨g48, 0, none⟩)), (8, .pointer (some ⟨g49, 0, none⟩)), (9, .bool true), (10, .bool true), (14, .slice pa l.length ca), (15, .int .i64 (((l.length : Nat) : Int))), (16, .int .i64 (((x.1 : Nat) : Int))), (17, .bool ((decide ((((x.1 : Nat) : Int) : Int) < (((l.length : Nat) : Int) : Int))))), (22, .bool ((decide ((60 : Int) ≤ (((x.1 : Nat) : Int) : Int))))), (38, .int .i64 ((xget l x.1).kind))]) ⟨rfl, rfl, rfl, rfl, rfl, rfl, rfl, rfl, rfl, rfl, rfl, rfl, rfl, rfl, rfl, trivial⟩ ?_)
          refine WE.next ?_
          refine WC.block ?_
          refine WC.seq ?_
          refine WC.region ?_
          refine WL.val (.bool ((((xget l x.1).kind : Int) == (0 : Int)))) rfl rfl rfl (fun za zC zh zk => eql_3 rfl (zh.ev rfl) (zh.ev rfl) zk) ?_
          refine WL.val (.bool ((((xget l x.1).kind : Int) == (0 : Int)))) rfl rfl rfl (fun za zC zh zk => wp_assign rfl (zh.ev rfl) zk) ?_
          refine WL.nil (WE.sub (K' := [(0, .slice pa l.length ca), (3, .pointer (some ⟨gm, 0, none⟩)), (4, .pointer (some ⟨g3, 0, none⟩)), (5, .int .i64 (((x.1 : Nat) : Int))), (6, .pointer (some ⟨g29, 0, none⟩)), (7, .pointer (some ⟨g48, 0, none⟩)), (8, .pointer (some ⟨g49, 0, none⟩)), (9, .bool true), (10, .bool true), (14, .slice pa l.length ca), (15, .int .i64 (((l.length : Nat) : Int))), (16, .int .i64 (((x.1 : Nat) : Int))), (17, .bool ((decide ((((x.1 : Nat) : Int) : Int) < (((l.length : Nat) : Int) : Int))))), (22, .bool ((decide ((60 : Int) ≤ (((x.1 : Nat) : Int) : Int))))), (38, .int .i64 ((xget l x.1).kind)), (39, .bool ((((xget l x.1).kind : Int) == (0 : Int))))]) ⟨rfl, rfl, rfl, rfl, rfl, rfl, rfl, rfl, rfl, rfl, rfl, rfl, rfl, rfl, rfl, rfl, trivial⟩ ?_)
          refine WE.next ?_
          refine WC.cond rfl (fun h68 => ?_) (fun h68 => ?_)
          · have h68 : ((xget l x.1).kind : Int) = (0 : Int) := by simpa using h68
            refine WC.seq ?_
            refine WC.region ?_
            refine WL.val (.pointer (some ⟨gm, 0, none⟩)) rfl rfl rfl (fun za zC zh zk => wp_move rfl (zh.ev rfl) zk) ?_
            refine WL.val (.pointer (some ⟨g29, 1, none⟩)) rfl rfl rfl (fun za zC zh zk => fld_39_1 rfl (zh.ev rfl) zk) ?_
            refine WL.val (.agg #[.int .i64 ((xget l x.1).p.f), .slice a1 ((xget l x.1).p.args.length) c1]) rfl rfl rfl (fun za zC zh zk => ld_24 rfl (zh.ev rfl) ((hB67.cell 1).trans rfl) ((hB67.cell 2).trans rfl) zk) ?_
            refine WL.val (.pointer (some ⟨g29, 3, none⟩)) rfl rfl rfl (fun za zC zh zk => fld_39_2 rfl (zh.ev rfl) zk) ?_
            refine WL.val (.agg #[.int .i64 ((xget l x.1).t.f), .slice a2 ((xget l x.1).t.args.length) c2]) rfl rfl rfl (fun za zC zh zk => ld_24 rfl (zh.ev rfl) ((hB67.cell 3).trans rfl) ((hB67.cell 4).trans rfl) zk) ?_
            have hl69 : g29 < w47.heap.size := hB67.lt
            have hl70 : g48 < w47.heap.size := hB54.lt
            have hl71 : g49 < w47.heap.size := hB55.lt
            have hw72 : w.heap.size ≤ w47.heap.size := (Nat.le_trans hb41.size hb50.size)
            have hb73 : Below w.heap.size w w47 := (bstep hb41 hb50)
            have hb75 : Below w11.heap.size w11 w47 := (bstep hb42 hb50)
            have ho74 := hBr.below hb75
            refine WL.call rfl rfl rfl (fun za zh zC => wp_call (by kernel_rfl) rfl (hv3 (zh.ev rfl) (zh.ev rfl) (zh.ev rfl))) (bterm_m (xget l x.1).p (xget l x.1).t ho74 (fun b q => by (try dsimp only at *); omega) (InT.below hb73 hPi) (InT.isT (InT.below hb73 hTi)) (fun b q q2 => by (try dsimp only at *); omega) (by omega) (by omega) (by omega)) ?_
            rintro _ w78 ⟨⟨rfl, hq76⟩, hc77⟩
            have hb79 := chg_below hb73 hc77 (fun b hb => (fun h => by (try dsimp only at *); omega))
            have hB80 := chg_blk hB67 hc77 (fun h => by (try dsimp only at *); omega)
            have hB81 := chg_blk hB54 hc77 (fun h => by (try dsimp only at *); omega)
            have hB82 := chg_blk hB55 hc77 (fun h => by (try dsimp only at *); omega)
            refine WL.val (.bool ((mOk (xget l x.1).p (xget l x.1).t x.2))) rfl rfl rfl (fun za zC zh zk => wp_assign rfl (zh.ev rfl) zk) ?_
            refine WL.nil (WE.sub (K' := [(0, .slice pa l.length ca), (3, .pointer (some ⟨gm, 0, none⟩)), (4, .pointer (some ⟨g3, 0, none⟩)), (5, .int .i64 (((x.1 : Nat) : Int))), (6, .pointer (some ⟨g29, 0, none⟩)), (7, .pointer (some ⟨g48, 0, none⟩)), (8, .pointer (some ⟨g49, 0, none⟩)), (9, .bool ((mOk (xget l x.1).p (xget l x.1).t x.2))), (10, .bool true), (14, .slice pa l.length ca), (15, .int .i64 (((l.length : Nat) : Int))), (16, .int .i64 (((x.1 : Nat) : Int))), (17, .bool ((decide ((((x.1 : Nat) : Int) : Int) < (((l.length : Nat) : Int) : Int))))), (22, .bool ((decide ((60 : Int) ≤ (((x.1 : Nat) : Int) : Int))))), (38, .int .i64 ((xget l x.1).kind)), (39, .bool ((((xget l x.1).kind : Int) == (0 : Int))))]) ⟨rfl, rfl, rfl, rfl, rfl, rfl, rfl, rfl, rfl, rfl, rfl, rfl, rfl, rfl, rfl, rfl, trivial⟩ ?_)
            refine WE.next ?_
            refine WC.region ?_
            refine WL.val (.pointer (some ⟨g3, 0, none⟩)) rfl rfl rfl (fun za zC zh zk => wp_move rfl (zh.ev rfl) zk) ?_
            refine WL.val (.pointer (some ⟨g29, 1, none⟩)) rfl rfl rfl (fun za zC zh zk => fld_39_1 rfl (zh.ev rfl) zk) ?_
            refine WL.val (.agg #[.int .i64 ((xget l x.1).p.f), .slice a1 ((xget l x.1).p.args.length) c1]) rfl rfl rfl (fun za zC zh zk => ld_24 rfl (zh.ev rfl) ((hB80.cell 1).trans rfl) ((hB80.cell 2).trans rfl) zk) ?_
            refine WL.val (.pointer (some ⟨g29, 3, none⟩)) rfl rfl rfl (fun za zC zh zk => fld_39_2 rfl (zh.ev rfl) zk) ?_
            refine WL.val (.agg #[.int .i64 ((xget l x.1).t.f), .slice a2 ((xget l x.1).t.args.length) c2]) rfl rfl rfl (fun za zC zh zk => ld_24 rfl (zh.ev rfl) ((hB80.cell 3).trans rfl) ((hB80.cell 4).trans rfl) zk) ?_
            have hl83 : g29 < w78.heap.size := hB80.lt
            have hl84 : g48 < w78.heap.size := hB81.lt
            have hl85 : g49 < w78.heap.size := hB82.lt
            have hw86 : w.heap.size ≤ w78.heap.size := hb79.size
            refine WL.call rfl rfl rfl (fun za zh zC => wp_call (by kernel_rfl) rfl (hv3 (zh.ev rfl) (zh.ev rfl) (zh.ev rfl))) (bterm_z (xget l x.1).p (xget l x.1).t hq76 (fun b q => by (try dsimp only at *); omega) (InT.below hb79 hPi) (InT.below hb79 hTi) (fun b q q2 => by (try dsimp only at *); omega) (by omega) (by omega) (by omega)) ?_
            rintro _ w89 ⟨⟨rfl, hq87⟩, hc88⟩
            have hb90 := chg_below hb79 hc88 (fun b hb => (fun h => by (try dsimp only at *); omega))
            have hB91 := chg_blk hB80 hc88 (fun h => by (try dsimp only at *); omega)
            have hB92 := chg_blk hB81 hc88 (fun h => by (try dsimp only at *); omega)
            have hB93 := chg_blk hB82 hc88 (fun h => by (try dsimp only at *); omega)
            refine WL.val (.bool ((mOk (xget l x.1).p (xget l x.1).t x.2))) rfl rfl rfl (fun za zC zh zk => wp_assign rfl (zh.ev rfl) zk) ?_
            refine WL.nil (WE.sub (K' := [(0, .slice pa l.length ca), (3, .pointer (some ⟨gm, 0, none⟩)), (4, .pointer (some ⟨g3, 0, none⟩)), (5, .int .i64 (((x.1 : Nat) : Int))), (6, .pointer (some ⟨g29, 0, none⟩)), (7, .pointer (some ⟨g48, 0, none⟩)), (8, .pointer (some ⟨g49, 0, none⟩)), (9, .bool ((mOk (xget l x.1).p (xget l x.1).t x.2))), (10, .bool ((mOk (xget l x.1).p (xget l x.1).t x.2))), (14, .slice pa l.length ca), (15, .int .i64 (((l.length : Nat) : Int))), (16, .int .i64 (((x.1 : Nat) : Int))), (17, .bool ((decide ((((x.1 : Nat) : Int) : Int) < (((l.length : Nat) : Int) : Int))))), (22, .bool ((decide ((60 : Int) ≤ (((x.1 : Nat) : Int) : Int))))), (38, .int .i64 ((xget l x.1).kind)), (39, .bool ((((xget l x.1).kind : Int) == (0 : Int))))]) ⟨rfl, rfl, rfl, rfl, rfl, rfl, rfl, rfl, rfl, rfl, rfl, rfl, rfl, rfl, rfl, rfl, trivial⟩ ?_)
            refine WE.blockNormal ?_
            refine WE.next ?_
            refine WC.seq ?_
            refine WC.region ?_
            refine WL.val (.bool ((mOk (xget l x.1).p (xget l x.1).t x.2))) rfl rfl rfl (fun za zC zh zk => wp_move rfl (zh.ev rfl) zk) ?_
            refine WL.val (.bool ((mOk (xget l x.1).p (xget l x.1).t x.2))) rfl rfl rfl (fun za zC zh zk => wp_move rfl (zh.ev rfl) zk) ?_
            refine WL.val (.bool (((mOk (xget l x.1).p (xget l x.1).t x.2) != (mOk (xget l x.1).p (xget l x.1).t x.2)))) rfl rfl rfl (fun za zC zh zk => neq_4 rfl (zh.ev rfl) (zh.ev rfl) zk) ?_
            refine WL.val (.bool (((mOk (xget l x.1).p (xget l x.1).t x.2) != (mOk (xget l x.1).p (xget l x.1).t x.2)))) rfl rfl rfl (fun za zC zh zk => wp_move rfl (zh.ev rfl) zk) ?_
            refine bool_split (((mOk (xget l x.1).p (xget l x.1).t x.2) != (mOk (xget l x.1).p (xget l x.1).t x.2))) (fun h94 => ?_) (fun h94 => ?_)
            · refine WL.sub (K' := [(0, .slice pa l.length ca), (3, .pointer (some ⟨gm, 0, none⟩)), (4, .pointer (some ⟨g3, 0, none⟩)), (5, .int .i64 (((x.1 : Nat) : Int))), (6, .pointer (some ⟨g29, 0, none⟩)), (7, .pointer (some ⟨g48, 0, none⟩)), (8, .pointer (some ⟨g49, 0, none⟩)), (9, .bool ((mOk (xget l x.1).p (xget l x.1).t x.2))), (10, .bool ((mOk (xget l x.1).p (xget l x.1).t x.2))), (14, .slice pa l.length ca), (15, .int .i64 (((l.length : Nat) : Int))), (16, .int .i64 (((x.1 : Nat) : Int))), (17, .bool ((decide ((((x.1 : Nat) : Int) : Int) < (((l.length : Nat) : Int) : Int))))), (22, .bool ((decide ((60 : Int) ≤ (((x.1 : Nat) : Int) : Int))))), (38, .int .i64 ((xget l x.1).kind)), (39, .bool ((((xget l x.1).kind : Int) == (0 : Int)))), (80, .bool ((mOk (xget l x.1).p (xget l x.1).t x.2))), (81, .bool ((mOk (xget l x.1).p (xget l x.1).t x.2))), (82, .bool (((mOk (xget l x.1).p (xget l x.1).t x.2) != (mOk (xget l x.1).p (xget l x.1).t x.2)))), (83, .bool true)]) ⟨rfl, rfl, rfl, rfl, rfl, rfl, rfl, rfl, rfl, rfl, rfl, rfl, rfl, rfl, rfl, rfl, rfl, rfl, rfl, (by exact congrArg (fun z => some (Value.bool z)) h94), trivial⟩ ?_
              have h94 : (mOk (xget l x.1).p (xget l x.1).t x.2) ≠ (mOk (xget l x.1).p (xget l x.1).t x.2) := by simpa using h94
              refine WL.skip (d := 83) rfl rfl rfl rfl rfl ?_
              refine WL.skip (d := 83) rfl rfl rfl rfl rfl ?_
              refine WL.skip (d := 83) rfl rfl rfl rfl rfl ?_
              refine WL.skip (d := 83) rfl rfl rfl rfl rfl ?_
              refine WL.skip (d := 83) rfl rfl rfl rfl rfl ?_
              refine WL.val (.bool true) rfl rfl rfl (fun za zC zh zk => wp_pickT rfl (zh.ev rfl) (zh.ev rfl) zk) ?_
              refine WL.val (.bool true) rfl rfl rfl (fun za zC zh zk => wp_move rfl (zh.ev rfl) zk) ?_
              refine WL.skip (d := 90) rfl rfl rfl rfl rfl ?_
              refine WL.skip (d := 90) rfl rfl rfl rfl rfl ?_
              refine WL.skip (d := 90) rfl rfl rfl rfl rfl ?_
              refine WL.skip (d := 90) rfl rfl rfl rfl rfl ?_
              refine WL.skip (d := 90) rfl rfl rfl rfl rfl ?_
              refine WL.skip (d := 90) rfl rfl rfl rfl rfl ?_
              refine WL.val (.bool true) rfl rfl rfl (fun za zC zh zk => wp_pickT rfl (zh.ev rfl) (zh.ev rfl) zk) ?_
              refine WL.nil (WE.sub (K' := [(0, .slice pa l.length ca), (3, .pointer (some ⟨gm, 0, none⟩)), (4, .pointer (some ⟨g3, 0, none⟩)), (5, .int .i64 (((x.1 : Nat) : Int))), (6, .pointer (some ⟨g29, 0, none⟩)), (7, .pointer (some ⟨g48, 0, none⟩)), (8, .pointer (some ⟨g49, 0, none⟩)), (9, .bool ((mOk (xget l x.1).p (xget l x.1).t x.2))), (10, .bool ((mOk (xget l x.1).p (xget l x.1).t x.2))), (14, .slice pa l.length ca), (15, .int .i64 (((l.length : Nat) : Int))), (16, .int .i64 (((x.1 : Nat) : Int))), (17, .bool ((decide ((((x.1 : Nat) : Int) : Int) < (((l.length : Nat) : Int) : Int))))), (22, .bool ((decide ((60 : Int) ≤ (((x.1 : Nat) : Int) : Int))))), (38, .int .i64 ((xget l x.1).kind)), (39, .bool ((((xget l x.1).kind : Int) == (0 : Int)))), (97, .bool true)]) ⟨rfl, rfl, rfl, rfl, rfl, rfl, rfl, rfl, rfl, rfl, rfl, rfl, rfl, rfl, rfl, rfl, rfl, trivial⟩ ?_)
              refine WE.next ?_
              refine WC.condT rfl rfl ?_
              refine WC.seq ?_
              refine WC.region ?_
              refine WL.val (.bool false) rfl rfl rfl (fun za zC zh zk => wp_assign rfl (zh.ev rfl) zk) ?_
              refine WL.nil (WE.sub (K' := [(0, .slice pa l.length ca), (2, .bool false), (3, .pointer (some ⟨gm, 0, none⟩)), (4, .pointer (some ⟨g3, 0, none⟩)), (5, .int .i64 (((x.1 : Nat) : Int))), (6, .pointer (some ⟨g29, 0, none⟩)), (7, .pointer (some ⟨g48, 0, none⟩)), (8, .pointer (some ⟨g49, 0, none⟩)), (9, .bool ((mOk (xget l x.1).p (xget l x.1).t x.2))), (10, .bool ((mOk (xget l x.1).p (xget l x.1).t x.2))), (14, .slice pa l.length ca), (15, .int .i64 (((l.length : Nat) : Int))), (16, .int .i64 (((x.1 : Nat) : Int))), (17, .bool ((decide ((((x.1 : Nat) : Int) : Int) < (((l.length : Nat) : Int) : Int))))), (22, .bool ((decide ((60 : Int) ≤ (((x.1 : Nat) : Int) : Int))))), (38, .int .i64 ((xget l x.1).kind)), (39, .bool ((((xget l x.1).kind : Int) == (0 : Int)))), (97, .bool true)]) ⟨rfl, rfl, rfl, rfl, rfl, rfl, rfl, rfl, rfl, rfl, rfl, rfl, rfl, rfl, rfl, rfl, rfl, rfl, trivial⟩ ?_)
              refine WE.next ?_
              refine WC.ret ?_
              refine WE.blockRet ?_
              refine WE.thenRet ?_
              refine WE.thenRet ?_
              refine WE.blockRet ?_
              refine WE.thenRet ?_
              refine WE.ret1 rfl rfl ?_
              exfalso
              first | (simp at h94; done)
            · refine WL.sub (K' := [(0, .slice pa l.length ca), (3, .pointer (some ⟨gm, 0, none⟩)), (4, .pointer (some ⟨g3, 0, none⟩)), (5, .int .i64 (((x.1 : Nat) : Int))), (6, .pointer (some ⟨g29, 0, none⟩)), (7, .pointer (some ⟨g48, 0, none⟩)), (8, .pointer (some ⟨g49, 0, none⟩)), (9, .bool ((mOk (xget l x.1).p (xget l x.1).t x.2))), (10, .bool ((mOk (xget l x.1).p (xget l x.1).t x.2))), (14, .slice pa l.length ca), (15, .int .i64 (((l.length : Nat) : Int))), (16, .int .i64 (((x.1 : Nat) : Int))), (17, .bool ((decide ((((x.1 : Nat) : Int) : Int) < (((l.length : Nat) : Int) : Int))))), (22, .bool ((decide ((60 : Int) ≤ (((x.1 : Nat) : Int) : Int))))), (38, .int .i64 ((xget l x.1).kind)), (39, .bool ((((xget l x.1).kind : Int) == (0 : Int)))), (80, .bool ((mOk (xget l x.1).p (xget l x.1).t x.2))), (81, .bool ((mOk (xget l x.1).p (xget l x.1).t x.2))), (82, .bool (((mOk (xget l x.1).p (xget l x.1).t x.2) != (mOk (xget l x.1).p (xget l x.1).t x.2)))), (83, .bool false)]) ⟨rfl, rfl, rfl, rfl, rfl, rfl, rfl, rfl, rfl, rfl, rfl, rfl, rfl, rfl, rfl, rfl, rfl, rfl, rfl, (by exact congrArg (fun z => some (Value.bool z)) h94), trivial⟩ ?_
              have h94 : ¬ ((mOk (xget l x.1).p (xget l x.1).t x.2) ≠ (mOk (xget l x.1).p (xget l x.1).t x.2)) := by simpa using h94
              refine WL.want (d := 83) rfl rfl rfl ?_
              refine WL.val (.pointer (some ⟨gm, 0, none⟩)) rfl rfl rfl (fun za zC zh zk => wp_move rfl (zh.ev rfl) zk) ?_
              refine WL.want (d := 83) rfl rfl rfl ?_
              refine WL.call rfl rfl rfl (fun za zh zC => wp_call (by kernel_rfl) rfl (hv1 (zh.ev rfl))) (bmark_m hq87) ?_
              rintro _ w96 ⟨rfl, hq95⟩
              refine WL.want (d := 83) rfl rfl rfl ?_
              refine WL.val (.pointer (some ⟨g3, 0, none⟩)) rfl rfl rfl (fun za zC zh zk => wp_move rfl (zh.ev rfl) zk) ?_
              refine WL.want (d := 83) rfl rfl rfl ?_
              have ho97 := hq87.below hq95
              refine WL.call rfl rfl rfl (fun za zh zC => wp_call (by kernel_rfl) rfl (hv1 (zh.ev rfl))) (bmark_z ho97) ?_
              rintro _ w99 ⟨rfl, hq98⟩
              refine WL.want (d := 83) rfl rfl rfl ?_
              refine WL.val (.bool ((((((mTo (xget l x.1).p (xget l x.1).t x.2).length : Nat) : Int) : Int) != ((((mTo (xget l x.1).p (xget l x.1).t x.2).length : Nat) : Int) : Int)))) rfl rfl rfl (fun za zC zh zk => neq_3 rfl (zh.ev rfl) (zh.ev rfl) zk) ?_
              refine WL.val (.bool ((((((mTo (xget l x.1).p (xget l x.1).t x.2).length : Nat) : Int) : Int) != ((((mTo (xget l x.1).p (xget l x.1).t x.2).length : Nat) : Int) : Int)))) rfl rfl rfl (fun za zC zh zk => wp_pickF rfl (zh.ev rfl) (zh.ev rfl) zk) ?_
              refine WL.val (.bool ((((((mTo (xget l x.1).p (xget l x.1).t x.2).length : Nat) : Int) : Int) != ((((mTo (xget l x.1).p (xget l x.1).t x.2).length : Nat) : Int) : Int)))) rfl rfl rfl (fun za zC zh zk => wp_move rfl (zh.ev rfl) zk) ?_
              refine bool_split ((((((mTo (xget l x.1).p (xget l x.1).t x.2).length : Nat) : Int) : Int) != ((((mTo (xget l x.1).p (xget l x.1).t x.2).length : Nat) : Int) : Int))) (fun h100 => ?_) (fun h100 => ?_)
              · refine WL.sub (K' := [(0, .slice pa l.length ca), (3, .pointer (some ⟨gm, 0, none⟩)), (4, .pointer (some ⟨g3, 0, none⟩)), (5, .int .i64 (((x.1 : Nat) : Int))), (6, .pointer (some ⟨g29, 0, none⟩)), (7, .pointer (some ⟨g48, 0, none⟩)), (8, .pointer (some ⟨g49, 0, none⟩)), (9, .bool ((mOk (xget l x.1).p (xget l x.1).t x.2))), (10, .bool ((mOk (xget l x.1).p (xget l x.1).t x.2))), (14, .slice pa l.length ca), (15, .int .i64 (((l.length : Nat) : Int))), (16, .int .i64 (((x.1 : Nat) : Int))), (17, .bool ((decide ((((x.1 : Nat) : Int) : Int) < (((l.length : Nat) : Int) : Int))))), (22, .bool ((decide ((60 : Int) ≤ (((x.1 : Nat) : Int) : Int))))), (38, .int .i64 ((xget l x.1).kind)), (39, .bool ((((xget l x.1).kind : Int) == (0 : Int)))), (80, .bool ((mOk (xget l x.1).p (xget l x.1).t x.2))), (81, .bool ((mOk (xget l x.1).p (xget l x.1).t x.2))), (82, .bool (((mOk (xget l x.1).p (xget l x.1).t x.2) != (mOk (xget l x.1).p (xget l x.1).t x.2)))), (83, .bool false), (84, .pointer (some ⟨gm, 0, none⟩)), (85, .int .i64 ((((mTo (xget l x.1).p (xget l x.1).t x.2).length : Nat) : Int))), (86, .pointer (some ⟨g3, 0, none⟩)), (87, .int .i64 ((((mTo (xget l x.1).p (xget l x.1).t x.2).length : Nat) : Int))), (88, .bool ((((((mTo (xget l x.1).p (xget l x.1).t x.2).length : Nat) : Int) : Int) != ((((mTo (xget l x.1).p (xget l x.1).t x.2).length : Nat) : Int) : Int)))), (89, .bool ((((((mTo (xget l x.1).p (xget l x.1).t x.2).length : Nat) : Int) : Int) != ((((mTo (xget l x.1).p (xget l x.1).t x.2).length : Nat) : Int) : Int)))), (90, .bool true)]) ⟨rfl, rfl, rfl, rfl, rfl, rfl, rfl, rfl, rfl, rfl, rfl, rfl, rfl, rfl, rfl, rfl, rfl, rfl, rfl, rfl, rfl, rfl, rfl, rfl, rfl, rfl, (by exact congrArg (fun z => some (Value.bool z)) h100), trivial⟩ ?_
                have h100 : ((((mTo (xget l x.1).p (xget l x.1).t x.2).length : Nat) : Int) : Int) ≠ ((((mTo (xget l x.1).p (xget l x.1).t x.2).length : Nat) : Int) : Int) := by simpa using h100
                refine WL.skip (d := 90) rfl rfl rfl rfl rfl ?_
                refine WL.skip (d := 90) rfl rfl rfl rfl rfl ?_
                refine WL.skip (d := 90) rfl rfl rfl rfl rfl ?_
                refine WL.skip (d := 90) rfl rfl rfl rfl rfl ?_
                refine WL.skip (d := 90) rfl rfl rfl rfl rfl ?_
                refine WL.skip (d := 90) rfl rfl rfl rfl rfl ?_
                refine WL.val (.bool true) rfl rfl rfl (fun za zC zh zk => wp_pickT rfl (zh.ev rfl) (zh.ev rfl) zk) ?_
                refine WL.nil (WE.sub (K' := [(0, .slice pa l.length ca), (3, .pointer (some ⟨gm, 0, none⟩)), (4, .pointer (some ⟨g3, 0, none⟩)), (5, .int .i64 (((x.1 : Nat) : Int))), (6, .pointer (some ⟨g29, 0, none⟩)), (7, .pointer (some ⟨g48, 0, none⟩)), (8, .pointer (some ⟨g49, 0, none⟩)), (9, .bool ((mOk (xget l x.1).p (xget l x.1).t x.2))), (10, .bool ((mOk (xget l x.1).p (xget l x.1).t x.2))), (14, .slice pa l.length ca), (15, .int .i64 (((l.length : Nat) : Int))), (16, .int .i64 (((x.1 : Nat) : Int))), (17, .bool ((decide ((((x.1 : Nat) : Int) : Int) < (((l.length : Nat) : Int) : Int))))), (22, .bool ((decide ((60 : Int) ≤ (((x.1 : Nat) : Int) : Int))))), (38, .int .i64 ((xget l x.1).kind)), (39, .bool ((((xget l x.1).kind : Int) == (0 : Int)))), (97, .bool true)]) ⟨rfl, rfl, rfl, rfl, rfl, rfl, rfl, rfl, rfl, rfl, rfl, rfl, rfl, rfl, rfl, rfl, rfl, trivial⟩ ?_)
                refine WE.next ?_
                refine WC.condT rfl rfl ?_
                refine WC.seq ?_
                refine WC.region ?_
                refine WL.val (.bool false) rfl rfl rfl (fun za zC zh zk => wp_assign rfl (zh.ev rfl) zk) ?_
                refine WL.nil (WE.sub (K' := [(0, .slice pa l.length ca), (2, .bool false), (3, .pointer (some ⟨gm, 0, none⟩)), (4, .pointer (some ⟨g3, 0, none⟩)), (5, .int .i64 (((x.1 : Nat) : Int))), (6, .pointer (some ⟨g29, 0, none⟩)), (7, .pointer (some ⟨g48, 0, none⟩)), (8, .pointer (some ⟨g49, 0, none⟩)), (9, .bool ((mOk (xget l x.1).p (xget l x.1).t x.2))), (10, .bool ((mOk (xget l x.1).p (xget l x.1).t x.2))), (14, .slice pa l.length ca), (15, .int .i64 (((l.length : Nat) : Int))), (16, .int .i64 (((x.1 : Nat) : Int))), (17, .bool ((decide ((((x.1 : Nat) : Int) : Int) < (((l.length : Nat) : Int) : Int))))), (22, .bool ((decide ((60 : Int) ≤ (((x.1 : Nat) : Int) : Int))))), (38, .int .i64 ((xget l x.1).kind)), (39, .bool ((((xget l x.1).kind : Int) == (0 : Int)))), (97, .bool true)]) ⟨rfl, rfl, rfl, rfl, rfl, rfl, rfl, rfl, rfl, rfl, rfl, rfl, rfl, rfl, rfl, rfl, rfl, rfl, trivial⟩ ?_)
                refine WE.next ?_
                refine WC.ret ?_
                refine WE.blockRet ?_
                refine WE.thenRet ?_
                refine WE.thenRet ?_
                refine WE.blockRet ?_
                refine WE.thenRet ?_
                refine WE.ret1 rfl rfl ?_
                exfalso
                first | (simp at h100; done)
              · refine WL.sub (K' := [(0, .slice pa l.length ca), (3, .pointer (some ⟨gm, 0, none⟩)), (4, .pointer (some ⟨g3, 0, none⟩)), (5, .int .i64 (((x.1 : Nat) : Int))), (6, .pointer (some ⟨g29, 0, none⟩)), (7, .pointer (some ⟨g48, 0, none⟩)), (8, .pointer (some ⟨g49, 0, none⟩)), (9, .bool ((mOk (xget l x.1).p (xget l x.1).t x.2))), (10, .bool ((mOk (xget l x.1).p (xget l x.1).t x.2))), (14, .slice pa l.length ca), (15, .int .i64 (((l.length : Nat) : Int))), (16, .int .i64 (((x.1 : Nat) : Int))), (17, .bool ((decide ((((x.1 : Nat) : Int) : Int) < (((l.length : Nat) : Int) : Int))))), (22, .bool ((decide ((60 : Int) ≤ (((x.1 : Nat) : Int) : Int))))), (38, .int .i64 ((xget l x.1).kind)), (39, .bool ((((xget l x.1).kind : Int) == (0 : Int)))), (80, .bool ((mOk (xget l x.1).p (xget l x.1).t x.2))), (81, .bool ((mOk (xget l x.1).p (xget l x.1).t x.2))), (82, .bool (((mOk (xget l x.1).p (xget l x.1).t x.2) != (mOk (xget l x.1).p (xget l x.1).t x.2)))), (83, .bool false), (84, .pointer (some ⟨gm, 0, none⟩)), (85, .int .i64 ((((mTo (xget l x.1).p (xget l x.1).t x.2).length : Nat) : Int))), (86, .pointer (some ⟨g3, 0, none⟩)), (87, .int .i64 ((((mTo (xget l x.1).p (xget l x.1).t x.2).length : Nat) : Int))), (88, .bool ((((((mTo (xget l x.1).p (xget l x.1).t x.2).length : Nat) : Int) : Int) != ((((mTo (xget l x.1).p (xget l x.1).t x.2).length : Nat) : Int) : Int)))), (89, .bool ((((((mTo (xget l x.1).p (xget l x.1).t x.2).length : Nat) : Int) : Int) != ((((mTo (xget l x.1).p (xget l x.1).t x.2).length : Nat) : Int) : Int)))), (90, .bool false)]) ⟨rfl, rfl, rfl, rfl, rfl, rfl, rfl, rfl, rfl, rfl, rfl, rfl, rfl, rfl, rfl, rfl, rfl, rfl, rfl, rfl, rfl, rfl, rfl, rfl, rfl, rfl, (by exact congrArg (fun z => some (Value.bool z)) h100), trivial⟩ ?_
                have h100 : ¬ (((((mTo (xget l x.1).p (xget l x.1).t x.2).length : Nat) : Int) : Int) ≠ ((((mTo (xget l x.1).p (xget l x.1).t x.2).length : Nat) : Int) : Int)) := by simpa using h100
                refine WL.want (d := 90) rfl rfl rfl ?_
                refine WL.val (.pointer (some ⟨gm, 0, none⟩)) rfl rfl rfl (fun za zC zh zk => wp_move rfl (zh.ev rfl) zk) ?_
                refine WL.want (d := 90) rfl rfl rfl ?_
                have ho101 := ho97.below hq98
                have hz103 := (mTo_take (xget l x.1).p (xget l x.1).t x.2).2.1
                refine WL.call rfl rfl rfl (fun za zh zC => wp_call (by kernel_rfl) rfl (hv1 (zh.ev rfl))) (bsub_m ho101 (by omega)) ?_
                rintro _ w104 ⟨⟨R1, p1, k1, rfl, hR1, hN1⟩, hb102⟩
                refine WL.want (d := 90) rfl rfl rfl ?_
                refine WL.val (.pointer (some ⟨g3, 0, none⟩)) rfl rfl rfl (fun za zC zh zk => wp_move rfl (zh.ev rfl) zk) ?_
                refine WL.want (d := 90) rfl rfl rfl ?_
                have ho105 := ho101.below hb102
                have hz107 := (mTo_take (xget l x.1).p (xget l x.1).t x.2).2.1
                have hnd9 := ho105.nd
                refine WL.call rfl rfl rfl (fun za zh zC => wp_call (by kernel_rfl) rfl (hv1 (zh.ev rfl))) (bsub_z ho105 hnd9 (by omega)) ?_
                rintro _ w108 ⟨⟨R2, p2, k2, rfl, hR2, hN2⟩, hb106⟩
                refine WL.want (d := 90) rfl rfl rfl ?_
                refine WL.call rfl rfl rfl (fun za zh zC => wp_call (by kernel_rfl) rfl (hv2 (zh.ev rfl) (zh.ev rfl))) (rsubSame_yes R1 R2 _ p1 p2 k1 k2 (Nat.le_trans hN1.2.1 hN1.2.2) (hN1.isBs.below hb106) (hN2.isBs.below (Below.refl _ _)) (hR1.unique hR2)) ?_
                rintro _ w110 ⟨rfl, hq109⟩
                refine WL.want (d := 90) rfl rfl rfl ?_
                refine WL.val (.bool false) rfl rfl rfl (fun za zC zh zk => wp_not rfl (zh.ev rfl) zk) ?_
                refine WL.val (.bool false) rfl rfl rfl (fun za zC zh zk => wp_pickF rfl (zh.ev rfl) (zh.ev rfl) zk) ?_
                refine WL.nil (WE.sub (K' := [(0, .slice pa l.length ca), (3, .pointer (some ⟨gm, 0, none⟩)), (4, .pointer (some ⟨g3, 0, none⟩)), (5, .int .i64 (((x.1 : Nat) : Int))), (6, .pointer (some ⟨g29, 0, none⟩)), (7, .pointer (some ⟨g48, 0, none⟩)), (8, .pointer (some ⟨g49, 0, none⟩)), (9, .bool ((mOk (xget l x.1).p (xget l x.1).t x.2))), (10, .bool ((mOk (xget l x.1).p (xget l x.1).t x.2))), (14, .slice pa l.length ca), (15, .int .i64 (((l.length : Nat) : Int))), (16, .int .i64 (((x.1 : Nat) : Int))), (17, .bool ((decide ((((x.1 : Nat) : Int) : Int) < (((l.length : Nat) : Int) : Int))))), (22, .bool ((decide ((60 : Int) ≤ (((x.1 : Nat) : Int) : Int))))), (38, .int .i64 ((xget l x.1).kind)), (39, .bool ((((xget l x.1).kind : Int) == (0 : Int)))), (97, .bool false)]) ⟨rfl, rfl, rfl, rfl, rfl, rfl, rfl, rfl, rfl, rfl, rfl, rfl, rfl, rfl, rfl, rfl, rfl, trivial⟩ ?_)
                refine WE.next ?_
                refine WC.condF rfl rfl ?_
                refine WC.skip ?_
                refine WE.blockNormal ?_
                refine WE.next ?_
                refine WC.region ?_
                refine WL.val (.int .i64 ((((x.1 + 1) : Nat) : Int))) rfl rfl rfl (fun za zC zh zk => addb_3 rfl (zh.ev rfl) (zh.ev rfl) (wrap_eq (by omega) (by omega) (by omega)) zk) ?_
                refine WL.val (.int .i64 ((((x.1 + 1) : Nat) : Int))) rfl rfl rfl (fun za zC zh zk => wp_move rfl (zh.ev rfl) zk) ?_
                refine WL.nil (WE.sub (K' := [(0, .slice pa l.length ca), (3, .pointer (some ⟨gm, 0, none⟩)), (4, .pointer (some ⟨g3, 0, none⟩)), (5, .int .i64 (((x.1 : Nat) : Int))), (6, .pointer (some ⟨g29, 0, none⟩)), (7, .pointer (some ⟨g48, 0, none⟩)), (8, .pointer (some ⟨g49, 0, none⟩)), (9, .bool ((mOk (xget l x.1).p (xget l x.1).t x.2))), (10, .bool ((mOk (xget l x.1).p (xget l x.1).t x.2))), (14, .slice pa l.length ca), (15, .int .i64 (((l.length : Nat) : Int))), (16, .int .i64 ((((x.1 + 1) : Nat) : Int))), (17, .bool ((decide ((((x.1 : Nat) : Int) : Int) < (((l.length : Nat) : Int) : Int))))), (22, .bool ((decide ((60 : Int) ≤ (((x.1 : Nat) : Int) : Int))))), (38, .int .i64 ((xget l x.1).kind)), (39, .bool ((((xget l x.1).kind : Int) == (0 : Int)))), (97, .bool false)]) ⟨rfl, rfl, rfl, rfl, rfl, rfl, rfl, rfl, rfl, rfl, rfl, rfl, rfl, rfl, rfl, rfl, rfl, trivial⟩ ?_)
                refine WE.round ((x.1 + 1, (mTo (xget l x.1).p (xget l x.1).t x.2))) ⟨rfl, rfl, rfl, rfl, rfl, rfl, trivial⟩ ?_ ?_
                · have hb111 : Below w.heap.size w w110 := (bstep (bstep (bstep (bstep (bstep hb90 hq95) hq98) hb102) hb106) hq109)
                  have hb113 : Below w104.heap.size w104 w110 := (bstep hb106 hq109)
                  have ho112 := ho105.below hb113
                  exact ⟨by (try dsimp only); omega, by (try dsimp only); have z := (mTo_take (xget l x.1).p (xget l x.1).t x.2).2.1; omega, hb111, (Both.mono ho112 (fun b q _ => q.1))⟩
                · (try dsimp only); omega
          · have h68 : ¬ (((xget l x.1).kind : Int) = (0 : Int)) := by simpa using h68
            refine WC.seq ?_
            refine WC.seq ?_
            refine WC.region ?_
            refine WL.val (.bool ((((xget l x.1).kind : Int) == (1 : Int)))) rfl rfl rfl (fun za zC zh zk => eql_3 rfl (zh.ev rfl) (zh.ev rfl) zk) ?_
            refine WL.val (.bool ((((xget l x.1).kind : Int) == (1 : Int)))) rfl rfl rfl (fun za zC zh zk => wp_assign rfl (zh.ev rfl) zk) ?_
            refine WL.nil (WE.sub (K' := [(0, .slice pa l.length ca), (3, .pointer (some ⟨gm, 0, none⟩)), (4, .pointer (some ⟨g3, 0, none⟩)), (5, .int .i64 (((x.1 : Nat) : Int))), (6, .pointer (some ⟨g29, 0, none⟩)), (7, .pointer (some ⟨g48, 0, none⟩)), (8, .pointer (some ⟨g49, 0, none⟩)), (9, .bool true), (10, .bool true), (14, .slice pa l.length ca), (15, .int .i64 (((l.length : Nat) : Int))), (16, .int .i64 (((x.1 : Nat) : Int))), (17, .bool ((decide ((((x.1 : Nat) : Int) : Int) < (((l.length : Nat) : Int) : Int))))), (22, .bool ((decide ((60 : Int) ≤ (((x.1 : Nat) : Int) : Int))))), (38, .int .i64 ((xget l x.1).kind)), (39, .bool ((((xget l x.1).kind : Int) == (0 : Int)))), (53, .bool ((((xget l x.1).kind : Int) == (1 : Int))))]) ⟨rfl, rfl, rfl, rfl, rfl, rfl, rfl, rfl, rfl, rfl, rfl, rfl, rfl, rfl, rfl, rfl, rfl, trivial⟩ ?_)
            refine WE.next ?_
            refine WC.cond rfl (fun h114 => ?_) (fun h114 => ?_)
            · have h114 : ((xget l x.1).kind : Int) = (1 : Int) := by simpa using h114
              refine WC.skip ?_
              refine WE.next ?_
              refine WC.condT rfl ((by simpa using h114)) ?_
              refine WC.seq ?_
              refine WC.region ?_
              refine WL.val (.pointer (some ⟨gm, 0, none⟩)) rfl rfl rfl (fun za zC zh zk => wp_move rfl (zh.ev rfl) zk) ?_
              refine WL.val (.agg #[.bool ((xget l x.1).a), .int .i64 ((xget l x.1).p.f), .slice a1 ((xget l x.1).p.args.length) c1, .int .i64 ((xget l x.1).q.f), .slice a3 ((xget l x.1).q.args.length) c3]) rfl rfl rfl (fun za zC zh zk => ld_41 rfl (zh.ev rfl) ((hB54.cell 0).trans rfl) ((hB54.cell 1).trans rfl) ((hB54.cell 2).trans rfl) ((hB54.cell 3).trans rfl) ((hB54.cell 4).trans rfl) zk) ?_
              refine WL.val (.agg #[.bool ((xget l x.1).b), .int .i64 ((xget l x.1).t.f), .slice a2 ((xget l x.1).t.args.length) c2, .int .i64 ((xget l x.1).u.f), .slice a4 ((xget l x.1).u.args.length) c4]) rfl rfl rfl (fun za zC zh zk => ld_41 rfl (zh.ev rfl) ((hB55.cell 0).trans rfl) ((hB55.cell 1).trans rfl) ((hB55.cell 2).trans rfl) ((hB55.cell 3).trans rfl) ((hB55.cell 4).trans rfl) zk) ?_
              refine WL.val (.pointer (some ⟨g29, 0, none⟩)) rfl rfl rfl (fun za zC zh zk => fld_39_0 rfl (zh.ev rfl) zk) ?_
              refine WL.val (.int .i64 ((xget l x.1).kind)) rfl rfl rfl (fun za zC zh zk => ld_3 rfl (zh.ev rfl) ((hB67.cell 0).trans rfl) zk) ?_
              refine WL.val (.bool ((((xget l x.1).kind : Int) == (2 : Int)))) rfl rfl rfl (fun za zC zh zk => eql_3 rfl (zh.ev rfl) (zh.ev rfl) zk) ?_
              have hl115 : g29 < w47.heap.size := hB67.lt
              have hl116 : g48 < w47.heap.size := hB54.lt
              have hl117 : g49 < w47.heap.size := hB55.lt
              have hw118 : w.heap.size ≤ w47.heap.size := (Nat.le_trans hb41.size hb50.size)
              have hb119 : Below w.heap.size w w47 := (bstep hb41 hb50)
              have hb121 : Below w11.heap.size w11 w47 := (bstep hb42 hb50)
              have ho120 := hBr.below hb121
              refine WL.call rfl rfl rfl (fun za zh zC => wp_call (by kernel_rfl) rfl (hv4 (zh.ev rfl) (zh.ev rfl) (zh.ev rfl) (zh.ev rfl))) (blit_m (⟨(xget l x.1).a, (xget l x.1).p, (xget l x.1).q⟩ : Li) (⟨(xget l x.1).b, (xget l x.1).t, (xget l x.1).u⟩ : Li) ((((xget l x.1).kind : Int) == (2 : Int))) ho120 (fun b q => by (try dsimp only at *); omega) (⟨_, _, _, _, rfl, (InT.below hb119 hPi), (InT.below hb119 hQi)⟩ : LiIn (fun b => b < w.heap.size) _ (⟨(xget l x.1).a, (xget l x.1).p, (xget l x.1).q⟩ : Li) _) (⟨_, _, _, _, rfl, (InT.below hb119 hTi), (InT.below hb119 hUi)⟩ : LiIn (fun b => b < w.heap.size) _ (⟨(xget l x.1).b, (xget l x.1).t, (xget l x.1).u⟩ : Li) _) (fun b q q2 => by (try dsimp only at *); omega) (by (try dsimp only); omega) (by (try dsimp only); omega) (by (try dsimp only); omega) (by (try dsimp only); omega) (by (try dsimp only); omega)) ?_
              rintro _ w124 ⟨⟨rfl, hq122⟩, hc123⟩
              have hb125 := chg_below hb119 hc123 (fun b hb => (fun h => by (try dsimp only at *); omega))
              have hB126 := chg_blk hB67 hc123 (fun h => by (try dsimp only at *); omega)
              have hB127 := chg_blk hB54 hc123 (fun h => by (try dsimp only at *); omega)
              have hB128 := chg_blk hB55 hc123 (fun h => by (try dsimp only at *); omega)
              refine WL.val (.bool ((lOk (⟨(xget l x.1).a, (xget l x.1).p, (xget l x.1).q⟩ : Li) (⟨(xget l x.1).b, (xget l x.1).t, (xget l x.1).u⟩ : Li) ((((xget l x.1).kind : Int) == (2 : Int))) x.2))) rfl rfl rfl (fun za zC zh zk => wp_assign rfl (zh.ev rfl) zk) ?_
              refine WL.nil (WE.sub (K' := [(0, .slice pa l.length ca), (3, .pointer (some ⟨gm, 0, none⟩)), (4, .pointer (some ⟨g3, 0, none⟩)), (5, .int .i64 (((x.1 : Nat) : Int))), (6, .pointer (some ⟨g29, 0, none⟩)), (7, .pointer (some ⟨g48, 0, none⟩)), (8, .pointer (some ⟨g49, 0, none⟩)), (9, .bool ((lOk (⟨(xget l x.1).a, (xget l x.1).p, (xget l x.1).q⟩ : Li) (⟨(xget l x.1).b, (xget l x.1).t, (xget l x.1).u⟩ : Li) ((((xget l x.1).kind : Int) == (2 : Int))) x.2))), (10, .bool true), (14, .slice pa l.length ca), (15, .int .i64 (((l.length : Nat) : Int))), (16, .int .i64 (((x.1 : Nat) : Int))), (17, .bool ((decide ((((x.1 : Nat) : Int) : Int) < (((l.length : Nat) : Int) : Int))))), (22, .bool ((decide ((60 : Int) ≤ (((x.1 : Nat) : Int) : Int))))), (38, .int .i64 ((xget l x.1).kind)), (39, .bool ((((xget l x.1).kind : Int) == (0 : Int)))), (53, .bool ((((xget l x.1).kind : Int) == (1 : Int))))]) ⟨rfl, rfl, rfl, rfl, rfl, rfl, rfl, rfl, rfl, rfl, rfl, rfl, rfl, rfl, rfl, rfl, rfl, trivial⟩ ?_)
              refine WE.next ?_
              refine WC.region ?_
              refine WL.val (.pointer (some ⟨g3, 0, none⟩)) rfl rfl rfl (fun za zC zh zk => wp_move rfl (zh.ev rfl) zk) ?_
              refine WL.val (.agg #[.bool ((xget l x.1).a), .int .i64 ((xget l x.1).p.f), .slice a1 ((xget l x.1).p.args.length) c1, .int .i64 ((xget l x.1).q.f), .slice a3 ((xget l x.1).q.args.length) c3]) rfl rfl rfl (fun za zC zh zk => ld_41 rfl (zh.ev rfl) ((hB127.cell 0).trans rfl) ((hB127.cell 1).trans rfl) ((hB127.cell 2).trans rfl) ((hB127.cell 3).trans rfl) ((hB127.cell 4).trans rfl) zk) ?_
              refine WL.val (.agg #[.bool ((xget l x.1).b), .int .i64 ((xget l x.1).t.f), .slice a2 ((xget l x.1).t.args.length) c2, .int .i64 ((xget l x.1).u.f), .slice a4 ((xget l x.1).u.args.length) c4]) rfl rfl rfl (fun za zC zh zk => ld_41 rfl (zh.ev rfl) ((hB128.cell 0).trans rfl) ((hB128.cell 1).trans rfl) ((hB128.cell 2).trans rfl) ((hB128.cell 3).trans rfl) ((hB128.cell 4).trans rfl) zk) ?_
              refine WL.val (.pointer (some ⟨g29, 0, none⟩)) rfl rfl rfl (fun za zC zh zk => fld_39_0 rfl (zh.ev rfl) zk) ?_
              refine WL.val (.int .i64 ((xget l x.1).kind)) rfl rfl rfl (fun za zC zh zk => ld_3 rfl (zh.ev rfl) ((hB126.cell 0).trans rfl) zk) ?_
              refine WL.val (.bool ((((xget l x.1).kind : Int) == (2 : Int)))) rfl rfl rfl (fun za zC zh zk => eql_3 rfl (zh.ev rfl) (zh.ev rfl) zk) ?_
              have hl129 : g29 < w124.heap.size := hB126.lt
              have hl130 : g48 < w124.heap.size := hB127.lt
              have hl131 : g49 < w124.heap.size := hB128.lt
              have hw132 : w.heap.size ≤ w124.heap.size := hb125.size
              refine WL.call rfl rfl rfl (fun za zh zC => wp_call (by kernel_rfl) rfl (hv4 (zh.ev rfl) (zh.ev rfl) (zh.ev rfl) (zh.ev rfl))) (blit_z (⟨(xget l x.1).a, (xget l x.1).p, (xget l x.1).q⟩ : Li) (⟨(xget l x.1).b, (xget l x.1).t, (xget l x.1).u⟩ : Li) ((((xget l x.1).kind : Int) == (2 : Int))) hq122 (fun b q => by (try dsimp only at *); omega) (⟨_, _, _, _, rfl, (InT.below hb125 hPi), (InT.below hb125 hQi)⟩ : LiIn (fun b => b < w.heap.size) _ (⟨(xget l x.1).a, (xget l x.1).p, (xget l x.1).q⟩ : Li) _) (⟨_, _, _, _, rfl, (InT.below hb125 hTi), (InT.below hb125 hUi)⟩ : LiIn (fun b => b < w.heap.size) _ (⟨(xget l x.1).b, (xget l x.1).t, (xget l x.1).u⟩ : Li) _) (fun b q q2 => by (try dsimp only at *); omega) (by (try dsimp only); omega) (by (try dsimp only); omega) (by (try dsimp only); omega) (by (try dsimp only); omega) (by (try dsimp only); omega)) ?_
              rintro _ w135 ⟨⟨rfl, hq133⟩, hc134⟩
              have hb136 := chg_below hb125 hc134 (fun b hb => (fun h => by (try dsimp only at *); omega))
              have hB137 := chg_blk hB126 hc134 (fun h => by (try dsimp only at *); omega)
              have hB138 := chg_blk hB127 hc134 (fun h => by (try dsimp only at *); omega)
              have hB139 := chg_blk hB128 hc134 (fun h => by (try dsimp only at *); omega)
              refine WL.val (.bool ((lOk (⟨(xget l x.1).a, (xget l x.1).p, (xget l x.1).q⟩ : Li) (⟨(xget l x.1).b, (xget l x.1).t, (xget l x.1).u⟩ : Li) ((((xget l x.1).kind : Int) == (2 : Int))) x.2))) rfl rfl rfl (fun za zC zh zk => wp_assign rfl (zh.ev rfl) zk) ?_
              refine WL.nil (WE.sub (K' := [(0, .slice pa l.length ca), (3, .pointer (some ⟨gm, 0, none⟩)), (4, .pointer (some ⟨g3, 0, none⟩)), (5, .int .i64 (((x.1 : Nat) : Int))), (6, .pointer (some ⟨g29, 0, none⟩)), (7, .pointer (some ⟨g48, 0, none⟩)), (8, .pointer (some ⟨g49, 0, none⟩)), (9, .bool ((lOk (⟨(xget l x.1).a, (xget l x.1).p, (xget l x.1).q⟩ : Li) (⟨(xget l x.1).b, (xget l x.1).t, (xget l x.1).u⟩ : Li) ((((xget l x.1).kind : Int) == (2 : Int))) x.2))), (10, .bool ((lOk (⟨(xget l x.1).a, (xget l x.1).p, (xget l x.1).q⟩ : Li) (⟨(xget l x.1).b, (xget l x.1).t, (xget l x.1).u⟩ : Li) ((((xget l x.1).kind : Int) == (2 : Int))) x.2))), (14, .slice pa l.length ca), (15, .int .i64 (((l.length : Nat) : Int))), (16, .int .i64 (((x.1 : Nat) : Int))), (17, .bool ((decide ((((x.1 : Nat) : Int) : Int) < (((l.length : Nat) : Int) : Int))))), (22, .bool ((decide ((60 : Int) ≤ (((x.1 : Nat) : Int) : Int))))), (38, .int .i64 ((xget l x.1).kind)), (39, .bool ((((xget l x.1).kind : Int) == (0 : Int)))), (53, .bool ((((xget l x.1).kind : Int) == (1 : Int))))]) ⟨rfl, rfl, rfl, rfl, rfl, rfl, rfl, rfl, rfl, rfl, rfl, rfl, rfl, rfl, rfl, rfl, rfl, trivial⟩ ?_)
              refine WE.blockNormal ?_
              refine WE.next ?_
              refine WC.seq ?_
              refine WC.region ?_
              refine WL.val (.bool ((lOk (⟨(xget l x.1).a, (xget l x.1).p, (xget l x.1).q⟩ : Li) (⟨(xget l x.1).b, (xget l x.1).t, (xget l x.1).u⟩ : Li) ((((xget l x.1).kind : Int) == (2 : Int))) x.2))) rfl rfl rfl (fun za zC zh zk => wp_move rfl (zh.ev rfl) zk) ?_
              refine WL.val (.bool ((lOk (⟨(xget l x.1).a, (xget l x.1).p, (xget l x.1).q⟩ : Li) (⟨(xget l x.1).b, (xget l x.1).t, (xget l x.1).u⟩ : Li) ((((xget l x.1).kind : Int) == (2 : Int))) x.2))) rfl rfl rfl (fun za zC zh zk => wp_move rfl (zh.ev rfl) zk) ?_
              refine WL.val (.bool (((lOk (⟨(xget l x.1).a, (xget l x.1).p, (xget l x.1).q⟩ : Li) (⟨(xget l x.1).b, (xget l x.1).t, (xget l x.1).u⟩ : Li) ((((xget l x.1).kind : Int) == (2 : Int))) x.2) != (lOk (⟨(xget l x.1).a, (xget l x.1).p, (xget l x.1).q⟩ : Li) (⟨(xget l x.1).b, (xget l x.1).t, (xget l x.1).u⟩ : Li) ((((xget l x.1).kind : Int) == (2 : Int))) x.2)))) rfl rfl rfl (fun za zC zh zk => neq_4 rfl (zh.ev rfl) (zh.ev rfl) zk) ?_
              refine WL.val (.bool (((lOk (⟨(xget l x.1).a, (xget l x.1).p, (xget l x.1).q⟩ : Li) (⟨(xget l x.1).b, (xget l x.1).t, (xget l x.1).u⟩ : Li) ((((xget l x.1).kind : Int) == (2 : Int))) x.2) != (lOk (⟨(xget l x.1).a, (xget l x.1).p, (xget l x.1).q⟩ : Li) (⟨(xget l x.1).b, (xget l x.1).t, (xget l x.1).u⟩ : Li) ((((xget l x.1).kind : Int) == (2 : Int))) x.2)))) rfl rfl rfl (fun za zC zh zk => wp_move rfl (zh.ev rfl) zk) ?_
              refine bool_split (((lOk (⟨(xget l x.1).a, (xget l x.1).p, (xget l x.1).q⟩ : Li) (⟨(xget l x.1).b, (xget l x.1).t, (xget l x.1).u⟩ : Li) ((((xget l x.1).kind : Int) == (2 : Int))) x.2) != (lOk (⟨(xget l x.1).a, (xget l x.1).p, (xget l x.1).q⟩ : Li) (⟨(xget l x.1).b, (xget l x.1).t, (xget l x.1).u⟩ : Li) ((((xget l x.1).kind : Int) == (2 : Int))) x.2))) (fun h140 => ?_) (fun h140 => ?_)
              · refine WL.sub (K' := [(0, .slice pa l.length ca), (3, .pointer (some ⟨gm, 0, none⟩)), (4, .pointer (some ⟨g3, 0, none⟩)), (5, .int .i64 (((x.1 : Nat) : Int))), (6, .pointer (some ⟨g29, 0, none⟩)), (7, .pointer (some ⟨g48, 0, none⟩)), (8, .pointer (some ⟨g49, 0, none⟩)), (9, .bool ((lOk (⟨(xget l x.1).a, (xget l x.1).p, (xget l x.1).q⟩ : Li) (⟨(xget l x.1).b, (xget l x.1).t, (xget l x.1).u⟩ : Li) ((((xget l x.1).kind : Int) == (2 : Int))) x.2))), (10, .bool ((lOk (⟨(xget l x.1).a, (xget l x.1).p, (xget l x.1).q⟩ : Li) (⟨(xget l x.1).b, (xget l x.1).t, (xget l x.1).u⟩ : Li) ((((xget l x.1).kind : Int) == (2 : Int))) x.2))), (14, .slice pa l.length ca), (15, .int .i64 (((l.length : Nat) : Int))), (16, .int .i64 (((x.1 : Nat) : Int))), (17, .bool ((decide ((((x.1 : Nat) : Int) : Int) < (((l.length : Nat) : Int) : Int))))), (22, .bool ((decide ((60 : Int) ≤ (((x.1 : Nat) : Int) : Int))))), (38, .int .i64 ((xget l x.1).kind)), (39, .bool ((((xget l x.1).kind : Int) == (0 : Int)))), (53, .bool ((((xget l x.1).kind : Int) == (1 : Int)))), (80, .bool ((lOk (⟨(xget l x.1).a, (xget l x.1).p, (xget l x.1).q⟩ : Li) (⟨(xget l x.1).b, (xget l x.1).t, (xget l x.1).u⟩ : Li) ((((xget l x.1).kind : Int) == (2 : Int))) x.2))), (81, .bool ((lOk (⟨(xget l x.1).a, (xget l x.1).p, (xget l x.1).q⟩ : Li) (⟨(xget l x.1).b, (xget l x.1).t, (xget l x.1).u⟩ : Li) ((((xget l x.1).kind : Int) == (2 : Int))) x.2))), (82, .bool (((lOk (⟨(xget l x.1).a, (xget l x.1).p, (xget l x.1).q⟩ : Li) (⟨(xget l x.1).b, (xget l x.1).t, (xget l x.1).u⟩ : Li) ((((xget l x.1).kind : Int) == (2 : Int))) x.2) != (lOk (⟨(xget l x.1).a, (xget l x.1).p, (xget l x.1).q⟩ : Li) (⟨(xget l x.1).b, (xget l x.1).t, (xget l x.1).u⟩ : Li) ((((xget l x.1).kind : Int) == (2 : Int))) x.2)))), (83, .bool true)]) ⟨rfl, rfl, rfl, rfl, rfl, rfl, rfl, rfl, rfl, rfl, rfl, rfl, rfl, rfl, rfl, rfl, rfl, rfl, rfl, rfl, (by exact congrArg (fun z => some (Value.bool z)) h140), trivial⟩ ?_
                have h140 : (lOk (⟨(xget l x.1).a, (xget l x.1).p, (xget l x.1).q⟩ : Li) (⟨(xget l x.1).b, (xget l x.1).t, (xget l x.1).u⟩ : Li) ((((xget l x.1).kind : Int) == (2 : Int))) x.2) ≠ (lOk (⟨(xget l x.1).a, (xget l x.1).p, (xget l x.1).q⟩ : Li) (⟨(xget l x.1).b, (xget l x.1).t, (xget l x.1).u⟩ : Li) ((((xget l x.1).kind : Int) == (2 : Int))) x.2) := by simpa using h140
                refine WL.skip (d := 83) rfl rfl rfl rfl rfl ?_
                refine WL.skip (d := 83) rfl rfl rfl rfl rfl ?_
                refine WL.skip (d := 83) rfl rfl rfl rfl rfl ?_
                refine WL.skip (d := 83) rfl rfl rfl rfl rfl ?_
                refine WL.skip (d := 83) rfl rfl rfl rfl rfl ?_
                refine WL.val (.bool true) rfl rfl rfl (fun za zC zh zk => wp_pickT rfl (zh.ev rfl) (zh.ev rfl) zk) ?_
                refine WL.val (.bool true) rfl rfl rfl (fun za zC zh zk => wp_move rfl (zh.ev rfl) zk) ?_
                refine WL.skip (d := 90) rfl rfl rfl rfl rfl ?_
                refine WL.skip (d := 90) rfl rfl rfl rfl rfl ?_
                refine WL.skip (d := 90) rfl rfl rfl rfl rfl ?_
                refine WL.skip (d := 90) rfl rfl rfl rfl rfl ?_
                refine WL.skip (d := 90) rfl rfl rfl rfl rfl ?_
                refine WL.skip (d := 90) rfl rfl rfl rfl rfl ?_
                refine WL.val (.bool true) rfl rfl rfl (fun za zC zh zk => wp_pickT rfl (zh.ev rfl) (zh.ev rfl) zk) ?_
                refine WL.nil (WE.sub (K' := [(0, .slice pa l.length ca), (3, .pointer (some ⟨gm, 0, none⟩)), (4, .pointer (some ⟨g3, 0, none⟩)), (5, .int .i64 (((x.1 : Nat) : Int))), (6, .pointer (some ⟨g29, 0, none⟩)), (7, .pointer (some ⟨g48, 0, none⟩)), (8, .pointer (some ⟨g49, 0, none⟩)), (9, .bool ((lOk (⟨(xget l x.1).a, (xget l x.1).p, (xget l x.1).q⟩ : Li) (⟨(xget l x.1).b, (xget l x.1).t, (xget l x.1).u⟩ : Li) ((((xget l x.1).kind : Int) == (2 : Int))) x.2))), (10, .bool ((lOk (⟨(xget l x.1).a, (xget l x.1).p, (xget l x.1).q⟩ : Li) (⟨(xget l x.1).b, (xget l x.1).t, (xget l x.1).u⟩ : Li) ((((xget l x.1).kind : Int) == (2 : Int))) x.2))), (14, .slice pa l.length ca), (15, .int .i64 (((l.length : Nat) : Int))), (16, .int .i64 (((x.1 : Nat) : Int))), (17, .bool ((decide ((((x.1 : Nat) : Int) : Int) < (((l.length : Nat) : Int) : Int))))), (22, .bool ((decide ((60 : Int) ≤ (((x.1 : Nat) : Int) : Int))))), (38, .int .i64 ((xget l x.1).kind)), (39, .bool ((((xget l x.1).kind : Int) == (0 : Int)))), (53, .bool ((((xget l x.1).kind : Int) == (1 : Int)))), (97, .bool true)]) ⟨rfl, rfl, rfl, rfl, rfl, rfl, rfl, rfl, rfl, rfl, rfl, rfl, rfl, rfl, rfl, rfl, rfl, rfl, trivial⟩ ?_)
                refine WE.next ?_
                refine WC.condT rfl rfl ?_
                refine WC.seq ?_
                refine WC.region ?_
                refine WL.val (.bool false) rfl rfl rfl (fun za zC zh zk => wp_assign rfl (zh.ev rfl) zk) ?_
                refine WL.nil (WE.sub (K' := [(0, .slice pa l.length ca), (2, .bool false), (3, .pointer (some ⟨gm, 0, none⟩)), (4, .pointer (some ⟨g3, 0, none⟩)), (5, .int .i64 (((x.1 : Nat) : Int))), (6, .pointer (some ⟨g29, 0, none⟩)), (7, .pointer (some ⟨g48, 0, none⟩)), (8, .pointer (some ⟨g49, 0, none⟩)), (9, .bool ((lOk (⟨(xget l x.1).a, (xget l x.1).p, (xget l x.1).q⟩ : Li) (⟨(xget l x.1).b, (xget l x.1).t, (xget l x.1).u⟩ : Li) ((((xget l x.1).kind : Int) == (2 : Int))) x.2))), (10, .bool ((lOk (⟨(xget l x.1).a, (xget l x.1).p, (xget l x.1).q⟩ : Li) (⟨(xget l x.1).b, (xget l x.1).t, (xget l x.1).u⟩ : Li) ((((xget l x.1).kind : Int) == (2 : Int))) x.2))), (14, .slice pa l.length ca), (15, .int .i64 (((l.length : Nat) : Int))), (16, .int .i64 (((x.1 : Nat) : Int))), (17, .bool ((decide ((((x.1 : Nat) : Int) : Int) < (((l.length : Nat) : Int) : Int))))), (22, .bool ((decide ((60 : Int) ≤ (((x.1 : Nat) : Int) : Int))))), (38, .int .i64 ((xget l x.1).kind)), (39, .bool ((((xget l x.1).kind : Int) == (0 : Int)))), (53, .bool ((((xget l x.1).kind : Int) == (1 : Int)))), (97, .bool true)]) ⟨rfl, rfl, rfl, rfl, rfl, rfl, rfl, rfl, rfl, rfl, rfl, rfl, rfl, rfl, rfl, rfl, rfl, rfl, rfl, trivial⟩ ?_)
                refine WE.next ?_
                refine WC.ret ?_
                refine WE.blockRet ?_
                refine WE.thenRet ?_
                refine WE.thenRet ?_
                refine WE.blockRet ?_
                refine WE.thenRet ?_
                refine WE.ret1 rfl rfl ?_
                exfalso
                first | (simp at h140; done)
              · refine WL.sub (K' := [(0, .slice pa l.length ca), (3, .pointer (some ⟨gm, 0, none⟩)), (4, .pointer (some ⟨g3, 0, none⟩)), (5, .int .i64 (((x.1 : Nat) : Int))), (6, .pointer (some ⟨g29, 0, none⟩)), (7, .pointer (some ⟨g48, 0, none⟩)), (8, .pointer (some ⟨g49, 0, none⟩)), (9, .bool ((lOk (⟨(xget l x.1).a, (xget l x.1).p, (xget l x.1).q⟩ : Li) (⟨(xget l x.1).b, (xget l x.1).t, (xget l x.1).u⟩ : Li) ((((xget l x.1).kind : Int) == (2 : Int))) x.2))), (10, .bool ((lOk (⟨(xget l x.1).a, (xget l x.1).p, (xget l x.1).q⟩ : Li) (⟨(xget l x.1).b, (xget l x.1).t, (xget l x.1).u⟩ : Li) ((((xget l x.1).kind : Int) == (2 : Int))) x.2))), (14, .slice pa l.length ca), (15, .int .i64 (((l.length : Nat) : Int))), (16, .int .i64 (((x.1 : Nat) : Int))), (17, .bool ((decide ((((x.1 : Nat) : Int) : Int) < (((l.length : Nat) : Int) : Int))))), (22, .bool ((decide ((60 : Int) ≤ (((x.1 : Nat) : Int) : Int))))), (38, .int .i64 ((xget l x.1).kind)), (39, .bool ((((xget l x.1).kind : Int) == (0 : Int)))), (53, .bool ((((xget l x.1).kind : Int) == (1 : Int)))), (80, .bool ((lOk (⟨(xget l x.1).a, (xget l x.1).p, (xget l x.1).q⟩ : Li) (⟨(xget l x.1).b, (xget l x.1).t, (xget l x.1).u⟩ : Li) ((((xget l x.1).kind : Int) == (2 : Int))) x.2))), (81, .bool ((lOk (⟨(xget l x.1).a, (xget l x.1).p, (xget l x.1).q⟩ : Li) (⟨(xget l x.1).b, (xget l x.1).t, (xget l x.1).u⟩ : Li) ((((xget l x.1).kind : Int) == (2 : Int))) x.2))), (82, .bool (((lOk (⟨(xget l x.1).a, (xget l x.1).p, (xget l x.1).q⟩ : Li) (⟨(xget l x.1).b, (xget l x.1).t, (xget l x.1).u⟩ : Li) ((((xget l x.1).kind : Int) == (2 : Int))) x.2) != (lOk (⟨(xget l x.1).a, (xget l x.1).p, (xget l x.1).q⟩ : Li) (⟨(xget l x.1).b, (xget l x.1).t, (xget l x.1).u⟩ : Li) ((((xget l x.1).kind : Int) == (2 : Int))) x.2)))), (83, .bool false)]) ⟨rfl, rfl, rfl, rfl, rfl, rfl, rfl, rfl, rfl, rfl, rfl, rfl, rfl, rfl, rfl, rfl, rfl, rfl, rfl, rfl, (by exact congrArg (fun z => some (Value.bool z)) h140), trivial⟩ ?_
                have h140 : ¬ ((lOk (⟨(xget l x.1).a, (xget l x.1).p, (xget l x.1).q⟩ : Li) (⟨(xget l x.1).b, (xget l x.1).t, (xget l x.1).u⟩ : Li) ((((xget l x.1).kind : Int) == (2 : Int))) x.2) ≠ (lOk (⟨(xget l x.1).a, (xget l x.1).p, (xget l x.1).q⟩ : Li) (⟨(xget l x.1).b, (xget l x.1).t, (xget l x.1).u⟩ : Li) ((((xget l x.1).kind : Int) == (2 : Int))) x.2)) := by simpa using h140
                refine WL.want (d := 83) rfl rfl rfl ?_
                refine WL.val (.pointer (some ⟨gm, 0, none⟩)) rfl rfl rfl (fun za zC zh zk => wp_move rfl (zh.ev rfl) zk) ?_
                refine WL.want (d := 83) rfl rfl rfl ?_
                refine WL.call rfl rfl rfl (fun za zh zC => wp_call (by kernel_rfl) rfl (hv1 (zh.ev rfl))) (bmark_m hq133) ?_
                rintro _ w142 ⟨rfl, hq141⟩
                refine WL.want (d := 83) rfl rfl rfl ?_
                refine WL.val (.pointer (some ⟨g3, 0, none⟩)) rfl rfl rfl (fun za zC zh zk => wp_move rfl (zh.ev rfl) zk) ?_
                refine WL.want (d := 83) rfl rfl rfl ?_
                have ho143 := hq133.below hq141
                refine WL.call rfl rfl rfl (fun za zh zC => wp_call (by kernel_rfl) rfl (hv1 (zh.ev rfl))) (bmark_z ho143) ?_
                rintro _ w145 ⟨rfl, hq144⟩
                refine WL.want (d := 83) rfl rfl rfl ?_
                refine WL.val (.bool ((((((lTo (⟨(xget l x.1).a, (xget l x.1).p, (xget l x.1).q⟩ : Li) (⟨(xget l x.1).b, (xget l x.1).t, (xget l x.1).u⟩ : Li) ((((xget l x.1).kind : Int) == (2 : Int))) x.2).length : Nat) : Int) : Int) != ((((lTo (⟨(xget l x.1).a, (xget l x.1).p, (xget l x.1).q⟩ : Li) (⟨(xget l x.1).b, (xget l x.1).t, (xget l x.1).u⟩ : Li) ((((xget l x.1).kind : Int) == (2 : Int))) x.2).length : Nat) : Int) : Int)))) rfl rfl rfl (fun za zC zh zk => neq_3 rfl (zh.ev rfl) (zh.ev rfl) zk) ?_
                refine WL.val (.bool ((((((lTo (⟨(xget l x.1).a, (xget l x.1).p, (xget l x.1).q⟩ : Li) (⟨(xget l x.1).b, (xget l x.1).t, (xget l x.1).u⟩ : Li) ((((xget l x.1).kind : Int) == (2 : Int))) x.2).length : Nat) : Int) : Int) != ((((lTo (⟨(xget l x.1).a, (xget l x.1).p, (xget l x.1).q⟩ : Li) (⟨(xget l x.1).b, (xget l x.1).t, (xget l x.1).u⟩ : Li) ((((xget l x.1).kind : Int) == (2 : Int))) x.2).length : Nat) : Int) : Int)))) rfl rfl rfl (fun za zC zh zk => wp_pickF rfl (zh.ev rfl) (zh.ev rfl) zk) ?_
                refine WL.val (.bool ((((((lTo (⟨(xget l x.1).a, (xget l x.1).p, (xget l x.1).q⟩ : Li) (⟨(xget l x.1).b, (xget l x.1).t, (xget l x.1).u⟩ : Li) ((((xget l x.1).kind : Int) == (2 : Int))) x.2).length : Nat) : Int) : Int) != ((((lTo (⟨(xget l x.1).a, (xget l x.1).p, (xget l x.1).q⟩ : Li) (⟨(xget l x.1).b, (xget l x.1).t, (xget l x.1).u⟩ : Li) ((((xget l x.1).kind : Int) == (2 : Int))) x.2).length : Nat) : Int) : Int)))) rfl rfl rfl (fun za zC zh zk => wp_move rfl (zh.ev rfl) zk) ?_
                refine bool_split ((((((lTo (⟨(xget l x.1).a, (xget l x.1).p, (xget l x.1).q⟩ : Li) (⟨(xget l x.1).b, (xget l x.1).t, (xget l x.1).u⟩ : Li) ((((xget l x.1).kind : Int) == (2 : Int))) x.2).length : Nat) : Int) : Int) != ((((lTo (⟨(xget l x.1).a, (xget l x.1).p, (xget l x.1).q⟩ : Li) (⟨(xget l x.1).b, (xget l x.1).t, (xget l x.1).u⟩ : Li) ((((xget l x.1).kind : Int) == (2 : Int))) x.2).length : Nat) : Int) : Int))) (fun h146 => ?_) (fun h146 => ?_)
                · refine WL.sub (K' := [(0, .slice pa l.length ca), (3, .pointer (some ⟨gm, 0, none⟩)), (4, .pointer (some ⟨g3, 0, none⟩)), (5, .int .i64 (((x.1 : Nat) : Int))), (6, .pointer (some ⟨g29, 0, none⟩)), (7, .pointer (some ⟨g48, 0, none⟩)), (8, .pointer (some ⟨g49, 0, none⟩)), (9, .bool ((lOk (⟨(xget l x.1).a, (xget l x.1).p, (xget l x.1).q⟩ : Li) (⟨(xget l x.1).b, (xget l x.1).t, (xget l x.1).u⟩ : Li) ((((xget l x.1).kind : Int) == (2 : Int))) x.2))), (10, .bool ((lOk (⟨(xget l x.1).a, (xget l x.1).p, (xget l x.1).q⟩ : Li) (⟨(xget l x.1).b, (xget l x.1).t, (xget l x.1).u⟩ : Li) ((((xget l x.1).kind : Int) == (2 : Int))) x.2))), (14, .slice pa l.length ca), (15, .int .i64 (((l.length : Nat) : Int))), (16, .int .i64 (((x.1 : Nat) : Int))), (17, .bool ((decide ((((x.1 : Nat) : Int) : Int) < (((l.length : Nat) : Int) : Int))))), (22, .bool ((decide ((60 : Int) ≤ (((x.1 : Nat) : Int) : Int))))), (38, .int .i64 ((xget l x.1).kind)), (39, .bool ((((xget l x.1).kind : Int) == (0 : Int)))), (53, .bool ((((xget l x.1).kind : Int) == (1 : Int)))), (80, .bool ((lOk (⟨(xget l x.1).a, (xget l x.1).p, (xget l x.1).q⟩ : Li) (⟨(xget l x.1).b, (xget l x.1).t, (xget l x.1).u⟩ : Li) ((((xget l x.1).kind : Int) == (2 : Int))) x.2))), (81, .bool ((lOk (⟨(xget l x.1).a, (xget l x.1).p, (xget l x.1).q⟩ : Li) (⟨(xget l x.1).b, (xget l x.1).t, (xget l x.1).u⟩ : Li) ((((xget l x.1).kind : Int) == (2 : Int))) x.2))), (82, .bool (((lOk (⟨(xget l x.1).a, (xget l x.1).p, (xget l x.1).q⟩ : Li) (⟨(xget l x.1).b, (xget l x.1).t, (xget l x.1).u⟩ : Li) ((((xget l x.1).kind : Int) == (2 : Int))) x.2) != (lOk (⟨(xget l x.1).a, (xget l x.1).p, (xget l x.1).q⟩ : Li) (⟨(xget l x.1).b, (xget l x.1).t, (xget l x.1).u⟩ : Li) ((((xget l x.1).kind : Int) == (2 : Int))) x.2)))), (83, .bool false), (84, .pointer (some ⟨gm, 0, none⟩)), (85, .int .i64 ((((lTo (⟨(xget l x.1).a, (xget l x.1).p, (xget l x.1).q⟩ : Li) (⟨(xget l x.1).b, (xget l x.1).t, (xget l x.1).u⟩ : Li) ((((xget l x.1).kind : Int) == (2 : Int))) x.2).length : Nat) : Int))), (86, .pointer (some ⟨g3, 0, none⟩)), (87, .int .i64 ((((lTo (⟨(xget l x.1).a, (xget l x.1).p, (xget l x.1).q⟩ : Li) (⟨(xget l x.1).b, (xget l x.1).t, (xget l x.1).u⟩ : Li) ((((xget l x.1).kind : Int) == (2 : Int))) x.2).length : Nat) : Int))), (88, .bool ((((((lTo (⟨(xget l x.1).a, (xget l x.1).p, (xget l x.1).q⟩ : Li) (⟨(xget l x.1).b, (xget l x.1).t, (xget l x.1).u⟩ : Li) ((((xget l x.1).kind : Int) == (2 : Int))) x.2).length : Nat) : Int) : Int) != ((((lTo (⟨(xget l x.1).a, (xget l x.1).p, (xget l x.1).q⟩ : Li) (⟨(xget l x.1).b, (xget l x.1).t, (xget l x.1).u⟩ : Li) ((((xget l x.1).kind : Int) == (2 : Int))) x.2).length : Nat) : Int) : Int)))), (89, .bool ((((((lTo (⟨(xget l x.1).a, (xget l x.1).p, (xget l x.1).q⟩ : Li) (⟨(xget l x.1).b, (xget l x.1).t, (xget l x.1).u⟩ : Li) ((((xget l x.1).kind : Int) == (2 : Int))) x.2).length : Nat) : Int) : Int) != ((((lTo (⟨(xget l x.1).a, (xget l x.1).p, (xget l x.1).q⟩ : Li) (⟨(xget l x.1).b, (xget l x.1).t, (xget l x.1).u⟩ : Li) ((((xget l x.1).kind : Int) == (2 : Int))) x.2).length : Nat) : Int) : Int)))), (90, .bool true)]) ⟨rfl, rfl, rfl, rfl, rfl, rfl, rfl, rfl, rfl, rfl, rfl, rfl, rfl, rfl, rfl, rfl, rfl, rfl, rfl, rfl, rfl, rfl, rfl, rfl, rfl, rfl, rfl, (by exact congrArg (fun z => some (Value.bool z)) h146), trivial⟩ ?_
                  have h146 : ((((lTo (⟨(xget l x.1).a, (xget l x.1).p, (xget l x.1).q⟩ : Li) (⟨(xget l x.1).b, (xget l x.1).t, (xget l x.1).u⟩ : Li) ((((xget l x.1).kind : Int) == (2 : Int))) x.2).length : Nat) : Int) : Int) ≠ ((((lTo (⟨(xget l x.1).a, (xget l x.1).p, (xget l x.1).q⟩ : Li) (⟨(xget l x.1).b, (xget l x.1).t, (xget l x.1).u⟩ : Li) ((((xget l x.1).kind : Int) == (2 : Int))) x.2).length : Nat) : Int) : Int) := by simpa using h146
                  refine WL.skip (d := 90) rfl rfl rfl rfl rfl ?_
                  refine WL.skip (d := 90) rfl rfl rfl rfl rfl ?_
                  refine WL.skip (d := 90) rfl rfl rfl rfl rfl ?_
                  refine WL.skip (d := 90) rfl rfl rfl rfl rfl ?_
                  refine WL.skip (d := 90) rfl rfl rfl rfl rfl ?_
                  refine WL.skip (d := 90) rfl rfl rfl rfl rfl ?_
                  refine WL.val (.bool true) rfl rfl rfl (fun za zC zh zk => wp_pickT rfl (zh.ev rfl) (zh.ev rfl) zk) ?_
                  refine WL.nil (WE.sub (K' := [(0, .slice pa l.length ca), (3, .pointer (some ⟨gm, 0, none⟩)), (4, .pointer (some ⟨g3, 0, none⟩)), (5, .int .i64 (((x.1 : Nat) : Int))), (6, .pointer (some ⟨g29, 0, none⟩)), (7, .pointer (some ⟨g48, 0, none⟩)), (8, .pointer (some ⟨g49, 0, none⟩)), (9, .bool ((lOk (⟨(xget l x.1).a, (xget l x.1).p, (xget l x.1).q⟩ : Li) (⟨(xget l x.1).b, (xget l x.1).t, (xget l x.1).u⟩ : Li) ((((xget l x.1).kind : Int) == (2 : Int))) x.2))), (10, .bool ((lOk (⟨(xget l x.1).a, (xget l x.1).p, (xget l x.1).q⟩ : Li) (⟨(xget l x.1).b, (xget l x.1).t, (xget l x.1).u⟩ : Li) ((((xget l x.1).kind : Int) == (2 : Int))) x.2))), (14, .slice pa l.length ca), (15, .int .i64 (((l.length : Nat) : Int))), (16, .int .i64 (((x.1 : Nat) : Int))), (17, .bool ((decide ((((x.1 : Nat) : Int) : Int) < (((l.length : Nat) : Int) : Int))))), (22, .bool ((decide ((60 : Int) ≤ (((x.1 : Nat) : Int) : Int))))), (38, .int .i64 ((xget l x.1).kind)), (39, .bool ((((xget l x.1).kind : Int) == (0 : Int)))), (53, .bool ((((xget l x.1).kind : Int) == (1 : Int)))), (97, .bool true)]) ⟨rfl, rfl, rfl, rfl, rfl, rfl, rfl, rfl, rfl, rfl, rfl, rfl, rfl, rfl, rfl, rfl, rfl, rfl, trivial⟩ ?_)
                  refine WE.next ?_
                  refine WC.condT rfl rfl ?_
                  refine WC.seq ?_
                  refine WC.region ?_
                  refine WL.val (.bool false) rfl rfl rfl (fun za zC zh zk => wp_assign rfl (zh.ev rfl) zk) ?_
                  refine WL.nil (WE.sub (K' := [(0, .slice pa l.length ca), (2, .bool false), (3, .pointer (some ⟨gm, 0, none⟩)), (4, .pointer (some ⟨g3, 0, none⟩)), (5, .int .i64 (((x.1 : Nat) : Int))), (6, .pointer (some ⟨g29, 0, none⟩)), (7, .pointer (some ⟨g48, 0, none⟩)), (8, .pointer (some ⟨g49, 0, none⟩)), (9, .bool ((lOk (⟨(xget l x.1).a, (xget l x.1).p, (xget l x.1).q⟩ : Li) (⟨(xget l x.1).b, (xget l x.1).t, (xget l x.1).u⟩ : Li) ((((xget l x.1).kind : Int) == (2 : Int))) x.2))), (10, .bool ((lOk (⟨(xget l x.1).a, (xget l x.1).p, (xget l x.1).q⟩ : Li) (⟨(xget l x.1).b, (xget l x.1).t, (xget l x.1).u⟩ : Li) ((((xget l x.1).kind : Int) == (2 : Int))) x.2))), (14, .slice pa l.length ca), (15, .int .i64 (((l.length : Nat) : Int))), (16, .int .i64 (((x.1 : Nat) : Int))), (17, .bool ((decide ((((x.1 : Nat) : Int) : Int) < (((l.length : Nat) : Int) : Int))))), (22, .bool ((decide ((60 : Int) ≤ (((x.1 : Nat) : Int) : Int))))), (38, .int .i64 ((xget l x.1).kind)), (39, .bool ((((xget l x.1).kind : Int) == (0 : Int)))), (53, .bool ((((xget l x.1).kind : Int) == (1 : Int)))), (97, .bool true)]) ⟨rfl, rfl, rfl, rfl, rfl, rfl, rfl, rfl, rfl, rfl, rfl, rfl, rfl, rfl, rfl, rfl, rfl, rfl, rfl, trivial⟩ ?_)
                  refine WE.next ?_
                  refine WC.ret ?_
                  refine WE.blockRet ?_
                  refine WE.thenRet ?_
                  refine WE.thenRet ?_
                  refine WE.blockRet ?_
                  refine WE.thenRet ?_
                  refine WE.ret1 rfl rfl ?_
                  exfalso
                  first | (simp at h146; done)
                · refine WL.sub (K' := [(0, .slice pa l.length ca), (3, .pointer (some ⟨gm, 0, none⟩)), (4, .pointer (some ⟨g3, 0, none⟩)), (5, .int .i64 (((x.1 : Nat) : Int))), (6, .pointer (some ⟨g29, 0, none⟩)), (7, .pointer (some ⟨g48, 0, none⟩)), (8, .pointer (some ⟨g49, 0, none⟩)), (9, .bool ((lOk (⟨(xget l x.1).a, (xget l x.1).p, (xget l x.1).q⟩ : Li) (⟨(xget l x.1).b, (xget l x.1).t, (xget l x.1).u⟩ : Li) ((((xget l x.1).kind : Int) == (2 : Int))) x.2))), (10, .bool ((lOk (⟨(xget l x.1).a, (xget l x.1).p, (xget l x.1).q⟩ : Li) (⟨(xget l x.1).b, (xget l x.1).t, (xget l x.1).u⟩ : Li) ((((xget l x.1).kind : Int) == (2 : Int))) x.2))), (14, .slice pa l.length ca), (15, .int .i64 (((l.length : Nat) : Int))), (16, .int .i64 (((x.1 : Nat) : Int))), (17, .bool ((decide ((((x.1 : Nat) : Int) : Int) < (((l.length : Nat) : Int) : Int))))), (22, .bool ((decide ((60 : Int) ≤ (((x.1 : Nat) : Int) : Int))))), (38, .int .i64 ((xget l x.1).kind)), (39, .bool ((((xget l x.1).kind : Int) == (0 : Int)))), (53, .bool ((((xget l x.1).kind : Int) == (1 : Int)))), (80, .bool ((lOk (⟨(xget l x.1).a, (xget l x.1).p, (xget l x.1).q⟩ : Li) (⟨(xget l x.1).b, (xget l x.1).t, (xget l x.1).u⟩ : Li) ((((xget l x.1).kind : Int) == (2 : Int))) x.2))), (81, .bool ((lOk (⟨(xget l x.1).a, (xget l x.1).p, (xget l x.1).q⟩ : Li) (⟨(xget l x.1).b, (xget l x.1).t, (xget l x.1).u⟩ : Li) ((((xget l x.1).kind : Int) == (2 : Int))) x.2))), (82, .bool (((lOk (⟨(xget l x.1).a, (xget l x.1).p, (xget l x.1).q⟩ : Li) (⟨(xget l x.1).b, (xget l x.1).t, (xget l x.1).u⟩ : Li) ((((xget l x.1).kind : Int) == (2 : Int))) x.2) != (lOk (⟨(xget l x.1).a, (xget l x.1).p, (xget l x.1).q⟩ : Li) (⟨(xget l x.1).b, (xget l x.1).t, (xget l x.1).u⟩ : Li) ((((xget l x.1).kind : Int) == (2 : Int))) x.2)))), (83, .bool false), (84, .pointer (some ⟨gm, 0, none⟩)), (85, .int .i64 ((((lTo (⟨(xget l x.1).a, (xget l x.1).p, (xget l x.1).q⟩ : Li) (⟨(xget l x.1).b, (xget l x.1).t, (xget l x.1).u⟩ : Li) ((((xget l x.1).kind : Int) == (2 : Int))) x.2).length : Nat) : Int))), (86, .pointer (some ⟨g3, 0, none⟩)), (87, .int .i64 ((((lTo (⟨(xget l x.1).a, (xget l x.1).p, (xget l x.1).q⟩ : Li) (⟨(xget l x.1).b, (xget l x.1).t, (xget l x.1).u⟩ : Li) ((((xget l x.1).kind : Int) == (2 : Int))) x.2).length : Nat) : Int))), (88, .bool ((((((lTo (⟨(xget l x.1).a, (xget l x.1).p, (xget l x.1).q⟩ : Li) (⟨(xget l x.1).b, (xget l x.1).t, (xget l x.1).u⟩ : Li) ((((xget l x.1).kind : Int) == (2 : Int))) x.2).length : Nat) : Int) : Int) != ((((lTo (⟨(xget l x.1).a, (xget l x.1).p, (xget l x.1).q⟩ : Li) (⟨(xget l x.1).b, (xget l x.1).t, (xget l x.1).u⟩ : Li) ((((xget l x.1).kind : Int) == (2 : Int))) x.2).length : Nat) : Int) : Int)))), (89, .bool ((((((lTo (⟨(xget l x.1).a, (xget l x.1).p, (xget l x.1).q⟩ : Li) (⟨(xget l x.1).b, (xget l x.1).t, (xget l x.1).u⟩ : Li) ((((xget l x.1).kind : Int) == (2 : Int))) x.2).length : Nat) : Int) : Int) != ((((lTo (⟨(xget l x.1).a, (xget l x.1).p, (xget l x.1).q⟩ : Li) (⟨(xget l x.1).b, (xget l x.1).t, (xget l x.1).u⟩ : Li) ((((xget l x.1).kind : Int) == (2 : Int))) x.2).length : Nat) : Int) : Int)))), (90, .bool false)]) ⟨rfl, rfl, rfl, rfl, rfl, rfl, rfl, rfl, rfl, rfl, rfl, rfl, rfl, rfl, rfl, rfl, rfl, rfl, rfl, rfl, rfl, rfl, rfl, rfl, rfl, rfl, rfl, (by exact congrArg (fun z => some (Value.bool z)) h146), trivial⟩ ?_
                  have h146 : ¬ (((((lTo (⟨(xget l x.1).a, (xget l x.1).p, (xget l x.1).q⟩ : Li) (⟨(xget l x.1).b, (xget l x.1).t, (xget l x.1).u⟩ : Li) ((((xget l x.1).kind : Int) == (2 : Int))) x.2).length : Nat) : Int) : Int) ≠ ((((lTo (⟨(xget l x.1).a, (xget l x.1).p, (xget l x.1).q⟩ : Li) (⟨(xget l x.1).b, (xget l x.1).t, (xget l x.1).u⟩ : Li) ((((xget l x.1).kind : Int) == (2 : Int))) x.2).length : Nat) : Int) : Int)) := by simpa using h146
                  refine WL.want (d := 90) rfl rfl rfl ?_
                  refine WL.val (.pointer (some ⟨gm, 0, none⟩)) rfl rfl rfl (fun za zC zh zk => wp_move rfl (zh.ev rfl) zk) ?_
                  refine WL.want (d := 90) rfl rfl rfl ?_
                  have ho147 := ho143.below hq144
                  have hz149 := (show (lTo (⟨(xget l x.1).a, (xget l x.1).p, (xget l x.1).q⟩ : Li) (⟨(xget l x.1).b, (xget l x.1).t, (xget l x.1).u⟩ : Li) ((((xget l x.1).kind : Int) == (2 : Int))) x.2).length ≤ x.2.length + (xget l x.1).p.size + (xget l x.1).q.size from lTo_len (⟨(xget l x.1).a, (xget l x.1).p, (xget l x.1).q⟩ : Li) (⟨(xget l x.1).b, (xget l x.1).t, (xget l x.1).u⟩ : Li) ((((xget l x.1).kind : Int) == (2 : Int))) x.2)
                  refine WL.call rfl rfl rfl (fun za zh zC => wp_call (by kernel_rfl) rfl (hv1 (zh.ev rfl))) (bsub_m ho147 (by omega)) ?_
                  rintro _ w150 ⟨⟨R1, p1, k1, rfl, hR1, hN1⟩, hb148⟩
                  refine WL.want (d := 90) rfl rfl rfl ?_
                  refine WL.val (.pointer (some ⟨g3, 0, none⟩)) rfl rfl rfl (fun za zC zh zk => wp_move rfl (zh.ev rfl) zk) ?_
                  refine WL.want (d := 90) rfl rfl rfl ?_
                  have ho151 := ho147.below hb148
                  have hz153 := (show (lTo (⟨(xget l x.1).a, (xget l x.1).p, (xget l x.1).q⟩ : Li) (⟨(xget l x.1).b, (xget l x.1).t, (xget l x.1).u⟩ : Li) ((((xget l x.1).kind : Int) == (2 : Int))) x.2).length ≤ x.2.length + (xget l x.1).p.size + (xget l x.1).q.size from lTo_len (⟨(xget l x.1).a, (xget l x.1).p, (xget l x.1).q⟩ : Li) (⟨(xget l x.1).b, (xget l x.1).t, (xget l x.1).u⟩ : Li) ((((xget l x.1).kind : Int) == (2 : Int))) x.2)
                  have hnd9 := ho151.nd
                  refine WL.call rfl rfl rfl (fun za zh zC => wp_call (by kernel_rfl) rfl (hv1 (zh.ev rfl))) (bsub_z ho151 hnd9 (by omega)) ?_
                  rintro _ w154 ⟨⟨R2, p2, k2, rfl, hR2, hN2⟩, hb152⟩
                  refine WL.want (d := 90) rfl rfl rfl ?_
                  refine WL.call rfl rfl rfl (fun za zh zC => wp_call (by kernel_rfl) rfl (hv2 (zh.ev rfl) (zh.ev rfl))) (rsubSame_yes R1 R2 _ p1 p2 k1 k2 (Nat.le_trans hN1.2.1 hN1.2.2) (hN1.isBs.below hb152) (hN2.isBs.below (Below.refl _ _)) (hR1.unique hR2)) ?_
                  rintro _ w156 ⟨rfl, hq155⟩
                  refine WL.want (d := 90) rfl rfl rfl ?_
                  refine WL.val (.bool false) rfl rfl rfl (fun za zC zh zk => wp_not rfl (zh.ev rfl) zk) ?_
                  refine WL.val (.bool false) rfl rfl rfl (fun za zC zh zk => wp_pickF rfl (zh.ev rfl) (zh.ev rfl) zk) ?_
                  refine WL.nil (WE.sub (K' := [(0, .slice pa l.length ca), (3, .pointer (some ⟨gm, 0, none⟩)), (4, .pointer (some ⟨g3, 0, none⟩)), (5, .int .i64 (((x.1 : Nat) : Int))), (6, .pointer (some ⟨g29, 0, none⟩)), (7, .pointer (some ⟨g48, 0, none⟩)), (8, .pointer (some ⟨g49, 0, none⟩)), (9, .bool ((lOk (⟨(xget l x.1).a, (xget l x.1).p, (xget l x.1).q⟩ : Li) (⟨(xget l x.1).b, (xget l x.1).t, (xget l x.1).u⟩ : Li) ((((xget l x.1).kind : Int) == (2 : Int))) x.2))), (10, .bool ((lOk (⟨(xget l x.1).a, (xget l x.1).p, (xget l x.1).q⟩ : Li) (⟨(xget l x.1).b, (xget l x.1).t, (xget l x.1).u⟩ : Li) ((((xget l x.1).kind : Int) == (2 : Int))) x.2))), (14, .slice pa l.length ca), (15, .int .i64 (((l.length : Nat) : Int))), (16, .int .i64 (((x.1 : Nat) : Int))), (17, .bool ((decide ((((x.1 : Nat) : Int) : Int) < (((l.length : Nat) : Int) : Int))))), (22, .bool ((decide ((60 : Int) ≤ (((x.1 : Nat) : Int) : Int))))), (38, .int .i64 ((xget l x.1).kind)), (39, .bool ((((xget l x.1).kind : Int) == (0 : Int)))), (53, .bool ((((xget l x.1).kind : Int) == (1 : Int)))), (97, .bool false)]) ⟨rfl, rfl, rfl, rfl, rfl, rfl, rfl, rfl, rfl, rfl, rfl, rfl, rfl, rfl, rfl, rfl, rfl, rfl, trivial⟩ ?_)
                  refine WE.next ?_
                  refine WC.condF rfl rfl ?_
                  refine WC.skip ?_
                  refine WE.blockNormal ?_
                  refine WE.next ?_
                  refine WC.region ?_
                  refine WL.val (.int .i64 ((((x.1 + 1) : Nat) : Int))) rfl rfl rfl (fun za zC zh zk => addb_3 rfl (zh.ev rfl) (zh.ev rfl) (wrap_eq (by omega) (by omega) (by omega)) zk) ?_
                  refine WL.val (.int .i64 ((((x.1 + 1) : Nat) : Int))) rfl rfl rfl (fun za zC zh zk => wp_move rfl (zh.ev rfl) zk) ?_
                  refine WL.nil (WE.sub (K' := [(0, .slice pa l.length ca), (3, .pointer (some ⟨gm, 0, none⟩)), (4, .pointer (some ⟨g3, 0, none⟩)), (5, .int .i64 (((x.1 : Nat) : Int))), (6, .pointer (some ⟨g29, 0, none⟩)), (7, .pointer (some ⟨g48, 0, none⟩)), (8, .pointer (some ⟨g49, 0, none⟩)), (9, .bool ((lOk (⟨(xget l x.1).a, (xget l x.1).p, (xget l x.1).q⟩ : Li) (⟨(xget l x.1).b, (xget l x.1).t, (xget l x.1).u⟩ : Li) ((((xget l x.1).kind : Int) == (2 : Int))) x.2))), (10, .bool ((lOk (⟨(xget l x.1).a, (xget l x.1).p, (xget l x.1).q⟩ : Li) (⟨(xget l x.1).b, (xget l x.1).t, (xget l x.1).u⟩ : Li) ((((xget l x.1).kind : Int) == (2 : Int))) x.2))), (14, .slice pa l.length ca), (15, .int .i64 (((l.length : Nat) : Int))), (16, .int .i64 ((((x.1 + 1) : Nat) : Int))), (17, .bool ((decide ((((x.1 : Nat) : Int) : Int) < (((l.length : Nat) : Int) : Int))))), (22, .bool ((decide ((60 : Int) ≤ (((x.1 : Nat) : Int) : Int))))), (38, .int .i64 ((xget l x.1).kind)), (39, .bool ((((xget l x.1).kind : Int) == (0 : Int)))), (53, .bool ((((xget l x.1).kind : Int) == (1 : Int)))), (97, .bool false)]) ⟨rfl, rfl, rfl, rfl, rfl, rfl, rfl, rfl, rfl, rfl, rfl, rfl, rfl, rfl, rfl, rfl, rfl, rfl, trivial⟩ ?_)
                  refine WE.round ((x.1 + 1, (lTo (⟨(xget l x.1).a, (xget l x.1).p, (xget l x.1).q⟩ : Li) (⟨(xget l x.1).b, (xget l x.1).t, (xget l x.1).u⟩ : Li) ((((xget l x.1).kind : Int) == (2 : Int))) x.2))) ⟨rfl, rfl, rfl, rfl, rfl, rfl, trivial⟩ ?_ ?_
                  · have hb157 : Below w.heap.size w w156 := (bstep (bstep (bstep (bstep (bstep hb136 hq141) hq144) hb148) hb152) hq155)
                    have hb159 : Below w150.heap.size w150 w156 := (bstep hb152 hq155)
                    have ho158 := ho151.below hb159
                    exact ⟨by (try dsimp only); omega, by (try dsimp only); have z := (show (lTo (⟨(xget l x.1).a, (xget l x.1).p, (xget l x.1).q⟩ : Li) (⟨(xget l x.1).b, (xget l x.1).t, (xget l x.1).u⟩ : Li) ((((xget l x.1).kind : Int) == (2 : Int))) x.2).length ≤ x.2.length + (xget l x.1).p.size + (xget l x.1).q.size from lTo_len (⟨(xget l x.1).a, (xget l x.1).p, (xget l x.1).q⟩ : Li) (⟨(xget l x.1).b, (xget l x.1).t, (xget l x.1).u⟩ : Li) ((((xget l x.1).kind : Int) == (2 : Int))) x.2); omega, hb157, (Both.mono ho158 (fun b q _ => q.1))⟩
                  · (try dsimp only); omega
            · have h114 : ¬ (((xget l x.1).kind : Int) = (1 : Int)) := by simpa using h114
              refine WC.region ?_
              refine WL.val (.bool ((((xget l x.1).kind : Int) == (2 : Int)))) rfl rfl rfl (fun za zC zh zk => eql_3 rfl (zh.ev rfl) (zh.ev rfl) zk) ?_
              refine WL.val (.bool ((((xget l x.1).kind : Int) == (2 : Int)))) rfl rfl rfl (fun za zC zh zk => wp_assign rfl (zh.ev rfl) zk) ?_
              refine WL.nil (WE.sub (K' := [(0, .slice pa l.length ca), (3, .pointer (some ⟨gm, 0, none⟩)), (4, .pointer (some ⟨g3, 0, none⟩)), (5, .int .i64 (((x.1 : Nat) : Int))), (6, .pointer (some ⟨g29, 0, none⟩)), (7, .pointer (some ⟨g48, 0, none⟩)), (8, .pointer (some ⟨g49, 0, none⟩)), (9, .bool true), (10, .bool true), (14, .slice pa l.length ca), (15, .int .i64 (((l.length : Nat) : Int))), (16, .int .i64 (((x.1 : Nat) : Int))), (17, .bool ((decide ((((x.1 : Nat) : Int) : Int) < (((l.length : Nat) : Int) : Int))))), (22, .bool ((decide ((60 : Int) ≤ (((x.1 : Nat) : Int) : Int))))), (38, .int .i64 ((xget l x.1).kind)), (39, .bool ((((xget l x.1).kind : Int) == (0 : Int)))), (53, .bool ((((xget l x.1).kind : Int) == (2 : Int))))]) ⟨rfl, rfl, rfl, rfl, rfl, rfl, rfl, rfl, rfl, rfl, rfl, rfl, rfl, rfl, rfl, rfl, rfl, trivial⟩ ?_)
              refine WE.next ?_
              refine WC.cond rfl (fun h160 => ?_) (fun h160 => ?_)
              · have h160 : ((xget l x.1).kind : Int) = (2 : Int) := by simpa using h160
                refine WC.seq ?_
                refine WC.region ?_
                refine WL.val (.pointer (some ⟨gm, 0, none⟩)) rfl rfl rfl (fun za zC zh zk => wp_move rfl (zh.ev rfl) zk) ?_
                refine WL.val (.agg #[.bool ((xget l x.1).a), .int .i64 ((xget l x.1).p.f), .slice a1 ((xget l x.1).p.args.length) c1, .int .i64 ((xget l x.1).q.f), .slice a3 ((xget l x.1).q.args.length) c3]) rfl rfl rfl (fun za zC zh zk => ld_41 rfl (zh.ev rfl) ((hB54.cell 0).trans rfl) ((hB54.cell 1).trans rfl) ((hB54.cell 2).trans rfl) ((hB54.cell 3).trans rfl) ((hB54.cell 4).trans rfl) zk) ?_
                refine WL.val (.agg #[.bool ((xget l x.1).b), .int .i64 ((xget l x.1).t.f), .slice a2 ((xget l x.1).t.args.length) c2, .int .i64 ((xget l x.1).u.f), .slice a4 ((xget l x.1).u.args.length) c4]) rfl rfl rfl (fun za zC zh zk => ld_41 rfl (zh.ev rfl) ((hB55.cell 0).trans rfl) ((hB55.cell 1).trans rfl) ((hB55.cell 2).trans rfl) ((hB55.cell 3).trans rfl) ((hB55.cell 4).trans rfl) zk) ?_
                refine WL.val (.pointer (some ⟨g29, 0, none⟩)) rfl rfl rfl (fun za zC zh zk => fld_39_0 rfl (zh.ev rfl) zk) ?_
                refine WL.val (.int .i64 ((xget l x.1).kind)) rfl rfl rfl (fun za zC zh zk => ld_3 rfl (zh.ev rfl) ((hB67.cell 0).trans rfl) zk) ?_
                refine WL.val (.bool ((((xget l x.1).kind : Int) == (2 : Int)))) rfl rfl rfl (fun za zC zh zk => eql_3 rfl (zh.ev rfl) (zh.ev rfl) zk) ?_
                have hl161 : g29 < w47.heap.size := hB67.lt
                have hl162 : g48 < w47.heap.size := hB54.lt
                have hl163 : g49 < w47.heap.size := hB55.lt
                have hw164 : w.heap.size ≤ w47.heap.size := (Nat.le_trans hb41.size hb50.size)
                have hb165 : Below w.heap.size w w47 := (bstep hb41 hb50)
                have hb167 : Below w11.heap.size w11 w47 := (bstep hb42 hb50)
                have ho166 := hBr.below hb167
                refine WL.call rfl rfl rfl (fun za zh zC => wp_call (by kernel_rfl) rfl (hv4 (zh.ev rfl) (zh.ev rfl) (zh.ev rfl) (zh.ev rfl))) (blit_m (⟨(xget l x.1).a, (xget l x.1).p, (xget l x.1).q⟩ : Li) (⟨(xget l x.1).b, (xget l x.1).t, (xget l x.1).u⟩ : Li) ((((xget l x.1).kind : Int) == (2 : Int))) ho166 (fun b q => by (try dsimp only at *); omega) (⟨_, _, _, _, rfl, (InT.below hb165 hPi), (InT.below hb165 hQi)⟩ : LiIn (fun b => b < w.heap.size) _ (⟨(xget l x.1).a, (xget l x.1).p, (xget l x.1).q⟩ : Li) _) (⟨_, _, _, _, rfl, (InT.below hb165 hTi), (InT.below hb165 hUi)⟩ : LiIn (fun b => b < w.heap.size) _ (⟨(xget l x.1).b, (xget l x.1).t, (xget l x.1).u⟩ : Li) _) (fun b q q2 => by (try dsimp only at *); omega) (by (try dsimp only); omega) (by (try dsimp only); omega) (by (try dsimp only); omega) (by (try dsimp only); omega) (by (try dsimp only); omega)) ?_
                rintro _ w170 ⟨⟨rfl, hq168⟩, hc169⟩
                have hb171 := chg_below hb165 hc169 (fun b hb => (fun h => by (try dsimp only at *); omega))
                have hB172 := chg_blk hB67 hc169 (fun h => by (try dsimp only at *); omega)
                have hB173 := chg_blk hB54 hc169 (fun h => by (try dsimp only at *); omega)
                have hB174 := chg_blk hB55 hc169 (fun h => by (try dsimp only at *); omega)
                refine WL.val (.bool ((lOk (⟨(xget l x.1).a, (xget l x.1).p, (xget l x.1).q⟩ : Li) (⟨(xget l x.1).b, (xget l x.1).t, (xget l x.1).u⟩ : Li) ((((xget l x.1).kind : Int) == (2 : Int))) x.2))) rfl rfl rfl (fun za zC zh zk => wp_assign rfl (zh.ev rfl) zk) ?_
                refine WL.nil (WE.sub (K' := [(0, .slice pa l.length ca), (3, .pointer (some ⟨gm, 0, none⟩)), (4, .pointer (some ⟨g3, 0, none⟩)), (5, .int .i64 (((x.1 : Nat) : Int))), (6, .pointer (some ⟨g29, 0, none⟩)), (7, .pointer (some ⟨g48, 0, none⟩)), (8, .pointer (some ⟨g49, 0, none⟩)), (9, .bool ((lOk (⟨(xget l x.1).a, (xget l x.1).p, (xget l x.1).q⟩ : Li) (⟨(xget l x.1).b, (xget l x.1).t, (xget l x.1).u⟩ : Li) ((((xget l x.1).kind : Int) == (2 : Int))) x.2))), (10, .bool true), (14, .slice pa l.length ca), (15, .int .i64 (((l.length : Nat) : Int))), (16, .int .i64 (((x.1 : Nat) : Int))), (17, .bool ((decide ((((x.1 : Nat) : Int) : Int) < (((l.length : Nat) : Int) : Int))))), (22, .bool ((decide ((60 : Int) ≤ (((x.1 : Nat) : Int) : Int))))), (38, .int .i64 ((xget l x.1).kind)), (39, .bool ((((xget l x.1).kind : Int) == (0 : Int)))), (53, .bool ((((xget l x.1).kind : Int) == (2 : Int))))]) ⟨rfl, rfl, rfl, rfl, rfl, rfl, rfl, rfl, rfl, rfl, rfl, rfl, rfl, rfl, rfl, rfl, rfl, trivial⟩ ?_)
                refine WE.next ?_
                refine WC.region ?_
                refine WL.val (.pointer (some ⟨g3, 0, none⟩)) rfl rfl rfl (fun za zC zh zk => wp_move rfl (zh.ev rfl) zk) ?_
                refine WL.val (.agg #[.bool ((xget l x.1).a), .int .i64 ((xget l x.1).p.f), .slice a1 ((xget l x.1).p.args.length) c1, .int .i64 ((xget l x.1).q.f), .slice a3 ((xget l x.1).q.args.length) c3]) rfl rfl rfl (fun za zC zh zk => ld_41 rfl (zh.ev rfl) ((hB173.cell 0).trans rfl) ((hB173.cell 1).trans rfl) ((hB173.cell 2).trans rfl) ((hB173.cell 3).trans rfl) ((hB173.cell 4).trans rfl) zk) ?_
                refine WL.val (.agg #[.bool ((xget l x.1).b), .int .i64 ((xget l x.1).t.f), .slice a2 ((xget l x.1).t.args.length) c2, .int .i64 ((xget l x.1).u.f), .slice a4 ((xget l x.1).u.args.length) c4]) rfl rfl rfl (fun za zC zh zk => ld_41 rfl (zh.ev rfl) ((hB174.cell 0).trans rfl) ((hB174.cell 1).trans rfl) ((hB174.cell 2).trans rfl) ((hB174.cell 3).trans rfl) ((hB174.cell 4).trans rfl) zk) ?_
                refine WL.val (.pointer (some ⟨g29, 0, none⟩)) rfl rfl rfl (fun za zC zh zk => fld_39_0 rfl (zh.ev rfl) zk) ?_
                refine WL.val (.int .i64 ((xget l x.1).kind)) rfl rfl rfl (fun za zC zh zk => ld_3 rfl (zh.ev rfl) ((hB172.cell 0).trans rfl) zk) ?_
                refine WL.val (.bool ((((xget l x.1).kind : Int) == (2 : Int)))) rfl rfl rfl (fun za zC zh zk => eql_3 rfl (zh.ev rfl) (zh.ev rfl) zk) ?_
                have hl175 : g29 < w170.heap.size := hB172.lt
                have hl176 : g48 < w170.heap.size := hB173.lt
                have hl177 : g49 < w170.heap.size := hB174.lt
                have hw178 : w.heap.size ≤ w170.heap.size := hb171.size
                refine WL.call rfl rfl rfl (fun za zh zC => wp_call (by kernel_rfl) rfl (hv4 (zh.ev rfl) (zh.ev rfl) (zh.ev rfl) (zh.ev rfl))) (blit_z (⟨(xget l x.1).a, (xget l x.1).p, (xget l x.1).q⟩ : Li) (⟨(xget l x.1).b, (xget l x.1).t, (xget l x.1).u⟩ : Li) ((((xget l x.1).kind : Int) == (2 : Int))) hq168 (fun b q => by (try dsimp only at *); omega) (⟨_, _, _, _, rfl, (InT.below hb171 hPi), (InT.below hb171 hQi)⟩ : LiIn (fun b => b < w.heap.size) _ (⟨(xget l x.1).a, (xget l x.1).p, (xget l x.1).q⟩ : Li) _) (⟨_, _, _, _, rfl, (InT.below hb171 hTi), (InT.below hb171 hUi)⟩ : LiIn (fun b => b < w.heap.size) _ (⟨(xget l x.1).b, (xget l x.1).t, (xget l x.1).u⟩ : Li) _) (fun b q q2 => by (try dsimp only at *); omega) (by (try dsimp only); omega) (by (try dsimp only); omega) (by (try dsimp only); omega) (by (try dsimp only); omega) (by (try dsimp only); omega)) ?_
                rintro _ w181 ⟨⟨rfl, hq179⟩, hc180⟩
                have hb182 := chg_below hb171 hc180 (fun b hb => (fun h => by (try dsimp only at *); omega))
                have hB183 := chg_blk hB172 hc180 (fun h => by (try dsimp only at *); omega)
                have hB184 := chg_blk hB173 hc180 (fun h => by (try dsimp only at *); omega)
                have hB185 := chg_blk hB174 hc180 (fun h => by (try dsimp only at *); omega)
                refine WL.val (.bool ((lOk (⟨(xget l x.1).a, (xget l x.1).p, (xget l x.1).q⟩ : Li) (⟨(xget l x.1).b, (xget l x.1).t, (xget l x.1).u⟩ : Li) ((((xget l x.1).kind : Int) == (2 : Int))) x.2))) rfl rfl rfl (fun za zC zh zk => wp_assign rfl (zh.ev rfl) zk) ?_
                refine WL.nil (WE.sub (K' := [(0, .slice pa l.length ca), (3, .pointer (some ⟨gm, 0, none⟩)), (4, .pointer (some ⟨g3, 0, none⟩)), (5, .int .i64 (((x.1 : Nat) : Int))), (6, .pointer (some ⟨g29, 0, none⟩)), (7, .pointer (some ⟨g48, 0, none⟩)), (8, .pointer (some ⟨g49, 0, none⟩)), (9, .bool ((lOk (⟨(xget l x.1).a, (xget l x.1).p, (xget l x.1).q⟩ : Li) (⟨(xget l x.1).b, (xget l x.1).t, (xget l x.1).u⟩ : Li) ((((xget l x.1).kind : Int) == (2 : Int))) x.2))), (10, .bool ((lOk (⟨(xget l x.1).a, (xget l x.1).p, (xget l x.1).q⟩ : Li) (⟨(xget l x.1).b, (xget l x.1).t, (xget l x.1).u⟩ : Li) ((((xget l x.1).kind : Int) == (2 : Int))) x.2))), (14, .slice pa l.length ca), (15, .int .i64 (((l.length : Nat) : Int))), (16, .int .i64 (((x.1 : Nat) : Int))), (17, .bool ((decide ((((x.1 : Nat) : Int) : Int) < (((l.length : Nat) : Int) : Int))))), (22, .bool ((decide ((60 : Int) ≤ (((x.1 : Nat) : Int) : Int))))), (38, .int .i64 ((xget l x.1).kind)), (39, .bool ((((xget l x.1).kind : Int) == (0 : Int)))), (53, .bool ((((xget l x.1).kind : Int) == (2 : Int))))]) ⟨rfl, rfl, rfl, rfl, rfl, rfl, rfl, rfl, rfl, rfl, rfl, rfl, rfl, rfl, rfl, rfl, rfl, trivial⟩ ?_)
                refine WE.blockNormal ?_
                refine WE.next ?_
                refine WC.seq ?_
                refine WC.region ?_
                refine WL.val (.bool ((lOk (⟨(xget l x.1).a, (xget l x.1).p, (xget l x.1).q⟩ : Li) (⟨(xget l x.1).b, (xget l x.1).t, (xget l x.1).u⟩ : Li) ((((xget l x.1).kind : Int) == (2 : Int))) x.2))) rfl rfl rfl (fun za zC zh zk => wp_move rfl (zh.ev rfl) zk) ?_
                refine WL.val (.bool ((lOk (⟨(xget l x.1).a, (xget l x.1).p, (xget l x.1).q⟩ : Li) (⟨(xget l x.1).b, (xget l x.1).t, (xget l x.1).u⟩ : Li) ((((xget l x.1).kind : Int) == (2 : Int))) x.2))) rfl rfl rfl (fun za zC zh zk => wp_move rfl (zh.ev rfl) zk) ?_
                refine WL.val (.bool (((lOk (⟨(xget l x.1).a, (xget l x.1).p, (xget l x.1).q⟩ : Li) (⟨(xget l x.1).b, (xget l x.1).t, (xget l x.1).u⟩ : Li) ((((xget l x.1).kind : Int) == (2 : Int))) x.2) != (lOk (⟨(xget l x.1).a, (xget l x.1).p, (xget l x.1).q⟩ : Li) (⟨(xget l x.1).b, (xget l x.1).t, (xget l x.1).u⟩ : Li) ((((xget l x.1).kind : Int) == (2 : Int))) x.2)))) rfl rfl rfl (fun za zC zh zk => neq_4 rfl (zh.ev rfl) (zh.ev rfl) zk) ?_
                refine WL.val (.bool (((lOk (⟨(xget l x.1).a, (xget l x.1).p, (xget l x.1).q⟩ : Li) (⟨(xget l x.1).b, (xget l x.1).t, (xget l x.1).u⟩ : Li) ((((xget l x.1).kind : Int) == (2 : Int))) x.2) != (lOk (⟨(xget l x.1).a, (xget l x.1).p, (xget l x.1).q⟩ : Li) (⟨(xget l x.1).b, (xget l x.1).t, (xget l x.1).u⟩ : Li) ((((xget l x.1).kind : Int) == (2 : Int))) x.2)))) rfl rfl rfl (fun za zC zh zk => wp_move rfl (zh.ev rfl) zk) ?_
                refine bool_split (((lOk (⟨(xget l x.1).a, (xget l x.1).p, (xget l x.1).q⟩ : Li) (⟨(xget l x.1).b, (xget l x.1).t, (xget l x.1).u⟩ : Li) ((((xget l x.1).kind : Int) == (2 : Int))) x.2) != (lOk (⟨(xget l x.1).a, (xget l x.1).p, (xget l x.1).q⟩ : Li) (⟨(xget l x.1).b, (xget l x.1).t, (xget l x.1).u⟩ : Li) ((((xget l x.1).kind : Int) == (2 : Int))) x.2))) (fun h186 => ?_) (fun h186 => ?_)
                · refine WL.sub (K' := [(0, .slice pa l.length ca), (3, .pointer (some ⟨gm, 0, none⟩)), (4, .pointer (some ⟨g3, 0, none⟩)), (5, .int .i64 (((x.1 : Nat) : Int))), (6, .pointer (some ⟨g29, 0, none⟩)), (7, .pointer (some ⟨g48, 0, none⟩)), (8, .pointer (some ⟨g49, 0, none⟩)), (9, .bool ((lOk (⟨(xget l x.1).a, (xget l x.1).p, (xget l x.1).q⟩ : Li) (⟨(xget l x.1).b, (xget l x.1).t, (xget l x.1).u⟩ : Li) ((((xget l x.1).kind : Int) == (2 : Int))) x.2))), (10, .bool ((lOk (⟨(xget l x.1).a, (xget l x.1).p, (xget l x.1).q⟩ : Li) (⟨(xget l x.1).b, (xget l x.1).t, (xget l x.1).u⟩ : Li) ((((xget l x.1).kind : Int) == (2 : Int))) x.2))), (14, .slice pa l.length ca), (15, .int .i64 (((l.length : Nat) : Int))), (16, .int .i64 (((x.1 : Nat) : Int))), (17, .bool ((decide ((((x.1 : Nat) : Int) : Int) < (((l.length : Nat) : Int) : Int))))), (22, .bool ((decide ((60 : Int) ≤ (((x.1 : Nat) : Int) : Int))))), (38, .int .i64 ((xget l x.1).kind)), (39, .bool ((((xget l x.1).kind : Int) == (0 : Int)))), (53, .bool ((((xget l x.1).kind : Int) == (2 : Int)))), (80, .bool ((lOk (⟨(xget l x.1).a, (xget l x.1).p, (xget l x.1).q⟩ : Li) (⟨(xget l x.1).b, (xget l x.1).t, (xget l x.1).u⟩ : Li) ((((xget l x.1).kind : Int) == (2 : Int))) x.2))), (81, .bool ((lOk (⟨(xget l x.1).a, (xget l x.1).p, (xget l x.1).q⟩ : Li) (⟨(xget l x.1).b, (xget l x.1).t, (xget l x.1).u⟩ : Li) ((((xget l x.1).kind : Int) == (2 : Int))) x.2))), (82, .bool (((lOk (⟨(xget l x.1).a, (xget l x.1).p, (xget l x.1).q⟩ : Li) (⟨(xget l x.1).b, (xget l x.1).t, (xget l x.1).u⟩ : Li) ((((xget l x.1).kind : Int) == (2 : Int))) x.2) != (lOk (⟨(xget l x.1).a, (xget l x.1).p, (xget l x.1).q⟩ : Li) (⟨(xget l x.1).b, (xget l x.1).t, (xget l x.1).u⟩ : Li) ((((xget l x.1).kind : Int) == (2 : Int))) x.2)))), (83, .bool true)]) ⟨rfl, rfl, rfl, rfl, rfl, rfl, rfl, rfl, rfl, rfl, rfl, rfl, rfl, rfl, rfl, rfl, rfl, rfl, rfl, rfl, (by exact congrArg (fun z => some (Value.bool z)) h186), trivial⟩ ?_
                  have h186 : (lOk (⟨(xget l x.1).a, (xget l x.1).p, (xget l x.1).q⟩ : Li) (⟨(xget l x.1).b, (xget l x.1).t, (xget l x.1).u⟩ : Li) ((((xget l x.1).kind : Int) == (2 : Int))) x.2) ≠ (lOk (⟨(xget l x.1).a, (xget l x.1).p, (xget l x.1).q⟩ : Li) (⟨(xget l x.1).b, (xget l x.1).t, (xget l x.1).u⟩ : Li) ((((xget l x.1).kind : Int) == (2 : Int))) x.2) := by simpa using h186
                  refine WL.skip (d := 83) rfl rfl rfl rfl rfl ?_
                  refine WL.skip (d := 83) rfl rfl rfl rfl rfl ?_
                  refine WL.skip (d := 83) rfl rfl rfl rfl rfl ?_
                  refine WL.skip (d := 83) rfl rfl rfl rfl rfl ?_
                  refine WL.skip (d := 83) rfl rfl rfl rfl rfl ?_
                  refine WL.val (.bool true) rfl rfl rfl (fun za zC zh zk => wp_pickT rfl (zh.ev rfl) (zh.ev rfl) zk) ?_
                  refine WL.val (.bool true) rfl rfl rfl (fun za zC zh zk => wp_move rfl (zh.ev rfl) zk) ?_
                  refine WL.skip (d := 90) rfl rfl rfl rfl rfl ?_
                  refine WL.skip (d := 90) rfl rfl rfl rfl rfl ?_
                  refine WL.skip (d := 90) rfl rfl rfl rfl rfl ?_
                  refine WL.skip (d := 90) rfl rfl rfl rfl rfl ?_
                  refine WL.skip (d := 90) rfl rfl rfl rfl rfl ?_
                  refine WL.skip (d := 90) rfl rfl rfl rfl rfl ?_
                  refine WL.val (.bool true) rfl rfl rfl (fun za zC zh zk => wp_pickT rfl (zh.ev rfl) (zh.ev rfl) zk) ?_
                  refine WL.nil (WE.sub (K' := [(0, .slice pa l.length ca), (3, .pointer (some ⟨gm, 0, none⟩)), (4, .pointer (some ⟨g3, 0, none⟩)), (5, .int .i64 (((x.1 : Nat) : Int))), (6, .pointer (some ⟨g29, 0, none⟩)), (7, .pointer (some ⟨g48, 0, none⟩)), (8, .pointer (some ⟨g49, 0, none⟩)), (9, .bool ((lOk (⟨(xget l x.1).a, (xget l x.1).p, (xget l x.1).q⟩ : Li) (⟨(xget l x.1).b, (xget l x.1).t, (xget l x.1).u⟩ : Li) ((((xget l x.1).kind : Int) == (2 : Int))) x.2))), (10, .bool ((lOk (⟨(xget l x.1).a, (xget l x.1).p, (xget l x.1).q⟩ : Li) (⟨(xget l x.1).b, (xget l x.1).t, (xget l x.1).u⟩ : Li) ((((xget l x.1).kind : Int) == (2 : Int))) x.2))), (14, .slice pa l.length ca), (15, .int .i64 (((l.length : Nat) : Int))), (16, .int .i64 (((x.1 : Nat) : Int))), (17, .bool ((decide ((((x.1 : Nat) : Int) : Int) < (((l.length : Nat) : Int) : Int))))), (22, .bool ((decide ((60 : Int) ≤ (((x.1 : Nat) : Int) : Int))))), (38, .int .i64 ((xget l x.1).kind)), (39, .bool ((((xget l x.1).kind : Int) == (0 : Int)))), (53, .bool ((((xget l x.1).kind : Int) == (2 : Int)))), (97, .bool true)]) ⟨rfl, rfl, rfl, rfl, rfl, rfl, rfl, rfl, rfl, rfl, rfl, rfl, rfl, rfl, rfl, rfl, rfl, rfl, trivial⟩ ?_)
                  refine WE.next ?_
                  refine WC.condT rfl rfl ?_
                  refine WC.seq ?_
                  refine WC.region ?_
                  refine WL.val (.bool false) rfl rfl rfl (fun za zC zh zk => wp_assign rfl (zh.ev rfl) zk) ?_
                  refine WL.nil (WE.sub (K' := [(0, .slice pa l.length ca), (2, .bool false), (3, .pointer (some ⟨gm, 0, none⟩)), (4, .pointer (some ⟨g3, 0, none⟩)), (5, .int .i64 (((x.1 : Nat) : Int))), (6, .pointer (some ⟨g29, 0, none⟩)), (7, .pointer (some ⟨g48, 0, none⟩)), (8, .pointer (some ⟨g49, 0, none⟩)), (9, .bool ((lOk (⟨(xget l x.1).a, (xget l x.1).p, (xget l x.1).q⟩ : Li) (⟨(xget l x.1).b, (xget l x.1).t, (xget l x.1).u⟩ : Li) ((((xget l x.1).kind : Int) == (2 : Int))) x.2))), (10, .bool ((lOk (⟨(xget l x.1).a, (xget l x.1).p, (xget l x.1).q⟩ : Li) (⟨(xget l x.1).b, (xget l x.1).t, (xget l x.1).u⟩ : Li) ((((xget l x.1).kind : Int) == (2 : Int))) x.2))), (14, .slice pa l.length ca), (15, .int .i64 (((l.length : Nat) : Int))), (16, .int .i64 (((x.1 : Nat) : Int))), (17, .bool ((decide ((((x.1 : Nat) : Int) : Int) < (((l.length : Nat) : Int) : Int))))), (22, .bool ((decide ((60 : Int) ≤ (((x.1 : Nat) : Int) : Int))))), (38, .int .i64 ((xget l x.1).kind)), (39, .bool ((((xget l x.1).kind : Int) == (0 : Int)))), (53, .bool ((((xget l x.1).kind : Int) == (2 : Int)))), (97, .bool true)]) ⟨rfl, rfl, rfl, rfl, rfl, rfl, rfl, rfl, rfl, rfl, rfl, rfl, rfl, rfl, rfl, rfl, rfl, rfl, rfl, trivial⟩ ?_)
                  refine WE.next ?_
                  refine WC.ret ?_
                  refine WE.blockRet ?_
                  refine WE.thenRet ?_
                  refine WE.thenRet ?_
                  refine WE.blockRet ?_
                  refine WE.thenRet ?_
                  refine WE.ret1 rfl rfl ?_
                  exfalso
                  first | (simp at h186; done)
                · refine WL.sub (K' := [(0, .slice pa l.length ca), (3, .pointer (some ⟨gm, 0, none⟩)), (4, .pointer (some ⟨g3, 0, none⟩)), (5, .int .i64 (((x.1 : Nat) : Int))), (6, .pointer (some ⟨g29, 0, none⟩)), (7, .pointer (some ⟨g48, 0, none⟩)), (8, .pointer (some ⟨g49, 0, none⟩)), (9, .bool ((lOk (⟨(xget l x.1).a, (xget l x.1).p, (xget l x.1).q⟩ : Li) (⟨(xget l x.1).b, (xget l x.1).t, (xget l x.1).u⟩ : Li) ((((xget l x.1).kind : Int) == (2 : Int))) x.2))), (10, .bool ((lOk (⟨(xget l x.1).a, (xget l x.1).p, (xget l x.1).q⟩ : Li) (⟨(xget l x.1).b, (xget l x.1).t, (xget l x.1).u⟩ : Li) ((((xget l x.1).kind : Int) == (2 : Int))) x.2))), (14, .slice pa l.length ca), (15, .int .i64 (((l.length : Nat) : Int))), (16, .int .i64 (((x.1 : Nat) : Int))), (17, .bool ((decide ((((x.1 : Nat) : Int) : Int) < (((l.length : Nat) : Int) : Int))))), (22, .bool ((decide ((60 : Int) ≤ (((x.1 : Nat) : Int) : Int))))), (38, .int .i64 ((xget l x.1).kind)), (39, .bool ((((xget l x.1).kind : Int) == (0 : Int)))), (53, .bool ((((xget l x.1).kind : Int) == (2 : Int)))), (80, .bool ((lOk (⟨(xget l x.1).a, (xget l x.1).p, (xget l x.1).q⟩ : Li) (⟨(xget l x.1).b, (xget l x.1).t, (xget l x.1).u⟩ : Li) ((((xget l x.1).kind : Int) == (2 : Int))) x.2))), (81, .bool ((lOk (⟨(xget l x.1).a, (xget l x.1).p, (xget l x.1).q⟩ : Li) (⟨(xget l x.1).b, (xget l x.1).t, (xget l x.1).u⟩ : Li) ((((xget l x.1).kind : Int) == (2 : Int))) x.2))), (82, .bool (((lOk (⟨(xget l x.1).a, (xget l x.1).p, (xget l x.1).q⟩ : Li) (⟨(xget l x.1).b, (xget l x.1).t, (xget l x.1).u⟩ : Li) ((((xget l x.1).kind : Int) == (2 : Int))) x.2) != (lOk (⟨(xget l x.1).a, (xget l x.1).p, (xget l x.1).q⟩ : Li) (⟨(xget l x.1).b, (xget l x.1).t, (xget l x.1).u⟩ : Li) ((((xget l x.1).kind : Int) == (2 : Int))) x.2)))), (83, .bool false)]) ⟨rfl, rfl, rfl, rfl, rfl, rfl, rfl, rfl, rfl, rfl, rfl, rfl, rfl, rfl, rfl, rfl, rfl, rfl, rfl, rfl, (by exact congrArg (fun z => some (Value.bool z)) h186), trivial⟩ ?_
                  have h186 : ¬ ((lOk (⟨(xget l x.1).a, (xget l x.1).p, (xget l x.1).q⟩ : Li) (⟨(xget l x.1).b, (xget l x.1).t, (xget l x.1).u⟩ : Li) ((((xget l x.1).kind : Int) == (2 : Int))) x.2) ≠ (lOk (⟨(xget l x.1).a, (xget l x.1).p, (xget l x.1).q⟩ : Li) (⟨(xget l x.1).b, (xget l x.1).t, (xget l x.1).u⟩ : Li) ((((xget l x.1).kind : Int) == (2 : Int))) x.2)) := by simpa using h186
                  refine WL.want (d := 83) rfl rfl rfl ?_
                  refine WL.val (.pointer (some ⟨gm, 0, none⟩)) rfl rfl rfl (fun za zC zh zk => wp_move rfl (zh.ev rfl) zk) ?_
                  refine WL.want (d := 83) rfl rfl rfl ?_
                  refine WL.call rfl rfl rfl (fun za zh zC => wp_call (by kernel_rfl) rfl (hv1 (zh.ev rfl))) (bmark_m hq179) ?_
                  rintro _ w188 ⟨rfl, hq187⟩
                  refine WL.want (d := 83) rfl rfl rfl ?_
                  refine WL.val (.pointer (some ⟨g3, 0, none⟩)) rfl rfl rfl (fun za zC zh zk => wp_move rfl (zh.ev rfl) zk) ?_
                  refine WL.want (d := 83) rfl rfl rfl ?_
                  have ho189 := hq179.below hq187
                  refine WL.call rfl rfl rfl (fun za zh zC => wp_call (by kernel_rfl) rfl (hv1 (zh.ev rfl))) (bmark_z ho189) ?_
                  rintro _ w191 ⟨rfl, hq190⟩
                  refine WL.want (d := 83) rfl rfl rfl ?_
                  refine WL.val (.bool ((((((lTo (⟨(xget l x.1).a, (xget l x.1).p, (xget l x.1).q⟩ : Li) (⟨(xget l x.1).b, (xget l x.1).t, (xget l x.1).u⟩ : Li) ((((xget l x.1).kind : Int) == (2 : Int))) x.2).length : Nat) : Int) : Int) != ((((lTo (⟨(xget l x.1).a, (xget l x.1).p, (xget l x.1).q⟩ : Li) (⟨(xget l x.1).b, (xget l x.1).t, (xget l x.1).u⟩ : Li) ((((xget l x.1).kind : Int) == (2 : Int))) x.2).length : Nat) : Int) : Int)))) rfl rfl rfl (fun za zC zh zk => neq_3 rfl (zh.ev rfl) (zh.ev rfl) zk) ?_
                  refine WL.val (.bool ((((((lTo (⟨(xget l x.1).a, (xget l x.1).p, (xget l x.1).q⟩ : Li) (⟨(xget l x.1).b, (xget l x.1).t, (xget l x.1).u⟩ : Li) ((((xget l x.1).kind : Int) == (2 : Int))) x.2).length : Nat) : Int) : Int) != ((((lTo (⟨(xget l x.1).a, (xget l x.1).p, (xget l x.1).q⟩ : Li) (⟨(xget l x.1).b, (xget l x.1).t, (xget l x.1).u⟩ : Li) ((((xget l x.1).kind : Int) == (2 : Int))) x.2).length : Nat) : Int) : Int)))) rfl rfl rfl (fun za zC zh zk => wp_pickF rfl (zh.ev rfl) (zh.ev rfl) zk) ?_
                  refine WL.val (.bool ((((((lTo (⟨(xget l x.1).a, (xget l x.1).p, (xget l x.1).q⟩ : Li) (⟨(xget l x.1).b, (xget l x.1).t, (xget l x.1).u⟩ : Li) ((((xget l x.1).kind : Int) == (2 : Int))) x.2).length : Nat) : Int) : Int) != ((((lTo (⟨(xget l x.1).a, (xget l x.1).p, (xget l x.1).q⟩ : Li) (⟨(xget l x.1).b, (xget l x.1).t, (xget l x.1).u⟩ : Li) ((((xget l x.1).kind : Int) == (2 : Int))) x.2).length : Nat) : Int) : Int)))) rfl rfl rfl (fun za zC zh zk => wp_move rfl (zh.ev rfl) zk) ?_
                  refine bool_split ((((((lTo (⟨(xget l x.1).a, (xget l x.1).p, (xget l x.1).q⟩ : Li) (⟨(xget l x.1).b, (xget l x.1).t, (xget l x.1).u⟩ : Li) ((((xget l x.1).kind : Int) == (2 : Int))) x.2).length : Nat) : Int) : Int) != ((((lTo (⟨(xget l x.1).a, (xget l x.1).p, (xget l x.1).q⟩ : Li) (⟨(xget l x.1).b, (xget l x.1).t, (xget l x.1).u⟩ : Li) ((((xget l x.1).kind : Int) == (2 : Int))) x.2).length : Nat) : Int) : Int))) (fun h192 => ?_) (fun h192 => ?_)
                  · refine WL.sub (K' := [(0, .slice pa l.length ca), (3, .pointer (some ⟨gm, 0, none⟩)), (4, .pointer (some ⟨g3, 0, none⟩)), (5, .int .i64 (((x.1 : Nat) : Int))), (6, .pointer (some ⟨g29, 0, none⟩)), (7, .pointer (some ⟨g48, 0, none⟩)), (8, .pointer (some ⟨g49, 0, none⟩)), (9, .bool ((lOk (⟨(xget l x.1).a, (xget l x.1).p, (xget l x.1).q⟩ : Li) (⟨(xget l x.1).b, (xget l x.1).t, (xget l x.1).u⟩ : Li) ((((xget l x.1).kind : Int) == (2 : Int))) x.2))), (10, .bool ((lOk (⟨(xget l x.1).a, (xget l x.1).p, (xget l x.1).q⟩ : Li) (⟨(xget l x.1).b, (xget l x.1).t, (xget l x.1).u⟩ : Li) ((((xget l x.1).kind : Int) == (2 : Int))) x.2))), (14, .slice pa l.length ca), (15, .int .i64 (((l.length : Nat) : Int))), (16, .int .i64 (((x.1 : Nat) : Int))), (17, .bool ((decide ((((x.1 : Nat) : Int) : Int) < (((l.length : Nat) : Int) : Int))))), (22, .bool ((decide ((60 : Int) ≤ (((x.1 : Nat) : Int) : Int))))), (38, .int .i64 ((xget l x.1).kind)), (39, .bool ((((xget l x.1).kind : Int) == (0 : Int)))), (53, .bool ((((xget l x.1).kind : Int) == (2 : Int)))), (80, .bool ((lOk (⟨(xget l x.1).a, (xget l x.1).p, (xget l x.1).q⟩ : Li) (⟨(xget l x.1).b, (xget l x.1).t, (xget l x.1).u⟩ : Li) ((((xget l x.1).kind : Int) == (2 : Int))) x.2))), (81, .bool ((lOk (⟨(xget l x.1).a, (xget l x.1).p, (xget l x.1).q⟩ : Li) (⟨(xget l x.1).b, (xget l x.1).t, (xget l x.1).u⟩ : Li) ((((xget l x.1).kind : Int) == (2 : Int))) x.2))), (82, .bool (((lOk (⟨(xget l x.1).a, (xget l x.1).p, (xget l x.1).q⟩ : Li) (⟨(xget l x.1).b, (xget l x.1).t, (xget l x.1).u⟩ : Li) ((((xget l x.1).kind : Int) == (2 : Int))) x.2) != (lOk (⟨(xget l x.1).a, (xget l x.1).p, (xget l x.1).q⟩ : Li) (⟨(xget l x.1).b, (xget l x.1).t, (xget l x.1).u⟩ : Li) ((((xget l x.1).kind : Int) == (2 : Int))) x.2)))), (83, .bool false), (84, .pointer (some ⟨gm, 0, none⟩)), (85, .int .i64 ((((lTo (⟨(xget l x.1).a, (xget l x.1).p, (xget l x.1).q⟩ : Li) (⟨(xget l x.1).b, (xget l x.1).t, (xget l x.1).u⟩ : Li) ((((xget l x.1).kind : Int) == (2 : Int))) x.2).length : Nat) : Int))), (86, .pointer (some ⟨g3, 0, none⟩)), (87, .int .i64 ((((lTo (⟨(xget l x.1).a, (xget l x.1).p, (xget l x.1).q⟩ : Li) (⟨(xget l x.1).b, (xget l x.1).t, (xget l x.1).u⟩ : Li) ((((xget l x.1).kind : Int) == (2 : Int))) x.2).length : Nat) : Int))), (88, .bool ((((((lTo (⟨(xget l x.1).a, (xget l x.1).p, (xget l x.1).q⟩ : Li) (⟨(xget l x.1).b, (xget l x.1).t, (xget l x.1).u⟩ : Li) ((((xget l x.1).kind : Int) == (2 : Int))) x.2).length : Nat) : Int) : Int) != ((((lTo (⟨(xget l x.1).a, (xget l x.1).p, (xget l x.1).q⟩ : Li) (⟨(xget l x.1).b, (xget l x.1).t, (xget l x.1).u⟩ : Li) ((((xget l x.1).kind : Int) == (2 : Int))) x.2).length : Nat) : Int) : Int)))), (89, .bool ((((((lTo (⟨(xget l x.1).a, (xget l x.1).p, (xget l x.1).q⟩ : Li) (⟨(xget l x.1).b, (xget l x.1).t, (xget l x.1).u⟩ : Li) ((((xget l x.1).kind : Int) == (2 : Int))) x.2).length : Nat) : Int) : Int) != ((((lTo (⟨(xget l x.1).a, (xget l x.1).p, (xget l x.1).q⟩ : Li) (⟨(xget l x.1).b, (xget l x.1).t, (xget l x.1).u⟩ : Li) ((((xget l x.1).kind : Int) == (2 : Int))) x.2).length : Nat) : Int) : Int)))), (90, .bool true)]) ⟨rfl, rfl, rfl, rfl, rfl, rfl, rfl, rfl, rfl, rfl, rfl, rfl, rfl, rfl, rfl, rfl, rfl, rfl, rfl, rfl, rfl, rfl, rfl, rfl, rfl, rfl, rfl, (by exact congrArg (fun z => some (Value.bool z)) h192), trivial⟩ ?_
                    have h192 : ((((lTo (⟨(xget l x.1).a, (xget l x.1).p, (xget l x.1).q⟩ : Li) (⟨(xget l x.1).b, (xget l x.1).t, (xget l x.1).u⟩ : Li) ((((xget l x.1).kind : Int) == (2 : Int))) x.2).length : Nat) : Int) : Int) ≠ ((((lTo (⟨(xget l x.1).a, (xget l x.1).p, (xget l x.1).q⟩ : Li) (⟨(xget l x.1).b, (xget l x.1).t, (xget l x.1).u⟩ : Li) ((((xget l x.1).kind : Int) == (2 : Int))) x.2).length : Nat) : Int) : Int) := by simpa using h192
                    refine WL.skip (d := 90) rfl rfl rfl rfl rfl ?_
                    refine WL.skip (d := 90) rfl rfl rfl rfl rfl ?_
                    refine WL.skip (d := 90) rfl rfl rfl rfl rfl ?_
                    refine WL.skip (d := 90) rfl rfl rfl rfl rfl ?_
                    refine WL.skip (d := 90) rfl rfl rfl rfl rfl ?_
                    refine WL.skip (d := 90) rfl rfl rfl rfl rfl ?_
                    refine WL.val (.bool true) rfl rfl rfl (fun za zC zh zk => wp_pickT rfl (zh.ev rfl) (zh.ev rfl) zk) ?_
                    refine WL.nil (WE.sub (K' := [(0, .slice pa l.length ca), (3, .pointer (some ⟨gm, 0, none⟩)), (4, .pointer (some ⟨g3, 0, none⟩)), (5, .int .i64 (((x.1 : Nat) : Int))), (6, .pointer (some ⟨g29, 0, none⟩)), (7, .pointer (some ⟨g48, 0, none⟩)), (8, .pointer (some ⟨g49, 0, none⟩)), (9, .bool ((lOk (⟨(xget l x.1).a, (xget l x.1).p, (xget l x.1).q⟩ : Li) (⟨(xget l x.1).b, (xget l x.1).t, (xget l x.1).u⟩ : Li) ((((xget l x.1).kind : Int) == (2 : Int))) x.2))), (10, .bool ((lOk (⟨(xget l x.1).a, (xget l x.1).p, (xget l x.1).q⟩ : Li) (⟨(xget l x.1).b, (xget l x.1).t, (xget l x.1).u⟩ : Li) ((((xget l x.1).kind : Int) == (2 : Int))) x.2))), (14, .slice pa l.length ca), (15, .int .i64 (((l.length : Nat) : Int))), (16, .int .i64 (((x.1 : Nat) : Int))), (17, .bool ((decide ((((x.1 : Nat) : Int) : Int) < (((l.length : Nat) : Int) : Int))))), (22, .bool ((decide ((60 : Int) ≤ (((x.1 : Nat) : Int) : Int))))), (38, .int .i64 ((xget l x.1).kind)), (39, .bool ((((xget l x.1).kind : Int) == (0 : Int)))), (53, .bool ((((xget l x.1).kind : Int) == (2 : Int)))), (97, .bool true)]) ⟨rfl, rfl, rfl, rfl, rfl, rfl, rfl, rfl, rfl, rfl, rfl, rfl, rfl, rfl, rfl, rfl, rfl, rfl, trivial⟩ ?_)
                    refine WE.next ?_
                    refine WC.condT rfl rfl ?_
                    refine WC.seq ?_
                    refine WC.region ?_
                    refine WL.val (.bool false) rfl rfl rfl (fun za zC zh zk => wp_assign rfl (zh.ev rfl) zk) ?_
                    refine WL.nil (WE.sub (K' := [(0, .slice pa l.length ca), (2, .bool false), (3, .pointer (some ⟨gm, 0, none⟩)), (4, .pointer (some ⟨g3, 0, none⟩)), (5, .int .i64 (((x.1 : Nat) : Int))), (6, .pointer (some ⟨g29, 0, none⟩)), (7, .pointer (some ⟨g48, 0, none⟩)), (8, .pointer (some ⟨g49, 0, none⟩)), (9, .bool ((lOk (⟨(xget l x.1).a, (xget l x.1).p, (xget l x.1).q⟩ : Li) (⟨(xget l x.1).b, (xget l x.1).t, (xget l x.1).u⟩ : Li) ((((xget l x.1).kind : Int) == (2 : Int))) x.2))), (10, .bool ((lOk (⟨(xget l x.1).a, (xget l x.1).p, (xget l x.1).q⟩ : Li) (⟨(xget l x.1).b, (xget l x.1).t, (xget l x.1).u⟩ : Li) ((((xget l x.1).kind : Int) == (2 : Int))) x.2))), (14, .slice pa l.length ca), (15, .int .i64 (((l.length : Nat) : Int))), (16, .int .i64 (((x.1 : Nat) : Int))), (17, .bool ((decide ((((x.1 : Nat) : Int) : Int) < (((l.length : Nat) : Int) : Int))))), (22, .bool ((decide ((60 : Int) ≤ (((x.1 : Nat) : Int) : Int))))), (38, .int .i64 ((xget l x.1).kind)), (39, .bool ((((xget l x.1).kind : Int) == (0 : Int)))), (53, .bool ((((xget l x.1).kind : Int) == (2 : Int)))), (97, .bool true)]) ⟨rfl, rfl, rfl, rfl, rfl, rfl, rfl, rfl, rfl, rfl, rfl, rfl, rfl, rfl, rfl, rfl, rfl, rfl, rfl, trivial⟩ ?_)
                    refine WE.next ?_
                    refine WC.ret ?_
                    refine WE.blockRet ?_
                    refine WE.thenRet ?_
                    refine WE.thenRet ?_
                    refine WE.blockRet ?_
                    refine WE.thenRet ?_
                    refine WE.ret1 rfl rfl ?_
                    exfalso
                    first | (simp at h192; done)
                  · refine WL.sub (K' := [(0, .slice pa l.length ca), (3, .pointer (some ⟨gm, 0, none⟩)), (4, .pointer (some ⟨g3, 0, none⟩)), (5, .int .i64 (((x.1 : Nat) : Int))), (6, .pointer (some ⟨g29, 0, none⟩)), (7, .pointer (some ⟨g48, 0, none⟩)), (8, .pointer (some ⟨g49, 0, none⟩)), (9, .bool ((lOk (⟨(xget l x.1).a, (xget l x.1).p, (xget l x.1).q⟩ : Li) (⟨(xget l x.1).b, (xget l x.1).t, (xget l x.1).u⟩ : Li) ((((xget l x.1).kind : Int) == (2 : Int))) x.2))), (10, .bool ((lOk (⟨(xget l x.1).a, (xget l x.1).p, (xget l x.1).q⟩ : Li) (⟨(xget l x.1).b, (xget l x.1).t, (xget l x.1).u⟩ : Li) ((((xget l x.1).kind : Int) == (2 : Int))) x.2))), (14, .slice pa l.length ca), (15, .int .i64 (((l.length : Nat) : Int))), (16, .int .i64 (((x.1 : Nat) : Int))), (17, .bool ((decide ((((x.1 : Nat) : Int) : Int) < (((l.length : Nat) : Int) : Int))))), (22, .bool ((decide ((60 : Int) ≤ (((x.1 : Nat) : Int) : Int))))), (38, .int .i64 ((xget l x.1).kind)), (39, .bool ((((xget l x.1).kind : Int) == (0 : Int)))), (53, .bool ((((xget l x.1).kind : Int) == (2 : Int)))), (80, .bool ((lOk (⟨(xget l x.1).a, (xget l x.1).p, (xget l x.1).q⟩ : Li) (⟨(xget l x.1).b, (xget l x.1).t, (xget l x.1).u⟩ : Li) ((((xget l x.1).kind : Int) == (2 : Int))) x.2))), (81, .bool ((lOk (⟨(xget l x.1).a, (xget l x.1).p, (xget l x.1).q⟩ : Li) (⟨(xget l x.1).b, (xget l x.1).t, (xget l x.1).u⟩ : Li) ((((xget l x.1).kind : Int) == (2 : Int))) x.2))), (82, .bool (((lOk (⟨(xget l x.1).a, (xget l x.1).p, (xget l x.1).q⟩ : Li) (⟨(xget l x.1).b, (xget l x.1).t, (xget l x.1).u⟩ : Li) ((((xget l x.1).kind : Int) == (2 : Int))) x.2) != (lOk (⟨(xget l x.1).a, (xget l x.1).p, (xget l x.1).q⟩ : Li) (⟨(xget l x.1).b, (xget l x.1).t, (xget l x.1).u⟩ : Li) ((((xget l x.1).kind : Int) == (2 : Int))) x.2)))), (83, .bool false), (84, .pointer (some ⟨gm, 0, none⟩)), (85, .int .i64 ((((lTo (⟨(xget l x.1).a, (xget l x.1).p, (xget l x.1).q⟩ : Li) (⟨(xget l x.1).b, (xget l x.1).t, (xget l x.1).u⟩ : Li) ((((xget l x.1).kind : Int) == (2 : Int))) x.2).length : Nat) : Int))), (86, .pointer (some ⟨g3, 0, none⟩)), (87, .int .i64 ((((lTo (⟨(xget l x.1).a, (xget l x.1).p, (xget l x.1).q⟩ : Li) (⟨(xget l x.1).b, (xget l x.1).t, (xget l x.1).u⟩ : Li) ((((xget l x.1).kind : Int) == (2 : Int))) x.2).length : Nat) : Int))), (88, .bool ((((((lTo (⟨(xget l x.1).a, (xget l x.1).p, (xget l x.1).q⟩ : Li) (⟨(xget l x.1).b, (xget l x.1).t, (xget l x.1).u⟩ : Li) ((((xget l x.1).kind : Int) == (2 : Int))) x.2).length : Nat) : Int) : Int) != ((((lTo (⟨(xget l x.1).a, (xget l x.1).p, (xget l x.1).q⟩ : Li) (⟨(xget l x.1).b, (xget l x.1).t, (xget l x.1).u⟩ : Li) ((((xget l x.1).kind : Int) == (2 : Int))) x.2).length : Nat) : Int) : Int)))), (89, .bool ((((((lTo (⟨(xget l x.1).a, (xget l x.1).p, (xget l x.1).q⟩ : Li) (⟨(xget l x.1).b, (xget l x.1).t, (xget l x.1).u⟩ : Li) ((((xget l x.1).kind : Int) == (2 : Int))) x.2).length : Nat) : Int) : Int) != ((((lTo (⟨(xget l x.1).a, (xget l x.1).p, (xget l x.1).q⟩ : Li) (⟨(xget l x.1).b, (xget l x.1).t, (xget l x.1).u⟩ : Li) ((((xget l x.1).kind : Int) == (2 : Int))) x.2).length : Nat) : Int) : Int)))), (90, .bool false)]) ⟨rfl, rfl, rfl, rfl, rfl, rfl, rfl, rfl, rfl, rfl, rfl, rfl, rfl, rfl, rfl, rfl, rfl, rfl, rfl, rfl, rfl, rfl, rfl, rfl, rfl, rfl, rfl, (by exact congrArg (fun z => some (Value.bool z)) h192), trivial⟩ ?_
                    have h192 : ¬ (((((lTo (⟨(xget l x.1).a, (xget l x.1).p, (xget l x.1).q⟩ : Li) (⟨(xget l x.1).b, (xget l x.1).t, (xget l x.1).u⟩ : Li) ((((xget l x.1).kind : Int) == (2 : Int))) x.2).length : Nat) : Int) : Int) ≠ ((((lTo (⟨(xget l x.1).a, (xget l x.1).p, (xget l x.1).q⟩ : Li) (⟨(xget l x.1).b, (xget l x.1).t, (xget l x.1).u⟩ : Li) ((((xget l x.1).kind : Int) == (2 : Int))) x.2).length : Nat) : Int) : Int)) := by simpa using h192
                    refine WL.want (d := 90) rfl rfl rfl ?_
                    refine WL.val (.pointer (some ⟨gm, 0, none⟩)) rfl rfl rfl (fun za zC zh zk => wp_move rfl (zh.ev rfl) zk) ?_
                    refine WL.want (d := 90) rfl rfl rfl ?_
                    have ho193 := ho189.below hq190
                    have hz195 := (show (lTo (⟨(xget l x.1).a, (xget l x.1).p, (xget l x.1).q⟩ : Li) (⟨(xget l x.1).b, (xget l x.1).t, (xget l x.1).u⟩ : Li) ((((xget l x.1).kind : Int) == (2 : Int))) x.2).length ≤ x.2.length + (xget l x.1).p.size + (xget l x.1).q.size from lTo_len (⟨(xget l x.1).a, (xget l x.1).p, (xget l x.1).q⟩ : Li) (⟨(xget l x.1).b, (xget l x.1).t, (xget l x.1).u⟩ : Li) ((((xget l x.1).kind : Int) == (2 : Int))) x.2)
                    refine WL.call rfl rfl rfl (fun za zh zC => wp_call (by kernel_rfl) rfl (hv1 (zh.ev rfl))) (bsub_m ho193 (by omega)) ?_
                    rintro _ w196 ⟨⟨R1, p1, k1, rfl, hR1, hN1⟩, hb194⟩
                    refine WL.want (d := 90) rfl rfl rfl ?_
                    refine WL.val (.pointer (some ⟨g3, 0, none⟩)) rfl rfl rfl (fun za zC zh zk => wp_move rfl (zh.ev rfl) zk) ?_
                    refine WL.want (d := 90) rfl rfl rfl ?_
                    have ho197 := ho193.below hb194
                    have hz199 := (show (lTo (⟨(xget l x.1).a, (xget l x.1).p, (xget l x.1).q⟩ : Li) (⟨(xget l x.1).b, (xget l x.1).t, (xget l x.1).u⟩ : Li) ((((xget l x.1).kind : Int) == (2 : Int))) x.2).length ≤ x.2.length + (xget l x.1).p.size + (xget l x.1).q.size from lTo_len (⟨(xget l x.1).a, (xget l x.1).p, (xget l x.1).q⟩ : Li) (⟨(xget l x.1).b, (xget l x.1).t, (xget l x.1).u⟩ : Li) ((((xget l x.1).kind : Int) == (2 : Int))) x.2)
                    have hnd9 := ho197.nd
                    refine WL.call rfl rfl rfl (fun za zh zC => wp_call (by kernel_rfl) rfl (hv1 (zh.ev rfl))) (bsub_z ho197 hnd9 (by omega)) ?_
                    rintro _ w200 ⟨⟨R2, p2, k2, rfl, hR2, hN2⟩, hb198⟩
                    refine WL.want (d := 90) rfl rfl rfl ?_
                    refine WL.call rfl rfl rfl (fun za zh zC => wp_call (by kernel_rfl) rfl (hv2 (zh.ev rfl) (zh.ev rfl))) (rsubSame_yes R1 R2 _ p1 p2 k1 k2 (Nat.le_trans hN1.2.1 hN1.2.2) (hN1.isBs.below hb198) (hN2.isBs.below (Below.refl _ _)) (hR1.unique hR2)) ?_
                    rintro _ w202 ⟨rfl, hq201⟩
                    refine WL.want (d := 90) rfl rfl rfl ?_
                    refine WL.val (.bool false) rfl rfl rfl (fun za zC zh zk => wp_not rfl (zh.ev rfl) zk) ?_
                    refine WL.val (.bool false) rfl rfl rfl (fun za zC zh zk => wp_pickF rfl (zh.ev rfl) (zh.ev rfl) zk) ?_
                    refine WL.nil (WE.sub (K' := [(0, .slice pa l.length ca), (3, .pointer (some ⟨gm, 0, none⟩)), (4, .pointer (some ⟨g3, 0, none⟩)), (5, .int .i64 (((x.1 : Nat) : Int))), (6, .pointer (some ⟨g29, 0, none⟩)), (7, .pointer (some ⟨g48, 0, none⟩)), (8, .pointer (some ⟨g49, 0, none⟩)), (9, .bool ((lOk (⟨(xget l x.1).a, (xget l x.1).p, (xget l x.1).q⟩ : Li) (⟨(xget l x.1).b, (xget l x.1).t, (xget l x.1).u⟩ : Li) ((((xget l x.1).kind : Int) == (2 : Int))) x.2))), (10, .bool ((lOk (⟨(xget l x.1).a, (xget l x.1).p, (xget l x.1).q⟩ : Li) (⟨(xget l x.1).b, (xget l x.1).t, (xget l x.1).u⟩ : Li) ((((xget l x.1).kind : Int) == (2 : Int))) x.2))), (14, .slice pa l.length ca), (15, .int .i64 (((l.length : Nat) : Int))), (16, .int .i64 (((x.1 : Nat) : Int))), (17, .bool ((decide ((((x.1 : Nat) : Int) : Int) < (((l.length : Nat) : Int) : Int))))), (22, .bool ((decide ((60 : Int) ≤ (((x.1 : Nat) : Int) : Int))))), (38, .int .i64 ((xget l x.1).kind)), (39, .bool ((((xget l x.1).kind : Int) == (0 : Int)))), (53, .bool ((((xget l x.1).kind : Int) == (2 : Int)))), (97, .bool false)]) ⟨rfl, rfl, rfl, rfl, rfl, rfl, rfl, rfl, rfl, rfl, rfl, rfl, rfl, rfl, rfl, rfl, rfl, rfl, trivial⟩ ?_)
                    refine WE.next ?_
                    refine WC.condF rfl rfl ?_
                    refine WC.skip ?_
                    refine WE.blockNormal ?_
                    refine WE.next ?_
                    refine WC.region ?_
                    refine WL.val (.int .i64 ((((x.1 + 1) : Nat) : Int))) rfl rfl rfl (fun za zC zh zk => addb_3 rfl (zh.ev rfl) (zh.ev rfl) (wrap_eq (by omega) (by omega) (by omega)) zk) ?_
                    refine WL.val (.int .i64 ((((x.1 + 1) : Nat) : Int))) rfl rfl rfl (fun za zC zh zk => wp_move rfl (zh.ev rfl) zk) ?_
                    refine WL.nil (WE.sub (K' := [(0, .slice pa l.length ca), (3, .pointer (some ⟨gm, 0, none⟩)), (4, .pointer (some ⟨g3, 0, none⟩)), (5, .int .i64 (((x.1 : Nat) : Int))), (6, .pointer (some ⟨g29, 0, none⟩)), (7, .pointer (some ⟨g48, 0, none⟩)), (8, .pointer (some ⟨g49, 0, none⟩)), (9, .bool ((lOk (⟨(xget l x.1).a, (xget l x.1).p, (xget l x.1).q⟩ : Li) (⟨(xget l x.1).b, (xget l x.1).t, (xget l x.1).u⟩ : Li) ((((xget l x.1).kind : Int) == (2 : Int))) x.2))), (10, .bool ((lOk (⟨(xget l x.1).a, (xget l x.1).p, (xget l x.1).q⟩ : Li) (⟨(xget l x.1).b, (xget l x.1).t, (xget l x.1).u⟩ : Li) ((((xget l x.1).kind : Int) == (2 : Int))) x.2))), (14, .slice pa l.length ca), (15, .int .i64 (((l.length : Nat) : Int))), (16, .int .i64 ((((x.1 + 1) : Nat) : Int))), (17, .bool ((decide ((((x.1 : Nat) : Int) : Int) < (((l.length : Nat) : Int) : Int))))), (22, .bool ((decide ((60 : Int) ≤ (((x.1 : Nat) : Int) : Int))))), (38, .int .i64 ((xget l x.1).kind)), (39, .bool ((((xget l x.1).kind : Int) == (0 : Int)))), (53, .bool ((((xget l x.1).kind : Int) == (2 : Int)))), (97, .bool false)]) ⟨rfl, rfl, rfl, rfl, rfl, rfl, rfl, rfl, rfl, rfl, rfl, rfl, rfl, rfl, rfl, rfl, rfl, rfl, trivial⟩ ?_)
                    refine WE.round ((x.1 + 1, (lTo (⟨(xget l x.1).a, (xget l x.1).p, (xget l x.1).q⟩ : Li) (⟨(xget l x.1).b, (xget l x.1).t, (xget l x.1).u⟩ : Li) ((((xget l x.1).kind : Int) == (2 : Int))) x.2))) ⟨rfl, rfl, rfl, rfl, rfl, rfl, trivial⟩ ?_ ?_
                    · have hb203 : Below w.heap.size w w202 := (bstep (bstep (bstep (bstep (bstep hb182 hq187) hq190) hb194) hb198) hq201)
                      have hb205 : Below w196.heap.size w196 w202 := (bstep hb198 hq201)
                      have ho204 := ho197.below hb205
                      exact ⟨by (try dsimp only); omega, by (try dsimp only); have z := (show (lTo (⟨(xget l x.1).a, (xget l x.1).p, (xget l x.1).q⟩ : Li) (⟨(xget l x.1).b, (xget l x.1).t, (xget l x.1).u⟩ : Li) ((((xget l x.1).kind : Int) == (2 : Int))) x.2).length ≤ x.2.length + (xget l x.1).p.size + (xget l x.1).q.size from lTo_len (⟨(xget l x.1).a, (xget l x.1).p, (xget l x.1).q⟩ : Li) (⟨(xget l x.1).b, (xget l x.1).t, (xget l x.1).u⟩ : Li) ((((xget l x.1).kind : Int) == (2 : Int))) x.2); omega, hb203, (Both.mono ho204 (fun b q _ => q.1))⟩
                    · (try dsimp only); omega
              · have h160 : ¬ (((xget l x.1).kind : Int) = (2 : Int)) := by simpa using h160
                refine WC.seq ?_
                refine WC.region ?_
                refine WL.val (.bool ((((xget l x.1).kind : Int) == (4 : Int)))) rfl rfl rfl (fun za zC zh zk => eql_3 rfl (zh.ev rfl) (zh.ev rfl) zk) ?_
                refine WL.val (.bool ((((xget l x.1).kind : Int) == (4 : Int)))) rfl rfl rfl (fun za zC zh zk => wp_assign rfl (zh.ev rfl) zk) ?_
                refine WL.nil (WE.sub (K' := [(0, .slice pa l.length ca), (3, .pointer (some ⟨gm, 0, none⟩)), (4, .pointer (some ⟨g3, 0, none⟩)), (5, .int .i64 (((x.1 : Nat) : Int))), (6, .pointer (some ⟨g29, 0, none⟩)), (7, .pointer (some ⟨g48, 0, none⟩)), (8, .pointer (some ⟨g49, 0, none⟩)), (9, .bool true), (10, .bool true), (14, .slice pa l.length ca), (15, .int .i64 (((l.length : Nat) : Int))), (16, .int .i64 (((x.1 : Nat) : Int))), (17, .bool ((decide ((((x.1 : Nat) : Int) : Int) < (((l.length : Nat) : Int) : Int))))), (22, .bool ((decide ((60 : Int) ≤ (((x.1 : Nat) : Int) : Int))))), (38, .int .i64 ((xget l x.1).kind)), (39, .bool ((((xget l x.1).kind : Int) == (0 : Int)))), (53, .bool ((((xget l x.1).kind : Int) == (2 : Int)))), (70, .bool ((((xget l x.1).kind : Int) == (4 : Int))))]) ⟨rfl, rfl, rfl, rfl, rfl, rfl, rfl, rfl, rfl, rfl, rfl, rfl, rfl, rfl, rfl, rfl, rfl, rfl, trivial⟩ ?_)
                refine WE.next ?_
                refine WC.cond rfl (fun h206 => ?_) (fun h206 => ?_)
                · have h206 : ((xget l x.1).kind : Int) = (4 : Int) := by simpa using h206
                  refine WC.seq ?_
                  refine WC.region ?_
                  refine WL.val (.pointer (some ⟨gm, 0, none⟩)) rfl rfl rfl (fun za zC zh zk => wp_move rfl (zh.ev rfl) zk) ?_
                  refine WL.val (.pointer (some ⟨g29, 11, none⟩)) rfl rfl rfl (fun za zC zh zk => fld_39_7 rfl (zh.ev rfl) zk) ?_
                  refine WL.val (.int .i64 ((xget l x.1).n)) rfl rfl rfl (fun za zC zh zk => ld_3 rfl (zh.ev rfl) ((hB67.cell 11).trans rfl) zk) ?_
                  have hl207 : g29 < w47.heap.size := hB67.lt
                  have hl208 : g48 < w47.heap.size := hB54.lt
                  have hl209 : g49 < w47.heap.size := hB55.lt
                  have hw210 : w.heap.size ≤ w47.heap.size := (Nat.le_trans hb41.size hb50.size)
                  have hb211 : Below w.heap.size w w47 := (bstep hb41 hb50)
                  have hb213 : Below w11.heap.size w11 w47 := (bstep hb42 hb50)
                  have ho212 := hBr.below hb213
                  refine WL.call rfl rfl rfl (fun za zh zC => wp_call (by kernel_rfl) rfl (hv2 (zh.ev rfl) (zh.ev rfl))) (bback_m ((xget l x.1).n) ho212 (fun b q => by (try dsimp only at *); omega)) ?_
                  rintro v216 w217 ⟨hq214, hc215⟩
                  have hb218 := chg_below hb211 hc215 (fun b hb => (fun h => by (try dsimp only at *); omega))
                  have hB219 := chg_blk hB67 hc215 (fun h => by (try dsimp only at *); omega)
                  have hB220 := chg_blk hB54 hc215 (fun h => by (try dsimp only at *); omega)
                  have hB221 := chg_blk hB55 hc215 (fun h => by (try dsimp only at *); omega)
                  refine WL.nil (WE.sub (K' := [(0, .slice pa l.length ca), (3, .pointer (some ⟨gm, 0, none⟩)), (4, .pointer (some ⟨g3, 0, none⟩)), (5, .int .i64 (((x.1 : Nat) : Int))), (6, .pointer (some ⟨g29, 0, none⟩)), (7, .pointer (some ⟨g48, 0, none⟩)), (8, .pointer (some ⟨g49, 0, none⟩)), (9, .bool true), (10, .bool true), (14, .slice pa l.length ca), (15, .int .i64 (((l.length : Nat) : Int))), (16, .int .i64 (((x.1 : Nat) : Int))), (17, .bool ((decide ((((x.1 : Nat) : Int) : Int) < (((l.length : Nat) : Int) : Int))))), (22, .bool ((decide ((60 : Int) ≤ (((x.1 : Nat) : Int) : Int))))), (38, .int .i64 ((xget l x.1).kind)), (39, .bool ((((xget l x.1).kind : Int) == (0 : Int)))), (53, .bool ((((xget l x.1).kind : Int) == (2 : Int)))), (70, .bool ((((xget l x.1).kind : Int) == (4 : Int))))]) ⟨rfl, rfl, rfl, rfl, rfl, rfl, rfl, rfl, rfl, rfl, rfl, rfl, rfl, rfl, rfl, rfl, rfl, rfl, trivial⟩ ?_)
                  refine WE.next ?_
                  refine WC.region ?_
                  refine WL.val (.pointer (some ⟨g3, 0, none⟩)) rfl rfl rfl (fun za zC zh zk => wp_move rfl (zh.ev rfl) zk) ?_
                  refine WL.val (.pointer (some ⟨g29, 11, none⟩)) rfl rfl rfl (fun za zC zh zk => fld_39_7 rfl (zh.ev rfl) zk) ?_
                  refine WL.val (.int .i64 ((xget l x.1).n)) rfl rfl rfl (fun za zC zh zk => ld_3 rfl (zh.ev rfl) ((hB219.cell 11).trans rfl) zk) ?_
                  have hl222 : g29 < w217.heap.size := hB219.lt
                  have hl223 : g48 < w217.heap.size := hB220.lt
                  have hl224 : g49 < w217.heap.size := hB221.lt
                  have hw225 : w.heap.size ≤ w217.heap.size := hb218.size
                  refine WL.call rfl rfl rfl (fun za zh zC => wp_call (by kernel_rfl) rfl (hv2 (zh.ev rfl) (zh.ev rfl))) (bback_z ((xget l x.1).n) hq214 (fun b q => by (try dsimp only at *); omega)) ?_
                  rintro v228 w229 ⟨hq226, hc227⟩
                  have hb230 := chg_below hb218 hc227 (fun b hb => (fun h => by (try dsimp only at *); omega))
                  have hB231 := chg_blk hB219 hc227 (fun h => by (try dsimp only at *); omega)
                  have hB232 := chg_blk hB220 hc227 (fun h => by (try dsimp only at *); omega)
                  have hB233 := chg_blk hB221 hc227 (fun h => by (try dsimp only at *); omega)
                  refine WL.nil (WE.sub (K' := [(0, .slice pa l.length ca), (3, .pointer (some ⟨gm, 0, none⟩)), (4, .pointer (some ⟨g3, 0, none⟩)), (5, .int .i64 (((x.1 : Nat) : Int))), (6, .pointer (some ⟨g29, 0, none⟩)), (7, .pointer (some ⟨g48, 0, none⟩)), (8, .pointer (some ⟨g49, 0, none⟩)), (9, .bool true), (10, .bool true), (14, .slice pa l.length ca), (15, .int .i64 (((l.length : Nat) : Int))), (16, .int .i64 (((x.1 : Nat) : Int))), (17, .bool ((decide ((((x.1 : Nat) : Int) : Int) < (((l.length : Nat) : Int) : Int))))), (22, .bool ((decide ((60 : Int) ≤ (((x.1 : Nat) : Int) : Int))))), (38, .int .i64 ((xget l x.1).kind)), (39, .bool ((((xget l x.1).kind : Int) == (0 : Int)))), (53, .bool ((((xget l x.1).kind : Int) == (2 : Int)))), (70, .bool ((((xget l x.1).kind : Int) == (4 : Int))))]) ⟨rfl, rfl, rfl, rfl, rfl, rfl, rfl, rfl, rfl, rfl, rfl, rfl, rfl, rfl, rfl, rfl, rfl, rfl, trivial⟩ ?_)
                  refine WE.blockNormal ?_
                  refine WE.next ?_
                  refine WC.seq ?_
                  refine WC.region ?_
                  refine WL.val (.bool true) rfl rfl rfl (fun za zC zh zk => wp_move rfl (zh.ev rfl) zk) ?_
                  refine WL.val (.bool true) rfl rfl rfl (fun za zC zh zk => wp_move rfl (zh.ev rfl) zk) ?_
                  refine WL.val (.bool ((true != true))) rfl rfl rfl (fun za zC zh zk => neq_4 rfl (zh.ev rfl) (zh.ev rfl) zk) ?_
                  refine WL.val (.bool ((true != true))) rfl rfl rfl (fun za zC zh zk => wp_move rfl (zh.ev rfl) zk) ?_
                  refine bool_split ((true != true)) (fun h234 => ?_) (fun h234 => ?_)
                  · refine WL.sub (K' := [(0, .slice pa l.length ca), (3, .pointer (some ⟨gm, 0, none⟩)), (4, .pointer (some ⟨g3, 0, none⟩)), (5, .int .i64 (((x.1 : Nat) : Int))), (6, .pointer (some ⟨g29, 0, none⟩)), (7, .pointer (some ⟨g48, 0, none⟩)), (8, .pointer (some ⟨g49, 0, none⟩)), (9, .bool true), (10, .bool true), (14, .slice pa l.length ca), (15, .int .i64 (((l.length : Nat) : Int))), (16, .int .i64 (((x.1 : Nat) : Int))), (17, .bool ((decide ((((x.1 : Nat) : Int) : Int) < (((l.length : Nat) : Int) : Int))))), (22, .bool ((decide ((60 : Int) ≤ (((x.1 : Nat) : Int) : Int))))), (38, .int .i64 ((xget l x.1).kind)), (39, .bool ((((xget l x.1).kind : Int) == (0 : Int)))), (53, .bool ((((xget l x.1).kind : Int) == (2 : Int)))), (70, .bool ((((xget l x.1).kind : Int) == (4 : Int)))), (80, .bool true), (81, .bool true), (82, .bool ((true != true))), (83, .bool true)]) ⟨rfl, rfl, rfl, rfl, rfl, rfl, rfl, rfl, rfl, rfl, rfl, rfl, rfl, rfl, rfl, rfl, rfl, rfl, rfl, rfl, rfl, (by exact congrArg (fun z => some (Value.bool z)) h234), trivial⟩ ?_
                    have h234 : true ≠ true := by simpa using h234
                    refine WL.skip (d := 83) rfl rfl rfl rfl rfl ?_
                    refine WL.skip (d := 83) rfl rfl rfl rfl rfl ?_
                    refine WL.skip (d := 83) rfl rfl rfl rfl rfl ?_
                    refine WL.skip (d := 83) rfl rfl rfl rfl rfl ?_
                    refine WL.skip (d := 83) rfl rfl rfl rfl rfl ?_
                    refine WL.val (.bool true) rfl rfl rfl (fun za zC zh zk => wp_pickT rfl (zh.ev rfl) (zh.ev rfl) zk) ?_
                    refine WL.val (.bool true) rfl rfl rfl (fun za zC zh zk => wp_move rfl (zh.ev rfl) zk) ?_
                    refine WL.skip (d := 90) rfl rfl rfl rfl rfl ?_
                    refine WL.skip (d := 90) rfl rfl rfl rfl rfl ?_
                    refine WL.skip (d := 90) rfl rfl rfl rfl rfl ?_
                    refine WL.skip (d := 90) rfl rfl rfl rfl rfl ?_
                    refine WL.skip (d := 90) rfl rfl rfl rfl rfl ?_
                    refine WL.skip (d := 90) rfl rfl rfl rfl rfl ?_
                    refine WL.val (.bool true) rfl rfl rfl (fun za zC zh zk => wp_pickT rfl (zh.ev rfl) (zh.ev rfl) zk) ?_
                    refine WL.nil (WE.sub (K' := [(0, .slice pa l.length ca), (3, .pointer (some ⟨gm, 0, none⟩)), (4, .pointer (some ⟨g3, 0, none⟩)), (5, .int .i64 (((x.1 : Nat) : Int))), (6, .pointer (some ⟨g29, 0, none⟩)), (7, .pointer (some ⟨g48, 0, none⟩)), (8, .pointer (some ⟨g49, 0, none⟩)), (9, .bool true), (10, .bool true), (14, .slice pa l.length ca), (15, .int .i64 (((l.length : Nat) : Int))), (16, .int .i64 (((x.1 : Nat) : Int))), (17, .bool ((decide ((((x.1 : Nat) : Int) : Int) < (((l.length : Nat) : Int) : Int))))), (22, .bool ((decide ((60 : Int) ≤ (((x.1 : Nat) : Int) : Int))))), (38, .int .i64 ((xget l x.1).kind)), (39, .bool ((((xget l x.1).kind : Int) == (0 : Int)))), (53, .bool ((((xget l x.1).kind : Int) == (2 : Int)))), (70, .bool ((((xget l x.1).kind : Int) == (4 : Int)))), (97, .bool true)]) ⟨rfl, rfl, rfl, rfl, rfl, rfl, rfl, rfl, rfl, rfl, rfl, rfl, rfl, rfl, rfl, rfl, rfl, rfl, rfl, trivial⟩ ?_)
                    refine WE.next ?_
                    refine WC.condT rfl rfl ?_
                    refine WC.seq ?_
                    refine WC.region ?_
                    refine WL.val (.bool false) rfl rfl rfl (fun za zC zh zk => wp_assign rfl (zh.ev rfl) zk) ?_
                    refine WL.nil (WE.sub (K' := [(0, .slice pa l.length ca), (2, .bool false), (3, .pointer (some ⟨gm, 0, none⟩)), (4, .pointer (some ⟨g3, 0, none⟩)), (5, .int .i64 (((x.1 : Nat) : Int))), (6, .pointer (some ⟨g29, 0, none⟩)), (7, .pointer (some ⟨g48, 0, none⟩)), (8, .pointer (some ⟨g49, 0, none⟩)), (9, .bool true), (10, .bool true), (14, .slice pa l.length ca), (15, .int .i64 (((l.length : Nat) : Int))), (16, .int .i64 (((x.1 : Nat) : Int))), (17, .bool ((decide ((((x.1 : Nat) : Int) : Int) < (((l.length : Nat) : Int) : Int))))), (22, .bool ((decide ((60 : Int) ≤ (((x.1 : Nat) : Int) : Int))))), (38, .int .i64 ((xget l x.1).kind)), (39, .bool ((((xget l x.1).kind : Int) == (0 : Int)))), (53, .bool ((((xget l x.1).kind : Int) == (2 : Int)))), (70, .bool ((((xget l x.1).kind : Int) == (4 : Int)))), (97, .bool true)]) ⟨rfl, rfl, rfl, rfl, rfl, rfl, rfl, rfl, rfl, rfl, rfl, rfl, rfl, rfl, rfl, rfl, rfl, rfl, rfl, rfl, trivial⟩ ?_)
                    refine WE.next ?_
                    refine WC.ret ?_
                    refine WE.blockRet ?_
                    refine WE.thenRet ?_
                    refine WE.thenRet ?_
                    refine WE.blockRet ?_
                    refine WE.thenRet ?_
                    refine WE.ret1 rfl rfl ?_
                    exfalso
                    first | (simp at h234; done)
                  · refine WL.sub (K' := [(0, .slice pa l.length ca), (3, .pointer (some ⟨gm, 0, none⟩)), (4, .pointer (some ⟨g3, 0, none⟩)), (5, .int .i64 (((x.1 : Nat) : Int))), (6, .pointer (some ⟨g29, 0, none⟩)), (7, .pointer (some ⟨g48, 0, none⟩)), (8, .pointer (some ⟨g49, 0, none⟩)), (9, .bool true), (10, .bool true), (14, .slice pa l.length ca), (15, .int .i64 (((l.length : Nat) : Int))), (16, .int .i64 (((x.1 : Nat) : Int))), (17, .bool ((decide ((((x.1 : Nat) : Int) : Int) < (((l.length : Nat) : Int) : Int))))), (22, .bool ((decide ((60 : Int) ≤ (((x.1 : Nat) : Int) : Int))))), (38, .int .i64 ((xget l x.1).kind)), (39, .bool ((((xget l x.1).kind : Int) == (0 : Int)))), (53, .bool ((((xget l x.1).kind : Int) == (2 : Int)))), (70, .bool ((((xget l x.1).kind : Int) == (4 : Int)))), (80, .bool true), (81, .bool true), (82, .bool ((true != true))), (83, .bool false)]) ⟨rfl, rfl, rfl, rfl, rfl, rfl, rfl, rfl, rfl, rfl, rfl, rfl, rfl, rfl, rfl, rfl, rfl, rfl, rfl, rfl, rfl, (by exact congrArg (fun z => some (Value.bool z)) h234), trivial⟩ ?_
                    have h234 : ¬ (true ≠ true) := by simpa using h234
                    refine WL.want (d := 83) rfl rfl rfl ?_
                    refine WL.val (.pointer (some ⟨gm, 0, none⟩)) rfl rfl rfl (fun za zC zh zk => wp_move rfl (zh.ev rfl) zk) ?_
                    refine WL.want (d := 83) rfl rfl rfl ?_
                    refine WL.call rfl rfl rfl (fun za zh zC => wp_call (by kernel_rfl) rfl (hv1 (zh.ev rfl))) (bmark_m hq226) ?_
                    rintro _ w236 ⟨rfl, hq235⟩
                    refine WL.want (d := 83) rfl rfl rfl ?_
                    refine WL.val (.pointer (some ⟨g3, 0, none⟩)) rfl rfl rfl (fun za zC zh zk => wp_move rfl (zh.ev rfl) zk) ?_
                    refine WL.want (d := 83) rfl rfl rfl ?_
                    have ho237 := hq226.below hq235
                    refine WL.call rfl rfl rfl (fun za zh zC => wp_call (by kernel_rfl) rfl (hv1 (zh.ev rfl))) (bmark_z ho237) ?_
                    rintro _ w239 ⟨rfl, hq238⟩
                    refine WL.want (d := 83) rfl rfl rfl ?_
                    refine WL.val (.bool ((((((backTo x.2 ((xget l x.1).n)).length : Nat) : Int) : Int) != ((((backTo x.2 ((xget l x.1).n)).length : Nat) : Int) : Int)))) rfl rfl rfl (fun za zC zh zk => neq_3 rfl (zh.ev rfl) (zh.ev rfl) zk) ?_
                    refine WL.val (.bool ((((((backTo x.2 ((xget l x.1).n)).length : Nat) : Int) : Int) != ((((backTo x.2 ((xget l x.1).n)).length : Nat) : Int) : Int)))) rfl rfl rfl (fun za zC zh zk => wp_pickF rfl (zh.ev rfl) (zh.ev rfl) zk) ?_
                    refine WL.val (.bool ((((((backTo x.2 ((xget l x.1).n)).length : Nat) : Int) : Int) != ((((backTo x.2 ((xget l x.1).n)).length : Nat) : Int) : Int)))) rfl rfl rfl (fun za zC zh zk => wp_move rfl (zh.ev rfl) zk) ?_
                    refine bool_split ((((((backTo x.2 ((xget l x.1).n)).length : Nat) : Int) : Int) != ((((backTo x.2 ((xget l x.1).n)).length : Nat) : Int) : Int))) (fun h240 => ?_) (fun h240 => ?_)
                    · refine WL.sub (K' := [(0, .slice pa l.length ca), (3, .pointer (some ⟨gm, 0, none⟩)), (4, .pointer (some ⟨g3, 0, none⟩)), (5, .int .i64 (((x.1 : Nat) : Int))), (6, .pointer (some ⟨g29, 0, none⟩)), (7, .pointer (some ⟨g48, 0, none⟩)), (8, .pointer (some ⟨g49, 0, none⟩)), (9, .bool true), (10, .bool true), (14, .slice pa l.length ca), (15, .int .i64 (((l.length : Nat) : Int))), (16, .int .i64 (((x.1 : Nat) : Int))), (17, .bool ((decide ((((x.1 : Nat) : Int) : Int) < (((l.length : Nat) : Int) : Int))))), (22, .bool ((decide ((60 : Int) ≤ (((x.1 : Nat) : Int) : Int))))), (38, .int .i64 ((xget l x.1).kind)), (39, .bool ((((xget l x.1).kind : Int) == (0 : Int)))), (53, .bool ((((xget l x.1).kind : Int) == (2 : Int)))), (70, .bool ((((xget l x.1).kind : Int) == (4 : Int)))), (80, .bool true), (81, .bool true), (82, .bool ((true != true))), (83, .bool false), (84, .pointer (some ⟨gm, 0, none⟩)), (85, .int .i64 ((((backTo x.2 ((xget l x.1).n)).length : Nat) : Int))), (86, .pointer (some ⟨g3, 0, none⟩)), (87, .int .i64 ((((backTo x.2 ((xget l x.1).n)).length : Nat) : Int))), (88, .bool ((((((backTo x.2 ((xget l x.1).n)).length : Nat) : Int) : Int) != ((((backTo x.2 ((xget l x.1).n)).length : Nat) : Int) : Int)))), (89, .bool ((((((backTo x.2 ((xget l x.1).n)).length : Nat) : Int) : Int) != ((((backTo x.2 ((xget l x.1).n)).length : Nat) : Int) : Int)))), (90, .bool true)]) ⟨rfl, rfl, rfl, rfl, rfl, rfl, rfl, rfl, rfl, rfl, rfl, rfl, rfl, rfl, rfl, rfl, rfl, rfl, rfl, rfl, rfl, rfl, rfl, rfl, rfl, rfl, rfl, rfl, (by exact congrArg (fun z => some (Value.bool z)) h240), trivial⟩ ?_
                      have h240 : ((((backTo x.2 ((xget l x.1).n)).length : Nat) : Int) : Int) ≠ ((((backTo x.2 ((xget l x.1).n)).length : Nat) : Int) : Int) := by simpa using h240
                      refine WL.skip (d := 90) rfl rfl rfl rfl rfl ?_
                      refine WL.skip (d := 90) rfl rfl rfl rfl rfl ?_
                      refine WL.skip (d := 90) rfl rfl rfl rfl rfl ?_
                      refine WL.skip (d := 90) rfl rfl rfl rfl rfl ?_
                      refine WL.skip (d := 90) rfl rfl rfl rfl rfl ?_
                      refine WL.skip (d := 90) rfl rfl rfl rfl rfl ?_
                      refine WL.val (.bool true) rfl rfl rfl (fun za zC zh zk => wp_pickT rfl (zh.ev rfl) (zh.ev rfl) zk) ?_
                      refine WL.nil (WE.sub (K' := [(0, .slice pa l.length ca), (3, .pointer (some ⟨gm, 0, none⟩)), (4, .pointer (some ⟨g3, 0, none⟩)), (5, .int .i64 (((x.1 : Nat) : Int))), (6, .pointer (some ⟨g29, 0, none⟩)), (7, .pointer (some ⟨g48, 0, none⟩)), (8, .pointer (some ⟨g49, 0, none⟩)), (9, .bool true), (10, .bool true), (14, .slice pa l.length ca), (15, .int .i64 (((l.length : Nat) : Int))), (16, .int .i64 (((x.1 : Nat) : Int))), (17, .bool ((decide ((((x.1 : Nat) : Int) : Int) < (((l.length : Nat) : Int) : Int))))), (22, .bool ((decide ((60 : Int) ≤ (((x.1 : Nat) : Int) : Int))))), (38, .int .i64 ((xget l x.1).kind)), (39, .bool ((((xget l x.1).kind : Int) == (0 : Int)))), (53, .bool ((((xget l x.1).kind : Int) == (2 : Int)))), (70, .bool ((((xget l x.1).kind : Int) == (4 : Int)))), (97, .bool true)]) ⟨rfl, rfl, rfl, rfl, rfl, rfl, rfl, rfl, rfl, rfl, rfl, rfl, rfl, rfl, rfl, rfl, rfl, rfl, rfl, trivial⟩ ?_)
                      refine WE.next ?_
                      refine WC.condT rfl rfl ?_
                      refine WC.seq ?_
                      refine WC.region ?_
                      refine WL.val (.bool false) rfl rfl rfl (fun za zC zh zk => wp_assign rfl (zh.ev rfl) zk) ?_
                      refine WL.nil (WE.sub (K' := [(0, .slice pa l.length ca), (2, .bool false), (3, .pointer (some ⟨gm, 0, none⟩)), (4, .pointer (some ⟨g3, 0, none⟩)), (5, .int .i64 (((x.1 : Nat) : Int))), (6, .pointer (some ⟨g29, 0, none⟩)), (7, .pointer (some ⟨g48, 0, none⟩)), (8, .pointer (some ⟨g49, 0, none⟩)), (9, .bool true), (10, .bool true), (14, .slice pa l.length ca), (15, .int .i64 (((l.length : Nat) : Int))), (16, .int .i64 (((x.1 : Nat) : Int))), (17, .bool ((decide ((((x.1 : Nat) : Int) : Int) < (((l.length : Nat) : Int) : Int))))), (22, .bool ((decide ((60 : Int) ≤ (((x.1 : Nat) : Int) : Int))))), (38, .int .i64 ((xget l x.1).kind)), (39, .bool ((((xget l x.1).kind : Int) == (0 : Int)))), (53, .bool ((((xget l x.1).kind : Int) == (2 : Int)))), (70, .bool ((((xget l x.1).kind : Int) == (4 : Int)))), (97, .bool true)]) ⟨rfl, rfl, rfl, rfl, rfl, rfl, rfl, rfl, rfl, rfl, rfl, rfl, rfl, rfl, rfl, rfl, rfl, rfl, rfl, rfl, trivial⟩ ?_)
                      refine WE.next ?_
                      refine WC.ret ?_
                      refine WE.blockRet ?_
                      refine WE.thenRet ?_
                      refine WE.thenRet ?_
                      refine WE.blockRet ?_
                      refine WE.thenRet ?_
                      refine WE.ret1 rfl rfl ?_
                      exfalso
                      first | (simp at h240; done)
                    · refine WL.sub (K' := [(0, .slice pa l.length ca), (3, .pointer (some ⟨gm, 0, none⟩)), (4, .pointer (some ⟨g3, 0, none⟩)), (5, .int .i64 (((x.1 : Nat) : Int))), (6, .pointer (some ⟨g29, 0, none⟩)), (7, .pointer (some ⟨g48, 0, none⟩)), (8, .pointer (some ⟨g49, 0, none⟩)), (9, .bool true), (10, .bool true), (14, .slice pa l.length ca), (15, .int .i64 (((l.length : Nat) : Int))), (16, .int .i64 (((x.1 : Nat) : Int))), (17, .bool ((decide ((((x.1 : Nat) : Int) : Int) < (((l.length : Nat) : Int) : Int))))), (22, .bool ((decide ((60 : Int) ≤ (((x.1 : Nat) : Int) : Int))))), (38, .int .i64 ((xget l x.1).kind)), (39, .bool ((((xget l x.1).kind : Int) == (0 : Int)))), (53, .bool ((((xget l x.1).kind : Int) == (2 : Int)))), (70, .bool ((((xget l x.1).kind : Int) == (4 : Int)))), (80, .bool true), (81, .bool true), (82, .bool ((true != true))), (83, .bool false), (84, .pointer (some ⟨gm, 0, none⟩)), (85, .int .i64 ((((backTo x.2 ((xget l x.1).n)).length : Nat) : Int))), (86, .pointer (some ⟨g3, 0, none⟩)), (87, .int .i64 ((((backTo x.2 ((xget l x.1).n)).length : Nat) : Int))), (88, .bool ((((((backTo x.2 ((xget l x.1).n)).length : Nat) : Int) : Int) != ((((backTo x.2 ((xget l x.1).n)).length : Nat) : Int) : Int)))), (89, .bool ((((((backTo x.2 ((xget l x.1).n)).length : Nat) : Int) : Int) != ((((backTo x.2 ((xget l x.1).n)).length : Nat) : Int) : Int)))), (90, .bool false)]) ⟨rfl, rfl, rfl, rfl, rfl, rfl, rfl, rfl, rfl, rfl, rfl, rfl, rfl, rfl, rfl, rfl, rfl, rfl, rfl, rfl, rfl, rfl, rfl, rfl, rfl, rfl, rfl, rfl, (by exact congrArg (fun z => some (Value.bool z)) h240), trivial⟩ ?_
                      have h240 : ¬ (((((backTo x.2 ((xget l x.1).n)).length : Nat) : Int) : Int) ≠ ((((backTo x.2 ((xget l x.1).n)).length : Nat) : Int) : Int)) := by simpa using h240
                      refine WL.want (d := 90) rfl rfl rfl ?_
                      refine WL.val (.pointer (some ⟨gm, 0, none⟩)) rfl rfl rfl (fun za zC zh zk => wp_move rfl (zh.ev rfl) zk) ?_
                      refine WL.want (d := 90) rfl rfl rfl ?_
                      have ho241 := ho237.below hq238
                      have hz243 := backTo_len ((xget l x.1).n) x.2
                      refine WL.call rfl rfl rfl (fun za zh zC => wp_call (by kernel_rfl) rfl (hv1 (zh.ev rfl))) (bsub_m ho241 (by omega)) ?_
                      rintro _ w244 ⟨⟨R1, p1, k1, rfl, hR1, hN1⟩, hb242⟩
                      refine WL.want (d := 90) rfl rfl rfl ?_
                      refine WL.val (.pointer (some ⟨g3, 0, none⟩)) rfl rfl rfl (fun za zC zh zk => wp_move rfl (zh.ev rfl) zk) ?_
                      refine WL.want (d := 90) rfl rfl rfl ?_
                      have ho245 := ho241.below hb242
                      have hz247 := backTo_len ((xget l x.1).n) x.2
                      have hnd9 := ho245.nd
                      refine WL.call rfl rfl rfl (fun za zh zC => wp_call (by kernel_rfl) rfl (hv1 (zh.ev rfl))) (bsub_z ho245 hnd9 (by omega)) ?_
                      rintro _ w248 ⟨⟨R2, p2, k2, rfl, hR2, hN2⟩, hb246⟩
                      refine WL.want (d := 90) rfl rfl rfl ?_
                      refine WL.call rfl rfl rfl (fun za zh zC => wp_call (by kernel_rfl) rfl (hv2 (zh.ev rfl) (zh.ev rfl))) (rsubSame_yes R1 R2 _ p1 p2 k1 k2 (Nat.le_trans hN1.2.1 hN1.2.2) (hN1.isBs.below hb246) (hN2.isBs.below (Below.refl _ _)) (hR1.unique hR2)) ?_
                      rintro _ w250 ⟨rfl, hq249⟩
                      refine WL.want (d := 90) rfl rfl rfl ?_
                      refine WL.val (.bool false) rfl rfl rfl (fun za zC zh zk => wp_not rfl (zh.ev rfl) zk) ?_
                      refine WL.val (.bool false) rfl rfl rfl (fun za zC zh zk => wp_pickF rfl (zh.ev rfl) (zh.ev rfl) zk) ?_
                      refine WL.nil (WE.sub (K' := [(0, .slice pa l.length ca), (3, .pointer (some ⟨gm, 0, none⟩)), (4, .pointer (some ⟨g3, 0, none⟩)), (5, .int .i64 (((x.1 : Nat) : Int))), (6, .pointer (some ⟨g29, 0, none⟩)), (7, .pointer (some ⟨g48, 0, none⟩)), (8, .pointer (some ⟨g49, 0, none⟩)), (9, .bool true), (10, .bool true), (14, .slice pa l.length ca), (15, .int .i64 (((l.length : Nat) : Int))), (16, .int .i64 (((x.1 : Nat) : Int))), (17, .bool ((decide ((((x.1 : Nat) : Int) : Int) < (((l.length : Nat) : Int) : Int))))), (22, .bool ((decide ((60 : Int) ≤ (((x.1 : Nat) : Int) : Int))))), (38, .int .i64 ((xget l x.1).kind)), (39, .bool ((((xget l x.1).kind : Int) == (0 : Int)))), (53, .bool ((((xget l x.1).kind : Int) == (2 : Int)))), (70, .bool ((((xget l x.1).kind : Int) == (4 : Int)))), (97, .bool false)]) ⟨rfl, rfl, rfl, rfl, rfl, rfl, rfl, rfl, rfl, rfl, rfl, rfl, rfl, rfl, rfl, rfl, rfl, rfl, rfl, trivial⟩ ?_)
                      refine WE.next ?_
                      refine WC.condF rfl rfl ?_
                      refine WC.skip ?_
                      refine WE.blockNormal ?_
                      refine WE.next ?_
                      refine WC.region ?_
                      refine WL.val (.int .i64 ((((x.1 + 1) : Nat) : Int))) rfl rfl rfl (fun za zC zh zk => addb_3 rfl (zh.ev rfl) (zh.ev rfl) (wrap_eq (by omega) (by omega) (by omega)) zk) ?_
                      refine WL.val (.int .i64 ((((x.1 + 1) : Nat) : Int))) rfl rfl rfl (fun za zC zh zk => wp_move rfl (zh.ev rfl) zk) ?_
                      refine WL.nil (WE.sub (K' := [(0, .slice pa l.length ca), (3, .pointer (some ⟨gm, 0, none⟩)), (4, .pointer (some ⟨g3, 0, none⟩)), (5, .int .i64 (((x.1 : Nat) : Int))), (6, .pointer (some ⟨g29, 0, none⟩)), (7, .pointer (some ⟨g48, 0, none⟩)), (8, .pointer (some ⟨g49, 0, none⟩)), (9, .bool true), (10, .bool true), (14, .slice pa l.length ca), (15, .int .i64 (((l.length : Nat) : Int))), (16, .int .i64 ((((x.1 + 1) : Nat) : Int))), (17, .bool ((decide ((((x.1 : Nat) : Int) : Int) < (((l.length : Nat) : Int) : Int))))), (22, .bool ((decide ((60 : Int) ≤ (((x.1 : Nat) : Int) : Int))))), (38, .int .i64 ((xget l x.1).kind)), (39, .bool ((((xget l x.1).kind : Int) == (0 : Int)))), (53, .bool ((((xget l x.1).kind : Int) == (2 : Int)))), (70, .bool ((((xget l x.1).kind : Int) == (4 : Int)))), (97, .bool false)]) ⟨rfl, rfl, rfl, rfl, rfl, rfl, rfl, rfl, rfl, rfl, rfl, rfl, rfl, rfl, rfl, rfl, rfl, rfl, rfl, trivial⟩ ?_)
                      refine WE.round ((x.1 + 1, (backTo x.2 ((xget l x.1).n)))) ⟨rfl, rfl, rfl, rfl, rfl, rfl, trivial⟩ ?_ ?_
                      · have hb251 : Below w.heap.size w w250 := (bstep (bstep (bstep (bstep (bstep hb230 hq235) hq238) hb242) hb246) hq249)
                        have hb253 : Below w244.heap.size w244 w250 := (bstep hb246 hq249)
                        have ho252 := ho245.below hb253
                        exact ⟨by (try dsimp only); omega, by (try dsimp only); have z := backTo_len ((xget l x.1).n) x.2; omega, hb251, (Both.mono ho252 (fun b q _ => q.1))⟩
                      · (try dsimp only); omega
                · have h206 : ¬ (((xget l x.1).kind : Int) = (4 : Int)) := by simpa using h206
                  refine WC.skip ?_
                  refine WE.blockNormal ?_
                  refine WE.next ?_
                  refine WC.seq ?_
                  refine WC.region ?_
                  refine WL.val (.bool true) rfl rfl rfl (fun za zC zh zk => wp_move rfl (zh.ev rfl) zk) ?_
                  refine WL.val (.bool true) rfl rfl rfl (fun za zC zh zk => wp_move rfl (zh.ev rfl) zk) ?_
                  refine WL.val (.bool ((true != true))) rfl rfl rfl (fun za zC zh zk => neq_4 rfl (zh.ev rfl) (zh.ev rfl) zk) ?_
                  refine WL.val (.bool ((true != true))) rfl rfl rfl (fun za zC zh zk => wp_move rfl (zh.ev rfl) zk) ?_
                  refine bool_split ((true != true)) (fun h254 => ?_) (fun h254 => ?_)
                  · refine WL.sub (K' := [(0, .slice pa l.length ca), (3, .pointer (some ⟨gm, 0, none⟩)), (4, .pointer (some ⟨g3, 0, none⟩)), (5, .int .i64 (((x.1 : Nat) : Int))), (6, .pointer (some ⟨g29, 0, none⟩)), (7, .pointer (some ⟨g48, 0, none⟩)), (8, .pointer (some ⟨g49, 0, none⟩)), (9, .bool true), (10, .bool true), (14, .slice pa l.length ca), (15, .int .i64 (((l.length : Nat) : Int))), (16, .int .i64 (((x.1 : Nat) : Int))), (17, .bool ((decide ((((x.1 : Nat) : Int) : Int) < (((l.length : Nat) : Int) : Int))))), (22, .bool ((decide ((60 : Int) ≤ (((x.1 : Nat) : Int) : Int))))), (38, .int .i64 ((xget l x.1).kind)), (39, .bool ((((xget l x.1).kind : Int) == (0 : Int)))), (53, .bool ((((xget l x.1).kind : Int) == (2 : Int)))), (70, .bool ((((xget l x.1).kind : Int) == (4 : Int)))), (80, .bool true), (81, .bool true), (82, .bool ((true != true))), (83, .bool true)]) ⟨rfl, rfl, rfl, rfl, rfl, rfl, rfl, rfl, rfl, rfl, rfl, rfl, rfl, rfl, rfl, rfl, rfl, rfl, rfl, rfl, rfl, (by exact congrArg (fun z => some (Value.bool z)) h254), trivial⟩ ?_
                    have h254 : true ≠ true := by simpa using h254
                    refine WL.skip (d := 83) rfl rfl rfl rfl rfl ?_
                    refine WL.skip (d := 83) rfl rfl rfl rfl rfl ?_
                    refine WL.skip (d := 83) rfl rfl rfl rfl rfl ?_
                    refine WL.skip (d := 83) rfl rfl rfl rfl rfl ?_
                    refine WL.skip (d := 83) rfl rfl rfl rfl rfl ?_
                    refine WL.val (.bool true) rfl rfl rfl (fun za zC zh zk => wp_pickT rfl (zh.ev rfl) (zh.ev rfl) zk) ?_
                    refine WL.val (.bool true) rfl rfl rfl (fun za zC zh zk => wp_move rfl (zh.ev rfl) zk) ?_
                    refine WL.skip (d := 90) rfl rfl rfl rfl rfl ?_
                    refine WL.skip (d := 90) rfl rfl rfl rfl rfl ?_
                    refine WL.skip (d := 90) rfl rfl rfl rfl rfl ?_
                    refine WL.skip (d := 90) rfl rfl rfl rfl rfl ?_
                    refine WL.skip (d := 90) rfl rfl rfl rfl rfl ?_
                    refine WL.skip (d := 90) rfl rfl rfl rfl rfl ?_
                    refine WL.val (.bool true) rfl rfl rfl (fun za zC zh zk => wp_pickT rfl (zh.ev rfl) (zh.ev rfl) zk) ?_
                    refine WL.nil (WE.sub (K' := [(0, .slice pa l.length ca), (3, .pointer (some ⟨gm, 0, none⟩)), (4, .pointer (some ⟨g3, 0, none⟩)), (5, .int .i64 (((x.1 : Nat) : Int))), (6, .pointer (some ⟨g29, 0, none⟩)), (7, .pointer (some ⟨g48, 0, none⟩)), (8, .pointer (some ⟨g49, 0, none⟩)), (9, .bool true), (10, .bool true), (14, .slice pa l.length ca), (15, .int .i64 (((l.length : Nat) : Int))), (16, .int .i64 (((x.1 : Nat) : Int))), (17, .bool ((decide ((((x.1 : Nat) : Int) : Int) < (((l.length : Nat) : Int) : Int))))), (22, .bool ((decide ((60 : Int) ≤ (((x.1 : Nat) : Int) : Int))))), (38, .int .i64 ((xget l x.1).kind)), (39, .bool ((((xget l x.1).kind : Int) == (0 : Int)))), (53, .bool ((((xget l x.1).kind : Int) == (2 : Int)))), (70, .bool ((((xget l x.1).kind : Int) == (4 : Int)))), (97, .bool true)]) ⟨rfl, rfl, rfl, rfl, rfl, rfl, rfl, rfl, rfl, rfl, rfl, rfl, rfl, rfl, rfl, rfl, rfl, rfl, rfl, trivial⟩ ?_)
                    refine WE.next ?_
                    refine WC.condT rfl rfl ?_
                    refine WC.seq ?_
                    refine WC.region ?_
                    refine WL.val (.bool false) rfl rfl rfl (fun za zC zh zk => wp_assign rfl (zh.ev rfl) zk) ?_
                    refine WL.nil (WE.sub (K' := [(0, .slice pa l.length ca), (2, .bool false), (3, .pointer (some ⟨gm, 0, none⟩)), (4, .pointer (some ⟨g3, 0, none⟩)), (5, .int .i64 (((x.1 : Nat) : Int))), (6, .pointer (some ⟨g29, 0, none⟩)), (7, .pointer (some ⟨g48, 0, none⟩)), (8, .pointer (some ⟨g49, 0, none⟩)), (9, .bool true), (10, .bool true), (14, .slice pa l.length ca), (15, .int .i64 (((l.length : Nat) : Int))), (16, .int .i64 (((x.1 : Nat) : Int))), (17, .bool ((decide ((((x.1 : Nat) : Int) : Int) < (((l.length : Nat) : Int) : Int))))), (22, .bool ((decide ((60 : Int) ≤ (((x.1 : Nat) : Int) : Int))))), (38, .int .i64 ((xget l x.1).kind)), (39, .bool ((((xget l x.1).kind : Int) == (0 : Int)))), (53, .bool ((((xget l x.1).kind : Int) == (2 : Int)))), (70, .bool ((((xget l x.1).kind : Int) == (4 : Int)))), (97, .bool true)]) ⟨rfl, rfl, rfl, rfl, rfl, rfl, rfl, rfl, rfl, rfl, rfl, rfl, rfl, rfl, rfl, rfl, rfl, rfl, rfl, rfl, trivial⟩ ?_)
                    refine WE.next ?_
                    refine WC.ret ?_
                    refine WE.blockRet ?_
                    refine WE.thenRet ?_
                    refine WE.thenRet ?_
                    refine WE.blockRet ?_
                    refine WE.thenRet ?_
                    refine WE.ret1 rfl rfl ?_
                    exfalso
                    first | (simp at h254; done)
                  · refine WL.sub (K' := [(0, .slice pa l.length ca), (3, .pointer (some ⟨gm, 0, none⟩)), (4, .pointer (some ⟨g3, 0, none⟩)), (5, .int .i64 (((x.1 : Nat) : Int))), (6, .pointer (some ⟨g29, 0, none⟩)), (7, .pointer (some ⟨g48, 0, none⟩)), (8, .pointer (some ⟨g49, 0, none⟩)), (9, .bool true), (10, .bool true), (14, .slice pa l.length ca), (15, .int .i64 (((l.length : Nat) : Int))), (16, .int .i64 (((x.1 : Nat) : Int))), (17, .bool ((decide ((((x.1 : Nat) : Int) : Int) < (((l.length : Nat) : Int) : Int))))), (22, .bool ((decide ((60 : Int) ≤ (((x.1 : Nat) : Int) : Int))))), (38, .int .i64 ((xget l x.1).kind)), (39, .bool ((((xget l x.1).kind : Int) == (0 : Int)))), (53, .bool ((((xget l x.1).kind : Int) == (2 : Int)))), (70, .bool ((((xget l x.1).kind : Int) == (4 : Int)))), (80, .bool true), (81, .bool true), (82, .bool ((true != true))), (83, .bool false)]) ⟨rfl, rfl, rfl, rfl, rfl, rfl, rfl, rfl, rfl, rfl, rfl, rfl, rfl, rfl, rfl, rfl, rfl, rfl, rfl, rfl, rfl, (by exact congrArg (fun z => some (Value.bool z)) h254), trivial⟩ ?_
                    have h254 : ¬ (true ≠ true) := by simpa using h254
                    refine WL.want (d := 83) rfl rfl rfl ?_
                    refine WL.val (.pointer (some ⟨gm, 0, none⟩)) rfl rfl rfl (fun za zC zh zk => wp_move rfl (zh.ev rfl) zk) ?_
                    refine WL.want (d := 83) rfl rfl rfl ?_
                    have hb256 : Below w11.heap.size w11 w47 := (bstep hb42 hb50)
                    have ho255 := hBr.below hb256
                    refine WL.call rfl rfl rfl (fun za zh zC => wp_call (by kernel_rfl) rfl (hv1 (zh.ev rfl))) (bmark_m ho255) ?_
                    rintro _ w258 ⟨rfl, hq257⟩
                    refine WL.want (d := 83) rfl rfl rfl ?_
                    refine WL.val (.pointer (some ⟨g3, 0, none⟩)) rfl rfl rfl (fun za zC zh zk => wp_move rfl (zh.ev rfl) zk) ?_
                    refine WL.want (d := 83) rfl rfl rfl ?_
                    have ho259 := ho255.below hq257
                    refine WL.call rfl rfl rfl (fun za zh zC => wp_call (by kernel_rfl) rfl (hv1 (zh.ev rfl))) (bmark_z ho259) ?_
                    rintro _ w261 ⟨rfl, hq260⟩
                    refine WL.want (d := 83) rfl rfl rfl ?_
                    refine WL.val (.bool (((((x.2.length : Nat) : Int) : Int) != (((x.2.length : Nat) : Int) : Int)))) rfl rfl rfl (fun za zC zh zk => neq_3 rfl (zh.ev rfl) (zh.ev rfl) zk) ?_
                    refine WL.val (.bool (((((x.2.length : Nat) : Int) : Int) != (((x.2.length : Nat) : Int) : Int)))) rfl rfl rfl (fun za zC zh zk => wp_pickF rfl (zh.ev rfl) (zh.ev rfl) zk) ?_
                    refine WL.val (.bool (((((x.2.length : Nat) : Int) : Int) != (((x.2.length : Nat) : Int) : Int)))) rfl rfl rfl (fun za zC zh zk => wp_move rfl (zh.ev rfl) zk) ?_
                    refine bool_split (((((x.2.length : Nat) : Int) : Int) != (((x.2.length : Nat) : Int) : Int))) (fun h262 => ?_) (fun h262 => ?_)
                    · refine WL.sub (K' := [(0, .slice pa l.length ca), (3, .pointer (some ⟨gm, 0, none⟩)), (4, .pointer (some ⟨g3, 0, none⟩)), (5, .int .i64 (((x.1 : Nat) : Int))), (6, .pointer (some ⟨g29, 0, none⟩)), (7, .pointer (some ⟨g48, 0, none⟩)), (8, .pointer (some ⟨g49, 0, none⟩)), (9, .bool true), (10, .bool true), (14, .slice pa l.length ca), (15, .int .i64 (((l.length : Nat) : Int))), (16, .int .i64 (((x.1 : Nat) : Int))), (17, .bool ((decide ((((x.1 : Nat) : Int) : Int) < (((l.length : Nat) : Int) : Int))))), (22, .bool ((decide ((60 : Int) ≤ (((x.1 : Nat) : Int) : Int))))), (38, .int .i64 ((xget l x.1).kind)), (39, .bool ((((xget l x.1).kind : Int) == (0 : Int)))), (53, .bool ((((xget l x.1).kind : Int) == (2 : Int)))), (70, .bool ((((xget l x.1).kind : Int) == (4 : Int)))), (80, .bool true), (81, .bool true), (82, .bool ((true != true))), (83, .bool false), (84, .pointer (some ⟨gm, 0, none⟩)), (85, .int .i64 (((x.2.length : Nat) : Int))), (86, .pointer (some ⟨g3, 0, none⟩)), (87, .int .i64 (((x.2.length : Nat) : Int))), (88, .bool (((((x.2.length : Nat) : Int) : Int) != (((x.2.length : Nat) : Int) : Int)))), (89, .bool (((((x.2.length : Nat) : Int) : Int) != (((x.2.length : Nat) : Int) : Int)))), (90, .bool true)]) ⟨rfl, rfl, rfl, rfl, rfl, rfl, rfl, rfl, rfl, rfl, rfl, rfl, rfl, rfl, rfl, rfl, rfl, rfl, rfl, rfl, rfl, rfl, rfl, rfl, rfl, rfl, rfl, rfl, (by exact congrArg (fun z => some (Value.bool z)) h262), trivial⟩ ?_
                      have h262 : (((x.2.length : Nat) : Int) : Int) ≠ (((x.2.length : Nat) : Int) : Int) := by simpa using h262
                      refine WL.skip (d := 90) rfl rfl rfl rfl rfl ?_
                      refine WL.skip (d := 90) rfl rfl rfl rfl rfl ?_
                      refine WL.skip (d := 90) rfl rfl rfl rfl rfl ?_
                      refine WL.skip (d := 90) rfl rfl rfl rfl rfl ?_
                      refine WL.skip (d := 90) rfl rfl rfl rfl rfl ?_
                      refine WL.skip (d := 90) rfl rfl rfl rfl rfl ?_
                      refine WL.val (.bool true) rfl rfl rfl (fun za zC zh zk => wp_pickT rfl (zh.ev rfl) (zh.ev rfl) zk) ?_
                      refine WL.nil (WE.sub (K' := [(0, .slice pa l.length ca), (3, .pointer (some ⟨gm, 0, none⟩)), (4, .pointer (some ⟨g3, 0, none⟩)), (5, .int .i64 (((x.1 : Nat) : Int))), (6, .pointer (some ⟨g29, 0, none⟩)), (7, .pointer (some ⟨g48, 0, none⟩)), (8, .pointer (some ⟨g49, 0, none⟩)), (9, .bool true), (10, .bool true), (14, .slice pa l.length ca), (15, .int .i64 (((l.length : Nat) : Int))), (16, .int .i64 (((x.1 : Nat) : Int))), (17, .bool ((decide ((((x.1 : Nat) : Int) : Int) < (((l.length : Nat) : Int) : Int))))), (22, .bool ((decide ((60 : Int) ≤ (((x.1 : Nat) : Int) : Int))))), (38, .int .i64 ((xget l x.1).kind)), (39, .bool ((((xget l x.1).kind : Int) == (0 : Int)))), (53, .bool ((((xget l x.1).kind : Int) == (2 : Int)))), (70, .bool ((((xget l x.1).kind : Int) == (4 : Int)))), (97, .bool true)]) ⟨rfl, rfl, rfl, rfl, rfl, rfl, rfl, rfl, rfl, rfl, rfl, rfl, rfl, rfl, rfl, rfl, rfl, rfl, rfl, trivial⟩ ?_)
                      refine WE.next ?_
                      refine WC.condT rfl rfl ?_
                      refine WC.seq ?_
                      refine WC.region ?_
                      refine WL.val (.bool false) rfl rfl rfl (fun za zC zh zk => wp_assign rfl (zh.ev rfl) zk) ?_
                      refine WL.nil (WE.sub (K' := [(0, .slice pa l.length ca), (2, .bool false), (3, .pointer (some ⟨gm, 0, none⟩)), (4, .pointer (some ⟨g3, 0, none⟩)), (5, .int .i64 (((x.1 : Nat) : Int))), (6, .pointer (some ⟨g29, 0, none⟩)), (7, .pointer (some ⟨g48, 0, none⟩)), (8, .pointer (some ⟨g49, 0, none⟩)), (9, .bool true), (10, .bool true), (14, .slice pa l.length ca), (15, .int .i64 (((l.length : Nat) : Int))), (16, .int .i64 (((x.1 : Nat) : Int))), (17, .bool ((decide ((((x.1 : Nat) : Int) : Int) < (((l.length : Nat) : Int) : Int))))), (22, .bool ((decide ((60 : Int) ≤ (((x.1 : Nat) : Int) : Int))))), (38, .int .i64 ((xget l x.1).kind)), (39, .bool ((((xget l x.1).kind : Int) == (0 : Int)))), (53, .bool ((((xget l x.1).kind : Int) == (2 : Int)))), (70, .bool ((((xget l x.1).kind : Int) == (4 : Int)))), (97, .bool true)]) ⟨rfl, rfl, rfl, rfl, rfl, rfl, rfl, rfl, rfl, rfl, rfl, rfl, rfl, rfl, rfl, rfl, rfl, rfl, rfl, rfl, trivial⟩ ?_)
                      refine WE.next ?_
                      refine WC.ret ?_
                      refine WE.blockRet ?_
                      refine WE.thenRet ?_
                      refine WE.thenRet ?_
                      refine WE.blockRet ?_
                      refine WE.thenRet ?_
                      refine WE.ret1 rfl rfl ?_
                      exfalso
                      first | (simp at h262; done)
                    · refine WL.sub (K' := [(0, .slice pa l.length ca), (3, .pointer (some ⟨gm, 0, none⟩)), (4, .pointer (some ⟨g3, 0, none⟩)), (5, .int .i64 (((x.1 : Nat) : Int))), (6, .pointer (some ⟨g29, 0, none⟩)), (7, .pointer (some ⟨g48, 0, none⟩)), (8, .pointer (some ⟨g49, 0, none⟩)), (9, .bool true), (10, .bool true), (14, .slice pa l.length ca), (15, .int .i64 (((l.length : Nat) : Int))), (16, .int .i64 (((x.1 : Nat) : Int))), (17, .bool ((decide ((((x.1 : Nat) : Int) : Int) < (((l.length : Nat) : Int) : Int))))), (22, .bool ((decide ((60 : Int) ≤ (((x.1 : Nat) : Int) : Int))))), (38, .int .i64 ((xget l x.1).kind)), (39, .bool ((((xget l x.1).kind : Int) == (0 : Int)))), (53, .bool ((((xget l x.1).kind : Int) == (2 : Int)))), (70, .bool ((((xget l x.1).kind : Int) == (4 : Int)))), (80, .bool true), (81, .bool true), (82, .bool ((true != true))), (83, .bool false), (84, .pointer (some ⟨gm, 0, none⟩)), (85, .int .i64 (((x.2.length : Nat) : Int))), (86, .pointer (some ⟨g3, 0, none⟩)), (87, .int .i64 (((x.2.length : Nat) : Int))), (88, .bool (((((x.2.length : Nat) : Int) : Int) != (((x.2.length : Nat) : Int) : Int)))), (89, .bool (((((x.2.length : Nat) : Int) : Int) != (((x.2.length : Nat) : Int) : Int)))), (90, .bool false)]) ⟨rfl, rfl, rfl, rfl, rfl, rfl, rfl, rfl, rfl, rfl, rfl, rfl, rfl, rfl, rfl, rfl, rfl, rfl, rfl, rfl, rfl, rfl, rfl, rfl, rfl, rfl, rfl, rfl, (by exact congrArg (fun z => some (Value.bool z)) h262), trivial⟩ ?_
                      have h262 : ¬ ((((x.2.length : Nat) : Int) : Int) ≠ (((x.2.length : Nat) : Int) : Int)) := by simpa using h262
                      refine WL.want (d := 90) rfl rfl rfl ?_
                      refine WL.val (.pointer (some ⟨gm, 0, none⟩)) rfl rfl rfl (fun za zC zh zk => wp_move rfl (zh.ev rfl) zk) ?_
                      refine WL.want (d := 90) rfl rfl rfl ?_
                      have ho263 := ho259.below hq260
                      have hz265 := Nat.le_refl x.2.length
                      refine WL.call rfl rfl rfl (fun za zh zC => wp_call (by kernel_rfl) rfl (hv1 (zh.ev rfl))) (bsub_m ho263 (by omega)) ?_
                      rintro _ w266 ⟨⟨R1, p1, k1, rfl, hR1, hN1⟩, hb264⟩
                      refine WL.want (d := 90) rfl rfl rfl ?_
                      refine WL.val (.pointer (some ⟨g3, 0, none⟩)) rfl rfl rfl (fun za zC zh zk => wp_move rfl (zh.ev rfl) zk) ?_
                      refine WL.want (d := 90) rfl rfl rfl ?_
                      have ho267 := ho263.below hb264
                      have hz269 := Nat.le_refl x.2.length
                      have hnd9 := ho267.nd
                      refine WL.call rfl rfl rfl (fun za zh zC => wp_call (by kernel_rfl) rfl (hv1 (zh.ev rfl))) (bsub_z ho267 hnd9 (by omega)) ?_
                      rintro _ w270 ⟨⟨R2, p2, k2, rfl, hR2, hN2⟩, hb268⟩
                      refine WL.want (d := 90) rfl rfl rfl ?_
                      refine WL.call rfl rfl rfl (fun za zh zC => wp_call (by kernel_rfl) rfl (hv2 (zh.ev rfl) (zh.ev rfl))) (rsubSame_yes R1 R2 _ p1 p2 k1 k2 (Nat.le_trans hN1.2.1 hN1.2.2) (hN1.isBs.below hb268) (hN2.isBs.below (Below.refl _ _)) (hR1.unique hR2)) ?_
                      rintro _ w272 ⟨rfl, hq271⟩
                      refine WL.want (d := 90) rfl rfl rfl ?_
                      refine WL.val (.bool false) rfl rfl rfl (fun za zC zh zk => wp_not rfl (zh.ev rfl) zk) ?_
                      refine WL.val (.bool false) rfl rfl rfl (fun za zC zh zk => wp_pickF rfl (zh.ev rfl) (zh.ev rfl) zk) ?_
                      refine WL.nil (WE.sub (K' := [(0, .slice pa l.length ca), (3, .pointer (some ⟨gm, 0, none⟩)), (4, .pointer (some ⟨g3, 0, none⟩)), (5, .int .i64 (((x.1 : Nat) : Int))), (6, .pointer (some ⟨g29, 0, none⟩)), (7, .pointer (some ⟨g48, 0, none⟩)), (8, .pointer (some ⟨g49, 0, none⟩)), (9, .bool true), (10, .bool true), (14, .slice pa l.length ca), (15, .int .i64 (((l.length : Nat) : Int))), (16, .int .i64 (((x.1 : Nat) : Int))), (17, .bool ((decide ((((x.1 : Nat) : Int) : Int) < (((l.length : Nat) : Int) : Int))))), (22, .bool ((decide ((60 : Int) ≤ (((x.1 : Nat) : Int) : Int))))), (38, .int .i64 ((xget l x.1).kind)), (39, .bool ((((xget l x.1).kind : Int) == (0 : Int)))), (53, .bool ((((xget l x.1).kind : Int) == (2 : Int)))), (70, .bool ((((xget l x.1).kind : Int) == (4 : Int)))), (97, .bool false)]) ⟨rfl, rfl, rfl, rfl, rfl, rfl, rfl, rfl, rfl, rfl, rfl, rfl, rfl, rfl, rfl, rfl, rfl, rfl, rfl, trivial⟩ ?_)
                      refine WE.next ?_
                      refine WC.condF rfl rfl ?_
                      refine WC.skip ?_
                      refine WE.blockNormal ?_
                      refine WE.next ?_
                      refine WC.region ?_
                      refine WL.val (.int .i64 ((((x.1 + 1) : Nat) : Int))) rfl rfl rfl (fun za zC zh zk => addb_3 rfl (zh.ev rfl) (zh.ev rfl) (wrap_eq (by omega) (by omega) (by omega)) zk) ?_
                      refine WL.val (.int .i64 ((((x.1 + 1) : Nat) : Int))) rfl rfl rfl (fun za zC zh zk => wp_move rfl (zh.ev rfl) zk) ?_
                      refine WL.nil (WE.sub (K' := [(0, .slice pa l.length ca), (3, .pointer (some ⟨gm, 0, none⟩)), (4, .pointer (some ⟨g3, 0, none⟩)), (5, .int .i64 (((x.1 : Nat) : Int))), (6, .pointer (some ⟨g29, 0, none⟩)), (7, .pointer (some ⟨g48, 0, none⟩)), (8, .pointer (some ⟨g49, 0, none⟩)), (9, .bool true), (10, .bool true), (14, .slice pa l.length ca), (15, .int .i64 (((l.length : Nat) : Int))), (16, .int .i64 ((((x.1 + 1) : Nat) : Int))), (17, .bool ((decide ((((x.1 : Nat) : Int) : Int) < (((l.length : Nat) : Int) : Int))))), (22, .bool ((decide ((60 : Int) ≤ (((x.1 : Nat) : Int) : Int))))), (38, .int .i64 ((xget l x.1).kind)), (39, .bool ((((xget l x.1).kind : Int) == (0 : Int)))), (53, .bool ((((xget l x.1).kind : Int) == (2 : Int)))), (70, .bool ((((xget l x.1).kind : Int) == (4 : Int)))), (97, .bool false)]) ⟨rfl, rfl, rfl, rfl, rfl, rfl, rfl, rfl, rfl, rfl, rfl, rfl, rfl, rfl, rfl, rfl, rfl, rfl, rfl, trivial⟩ ?_)
                      refine WE.round ((x.1 + 1, x.2)) ⟨rfl, rfl, rfl, rfl, rfl, rfl, trivial⟩ ?_ ?_
                      · have hb273 : Below w.heap.size w w272 := (bstep (bstep (bstep (bstep (bstep (bstep hb13 hb256) hq257) hq260) hb264) hb268) hq271)
                        have hb275 : Below w266.heap.size w266 w272 := (bstep hb268 hq271)
                        have ho274 := ho267.below hb275
                        exact ⟨by (try dsimp only); omega, by (try dsimp only); have z := Nat.le_refl x.2.length; omega, hb273, (Both.mono ho274 (fun b q _ => q.1))⟩
                      · (try dsimp only); omega
    · have h15 : ¬ ((((x.1 : Nat) : Int) : Int) < (((l.length : Nat) : Int) : Int)) := by simpa using h15
      refine WC.exit ?_
      refine WE.thenExit ?_
      refine WE.thenExit ?_
      refine WE.blockIs rfl ?_
      refine WE.next ?_
      refine WC.seq ?_
      refine WC.region ?_
      refine WL.call rfl rfl rfl (fun za zh zC => wp_call (by kernel_rfl) rfl (hv0)) (wakes_any _) ?_
      rintro _ w277 ⟨rfl, hq276⟩
      refine WL.val (.bool true) rfl rfl rfl (fun za zC zh zk => wp_assign rfl (zh.ev rfl) zk) ?_
      refine WL.nil (WE.sub (K' := [(0, .slice pa l.length ca), (2, .bool true), (3, .pointer (some ⟨gm, 0, none⟩)), (4, .pointer (some ⟨g3, 0, none⟩)), (14, .slice pa l.length ca), (15, .int .i64 (((l.length : Nat) : Int))), (16, .int .i64 (((x.1 : Nat) : Int))), (17, .bool ((decide ((((x.1 : Nat) : Int) : Int) < (((l.length : Nat) : Int) : Int)))))]) ⟨rfl, rfl, rfl, rfl, rfl, rfl, rfl, rfl, trivial⟩ ?_)
      refine WE.next ?_
      refine WC.ret ?_
      refine WE.ret1 rfl rfl ?_
      have hb278 : Below w.heap.size w w277 := (bstep hb13 hq276)
      exact ⟨_, rfl, rfl, hb278⟩

end Go.Proofs.Ytcmfjnadjddboaa
