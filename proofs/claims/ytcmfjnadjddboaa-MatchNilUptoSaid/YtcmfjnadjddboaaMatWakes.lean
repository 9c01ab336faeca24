/- The example that every law shows. -/
import Derived.Test.YtcmfjnadjddboaaMatRes2
namespace Go.Proofs.Ytcmfjnadjddboaa
open Go.RowKit Go

theorem inT_leaf {S : Nat → Prop} {w : World} {f : Int} (hf : I64 f) : InT S w (.mk f []) (.agg #[.int .i64 f, .slice none 0 0]) := ⟨hf, none, 0, rfl, Nat.le_refl _, Nat.zero_le _, trivial⟩
theorem isT_two {w : World} {g : Nat} {f a b : Int} (hB : Blk w g 24 #[.int .i64 a, .slice none 0 0, .int .i64 b, .slice none 0 0]) (hf : I64 f) (ha : I64 a) (hb : I64 b) : IsT w (.mk f [.mk a [], .mk b []]) (.agg #[.int .i64 f, .slice (some ⟨g, 0, none⟩) 2 2]) :=
  InT.isT (S := fun _ => True) ⟨hf, some ⟨g, 0, none⟩, 2, rfl, Nat.le_refl 2, by decide, ⟨g, 0, _, _, rfl, trivial, by rw [hB.cell]; rfl, by rw [hB.cell]; rfl, inT_leaf ha⟩, ⟨g, 0, _, _, rfl, trivial, by rw [hB.cell]; rfl, by rw [hB.cell]; rfl, inT_leaf hb⟩, trivial⟩
def two (a b : Int) : T := .mk 2 [.mk a [], .mk b []]
def wkR : List Bd := [⟨0, .mk 1 []⟩, ⟨1, .mk (-1) []⟩]
theorem i64_lit {a : Int} (h : -9223372036854775808 ≤ a ∧ a ≤ 9223372036854775807) : I64 a := by unfold I64; omega
theorem wk_mt : (two (-1) (-2)).mt [] (two 1 (-1)) = some wkR := by
  unfold two wkR
  simp [T.mt, T.mtL, subFind, T.f, T.args]
theorem wk_pl (a b : Int) : (two a b).plain = true := by
  unfold two
  simp [T.plain, T.plainL]
theorem wk_ok : mOk (two (-1) (-2)) (two 1 (-1)) [] = true ∧ mTo (two (-1) (-2)) (two 1 (-1)) [] = wkR := fin_ok (wk_pl _ _) (wk_pl _ _) wk_mt
theorem wk_no : mOk (two (-1) (-1)) (two 1 (-2)) [] = false := by
  refine (fin_no (wk_pl _ _) (wk_pl _ _) ?_).1
  unfold two
  simp [T.mt, T.mtL, subFind, T.f, T.args, T.same]
theorem wk_var : varB (two (-1) (-2)) (two 1 (-1)) = false := by
  unfold varB
  rw [(fin_no (p := two 1 (-1)) (t := two (-1) (-2)) (st := []) (wk_pl _ _) (wk_pl _ _) ?_).1, Bool.and_false]
  unfold two
  simp [T.mt, T.mtL, T.f, T.args]
theorem wk_sub : SubOf wkR wkR := by
  refine ⟨?_, fun x => ⟨fun h => ⟨h, ?_⟩, fun h => h.1⟩⟩
  · simp [wkR]
  · simp only [wkR, List.mem_cons, List.not_mem_nil, or_false] at h
    rcases h with rfl | rfl <;> rfl
theorem wk_sz (a b : Int) : (two a b).size ≤ 4294967296 := by unfold two; simp [T.size, T.sizeL]
theorem match_wk1 {w : World} {g1 g2 : Nat} (h1 : Blk w g1 24 #[.int .i64 (-1), .slice none 0 0, .int .i64 (-2), .slice none 0 0]) (h2 : Blk w g2 24 #[.int .i64 1, .slice none 0 0, .int .i64 (-1), .slice none 0 0]) : Calls Try.prog 8 #[.agg #[.int .i64 2, .slice (some ⟨g1, 0, none⟩) 2 2], .agg #[.int .i64 2, .slice (some ⟨g2, 0, none⟩) 2 2]] w (Ret fun v' w' => (∃ a c, v' = .tuple #[.slice a 2 c, .bool true] ∧ NewBs w w' wkR a c) ∧ Below w.heap.size w w') := by
  refine (match_any (two (-1) (-2)) (two 1 (-1)) w _ _ (isT_two h1 (i64_lit (by omega)) (i64_lit (by omega)) (i64_lit (by omega))) (isT_two h2 (i64_lit (by omega)) (i64_lit (by omega)) (i64_lit (by omega))) (wk_sz _ _) (wk_sz _ _)).mono ?_
  rintro e w' ⟨v, rfl, hm, hb⟩
  unfold MatchIs at hm
  rw [if_pos wk_ok.1, wk_ok.2] at hm
  obtain ⟨R, a, c, rfl, hR, hN⟩ := hm
  obtain rfl := hR.unique wk_sub
  exact ⟨_, rfl, ⟨a, c, rfl, hN⟩, hb⟩
theorem match_wk2 {w : World} {g1 g2 : Nat} (h1 : Blk w g1 24 #[.int .i64 (-1), .slice none 0 0, .int .i64 (-1), .slice none 0 0]) (h2 : Blk w g2 24 #[.int .i64 1, .slice none 0 0, .int .i64 (-2), .slice none 0 0]) : Calls Try.prog 8 #[.agg #[.int .i64 2, .slice (some ⟨g1, 0, none⟩) 2 2], .agg #[.int .i64 2, .slice (some ⟨g2, 0, none⟩) 2 2]] w (Ret fun v' w' => v' = .tuple #[.slice none 0 0, .bool false] ∧ Below w.heap.size w w') := by
  refine (match_any (two (-1) (-1)) (two 1 (-2)) w _ _ (isT_two h1 (i64_lit (by omega)) (i64_lit (by omega)) (i64_lit (by omega))) (isT_two h2 (i64_lit (by omega)) (i64_lit (by omega)) (i64_lit (by omega))) (wk_sz _ _) (wk_sz _ _)).mono ?_
  rintro e w' ⟨v, rfl, hm, hb⟩
  unfold MatchIs at hm
  rw [if_neg (by rw [wk_no]; decide)] at hm
  exact ⟨_, rfl, hm, hb⟩
theorem variant_wk {w : World} {g1 g2 : Nat} (h1 : Blk w g1 24 #[.int .i64 (-1), .slice none 0 0, .int .i64 (-2), .slice none 0 0]) (h2 : Blk w g2 24 #[.int .i64 1, .slice none 0 0, .int .i64 (-1), .slice none 0 0]) : Calls Try.prog 11 #[.agg #[.int .i64 2, .slice (some ⟨g1, 0, none⟩) 2 2], .agg #[.int .i64 2, .slice (some ⟨g2, 0, none⟩) 2 2]] w (Ret fun v' w' => v' = .bool false ∧ Below w.heap.size w w') := by
  refine (variant_any (two (-1) (-2)) (two 1 (-1)) w _ _ (isT_two h1 (i64_lit (by omega)) (i64_lit (by omega)) (i64_lit (by omega))) (isT_two h2 (i64_lit (by omega)) (i64_lit (by omega)) (i64_lit (by omega))) (wk_sz _ _) (wk_sz _ _)).mono ?_
  rintro e w' ⟨v, rfl, hm, hb⟩
  rw [wk_var] at hm
  exact ⟨_, rfl, hm, hb⟩
set_option maxRecDepth 100000 in
theorem wakes_any (w : World) : Calls Try.prog 13 #[] w (Ret fun v' w' => v' = .bool true ∧ Below w.heap.size w w') := by
  refine Calls.walk (l := []) Try.func13 rfl (by kernel_rfl) ?_
  refine WC.sub (K' := []) trivial ?_
  refine WC.seq ?_
  refine WC.region ?_
  refine WL.val (.bool false) rfl rfl rfl (fun za zC zh zk => wp_assign rfl (zh.ev rfl) zk) ?_
  refine WL.nil (WE.sub (K' := [(0, .bool false)]) ⟨rfl, trivial⟩ ?_)
  refine WE.next ?_
  refine WC.seq ?_
  refine WC.region ?_
  refine WL.val (.agg #[.int .i64 ((-1)), .slice none 0 0]) rfl rfl rfl (fun za zC zh zk => build_24_0 rfl (zh.ev rfl) zk) ?_
  refine WL.val (.agg #[.int .i64 ((-2)), .slice none 0 0]) rfl rfl rfl (fun za zC zh zk => build_24_0 rfl (zh.ev rfl) zk) ?_
  refine WL.step (post := NewRow w 24 #[.int .i64 ((-1)), .slice none 0 0, .int .i64 ((-2)), .slice none 0 0] 2) rfl rfl rfl (fun za zC zh zk => row_22_2 rfl (zh.ev rfl) (zh.ev rfl) (zk _ _ (newRow _ _ _ _))) ?_
  rintro _ w1 ⟨g2, rfl, hg3, hB4, hb5, hz6⟩
  have hl7 : w.heap.size ≤ g2 := by omega
  refine WL.val (.agg #[.int .i64 2, .slice ((some ⟨g2, 0, none⟩)) 2 2]) rfl rfl rfl (fun za zC zh zk => build_24_0_1 rfl (zh.ev rfl) (zh.ev rfl) zk) ?_
  refine WL.step (post := NewBlk w1 24 #[.int .i64 0, .slice none 0 0]) rfl rfl rfl (fun za zC zh zk => alloc_24 rfl (zk _ _ (newBlk _ _ _))) ?_
  rintro _ w8 ⟨g9, rfl, hg10, hB11, hb12, hz13⟩
  have hl14 : g2 < g9 := by have z1 := hB4.lt; omega
  have hl15 : w.heap.size ≤ g9 := by have z2 := (hb5).size; omega
  refine WL.step (post := fun _ w' => Upd g9 w8 w' ∧ Blk w' g9 24 #[.int .i64 2, .slice ((some ⟨g2, 0, none⟩)) 2 2]) rfl rfl rfl (fun za zC zh zk => st_24 rfl (zh.ev rfl) (zh.ev rfl) rfl rfl hB11 (by first | decide | simp) (fun v => zk v _ ⟨(Upd.at_ _ _ _ _).trans (Upd.at_ _ _ _ _), (hB11.set_ 0 _).set_ 1 _⟩)) ?_
  rintro v19 w16 ⟨hu17, hB18⟩
  have hb20 : Below w.heap.size w w8 := (bstep hb5 hb12)
  have hb21 := upd_below hb20 hu17 (by omega)
  have hB22 := hB4.below hb12
  have hB23 := upd_blk hB22 hu17 (by omega)
  refine WL.nil (WE.sub (K' := [(0, .bool false), (1, .pointer (some ⟨g9, 0, none⟩))]) ⟨rfl, rfl, trivial⟩ ?_)
  refine WE.next ?_
  refine WC.seq ?_
  refine WC.region ?_
  refine WL.val (.agg #[.int .i64 1, .slice none 0 0]) rfl rfl rfl (fun za zC zh zk => build_24_0 rfl (zh.ev rfl) zk) ?_
  refine WL.val (.agg #[.int .i64 ((-1)), .slice none 0 0]) rfl rfl rfl (fun za zC zh zk => build_24_0 rfl (zh.ev rfl) zk) ?_
  refine WL.step (post := NewRow w16 24 #[.int .i64 1, .slice none 0 0, .int .i64 ((-1)), .slice none 0 0] 2) rfl rfl rfl (fun za zC zh zk => row_22_2 rfl (zh.ev rfl) (zh.ev rfl) (zk _ _ (newRow _ _ _ _))) ?_
  rintro _ w24 ⟨g25, rfl, hg26, hB27, hb28, hz29⟩
  have hl30 : g2 < g25 := by have z1 := hB23.lt; omega
  have hl31 : g9 < g25 := by have z1 := hB18.lt; omega
  have hl32 : w.heap.size ≤ g25 := by have z2 := (hb21).size; omega
  refine WL.val (.agg #[.int .i64 2, .slice ((some ⟨g25, 0, none⟩)) 2 2]) rfl rfl rfl (fun za zC zh zk => build_24_0_1 rfl (zh.ev rfl) (zh.ev rfl) zk) ?_
  refine WL.step (post := NewBlk w24 24 #[.int .i64 0, .slice none 0 0]) rfl rfl rfl (fun za zC zh zk => alloc_24 rfl (zk _ _ (newBlk _ _ _))) ?_
  rintro _ w33 ⟨g34, rfl, hg35, hB36, hb37, hz38⟩
  have hl39 : g2 < g34 := by have z1 := hB23.lt; have z2 := (hb28).size; omega
  have hl40 : g9 < g34 := by have z1 := hB18.lt; have z2 := (hb28).size; omega
  have hl41 : g25 < g34 := by have z1 := hB27.lt; omega
  have hb42 : Below w.heap.size w w24 := (bstep hb21 hb28)
  have hl43 : w.heap.size ≤ g34 := by have z2 := (hb42).size; omega
  refine WL.step (post := fun _ w' => Upd g34 w33 w' ∧ Blk w' g34 24 #[.int .i64 2, .slice ((some ⟨g25, 0, none⟩)) 2 2]) rfl rfl rfl (fun za zC zh zk => st_24 rfl (zh.ev rfl) (zh.ev rfl) rfl rfl hB36 (by first | decide | simp) (fun v => zk v _ ⟨(Upd.at_ _ _ _ _).trans (Upd.at_ _ _ _ _), (hB36.set_ 0 _).set_ 1 _⟩)) ?_
  rintro v47 w44 ⟨hu45, hB46⟩
  have hb48 : Below w.heap.size w w33 := (bstep hb42 hb37)
  have hb49 := upd_below hb48 hu45 (by omega)
  have hb51 : Below w16.heap.size w16 w33 := (bstep hb28 hb37)
  have hB50 := hB23.below hb51
  have hB52 := upd_blk hB50 hu45 (by omega)
  have hB53 := hB18.below hb51
  have hB54 := upd_blk hB53 hu45 (by omega)
  have hB55 := hB27.below hb37
  have hB56 := upd_blk hB55 hu45 (by omega)
  refine WL.nil (WE.sub (K' := [(0, .bool false), (1, .pointer (some ⟨g9, 0, none⟩)), (2, .pointer (some ⟨g34, 0, none⟩))]) ⟨rfl, rfl, rfl, trivial⟩ ?_)
  refine WE.next ?_
  refine WC.seq ?_
  refine WC.region ?_
  refine WL.val (.agg #[.int .i64 2, .slice ((some ⟨g2, 0, none⟩)) 2 2]) rfl rfl rfl (fun za zC zh zk => ld_24 rfl (zh.ev rfl) ((hB54.cell 0).trans rfl) ((hB54.cell 1).trans rfl) zk) ?_
  refine WL.val (.agg #[.int .i64 2, .slice ((some ⟨g25, 0, none⟩)) 2 2]) rfl rfl rfl (fun za zC zh zk => ld_24 rfl (zh.ev rfl) ((hB46.cell 0).trans rfl) ((hB46.cell 1).trans rfl) zk) ?_
  refine WL.call rfl rfl rfl (fun za zh zC => wp_call (by kernel_rfl) rfl (hv2 (zh.ev rfl) (zh.ev rfl))) (match_wk1 hB52 hB56) ?_
  rintro _ w57 ⟨⟨ra, rc, rfl, hNB⟩, hbm⟩
  refine WL.val (.tuple #[.slice ra 2 rc, .bool true]) rfl rfl rfl (fun za zC zh zk => wp_move rfl (zh.ev rfl) zk) ?_
  refine WL.val (.slice ra 2 rc) rfl rfl rfl (fun za zC zh zk => ext2_0 rfl (zh.ev rfl) zk) ?_
  refine WL.val (.bool true) rfl rfl rfl (fun za zC zh zk => ext2_1 rfl (zh.ev rfl) zk) ?_
  refine WL.val (.slice ra 2 rc) rfl rfl rfl (fun za zC zh zk => wp_assign rfl (zh.ev rfl) zk) ?_
  refine WL.val (.bool true) rfl rfl rfl (fun za zC zh zk => wp_assign rfl (zh.ev rfl) zk) ?_
  refine WL.nil (WE.sub (K' := [(0, .bool false), (1, .pointer (some ⟨g9, 0, none⟩)), (2, .pointer (some ⟨g34, 0, none⟩)), (3, .slice ra 2 rc), (4, .bool true)]) ⟨rfl, rfl, rfl, rfl, rfl, trivial⟩ ?_)
  refine WE.next ?_
  refine WC.seq ?_
  refine WC.region ?_
  refine WL.val (.agg #[.int .i64 ((-1)), .slice none 0 0]) rfl rfl rfl (fun za zC zh zk => build_24_0 rfl (zh.ev rfl) zk) ?_
  refine WL.val (.agg #[.int .i64 ((-1)), .slice none 0 0]) rfl rfl rfl (fun za zC zh zk => build_24_0 rfl (zh.ev rfl) zk) ?_
  refine WL.step (post := NewRow w57 24 #[.int .i64 ((-1)), .slice none 0 0, .int .i64 ((-1)), .slice none 0 0] 2) rfl rfl rfl (fun za zC zh zk => row_22_2 rfl (zh.ev rfl) (zh.ev rfl) (zk _ _ (newRow _ _ _ _))) ?_
  rintro _ w58 ⟨g59, rfl, hg60, hB61, hb62, hz63⟩
  have hl64 : g2 < g59 := by have z1 := hB52.lt; have z2 := (hbm).size; omega
  have hl65 : g9 < g59 := by have z1 := hB54.lt; have z2 := (hbm).size; omega
  have hl66 : g25 < g59 := by have z1 := hB56.lt; have z2 := (hbm).size; omega
  have hl67 : g34 < g59 := by have z1 := hB46.lt; have z2 := (hbm).size; omega
  have hb68 : Below w.heap.size w w57 := (bstep hb49 hbm)
  have hl69 : w.heap.size ≤ g59 := by have z2 := (hb68).size; omega
  refine WL.val (.agg #[.int .i64 2, .slice ((some ⟨g59, 0, none⟩)) 2 2]) rfl rfl rfl (fun za zC zh zk => build_24_0_1 rfl (zh.ev rfl) (zh.ev rfl) zk) ?_
  refine WL.val (.agg #[.int .i64 1, .slice none 0 0]) rfl rfl rfl (fun za zC zh zk => build_24_0 rfl (zh.ev rfl) zk) ?_
  refine WL.val (.agg #[.int .i64 ((-2)), .slice none 0 0]) rfl rfl rfl (fun za zC zh zk => build_24_0 rfl (zh.ev rfl) zk) ?_
  refine WL.step (post := NewRow w58 24 #[.int .i64 1, .slice none 0 0, .int .i64 ((-2)), .slice none 0 0] 2) rfl rfl rfl (fun za zC zh zk => row_22_2 rfl (zh.ev rfl) (zh.ev rfl) (zk _ _ (newRow _ _ _ _))) ?_
  rintro _ w70 ⟨g71, rfl, hg72, hB73, hb74, hz75⟩
  have hb76 : Below w44.heap.size w44 w58 := (bstep hbm hb62)
  have hl77 : g2 < g71 := by have z1 := hB52.lt; have z2 := (hb76).size; omega
  have hl78 : g9 < g71 := by have z1 := hB54.lt; have z2 := (hb76).size; omega
  have hl79 : g25 < g71 := by have z1 := hB56.lt; have z2 := (hb76).size; omega
  have hl80 : g34 < g71 := by have z1 := hB46.lt; have z2 := (hb76).size; omega
  have hl81 : g59 < g71 := by have z1 := hB61.lt; omega
  have hb82 : Below w.heap.size w w58 := (bstep hb49 hb76)
  have hl83 : w.heap.size ≤ g71 := by have z2 := (hb82).size; omega
  refine WL.val (.agg #[.int .i64 2, .slice ((some ⟨g71, 0, none⟩)) 2 2]) rfl rfl rfl (fun za zC zh zk => build_24_0_1 rfl (zh.ev rfl) (zh.ev rfl) zk) ?_
  have hB84 := hB61.below hb74
  refine WL.call rfl rfl rfl (fun za zh zC => wp_call (by kernel_rfl) rfl (hv2 (zh.ev rfl) (zh.ev rfl))) (match_wk2 hB84 hB73) ?_
  rintro _ w86 ⟨rfl, hq85⟩
  refine WL.val (.tuple #[.slice none 0 0, .bool false]) rfl rfl rfl (fun za zC zh zk => wp_move rfl (zh.ev rfl) zk) ?_
  refine WL.val (.slice none 0 0) rfl rfl rfl (fun za zC zh zk => ext2_0 rfl (zh.ev rfl) zk) ?_
  refine WL.val (.bool false) rfl rfl rfl (fun za zC zh zk => ext2_1 rfl (zh.ev rfl) zk) ?_
  refine WL.val (.slice none 0 0) rfl rfl rfl (fun za zC zh zk => wp_assign rfl (zh.ev rfl) zk) ?_
  refine WL.val (.bool false) rfl rfl rfl (fun za zC zh zk => wp_assign rfl (zh.ev rfl) zk) ?_
  refine WL.nil (WE.sub (K' := [(0, .bool false), (1, .pointer (some ⟨g9, 0, none⟩)), (2, .pointer (some ⟨g34, 0, none⟩)), (3, .slice ra 2 rc), (4, .bool true), (6, .bool false)]) ⟨rfl, rfl, rfl, rfl, rfl, rfl, trivial⟩ ?_)
  refine WE.next ?_
  refine WC.seq ?_
  obtain ⟨b87, o88, A89, C90, ha91, hc92⟩ := InRow.openB hNB.isBs
  have hb93 : Below w57.heap.size w57 w86 := (bstep (bstep hb62 hb74) hq85)
  have hb95 : Below w44.heap.size w44 w86 := (bstep hbm hb93)
  have hB94 := hB54.below hb95
  have hB96 := hB46.below hb95
  have hB97 := hB52.below hb95
  have hB98 := hB56.below hb95
  refine WC.opt [(true, .val (.bool true)), (true, .val (.bool true)), ((true && true), .val (.bool false)), ((true && true), .val (.bool ((!false)))), (true, .val (.bool ((!false)))), (true, .val (.bool ((!false)))), ((true && (!false)), .val (.slice ra 2 rc)), ((true && (!false)), .val (.int .i64 2)), ((true && (!false)), .val (.bool true)), (true, .val (.bool (((!false) && true)))), (true, .val (.bool (((!false) && true)))), ((true && ((!false) && true)), .val (.slice ra 2 rc)), ((true && ((!false) && true)), .val (.pointer (some ⟨b87, o88 + 0 * 3, none⟩))), ((true && ((!false) && true)), .val (.pointer (some ⟨b87, o88 + 0 * 3 + 1, none⟩))), ((true && ((!false) && true)), .val (.pointer (some ⟨b87, o88 + 0 * 3 + 1, none⟩))), ((true && ((!false) && true)), .val (.int .i64 1)), ((true && ((!false) && true)), .val (.bool true)), (true, .val (.bool ((((!false) && true) && true)))), (true, .val (.bool ((((!false) && true) && true)))), ((true && (((!false) && true) && true)), .val (.slice ra 2 rc)), ((true && (((!false) && true) && true)), .val (.pointer (some ⟨b87, o88 + 1 * 3, none⟩))), ((true && (((!false) && true) && true)), .val (.pointer (some ⟨b87, o88 + 1 * 3 + 1, none⟩))), ((true && (((!false) && true) && true)), .val (.pointer (some ⟨b87, o88 + 1 * 3 + 1, none⟩))), ((true && (((!false) && true) && true)), .val (.int .i64 ((-1)))), ((true && (((!false) && true) && true)), .val (.bool true)), (true, .val (.bool (((((!false) && true) && true) && true)))), (true, .val (.bool (((((!false) && true) && true) && true)))), ((true && ((((!false) && true) && true) && true)), .val (.agg #[.int .i64 2, .slice ((some ⟨g2, 0, none⟩)) 2 2])), ((true && ((((!false) && true) && true) && true)), .val (.agg #[.int .i64 2, .slice ((some ⟨g25, 0, none⟩)) 2 2])), ((true && ((((!false) && true) && true) && true)), .val (.bool false)), ((true && ((((!false) && true) && true) && true)), .val (.bool ((!false)))), (true, .val (.bool ((((((!false) && true) && true) && true) && (!false))))), (true, .val (.bool ((((((!false) && true) && true) && true) && (!false)))))] [(1, .pointer (some ⟨g9, 0, none⟩)), (2, .pointer (some ⟨g34, 0, none⟩)), (3, .slice ra 2 rc), (4, .bool true), (6, .bool false)] ⟨rfl, rfl, rfl, rfl, rfl, trivial⟩ (by kernel_rfl) (by kernel_rfl) (by kernel_rfl) ?_ ?_
  · refine ⟨⟨true, .none rfl, fun h w => optUndef h, fun zβ za zw zc => ?_⟩, ?_⟩
    · exact wp_move rfl (zc.kn.ev rfl) ⟨_, rfl, Below.refl _ _, optDef zβ rfl⟩
    refine ⟨⟨true, .none rfl, fun h w => optUndef h, fun zβ za zw zc => ?_⟩, ?_⟩
    · exact wp_move rfl ((show za.eval (.tmp 33) = za.tmps.getD 33 undef from rfl).trans (optVal (zc.dep 0 33 (by kernel_rfl)) rfl rfl)) ⟨_, rfl, Below.refl _ _, optDef zβ rfl⟩
    refine ⟨⟨(true && true), .yes (c := true) (d := true) rfl (fun v w h => h), fun h w => optUndef h, fun zβ za zw zc => ?_⟩, ?_⟩
    · exact wp_move rfl (zc.kn.ev rfl) ⟨_, rfl, Below.refl _ _, optDef zβ rfl⟩
    refine ⟨⟨(true && true), .yes (c := true) (d := true) rfl (fun v w h => h), fun h w => optUndef h, fun zβ za zw zc => ?_⟩, ?_⟩
    · exact wp_not rfl ((show za.eval (.tmp 35) = za.tmps.getD 35 undef from rfl).trans (optVal (zc.dep 2 35 (by kernel_rfl)) rfl rfl)) ⟨_, rfl, Below.refl _ _, optDef zβ rfl⟩
    refine ⟨⟨true, .none rfl, fun h w => optUndef h, fun zβ za zw zc => ?_⟩, ?_⟩
    · exact wp_pickT rfl ((show za.eval (.tmp 34) = za.tmps.getD 34 undef from rfl).trans (optVal (zc.dep 1 34 (by kernel_rfl)) rfl rfl)) ((show za.eval (.tmp 36) = za.tmps.getD 36 undef from rfl).trans (optVal (zc.dep 3 36 (by kernel_rfl)) rfl rfl)) ⟨_, rfl, Below.refl _ _, optDef zβ rfl⟩
    refine ⟨⟨true, .none rfl, fun h w => optUndef h, fun zβ za zw zc => ?_⟩, ?_⟩
    · exact wp_move rfl ((show za.eval (.tmp 37) = za.tmps.getD 37 undef from rfl).trans (optVal (zc.dep 4 37 (by kernel_rfl)) rfl rfl)) ⟨_, rfl, Below.refl _ _, optDef zβ rfl⟩
    refine ⟨⟨(true && (!false)), .yes (c := (!false)) (d := true) rfl (fun v w h => h), fun h w => optUndef h, fun zβ za zw zc => ?_⟩, ?_⟩
    · exact wp_move rfl (zc.kn.ev rfl) ⟨_, rfl, Below.refl _ _, optDef zβ rfl⟩
    refine ⟨⟨(true && (!false)), .yes (c := (!false)) (d := true) rfl (fun v w h => h), fun h w => optUndef h, fun zβ za zw zc => ?_⟩, ?_⟩
    · exact len_26 rfl ((show za.eval (.tmp 39) = za.tmps.getD 39 undef from rfl).trans (optVal (zc.dep 6 39 (by kernel_rfl)) rfl rfl)) ⟨_, rfl, Below.refl _ _, optDef zβ rfl⟩
    refine ⟨⟨(true && (!false)), .yes (c := (!false)) (d := true) rfl (fun v w h => h), fun h w => optUndef h, fun zβ za zw zc => ?_⟩, ?_⟩
    · exact eql_3 rfl ((show za.eval (.tmp 40) = za.tmps.getD 40 undef from rfl).trans (optVal (zc.dep 7 40 (by kernel_rfl)) rfl rfl)) (zc.kn.ev rfl) ⟨_, rfl, Below.refl _ _, optDef zβ rfl⟩
    refine ⟨⟨true, .none rfl, fun h w => optUndef h, fun zβ za zw zc => ?_⟩, ?_⟩
    · exact wp_and rfl ((show za.eval (.tmp 38) = za.tmps.getD 38 undef from rfl).trans (optVal (zc.dep 5 38 (by kernel_rfl)) rfl rfl)) (fun hp => ((show za.eval (.tmp 41) = za.tmps.getD 41 undef from rfl).trans (optVal (zc.dep 8 41 (by kernel_rfl)) rfl rfl))) ⟨_, rfl, Below.refl _ _, optDef zβ rfl⟩
    refine ⟨⟨true, .none rfl, fun h w => optUndef h, fun zβ za zw zc => ?_⟩, ?_⟩
    · exact wp_move rfl ((show za.eval (.tmp 42) = za.tmps.getD 42 undef from rfl).trans (optVal (zc.dep 9 42 (by kernel_rfl)) rfl rfl)) ⟨_, rfl, Below.refl _ _, optDef zβ rfl⟩
    refine ⟨⟨(true && ((!false) && true)), .yes (c := ((!false) && true)) (d := true) rfl (fun v w h => h), fun h w => optUndef h, fun zβ za zw zc => ?_⟩, ?_⟩
    · exact wp_move rfl (zc.kn.ev rfl) ⟨_, rfl, Below.refl _ _, optDef zβ rfl⟩
    refine ⟨⟨(true && ((!false) && true)), .yes (c := ((!false) && true)) (d := true) rfl (fun v w h => h), fun h w => optUndef h, fun zβ za zw zc => ?_⟩, ?_⟩
    · exact ix_26 (k := 0) rfl ((show za.eval (.tmp 44) = za.tmps.getD 44 undef from rfl).trans (optVal (zc.dep 11 44 (by kernel_rfl)) rfl rfl)) (ha91 0 (by decide)) (zc.kn.ev rfl) (by first | omega | (have zz := zβ; simp only [Bool.and_eq_true, Bool.or_eq_true, Bool.true_and, Bool.not_eq_true', Bool.or_eq_false_iff, Bool.and_eq_false_iff, beq_eq_false_iff_ne, ne_eq, beq_iff_eq, decide_eq_true_eq, decide_eq_false_iff_not, bne_iff_ne] at zz; omega)) ⟨_, rfl, Below.refl _ _, optDef zβ rfl⟩
    refine ⟨⟨(true && ((!false) && true)), .yes (c := ((!false) && true)) (d := true) rfl (fun v w h => h), fun h w => optUndef h, fun zβ za zw zc => ?_⟩, ?_⟩
    · exact fld_57_1 rfl ((show za.eval (.tmp 45) = za.tmps.getD 45 undef from rfl).trans (optVal (zc.dep 12 45 (by kernel_rfl)) rfl rfl)) ⟨_, rfl, Below.refl _ _, optDef zβ rfl⟩
    refine ⟨⟨(true && ((!false) && true)), .yes (c := ((!false) && true)) (d := true) rfl (fun v w h => h), fun h w => optUndef h, fun zβ za zw zc => ?_⟩, ?_⟩
    · exact fld_24_0 rfl ((show za.eval (.tmp 46) = za.tmps.getD 46 undef from rfl).trans (optVal (zc.dep 13 46 (by kernel_rfl)) rfl rfl)) ⟨_, rfl, Below.refl _ _, optDef zβ rfl⟩
    refine ⟨⟨(true && ((!false) && true)), .yes (c := ((!false) && true)) (d := true) rfl (fun v w h => h), fun h w => optUndef h, fun zβ za zw zc => ?_⟩, ?_⟩
    · exact ld_3 rfl ((show za.eval (.tmp 47) = za.tmps.getD 47 undef from rfl).trans (optVal (zc.dep 14 47 (by kernel_rfl)) rfl rfl)) (bkeeps (bstep hb93 zc.below) _ _ (hc92 0 (by decide)).2.1) ⟨_, rfl, Below.refl _ _, optDef zβ rfl⟩
    refine ⟨⟨(true && ((!false) && true)), .yes (c := ((!false) && true)) (d := true) rfl (fun v w h => h), fun h w => optUndef h, fun zβ za zw zc => ?_⟩, ?_⟩
    · exact eql_3 rfl ((show za.eval (.tmp 48) = za.tmps.getD 48 undef from rfl).trans (optVal (zc.dep 15 48 (by kernel_rfl)) rfl rfl)) (zc.kn.ev rfl) ⟨_, rfl, Below.refl _ _, optDef zβ rfl⟩
    refine ⟨⟨true, .none rfl, fun h w => optUndef h, fun zβ za zw zc => ?_⟩, ?_⟩
    · exact wp_and rfl ((show za.eval (.tmp 43) = za.tmps.getD 43 undef from rfl).trans (optVal (zc.dep 10 43 (by kernel_rfl)) rfl rfl)) (fun hp => ((show za.eval (.tmp 49) = za.tmps.getD 49 undef from rfl).trans (optVal (zc.dep 16 49 (by kernel_rfl)) rfl rfl))) ⟨_, rfl, Below.refl _ _, optDef zβ rfl⟩
    refine ⟨⟨true, .none rfl, fun h w => optUndef h, fun zβ za zw zc => ?_⟩, ?_⟩
    · exact wp_move rfl ((show za.eval (.tmp 50) = za.tmps.getD 50 undef from rfl).trans (optVal (zc.dep 17 50 (by kernel_rfl)) rfl rfl)) ⟨_, rfl, Below.refl _ _, optDef zβ rfl⟩
    refine ⟨⟨(true && (((!false) && true) && true)), .yes (c := (((!false) && true) && true)) (d := true) rfl (fun v w h => h), fun h w => optUndef h, fun zβ za zw zc => ?_⟩, ?_⟩
    · exact wp_move rfl (zc.kn.ev rfl) ⟨_, rfl, Below.refl _ _, optDef zβ rfl⟩
    refine ⟨⟨(true && (((!false) && true) && true)), .yes (c := (((!false) && true) && true)) (d := true) rfl (fun v w h => h), fun h w => optUndef h, fun zβ za zw zc => ?_⟩, ?_⟩
    · exact ix_26 (k := 1) rfl ((show za.eval (.tmp 52) = za.tmps.getD 52 undef from rfl).trans (optVal (zc.dep 19 52 (by kernel_rfl)) rfl rfl)) (ha91 1 (by decide)) (zc.kn.ev rfl) (by first | omega | (have zz := zβ; simp only [Bool.and_eq_true, Bool.or_eq_true, Bool.true_and, Bool.not_eq_true', Bool.or_eq_false_iff, Bool.and_eq_false_iff, beq_eq_false_iff_ne, ne_eq, beq_iff_eq, decide_eq_true_eq, decide_eq_false_iff_not, bne_iff_ne] at zz; omega)) ⟨_, rfl, Below.refl _ _, optDef zβ rfl⟩
    refine ⟨⟨(true && (((!false) && true) && true)), .yes (c := (((!false) && true) && true)) (d := true) rfl (fun v w h => h), fun h w => optUndef h, fun zβ za zw zc => ?_⟩, ?_⟩
    · exact fld_57_1 rfl ((show za.eval (.tmp 53) = za.tmps.getD 53 undef from rfl).trans (optVal (zc.dep 20 53 (by kernel_rfl)) rfl rfl)) ⟨_, rfl, Below.refl _ _, optDef zβ rfl⟩
    refine ⟨⟨(true && (((!false) && true) && true)), .yes (c := (((!false) && true) && true)) (d := true) rfl (fun v w h => h), fun h w => optUndef h, fun zβ za zw zc => ?_⟩, ?_⟩
    · exact fld_24_0 rfl ((show za.eval (.tmp 54) = za.tmps.getD 54 undef from rfl).trans (optVal (zc.dep 21 54 (by kernel_rfl)) rfl rfl)) ⟨_, rfl, Below.refl _ _, optDef zβ rfl⟩
    refine ⟨⟨(true && (((!false) && true) && true)), .yes (c := (((!false) && true) && true)) (d := true) rfl (fun v w h => h), fun h w => optUndef h, fun zβ za zw zc => ?_⟩, ?_⟩
    · exact ld_3 rfl ((show za.eval (.tmp 55) = za.tmps.getD 55 undef from rfl).trans (optVal (zc.dep 22 55 (by kernel_rfl)) rfl rfl)) (bkeeps (bstep hb93 zc.below) _ _ (hc92 1 (by decide)).2.1) ⟨_, rfl, Below.refl _ _, optDef zβ rfl⟩
    refine ⟨⟨(true && (((!false) && true) && true)), .yes (c := (((!false) && true) && true)) (d := true) rfl (fun v w h => h), fun h w => optUndef h, fun zβ za zw zc => ?_⟩, ?_⟩
    · exact eql_3 rfl ((show za.eval (.tmp 56) = za.tmps.getD 56 undef from rfl).trans (optVal (zc.dep 23 56 (by kernel_rfl)) rfl rfl)) (zc.kn.ev rfl) ⟨_, rfl, Below.refl _ _, optDef zβ rfl⟩
    refine ⟨⟨true, .none rfl, fun h w => optUndef h, fun zβ za zw zc => ?_⟩, ?_⟩
    · exact wp_and rfl ((show za.eval (.tmp 51) = za.tmps.getD 51 undef from rfl).trans (optVal (zc.dep 18 51 (by kernel_rfl)) rfl rfl)) (fun hp => ((show za.eval (.tmp 57) = za.tmps.getD 57 undef from rfl).trans (optVal (zc.dep 24 57 (by kernel_rfl)) rfl rfl))) ⟨_, rfl, Below.refl _ _, optDef zβ rfl⟩
    refine ⟨⟨true, .none rfl, fun h w => optUndef h, fun zβ za zw zc => ?_⟩, ?_⟩
    · exact wp_move rfl ((show za.eval (.tmp 58) = za.tmps.getD 58 undef from rfl).trans (optVal (zc.dep 25 58 (by kernel_rfl)) rfl rfl)) ⟨_, rfl, Below.refl _ _, optDef zβ rfl⟩
    refine ⟨⟨(true && ((((!false) && true) && true) && true)), .yes (c := ((((!false) && true) && true) && true)) (d := true) rfl (fun v w h => h), fun h w => optUndef h, fun zβ za zw zc => ?_⟩, ?_⟩
    · exact ld_24 rfl (zc.kn.ev rfl) (bkeeps zc.below _ _ ((hB94.cell 0).trans rfl)) (bkeeps zc.below _ _ ((hB94.cell 1).trans rfl)) ⟨_, rfl, Below.refl _ _, optDef zβ rfl⟩
    refine ⟨⟨(true && ((((!false) && true) && true) && true)), .yes (c := ((((!false) && true) && true) && true)) (d := true) rfl (fun v w h => h), fun h w => optUndef h, fun zβ za zw zc => ?_⟩, ?_⟩
    · exact ld_24 rfl (zc.kn.ev rfl) (bkeeps zc.below _ _ ((hB96.cell 0).trans rfl)) (bkeeps zc.below _ _ ((hB96.cell 1).trans rfl)) ⟨_, rfl, Below.refl _ _, optDef zβ rfl⟩
    refine ⟨⟨(true && ((((!false) && true) && true) && true)), .yes (c := ((((!false) && true) && true) && true)) (d := true) rfl (fun v w h => h), fun h w => optUndef h, fun zβ za zw zc => ?_⟩, ?_⟩
    · exact wp_call (by kernel_rfl) rfl (hv2 ((show za.eval (.tmp 60) = za.tmps.getD 60 undef from rfl).trans (optVal (zc.dep 27 60 (by kernel_rfl)) rfl rfl)) ((show za.eval (.tmp 61) = za.tmps.getD 61 undef from rfl).trans (optVal (zc.dep 28 61 (by kernel_rfl)) rfl rfl))) (variant_wk (hB97.below zc.below) (hB98.below zc.below)) (fun v w' h => ⟨v, rfl, h.2, optDef zβ h.1⟩)
    refine ⟨⟨(true && ((((!false) && true) && true) && true)), .yes (c := ((((!false) && true) && true) && true)) (d := true) rfl (fun v w h => h), fun h w => optUndef h, fun zβ za zw zc => ?_⟩, ?_⟩
    · exact wp_not rfl ((show za.eval (.tmp 62) = za.tmps.getD 62 undef from rfl).trans (optVal (zc.dep 29 62 (by kernel_rfl)) rfl rfl)) ⟨_, rfl, Below.refl _ _, optDef zβ rfl⟩
    refine ⟨⟨true, .none rfl, fun h w => optUndef h, fun zβ za zw zc => ?_⟩, ?_⟩
    · exact wp_and rfl ((show za.eval (.tmp 59) = za.tmps.getD 59 undef from rfl).trans (optVal (zc.dep 26 59 (by kernel_rfl)) rfl rfl)) (fun hp => ((show za.eval (.tmp 63) = za.tmps.getD 63 undef from rfl).trans (optVal (zc.dep 30 63 (by kernel_rfl)) rfl rfl))) ⟨_, rfl, Below.refl _ _, optDef zβ rfl⟩
    refine ⟨⟨true, .none rfl, fun h w => optUndef h, fun zβ za zw zc => ?_⟩, ?_⟩
    · exact wp_assign rfl ((show za.eval (.tmp 64) = za.tmps.getD 64 undef from rfl).trans (optVal (zc.dep 31 64 (by kernel_rfl)) rfl rfl)) ⟨_, rfl, Below.refl _ _, optDef zβ rfl⟩
    exact trivial
  · intro za w99 zh hb100 zu
    have zh := zh.cons (d := 0) (v := .bool ((((((!false) && true) && true) && true) && (!false)))) (optVal (zu 32 0 (by kernel_rfl)) rfl rfl)
    clear zu
    refine (show WE _ [(0, .bool ((((((!false) && true) && true) && true) && (!false)))), (1, .pointer (some ⟨g9, 0, none⟩)), (2, .pointer (some ⟨g34, 0, none⟩)), (3, .slice ra 2 rc), (4, .bool true), (6, .bool false)] w99 _ .normal from ?_) za (zh.sub ⟨rfl, rfl, rfl, rfl, rfl, rfl, trivial⟩)
    refine WE.next ?_
    refine WC.ret ?_
    refine WE.ret1 rfl rfl ?_
    have hb101 : Below w.heap.size w w99 := (bstep (bstep hb49 hb95) hb100)
    exact ⟨_, rfl, rfl, hb101⟩

end Go.Proofs.Ytcmfjnadjddboaa
