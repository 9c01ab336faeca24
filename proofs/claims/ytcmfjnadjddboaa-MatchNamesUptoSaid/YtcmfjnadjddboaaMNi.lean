/- A term that is made while variables are named. -/
import Derived.Test.YtcmfjnadjddboaaMNh
import Derived.Test.YtcmfjnadjddboaaMNg
import Derived.Test.YtcmfjnadjddboaaMNb
import Derived.Test.YtcmfjnadjddboaaMNa
import Derived.WalkKit
import Derived.Test.YtcmfjnadjddboaaMNe
import Derived.Test.YtcmfjnadjddboaaMNf

/- The example that every law shows. -/
namespace Go.Proofs.Ytcmfjnadjddboaa
open Go.RowKit Go
set_option linter.unusedVariables false
set_option linter.unusedSimpArgs false

theorem inT_leaf {S : Nat → Prop} {w : World} {f : Int} (hf : I64 f) : InT S w (.mk f []) (.agg #[.int .i64 f, .slice none 0 0]) := ⟨hf, none, 0, rfl, Nat.le_refl _, Nat.zero_le _, trivial⟩
theorem isT_two {w : World} {g : Nat} {f a b : Int} (hB : Blk w g 24 #[.int .i64 a, .slice none 0 0, .int .i64 b, .slice none 0 0]) (hf : I64 f) (ha : I64 a) (hb : I64 b) : IsT w (.mk f [.mk a [], .mk b []]) (.agg #[.int .i64 f, .slice (some ⟨g, 0, none⟩) 2 2]) :=
  InT.isT (S := fun _ => True) ⟨hf, some ⟨g, 0, none⟩, 2, rfl, Nat.le_refl 2, by decide, ⟨g, 0, _, _, rfl, trivial, by rw [hB.cell]; rfl, by rw [hB.cell]; rfl, inT_leaf ha⟩, ⟨g, 0, _, _, rfl, trivial, by rw [hB.cell]; rfl, by rw [hB.cell]; rfl, inT_leaf hb⟩, trivial⟩
def two (a b : Int) : T := .mk 2 [.mk a [], .mk b []]
def wkR : List Bd := [⟨0, .mk 1 []⟩, ⟨1, .mk (-1) []⟩]
theorem i64_lit {a : Int} (h : -9223372036854775808 ≤ a ∧ a ≤ 9223372036854775807) : I64 a := by unfold I64; omega
theorem wk_mt : (two (-1) (-2)).mt [] (two 1 (-1)) = some wkR := by
  unfold two wkR
  simp [T.mt, T.mtL, subFind, T.f, T.args]
theorem wk_pl (a b : Int) : (two a b).plain = true := by
  unfold two
  simp [T.plain, T.plainL]
theorem wk_ok : mOk (two (-1) (-2)) (two 1 (-1)) [] = true ∧ mTo (two (-1) (-2)) (two 1 (-1)) [] = wkR := fin_ok (wk_pl _ _) (wk_pl _ _) wk_mt
theorem wk_no : mOk (two (-1) (-1)) (two 1 (-2)) [] = false := by
  refine (fin_no (wk_pl _ _) (wk_pl _ _) ?_).1
  unfold two
  simp [T.mt, T.mtL, subFind, T.f, T.args, T.same]
theorem wk_var : varB (two (-1) (-2)) (two 1 (-1)) = false := by
  unfold varB
  rw [(fin_no (p := two 1 (-1)) (t := two (-1) (-2)) (st := []) (wk_pl _ _) (wk_pl _ _) ?_).1, Bool.and_false]
  unfold two
  simp [T.mt, T.mtL, T.f, T.args]
theorem wk_sub : SubOf wkR wkR := by
  refine ⟨?_, fun x => ⟨fun h => ⟨h, ?_⟩, fun h => h.1⟩⟩
  · simp [wkR]
  · simp only [wkR, List.mem_cons, List.not_mem_nil, or_false] at h
    rcases h with rfl | rfl <;> rfl
theorem wk_sz (a b : Int) : (two a b).size ≤ 4294967296 := by unfold two; simp [T.size, T.sizeL]
theorem match_wk1 {w : World} {g1 g2 : Nat} (h1 : Blk w g1 24 #[.int .i64 (-1), .slice none 0 0, .int .i64 (-2), .slice none 0 0]) (h2 : Blk w g2 24 #[.int .i64 1, .slice none 0 0, .int .i64 (-1), .slice none 0 0]) : Calls Try.prog 8 #[.agg #[.int .i64 2, .slice (some ⟨g1, 0, none⟩) 2 2], .agg #[.int .i64 2, .slice (some ⟨g2, 0, none⟩) 2 2]] w (Ret fun v' w' => (∃ a c, v' = .tuple #[.slice a 2 c, .bool true] ∧ NewBs w w' wkR a c) ∧ Below w.heap.size w w') := by
  refine (match_any (two (-1) (-2)) (two 1 (-1)) w _ _ (isT_two h1 (i64_lit (by omega)) (i64_lit (by omega)) (i64_lit (by omega))) (isT_two h2 (i64_lit (by omega)) (i64_lit (by omega)) (i64_lit (by omega))) (wk_sz _ _) (wk_sz _ _)).mono ?_
  rintro e w' ⟨v, rfl, hm, hb⟩
  unfold MatchIs at hm
  rw [if_pos wk_ok.1, wk_ok.2] at hm
  obtain ⟨R, a, c, rfl, hR, hN⟩ := hm
  obtain rfl := hR.unique wk_sub
  exact ⟨_, rfl, ⟨a, c, rfl, hN⟩, hb⟩
theorem match_wk2 {w : World} {g1 g2 : Nat} (h1 : Blk w g1 24 #[.int .i64 (-1), .slice none 0 0, .int .i64 (-1), .slice none 0 0]) (h2 : Blk w g2 24 #[.int .i64 1, .slice none 0 0, .int .i64 (-2), .slice none 0 0]) : Calls Try.prog 8 #[.agg #[.int .i64 2, .slice (some ⟨g1, 0, none⟩) 2 2], .agg #[.int .i64 2, .slice (some ⟨g2, 0, none⟩) 2 2]] w (Ret fun v' w' => v' = .tuple #[.slice none 0 0, .bool false] ∧ Below w.heap.size w w') := by
  refine (match_any (two (-1) (-1)) (two 1 (-2)) w _ _ (isT_two h1 (i64_lit (by omega)) (i64_lit (by omega)) (i64_lit (by omega))) (isT_two h2 (i64_lit (by omega)) (i64_lit (by omega)) (i64_lit (by omega))) (wk_sz _ _) (wk_sz _ _)).mono ?_
  rintro e w' ⟨v, rfl, hm, hb⟩
  unfold MatchIs at hm
  rw [if_neg (by rw [wk_no]; decide)] at hm
  exact ⟨_, rfl, hm, hb⟩
theorem variant_wk {w : World} {g1 g2 : Nat} (h1 : Blk w g1 24 #[.int .i64 (-1), .slice none 0 0, .int .i64 (-2), .slice none 0 0]) (h2 : Blk w g2 24 #[.int .i64 1, .slice none 0 0, .int .i64 (-1), .slice none 0 0]) : Calls Try.prog 11 #[.agg #[.int .i64 2, .slice (some ⟨g1, 0, none⟩) 2 2], .agg #[.int .i64 2, .slice (some ⟨g2, 0, none⟩) 2 2]] w (Ret fun v' w' => v' = .bool false ∧ Below w.heap.size w w') := by
  refine (variant_any (two (-1) (-2)) (two 1 (-1)) w _ _ (isT_two h1 (i64_lit (by omega)) (i64_lit (by omega)) (i64_lit (by omega))) (isT_two h2 (i64_lit (by omega)) (i64_lit (by omega)) (i64_lit (by omega))) (wk_sz _ _) (wk_sz _ _)).mono ?_
  rintro e w' ⟨v, rfl, hm, hb⟩
  rw [wk_var] at hm
  exact ⟨_, rfl, hm, hb⟩
set_option maxRecDepth 100000 in
theorem wakes_any (w : World) : Calls Try.prog 13 #[] w (Ret fun v' w' => v' = .bool true ∧ Below w.heap.size w w') := by
  refine Calls.walk (l := []) Try.func13 rfl (by kernel_rfl) ?_
  refine WC.sub (K' := []) trivial ?_
  refine WC.seq ?_
  refine WC.region ?_
  refine WL.val (.bool false) rfl rfl rfl (fun za zC zh zk => wp_assign rfl (zh.ev rfl) zk) ?_
  refine WL.nil (WE.sub (K' := [(0, .bool false)]) ⟨rfl, trivial⟩ ?_)
  refine WE.next ?_
  refine WC.seq ?_
  refine WC.region ?_
  refine WL.val (.agg #[.int .i64 ((-1)), .slice none 0 0]) rfl rfl rfl (fun za zC zh zk => build_24_0 rfl (zh.ev rfl) zk) ?_
  refine WL.val (.agg #[.int .i64 ((-2)), .slice none 0 0]) rfl rfl rfl (fun za zC zh zk => build_24_0 rfl (zh.ev rfl) zk) ?_
  refine WL.step (post := NewRow w 24 #[.int .i64 ((-1)), .slice none 0 0, .int .i64 ((-2)), .slice none 0 0] 2) rfl rfl rfl (fun za zC zh zk => row_22_2 rfl (zh.ev rfl) (zh.ev rfl) (zk _ _ (newRow _ _ _ _))) ?_
  rintro _ w1 ⟨g2, rfl, hg3, hB4, hb5, hz6⟩
  have hl7 : w.heap.size ≤ g2 := by omega
  refine WL.val (.agg #[.int .i64 2, .slice ((some ⟨g2, 0, none⟩)) 2 2]) rfl rfl rfl (fun za zC zh zk => build_24_0_1 rfl (zh.ev rfl) (zh.ev rfl) zk) ?_
  refine WL.step (post := NewBlk w1 24 #[.int .i64 0, .slice none 0 0]) rfl rfl rfl (fun za zC zh zk => alloc_24 rfl (zk _ _ (newBlk _ _ _))) ?_
  rintro _ w8 ⟨g9, rfl, hg10, hB11, hb12, hz13⟩
  have hl14 : g2 < g9 := by have z1 := hB4.lt; omega
  have hl15 : w.heap.size ≤ g9 := by have z2 := (hb5).size; omega
  refine WL.step (post := fun _ w' => Upd g9 w8 w' ∧ Blk w' g9 24 #[.int .i64 2, .slice ((some ⟨g2, 0, none⟩)) 2 2]) rfl rfl rfl (fun za zC zh zk => st_24 rfl (zh.ev rfl) (zh.ev rfl) rfl rfl hB11 (by first | decide | simp) (fun v => zk v _ ⟨(Upd.at_ _ _ _ _).trans (Upd.at_ _ _ _ _), (hB11.set_ 0 _).set_ 1 _⟩)) ?_
  rintro v19 w16 ⟨hu17, hB18⟩
  have hb20 : Below w.heap.size w w8 := (bstep hb5 hb12)
  have hb21 := upd_below hb20 hu17 (by omega)
  have hB22 := hB4.below hb12
  have hB23 := upd_blk hB22 hu17 (by omega)
  refine WL.nil (WE.sub (K' := [(0, .bool false), (1, .pointer (some ⟨g9, 0, none⟩))]) ⟨rfl, rfl, trivial⟩ ?_)
  refine WE.next ?_
  refine WC.seq ?_
  refine WC.region ?_
  refine WL.val (.agg #[.int .i64 1, .slice none 0 0]) rfl rfl rfl (fun za zC zh zk => build_24_0 rfl (zh.ev rfl) zk) ?_
  refine WL.val (.agg #[.int .i64 ((-1)), .slice none 0 0]) rfl rfl rfl (fun za zC zh zk => build_24_0 rfl (zh.ev rfl) zk) ?_
  refine WL.step (post := NewRow w16 24 #[.int .i64 1, .slice none 0 0, .int .i64 ((-1)), .slice none 0 0] 2) rfl rfl rfl (fun za zC zh zk => row_22_2 rfl (zh.ev rfl) (zh.ev rfl) (zk _ _ (newRow _ _ _ _))) ?_
  rintro _ w24 ⟨g25, rfl, hg26, hB27, hb28, hz29⟩
  have hl30 : g2 < g25 := by have z1 := hB23.lt; omega
  have hl31 : g9 < g25 := by have z1 := hB18.lt; omega
  have hl32 : w.heap.size ≤ g25 := by have z2 := (hb21).size; omega
  refine WL.val (.agg #[.int .i64 2, .slice ((some ⟨g25, 0, none⟩)) 2 2]) rfl rfl rfl (fun za zC zh zk => build_24_0_1 rfl (zh.ev rfl) (zh.ev rfl) zk) ?_
  refine WL.step (post := NewBlk w24 24 #[.int .i64 0, .slice none 0 0]) rfl rfl rfl (fun za zC zh zk => alloc_24 rfl (zk _ _ (newBlk _ _ _))) ?_
  rintro _ w33 ⟨g34, rfl, hg35, hB36, hb37, hz38⟩
  have hl39 : g2 < g34 := by have z1 := hB23.lt; have z2 := (hb28).size; omega
  have hl40 : g9 < g34 := by have z1 := hB18.lt; have z2 := (hb28).size; omega
  have hl41 : g25 < g34 := by have z1 := hB27.lt; omega
  have hb42 : Below w.heap.size w w24 := (bstep hb21 hb28)
  have hl43 : w.heap.size ≤ g34 := by have z2 := (hb42).size; omega
  refine WL.step (post := fun _ w' => Upd g34 w33 w' ∧ Blk w' g34 24 #[.int .i64 2, .slice ((some ⟨g25, 0, none⟩)) 2 2]) rfl rfl rfl (fun za zC zh zk => st_24 rfl (zh.ev rfl) (zh.ev rfl) rfl rfl hB36 (by first | decide | simp) (fun v => zk v _ ⟨(Upd.at_ _ _ _ _).trans (Upd.at_ _ _ _ _), (hB36.set_ 0 _).set_ 1 _⟩)) ?_
  rintro v47 w44 ⟨hu45, hB46⟩
  have hb48 : Below w.heap.size w w33 := (bstep hb42 hb37)
  have hb49 := upd_below hb48 hu45 (by omega)
  have hb51 : Below w16.heap.size w16 w33 := (bstep hb28 hb37)
  have hB50 := hB23.below hb51
  have hB52 := upd_blk hB50 hu45 (by omega)
  have hB53 := hB18.below hb51
  have hB54 := upd_blk hB53 hu45 (by omega)
  have hB55 := hB27.below hb37
  have hB56 := upd_blk hB55 hu45 (by omega)
  refine WL.nil (WE.sub (K' := [(0, .bool false), (1, .pointer (some ⟨g9, 0, none⟩)), (2, .pointer (some ⟨g34, 0, none⟩))]) ⟨rfl, rfl, rfl, trivial⟩ ?_)
  refine WE.next ?_
  refine WC.seq ?_
  refine WC.region ?_
  refine WL.val (.agg #[.int .i64 2, .slice ((some ⟨g2, 0, none⟩)) 2 2]) rfl rfl rfl (fun za zC zh zk => ld_24 rfl (zh.ev rfl) ((hB54.cell 0).trans rfl) ((hB54.cell 1).trans rfl) zk) ?_
  refine WL.val (.agg #[.int .i64 2, .slice ((some ⟨g25, 0, none⟩)) 2 2]) rfl rfl rfl (fun za zC zh zk => ld_24 rfl (zh.ev rfl) ((hB46.cell 0).trans rfl) ((hB46.cell 1).trans rfl) zk) ?_
  refine WL.call rfl rfl rfl (fun za zh zC => wp_call (by kernel_rfl) rfl (hv2 (zh.ev rfl) (zh.ev rfl))) (match_wk1 hB52 hB56) ?_
  rintro _ w57 ⟨⟨ra, rc, rfl, hNB⟩, hbm⟩
  refine WL.val (.tuple #[.slice ra 2 rc, .bool true]) rfl rfl rfl (fun za zC zh zk => wp_move rfl (zh.ev rfl) zk) ?_
  refine WL.val (.slice ra 2 rc) rfl rfl rfl (fun za zC zh zk => ext2_0 rfl (zh.ev rfl) zk) ?_
  refine WL.val (.bool true) rfl rfl rfl (fun za zC zh zk => ext2_1 rfl (zh.ev rfl) zk) ?_
  refine WL.val (.slice ra 2 rc) rfl rfl rfl (fun za zC zh zk => wp_assign rfl (zh.ev rfl) zk) ?_
  refine WL.val (.bool true) rfl rfl rfl (fun za zC zh zk => wp_assign rfl (zh.ev rfl) zk) ?_
  refine WL.nil (WE.sub (K' := [(0, .bool false), (1, .pointer (some ⟨g9, 0, none⟩)), (2, .pointer (some ⟨g34, 0, none⟩)), (3, .slice ra 2 rc), (4, .bool true)]) ⟨rfl, rfl, rfl, rfl, rfl, trivial⟩ ?_)
  refine WE.next ?_
  refine WC.seq ?_
  refine WC.region ?_
  refine WL.val (.agg #[.int .i64 ((-1)), .slice none 0 0]) rfl rfl rfl (fun za zC zh zk => build_24_0 rfl (zh.ev rfl) zk) ?_
  refine WL.val (.agg #[.int .i64 ((-1)), .slice none 0 0]) rfl rfl rfl (fun za zC zh zk => build_24_0 rfl (zh.ev rfl) zk) ?_
  refine WL.step (post := NewRow w57 24 #[.int .i64 ((-1)), .slice none 0 0, .int .i64 ((-1)), .slice none 0 0] 2) rfl rfl rfl (fun za zC zh zk => row_22_2 rfl (zh.ev rfl) (zh.ev rfl) (zk _ _ (newRow _ _ _ _))) ?_
  rintro _ w58 ⟨g59, rfl, hg60, hB61, hb62, hz63⟩
  have hl64 : g2 < g59 := by have z1 := hB52.lt; have z2 := (hbm).size; omega
  have hl65 : g9 < g59 := by have z1 := hB54.lt; have z2 := (hbm).size; omega
  have hl66 : g25 < g59 := by have z1 := hB56.lt; have z2 := (hbm).size; omega
  have hl67 : g34 < g59 := by have z1 := hB46.lt; have z2 := (hbm).size; omega
  have hb68 : Below w.heap.size w w57 := (bstep hb49 hbm)
  have hl69 : w.heap.size ≤ g59 := by have z2 := (hb68).size; omega
  refine WL.val (.agg #[.int .i64 2, .slice ((some ⟨g59, 0, none⟩)) 2 2]) rfl rfl rfl (fun za zC zh zk => build_24_0_1 rfl (zh.ev rfl) (zh.ev rfl) zk) ?_
  refine WL.val (.agg #[.int .i64 1, .slice none 0 0]) rfl rfl rfl (fun za zC zh zk => build_24_0 rfl (zh.ev rfl) zk) ?_
  refine WL.val (.agg #[.int .i64 ((-2)), .slice none 0 0]) rfl rfl rfl (fun za zC zh zk => build_24_0 rfl (zh.ev rfl) zk) ?_
  refine WL.step (post := NewRow w58 24 #[.int .i64 1, .slice none 0 0, .int .i64 ((-2)), .slice none 0 0] 2) rfl rfl rfl (fun za zC zh zk => row_22_2 rfl (zh.ev rfl) (zh.ev rfl) (zk _ _ (newRow _ _ _ _))) ?_
  rintro _ w70 ⟨g71, rfl, hg72, hB73, hb74, hz75⟩
  have hb76 : Below w44.heap.size w44 w58 := (bstep hbm hb62)
  have hl77 : g2 < g71 := by have z1 := hB52.lt; have z2 := (hb76).size; omega
  have hl78 : g9 < g71 := by have z1 := hB54.lt; have z2 := (hb76).size; omega
  have hl79 : g25 < g71 := by have z1 := hB56.lt; have z2 := (hb76).size; omega
  have hl80 : g34 < g71 := by have z1 := hB46.lt; have z2 := (hb76).size; omega
  have hl81 : g59 < g71 := by have z1 := hB61.lt; omega
  have hb82 : Below w.heap.size w w58 := (bstep hb49 hb76)
  have hl83 : w.heap.size ≤ g71 := by have z2 := (hb82).size; omega
  refine WL.val (.agg #[.int .i64 2, .slice ((some ⟨g71, 0, none⟩)) 2 2]) rfl rfl rfl (fun za zC zh zk => build_24_0_1 rfl (zh.ev rfl) (zh.ev rfl) zk) ?_
  have hB84 := hB61.below hb74
  refine WL.call rfl rfl rfl (fun za zh zC => wp_call (by kernel_rfl) rfl (hv2 (zh.ev rfl) (zh.ev rfl))) (match_wk2 hB84 hB73) ?_
  rintro _ w86 ⟨rfl, hq85⟩
  refine WL.val (.tuple #[.slice none 0 0, .bool false]) rfl rfl rfl (fun za zC zh zk => wp_move rfl (zh.ev rfl) zk) ?_
  refine WL.val (.slice none 0 0) rfl rfl rfl (fun za zC zh zk => ext2_0 rfl (zh.ev rfl) zk) ?_
  refine WL.val (.bool false) rfl rfl rfl (fun za zC zh zk => ext2_1 rfl (zh.ev rfl) zk) ?_
  refine WL.val (.slice none 0 0) rfl rfl rfl (fun za zC zh zk => wp_assign rfl (zh.ev rfl) zk) ?_
  refine WL.val (.bool false) rfl rfl rfl (fun za zC zh zk => wp_assign rfl (zh.ev rfl) zk) ?_
  refine WL.nil (WE.sub (K' := [(0, .bool false), (1, .pointer (some ⟨g9, 0, none⟩)), (2, .pointer (some ⟨g34, 0, none⟩)), (3, .slice ra 2 rc), (4, .bool true), (6, .bool false)]) ⟨rfl, rfl, rfl, rfl, rfl, rfl, trivial⟩ ?_)
  refine WE.next ?_
  refine WC.seq ?_
  obtain ⟨b87, o88, A89, C90, ha91, hc92⟩ := InRow.openB hNB.isBs
  have hb93 : Below w57.heap.size w57 w86 := (bstep (bstep hb62 hb74) hq85)
  have hb95 : Below w44.heap.size w44 w86 := (bstep hbm hb93)
  have hB94 := hB54.below hb95
  have hB96 := hB46.below hb95
  have hB97 := hB52.below hb95
  have hB98 := hB56.below hb95
  refine WC.opt [(true, .val (.bool true)), (true, .val (.bool true)), ((true && true), .val (.bool false)), ((true && true), .val (.bool ((!false)))), (true, .val (.bool ((!false)))), (true, .val (.bool ((!false)))), ((true && (!false)), .val (.slice ra 2 rc)), ((true && (!false)), .val (.int .i64 2)), ((true && (!false)), .val (.bool true)), (true, .val (.bool (((!false) && true)))), (true, .val (.bool (((!false) && true)))), ((true && ((!false) && true)), .val (.slice ra 2 rc)), ((true && ((!false) && true)), .val (.pointer (some ⟨b87, o88 + 0 * 3, none⟩))), ((true && ((!false) && true)), .val (.pointer (some ⟨b87, o88 + 0 * 3 + 1, none⟩))), ((true && ((!false) && true)), .val (.pointer (some ⟨b87, o88 + 0 * 3 + 1, none⟩))), ((true && ((!false) && true)), .val (.int .i64 1)), ((true && ((!false) && true)), .val (.bool true)), (true, .val (.bool ((((!false) && true) && true)))), (true, .val (.bool ((((!false) && true) && true)))), ((true && (((!false) && true) && true)), .val (.slice ra 2 rc)), ((true && (((!false) && true) && true)), .val (.pointer (some ⟨b87, o88 + 1 * 3, none⟩))), ((true && (((!false) && true) && true)), .val (.pointer (some ⟨b87, o88 + 1 * 3 + 1, none⟩))), ((true && (((!false) && true) && true)), .val (.pointer (some ⟨b87, o88 + 1 * 3 + 1, none⟩))), ((true && (((!false) && true) && true)), .val (.int .i64 ((-1)))), ((true && (((!false) && true) && true)), .val (.bool true)), (true, .val (.bool (((((!false) && true) && true) && true)))), (true, .val (.bool (((((!false) && true) && true) && true)))), ((true && ((((!false) && true) && true) && true)), .val (.agg #[.int .i64 2, .slice ((some ⟨g2, 0, none⟩)) 2 2])), ((true && ((((!false) && true) && true) && true)), .val (.agg #[.int .i64 2, .slice ((some ⟨g25, 0, none⟩)) 2 2])), ((true && ((((!false) && true) && true) && true)), .val (.bool false)), ((true && ((((!false) && true) && true) && true)), .val (.bool ((!false)))), (true, .val (.bool ((((((!false) && true) && true) && true) && (!false))))), (true, .val (.bool ((((((!false) && true) && true) && true) && (!false)))))] [(1, .pointer (some ⟨g9, 0, none⟩)), (2, .pointer (some ⟨g34, 0, none⟩)), (3, .slice ra 2 rc), (4, .bool true), (6, .bool false)] ⟨rfl, rfl, rfl, rfl, rfl, trivial⟩ (by kernel_rfl) (by kernel_rfl) (by kernel_rfl) ?_ ?_
  · refine ⟨⟨true, .none rfl, fun h w => optUndef h, fun zβ za zw zc => ?_⟩, ?_⟩
    · exact wp_move rfl (zc.kn.ev rfl) ⟨_, rfl, Below.refl _ _, optDef zβ rfl⟩
    refine ⟨⟨true, .none rfl, fun h w => optUndef h, fun zβ za zw zc => ?_⟩, ?_⟩
    · exact wp_move rfl ((show za.eval (.tmp 33) = za.tmps.getD 33 undef from rfl).trans (optVal (zc.dep 0 33 (by kernel_rfl)) rfl rfl)) ⟨_, rfl, Below.refl _ _, optDef zβ rfl⟩
    refine ⟨⟨(true && true), .yes (c := true) (d := true) rfl (fun v w h => h), fun h w => optUndef h, fun zβ za zw zc => ?_⟩, ?_⟩
    · exact wp_move rfl (zc.kn.ev rfl) ⟨_, rfl, Below.refl _ _, optDef zβ rfl⟩
    refine ⟨⟨(true && true), .yes (c := true) (d := true) rfl (fun v w h => h), fun h w => optUndef h, fun zβ za zw zc => ?_⟩, ?_⟩
    · exact wp_not rfl ((show za.eval (.tmp 35) = za.tmps.getD 35 undef from rfl).trans (optVal (zc.dep 2 35 (by kernel_rfl)) rfl rfl)) ⟨_, rfl, Below.refl _ _, optDef zβ rfl⟩
    refine ⟨⟨true, .none rfl, fun h w => optUndef h, fun zβ za zw zc => ?_⟩, ?_⟩
    · exact wp_pickT rfl ((show za.eval (.tmp 34) = za.tmps.getD 34 undef from rfl).trans (optVal (zc.dep 1 34 (by kernel_rfl)) rfl rfl)) ((show za.eval (.tmp 36) = za.tmps.getD 36 undef from rfl).trans (optVal (zc.dep 3 36 (by kernel_rfl)) rfl rfl)) ⟨_, rfl, Below.refl _ _, optDef zβ rfl⟩
    refine ⟨⟨true, .none rfl, fun h w => optUndef h, fun zβ za zw zc => ?_⟩, ?_⟩
    · exact wp_move rfl ((show za.eval (.tmp 37) = za.tmps.getD 37 undef from rfl).trans (optVal (zc.dep 4 37 (by kernel_rfl)) rfl rfl)) ⟨_, rfl, Below.refl _ _, optDef zβ rfl⟩
    refine ⟨⟨(true && (!false)), .yes (c := (!false)) (d := true) rfl (fun v w h => h), fun h w => optUndef h, fun zβ za zw zc => ?_⟩, ?_⟩
    · exact wp_move rfl (zc.kn.ev rfl) ⟨_, rfl, Below.refl _ _, optDef zβ rfl⟩
    refine ⟨⟨(true && (!false)), .yes (c := (!false)) (d := true) rfl (fun v w h => h), fun h w => optUndef h, fun zβ za zw zc => ?_⟩, ?_⟩
    · exact len_26 rfl ((show za.eval (.tmp 39) = za.tmps.getD 39 undef from rfl).trans (optVal (zc.dep 6 39 (by kernel_rfl)) rfl rfl)) ⟨_, rfl, Below.refl _ _, optDef zβ rfl⟩
    refine ⟨⟨(true && (!false)), .yes (c := (!false)) (d := true) rfl (fun v w h => h), fun h w => optUndef h, fun zβ za zw zc => ?_⟩, ?_⟩
    · exact eql_3 rfl ((show za.eval (.tmp 40) = za.tmps.getD 40 undef from rfl).trans (optVal (zc.dep 7 40 (by kernel_rfl)) rfl rfl)) (zc.kn.ev rfl) ⟨_, rfl, Below.refl _ _, optDef zβ rfl⟩
    refine ⟨⟨true, .none rfl, fun h w => optUndef h, fun zβ za zw zc => ?_⟩, ?_⟩
    · exact wp_and rfl ((show za.eval (.tmp 38) = za.tmps.getD 38 undef from rfl).trans (optVal (zc.dep 5 38 (by kernel_rfl)) rfl rfl)) (fun hp => ((show za.eval (.tmp 41) = za.tmps.getD 41 undef from rfl).trans (optVal (zc.dep 8 41 (by kernel_rfl)) rfl rfl))) ⟨_, rfl, Below.refl _ _, optDef zβ rfl⟩
    refine ⟨⟨true, .none rfl, fun h w => optUndef h, fun zβ za zw zc => ?_⟩, ?_⟩
    · exact wp_move rfl ((show za.eval (.tmp 42) = za.tmps.getD 42 undef from rfl).trans (optVal (zc.dep 9 42 (by kernel_rfl)) rfl rfl)) ⟨_, rfl, Below.refl _ _, optDef zβ rfl⟩
    refine ⟨⟨(true && ((!false) && true)), .yes (c := ((!false) && true)) (d := true) rfl (fun v w h => h), fun h w => optUndef h, fun zβ za zw zc => ?_⟩, ?_⟩
    · exact wp_move rfl (zc.kn.ev rfl) ⟨_, rfl, Below.refl _ _, optDef zβ rfl⟩
    refine ⟨⟨(true && ((!false) && true)), .yes (c := ((!false) && true)) (d := true) rfl (fun v w h => h), fun h w => optUndef h, fun zβ za zw zc => ?_⟩, ?_⟩
    · exact ix_26 (k := 0) rfl ((show za.eval (.tmp 44) = za.tmps.getD 44 undef from rfl).trans (optVal (zc.dep 11 44 (by kernel_rfl)) rfl rfl)) (ha91 0 (by decide)) (zc.kn.ev rfl) (by first | omega | (have zz := zβ; simp only [Bool.and_eq_true, Bool.or_eq_true, Bool.true_and, Bool.not_eq_true', Bool.or_eq_false_iff, Bool.and_eq_false_iff, beq_eq_false_iff_ne, ne_eq, beq_iff_eq, decide_eq_true_eq, decide_eq_false_iff_not, bne_iff_ne] at zz; omega)) ⟨_, rfl, Below.refl _ _, optDef zβ rfl⟩
    refine ⟨⟨(true && ((!false) && true)), .yes (c := ((!false) && true)) (d := true) rfl (fun v w h => h), fun h w => optUndef h, fun zβ za zw zc => ?_⟩, ?_⟩
    · exact fld_57_1 rfl ((show za.eval (.tmp 45) = za.tmps.getD 45 undef from rfl).trans (optVal (zc.dep 12 45 (by kernel_rfl)) rfl rfl)) ⟨_, rfl, Below.refl _ _, optDef zβ rfl⟩
    refine ⟨⟨(true && ((!false) && true)), .yes (c := ((!false) && true)) (d := true) rfl (fun v w h => h), fun h w => optUndef h, fun zβ za zw zc => ?_⟩, ?_⟩
    · exact fld_24_0 rfl ((show za.eval (.tmp 46) = za.tmps.getD 46 undef from rfl).trans (optVal (zc.dep 13 46 (by kernel_rfl)) rfl rfl)) ⟨_, rfl, Below.refl _ _, optDef zβ rfl⟩
    refine ⟨⟨(true && ((!false) && true)), .yes (c := ((!false) && true)) (d := true) rfl (fun v w h => h), fun h w => optUndef h, fun zβ za zw zc => ?_⟩, ?_⟩
    · exact ld_3 rfl ((show za.eval (.tmp 47) = za.tmps.getD 47 undef from rfl).trans (optVal (zc.dep 14 47 (by kernel_rfl)) rfl rfl)) (bkeeps (bstep hb93 zc.below) _ _ (hc92 0 (by decide)).2.1) ⟨_, rfl, Below.refl _ _, optDef zβ rfl⟩
    refine ⟨⟨(true && ((!false) && true)), .yes (c := ((!false) && true)) (d := true) rfl (fun v w h => h), fun h w => optUndef h, fun zβ za zw zc => ?_⟩, ?_⟩
    · exact eql_3 rfl ((show za.eval (.tmp 48) = za.tmps.getD 48 undef from rfl).trans (optVal (zc.dep 15 48 (by kernel_rfl)) rfl rfl)) (zc.kn.ev rfl) ⟨_, rfl, Below.refl _ _, optDef zβ rfl⟩
    refine ⟨⟨true, .none rfl, fun h w => optUndef h, fun zβ za zw zc => ?_⟩, ?_⟩
    · exact wp_and rfl ((show za.eval (.tmp 43) = za.tmps.getD 43 undef from rfl).trans (optVal (zc.dep 10 43 (by kernel_rfl)) rfl rfl)) (fun hp => ((show za.eval (.tmp 49) = za.tmps.getD 49 undef from rfl).trans (optVal (zc.dep 16 49 (by kernel_rfl)) rfl rfl))) ⟨_, rfl, Below.refl _ _, optDef zβ rfl⟩
    refine ⟨⟨true, .none rfl, fun h w => optUndef h, fun zβ za zw zc => ?_⟩, ?_⟩
    · exact wp_move rfl ((show za.eval (.tmp 50) = za.tmps.getD 50 undef from rfl).trans (optVal (zc.dep 17 50 (by kernel_rfl)) rfl rfl)) ⟨_, rfl, Below.refl _ _, optDef zβ rfl⟩
    refine ⟨⟨(true && (((!false) && true) && true)), .yes (c := (((!false) && true) && true)) (d := true) rfl (fun v w h => h), fun h w => optUndef h, fun zβ za zw zc => ?_⟩, ?_⟩
    · exact wp_move rfl (zc.kn.ev rfl) ⟨_, rfl, Below.refl _ _, optDef zβ rfl⟩
    refine ⟨⟨(true && (((!false) && true) && true)), .yes (c := (((!false) && true) && true)) (d := true) rfl (fun v w h => h), fun h w => optUndef h, fun zβ za zw zc => ?_⟩, ?_⟩
    · exact ix_26 (k := 1) rfl ((show za.eval (.tmp 52) = za.tmps.getD 52 undef from rfl).trans (optVal (zc.dep 19 52 (by kernel_rfl)) rfl rfl)) (ha91 1 (by decide)) (zc.kn.ev rfl) (by first | omega | (have zz := zβ; simp only [Bool.and_eq_true, Bool.or_eq_true, Bool.true_and, Bool.not_eq_true', Bool.or_eq_false_iff, Bool.and_eq_false_iff, beq_eq_false_iff_ne, ne_eq, beq_iff_eq, decide_eq_true_eq, decide_eq_false_iff_not, bne_iff_ne] at zz; omega)) ⟨_, rfl, Below.refl _ _, optDef zβ rfl⟩
    refine ⟨⟨(true && (((!false) && true) && true)), .yes (c := (((!false) && true) && true)) (d := true) rfl (fun v w h => h), fun h w => optUndef h, fun zβ za zw zc => ?_⟩, ?_⟩
    · exact fld_57_1 rfl ((show za.eval (.tmp 53) = za.tmps.getD 53 undef from rfl).trans (optVal (zc.dep 20 53 (by kernel_rfl)) rfl rfl)) ⟨_, rfl, Below.refl _ _, optDef zβ rfl⟩
    refine ⟨⟨(true && (((!false) && true) && true)), .yes (c := (((!false) && true) && true)) (d := true) rfl (fun v w h => h), fun h w => optUndef h, fun zβ za zw zc => ?_⟩, ?_⟩
    · exact fld_24_0 rfl ((show za.eval (.tmp 54) = za.tmps.getD 54 undef from rfl).trans (optVal (zc.dep 21 54 (by kernel_rfl)) rfl rfl)) ⟨_, rfl, Below.refl _ _, optDef zβ rfl⟩
    refine ⟨⟨(true && (((!false) && true) && true)), .yes (c := (((!false) && true) && true)) (d := true) rfl (fun v w h => h), fun h w => optUndef h, fun zβ za zw zc => ?_⟩, ?_⟩
    · exact ld_3 rfl ((show za.eval (.tmp 55) = za.tmps.getD 55 undef from rfl).trans (optVal (zc.dep 22 55 (by kernel_rfl)) rfl rfl)) (bkeeps (bstep hb93 zc.below) _ _ (hc92 1 (by decide)).2.1) ⟨_, rfl, Below.refl _ _, optDef zβ rfl⟩
    refine ⟨⟨(true && (((!false) && true) && true)), .yes (c := (((!false) && true) && true)) (d := true) rfl (fun v w h => h), fun h w => optUndef h, fun zβ za zw zc => ?_⟩, ?_⟩
    · exact eql_3 rfl ((show za.eval (.tmp 56) = za.tmps.getD 56 undef from rfl).trans (optVal (zc.dep 23 56 (by kernel_rfl)) rfl rfl)) (zc.kn.ev rfl) ⟨_, rfl, Below.refl _ _, optDef zβ rfl⟩
    refine ⟨⟨true, .none rfl, fun h w => optUndef h, fun zβ za zw zc => ?_⟩, ?_⟩
    · exact wp_and rfl ((show za.eval (.tmp 51) = za.tmps.getD 51 undef from rfl).trans (optVal (zc.dep 18 51 (by kernel_rfl)) rfl rfl)) (fun hp => ((show za.eval (.tmp 57) = za.tmps.getD 57 undef from rfl).trans (optVal (zc.dep 24 57 (by kernel_rfl)) rfl rfl))) ⟨_, rfl, Below.refl _ _, optDef zβ rfl⟩
    refine ⟨⟨true, .none rfl, fun h w => optUndef h, fun zβ za zw zc => ?_⟩, ?_⟩
    · exact wp_move rfl ((show za.eval (.tmp 58) = za.tmps.getD 58 undef from rfl).trans (optVal (zc.dep 25 58 (by kernel_rfl)) rfl rfl)) ⟨_, rfl, Below.refl _ _, optDef zβ rfl⟩
    refine ⟨⟨(true && ((((!false) && true) && true) && true)), .yes (c := ((((!false) && true) && true) && true)) (d := true) rfl (fun v w h => h), fun h w => optUndef h, fun zβ za zw zc => ?_⟩, ?_⟩
    · exact ld_24 rfl (zc.kn.ev rfl) (bkeeps zc.below _ _ ((hB94.cell 0).trans rfl)) (bkeeps zc.below _ _ ((hB94.cell 1).trans rfl)) ⟨_, rfl, Below.refl _ _, optDef zβ rfl⟩
    refine ⟨⟨(true && ((((!false) && true) && true) && true)), .yes (c := ((((!false) && true) && true) && true)) (d := true) rfl (fun v w h => h), fun h w => optUndef h, fun zβ za zw zc => ?_⟩, ?_⟩
    · exact ld_24 rfl (zc.kn.ev rfl) (bkeeps zc.below _ _ ((hB96.cell 0).trans rfl)) (bkeeps zc.below _ _ ((hB96.cell 1).trans rfl)) ⟨_, rfl, Below.refl _ _, optDef zβ rfl⟩
    refine ⟨⟨(true && ((((!false) && true) && true) && true)), .yes (c := ((((!false) && true) && true) && true)) (d := true) rfl (fun v w h => h), fun h w => optUndef h, fun zβ za zw zc => ?_⟩, ?_⟩
    · exact wp_call (by kernel_rfl) rfl (hv2 ((show za.eval (.tmp 60) = za.tmps.getD 60 undef from rfl).trans (optVal (zc.dep 27 60 (by kernel_rfl)) rfl rfl)) ((show za.eval (.tmp 61) = za.tmps.getD 61 undef from rfl).trans (optVal (zc.dep 28 61 (by kernel_rfl)) rfl rfl))) (variant_wk (hB97.below zc.below) (hB98.below zc.below)) (fun v w' h => ⟨v, rfl, h.2, optDef zβ h.1⟩)
    refine ⟨⟨(true && ((((!false) && true) && true) && true)), .yes (c := ((((!false) && true) && true) && true)) (d := true) rfl (fun v w h => h), fun h w => optUndef h, fun zβ za zw zc => ?_⟩, ?_⟩
    · exact wp_not rfl ((show za.eval (.tmp 62) = za.tmps.getD 62 undef from rfl).trans (optVal (zc.dep 29 62 (by kernel_rfl)) rfl rfl)) ⟨_, rfl, Below.refl _ _, optDef zβ rfl⟩
    refine ⟨⟨true, .none rfl, fun h w => optUndef h, fun zβ za zw zc => ?_⟩, ?_⟩
    · exact wp_and rfl ((show za.eval (.tmp 59) = za.tmps.getD 59 undef from rfl).trans (optVal (zc.dep 26 59 (by kernel_rfl)) rfl rfl)) (fun hp => ((show za.eval (.tmp 63) = za.tmps.getD 63 undef from rfl).trans (optVal (zc.dep 30 63 (by kernel_rfl)) rfl rfl))) ⟨_, rfl, Below.refl _ _, optDef zβ rfl⟩
    refine ⟨⟨true, .none rfl, fun h w => optUndef h, fun zβ za zw zc => ?_⟩, ?_⟩
    · exact wp_assign rfl ((show za.eval (.tmp 64) = za.tmps.getD 64 undef from rfl).trans (optVal (zc.dep 31 64 (by kernel_rfl)) rfl rfl)) ⟨_, rfl, Below.refl _ _, optDef zβ rfl⟩
    exact trivial
  · intro za w99 zh hb100 zu
    have zh := zh.cons (d := 0) (v := .bool ((((((!false) && true) && true) && true) && (!false)))) (optVal (zu 32 0 (by kernel_rfl)) rfl rfl)
    clear zu
    refine (show WE _ [(0, .bool ((((((!false) && true) && true) && true) && (!false)))), (1, .pointer (some ⟨g9, 0, none⟩)), (2, .pointer (some ⟨g34, 0, none⟩)), (3, .slice ra 2 rc), (4, .bool true), (6, .bool false)] w99 _ .normal from ?_) za (zh.sub ⟨rfl, rfl, rfl, rfl, rfl, rfl, trivial⟩)
    refine WE.next ?_
    refine WC.ret ?_
    refine WE.ret1 rfl rfl ?_
    have hb101 : Below w.heap.size w w99 := (bstep (bstep hb49 hb95) hb100)
    exact ⟨_, rfl, rfl, hb101⟩

end Go.Proofs.Ytcmfjnadjddboaa

/- Sizes, depths, variables: the document's program. -/
namespace Go.Proofs.Ytcmfjnadjddboaa
open Go.RowKit Go
set_option linter.unusedVariables false
set_option linter.unusedSimpArgs false

set_option maxRecDepth 100000 in
theorem rsize_any : ∀ (t : T) (w : World) (v : Value), t.size ≤ 4294967296 → IsT w t v → Calls Try.prog 44 #[v] w (Ret fun v' w' => v' = .int .i64 (t.size : Nat) ∧ Below w.heap.size w w') := by
  refine T.ind (fun f l ih => ?_)
  intro w v hz hv
  have hv0 := hv
  have hlen := len_le_sizeL l
  have hz' := hz
  simp only [T.size] at hz'
  obtain ⟨hf, a, c, rfl, hc, hm, hl⟩ := hv
  have hf' := hf
  unfold I64 at hf'
  refine Calls.walk (l := [.agg #[.int .i64 f, .slice a l.length c]]) Try.func44 rfl (by kernel_rfl) ?_
  refine WC.sub (K' := [(0, .agg #[.int .i64 f, .slice a l.length c])]) ⟨rfl, trivial⟩ ?_
  refine WC.seq ?_
  refine WC.region ?_
  refine WL.step (post := NewBlk w 24 #[.int .i64 f, .slice a l.length c]) rfl rfl rfl (fun za zC zh zk => box_24 rfl (zh.ev rfl) (zk _ _ (newBlk _ _ _))) ?_
  rintro _ w1 ⟨g2, rfl, hg3, hB4, hb5, hz6⟩
  have hl7 : w.heap.size ≤ g2 := by omega
  refine WL.val (.int .i64 0) rfl rfl rfl (fun za zC zh zk => wp_assign rfl (zh.ev rfl) zk) ?_
  refine WL.nil (WE.sub (K' := [(0, .agg #[.int .i64 f, .slice a l.length c]), (1, .pointer (some ⟨g2, 0, none⟩)), (2, .int .i64 0)]) ⟨rfl, rfl, rfl, trivial⟩ ?_)
  refine WE.next ?_
  refine WC.seq ?_
  refine WC.region ?_
  refine WL.val (.int .i64 1) rfl rfl rfl (fun za zC zh zk => wp_assign rfl (zh.ev rfl) zk) ?_
  refine WL.nil (WE.sub (K' := [(0, .agg #[.int .i64 f, .slice a l.length c]), (1, .pointer (some ⟨g2, 0, none⟩)), (2, .int .i64 0), (3, .int .i64 1)]) ⟨rfl, rfl, rfl, rfl, trivial⟩ ?_)
  refine WE.next ?_
  refine WC.seq ?_
  refine WC.seq ?_
  refine WC.region ?_
  refine WL.val (.int .i64 0) rfl rfl rfl (fun za zC zh zk => wp_assign rfl (zh.ev rfl) zk) ?_
  refine WL.nil (WE.sub (K' := [(0, .agg #[.int .i64 f, .slice a l.length c]), (1, .pointer (some ⟨g2, 0, none⟩)), (2, .int .i64 0), (3, .int .i64 1), (4, .int .i64 0)]) ⟨rfl, rfl, rfl, rfl, rfl, trivial⟩ ?_)
  refine WE.next ?_
  refine WC.block ?_
  refine WC.loop (X := Nat) (fun k => l.length - k) (fun k => [(0, .agg #[.int .i64 f, .slice a l.length c]), (1, .pointer (some ⟨g2, 0, none⟩)), (2, .int .i64 0), (3, .int .i64 ((((1 + T.sizeL (l.take k)) : Nat) : Int))), (4, .int .i64 (((k : Nat) : Int)))]) (fun k w8 => k ≤ l.length ∧ Below w.heap.size w w8 ∧ Blk w8 g2 24 #[.int .i64 f, .slice a l.length c]) 0 ⟨rfl, rfl, rfl, rfl, rfl, trivial⟩ ?_ ?_
  · exact ⟨Nat.zero_le _, hb5, hB4⟩
  · rintro k w8 ⟨hk, hb9, hB10⟩
    refine WC.seq ?_
    refine WC.seq ?_
    refine WC.region ?_
    refine WL.val (.int .i64 (((k : Nat) : Int))) rfl rfl rfl (fun za zC zh zk => wp_move rfl (zh.ev rfl) zk) ?_
    refine WL.val (.pointer (some ⟨g2, 1, none⟩)) rfl rfl rfl (fun za zC zh zk => fld_24_1 rfl (zh.ev rfl) zk) ?_
    refine WL.val (.slice a l.length c) rfl rfl rfl (fun za zC zh zk => ld_22 rfl (zh.ev rfl) ((hB10.cell 1).trans rfl) zk) ?_
    refine WL.val (.int .i64 (((l.length : Nat) : Int))) rfl rfl rfl (fun za zC zh zk => len_22 rfl (zh.ev rfl) zk) ?_
    refine WL.val (.bool ((decide ((((k : Nat) : Int) : Int) < (((l.length : Nat) : Int) : Int))))) rfl rfl rfl (fun za zC zh zk => lss_3 rfl (zh.ev rfl) (zh.ev rfl) zk) ?_
    refine WL.nil (WE.sub (K' := [(0, .agg #[.int .i64 f, .slice a l.length c]), (1, .pointer (some ⟨g2, 0, none⟩)), (2, .int .i64 0), (3, .int .i64 ((((1 + T.sizeL (l.take k)) : Nat) : Int))), (4, .int .i64 (((k : Nat) : Int))), (9, .bool ((decide ((((k : Nat) : Int) : Int) < (((l.length : Nat) : Int) : Int)))))]) ⟨rfl, rfl, rfl, rfl, rfl, rfl, trivial⟩ ?_)
    refine WE.next ?_
    refine WC.cond rfl (fun h11 => ?_) (fun h11 => ?_)
    · have h11 : (((k : Nat) : Int) : Int) < (((l.length : Nat) : Int) : Int) := by simpa using h11
      refine WC.skip ?_
      refine WE.next ?_
      refine WC.seq ?_
      refine WC.block ?_
      refine WC.region ?_
      refine WL.val (.int .i64 ((((1 + T.sizeL (l.take k)) : Nat) : Int))) rfl rfl rfl (fun za zC zh zk => wp_move rfl (zh.ev rfl) zk) ?_
      refine WL.val (.pointer (some ⟨g2, 1, none⟩)) rfl rfl rfl (fun za zC zh zk => fld_24_1 rfl (zh.ev rfl) zk) ?_
      refine WL.val (.slice a l.length c) rfl rfl rfl (fun za zC zh zk => ld_22 rfl (zh.ev rfl) ((hB10.cell 1).trans rfl) zk) ?_
      refine WL.val (.int .i64 (((k : Nat) : Int))) rfl rfl rfl (fun za zC zh zk => wp_move rfl (zh.ev rfl) zk) ?_
      obtain ⟨b12, o13, A14, C15, ha16, hc17⟩ := IsTs.open hl
      refine WL.val (.pointer (some ⟨b12, o13 + k * 2, none⟩)) rfl rfl rfl (fun za zC zh zk => ix_22 (k := k) rfl (zh.ev rfl) (ha16 k (by first | omega | (simp; omega))) (zh.ev rfl) (by first | omega | (simp; omega)) zk) ?_
      refine WL.val (.agg #[.int .i64 ((tget l k).f), .slice ((A14 k)) ((tget l k).args.length) ((C15 k))]) rfl rfl rfl (fun za zC zh zk => ld_24 rfl (zh.ev rfl) (bkeeps hb9 _ _ (hc17 k (by first | omega | (simp; omega))).1) (bkeeps hb9 _ _ (hc17 k (by first | omega | (simp; omega))).2.1) zk) ?_
      refine WL.call rfl rfl rfl (fun za zh zC => wp_call (by kernel_rfl) rfl (hv1 (zh.ev rfl))) (ih _ (tget_mem (by omega)) _ _ (size_at (by omega) hz) (IsT.below hb9 (hc17 k (by first | omega | (simp; omega))).2.2)) ?_
      rintro _ w19 ⟨rfl, hq18⟩
      refine WL.val (.int .i64 ((((1 + T.sizeL (l.take (k + 1))) : Nat) : Int))) rfl rfl rfl (fun za zC zh zk => addb_3 rfl (zh.ev rfl) (zh.ev rfl) (wrap_eq (by rw [sizeL_take1 (by omega)]; omega) (by omega) (by have z := sizeL_take1 (l := l) (k := k) (by omega); have z2 := T.sizeL_take_le l (k + 1); omega)) zk) ?_
      refine WL.val (.int .i64 ((((1 + T.sizeL (l.take (k + 1))) : Nat) : Int))) rfl rfl rfl (fun za zC zh zk => wp_assign rfl (zh.ev rfl) zk) ?_
      refine WL.nil (WE.sub (K' := [(0, .agg #[.int .i64 f, .slice a l.length c]), (1, .pointer (some ⟨g2, 0, none⟩)), (2, .int .i64 0), (3, .int .i64 ((((1 + T.sizeL (l.take (k + 1))) : Nat) : Int))), (4, .int .i64 (((k : Nat) : Int))), (9, .bool ((decide ((((k : Nat) : Int) : Int) < (((l.length : Nat) : Int) : Int)))))]) ⟨rfl, rfl, rfl, rfl, rfl, rfl, trivial⟩ ?_)
      refine WE.blockNormal ?_
      refine WE.next ?_
      refine WC.region ?_
      refine WL.val (.int .i64 (((k : Nat) : Int))) rfl rfl rfl (fun za zC zh zk => wp_move rfl (zh.ev rfl) zk) ?_
      refine WL.val (.int .i64 ((((k + 1) : Nat) : Int))) rfl rfl rfl (fun za zC zh zk => addb_3 rfl (zh.ev rfl) (zh.ev rfl) (wrap_eq (by omega) (by omega) (by omega)) zk) ?_
      refine WL.val (.int .i64 ((((k + 1) : Nat) : Int))) rfl rfl rfl (fun za zC zh zk => wp_assign rfl (zh.ev rfl) zk) ?_
      refine WL.nil (WE.sub (K' := [(0, .agg #[.int .i64 f, .slice a l.length c]), (1, .pointer (some ⟨g2, 0, none⟩)), (2, .int .i64 0), (3, .int .i64 ((((1 + T.sizeL (l.take (k + 1))) : Nat) : Int))), (4, .int .i64 ((((k + 1) : Nat) : Int))), (9, .bool ((decide ((((k : Nat) : Int) : Int) < (((l.length : Nat) : Int) : Int)))))]) ⟨rfl, rfl, rfl, rfl, rfl, rfl, trivial⟩ ?_)
      refine WE.round (k + 1) ⟨rfl, rfl, rfl, rfl, rfl, trivial⟩ ?_ ?_
      · have hb20 : Below w.heap.size w w19 := (bstep hb9 hq18)
        have hB21 := hB10.below hq18
        exact ⟨by omega, hb20, hB21⟩
      · omega
    · have h11 : ¬ ((((k : Nat) : Int) : Int) < (((l.length : Nat) : Int) : Int)) := by simpa using h11
      refine WC.exit ?_
      refine WE.thenExit ?_
      refine WE.thenExit ?_
      refine WE.blockIs rfl ?_
      refine WE.next ?_
      refine WC.seq ?_
      refine WC.region ?_
      refine WL.val (.int .i64 ((((1 + T.sizeL (l.take k)) : Nat) : Int))) rfl rfl rfl (fun za zC zh zk => wp_move rfl (zh.ev rfl) zk) ?_
      refine WL.val (.int .i64 ((((1 + T.sizeL (l.take k)) : Nat) : Int))) rfl rfl rfl (fun za zC zh zk => wp_assign rfl (zh.ev rfl) zk) ?_
      refine WL.nil (WE.sub (K' := [(0, .agg #[.int .i64 f, .slice a l.length c]), (1, .pointer (some ⟨g2, 0, none⟩)), (2, .int .i64 ((((1 + T.sizeL (l.take k)) : Nat) : Int))), (3, .int .i64 ((((1 + T.sizeL (l.take k)) : Nat) : Int))), (4, .int .i64 (((k : Nat) : Int))), (9, .bool ((decide ((((k : Nat) : Int) : Int) < (((l.length : Nat) : Int) : Int)))))]) ⟨rfl, rfl, rfl, rfl, rfl, rfl, trivial⟩ ?_)
      refine WE.next ?_
      refine WC.ret ?_
      refine WE.ret1 rfl rfl ?_
      refine ⟨_, rfl, ?_, hb9⟩
      rw [List.take_of_length_le (show l.length ≤ k by omega), T.size]

theorem wp_max2 {P : Program} {w : World} {a : Act} {K : Act → World → Prop} {Q : Exit → Act → World → Prop} {o : Oper} {x y : Operand} {m n r : Int} (ho : o.op = .call { callee := .builtin .max, args := #[x, y], argTypes := #[3, 3] }) (hx : a.eval x = .int .i64 m) (hy : a.eval y = .int .i64 n) (hr : r = max m n) (hK : K (a.put o.dst (.int .i64 r)) w) : o.wp P a w K Q := by
  subst hr
  unfold Oper.wp execOp
  simp only [ho, resolve, invoke, builtin, Sem.run_bind, Sem.run_pure, Result.andThen_ok, List.map_toArray, List.map_cons, List.map_nil, hx, hy]
  go_simp
  exact hK
set_option maxRecDepth 100000 in
theorem rdepth_any : ∀ (t : T) (w : World) (v : Value), t.size ≤ 4294967296 → IsT w t v → Calls Try.prog 45 #[v] w (Ret fun v' w' => v' = .int .i64 (t.dep : Nat) ∧ Below w.heap.size w w') := by
  refine T.ind (fun f l ih => ?_)
  intro w v hz hv
  have hv0 := hv
  have hlen := len_le_sizeL l
  have hz' := hz
  simp only [T.size] at hz'
  obtain ⟨hf, a, c, rfl, hc, hm, hl⟩ := hv
  have hf' := hf
  unfold I64 at hf'
  refine Calls.walk (l := [.agg #[.int .i64 f, .slice a l.length c]]) Try.func45 rfl (by kernel_rfl) ?_
  refine WC.sub (K' := [(0, .agg #[.int .i64 f, .slice a l.length c])]) ⟨rfl, trivial⟩ ?_
  refine WC.seq ?_
  refine WC.region ?_
  refine WL.step (post := NewBlk w 24 #[.int .i64 f, .slice a l.length c]) rfl rfl rfl (fun za zC zh zk => box_24 rfl (zh.ev rfl) (zk _ _ (newBlk _ _ _))) ?_
  rintro _ w1 ⟨g2, rfl, hg3, hB4, hb5, hz6⟩
  have hl7 : w.heap.size ≤ g2 := by omega
  refine WL.val (.int .i64 0) rfl rfl rfl (fun za zC zh zk => wp_assign rfl (zh.ev rfl) zk) ?_
  refine WL.nil (WE.sub (K' := [(0, .agg #[.int .i64 f, .slice a l.length c]), (1, .pointer (some ⟨g2, 0, none⟩)), (2, .int .i64 0)]) ⟨rfl, rfl, rfl, trivial⟩ ?_)
  refine WE.next ?_
  refine WC.seq ?_
  refine WC.region ?_
  refine WL.val (.int .i64 0) rfl rfl rfl (fun za zC zh zk => wp_assign rfl (zh.ev rfl) zk) ?_
  refine WL.nil (WE.sub (K' := [(0, .agg #[.int .i64 f, .slice a l.length c]), (1, .pointer (some ⟨g2, 0, none⟩)), (2, .int .i64 0), (3, .int .i64 0)]) ⟨rfl, rfl, rfl, rfl, trivial⟩ ?_)
  refine WE.next ?_
  refine WC.seq ?_
  refine WC.seq ?_
  refine WC.region ?_
  refine WL.val (.int .i64 0) rfl rfl rfl (fun za zC zh zk => wp_assign rfl (zh.ev rfl) zk) ?_
  refine WL.nil (WE.sub (K' := [(0, .agg #[.int .i64 f, .slice a l.length c]), (1, .pointer (some ⟨g2, 0, none⟩)), (2, .int .i64 0), (3, .int .i64 0), (4, .int .i64 0)]) ⟨rfl, rfl, rfl, rfl, rfl, trivial⟩ ?_)
  refine WE.next ?_
  refine WC.block ?_
  refine WC.loop (X := Nat) (fun k => l.length - k) (fun k => [(0, .agg #[.int .i64 f, .slice a l.length c]), (1, .pointer (some ⟨g2, 0, none⟩)), (2, .int .i64 0), (3, .int .i64 ((((T.depL (l.take k)) : Nat) : Int))), (4, .int .i64 (((k : Nat) : Int)))]) (fun k w8 => k ≤ l.length ∧ Below w.heap.size w w8 ∧ Blk w8 g2 24 #[.int .i64 f, .slice a l.length c]) 0 ⟨rfl, rfl, rfl, rfl, rfl, trivial⟩ ?_ ?_
  · exact ⟨Nat.zero_le _, hb5, hB4⟩
  · rintro k w8 ⟨hk, hb9, hB10⟩
    refine WC.seq ?_
    refine WC.seq ?_
    refine WC.region ?_
    refine WL.val (.int .i64 (((k : Nat) : Int))) rfl rfl rfl (fun za zC zh zk => wp_move rfl (zh.ev rfl) zk) ?_
    refine WL.val (.pointer (some ⟨g2, 1, none⟩)) rfl rfl rfl (fun za zC zh zk => fld_24_1 rfl (zh.ev rfl) zk) ?_
    refine WL.val (.slice a l.length c) rfl rfl rfl (fun za zC zh zk => ld_22 rfl (zh.ev rfl) ((hB10.cell 1).trans rfl) zk) ?_
    refine WL.val (.int .i64 (((l.length : Nat) : Int))) rfl rfl rfl (fun za zC zh zk => len_22 rfl (zh.ev rfl) zk) ?_
    refine WL.val (.bool ((decide ((((k : Nat) : Int) : Int) < (((l.length : Nat) : Int) : Int))))) rfl rfl rfl (fun za zC zh zk => lss_3 rfl (zh.ev rfl) (zh.ev rfl) zk) ?_
    refine WL.nil (WE.sub (K' := [(0, .agg #[.int .i64 f, .slice a l.length c]), (1, .pointer (some ⟨g2, 0, none⟩)), (2, .int .i64 0), (3, .int .i64 ((((T.depL (l.take k)) : Nat) : Int))), (4, .int .i64 (((k : Nat) : Int))), (9, .bool ((decide ((((k : Nat) : Int) : Int) < (((l.length : Nat) : Int) : Int)))))]) ⟨rfl, rfl, rfl, rfl, rfl, rfl, trivial⟩ ?_)
    refine WE.next ?_
    refine WC.cond rfl (fun h11 => ?_) (fun h11 => ?_)
    · have h11 : (((k : Nat) : Int) : Int) < (((l.length : Nat) : Int) : Int) := by simpa using h11
      refine WC.skip ?_
      refine WE.next ?_
      refine WC.seq ?_
      refine WC.block ?_
      refine WC.region ?_
      refine WL.val (.int .i64 ((((T.depL (l.take k)) : Nat) : Int))) rfl rfl rfl (fun za zC zh zk => wp_move rfl (zh.ev rfl) zk) ?_
      refine WL.val (.pointer (some ⟨g2, 1, none⟩)) rfl rfl rfl (fun za zC zh zk => fld_24_1 rfl (zh.ev rfl) zk) ?_
      refine WL.val (.slice a l.length c) rfl rfl rfl (fun za zC zh zk => ld_22 rfl (zh.ev rfl) ((hB10.cell 1).trans rfl) zk) ?_
      refine WL.val (.int .i64 (((k : Nat) : Int))) rfl rfl rfl (fun za zC zh zk => wp_move rfl (zh.ev rfl) zk) ?_
      obtain ⟨b12, o13, A14, C15, ha16, hc17⟩ := IsTs.open hl
      refine WL.val (.pointer (some ⟨b12, o13 + k * 2, none⟩)) rfl rfl rfl (fun za zC zh zk => ix_22 (k := k) rfl (zh.ev rfl) (ha16 k (by first | omega | (simp; omega))) (zh.ev rfl) (by first | omega | (simp; omega)) zk) ?_
      refine WL.val (.agg #[.int .i64 ((tget l k).f), .slice ((A14 k)) ((tget l k).args.length) ((C15 k))]) rfl rfl rfl (fun za zC zh zk => ld_24 rfl (zh.ev rfl) (bkeeps hb9 _ _ (hc17 k (by first | omega | (simp; omega))).1) (bkeeps hb9 _ _ (hc17 k (by first | omega | (simp; omega))).2.1) zk) ?_
      refine WL.call rfl rfl rfl (fun za zh zC => wp_call (by kernel_rfl) rfl (hv1 (zh.ev rfl))) (ih _ (tget_mem (by omega)) _ _ (size_at (by omega) hz) (IsT.below hb9 (hc17 k (by first | omega | (simp; omega))).2.2)) ?_
      rintro _ w19 ⟨rfl, hq18⟩
      refine WL.val (.int .i64 ((T.depL (l.take (k + 1)) : Nat) : Int)) rfl rfl rfl (fun za zC zh zk => wp_max2 rfl (zh.ev rfl) (zh.ev rfl) (by rw [depL_take (by omega)]; (try omega)) zk) ?_
      refine WL.val (.int .i64 ((((T.depL (l.take (k + 1))) : Nat) : Int))) rfl rfl rfl (fun za zC zh zk => wp_assign rfl (zh.ev rfl) zk) ?_
      refine WL.nil (WE.sub (K' := [(0, .agg #[.int .i64 f, .slice a l.length c]), (1, .pointer (some ⟨g2, 0, none⟩)), (2, .int .i64 0), (3, .int .i64 ((((T.depL (l.take (k + 1))) : Nat) : Int))), (4, .int .i64 (((k : Nat) : Int))), (9, .bool ((decide ((((k : Nat) : Int) : Int) < (((l.length : Nat) : Int) : Int)))))]) ⟨rfl, rfl, rfl, rfl, rfl, rfl, trivial⟩ ?_)
      refine WE.blockNormal ?_
      refine WE.next ?_
      refine WC.region ?_
      refine WL.val (.int .i64 (((k : Nat) : Int))) rfl rfl rfl (fun za zC zh zk => wp_move rfl (zh.ev rfl) zk) ?_
      refine WL.val (.int .i64 ((((k + 1) : Nat) : Int))) rfl rfl rfl (fun za zC zh zk => addb_3 rfl (zh.ev rfl) (zh.ev rfl) (wrap_eq (by omega) (by omega) (by omega)) zk) ?_
      refine WL.val (.int .i64 ((((k + 1) : Nat) : Int))) rfl rfl rfl (fun za zC zh zk => wp_assign rfl (zh.ev rfl) zk) ?_
      refine WL.nil (WE.sub (K' := [(0, .agg #[.int .i64 f, .slice a l.length c]), (1, .pointer (some ⟨g2, 0, none⟩)), (2, .int .i64 0), (3, .int .i64 ((((T.depL (l.take (k + 1))) : Nat) : Int))), (4, .int .i64 ((((k + 1) : Nat) : Int))), (9, .bool ((decide ((((k : Nat) : Int) : Int) < (((l.length : Nat) : Int) : Int)))))]) ⟨rfl, rfl, rfl, rfl, rfl, rfl, trivial⟩ ?_)
      refine WE.round (k + 1) ⟨rfl, rfl, rfl, rfl, rfl, trivial⟩ ?_ ?_
      · have hb20 : Below w.heap.size w w19 := (bstep hb9 hq18)
        have hB21 := hB10.below hq18
        exact ⟨by omega, hb20, hB21⟩
      · omega
    · have h11 : ¬ ((((k : Nat) : Int) : Int) < (((l.length : Nat) : Int) : Int)) := by simpa using h11
      refine WC.exit ?_
      refine WE.thenExit ?_
      refine WE.thenExit ?_
      refine WE.blockIs rfl ?_
      refine WE.next ?_
      refine WC.seq ?_
      refine WC.region ?_
      refine WL.val (.int .i64 ((((T.depL (l.take k)) : Nat) : Int))) rfl rfl rfl (fun za zC zh zk => wp_move rfl (zh.ev rfl) zk) ?_
      refine WL.val (.int .i64 ((((T.depL (l.take k) + 1) : Nat) : Int))) rfl rfl rfl (fun za zC zh zk => addb_3 rfl (zh.ev rfl) (zh.ev rfl) (wrap_eq (by omega) (by omega) (by have z2 := depL_take_le (l := l) (k := k); omega)) zk) ?_
      refine WL.val (.int .i64 ((((T.depL (l.take k) + 1) : Nat) : Int))) rfl rfl rfl (fun za zC zh zk => wp_assign rfl (zh.ev rfl) zk) ?_
      refine WL.nil (WE.sub (K' := [(0, .agg #[.int .i64 f, .slice a l.length c]), (1, .pointer (some ⟨g2, 0, none⟩)), (2, .int .i64 ((((T.depL (l.take k) + 1) : Nat) : Int))), (3, .int .i64 ((((T.depL (l.take k)) : Nat) : Int))), (4, .int .i64 (((k : Nat) : Int))), (9, .bool ((decide ((((k : Nat) : Int) : Int) < (((l.length : Nat) : Int) : Int)))))]) ⟨rfl, rfl, rfl, rfl, rfl, rfl, trivial⟩ ?_)
      refine WE.next ?_
      refine WC.ret ?_
      refine WE.ret1 rfl rfl ?_
      refine ⟨_, rfl, ?_, hb9⟩
      rw [List.take_of_length_le (show l.length ≤ k by omega), T.dep]

theorem neg_int {P : Program} {w : World} {a : Act} {K : Act → World → Prop} {Q : Exit → Act → World → Prop} {o : Oper} {x : Operand} {m r : Int} (ho : o.op = .unOp .neg 3 x) (hx : a.eval x = .int .i64 m) (hr : IntKind.i64.wrap (-m) = r) (hK : K (a.put o.dst (.int .i64 r)) w) : o.wp P a w K Q := by
  subst hr
  unfold Oper.wp execOp
  simp only [ho, hx]
  go_simp
  exact hK
set_option maxRecDepth 100000 in
theorem rlow_any (m : Int) (hm0 : 0 ≤ m ∧ m ≤ 1000000) : ∀ (t : T) (w : World) (v : Value), t.size ≤ 4294967296 → IsT w t v → Calls Try.prog 46 #[v, .int .i64 m] w (Ret fun v' w' => v' = .bool (t.low m) ∧ Below w.heap.size w w') := by
  refine T.ind (fun f l ih => ?_)
  intro w v hz hv
  have hv0 := hv
  have hlen := len_le_sizeL l
  have hz' := hz
  simp only [T.size] at hz'
  obtain ⟨hf, a, c, rfl, hc, hm, hl⟩ := hv
  have hf' := hf
  unfold I64 at hf'
  refine Calls.walk (l := [.agg #[.int .i64 f, .slice a l.length c], .int .i64 m]) Try.func46 rfl (by kernel_rfl) ?_
  refine WC.sub (K' := [(0, .agg #[.int .i64 f, .slice a l.length c]), (1, .int .i64 m)]) ⟨rfl, rfl, trivial⟩ ?_
  refine WC.seq ?_
  refine WC.region ?_
  refine WL.step (post := NewBlk w 24 #[.int .i64 f, .slice a l.length c]) rfl rfl rfl (fun za zC zh zk => box_24 rfl (zh.ev rfl) (zk _ _ (newBlk _ _ _))) ?_
  rintro _ w1 ⟨g2, rfl, hg3, hB4, hb5, hz6⟩
  have hl7 : w.heap.size ≤ g2 := by omega
  refine WL.val (.bool false) rfl rfl rfl (fun za zC zh zk => wp_assign rfl (zh.ev rfl) zk) ?_
  refine WL.nil (WE.sub (K' := [(0, .agg #[.int .i64 f, .slice a l.length c]), (1, .int .i64 m), (2, .pointer (some ⟨g2, 0, none⟩)), (4, .bool false)]) ⟨rfl, rfl, rfl, rfl, trivial⟩ ?_)
  refine WE.next ?_
  refine WC.seq ?_
  refine WC.seq ?_
  refine WC.region ?_
  refine WL.val (.pointer (some ⟨g2, 0, none⟩)) rfl rfl rfl (fun za zC zh zk => fld_24_0 rfl (zh.ev rfl) zk) ?_
  refine WL.val (.int .i64 f) rfl rfl rfl (fun za zC zh zk => ld_3 rfl (zh.ev rfl) ((hB4.cell 0).trans rfl) zk) ?_
  refine WL.val (.bool ((decide ((f : Int) < (0 : Int))))) rfl rfl rfl (fun za zC zh zk => lss_3 rfl (zh.ev rfl) (zh.ev rfl) zk) ?_
  refine WL.nil (WE.sub (K' := [(0, .agg #[.int .i64 f, .slice a l.length c]), (1, .int .i64 m), (2, .pointer (some ⟨g2, 0, none⟩)), (4, .bool false), (8, .bool ((decide ((f : Int) < (0 : Int)))))]) ⟨rfl, rfl, rfl, rfl, rfl, trivial⟩ ?_)
  refine WE.next ?_
  refine WC.cond rfl (fun h8 => ?_) (fun h8 => ?_)
  · have h8 : (f : Int) < (0 : Int) := by simpa using h8
    refine WC.seq ?_
    refine WC.opt [(true, .val (.pointer (some ⟨g2, 0, none⟩))), (true, .val (.int .i64 f)), (true, .val (.int .i64 m)), (true, .val (.int .i64 ((-m)))), (true, .val (.bool ((decide (((-m) : Int) ≤ (f : Int)))))), (true, .val (.bool ((decide (((-m) : Int) ≤ (f : Int)))))), ((true && (decide (((-m) : Int) ≤ (f : Int)))), .val (.pointer (some ⟨g2, 1, none⟩))), ((true && (decide (((-m) : Int) ≤ (f : Int)))), .val (.slice a l.length c)), ((true && (decide (((-m) : Int) ≤ (f : Int)))), .val (.int .i64 (((l.length : Nat) : Int)))), ((true && (decide (((-m) : Int) ≤ (f : Int)))), .val (.bool (((((l.length : Nat) : Int) : Int) == (0 : Int))))), (true, .val (.bool (((decide (((-m) : Int) ≤ (f : Int))) && ((((l.length : Nat) : Int) : Int) == (0 : Int)))))), (true, .val (.bool (((decide (((-m) : Int) ≤ (f : Int))) && ((((l.length : Nat) : Int) : Int) == (0 : Int))))))] [(0, .agg #[.int .i64 f, .slice a l.length c]), (1, .int .i64 m), (2, .pointer (some ⟨g2, 0, none⟩)), (8, .bool ((decide ((f : Int) < (0 : Int)))))] ⟨rfl, rfl, rfl, rfl, trivial⟩ (by kernel_rfl) (by kernel_rfl) (by kernel_rfl) ?_ ?_
    · refine ⟨⟨true, .none rfl, fun h w => optUndef h, fun zβ za zw zc => ?_⟩, ?_⟩
      · exact fld_24_0 rfl (zc.kn.ev rfl) ⟨_, rfl, Below.refl _ _, optDef zβ rfl⟩
      refine ⟨⟨true, .none rfl, fun h w => optUndef h, fun zβ za zw zc => ?_⟩, ?_⟩
      · exact ld_3 rfl ((show za.eval (.tmp 9) = za.tmps.getD 9 undef from rfl).trans (optVal (zc.dep 0 9 (by kernel_rfl)) rfl rfl)) (bkeeps zc.below _ _ ((hB4.cell 0).trans rfl)) ⟨_, rfl, Below.refl _ _, optDef zβ rfl⟩
      refine ⟨⟨true, .none rfl, fun h w => optUndef h, fun zβ za zw zc => ?_⟩, ?_⟩
      · exact wp_move rfl (zc.kn.ev rfl) ⟨_, rfl, Below.refl _ _, optDef zβ rfl⟩
      refine ⟨⟨true, .none rfl, fun h w => optUndef h, fun zβ za zw zc => ?_⟩, ?_⟩
      · exact neg_int rfl ((show za.eval (.tmp 11) = za.tmps.getD 11 undef from rfl).trans (optVal (zc.dep 2 11 (by kernel_rfl)) rfl rfl)) (wrap_eq rfl (by omega) (by omega)) ⟨_, rfl, Below.refl _ _, optDef zβ rfl⟩
      refine ⟨⟨true, .none rfl, fun h w => optUndef h, fun zβ za zw zc => ?_⟩, ?_⟩
      · exact geq_3 rfl ((show za.eval (.tmp 10) = za.tmps.getD 10 undef from rfl).trans (optVal (zc.dep 1 10 (by kernel_rfl)) rfl rfl)) ((show za.eval (.tmp 12) = za.tmps.getD 12 undef from rfl).trans (optVal (zc.dep 3 12 (by kernel_rfl)) rfl rfl)) ⟨_, rfl, Below.refl _ _, optDef zβ rfl⟩
      refine ⟨⟨true, .none rfl, fun h w => optUndef h, fun zβ za zw zc => ?_⟩, ?_⟩
      · exact wp_move rfl ((show za.eval (.tmp 13) = za.tmps.getD 13 undef from rfl).trans (optVal (zc.dep 4 13 (by kernel_rfl)) rfl rfl)) ⟨_, rfl, Below.refl _ _, optDef zβ rfl⟩
      refine ⟨⟨(true && (decide (((-m) : Int) ≤ (f : Int)))), .yes (c := (decide (((-m) : Int) ≤ (f : Int)))) (d := true) rfl (fun v w h => h), fun h w => optUndef h, fun zβ za zw zc => ?_⟩, ?_⟩
      · exact fld_24_1 rfl (zc.kn.ev rfl) ⟨_, rfl, Below.refl _ _, optDef zβ rfl⟩
      refine ⟨⟨(true && (decide (((-m) : Int) ≤ (f : Int)))), .yes (c := (decide (((-m) : Int) ≤ (f : Int)))) (d := true) rfl (fun v w h => h), fun h w => optUndef h, fun zβ za zw zc => ?_⟩, ?_⟩
      · exact ld_22 rfl ((show za.eval (.tmp 15) = za.tmps.getD 15 undef from rfl).trans (optVal (zc.dep 6 15 (by kernel_rfl)) rfl zβ)) (bkeeps zc.below _ _ ((hB4.cell 1).trans rfl)) ⟨_, rfl, Below.refl _ _, optDef zβ rfl⟩
      refine ⟨⟨(true && (decide (((-m) : Int) ≤ (f : Int)))), .yes (c := (decide (((-m) : Int) ≤ (f : Int)))) (d := true) rfl (fun v w h => h), fun h w => optUndef h, fun zβ za zw zc => ?_⟩, ?_⟩
      · exact len_22 rfl ((show za.eval (.tmp 16) = za.tmps.getD 16 undef from rfl).trans (optVal (zc.dep 7 16 (by kernel_rfl)) rfl zβ)) ⟨_, rfl, Below.refl _ _, optDef zβ rfl⟩
      refine ⟨⟨(true && (decide (((-m) : Int) ≤ (f : Int)))), .yes (c := (decide (((-m) : Int) ≤ (f : Int)))) (d := true) rfl (fun v w h => h), fun h w => optUndef h, fun zβ za zw zc => ?_⟩, ?_⟩
      · exact eql_3 rfl ((show za.eval (.tmp 17) = za.tmps.getD 17 undef from rfl).trans (optVal (zc.dep 8 17 (by kernel_rfl)) rfl zβ)) (zc.kn.ev rfl) ⟨_, rfl, Below.refl _ _, optDef zβ rfl⟩
      refine ⟨⟨true, .none rfl, fun h w => optUndef h, fun zβ za zw zc => ?_⟩, ?_⟩
      · exact wp_and rfl ((show za.eval (.tmp 14) = za.tmps.getD 14 undef from rfl).trans (optVal (zc.dep 5 14 (by kernel_rfl)) rfl rfl)) (fun hp => ((show za.eval (.tmp 18) = za.tmps.getD 18 undef from rfl).trans (optVal (zc.dep 9 18 (by kernel_rfl)) rfl (bMk zβ hp)))) ⟨_, rfl, Below.refl _ _, optDef zβ rfl⟩
      refine ⟨⟨true, .none rfl, fun h w => optUndef h, fun zβ za zw zc => ?_⟩, ?_⟩
      · exact wp_assign rfl ((show za.eval (.tmp 19) = za.tmps.getD 19 undef from rfl).trans (optVal (zc.dep 10 19 (by kernel_rfl)) rfl rfl)) ⟨_, rfl, Below.refl _ _, optDef zβ rfl⟩
      exact trivial
    · intro za w9 zh hb10 zu
      have zh := zh.cons (d := 4) (v := .bool (((decide (((-m) : Int) ≤ (f : Int))) && ((((l.length : Nat) : Int) : Int) == (0 : Int))))) (optVal (zu 11 4 (by kernel_rfl)) rfl rfl)
      clear zu
      refine (show WE _ [(0, .agg #[.int .i64 f, .slice a l.length c]), (1, .int .i64 m), (2, .pointer (some ⟨g2, 0, none⟩)), (4, .bool (((decide (((-m) : Int) ≤ (f : Int))) && ((((l.length : Nat) : Int) : Int) == (0 : Int))))), (8, .bool ((decide ((f : Int) < (0 : Int)))))] w9 _ .normal from ?_) za (zh.sub ⟨rfl, rfl, rfl, rfl, rfl, trivial⟩)
      refine WE.next ?_
      refine WC.ret ?_
      refine WE.thenRet ?_
      refine WE.ret1 rfl rfl ?_
      have hb11 : Below w.heap.size w w9 := (bstep hb5 hb10)
      refine ⟨_, rfl, congrArg Value.bool ?_, hb11⟩
      rw [T.low, if_pos (by simpa using h8)]
      rw [Bool.eq_iff_iff]; (try simp); (try omega)
  · have h8 : ¬ ((f : Int) < (0 : Int)) := by simpa using h8
    refine WC.skip ?_
    refine WE.next ?_
    refine WC.seq ?_
    refine WC.seq ?_
    refine WC.region ?_
    refine WL.val (.int .i64 0) rfl rfl rfl (fun za zC zh zk => wp_assign rfl (zh.ev rfl) zk) ?_
    refine WL.nil (WE.sub (K' := [(0, .agg #[.int .i64 f, .slice a l.length c]), (1, .int .i64 m), (2, .pointer (some ⟨g2, 0, none⟩)), (4, .bool false), (5, .int .i64 0), (8, .bool ((decide ((f : Int) < (0 : Int)))))]) ⟨rfl, rfl, rfl, rfl, rfl, rfl, trivial⟩ ?_)
    refine WE.next ?_
    refine WC.block ?_
    refine WC.loop (X := Nat) (fun k => l.length - k) (fun k => [(0, .agg #[.int .i64 f, .slice a l.length c]), (1, .int .i64 m), (2, .pointer (some ⟨g2, 0, none⟩)), (5, .int .i64 (((k : Nat) : Int))), (8, .bool ((decide ((f : Int) < (0 : Int)))))]) (fun k w12 => k ≤ l.length ∧ (∀ i, i < k → (tget l i).low m = true) ∧ Below w.heap.size w w12 ∧ Blk w12 g2 24 #[.int .i64 f, .slice a l.length c]) 0 ⟨rfl, rfl, rfl, rfl, rfl, trivial⟩ ?_ ?_
    · exact ⟨Nat.zero_le _, fun i h => absurd h (Nat.not_lt_zero i), hb5, hB4⟩
    · rintro k w12 ⟨hk, hE, hb13, hB14⟩
      refine WC.seq ?_
      refine WC.seq ?_
      refine WC.region ?_
      refine WL.val (.int .i64 (((k : Nat) : Int))) rfl rfl rfl (fun za zC zh zk => wp_move rfl (zh.ev rfl) zk) ?_
      refine WL.val (.pointer (some ⟨g2, 1, none⟩)) rfl rfl rfl (fun za zC zh zk => fld_24_1 rfl (zh.ev rfl) zk) ?_
      refine WL.val (.slice a l.length c) rfl rfl rfl (fun za zC zh zk => ld_22 rfl (zh.ev rfl) ((hB14.cell 1).trans rfl) zk) ?_
      refine WL.val (.int .i64 (((l.length : Nat) : Int))) rfl rfl rfl (fun za zC zh zk => len_22 rfl (zh.ev rfl) zk) ?_
      refine WL.val (.bool ((decide ((((k : Nat) : Int) : Int) < (((l.length : Nat) : Int) : Int))))) rfl rfl rfl (fun za zC zh zk => lss_3 rfl (zh.ev rfl) (zh.ev rfl) zk) ?_
      refine WL.nil (WE.sub (K' := [(0, .agg #[.int .i64 f, .slice a l.length c]), (1, .int .i64 m), (2, .pointer (some ⟨g2, 0, none⟩)), (5, .int .i64 (((k : Nat) : Int))), (8, .bool ((decide ((f : Int) < (0 : Int))))), (24, .bool ((decide ((((k : Nat) : Int) : Int) < (((l.length : Nat) : Int) : Int)))))]) ⟨rfl, rfl, rfl, rfl, rfl, rfl, trivial⟩ ?_)
      refine WE.next ?_
      refine WC.cond rfl (fun h15 => ?_) (fun h15 => ?_)
      · have h15 : (((k : Nat) : Int) : Int) < (((l.length : Nat) : Int) : Int) := by simpa using h15
        refine WC.skip ?_
        refine WE.next ?_
        refine WC.seq ?_
        refine WC.block ?_
        refine WC.seq ?_
        refine WC.region ?_
        refine WL.val (.pointer (some ⟨g2, 1, none⟩)) rfl rfl rfl (fun za zC zh zk => fld_24_1 rfl (zh.ev rfl) zk) ?_
        refine WL.val (.slice a l.length c) rfl rfl rfl (fun za zC zh zk => ld_22 rfl (zh.ev rfl) ((hB14.cell 1).trans rfl) zk) ?_
        refine WL.val (.int .i64 (((k : Nat) : Int))) rfl rfl rfl (fun za zC zh zk => wp_move rfl (zh.ev rfl) zk) ?_
        obtain ⟨b16, o17, A18, C19, ha20, hc21⟩ := IsTs.open hl
        refine WL.val (.pointer (some ⟨b16, o17 + k * 2, none⟩)) rfl rfl rfl (fun za zC zh zk => ix_22 (k := k) rfl (zh.ev rfl) (ha20 k (by first | omega | (simp; omega))) (zh.ev rfl) (by first | omega | (simp; omega)) zk) ?_
        refine WL.val (.agg #[.int .i64 ((tget l k).f), .slice ((A18 k)) ((tget l k).args.length) ((C19 k))]) rfl rfl rfl (fun za zC zh zk => ld_24 rfl (zh.ev rfl) (bkeeps hb13 _ _ (hc21 k (by first | omega | (simp; omega))).1) (bkeeps hb13 _ _ (hc21 k (by first | omega | (simp; omega))).2.1) zk) ?_
        refine WL.val (.int .i64 m) rfl rfl rfl (fun za zC zh zk => wp_move rfl (zh.ev rfl) zk) ?_
        refine WL.call rfl rfl rfl (fun za zh zC => wp_call (by kernel_rfl) rfl (hv2 (zh.ev rfl) (zh.ev rfl))) (ih _ (tget_mem (by omega)) _ _ (size_at (by omega) hz) (IsT.below hb13 (hc21 k (by first | omega | (simp; omega))).2.2)) ?_
        rintro _ w23 ⟨rfl, hq22⟩
        refine WL.val (.bool ((!((tget l k).low m)))) rfl rfl rfl (fun za zC zh zk => wp_not rfl (zh.ev rfl) zk) ?_
        refine WL.nil (WE.sub (K' := [(0, .agg #[.int .i64 f, .slice a l.length c]), (1, .int .i64 m), (2, .pointer (some ⟨g2, 0, none⟩)), (5, .int .i64 (((k : Nat) : Int))), (8, .bool ((decide ((f : Int) < (0 : Int))))), (24, .bool ((decide ((((k : Nat) : Int) : Int) < (((l.length : Nat) : Int) : Int))))), (34, .bool ((!((tget l k).low m))))]) ⟨rfl, rfl, rfl, rfl, rfl, rfl, rfl, trivial⟩ ?_)
        refine WE.next ?_
        refine WC.cond rfl (fun h24 => ?_) (fun h24 => ?_)
        · have h24 : ¬ (((tget l k).low m) = true) := by simpa using h24
          refine WC.seq ?_
          refine WC.region ?_
          refine WL.val (.bool false) rfl rfl rfl (fun za zC zh zk => wp_assign rfl (zh.ev rfl) zk) ?_
          refine WL.nil (WE.sub (K' := [(0, .agg #[.int .i64 f, .slice a l.length c]), (1, .int .i64 m), (2, .pointer (some ⟨g2, 0, none⟩)), (4, .bool false), (5, .int .i64 (((k : Nat) : Int))), (8, .bool ((decide ((f : Int) < (0 : Int))))), (24, .bool ((decide ((((k : Nat) : Int) : Int) < (((l.length : Nat) : Int) : Int))))), (34, .bool ((!((tget l k).low m))))]) ⟨rfl, rfl, rfl, rfl, rfl, rfl, rfl, rfl, trivial⟩ ?_)
          refine WE.next ?_
          refine WC.ret ?_
          refine WE.blockRet ?_
          refine WE.thenRet ?_
          refine WE.thenRet ?_
          refine WE.blockRet ?_
          refine WE.thenRet ?_
          refine WE.ret1 rfl rfl ?_
          have hb25 : Below w.heap.size w w23 := (bstep hb13 hq22)
          exact ⟨_, rfl, congrArg Value.bool (low_no (k := k) (by simpa using h8) (by omega) (by simpa using h24)).symm, hb25⟩
        · have h24 : ¬ (¬ (((tget l k).low m) = true)) := by simpa using h24
          refine WC.skip ?_
          refine WE.blockNormal ?_
          refine WE.next ?_
          refine WC.region ?_
          refine WL.val (.int .i64 (((k : Nat) : Int))) rfl rfl rfl (fun za zC zh zk => wp_move rfl (zh.ev rfl) zk) ?_
          refine WL.val (.int .i64 ((((k + 1) : Nat) : Int))) rfl rfl rfl (fun za zC zh zk => addb_3 rfl (zh.ev rfl) (zh.ev rfl) (wrap_eq (by omega) (by omega) (by omega)) zk) ?_
          refine WL.val (.int .i64 ((((k + 1) : Nat) : Int))) rfl rfl rfl (fun za zC zh zk => wp_assign rfl (zh.ev rfl) zk) ?_
          refine WL.nil (WE.sub (K' := [(0, .agg #[.int .i64 f, .slice a l.length c]), (1, .int .i64 m), (2, .pointer (some ⟨g2, 0, none⟩)), (5, .int .i64 ((((k + 1) : Nat) : Int))), (8, .bool ((decide ((f : Int) < (0 : Int))))), (24, .bool ((decide ((((k : Nat) : Int) : Int) < (((l.length : Nat) : Int) : Int))))), (34, .bool ((!((tget l k).low m))))]) ⟨rfl, rfl, rfl, rfl, rfl, rfl, rfl, trivial⟩ ?_)
          refine WE.round (k + 1) ⟨rfl, rfl, rfl, rfl, rfl, trivial⟩ ?_ ?_
          · have hb26 : Below w.heap.size w w23 := (bstep hb13 hq22)
            have hB27 := hB14.below hq22
            exact ⟨by omega, fun i hi => by rcases Nat.lt_or_ge i k with q | q; exact hE i q; (obtain rfl : i = k := by omega); simpa using h24, hb26, hB27⟩
          · omega
      · have h15 : ¬ ((((k : Nat) : Int) : Int) < (((l.length : Nat) : Int) : Int)) := by simpa using h15
        refine WC.exit ?_
        refine WE.thenExit ?_
        refine WE.thenExit ?_
        refine WE.blockIs rfl ?_
        refine WE.next ?_
        refine WC.seq ?_
        refine WC.region ?_
        refine WL.val (.bool true) rfl rfl rfl (fun za zC zh zk => wp_assign rfl (zh.ev rfl) zk) ?_
        refine WL.nil (WE.sub (K' := [(0, .agg #[.int .i64 f, .slice a l.length c]), (1, .int .i64 m), (2, .pointer (some ⟨g2, 0, none⟩)), (4, .bool true), (5, .int .i64 (((k : Nat) : Int))), (8, .bool ((decide ((f : Int) < (0 : Int))))), (24, .bool ((decide ((((k : Nat) : Int) : Int) < (((l.length : Nat) : Int) : Int)))))]) ⟨rfl, rfl, rfl, rfl, rfl, rfl, rfl, trivial⟩ ?_)
        refine WE.next ?_
        refine WC.ret ?_
        refine WE.ret1 rfl rfl ?_
        exact ⟨_, rfl, congrArg Value.bool (low_yes (by simpa using h8) (fun i hi => hE i (by omega))).symm, hb13⟩

set_option maxRecDepth 100000 in
theorem rsmall_any (t : T) (m : Int) (w : World) (v : Value) (hm0 : 0 ≤ m ∧ m ≤ 1000000) (hz : t.size ≤ 4294967296) (hv : IsT w t v) : Calls Try.prog 25 #[v, .int .i64 m] w (Ret fun v' w' => v' = .bool (t.small m) ∧ Below w.heap.size w w') := by
  have hv0 := hv
  obtain ⟨hf, a, c, rfl, _, _, _⟩ := hv.form
  refine Calls.walk (l := [.agg #[.int .i64 t.f, .slice a t.args.length c], .int .i64 m]) Try.func25 rfl (by kernel_rfl) ?_
  refine WC.sub (K' := [(0, .agg #[.int .i64 t.f, .slice a t.args.length c]), (1, .int .i64 m)]) ⟨rfl, rfl, trivial⟩ ?_
  refine WC.seq ?_
  refine WC.region ?_
  refine WL.step (post := NewBlk w 24 #[.int .i64 t.f, .slice a t.args.length c]) rfl rfl rfl (fun za zC zh zk => box_24 rfl (zh.ev rfl) (zk _ _ (newBlk _ _ _))) ?_
  rintro _ w1 ⟨g2, rfl, hg3, hB4, hb5, hz6⟩
  have hl7 : w.heap.size ≤ g2 := by omega
  refine WL.val (.bool false) rfl rfl rfl (fun za zC zh zk => wp_assign rfl (zh.ev rfl) zk) ?_
  refine WL.nil (WE.sub (K' := [(0, .agg #[.int .i64 t.f, .slice a t.args.length c]), (1, .int .i64 m), (2, .pointer (some ⟨g2, 0, none⟩)), (4, .bool false)]) ⟨rfl, rfl, rfl, rfl, trivial⟩ ?_)
  refine WE.next ?_
  refine WC.seq ?_
  refine WC.opt [(true, .val (.agg #[.int .i64 t.f, .slice a t.args.length c])), (true, .val (.int .i64 (((t.size : Nat) : Int)))), (true, .val (.bool ((decide ((((t.size : Nat) : Int) : Int) ≤ (300 : Int)))))), (true, .val (.bool ((decide ((((t.size : Nat) : Int) : Int) ≤ (300 : Int)))))), ((true && (decide ((((t.size : Nat) : Int) : Int) ≤ (300 : Int)))), .val (.agg #[.int .i64 t.f, .slice a t.args.length c])), ((true && (decide ((((t.size : Nat) : Int) : Int) ≤ (300 : Int)))), .val (.int .i64 (((t.dep : Nat) : Int)))), ((true && (decide ((((t.size : Nat) : Int) : Int) ≤ (300 : Int)))), .val (.bool ((decide ((((t.dep : Nat) : Int) : Int) ≤ (30 : Int)))))), (true, .val (.bool (((decide ((((t.size : Nat) : Int) : Int) ≤ (300 : Int))) && (decide ((((t.dep : Nat) : Int) : Int) ≤ (30 : Int))))))), (true, .val (.bool (((decide ((((t.size : Nat) : Int) : Int) ≤ (300 : Int))) && (decide ((((t.dep : Nat) : Int) : Int) ≤ (30 : Int))))))), ((true && ((decide ((((t.size : Nat) : Int) : Int) ≤ (300 : Int))) && (decide ((((t.dep : Nat) : Int) : Int) ≤ (30 : Int))))), .val (.agg #[.int .i64 t.f, .slice a t.args.length c])), ((true && ((decide ((((t.size : Nat) : Int) : Int) ≤ (300 : Int))) && (decide ((((t.dep : Nat) : Int) : Int) ≤ (30 : Int))))), .val (.int .i64 m)), ((true && ((decide ((((t.size : Nat) : Int) : Int) ≤ (300 : Int))) && (decide ((((t.dep : Nat) : Int) : Int) ≤ (30 : Int))))), .val (.bool ((t.low m)))), (true, .val (.bool ((((decide ((((t.size : Nat) : Int) : Int) ≤ (300 : Int))) && (decide ((((t.dep : Nat) : Int) : Int) ≤ (30 : Int)))) && (t.low m))))), (true, .val (.bool ((((decide ((((t.size : Nat) : Int) : Int) ≤ (300 : Int))) && (decide ((((t.dep : Nat) : Int) : Int) ≤ (30 : Int)))) && (t.low m)))))] [(0, .agg #[.int .i64 t.f, .slice a t.args.length c]), (1, .int .i64 m), (2, .pointer (some ⟨g2, 0, none⟩))] ⟨rfl, rfl, rfl, trivial⟩ (by kernel_rfl) (by kernel_rfl) (by kernel_rfl) ?_ ?_
  · refine ⟨⟨true, .none rfl, fun h w => optUndef h, fun zβ za zw zc => ?_⟩, ?_⟩
    · exact ld_24 rfl (zc.kn.ev rfl) (bkeeps zc.below _ _ ((hB4.cell 0).trans rfl)) (bkeeps zc.below _ _ ((hB4.cell 1).trans rfl)) ⟨_, rfl, Below.refl _ _, optDef zβ rfl⟩
    refine ⟨⟨true, .none rfl, fun h w => optUndef h, fun zβ za zw zc => ?_⟩, ?_⟩
    · exact wp_call (by kernel_rfl) rfl (hv1 ((show za.eval (.tmp 5) = za.tmps.getD 5 undef from rfl).trans (optVal (zc.dep 0 5 (by kernel_rfl)) rfl rfl))) (rsize_any t _ _ hz (IsT.below (bstep hb5 zc.below) hv0)) (fun v w' h => ⟨v, rfl, h.2, optDef zβ h.1⟩)
    refine ⟨⟨true, .none rfl, fun h w => optUndef h, fun zβ za zw zc => ?_⟩, ?_⟩
    · exact leq_3 rfl ((show za.eval (.tmp 6) = za.tmps.getD 6 undef from rfl).trans (optVal (zc.dep 1 6 (by kernel_rfl)) rfl rfl)) (zc.kn.ev rfl) ⟨_, rfl, Below.refl _ _, optDef zβ rfl⟩
    refine ⟨⟨true, .none rfl, fun h w => optUndef h, fun zβ za zw zc => ?_⟩, ?_⟩
    · exact wp_move rfl ((show za.eval (.tmp 7) = za.tmps.getD 7 undef from rfl).trans (optVal (zc.dep 2 7 (by kernel_rfl)) rfl rfl)) ⟨_, rfl, Below.refl _ _, optDef zβ rfl⟩
    refine ⟨⟨(true && (decide ((((t.size : Nat) : Int) : Int) ≤ (300 : Int)))), .yes (c := (decide ((((t.size : Nat) : Int) : Int) ≤ (300 : Int)))) (d := true) rfl (fun v w h => h), fun h w => optUndef h, fun zβ za zw zc => ?_⟩, ?_⟩
    · exact ld_24 rfl (zc.kn.ev rfl) (bkeeps zc.below _ _ ((hB4.cell 0).trans rfl)) (bkeeps zc.below _ _ ((hB4.cell 1).trans rfl)) ⟨_, rfl, Below.refl _ _, optDef zβ rfl⟩
    refine ⟨⟨(true && (decide ((((t.size : Nat) : Int) : Int) ≤ (300 : Int)))), .yes (c := (decide ((((t.size : Nat) : Int) : Int) ≤ (300 : Int)))) (d := true) rfl (fun v w h => h), fun h w => optUndef h, fun zβ za zw zc => ?_⟩, ?_⟩
    · exact wp_call (by kernel_rfl) rfl (hv1 ((show za.eval (.tmp 9) = za.tmps.getD 9 undef from rfl).trans (optVal (zc.dep 4 9 (by kernel_rfl)) rfl zβ))) (rdepth_any t _ _ hz (IsT.below (bstep hb5 zc.below) hv0)) (fun v w' h => ⟨v, rfl, h.2, optDef zβ h.1⟩)
    refine ⟨⟨(true && (decide ((((t.size : Nat) : Int) : Int) ≤ (300 : Int)))), .yes (c := (decide ((((t.size : Nat) : Int) : Int) ≤ (300 : Int)))) (d := true) rfl (fun v w h => h), fun h w => optUndef h, fun zβ za zw zc => ?_⟩, ?_⟩
    · exact leq_3 rfl ((show za.eval (.tmp 10) = za.tmps.getD 10 undef from rfl).trans (optVal (zc.dep 5 10 (by kernel_rfl)) rfl zβ)) (zc.kn.ev rfl) ⟨_, rfl, Below.refl _ _, optDef zβ rfl⟩
    refine ⟨⟨true, .none rfl, fun h w => optUndef h, fun zβ za zw zc => ?_⟩, ?_⟩
    · exact wp_and rfl ((show za.eval (.tmp 8) = za.tmps.getD 8 undef from rfl).trans (optVal (zc.dep 3 8 (by kernel_rfl)) rfl rfl)) (fun hp => ((show za.eval (.tmp 11) = za.tmps.getD 11 undef from rfl).trans (optVal (zc.dep 6 11 (by kernel_rfl)) rfl (bMk zβ hp)))) ⟨_, rfl, Below.refl _ _, optDef zβ rfl⟩
    refine ⟨⟨true, .none rfl, fun h w => optUndef h, fun zβ za zw zc => ?_⟩, ?_⟩
    · exact wp_move rfl ((show za.eval (.tmp 12) = za.tmps.getD 12 undef from rfl).trans (optVal (zc.dep 7 12 (by kernel_rfl)) rfl rfl)) ⟨_, rfl, Below.refl _ _, optDef zβ rfl⟩
    refine ⟨⟨(true && ((decide ((((t.size : Nat) : Int) : Int) ≤ (300 : Int))) && (decide ((((t.dep : Nat) : Int) : Int) ≤ (30 : Int))))), .yes (c := ((decide ((((t.size : Nat) : Int) : Int) ≤ (300 : Int))) && (decide ((((t.dep : Nat) : Int) : Int) ≤ (30 : Int))))) (d := true) rfl (fun v w h => h), fun h w => optUndef h, fun zβ za zw zc => ?_⟩, ?_⟩
    · exact ld_24 rfl (zc.kn.ev rfl) (bkeeps zc.below _ _ ((hB4.cell 0).trans rfl)) (bkeeps zc.below _ _ ((hB4.cell 1).trans rfl)) ⟨_, rfl, Below.refl _ _, optDef zβ rfl⟩
    refine ⟨⟨(true && ((decide ((((t.size : Nat) : Int) : Int) ≤ (300 : Int))) && (decide ((((t.dep : Nat) : Int) : Int) ≤ (30 : Int))))), .yes (c := ((decide ((((t.size : Nat) : Int) : Int) ≤ (300 : Int))) && (decide ((((t.dep : Nat) : Int) : Int) ≤ (30 : Int))))) (d := true) rfl (fun v w h => h), fun h w => optUndef h, fun zβ za zw zc => ?_⟩, ?_⟩
    · exact wp_move rfl (zc.kn.ev rfl) ⟨_, rfl, Below.refl _ _, optDef zβ rfl⟩
    refine ⟨⟨(true && ((decide ((((t.size : Nat) : Int) : Int) ≤ (300 : Int))) && (decide ((((t.dep : Nat) : Int) : Int) ≤ (30 : Int))))), .yes (c := ((decide ((((t.size : Nat) : Int) : Int) ≤ (300 : Int))) && (decide ((((t.dep : Nat) : Int) : Int) ≤ (30 : Int))))) (d := true) rfl (fun v w h => h), fun h w => optUndef h, fun zβ za zw zc => ?_⟩, ?_⟩
    · exact wp_call (by kernel_rfl) rfl (hv2 ((show za.eval (.tmp 14) = za.tmps.getD 14 undef from rfl).trans (optVal (zc.dep 9 14 (by kernel_rfl)) rfl zβ)) ((show za.eval (.tmp 15) = za.tmps.getD 15 undef from rfl).trans (optVal (zc.dep 10 15 (by kernel_rfl)) rfl zβ))) (rlow_any m hm0 t _ _ hz (IsT.below (bstep hb5 zc.below) hv0)) (fun v w' h => ⟨v, rfl, h.2, optDef zβ h.1⟩)
    refine ⟨⟨true, .none rfl, fun h w => optUndef h, fun zβ za zw zc => ?_⟩, ?_⟩
    · exact wp_and rfl ((show za.eval (.tmp 13) = za.tmps.getD 13 undef from rfl).trans (optVal (zc.dep 8 13 (by kernel_rfl)) rfl rfl)) (fun hp => ((show za.eval (.tmp 16) = za.tmps.getD 16 undef from rfl).trans (optVal (zc.dep 11 16 (by kernel_rfl)) rfl (bMk zβ hp)))) ⟨_, rfl, Below.refl _ _, optDef zβ rfl⟩
    refine ⟨⟨true, .none rfl, fun h w => optUndef h, fun zβ za zw zc => ?_⟩, ?_⟩
    · exact wp_assign rfl ((show za.eval (.tmp 17) = za.tmps.getD 17 undef from rfl).trans (optVal (zc.dep 12 17 (by kernel_rfl)) rfl rfl)) ⟨_, rfl, Below.refl _ _, optDef zβ rfl⟩
    exact trivial
  · intro za w11 zh hb12 zu
    have zh := zh.cons (d := 4) (v := .bool ((((decide ((((t.size : Nat) : Int) : Int) ≤ (300 : Int))) && (decide ((((t.dep : Nat) : Int) : Int) ≤ (30 : Int)))) && (t.low m)))) (optVal (zu 13 4 (by kernel_rfl)) rfl rfl)
    clear zu
    refine (show WE _ [(0, .agg #[.int .i64 t.f, .slice a t.args.length c]), (1, .int .i64 m), (2, .pointer (some ⟨g2, 0, none⟩)), (4, .bool ((((decide ((((t.size : Nat) : Int) : Int) ≤ (300 : Int))) && (decide ((((t.dep : Nat) : Int) : Int) ≤ (30 : Int)))) && (t.low m))))] w11 _ .normal from ?_) za (zh.sub ⟨rfl, rfl, rfl, rfl, trivial⟩)
    refine WE.next ?_
    refine WC.ret ?_
    refine WE.ret1 rfl rfl ?_
    have hb13 : Below w.heap.size w w11 := (bstep hb5 hb12)
    refine ⟨_, rfl, congrArg Value.bool ?_, hb13⟩
    unfold T.small
    rw [Bool.eq_iff_iff]; simp; omega

/-- A row of integers that came in, or was made. -/
structure IsIs (w : World) (l : List Int) (a : Option Addr) (c : Nat) : Prop where
  rows : InRow eltI (fun _ => True) w l a
  len : l.length ≤ c
  cap : c ≤ maxLen
theorem IsIs.below {w w' : World} {l : List Int} {a : Option Addr} {c : Nat} (h : IsIs w l a c) (hb : Below w.heap.size w w') : IsIs w' l a c := ⟨h.rows.below hb, h.len, h.cap⟩
theorem varsOf_snoc {l0 l : List Int} {q : Int → Prop} {x : Int} (h : VarsOf l0 q l) (hx : x ∈ l0 ∨ q x) : VarsOf l0 q (l ++ [x]) := fun y hy => by
  rcases List.mem_append.1 hy with z | z
  · exact h y z
  · rw [List.mem_singleton] at z; rw [z]; exact hx
theorem iget_in {l : List Int} {k : Nat} (h : k < l.length) : l.getD k 0 ∈ l := by rw [List.getD_eq_getElem?_getD, List.getElem?_eq_getElem h]; exact List.getElem_mem h
set_option maxRecDepth 100000 in
theorem insert_any (l : List Int) (m : Int) (w : World) (a : Option Addr) (c : Nat) (hl : IsIs w l a c) (hz : l.length ≤ 4294967296) : Calls Try.prog 67 #[.slice a l.length c, .int .i64 m] w (Ret fun v' w' => (∃ R a' c', v' = .slice a' R.length c' ∧ IsIs w' R a' c' ∧ VarsOf l (fun x => x = m) R ∧ R.length ≤ l.length + 1) ∧ Below w.heap.size w w') := by
  have hcap := hl.cap
  have hlen := hl.len
  unfold maxLen at hcap
  refine Calls.walk (l := [.slice a l.length c, .int .i64 m]) Try.func67 rfl (by kernel_rfl) ?_
  refine WC.sub (K' := [(0, .slice a l.length c), (1, .int .i64 m)]) ⟨rfl, rfl, trivial⟩ ?_
  refine WC.seq ?_
  refine WC.region ?_
  refine WL.val (.slice none 0 0) rfl rfl rfl (fun za zC zh zk => wp_assign rfl (zh.ev rfl) zk) ?_
  refine WL.nil (WE.sub (K' := [(0, .slice a l.length c), (1, .int .i64 m), (4, .slice none 0 0)]) ⟨rfl, rfl, rfl, trivial⟩ ?_)
  refine WE.next ?_
  refine WC.seq ?_
  refine WC.region ?_
  refine WL.val (.slice none 0 0) rfl rfl rfl (fun za zC zh zk => wp_assign rfl (zh.ev rfl) zk) ?_
  refine WL.nil (WE.sub (K' := [(0, .slice a l.length c), (1, .int .i64 m), (4, .slice none 0 0), (5, .slice none 0 0)]) ⟨rfl, rfl, rfl, rfl, trivial⟩ ?_)
  refine WE.next ?_
  refine WC.seq ?_
  refine WC.region ?_
  refine WL.val (.bool false) rfl rfl rfl (fun za zC zh zk => wp_assign rfl (zh.ev rfl) zk) ?_
  refine WL.nil (WE.sub (K' := [(0, .slice a l.length c), (1, .int .i64 m), (4, .slice none 0 0), (5, .slice none 0 0), (6, .bool false)]) ⟨rfl, rfl, rfl, rfl, rfl, trivial⟩ ?_)
  refine WE.next ?_
  refine WC.seq ?_
  refine WC.seq ?_
  refine WC.region ?_
  refine WL.val (.int .i64 0) rfl rfl rfl (fun za zC zh zk => wp_assign rfl (zh.ev rfl) zk) ?_
  refine WL.nil (WE.sub (K' := [(0, .slice a l.length c), (1, .int .i64 m), (4, .slice none 0 0), (5, .slice none 0 0), (6, .bool false), (7, .int .i64 0)]) ⟨rfl, rfl, rfl, rfl, rfl, rfl, trivial⟩ ?_)
  refine WE.next ?_
  refine WC.block ?_
  have hR1 : RowE eltI w w.heap.size 3 none 0 0 [] := RowE.nil
  refine WC.loop (X := Nat × Option Addr × Nat × Nat × Bool × List Int) (fun x => l.length - x.1) (fun x => [(0, .slice a l.length c), (1, .int .i64 m), (5, .slice x.2.1 x.2.2.2.1 x.2.2.1), (6, .bool x.2.2.2.2.1), (7, .int .i64 (((x.1 : Nat) : Int)))]) (fun x w2 => x.1 ≤ l.length ∧ w.heap.size ≤ (w2).heap.size ∧ VarsOf l (fun y => y = m) x.2.2.2.2.2 ∧ x.2.2.2.1 ≤ x.1 + (if x.2.2.2.2.1 = true then 1 else 0) ∧ Below w.heap.size w w2 ∧ RowE eltI (w2) w.heap.size 3 x.2.1 x.2.2.1 x.2.2.2.1 x.2.2.2.2.2) ((0, none, 0, 0, false, [])) ⟨rfl, rfl, rfl, rfl, rfl, trivial⟩ ?_ ?_
  · exact ⟨Nat.zero_le _, Nat.le_refl _, fun y hy => (nomatch hy), Nat.zero_le _, (Below.refl _ _), hR1⟩
  · rintro x w2 ⟨hk, hBw, hvo, hnn, hb3, ho4⟩
    have hRl := ho4.len
    refine WC.seq ?_
    refine WC.seq ?_
    refine WC.region ?_
    refine WL.val (.int .i64 (((x.1 : Nat) : Int))) rfl rfl rfl (fun za zC zh zk => wp_move rfl (zh.ev rfl) zk) ?_
    refine WL.val (.slice a l.length c) rfl rfl rfl (fun za zC zh zk => wp_move rfl (zh.ev rfl) zk) ?_
    refine WL.val (.int .i64 (((l.length : Nat) : Int))) rfl rfl rfl (fun za zC zh zk => len_59 rfl (zh.ev rfl) zk) ?_
    refine WL.val (.bool ((decide ((((x.1 : Nat) : Int) : Int) < (((l.length : Nat) : Int) : Int))))) rfl rfl rfl (fun za zC zh zk => lss_3 rfl (zh.ev rfl) (zh.ev rfl) zk) ?_
    refine WL.nil (WE.sub (K' := [(0, .slice a l.length c), (1, .int .i64 m), (5, .slice x.2.1 x.2.2.2.1 x.2.2.1), (6, .bool x.2.2.2.2.1), (7, .int .i64 (((x.1 : Nat) : Int))), (11, .bool ((decide ((((x.1 : Nat) : Int) : Int) < (((l.length : Nat) : Int) : Int)))))]) ⟨rfl, rfl, rfl, rfl, rfl, rfl, trivial⟩ ?_)
    refine WE.next ?_
    refine WC.cond rfl (fun h5 => ?_) (fun h5 => ?_)
    · have h5 : (((x.1 : Nat) : Int) : Int) < (((l.length : Nat) : Int) : Int) := by simpa using h5
      refine WC.skip ?_
      refine WE.next ?_
      refine WC.seq ?_
      refine WC.block ?_
      refine WC.seq ?_
      refine WC.seq ?_
      refine WC.region ?_
      refine WL.val (.slice a l.length c) rfl rfl rfl (fun za zC zh zk => wp_move rfl (zh.ev rfl) zk) ?_
      refine WL.val (.int .i64 (((x.1 : Nat) : Int))) rfl rfl rfl (fun za zC zh zk => wp_move rfl (zh.ev rfl) zk) ?_
      obtain ⟨b6, o7, ha8, hc9⟩ := InRow.openI (hl.rows.below hb3)
      refine WL.val (.pointer (some ⟨b6, o7 + x.1, none⟩)) rfl rfl rfl (fun za zC zh zk => ix_59 (k := x.1) rfl (zh.ev rfl) (ha8 x.1 (by omega)) (zh.ev rfl) (by first | omega | (simp; omega)) zk) ?_
      refine WL.val (.int .i64 ((List.getD l x.1 0))) rfl rfl rfl (fun za zC zh zk => ld_3 rfl (zh.ev rfl) (hc9 x.1 (by omega)) zk) ?_
      refine WL.val (.int .i64 m) rfl rfl rfl (fun za zC zh zk => wp_move rfl (zh.ev rfl) zk) ?_
      refine WL.val (.bool ((((List.getD l x.1 0) : Int) == (m : Int)))) rfl rfl rfl (fun za zC zh zk => eql_3 rfl (zh.ev rfl) (zh.ev rfl) zk) ?_
      refine WL.nil (WE.sub (K' := [(0, .slice a l.length c), (1, .int .i64 m), (5, .slice x.2.1 x.2.2.2.1 x.2.2.1), (6, .bool x.2.2.2.2.1), (7, .int .i64 (((x.1 : Nat) : Int))), (11, .bool ((decide ((((x.1 : Nat) : Int) : Int) < (((l.length : Nat) : Int) : Int))))), (19, .bool ((((List.getD l x.1 0) : Int) == (m : Int))))]) ⟨rfl, rfl, rfl, rfl, rfl, rfl, rfl, trivial⟩ ?_)
      refine WE.next ?_
      refine WC.cond rfl (fun h10 => ?_) (fun h10 => ?_)
      · have h10 : ((List.getD l x.1 0) : Int) = (m : Int) := by simpa using h10
        refine WC.seq ?_
        refine WC.region ?_
        refine WL.val (.slice a l.length c) rfl rfl rfl (fun za zC zh zk => wp_move rfl (zh.ev rfl) zk) ?_
        refine WL.val (.slice a l.length c) rfl rfl rfl (fun za zC zh zk => wp_assign rfl (zh.ev rfl) zk) ?_
        refine WL.nil (WE.sub (K' := [(0, .slice a l.length c), (1, .int .i64 m), (4, .slice a l.length c), (5, .slice x.2.1 x.2.2.2.1 x.2.2.1), (6, .bool x.2.2.2.2.1), (7, .int .i64 (((x.1 : Nat) : Int))), (11, .bool ((decide ((((x.1 : Nat) : Int) : Int) < (((l.length : Nat) : Int) : Int))))), (19, .bool ((((List.getD l x.1 0) : Int) == (m : Int))))]) ⟨rfl, rfl, rfl, rfl, rfl, rfl, rfl, rfl, trivial⟩ ?_)
        refine WE.next ?_
        refine WC.ret ?_
        refine WE.thenRet ?_
        refine WE.blockRet ?_
        refine WE.thenRet ?_
        refine WE.thenRet ?_
        refine WE.blockRet ?_
        refine WE.thenRet ?_
        refine WE.ret1 rfl rfl ?_
        exact ⟨_, rfl, ⟨l, _, _, rfl, hl.below hb3, fun y hy => .inl hy, by omega⟩, hb3⟩
      · have h10 : ¬ (((List.getD l x.1 0) : Int) = (m : Int)) := by simpa using h10
        refine WC.skip ?_
        refine WE.next ?_
        refine WC.seq ?_
        refine WC.seq ?_
        refine WC.opt [(true, .val (.slice a l.length c)), (true, .val (.int .i64 (((x.1 : Nat) : Int)))), (true, .val (.pointer (some ⟨b6, o7 + x.1, none⟩))), (true, .val (.int .i64 ((List.getD l x.1 0)))), (true, .val (.int .i64 m)), (true, .val (.bool ((decide ((m : Int) < ((List.getD l x.1 0) : Int)))))), (true, .val (.bool ((decide ((m : Int) < ((List.getD l x.1 0) : Int)))))), ((true && (decide ((m : Int) < ((List.getD l x.1 0) : Int)))), .val (.bool x.2.2.2.2.1)), ((true && (decide ((m : Int) < ((List.getD l x.1 0) : Int)))), .val (.bool ((!x.2.2.2.2.1)))), (true, .val (.bool (((decide ((m : Int) < ((List.getD l x.1 0) : Int))) && (!x.2.2.2.2.1)))))] [(0, .slice a l.length c), (1, .int .i64 m), (5, .slice x.2.1 x.2.2.2.1 x.2.2.1), (6, .bool x.2.2.2.2.1), (7, .int .i64 (((x.1 : Nat) : Int))), (11, .bool ((decide ((((x.1 : Nat) : Int) : Int) < (((l.length : Nat) : Int) : Int))))), (19, .bool ((((List.getD l x.1 0) : Int) == (m : Int))))] ⟨rfl, rfl, rfl, rfl, rfl, rfl, rfl, trivial⟩ (by kernel_rfl) (by kernel_rfl) (by kernel_rfl) ?_ ?_
        · refine ⟨⟨true, .none rfl, fun h w => optUndef h, fun zβ za zw zc => ?_⟩, ?_⟩
          · exact wp_move rfl (zc.kn.ev rfl) ⟨_, rfl, Below.refl _ _, optDef zβ rfl⟩
          refine ⟨⟨true, .none rfl, fun h w => optUndef h, fun zβ za zw zc => ?_⟩, ?_⟩
          · exact wp_move rfl (zc.kn.ev rfl) ⟨_, rfl, Below.refl _ _, optDef zβ rfl⟩
          refine ⟨⟨true, .none rfl, fun h w => optUndef h, fun zβ za zw zc => ?_⟩, ?_⟩
          · exact ix_59 (k := x.1) rfl ((show za.eval (.tmp 21) = za.tmps.getD 21 undef from rfl).trans (optVal (zc.dep 0 21 (by kernel_rfl)) rfl rfl)) (ha8 x.1 (by omega)) ((show za.eval (.tmp 22) = za.tmps.getD 22 undef from rfl).trans (optVal (zc.dep 1 22 (by kernel_rfl)) rfl rfl)) (by first | omega | (simp; omega)) ⟨_, rfl, Below.refl _ _, optDef zβ rfl⟩
          refine ⟨⟨true, .none rfl, fun h w => optUndef h, fun zβ za zw zc => ?_⟩, ?_⟩
          · exact ld_3 rfl ((show za.eval (.tmp 23) = za.tmps.getD 23 undef from rfl).trans (optVal (zc.dep 2 23 (by kernel_rfl)) rfl rfl)) (bkeeps zc.below _ _ (hc9 x.1 (by omega))) ⟨_, rfl, Below.refl _ _, optDef zβ rfl⟩
          refine ⟨⟨true, .none rfl, fun h w => optUndef h, fun zβ za zw zc => ?_⟩, ?_⟩
          · exact wp_move rfl (zc.kn.ev rfl) ⟨_, rfl, Below.refl _ _, optDef zβ rfl⟩
          refine ⟨⟨true, .none rfl, fun h w => optUndef h, fun zβ za zw zc => ?_⟩, ?_⟩
          · exact gtr_3 rfl ((show za.eval (.tmp 24) = za.tmps.getD 24 undef from rfl).trans (optVal (zc.dep 3 24 (by kernel_rfl)) rfl rfl)) ((show za.eval (.tmp 25) = za.tmps.getD 25 undef from rfl).trans (optVal (zc.dep 4 25 (by kernel_rfl)) rfl rfl)) ⟨_, rfl, Below.refl _ _, optDef zβ rfl⟩
          refine ⟨⟨true, .none rfl, fun h w => optUndef h, fun zβ za zw zc => ?_⟩, ?_⟩
          · exact wp_move rfl ((show za.eval (.tmp 26) = za.tmps.getD 26 undef from rfl).trans (optVal (zc.dep 5 26 (by kernel_rfl)) rfl rfl)) ⟨_, rfl, Below.refl _ _, optDef zβ rfl⟩
          refine ⟨⟨(true && (decide ((m : Int) < ((List.getD l x.1 0) : Int)))), .yes (c := (decide ((m : Int) < ((List.getD l x.1 0) : Int)))) (d := true) rfl (fun v w h => h), fun h w => optUndef h, fun zβ za zw zc => ?_⟩, ?_⟩
          · exact wp_move rfl (zc.kn.ev rfl) ⟨_, rfl, Below.refl _ _, optDef zβ rfl⟩
          refine ⟨⟨(true && (decide ((m : Int) < ((List.getD l x.1 0) : Int)))), .yes (c := (decide ((m : Int) < ((List.getD l x.1 0) : Int)))) (d := true) rfl (fun v w h => h), fun h w => optUndef h, fun zβ za zw zc => ?_⟩, ?_⟩
          · exact wp_not rfl ((show za.eval (.tmp 28) = za.tmps.getD 28 undef from rfl).trans (optVal (zc.dep 7 28 (by kernel_rfl)) rfl zβ)) ⟨_, rfl, Below.refl _ _, optDef zβ rfl⟩
          refine ⟨⟨true, .none rfl, fun h w => optUndef h, fun zβ za zw zc => ?_⟩, ?_⟩
          · exact wp_and rfl ((show za.eval (.tmp 27) = za.tmps.getD 27 undef from rfl).trans (optVal (zc.dep 6 27 (by kernel_rfl)) rfl rfl)) (fun hp => ((show za.eval (.tmp 29) = za.tmps.getD 29 undef from rfl).trans (optVal (zc.dep 8 29 (by kernel_rfl)) rfl (bMk zβ hp)))) ⟨_, rfl, Below.refl _ _, optDef zβ rfl⟩
          exact trivial
        · intro za w11 zh hb12 zu
          have zh := zh.cons (d := 30) (v := .bool (((decide ((m : Int) < ((List.getD l x.1 0) : Int))) && (!x.2.2.2.2.1)))) (optVal (zu 9 30 (by kernel_rfl)) rfl rfl)
          clear zu
          refine (show WE _ [(0, .slice a l.length c), (1, .int .i64 m), (5, .slice x.2.1 x.2.2.2.1 x.2.2.1), (6, .bool x.2.2.2.2.1), (7, .int .i64 (((x.1 : Nat) : Int))), (11, .bool ((decide ((((x.1 : Nat) : Int) : Int) < (((l.length : Nat) : Int) : Int))))), (19, .bool ((((List.getD l x.1 0) : Int) == (m : Int)))), (30, .bool (((decide ((m : Int) < ((List.getD l x.1 0) : Int))) && (!x.2.2.2.2.1))))] w11 _ .normal from ?_) za (zh.sub ⟨rfl, rfl, rfl, rfl, rfl, rfl, rfl, rfl, trivial⟩)
          refine WE.next ?_
          refine WC.cond rfl (fun h13 => ?_) (fun h13 => ?_)
          · have h13 : ((m : Int) < ((List.getD l x.1 0) : Int)) ∧ (¬ (x.2.2.2.2.1 = true)) := by simpa using h13
            have hdn : x.2.2.2.2.1 = false := by have z := (h13).2; simpa using z
            refine WC.seq ?_
            have hi114 : (if x.2.2.2.2.1 = true then 1 else 0) ≤ 1 := by split <;> omega
            have ho15 := ho4.below hb12
            have hSlt : ∀ b, (fun b => (Value.slice x.2.1 x.2.2.2.1 x.2.2.1).ownBlock = some b) b → b < w11.heap.size := fun b h => (ho15.lt b h).2
            have hSlo : ∀ b, (fun b => (Value.slice x.2.1 x.2.2.2.1 x.2.2.1).ownBlock = some b) b → w.heap.size ≤ b ∧ b < w2.heap.size := fun b h => ho4.lt b h
            have hBW : w.heap.size ≤ w11.heap.size := by have z1 := (Nat.le_trans hBw hb12.size); omega
            have hlL : x.2.2.2.1 = (x.2.2.2.2.2).length := ho15.len
            refine WC.tail3 (S := ((fun b => (Value.slice x.2.1 x.2.2.2.1 x.2.2.1).ownBlock = some b))) [(true, .val (.slice x.2.1 x.2.2.2.1 x.2.2.1)), (true, .val (.int .i64 m)), (true, .mem (fun v w' => OneRow eltI w11 3 m v w') (fun v w w' hc h => h.chg hc hSlt)), (true, .val undef), (true, .val undef)] [(0, .slice a l.length c), (1, .int .i64 m), (6, .bool x.2.2.2.2.1), (7, .int .i64 (((x.1 : Nat) : Int))), (11, .bool ((decide ((((x.1 : Nat) : Int) : Int) < (((l.length : Nat) : Int) : Int))))), (19, .bool ((((List.getD l x.1 0) : Int) == (m : Int)))), (30, .bool (((decide ((m : Int) < ((List.getD l x.1 0) : Int))) && (!x.2.2.2.2.1))))] 3 4 ((x.2.2.2.1 + 1)) 34 5 (fun ra rc wz => RowE eltI wz w.heap.size 3 ra rc (x.2.2.2.1 + 1) ((x.2.2.2.2.2 ++ [m]))) (by decide) (fun ra rc w w' hb h => h.below hb) ⟨rfl, rfl, rfl, rfl, rfl, rfl, rfl, trivial⟩ (by kernel_rfl) (by kernel_rfl) (by kernel_rfl) (by kernel_rfl) (by kernel_rfl) (by kernel_rfl) ?_ ?_
            · refine ⟨.inl ⟨rfl, true, .none rfl, (fun gg b h => by cases h), fun h w => optUndef h, fun zβ za zw zc => ?_⟩, ?_⟩
              · exact wp_move rfl ((show za.eval (.tmp 5) = za.tmps.getD 5 undef from rfl).trans (zc.old 5 _ rfl (by kernel_rfl))) ⟨_, rfl, Below.refl _ _, optDef zβ rfl⟩
              refine ⟨.inl ⟨rfl, true, .none rfl, (fun gg b h => by cases h), fun h w => optUndef h, fun zβ za zw zc => ?_⟩, ?_⟩
              · exact wp_move rfl (zc.kn.ev rfl) ⟨_, rfl, Below.refl _ _, optDef zβ rfl⟩
              refine ⟨.inl ⟨rfl, true, .none rfl, (fun gg b h => by cases h), fun h w => optUndef h, fun zβ za zw zc => ?_⟩, ?_⟩
              · exact row_59_1 rfl ((show za.eval (.tmp 32) = za.tmps.getD 32 undef from rfl).trans (optSVal (zc.dep 1 32 (by kernel_rfl) (by decide)) rfl rfl)) ⟨_, rfl, balloc _ _, optDef zβ ⟨_, [.int .i64 m], rfl, zc.chg.size, Blk.new' rfl, rfl⟩⟩
              refine ⟨.inr (.inl ⟨rfl, rfl, fun za zw zc => ?_⟩), ?_⟩
              · obtain ⟨g1, cs, e1, hg1, hB1, hin⟩ := (optSMem (zc.dep 2 33 (by kernel_rfl) (by decide)) rfl rfl)
                exact wp_appE (E := eltI) (size := 1) (bytes := 8) (z := .int .i64 0) rfl Try.underlying59 (by kernel_rfl) rfl (by decide) rfl ((show za.eval (.tmp 31) = za.tmps.getD 31 undef from rfl).trans (optSVal (zc.dep 0 31 (by kernel_rfl) (by decide)) rfl rfl)) ((show za.eval (.tmp 33) = za.tmps.getD 33 undef from rfl).trans e1) (ho15.below zc.below) hB1 (eltI.mono (fun b hb _ => ⟨by omega, fun e => by have z := (ho15.lt b e).2; omega⟩) hin) (by omega) (by omega) (by have z := zc.below.size; omega) (fun ra rc w' h1 h2 _ => ⟨ra, rc, rfl, h1, h2⟩)
              refine ⟨.inr (.inr ⟨rfl, rfl, 34, by kernel_rfl, rfl⟩), ?_⟩
              exact trivial
            · intro za w16 ra19 rc20 zh zv zv2 hG17 hc18 zu
              have zh := zh.cons (d := 5) zv2
              have hb21 : Below w.heap.size w w11 := (bstep hb3 hb12)
              have hb22 := chg_below hb21 hc18 (fun b hb => (fun h => by have h := hSlo _ h; (try dsimp only at *); omega))
              clear zu
              refine (show WE _ [(0, .slice a l.length c), (1, .int .i64 m), (5, .slice ra19 ((x.2.2.2.1 + 1)) rc20), (6, .bool x.2.2.2.2.1), (7, .int .i64 (((x.1 : Nat) : Int))), (11, .bool ((decide ((((x.1 : Nat) : Int) : Int) < (((l.length : Nat) : Int) : Int))))), (19, .bool ((((List.getD l x.1 0) : Int) == (m : Int)))), (30, .bool (((decide ((m : Int) < ((List.getD l x.1 0) : Int))) && (!x.2.2.2.2.1))))] w16 _ .normal from ?_) za (zh.sub ⟨rfl, rfl, rfl, rfl, rfl, rfl, rfl, rfl, trivial⟩)
              refine WE.next ?_
              refine WC.region ?_
              refine WL.val (.bool true) rfl rfl rfl (fun za zC zh zk => wp_assign rfl (zh.ev rfl) zk) ?_
              refine WL.nil (WE.sub (K' := [(0, .slice a l.length c), (1, .int .i64 m), (5, .slice ra19 ((x.2.2.2.1 + 1)) rc20), (6, .bool true), (7, .int .i64 (((x.1 : Nat) : Int))), (11, .bool ((decide ((((x.1 : Nat) : Int) : Int) < (((l.length : Nat) : Int) : Int))))), (19, .bool ((((List.getD l x.1 0) : Int) == (m : Int)))), (30, .bool (((decide ((m : Int) < ((List.getD l x.1 0) : Int))) && (!x.2.2.2.2.1))))]) ⟨rfl, rfl, rfl, rfl, rfl, rfl, rfl, rfl, trivial⟩ ?_)
              refine WE.next ?_
              have hi123 : (if x.2.2.2.2.1 = true then 1 else 0) ≤ 1 := by split <;> omega
              obtain ⟨b24, o25, ha26, hc27⟩ := InRow.openI (hl.rows.below hb22)
              have hSlt : ∀ b, (fun b => (Value.slice ra19 ((x.2.2.2.1 + 1)) rc20).ownBlock = some b) b → b < w16.heap.size := fun b h => (hG17.lt b h).2
              have hSlo : ∀ b, (fun b => (Value.slice ra19 ((x.2.2.2.1 + 1)) rc20).ownBlock = some b) b → w.heap.size ≤ b ∧ b < w16.heap.size := fun b h => hG17.lt b h
              have hBW : w.heap.size ≤ w16.heap.size := by have z1 := hb22.size; omega
              have hlL : (x.2.2.2.1 + 1) = ((x.2.2.2.2.2 ++ [m])).length := hG17.len
              refine WC.tail3 (S := ((fun b => (Value.slice ra19 ((x.2.2.2.1 + 1)) rc20).ownBlock = some b))) [(true, .val (.slice ra19 ((x.2.2.2.1 + 1)) rc20)), (true, .val (.slice a l.length c)), (true, .val (.int .i64 (((x.1 : Nat) : Int)))), (true, .val (.pointer (some ⟨b24, o25 + x.1, none⟩))), (true, .val (.int .i64 ((List.getD l x.1 0)))), (true, .mem (fun v w' => OneRow eltI w16 3 ((List.getD l x.1 0)) v w') (fun v w w' hc h => h.chg hc hSlt)), (true, .val undef), (true, .val undef)] [(0, .slice a l.length c), (1, .int .i64 m), (6, .bool true), (7, .int .i64 (((x.1 : Nat) : Int))), (11, .bool ((decide ((((x.1 : Nat) : Int) : Int) < (((l.length : Nat) : Int) : Int))))), (19, .bool ((((List.getD l x.1 0) : Int) == (m : Int)))), (30, .bool (((decide ((m : Int) < ((List.getD l x.1 0) : Int))) && (!x.2.2.2.2.1))))] 6 7 (((x.2.2.2.1 + 1) + 1)) 41 5 (fun ra rc wz => RowE eltI wz w.heap.size 3 ra rc ((x.2.2.2.1 + 1) + 1) (((x.2.2.2.2.2 ++ [m]) ++ [(List.getD l x.1 0)]))) (by decide) (fun ra rc w w' hb h => h.below hb) ⟨rfl, rfl, rfl, rfl, rfl, rfl, rfl, trivial⟩ (by kernel_rfl) (by kernel_rfl) (by kernel_rfl) (by kernel_rfl) (by kernel_rfl) (by kernel_rfl) ?_ ?_
              · refine ⟨.inl ⟨rfl, true, .none rfl, (fun gg b h => by cases h), fun h w => optUndef h, fun zβ za zw zc => ?_⟩, ?_⟩
                · exact wp_move rfl ((show za.eval (.tmp 5) = za.tmps.getD 5 undef from rfl).trans (zc.old 5 _ rfl (by kernel_rfl))) ⟨_, rfl, Below.refl _ _, optDef zβ rfl⟩
                refine ⟨.inl ⟨rfl, true, .none rfl, (fun gg b h => by cases h), fun h w => optUndef h, fun zβ za zw zc => ?_⟩, ?_⟩
                · exact wp_move rfl (zc.kn.ev rfl) ⟨_, rfl, Below.refl _ _, optDef zβ rfl⟩
                refine ⟨.inl ⟨rfl, true, .none rfl, (fun gg b h => by cases h), fun h w => optUndef h, fun zβ za zw zc => ?_⟩, ?_⟩
                · exact wp_move rfl (zc.kn.ev rfl) ⟨_, rfl, Below.refl _ _, optDef zβ rfl⟩
                refine ⟨.inl ⟨rfl, true, .none rfl, (fun gg b h => by cases h), fun h w => optUndef h, fun zβ za zw zc => ?_⟩, ?_⟩
                · exact ix_59 (k := x.1) rfl ((show za.eval (.tmp 36) = za.tmps.getD 36 undef from rfl).trans (optSVal (zc.dep 1 36 (by kernel_rfl) (by decide)) rfl rfl)) (ha26 x.1 (by omega)) ((show za.eval (.tmp 37) = za.tmps.getD 37 undef from rfl).trans (optSVal (zc.dep 2 37 (by kernel_rfl) (by decide)) rfl rfl)) (by first | omega | (simp; omega)) ⟨_, rfl, Below.refl _ _, optDef zβ rfl⟩
                refine ⟨.inl ⟨rfl, true, .none rfl, (fun gg b h => by cases h), fun h w => optUndef h, fun zβ za zw zc => ?_⟩, ?_⟩
                · exact ld_3 rfl ((show za.eval (.tmp 38) = za.tmps.getD 38 undef from rfl).trans (optSVal (zc.dep 3 38 (by kernel_rfl) (by decide)) rfl rfl)) (bkeeps (zc.early (by kernel_rfl)) _ _ (hc27 x.1 (by omega))) ⟨_, rfl, Below.refl _ _, optDef zβ rfl⟩
                refine ⟨.inl ⟨rfl, true, .none rfl, (fun gg b h => by cases h), fun h w => optUndef h, fun zβ za zw zc => ?_⟩, ?_⟩
                · exact row_59_1 rfl ((show za.eval (.tmp 39) = za.tmps.getD 39 undef from rfl).trans (optSVal (zc.dep 4 39 (by kernel_rfl) (by decide)) rfl rfl)) ⟨_, rfl, balloc _ _, optDef zβ ⟨_, [.int .i64 ((List.getD l x.1 0))], rfl, zc.chg.size, Blk.new' rfl, rfl⟩⟩
                refine ⟨.inr (.inl ⟨rfl, rfl, fun za zw zc => ?_⟩), ?_⟩
                · obtain ⟨g1, cs, e1, hg1, hB1, hin⟩ := (optSMem (zc.dep 5 40 (by kernel_rfl) (by decide)) rfl rfl)
                  exact wp_appE (E := eltI) (size := 1) (bytes := 8) (z := .int .i64 0) rfl Try.underlying59 (by kernel_rfl) rfl (by decide) rfl ((show za.eval (.tmp 35) = za.tmps.getD 35 undef from rfl).trans (optSVal (zc.dep 0 35 (by kernel_rfl) (by decide)) rfl rfl)) ((show za.eval (.tmp 40) = za.tmps.getD 40 undef from rfl).trans e1) (hG17.below zc.below) hB1 (eltI.mono (fun b hb _ => ⟨by omega, fun e => by have z := (hG17.lt b e).2; omega⟩) hin) (by omega) (by omega) (by have z := zc.below.size; omega) (fun ra rc w' h1 h2 _ => ⟨ra, rc, rfl, h1, h2⟩)
                refine ⟨.inr (.inr ⟨rfl, rfl, 41, by kernel_rfl, rfl⟩), ?_⟩
                exact trivial
              · intro za w28 ra31 rc32 zh zv zv2 hG29 hc30 zu
                have zh := zh.cons (d := 5) zv2
                have hb33 := chg_below hb22 hc30 (fun b hb => (fun h => by have h := hSlo _ h; (try dsimp only at *); omega))
                clear zu
                refine (show WE _ [(0, .slice a l.length c), (1, .int .i64 m), (5, .slice ra31 (((x.2.2.2.1 + 1) + 1)) rc32), (6, .bool true), (7, .int .i64 (((x.1 : Nat) : Int))), (11, .bool ((decide ((((x.1 : Nat) : Int) : Int) < (((l.length : Nat) : Int) : Int))))), (19, .bool ((((List.getD l x.1 0) : Int) == (m : Int)))), (30, .bool (((decide ((m : Int) < ((List.getD l x.1 0) : Int))) && (!x.2.2.2.2.1))))] w28 _ .normal from ?_) za (zh.sub ⟨rfl, rfl, rfl, rfl, rfl, rfl, rfl, rfl, trivial⟩)
                refine WE.blockNormal ?_
                refine WE.next ?_
                refine WC.region ?_
                refine WL.val (.int .i64 (((x.1 : Nat) : Int))) rfl rfl rfl (fun za zC zh zk => wp_move rfl (zh.ev rfl) zk) ?_
                refine WL.val (.int .i64 ((((x.1 + 1) : Nat) : Int))) rfl rfl rfl (fun za zC zh zk => addb_3 rfl (zh.ev rfl) (zh.ev rfl) (wrap_eq (by omega) (by omega) (by omega)) zk) ?_
                refine WL.val (.int .i64 ((((x.1 + 1) : Nat) : Int))) rfl rfl rfl (fun za zC zh zk => wp_assign rfl (zh.ev rfl) zk) ?_
                refine WL.nil (WE.sub (K' := [(0, .slice a l.length c), (1, .int .i64 m), (5, .slice ra31 (((x.2.2.2.1 + 1) + 1)) rc32), (6, .bool true), (7, .int .i64 ((((x.1 + 1) : Nat) : Int))), (11, .bool ((decide ((((x.1 : Nat) : Int) : Int) < (((l.length : Nat) : Int) : Int))))), (19, .bool ((((List.getD l x.1 0) : Int) == (m : Int)))), (30, .bool (((decide ((m : Int) < ((List.getD l x.1 0) : Int))) && (!x.2.2.2.2.1))))]) ⟨rfl, rfl, rfl, rfl, rfl, rfl, rfl, rfl, trivial⟩ ?_)
                refine WE.round ((x.1 + 1, ra31, rc32, ((x.2.2.2.1 + 1) + 1), true, ((x.2.2.2.2.2 ++ [m]) ++ [(List.getD l x.1 0)]))) ⟨rfl, rfl, rfl, rfl, rfl, trivial⟩ ?_ ?_
                · exact ⟨by (try dsimp only); omega, hb33.size, (varsOf_snoc (varsOf_snoc hvo (.inr rfl)) (.inl (iget_in (by omega)))), by (try dsimp only); rw [if_pos rfl]; rw [hdn] at hnn; simp at hnn; omega, hb33, hG29⟩
                · (try dsimp only); omega
          · have h13 : ¬ (((m : Int) < ((List.getD l x.1 0) : Int)) ∧ (¬ (x.2.2.2.2.1 = true))) := by simpa using h13
            refine WC.skip ?_
            refine WE.next ?_
            have hi134 : (if x.2.2.2.2.1 = true then 1 else 0) ≤ 1 := by split <;> omega
            have ho35 := ho4.below hb12
            have hb40 : Below w.heap.size w w11 := (bstep hb3 hb12)
            obtain ⟨b36, o37, ha38, hc39⟩ := InRow.openI (hl.rows.below hb40)
            have hSlt : ∀ b, (fun b => (Value.slice x.2.1 x.2.2.2.1 x.2.2.1).ownBlock = some b) b → b < w11.heap.size := fun b h => (ho35.lt b h).2
            have hSlo : ∀ b, (fun b => (Value.slice x.2.1 x.2.2.2.1 x.2.2.1).ownBlock = some b) b → w.heap.size ≤ b ∧ b < w2.heap.size := fun b h => ho4.lt b h
            have hBW : w.heap.size ≤ w11.heap.size := by have z1 := hb40.size; omega
            have hlL : x.2.2.2.1 = (x.2.2.2.2.2).length := ho35.len
            refine WC.tail3 (S := ((fun b => (Value.slice x.2.1 x.2.2.2.1 x.2.2.1).ownBlock = some b))) [(true, .val (.slice x.2.1 x.2.2.2.1 x.2.2.1)), (true, .val (.slice a l.length c)), (true, .val (.int .i64 (((x.1 : Nat) : Int)))), (true, .val (.pointer (some ⟨b36, o37 + x.1, none⟩))), (true, .val (.int .i64 ((List.getD l x.1 0)))), (true, .mem (fun v w' => OneRow eltI w11 3 ((List.getD l x.1 0)) v w') (fun v w w' hc h => h.chg hc hSlt)), (true, .val undef), (true, .val undef)] [(0, .slice a l.length c), (1, .int .i64 m), (6, .bool x.2.2.2.2.1), (7, .int .i64 (((x.1 : Nat) : Int))), (11, .bool ((decide ((((x.1 : Nat) : Int) : Int) < (((l.length : Nat) : Int) : Int))))), (19, .bool ((((List.getD l x.1 0) : Int) == (m : Int)))), (30, .bool (((decide ((m : Int) < ((List.getD l x.1 0) : Int))) && (!x.2.2.2.2.1))))] 6 7 ((x.2.2.2.1 + 1)) 41 5 (fun ra rc wz => RowE eltI wz w.heap.size 3 ra rc (x.2.2.2.1 + 1) ((x.2.2.2.2.2 ++ [(List.getD l x.1 0)]))) (by decide) (fun ra rc w w' hb h => h.below hb) ⟨rfl, rfl, rfl, rfl, rfl, rfl, rfl, trivial⟩ (by kernel_rfl) (by kernel_rfl) (by kernel_rfl) (by kernel_rfl) (by kernel_rfl) (by kernel_rfl) ?_ ?_
            · refine ⟨.inl ⟨rfl, true, .none rfl, (fun gg b h => by cases h), fun h w => optUndef h, fun zβ za zw zc => ?_⟩, ?_⟩
              · exact wp_move rfl ((show za.eval (.tmp 5) = za.tmps.getD 5 undef from rfl).trans (zc.old 5 _ rfl (by kernel_rfl))) ⟨_, rfl, Below.refl _ _, optDef zβ rfl⟩
              refine ⟨.inl ⟨rfl, true, .none rfl, (fun gg b h => by cases h), fun h w => optUndef h, fun zβ za zw zc => ?_⟩, ?_⟩
              · exact wp_move rfl (zc.kn.ev rfl) ⟨_, rfl, Below.refl _ _, optDef zβ rfl⟩
              refine ⟨.inl ⟨rfl, true, .none rfl, (fun gg b h => by cases h), fun h w => optUndef h, fun zβ za zw zc => ?_⟩, ?_⟩
              · exact wp_move rfl (zc.kn.ev rfl) ⟨_, rfl, Below.refl _ _, optDef zβ rfl⟩
              refine ⟨.inl ⟨rfl, true, .none rfl, (fun gg b h => by cases h), fun h w => optUndef h, fun zβ za zw zc => ?_⟩, ?_⟩
              · exact ix_59 (k := x.1) rfl ((show za.eval (.tmp 36) = za.tmps.getD 36 undef from rfl).trans (optSVal (zc.dep 1 36 (by kernel_rfl) (by decide)) rfl rfl)) (ha38 x.1 (by omega)) ((show za.eval (.tmp 37) = za.tmps.getD 37 undef from rfl).trans (optSVal (zc.dep 2 37 (by kernel_rfl) (by decide)) rfl rfl)) (by first | omega | (simp; omega)) ⟨_, rfl, Below.refl _ _, optDef zβ rfl⟩
              refine ⟨.inl ⟨rfl, true, .none rfl, (fun gg b h => by cases h), fun h w => optUndef h, fun zβ za zw zc => ?_⟩, ?_⟩
              · exact ld_3 rfl ((show za.eval (.tmp 38) = za.tmps.getD 38 undef from rfl).trans (optSVal (zc.dep 3 38 (by kernel_rfl) (by decide)) rfl rfl)) (bkeeps (zc.early (by kernel_rfl)) _ _ (hc39 x.1 (by omega))) ⟨_, rfl, Below.refl _ _, optDef zβ rfl⟩
              refine ⟨.inl ⟨rfl, true, .none rfl, (fun gg b h => by cases h), fun h w => optUndef h, fun zβ za zw zc => ?_⟩, ?_⟩
              · exact row_59_1 rfl ((show za.eval (.tmp 39) = za.tmps.getD 39 undef from rfl).trans (optSVal (zc.dep 4 39 (by kernel_rfl) (by decide)) rfl rfl)) ⟨_, rfl, balloc _ _, optDef zβ ⟨_, [.int .i64 ((List.getD l x.1 0))], rfl, zc.chg.size, Blk.new' rfl, rfl⟩⟩
              refine ⟨.inr (.inl ⟨rfl, rfl, fun za zw zc => ?_⟩), ?_⟩
              · obtain ⟨g1, cs, e1, hg1, hB1, hin⟩ := (optSMem (zc.dep 5 40 (by kernel_rfl) (by decide)) rfl rfl)
                exact wp_appE (E := eltI) (size := 1) (bytes := 8) (z := .int .i64 0) rfl Try.underlying59 (by kernel_rfl) rfl (by decide) rfl ((show za.eval (.tmp 35) = za.tmps.getD 35 undef from rfl).trans (optSVal (zc.dep 0 35 (by kernel_rfl) (by decide)) rfl rfl)) ((show za.eval (.tmp 40) = za.tmps.getD 40 undef from rfl).trans e1) (ho35.below zc.below) hB1 (eltI.mono (fun b hb _ => ⟨by omega, fun e => by have z := (ho35.lt b e).2; omega⟩) hin) (by omega) (by omega) (by have z := zc.below.size; omega) (fun ra rc w' h1 h2 _ => ⟨ra, rc, rfl, h1, h2⟩)
              refine ⟨.inr (.inr ⟨rfl, rfl, 41, by kernel_rfl, rfl⟩), ?_⟩
              exact trivial
            · intro za w41 ra44 rc45 zh zv zv2 hG42 hc43 zu
              have zh := zh.cons (d := 5) zv2
              have hb46 := chg_below hb40 hc43 (fun b hb => (fun h => by have h := hSlo _ h; (try dsimp only at *); omega))
              clear zu
              refine (show WE _ [(0, .slice a l.length c), (1, .int .i64 m), (5, .slice ra44 ((x.2.2.2.1 + 1)) rc45), (6, .bool x.2.2.2.2.1), (7, .int .i64 (((x.1 : Nat) : Int))), (11, .bool ((decide ((((x.1 : Nat) : Int) : Int) < (((l.length : Nat) : Int) : Int))))), (19, .bool ((((List.getD l x.1 0) : Int) == (m : Int)))), (30, .bool (((decide ((m : Int) < ((List.getD l x.1 0) : Int))) && (!x.2.2.2.2.1))))] w41 _ .normal from ?_) za (zh.sub ⟨rfl, rfl, rfl, rfl, rfl, rfl, rfl, rfl, trivial⟩)
              refine WE.blockNormal ?_
              refine WE.next ?_
              refine WC.region ?_
              refine WL.val (.int .i64 (((x.1 : Nat) : Int))) rfl rfl rfl (fun za zC zh zk => wp_move rfl (zh.ev rfl) zk) ?_
              refine WL.val (.int .i64 ((((x.1 + 1) : Nat) : Int))) rfl rfl rfl (fun za zC zh zk => addb_3 rfl (zh.ev rfl) (zh.ev rfl) (wrap_eq (by omega) (by omega) (by omega)) zk) ?_
              refine WL.val (.int .i64 ((((x.1 + 1) : Nat) : Int))) rfl rfl rfl (fun za zC zh zk => wp_assign rfl (zh.ev rfl) zk) ?_
              refine WL.nil (WE.sub (K' := [(0, .slice a l.length c), (1, .int .i64 m), (5, .slice ra44 ((x.2.2.2.1 + 1)) rc45), (6, .bool x.2.2.2.2.1), (7, .int .i64 ((((x.1 + 1) : Nat) : Int))), (11, .bool ((decide ((((x.1 : Nat) : Int) : Int) < (((l.length : Nat) : Int) : Int))))), (19, .bool ((((List.getD l x.1 0) : Int) == (m : Int)))), (30, .bool (((decide ((m : Int) < ((List.getD l x.1 0) : Int))) && (!x.2.2.2.2.1))))]) ⟨rfl, rfl, rfl, rfl, rfl, rfl, rfl, rfl, trivial⟩ ?_)
              refine WE.round ((x.1 + 1, ra44, rc45, (x.2.2.2.1 + 1), x.2.2.2.2.1, (x.2.2.2.2.2 ++ [(List.getD l x.1 0)]))) ⟨rfl, rfl, rfl, rfl, rfl, trivial⟩ ?_ ?_
              · exact ⟨by (try dsimp only); omega, hb46.size, (varsOf_snoc hvo (.inl (iget_in (by omega)))), by (try dsimp only); omega, hb46, hG42⟩
              · (try dsimp only); omega
    · have h5 : ¬ ((((x.1 : Nat) : Int) : Int) < (((l.length : Nat) : Int) : Int)) := by simpa using h5
      refine WC.exit ?_
      refine WE.thenExit ?_
      refine WE.thenExit ?_
      refine WE.blockIs rfl ?_
      refine WE.next ?_
      refine WC.seq ?_
      refine WC.seq ?_
      refine WC.region ?_
      refine WL.val (.bool x.2.2.2.2.1) rfl rfl rfl (fun za zC zh zk => wp_move rfl (zh.ev rfl) zk) ?_
      refine WL.val (.bool ((!x.2.2.2.2.1))) rfl rfl rfl (fun za zC zh zk => wp_not rfl (zh.ev rfl) zk) ?_
      refine WL.nil (WE.sub (K' := [(0, .slice a l.length c), (1, .int .i64 m), (5, .slice x.2.1 x.2.2.2.1 x.2.2.1), (6, .bool x.2.2.2.2.1), (7, .int .i64 (((x.1 : Nat) : Int))), (11, .bool ((decide ((((x.1 : Nat) : Int) : Int) < (((l.length : Nat) : Int) : Int))))), (43, .bool ((!x.2.2.2.2.1)))]) ⟨rfl, rfl, rfl, rfl, rfl, rfl, rfl, trivial⟩ ?_)
      refine WE.next ?_
      refine WC.cond rfl (fun h47 => ?_) (fun h47 => ?_)
      · have h47 : ¬ (x.2.2.2.2.1 = true) := by simpa using h47
        have hi148 : (if x.2.2.2.2.1 = true then 1 else 0) ≤ 1 := by split <;> omega
        have hSlt : ∀ b, (fun b => (Value.slice x.2.1 x.2.2.2.1 x.2.2.1).ownBlock = some b) b → b < w2.heap.size := fun b h => (ho4.lt b h).2
        have hSlo : ∀ b, (fun b => (Value.slice x.2.1 x.2.2.2.1 x.2.2.1).ownBlock = some b) b → w.heap.size ≤ b ∧ b < w2.heap.size := fun b h => ho4.lt b h
        have hBW : w.heap.size ≤ w2.heap.size := by have z1 := hBw; omega
        have hlL : x.2.2.2.1 = (x.2.2.2.2.2).length := ho4.len
        refine WC.tail3 (S := ((fun b => (Value.slice x.2.1 x.2.2.2.1 x.2.2.1).ownBlock = some b))) [(true, .val (.slice x.2.1 x.2.2.2.1 x.2.2.1)), (true, .val (.int .i64 m)), (true, .mem (fun v w' => OneRow eltI w2 3 m v w') (fun v w w' hc h => h.chg hc hSlt)), (true, .val undef), (true, .val undef)] [(0, .slice a l.length c), (1, .int .i64 m), (6, .bool x.2.2.2.2.1), (7, .int .i64 (((x.1 : Nat) : Int))), (11, .bool ((decide ((((x.1 : Nat) : Int) : Int) < (((l.length : Nat) : Int) : Int))))), (43, .bool ((!x.2.2.2.2.1)))] 3 4 ((x.2.2.2.1 + 1)) 47 5 (fun ra rc wz => RowE eltI wz w.heap.size 3 ra rc (x.2.2.2.1 + 1) ((x.2.2.2.2.2 ++ [m]))) (by decide) (fun ra rc w w' hb h => h.below hb) ⟨rfl, rfl, rfl, rfl, rfl, rfl, trivial⟩ (by kernel_rfl) (by kernel_rfl) (by kernel_rfl) (by kernel_rfl) (by kernel_rfl) (by kernel_rfl) ?_ ?_
        · refine ⟨.inl ⟨rfl, true, .none rfl, (fun gg b h => by cases h), fun h w => optUndef h, fun zβ za zw zc => ?_⟩, ?_⟩
          · exact wp_move rfl ((show za.eval (.tmp 5) = za.tmps.getD 5 undef from rfl).trans (zc.old 5 _ rfl (by kernel_rfl))) ⟨_, rfl, Below.refl _ _, optDef zβ rfl⟩
          refine ⟨.inl ⟨rfl, true, .none rfl, (fun gg b h => by cases h), fun h w => optUndef h, fun zβ za zw zc => ?_⟩, ?_⟩
          · exact wp_move rfl (zc.kn.ev rfl) ⟨_, rfl, Below.refl _ _, optDef zβ rfl⟩
          refine ⟨.inl ⟨rfl, true, .none rfl, (fun gg b h => by cases h), fun h w => optUndef h, fun zβ za zw zc => ?_⟩, ?_⟩
          · exact row_59_1 rfl ((show za.eval (.tmp 45) = za.tmps.getD 45 undef from rfl).trans (optSVal (zc.dep 1 45 (by kernel_rfl) (by decide)) rfl rfl)) ⟨_, rfl, balloc _ _, optDef zβ ⟨_, [.int .i64 m], rfl, zc.chg.size, Blk.new' rfl, rfl⟩⟩
          refine ⟨.inr (.inl ⟨rfl, rfl, fun za zw zc => ?_⟩), ?_⟩
          · obtain ⟨g1, cs, e1, hg1, hB1, hin⟩ := (optSMem (zc.dep 2 46 (by kernel_rfl) (by decide)) rfl rfl)
            exact wp_appE (E := eltI) (size := 1) (bytes := 8) (z := .int .i64 0) rfl Try.underlying59 (by kernel_rfl) rfl (by decide) rfl ((show za.eval (.tmp 44) = za.tmps.getD 44 undef from rfl).trans (optSVal (zc.dep 0 44 (by kernel_rfl) (by decide)) rfl rfl)) ((show za.eval (.tmp 46) = za.tmps.getD 46 undef from rfl).trans e1) (ho4.below zc.below) hB1 (eltI.mono (fun b hb _ => ⟨by omega, fun e => by have z := (ho4.lt b e).2; omega⟩) hin) (by omega) (by omega) (by have z := zc.below.size; omega) (fun ra rc w' h1 h2 _ => ⟨ra, rc, rfl, h1, h2⟩)
          refine ⟨.inr (.inr ⟨rfl, rfl, 47, by kernel_rfl, rfl⟩), ?_⟩
          exact trivial
        · intro za w49 ra52 rc53 zh zv zv2 hG50 hc51 zu
          have zh := zh.cons (d := 5) zv2
          have hb54 := chg_below hb3 hc51 (fun b hb => (fun h => by have h := hSlo _ h; (try dsimp only at *); omega))
          clear zu
          refine (show WE _ [(0, .slice a l.length c), (1, .int .i64 m), (5, .slice ra52 ((x.2.2.2.1 + 1)) rc53), (6, .bool x.2.2.2.2.1), (7, .int .i64 (((x.1 : Nat) : Int))), (11, .bool ((decide ((((x.1 : Nat) : Int) : Int) < (((l.length : Nat) : Int) : Int))))), (43, .bool ((!x.2.2.2.2.1)))] w49 _ .normal from ?_) za (zh.sub ⟨rfl, rfl, rfl, rfl, rfl, rfl, rfl, trivial⟩)
          refine WE.next ?_
          refine WC.seq ?_
          refine WC.region ?_
          refine WL.val (.slice ra52 ((x.2.2.2.1 + 1)) rc53) rfl rfl rfl (fun za zC zh zk => wp_move rfl (zh.ev rfl) zk) ?_
          refine WL.val (.slice ra52 ((x.2.2.2.1 + 1)) rc53) rfl rfl rfl (fun za zC zh zk => wp_assign rfl (zh.ev rfl) zk) ?_
          refine WL.nil (WE.sub (K' := [(0, .slice a l.length c), (1, .int .i64 m), (4, .slice ra52 ((x.2.2.2.1 + 1)) rc53), (5, .slice ra52 ((x.2.2.2.1 + 1)) rc53), (6, .bool x.2.2.2.2.1), (7, .int .i64 (((x.1 : Nat) : Int))), (11, .bool ((decide ((((x.1 : Nat) : Int) : Int) < (((l.length : Nat) : Int) : Int))))), (43, .bool ((!x.2.2.2.2.1)))]) ⟨rfl, rfl, rfl, rfl, rfl, rfl, rfl, rfl, trivial⟩ ?_)
          refine WE.next ?_
          refine WC.ret ?_
          refine WE.ret1 rfl rfl ?_
          have hRo := (hG50).inRow
          have hi9 : (if x.2.2.2.2.1 = true then 1 else 0) ≤ 1 := by split <;> omega
          rw [hRo.2.1]
          refine ⟨_, rfl, ⟨_, _, _, rfl, ⟨hRo.1.mono (by decide) (fun _ _ _ => trivial), by omega, hRo.2.2.2⟩, (varsOf_snoc hvo (.inr rfl)), ?_⟩, hb54⟩
          rw [← hRo.2.1]; have z := h47; simp at z; rw [z] at hnn; simp at hnn; omega
      · have h47 : ¬ (¬ (x.2.2.2.2.1 = true)) := by simpa using h47
        refine WC.skip ?_
        refine WE.next ?_
        refine WC.seq ?_
        refine WC.region ?_
        refine WL.val (.slice x.2.1 x.2.2.2.1 x.2.2.1) rfl rfl rfl (fun za zC zh zk => wp_move rfl (zh.ev rfl) zk) ?_
        refine WL.val (.slice x.2.1 x.2.2.2.1 x.2.2.1) rfl rfl rfl (fun za zC zh zk => wp_assign rfl (zh.ev rfl) zk) ?_
        refine WL.nil (WE.sub (K' := [(0, .slice a l.length c), (1, .int .i64 m), (4, .slice x.2.1 x.2.2.2.1 x.2.2.1), (5, .slice x.2.1 x.2.2.2.1 x.2.2.1), (6, .bool x.2.2.2.2.1), (7, .int .i64 (((x.1 : Nat) : Int))), (11, .bool ((decide ((((x.1 : Nat) : Int) : Int) < (((l.length : Nat) : Int) : Int))))), (43, .bool ((!x.2.2.2.2.1)))]) ⟨rfl, rfl, rfl, rfl, rfl, rfl, rfl, rfl, trivial⟩ ?_)
        refine WE.next ?_
        refine WC.ret ?_
        refine WE.ret1 rfl rfl ?_
        have hRo := (ho4).inRow
        have hi9 : (if x.2.2.2.2.1 = true then 1 else 0) ≤ 1 := by split <;> omega
        rw [hRo.2.1]
        refine ⟨_, rfl, ⟨_, _, _, rfl, ⟨hRo.1.mono (by decide) (fun _ _ _ => trivial), by omega, hRo.2.2.2⟩, hvo, ?_⟩, hb3⟩
        rw [← hRo.2.1]; omega

end Go.Proofs.Ytcmfjnadjddboaa

/- Operations, one law a kind and type. -/
namespace Go.Proofs.Ytcmfjnadjddboaa
open Go.RowKit Go
set_option linter.unusedVariables false
set_option linter.unusedSimpArgs false
set_option maxRecDepth 100000

theorem ld_78 {w : World} {a : Act} {K : Act → World → Prop} {Q : Exit → Act → World → Prop} {o : Oper} {x : Operand} {p : Addr} {v : Value} (ho : o.op = .load 78 x) (hx : a.eval x = .pointer (some p)) (hc : w.cell? p = some v) (hK : K (a.put o.dst (v)) w) : o.wp Try.prog a w K Q := by
  unfold Oper.wp execOp
  simp only [ho, hx]
  go_simp
  exact hK
theorem st_26 {w : World} {a : Act} {K : Act → World → Prop} {Q : Exit → Act → World → Prop} {o : Oper} {x y : Operand} {g p : Nat} {ty : TypeId} {cs : Array Value} {c0a : Option Addr} {c0n c0c : Nat} (ho : o.op = .store 26 x y) (hx : a.eval x = .pointer (some ⟨g, p, none⟩)) (hy : a.eval y = .slice c0a c0n c0c) (hB : Blk w g ty cs) (hp : p + 0 < cs.size) (hK : ∀ v, K (a.put o.dst v) (w.setCell ⟨g, p, none⟩ (.slice c0a c0n c0c))) : o.wp Try.prog a w K Q := by
  have h0 := (hB.cell (p)).trans (Array.getElem?_eq_getElem (by first | omega | (simp; omega)))
  have f0 := hB.frozen (p)
  clear hB
  unfold Oper.wp execOp
  simp only [ho, hx, hy]
  go_simp
  exact hK _
theorem st_3 {w : World} {a : Act} {K : Act → World → Prop} {Q : Exit → Act → World → Prop} {o : Oper} {x y : Operand} {g p : Nat} {ty : TypeId} {cs : Array Value} {c0 : Int} (ho : o.op = .store 3 x y) (hx : a.eval x = .pointer (some ⟨g, p, none⟩)) (hy : a.eval y = .int .i64 c0) (hB : Blk w g ty cs) (hp : p + 0 < cs.size) (hK : ∀ v, K (a.put o.dst v) (w.setCell ⟨g, p, none⟩ (.int .i64 c0))) : o.wp Try.prog a w K Q := by
  have h0 := (hB.cell (p)).trans (Array.getElem?_eq_getElem (by first | omega | (simp; omega)))
  have f0 := hB.frozen (p)
  clear hB
  unfold Oper.wp execOp
  simp only [ho, hx, hy]
  go_simp
  exact hK _
theorem alloc_78 {w : World} {a : Act} {K : Act → World → Prop} {Q : Exit → Act → World → Prop} {o : Oper} (ho : o.op = .alloc 78) (hK : K (a.put o.dst (.pointer (some ⟨w.heap.size, 0, none⟩))) (w.alloc (.cells #[.map none] 78))) : o.wp Try.prog a w K Q := by
  unfold Oper.wp execOp
  simp only [ho]
  go_simp
  exact hK
theorem st_78 {w : World} {a : Act} {K : Act → World → Prop} {Q : Exit → Act → World → Prop} {o : Oper} {x y : Operand} {g p : Nat} {ty : TypeId} {cs : Array Value} {c0 : Option Nat} (ho : o.op = .store 78 x y) (hx : a.eval x = .pointer (some ⟨g, p, none⟩)) (hy : a.eval y = .map c0) (hB : Blk w g ty cs) (hp : p + 0 < cs.size) (hK : ∀ v, K (a.put o.dst v) (w.setCell ⟨g, p, none⟩ (.map c0))) : o.wp Try.prog a w K Q := by
  have h0 := (hB.cell (p)).trans (Array.getElem?_eq_getElem (by first | omega | (simp; omega)))
  have f0 := hB.frozen (p)
  clear hB
  unfold Oper.wp execOp
  simp only [ho, hx, hy]
  go_simp
  exact hK _
theorem alloc_26 {w : World} {a : Act} {K : Act → World → Prop} {Q : Exit → Act → World → Prop} {o : Oper} (ho : o.op = .alloc 26) (hK : K (a.put o.dst (.pointer (some ⟨w.heap.size, 0, none⟩))) (w.alloc (.cells #[.slice none 0 0] 26))) : o.wp Try.prog a w K Q := by
  unfold Oper.wp execOp
  simp only [ho]
  go_simp
  exact hK
theorem len_50 {w : World} {a : Act} {K : Act → World → Prop} {Q : Exit → Act → World → Prop} {o : Oper} {x : Operand} {r : Option Addr} {n c : Nat} (ho : o.op = .call { callee := .builtin .len, args := #[x], argTypes := #[50] }) (hx : a.eval x = .slice r n c) (hK : K (a.put o.dst (.int .i64 n)) w) : o.wp Try.prog a w K Q := by
  unfold Oper.wp execOp
  simp only [ho, resolve, List.map_toArray, List.map_cons, List.map_nil, hx]
  go_simp
  exact hK
theorem ix_50 {w : World} {a : Act} {K : Act → World → Prop} {Q : Exit → Act → World → Prop} {o : Oper} {x y : Operand} {r : Option Addr} {b p n c k : Nat} (ho : o.op = .indexAddr 50 x y) (hx : a.eval x = .slice r n c) (hr : r = some ⟨b, p, none⟩) (hy : a.eval y = .int .i64 (k : Int)) (hk : k < n) (hK : K (a.put o.dst (.pointer (some ⟨b, p + k * 5, none⟩))) w) : o.wp Try.prog a w K Q := by
  subst hr
  have h0 : (0 : Int) ≤ (k : Int) := by omega
  have h1 : (k : Int) < (n : Int) := by omega
  unfold Oper.wp execOp
  simp only [ho, hx, hy]
  go_simp
  exact hK
theorem row_50_1 {w : World} {a : Act} {K : Act → World → Prop} {Q : Exit → Act → World → Prop} {o : Oper} {x0 : Operand} {c0 c1 c2 c3 c4 : Value} (ho : o.op = .buildSlice 50 1 #[(0, x0)]) (h0 : a.eval x0 = .agg #[c0, c1, c2, c3, c4]) (hK : K (a.put o.dst (.slice (some ⟨w.heap.size, 0, none⟩) 1 1)) (w.alloc (.cells #[c0, c1, c2, c3, c4] 41))) : o.wp Try.prog a w K Q := by
  unfold Oper.wp execOp
  simp only [ho, List.map_toArray, List.map_cons, List.map_nil, h0]
  go_simp
  exact hK
theorem app_50 {w : World} {a : Act} {K : Act → World → Prop} {Q : Exit → Act → World → Prop} {o : Oper} {s x : Operand} {n m rc : Nat} {S : Nat → Prop} {ra : Option Addr} {y : Value} {xs news : List Value} (ho : o.op = .call { callee := .builtin .append, args := #[s, x], argTypes := #[50, 50] }) (hs : a.eval s = .slice ra n rc) (hx : a.eval x = y) (hown : Own w S 41 5 ra rc n xs) (hsrc : SrcIs w y m news) (hl : news.length = m * 5) (h1 : ∀ u ∈ news, u.oneCell' = true)
    (hb : (n + m) * 72 ≤ 140737488355328) (hn : n + m ≤ 9223372036854775807) (hS : S w.heap.size) (hK : ∀ ra rc w', Own w' S 41 5 ra rc (n + m) (xs ++ news) → Chg S w w' → K (a.put o.dst (.slice ra (n + m) rc)) w') : o.wp Try.prog a w K Q :=
  wp_own Try.underlying50 (z := .agg #[.bool false, .int .i64 0, .slice none 0 0, .int .i64 0, .slice none 0 0]) (size := 5) (bytes := 72) (by kernel_rfl) rfl (by decide) ho hs hx hown hsrc hl h1 hb hn hS hK
theorem build_41_1_2 {w : World} {a : Act} {K : Act → World → Prop} {Q : Exit → Act → World → Prop} {o : Oper} {x0 x1 : Operand} {c1 c2 : Value} {c3 c4 : Value} (ho : o.op = .build 41 #[(1, x0), (2, x1)]) (h0 : a.eval x0 = .agg #[c1, c2]) (h1 : a.eval x1 = .agg #[c3, c4]) (hK : K (a.put o.dst (.agg #[.bool false, c1, c2, c3, c4])) w) : o.wp Try.prog a w K Q := by
  unfold Oper.wp execOp
  simp only [ho, List.map_toArray, List.map_cons, List.map_nil, h0, h1]
  go_simp
  exact hK
theorem min_3 {w : World} {a : Act} {K : Act → World → Prop} {Q : Exit → Act → World → Prop} {o : Oper} {x y : Operand} {m n : Int} (ho : o.op = .call { callee := .builtin .min, args := #[x, y], argTypes := #[3, 3] }) (hx : a.eval x = .int .i64 m) (hy : a.eval y = .int .i64 n) (hK : K (a.put o.dst (.int .i64 (min m n))) w) : o.wp Try.prog a w K Q := by
  unfold Oper.wp execOp
  simp only [ho, resolve, List.map_toArray, List.map_cons, List.map_nil, hx, hy]
  go_simp
  first
    | exact hK
    | (have e : min m n = (if n < m then n else m) := by split <;> omega
       rw [e] at hK
       exact hK)

end Go.Proofs.Ytcmfjnadjddboaa

/- A variable is named: the closure that writes what was named. -/
namespace Go.Proofs.Ytcmfjnadjddboaa
open Go.RowKit Go
set_option linter.unusedVariables false
set_option linter.unusedSimpArgs false

set_option linter.unnecessarySimpa false

theorem zeroInt (w : World) : (zeroValue 3).run Try.prog w = .ok (.int .i64 0) w := by kernel_rfl
theorem inT_lf {S : Nat → Prop} {w : World} {f : Int} (hf : I64 f) : InT S w (.mk f []) (.agg #[.int .i64 f, .slice none 0 0]) := ⟨hf, none, 0, rfl, Nat.le_refl _, Nat.zero_le _, trivial⟩
theorem nmTo_some {ns : List Int} {v : Int} {i : Nat} (h : nmIx ns v 0 = some i) : nmTo ns v = (i, ns) := by unfold nmTo; rw [h]
theorem nmTo_none {ns : List Int} {v : Int} (h : nmIx ns v 0 = none) : nmTo ns v = (ns.length, ns ++ [v]) := by unfold nmTo; rw [h]
set_option maxRecDepth 100000 in
theorem nto_any {gn gs : Nat} {ns : List Int} {C : Nat → Prop} (v : Int) (w : World) (h : NmAt w gn gs ns C) (hv : I64 v) (hl : ns.length ≤ 1099511627776) : Calls Try.prog 47 #[.int .i64 v, .pointer (some ⟨gn, 0, none⟩), .pointer (some ⟨gs, 0, none⟩)] w (Ret fun v' w' => (∃ C', v' = .int .i64 ((nmTo ns v).1 : Nat) ∧ NmAt w' gn gs (nmTo ns v).2 C' ∧ ∀ b, C' b → C b ∨ w.heap.size ≤ b) ∧ Chg C w w') := by
  have h0 := h
  obtain ⟨mb, es, cl, a, c, hN⟩ := h
  have hmn := hN.mn
  have hms := hN.ms
  have hgn := hN.bn.lt
  have hgs := hN.bs.lt
  have hgm := hN.mp.lt
  have hgg := hN.ne
  have hr1 := hN.rown
  have hr2 := hN.rows
  have hr3 := hN.rowm
  have hbl := nmB_len ns 0
  have hri := hN.row.inRow
  have hv2 := hv
  unfold I64 at hv2
  refine Calls.walk (l := [.int .i64 v, .pointer (some ⟨gn, 0, none⟩), .pointer (some ⟨gs, 0, none⟩)]) Try.func47 rfl (by kernel_rfl) ?_
  refine WC.sub (K' := [(0, .int .i64 v), (1, .pointer (some ⟨gn, 0, none⟩)), (2, .pointer (some ⟨gs, 0, none⟩))]) ⟨rfl, rfl, rfl, trivial⟩ ?_
  refine WC.seq ?_
  refine WC.region ?_
  refine WL.val (.int .i64 0) rfl rfl rfl (fun za zC zh zk => wp_assign rfl (zh.ev rfl) zk) ?_
  refine WL.nil (WE.sub (K' := [(0, .int .i64 v), (1, .pointer (some ⟨gn, 0, none⟩)), (2, .pointer (some ⟨gs, 0, none⟩)), (4, .int .i64 0)]) ⟨rfl, rfl, rfl, rfl, trivial⟩ ?_)
  refine WE.next ?_
  refine WC.seq ?_
  refine WC.region ?_
  refine WL.val (.map ((some mb))) rfl rfl rfl (fun za zC zh zk => ld_78 rfl (zh.ev rfl) ((hN.bn.cell 0).trans rfl) zk) ?_
  refine WL.val (.int .i64 v) rfl rfl rfl (fun za zC zh zk => wp_move rfl (zh.ev rfl) zk) ?_
  rcases hix : nmIx ns v 0 with _ | i
  · refine WL.val (.tuple #[.int .i64 0, .bool false]) rfl rfl rfl (fun za zC zh zk => wp_lookok_im Try.underlying78 Try.underlying3 (zeroInt _) hN.mp hN.ent rfl (zh.ev rfl) (zh.ev rfl) (by rw [nm_look, hix]; exact zk)) ?_
    refine WL.val (.tuple #[.int .i64 0, .bool false]) rfl rfl rfl (fun za zC zh zk => wp_move rfl (zh.ev rfl) zk) ?_
    refine WL.val (.int .i64 0) rfl rfl rfl (fun za zC zh zk => ext2_0 rfl (zh.ev rfl) zk) ?_
    refine WL.val (.bool false) rfl rfl rfl (fun za zC zh zk => ext2_1 rfl (zh.ev rfl) zk) ?_
    refine WL.val (.int .i64 0) rfl rfl rfl (fun za zC zh zk => wp_assign rfl (zh.ev rfl) zk) ?_
    refine WL.val (.bool false) rfl rfl rfl (fun za zC zh zk => wp_assign rfl (zh.ev rfl) zk) ?_
    refine WL.nil (WE.sub (K' := [(0, .int .i64 v), (1, .pointer (some ⟨gn, 0, none⟩)), (2, .pointer (some ⟨gs, 0, none⟩)), (4, .int .i64 0), (5, .int .i64 0), (6, .bool false)]) ⟨rfl, rfl, rfl, rfl, rfl, rfl, trivial⟩ ?_)
    refine WE.next ?_
    refine WC.seq ?_
    refine WC.seq ?_
    refine WC.region ?_
    refine WL.val (.bool false) rfl rfl rfl (fun za zC zh zk => wp_move rfl (zh.ev rfl) zk) ?_
    refine WL.val (.bool true) rfl rfl rfl (fun za zC zh zk => wp_not rfl (zh.ev rfl) zk) ?_
    refine WL.nil (WE.sub (K' := [(0, .int .i64 v), (1, .pointer (some ⟨gn, 0, none⟩)), (2, .pointer (some ⟨gs, 0, none⟩)), (4, .int .i64 0), (5, .int .i64 0), (6, .bool false), (14, .bool true)]) ⟨rfl, rfl, rfl, rfl, rfl, rfl, rfl, trivial⟩ ?_)
    refine WE.next ?_
    refine WC.condT rfl rfl ?_
    refine WC.seq ?_
    refine WC.region ?_
    refine WL.val (.map ((some mb))) rfl rfl rfl (fun za zC zh zk => ld_78 rfl (zh.ev rfl) ((hN.bn.cell 0).trans rfl) zk) ?_
    refine WL.val (.int .i64 ((ns.length : Nat) : Int)) rfl rfl rfl (fun za zC zh zk => wp_lenMap_im Try.underlying78 hN.mp hN.ent rfl (zh.ev rfl) (by rw [nmL_len]; exact zk)) ?_
    refine WL.val (.int .i64 (((ns.length : Nat) : Int))) rfl rfl rfl (fun za zC zh zk => wp_assign rfl (zh.ev rfl) zk) ?_
    refine WL.nil (WE.sub (K' := [(0, .int .i64 v), (1, .pointer (some ⟨gn, 0, none⟩)), (2, .pointer (some ⟨gs, 0, none⟩)), (4, .int .i64 0), (5, .int .i64 (((ns.length : Nat) : Int))), (6, .bool false), (14, .bool true)]) ⟨rfl, rfl, rfl, rfl, rfl, rfl, rfl, trivial⟩ ?_)
    refine WE.next ?_
    refine WC.seq ?_
    refine WC.region ?_
    refine WL.val (.map ((some mb))) rfl rfl rfl (fun za zC zh zk => ld_78 rfl (zh.ev rfl) ((hN.bn.cell 0).trans rfl) zk) ?_
    refine WL.val (.int .i64 v) rfl rfl rfl (fun za zC zh zk => wp_move rfl (zh.ev rfl) zk) ?_
    refine WL.val (.int .i64 (((ns.length : Nat) : Int))) rfl rfl rfl (fun za zC zh zk => wp_move rfl (zh.ev rfl) zk) ?_
    refine WL.step (post := fun _ w' => ∃ es' cl', ObjAt w' mb (.map es' cl') ∧ ImE es' cl' (nmL ns 0 ++ [(v, .int .i64 ((ns.length : Nat) : Int))]) ∧ Upd mb w w') rfl rfl rfl (fun za zC zh zk => wp_put_im Try.underlying78 Try.underlying3 hN.mp hN.ent rfl (zh.ev rfl) (zh.ev rfl) (zh.ev rfl) (nm_none hix) (fun w' es' cl' h1 h2 h3 => zk _ _ ⟨es', cl', h1, h2, h3⟩)) ?_
    rintro _ w1 ⟨es2, cl3, hM4, hE5, hu6⟩
    have hB7 := upd_blk hN.bn hu6 (by omega)
    have hB8 := upd_blk hN.bs hu6 (by omega)
    refine WL.nil (WE.sub (K' := [(0, .int .i64 v), (1, .pointer (some ⟨gn, 0, none⟩)), (2, .pointer (some ⟨gs, 0, none⟩)), (4, .int .i64 0), (5, .int .i64 (((ns.length : Nat) : Int))), (6, .bool false), (14, .bool true)]) ⟨rfl, rfl, rfl, rfl, rfl, rfl, rfl, trivial⟩ ?_)
    refine WE.next ?_
    refine WC.seq ?_
    refine WC.region ?_
    refine WL.val (.int .i64 (((ns.length : Nat) : Int))) rfl rfl rfl (fun za zC zh zk => wp_move rfl (zh.ev rfl) zk) ?_
    refine WL.val (.int .i64 v) rfl rfl rfl (fun za zC zh zk => wp_move rfl (zh.ev rfl) zk) ?_
    refine WL.val (.bool (((((ns.length : Nat) : Int) : Int) != (v : Int)))) rfl rfl rfl (fun za zC zh zk => neq_3 rfl (zh.ev rfl) (zh.ev rfl) zk) ?_
    refine WL.nil (WE.sub (K' := [(0, .int .i64 v), (1, .pointer (some ⟨gn, 0, none⟩)), (2, .pointer (some ⟨gs, 0, none⟩)), (4, .int .i64 0), (5, .int .i64 (((ns.length : Nat) : Int))), (6, .bool false), (14, .bool true), (22, .bool (((((ns.length : Nat) : Int) : Int) != (v : Int))))]) ⟨rfl, rfl, rfl, rfl, rfl, rfl, rfl, rfl, trivial⟩ ?_)
    refine WE.next ?_
    refine WC.cond rfl (fun h9 => ?_) (fun h9 => ?_)
    · have h9 : (((ns.length : Nat) : Int) : Int) ≠ (v : Int) := by simpa using h9
      refine WC.region ?_
      refine WL.val (.slice a ((nmB ns 0).length) c) rfl rfl rfl (fun za zC zh zk => ld_26 rfl (zh.ev rfl) ((hB8.cell 0).trans rfl) zk) ?_
      refine WL.val (.int .i64 v) rfl rfl rfl (fun za zC zh zk => wp_move rfl (zh.ev rfl) zk) ?_
      refine WL.val (.int .i64 (((ns.length : Nat) : Int))) rfl rfl rfl (fun za zC zh zk => wp_move rfl (zh.ev rfl) zk) ?_
      refine WL.val (.int .i64 ((-1 - ((ns.length : Nat) : Int)))) rfl rfl rfl (fun za zC zh zk => subb_3 rfl (zh.ev rfl) (zh.ev rfl) (wrap_eq rfl (by omega) (by omega)) zk) ?_
      refine WL.val (.agg #[.int .i64 ((-1 - ((ns.length : Nat) : Int))), .slice none 0 0]) rfl rfl rfl (fun za zC zh zk => build_24_0 rfl (zh.ev rfl) zk) ?_
      refine WL.val (.agg #[.int .i64 v, .int .i64 ((-1 - ((ns.length : Nat) : Int))), .slice none 0 0]) rfl rfl rfl (fun za zC zh zk => build_57_0_1 rfl (zh.ev rfl) (zh.ev rfl) zk) ?_
      refine WL.step (post := NewRow w1 57 #[.int .i64 v, .int .i64 ((-1 - ((ns.length : Nat) : Int))), .slice none 0 0] 1) rfl rfl rfl (fun za zC zh zk => row_26_1 rfl (zh.ev rfl) (zk _ _ (newRow _ _ _ _))) ?_
      rintro _ w10 ⟨g11, rfl, hg12, hB13, hb14, hz15⟩
      have hl16 : gn < g11 := by have z1 := hB7.lt; omega
      have hl17 : gs < g11 := by have z1 := hB8.lt; omega
      have hl18 : mb < g11 := by have z1 := hM4.lt; omega
      have hs19 : Chg ((fun b => b = mb)) w w10 := (Chg.trans2 (Chg.trans2 (Chg.refl ((fun b => b = mb)) _) (Chg.ofUpd (S := fun k => k = mb) hu6 rfl) (fun i h1 h2 => by first | exact h2 | exact .inl ⟨h2, h1⟩ | exact .inl h2 | exact .inr h2 | exact .inr (.inl h2) | exact .inr (.inr h2) | ((try dsimp only at *); omega))) (Chg.ofBelow (S := fun k => k < 0) hb14) (fun i h1 h2 => by first | exact h2 | exact .inl ⟨h2, h1⟩ | exact .inl h2 | exact .inr h2 | exact .inr (.inl h2) | exact .inr (.inr h2) | ((try dsimp only at *); omega)))
      have hrw := hN.row.chg hs19 (fun b q e => hr3 (by subst e; exact q)) (fun _ q => q.elim)
      have hB20 := hB7.below hb14
      have hB21 := hB8.below hb14
      refine WL.step (post := fun v' w' => ∃ ra rc, v' = .slice ra ((nmB ns 0).length + 1) rc ∧ RowD eltB (fun _ => False) w' 57 ra rc ((nmB ns 0).length + 1) (nmB ns 0 ++ [(⟨v, .mk (-1 - ((ns.length : Nat) : Int)) []⟩ : Bd)]) ∧ Chg (fun b => (Value.slice a (nmB ns 0).length c).ownBlock = some b) w10 w' ∧ ∀ b, (Value.slice ra ((nmB ns 0).length + 1) rc).ownBlock = some b → (Value.slice a (nmB ns 0).length c).ownBlock = some b ∨ w10.heap.size ≤ b) rfl rfl rfl (fun za zC zh zk => wp_appD (E := eltB) (S2 := fun _ => False) (size := 3) (bytes := 40) (z := .agg #[.int .i64 0, .int .i64 0, .slice none 0 0]) (y := (⟨v, .mk (-1 - ((ns.length : Nat) : Int)) []⟩ : Bd)) (cs := [.int .i64 v, .int .i64 (-1 - ((ns.length : Nat) : Int)), .slice none 0 0]) rfl Try.underlying26 (by kernel_rfl) rfl (by decide) rfl (zh.ev rfl) (zh.ev rfl) hrw hB13 ⟨_, _, rfl, hv, inT_lf (by unfold I64; omega)⟩ (fun _ q => q.elim) (by omega) (by omega) (fun ra rc w' h1 h2 h3 => zk _ _ ⟨ra, rc, rfl, h1.mono (fun b q _ => q.1.elim id id) (fun _ q => q.elim), h2, h3⟩)) ?_
      rintro _ w22 ⟨ra23, rc24, rfl, hR25, hc26, ho27⟩
      have ho28 := hM4.below hb14
      have hB29 := chg_blk hB20 hc26 (by assumption)
      have hB30 := chg_blk hB21 hc26 (by assumption)
      have ho31 := ho28.chg hc26 (by assumption)
      have hRne := hR25.neBlk hB30 (by decide)
      refine WL.step (post := fun _ w' => Upd gs w22 w' ∧ Blk w' gs 26 #[.slice ra23 (((nmB ns 0).length + 1)) rc24]) rfl rfl rfl (fun za zC zh zk => st_26 rfl (zh.ev rfl) (zh.ev rfl) hB30 (by first | decide | simp) (fun v => zk v _ ⟨Upd.at_ _ _ _ _, hB30.set_ 0 _⟩)) ?_
      rintro v35 w32 ⟨hu33, hB34⟩
      have hB36 := upd_blk hB29 hu33 (by omega)
      have ho37 := ho31.upd hu33 (by omega)
      refine WL.nil (WE.sub (K' := [(0, .int .i64 v), (1, .pointer (some ⟨gn, 0, none⟩)), (2, .pointer (some ⟨gs, 0, none⟩)), (4, .int .i64 0), (5, .int .i64 (((ns.length : Nat) : Int))), (6, .bool false), (14, .bool true), (22, .bool (((((ns.length : Nat) : Int) : Int) != (v : Int))))]) ⟨rfl, rfl, rfl, rfl, rfl, rfl, rfl, rfl, trivial⟩ ?_)
      refine WE.next ?_
      refine WC.seq ?_
      refine WC.region ?_
      refine WL.val (.int .i64 (((ns.length : Nat) : Int))) rfl rfl rfl (fun za zC zh zk => wp_move rfl (zh.ev rfl) zk) ?_
      refine WL.val (.int .i64 (((ns.length : Nat) : Int))) rfl rfl rfl (fun za zC zh zk => wp_assign rfl (zh.ev rfl) zk) ?_
      refine WL.nil (WE.sub (K' := [(0, .int .i64 v), (1, .pointer (some ⟨gn, 0, none⟩)), (2, .pointer (some ⟨gs, 0, none⟩)), (4, .int .i64 (((ns.length : Nat) : Int))), (5, .int .i64 (((ns.length : Nat) : Int))), (6, .bool false), (14, .bool true), (22, .bool (((((ns.length : Nat) : Int) : Int) != (v : Int))))]) ⟨rfl, rfl, rfl, rfl, rfl, rfl, rfl, rfl, trivial⟩ ?_)
      refine WE.next ?_
      refine WC.ret ?_
      refine WE.ret1 rfl rfl ?_
      rw [nmTo_none hix]
      have heq := nmB_snoc ns v 0
      rw [Nat.zero_add] at heq
      have hs38 : Chg ((fun b => b = mb ∨ b = gs ∨ (Value.slice a (nmB ns 0).length c).ownBlock = some b)) w w32 := (Chg.trans2 (Chg.trans2 (Chg.trans2 (Chg.trans2 (Chg.refl ((fun b => b = mb ∨ b = gs ∨ (Value.slice a (nmB ns 0).length c).ownBlock = some b)) _) (Chg.ofUpd (S := fun k => k = mb) hu6 rfl) (fun i h1 h2 => by first | exact h2 | exact .inl ⟨h2, h1⟩ | exact .inl h2 | exact .inr h2 | exact .inr (.inl h2) | exact .inr (.inr h2) | ((try dsimp only at *); omega))) (Chg.ofBelow (S := fun k => k < 0) hb14) (fun i h1 h2 => by first | exact h2 | exact .inl ⟨h2, h1⟩ | exact .inl h2 | exact .inr h2 | exact .inr (.inl h2) | exact .inr (.inr h2) | ((try dsimp only at *); omega))) hc26 (fun i h1 h2 => by first | exact h2 | exact .inl ⟨h2, h1⟩ | exact .inl h2 | exact .inr h2 | exact .inr (.inl h2) | exact .inr (.inr h2) | ((try dsimp only at *); omega))) (Chg.ofUpd (S := fun k => k = gs) hu33 rfl) (fun i h1 h2 => by first | exact h2 | exact .inl ⟨h2, h1⟩ | exact .inl h2 | exact .inr h2 | exact .inr (.inl h2) | exact .inr (.inr h2) | ((try dsimp only at *); omega)))
      have hs39 : Chg ((fun b => b = gs)) w22 w32 := (Chg.trans2 (Chg.refl ((fun b => b = gs)) _) (Chg.ofUpd (S := fun k => k = gs) hu33 rfl) (fun i h1 h2 => by first | exact h2 | exact .inl ⟨h2, h1⟩ | exact .inl h2 | exact .inr h2 | exact .inr (.inl h2) | exact .inr (.inr h2) | ((try dsimp only at *); omega)))
      rw [if_neg (by omega)] at heq
      have hln : (nmB (ns ++ [v]) 0).length = (nmB ns 0).length + 1 := by rw [heq]; simp
      have hng : (Value.slice ra23 ((nmB ns 0).length + 1) rc24).ownBlock ≠ some gs := hRne
      have hrw := hR25.chg hs39 (fun b q e => hng (by subst e; exact q)) (fun _ q => q.elim)
      have hle := hs38.size
      refine ⟨_, rfl, ⟨fun b => C b ∨ (w.heap.size ≤ b ∧ b < w32.heap.size), rfl, ⟨mb, es2, cl3, ra23, rc24, ?_⟩, fun b q => q.imp id (fun q => q.1)⟩, hs38.mono (fun b q => by rcases q with rfl | rfl | q; exact hN.cm; exact hN.cs; exact hN.crow b q)⟩
      refine ⟨hB36, ho37, by rw [nmL_snoc, Nat.zero_add]; exact hE5, by rw [hln]; exact hB34, by rw [hln, heq]; exact hrw, hN.ne, .inl hN.cn, .inl hN.cs, .inl hN.cm, ?_, fun b q => q.elim (fun q => Nat.lt_of_lt_of_le (hN.clt b q) hle) (fun q => q.2)⟩
      rw [hln]
      intro b q
      rcases ho27 b q with q2 | q2
      · exact .inl (hN.crow b q2)
      · exact .inr ⟨by have z : w.heap.size ≤ _ := (Nat.le_trans (Nat.le_of_eq hu6.size.symm) hb14.size); omega, hrw.lt b q⟩
    · have h9 : ¬ ((((ns.length : Nat) : Int) : Int) ≠ (v : Int)) := by simpa using h9
      refine WC.skip ?_
      refine WE.next ?_
      refine WC.seq ?_
      refine WC.region ?_
      refine WL.val (.int .i64 (((ns.length : Nat) : Int))) rfl rfl rfl (fun za zC zh zk => wp_move rfl (zh.ev rfl) zk) ?_
      refine WL.val (.int .i64 (((ns.length : Nat) : Int))) rfl rfl rfl (fun za zC zh zk => wp_assign rfl (zh.ev rfl) zk) ?_
      refine WL.nil (WE.sub (K' := [(0, .int .i64 v), (1, .pointer (some ⟨gn, 0, none⟩)), (2, .pointer (some ⟨gs, 0, none⟩)), (4, .int .i64 (((ns.length : Nat) : Int))), (5, .int .i64 (((ns.length : Nat) : Int))), (6, .bool false), (14, .bool true), (22, .bool (((((ns.length : Nat) : Int) : Int) != (v : Int))))]) ⟨rfl, rfl, rfl, rfl, rfl, rfl, rfl, rfl, trivial⟩ ?_)
      refine WE.next ?_
      refine WC.ret ?_
      refine WE.ret1 rfl rfl ?_
      rw [nmTo_none hix]
      have heq := nmB_snoc ns v 0
      rw [Nat.zero_add] at heq
      have hs40 : Chg ((fun b => b = mb)) w w1 := (Chg.trans2 (Chg.refl ((fun b => b = mb)) _) (Chg.ofUpd (S := fun k => k = mb) hu6 rfl) (fun i h1 h2 => by first | exact h2 | exact .inl ⟨h2, h1⟩ | exact .inl h2 | exact .inr h2 | exact .inr (.inl h2) | exact .inr (.inr h2) | ((try dsimp only at *); omega)))
      rw [if_pos (by omega), List.append_nil] at heq
      have hrw := hN.row.chg hs40 (fun b q e => hr3 (by subst e; exact q)) (fun _ q => q.elim)
      have hle := hs40.size
      exact ⟨_, rfl, ⟨C, rfl, ⟨mb, es2, cl3, a, c, ⟨hB7, hM4, by rw [nmL_snoc, Nat.zero_add]; exact hE5, by rw [heq]; exact hB8, by rw [heq]; exact hrw, hN.ne, hN.cn, hN.cs, hN.cm, by rw [heq]; exact hN.crow, fun b q => Nat.lt_of_lt_of_le (hN.clt b q) hle⟩⟩, fun b q => .inl q⟩, hs40.mono (fun b q => q ▸ hN.cm)⟩
  · refine WL.val (.tuple #[.int .i64 (((i : Nat) : Int)), .bool true]) rfl rfl rfl (fun za zC zh zk => wp_lookok_im Try.underlying78 Try.underlying3 (zeroInt _) hN.mp hN.ent rfl (zh.ev rfl) (zh.ev rfl) (by rw [nm_look, hix]; exact zk)) ?_
    refine WL.val (.tuple #[.int .i64 (((i : Nat) : Int)), .bool true]) rfl rfl rfl (fun za zC zh zk => wp_move rfl (zh.ev rfl) zk) ?_
    refine WL.val (.int .i64 (((i : Nat) : Int))) rfl rfl rfl (fun za zC zh zk => ext2_0 rfl (zh.ev rfl) zk) ?_
    refine WL.val (.bool true) rfl rfl rfl (fun za zC zh zk => ext2_1 rfl (zh.ev rfl) zk) ?_
    refine WL.val (.int .i64 (((i : Nat) : Int))) rfl rfl rfl (fun za zC zh zk => wp_assign rfl (zh.ev rfl) zk) ?_
    refine WL.val (.bool true) rfl rfl rfl (fun za zC zh zk => wp_assign rfl (zh.ev rfl) zk) ?_
    refine WL.nil (WE.sub (K' := [(0, .int .i64 v), (1, .pointer (some ⟨gn, 0, none⟩)), (2, .pointer (some ⟨gs, 0, none⟩)), (4, .int .i64 0), (5, .int .i64 (((i : Nat) : Int))), (6, .bool true)]) ⟨rfl, rfl, rfl, rfl, rfl, rfl, trivial⟩ ?_)
    refine WE.next ?_
    refine WC.seq ?_
    refine WC.seq ?_
    refine WC.region ?_
    refine WL.val (.bool true) rfl rfl rfl (fun za zC zh zk => wp_move rfl (zh.ev rfl) zk) ?_
    refine WL.val (.bool false) rfl rfl rfl (fun za zC zh zk => wp_not rfl (zh.ev rfl) zk) ?_
    refine WL.nil (WE.sub (K' := [(0, .int .i64 v), (1, .pointer (some ⟨gn, 0, none⟩)), (2, .pointer (some ⟨gs, 0, none⟩)), (4, .int .i64 0), (5, .int .i64 (((i : Nat) : Int))), (6, .bool true), (14, .bool false)]) ⟨rfl, rfl, rfl, rfl, rfl, rfl, rfl, trivial⟩ ?_)
    refine WE.next ?_
    refine WC.condF rfl rfl ?_
    refine WC.skip ?_
    refine WE.next ?_
    refine WC.seq ?_
    refine WC.region ?_
    refine WL.val (.int .i64 (((i : Nat) : Int))) rfl rfl rfl (fun za zC zh zk => wp_move rfl (zh.ev rfl) zk) ?_
    refine WL.val (.int .i64 (((i : Nat) : Int))) rfl rfl rfl (fun za zC zh zk => wp_assign rfl (zh.ev rfl) zk) ?_
    refine WL.nil (WE.sub (K' := [(0, .int .i64 v), (1, .pointer (some ⟨gn, 0, none⟩)), (2, .pointer (some ⟨gs, 0, none⟩)), (4, .int .i64 (((i : Nat) : Int))), (5, .int .i64 (((i : Nat) : Int))), (6, .bool true), (14, .bool false)]) ⟨rfl, rfl, rfl, rfl, rfl, rfl, rfl, trivial⟩ ?_)
    refine WE.next ?_
    refine WC.ret ?_
    refine WE.ret1 rfl rfl ?_
    rw [nmTo_some hix]
    exact ⟨_, rfl, ⟨C, rfl, h0.below (Below.refl _ _), fun b q => .inl q⟩, .ofBelow (Below.refl _ _)⟩

end Go.Proofs.Ytcmfjnadjddboaa

namespace Go.Proofs.Ytcmfjnadjddboaa
open Go.RowKit Go
set_option linter.unusedVariables false
set_option linter.unusedSimpArgs false

section
variable {α : Type} {E : Elt α} {S : Nat → Prop} {w : World} {e c n : Nat} {a : Option Addr} {l : List α}
theorem RowD.inRowS (h : RowD E S w e a c n l) : InRow E (fun b => S b ∨ (Value.slice a n c).ownBlock = some b) w l a := by
  obtain ⟨⟨xs, h1, h2⟩, rfl, h9⟩ := h
  rcases h1.2 with ⟨e1, h0⟩ | ⟨g, cap, cur, e1, hg, hb, hc, hm, _, _⟩
  · simp only [Value.slice.injEq] at e1
    exact fun i hi => by omega
  · have e1' := e1
    simp only [Value.slice.injEq, true_and] at e1'
    obtain ⟨rfl, rfl⟩ := e1'
    intro i hi
    obtain ⟨cs, h3, h4⟩ := h2.at_ i hi
    refine ⟨g, 0, cs, rfl, .inr (by simp [Value.ownBlock]), E.mono (fun b hb _ => .inl hb) h3, fun j hj => ?_⟩
    have hjl : j < cs.length := by rw [E.len h3]; exact hj
    have hx := h4 j hj
    rw [List.getElem?_eq_getElem hjl] at hx ⊢
    have := h1.cells (g := g) rfl _ _ hx
    rw [add_plain2] at this
    rwa [show 0 + i * E.k + j = 0 + (i * E.k + j) by omega]
theorem inT_row {S : Nat → Prop} {f : Int} {ts : List T} {ra : Option Addr} {n rc : Nat} {N : Nat → Prop} (hf : I64 f) (h : RowD eltT N w e ra rc n ts) (hN : ∀ b, N b → S b) (ho : ∀ b, (Value.slice ra n rc).ownBlock = some b → S b) : InT S w (.mk f ts) (.agg #[.int .i64 f, .slice ra n rc]) := by
  have hr := h.inRow
  have hl := h.len
  subst hl
  exact ⟨hf, ra, rc, rfl, hr.2.1, hr.2.2, (h.inRowS.mono (by decide) (fun b q _ => q.elim (hN b) (ho b))).ts⟩
end
/-- The state: what was named; the row of the arguments so far. 'C0': what the names owned at first, 'N': what is new. -/
def RnSt (C0 N : Nat → Prop) (gn gs : Nat) (ns : List Int) (L : List T) (ra : Option Addr) (rc n : Nat) (w : World) : Prop := ∃ C, NmAt w gn gs ns C ∧ (∀ b, C b → C0 b ∨ N b) ∧ RowD eltT (fun b => N b ∧ ¬ C b ∧ (Value.slice ra n rc).ownBlock ≠ some b) w 24 ra rc n L ∧ (∀ b, (Value.slice ra n rc).ownBlock = some b → N b ∧ ¬ C b)
section
variable {C0 N N' : Nat → Prop} {gn gs : Nat} {ns : List Int} {L : List T} {ra : Option Addr} {rc n : Nat} {w w' : World}
theorem RnSt.below (h : RnSt C0 N gn gs ns L ra rc n w) (hb : Below w.heap.size w w') : RnSt C0 N gn gs ns L ra rc n w' := by
  obtain ⟨C, h1, h2, h3, h4⟩ := h
  exact ⟨C, h1.below hb, h2, h3.below hb, h4⟩
theorem RnSt.mono (h : RnSt C0 N gn gs ns L ra rc n w) (hN : ∀ b, N b → b < w.heap.size → N' b) : RnSt C0 N' gn gs ns L ra rc n w := by
  obtain ⟨C, h1, h2, h3, h4⟩ := h
  exact ⟨C, h1, fun b q => (h2 b q).imp id (fun q2 => hN b q2 (h1.clt b q)), h3.mono (fun b q q2 => ⟨hN b q.1 q2, q.2⟩) (fun b q => q.2.2), fun b q => ⟨hN b (h4 b q).1 (h3.lt b q), (h4 b q).2⟩⟩
theorem RnSt.chg {S : Nat → Prop} (h : RnSt C0 N gn gs ns L ra rc n w) (hc : Chg S w w') (h0 : ∀ b, C0 b → ¬ S b) (h1 : ∀ b, N b → ¬ S b) : RnSt C0 N gn gs ns L ra rc n w' := by
  obtain ⟨C, k1, k2, k3, k4⟩ := h
  exact ⟨C, k1.chg hc (fun b q => (k2 b q).elim (h0 b) (h1 b)), k2, k3.chg hc (fun b q => h1 b (k4 b q).1) (fun b q => h1 b q.1), k4⟩
theorem RnSt.start {C : Nat → Prop} (h : NmAt w gn gs ns C) (hC : ∀ b, C b → C0 b ∨ N b) : RnSt C0 N gn gs ns [] none 0 0 w := ⟨C, h, hC, RowD.nil, fun b q => (nomatch q)⟩
/-- What the region finds: a term is made, a row of it alone, it is appended, it is stored. -/
theorem RnSt.join {C1 C2 Z : Nat → Prop} {w0 : World} {xk : T} {ra2 : Option Addr} {rc2 : Nat} {ns2 : List Int} (h2 : ∀ b, C1 b → C0 b ∨ N b) (h3 : ∀ b, (Value.slice ra n rc).ownBlock = some b → N b ∧ ¬ C1 b) (h3l : ∀ b, (Value.slice ra n rc).ownBlock = some b → b < w0.heap.size) (hN : ∀ b, w0.heap.size ≤ b → N b) (k1 : NmAt w' gn gs ns2 C2) (k2 : ∀ b, C2 b → C1 b ∨ w0.heap.size ≤ b)
    (k3 : RowD eltT Z w' 24 ra2 rc2 (n + 1) (L ++ [xk])) (k4 : ∀ b, Z b → (N b ∧ ¬ C1 b ∧ b < w0.heap.size) ∨ (w0.heap.size ≤ b ∧ ¬ C2 b)) (k5 : ∀ b, (Value.slice ra2 (n + 1) rc2).ownBlock = some b → (Value.slice ra n rc).ownBlock = some b ∨ (w0.heap.size ≤ b ∧ ¬ C2 b)) : RnSt C0 N gn gs ns2 (L ++ [xk]) ra2 rc2 (n + 1) w' := by
  refine ⟨C2, k1, fun b q => (k2 b q).elim (h2 b) (fun q => .inr (hN b q)), k3.mono (fun b q q2 => ⟨?_, ?_, k3.ne b q⟩) (fun b q => q.2.2), fun b q => ?_⟩
  · rcases k4 b q with q3 | q3
    · exact q3.1
    · exact hN b q3.1
  · rcases k4 b q with q3 | q3
    · intro q4
      rcases k2 b q4 with q5 | q5
      · exact q3.2.1 q5
      · omega
    · exact q3.2
  · rcases k5 b q with q3 | q3
    · refine ⟨(h3 b q3).1, fun q4 => ?_⟩
      rcases k2 b q4 with q5 | q5
      · exact (h3 b q3).2 q5
      · have := h3l b q3; omega
    · exact ⟨hN b q3.1, q3.2⟩
end
theorem InTp.at9 {S : Nat → Prop} {w : World} {t : T} {b o : Nat} (h : InTp S w t (.pointer (some ⟨b, o, none⟩))) : ∃ (a : Option Addr) (c : Nat), w.cell? ⟨b, o, none⟩ = some (.int .i64 t.f) ∧ w.cell? ⟨b, o + 1, none⟩ = some (.slice a t.args.length c) ∧ InT S w t (.agg #[.int .i64 t.f, .slice a t.args.length c]) := by
  obtain ⟨b', o', a, c, e, _, h1, h2, h3⟩ := h
  simp only [Value.pointer.injEq, Option.some.injEq, Addr.mk.injEq, and_true] at e
  obtain ⟨rfl, rfl⟩ := e
  exact ⟨a, c, h1, h2, h3⟩
def RnSpec (t : T) : Prop := ∀ (gn gs : Nat) (ns : List Int) (C A : Nat → Prop) (w : World) (v : Value), NmAt w gn gs ns C → InT A w t v → (∀ b, A b → ¬ C b) → t.size ≤ 4294967296 → ns.length + t.size ≤ 1099511627776 →
  Calls Try.prog 48 #[v, .func (.func 47) #[] #[.pointer (some ⟨gn, 0, none⟩), .pointer (some ⟨gs, 0, none⟩)]] w (Ret fun v' w' => (∃ C', NmAt w' gn gs (t.rn ns).2 C' ∧ (∀ b, C' b → C b ∨ w.heap.size ≤ b) ∧ InT (fun b => w.heap.size ≤ b ∧ ¬ C' b) w' (t.rn ns).1 v') ∧ Chg C w w')
theorem rn_eq {f : Int} {l : List T} {ns : List Int} : (T.mk f l).rn ns = if f < 0 then (.mk (-1 - ((nmTo ns (-1 - f)).1 : Int)) (T.rnL l (nmTo ns (-1 - f)).2).1, (T.rnL l (nmTo ns (-1 - f)).2).2) else (.mk f (T.rnL l ns).1, (T.rnL l ns).2) := by rw [T.rn]
end Go.Proofs.Ytcmfjnadjddboaa
