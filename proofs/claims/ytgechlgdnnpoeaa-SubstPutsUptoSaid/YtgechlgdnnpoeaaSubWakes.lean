/- The example that every law shows. -/
import Derived.Test.YtgechlgdnnpoeaaSubComp
import Derived.Test.YtgechlgdnnpoeaaSubPuts
namespace Go.Proofs.Ytgechlgdnnpoeaa
open Go.RowKit Go

def bd0 (v f : Int) : Bd := ⟨v, .mk f []⟩
theorem inT_leaf {S : Nat → Prop} {w : World} {f : Int} (hf : I64 f) : InT S w (.mk f []) (.agg #[.int .i64 f, .slice none 0 0]) := ⟨hf, none, 0, rfl, Nat.le_refl _, Nat.zero_le _, trivial⟩
theorem isSub_one {w : World} {g : Nat} {v f : Int} (hB : Blk w g 56 #[.int .i64 v, .int .i64 f, .slice none 0 0]) (hv : I64 v) (hf : I64 f) : IsSub w [bd0 v f] (some ⟨g, 0, none⟩) 1 := by
  refine ⟨fun i hi => ?_, Nat.le_refl _, by decide, Nat.le_of_ble_eq_true rfl, fun b hb => ?_⟩
  · obtain rfl : i = 0 := by simpa using hi
    refine ⟨g, 0, [.int .i64 v, .int .i64 f, .slice none 0 0], rfl, trivial, ⟨_, _, rfl, hv, inT_leaf hf⟩, fun j hj => ?_⟩
    rw [hB.cell, show 0 + 0 * eltB.k + j = j by omega, ← List.getElem?_toArray]
  · rw [List.mem_singleton] at hb; subst hb; show 1 ≤ 4294967296; omega
def wkA : List Bd := [bd0 0 (-2)]
def wkB : List Bd := [bd0 1 1]
def wkR : List Bd := [bd0 0 1, bd0 1 1]
theorem wk_cx : cx wkA wkB = wkR := by rfl
theorem wk_comp : CompOf wkA wkB wkR := by
  refine ⟨?_, fun x => ?_⟩
  · simp [wkR, bd0]
  · rw [wk_cx]
    refine ⟨fun h => ⟨h, ?_⟩, fun h => h.1⟩
    simp only [wkR, List.mem_cons, List.not_mem_nil, or_false] at h
    rcases h with rfl | rfl <;> rfl
theorem compose_wk {w : World} {g1 g2 : Nat} (h1 : Blk w g1 56 #[.int .i64 0, .int .i64 (-2), .slice none 0 0]) (h2 : Blk w g2 56 #[.int .i64 1, .int .i64 1, .slice none 0 0]) : Calls Try.prog 11 #[.slice (some ⟨g1, 0, none⟩) 1 1, .slice (some ⟨g2, 0, none⟩) 1 1] w (Ret fun v' w' => (∃ p c, v' = .tuple #[.slice p 2 c, .int .i64 0] ∧ IsSub w' wkR p c) ∧ Below w.heap.size w w') := by
  refine (compose_any wkA wkB w _ _ _ _ (isSub_one h1 (by unfold I64; omega) (by unfold I64; omega)) (isSub_one h2 (by unfold I64; omega) (by unfold I64; omega)) (by decide) (by decide)).mono ?_
  rintro e w' ⟨v, rfl, hc, hb⟩
  unfold CompIs at hc
  rw [if_pos (by decide)] at hc
  obtain ⟨R, p, c, rfl, hR, hN⟩ := hc
  obtain rfl := hR.unique wk_comp
  exact ⟨_, rfl, ⟨p, c, rfl, hN.1.mono (by decide) (fun _ _ _ => trivial), hN.2.1, hN.2.2, by decide, fun b hb => by simp only [wkR, List.mem_cons, List.not_mem_nil, or_false] at hb; rcases hb with rfl | rfl <;> decide⟩, hb⟩
theorem apply_wk {w : World} {p : Option Addr} {c : Nat} (h : IsSub w wkR p c) : Calls Try.prog 18 #[.slice p 2 c, .agg #[.int .i64 (-1), .slice none 0 0]] w (Ret fun v' w' => (∃ a c, v' = .agg #[.int .i64 1, .slice a 0 c]) ∧ Below w.heap.size w w') := by
  refine (apply_any wkR (.mk (-1) []) w _ p c (by decide) (InT.isT (S := fun _ => True) (inT_leaf (by unfold I64; omega))) h).mono ?_
  rintro e w' ⟨v, rfl, hn, hb⟩
  have hn' : NewT w w' (.mk 1 []) v := hn
  obtain ⟨_, a, c, rfl, _⟩ := hn'.form
  exact ⟨_, rfl, ⟨a, c, rfl⟩, hb⟩
theorem check_wk {w : World} {g : Nat} (h1 : Blk w g 56 #[.int .i64 0, .int .i64 (-1), .slice none 0 0]) : Calls Try.prog 19 #[.slice (some ⟨g, 0, none⟩) 1 1] w (Ret fun v' w' => v' = .int .i64 2 ∧ Below w.heap.size w w') := by
  refine (check_any [bd0 0 (-1)] w _ _ (Nat.le_refl _) (by decide) (isSub_one h1 (by unfold I64; omega) (by unfold I64; omega)).rows).mono ?_
  rintro e w' ⟨v, rfl, rfl, hb⟩
  exact ⟨_, rfl, rfl, hb⟩
set_option maxRecDepth 100000 in
theorem wakes_any (w : World) : Calls Try.prog 10 #[] w (Ret fun v' w' => v' = .bool true ∧ Below w.heap.size w w') := by
  refine Calls.walk (l := []) Try.func10 rfl (by kernel_rfl) ?_
  refine WC.sub (K' := []) trivial ?_
  refine WC.seq ?_
  refine WC.region ?_
  refine WL.val (.bool false) rfl rfl rfl (fun za zC zh zk => wp_assign rfl (zh.ev rfl) zk) ?_
  refine WL.nil (WE.sub (K' := [(0, .bool false)]) ⟨rfl, trivial⟩ ?_)
  refine WE.next ?_
  refine WC.seq ?_
  refine WC.region ?_
  refine WL.val (.agg #[.int .i64 ((-2)), .slice none 0 0]) rfl rfl rfl (fun za zC zh zk => build_32_0 rfl (zh.ev rfl) zk) ?_
  refine WL.val (.agg #[.int .i64 1, .slice none 0 0]) rfl rfl rfl (fun za zC zh zk => build_32_0 rfl (zh.ev rfl) zk) ?_
  refine WL.step (post := NewBlk w 32 #[.int .i64 0, .slice none 0 0]) rfl rfl rfl (fun za zC zh zk => alloc_32 rfl (zk _ _ (newBlk _ _ _))) ?_
  rintro _ w1 ⟨g2, rfl, hg3, hB4, hb5, hz6⟩
  have hl7 : w.heap.size ≤ g2 := by omega
  refine WL.step (post := NewBlk w1 32 #[.int .i64 0, .slice none 0 0]) rfl rfl rfl (fun za zC zh zk => alloc_32 rfl (zk _ _ (newBlk _ _ _))) ?_
  rintro _ w8 ⟨g9, rfl, hg10, hB11, hb12, hz13⟩
  have hl14 : g2 < g9 := by have z1 := hB4.lt; omega
  have hl15 : w.heap.size ≤ g9 := by have z2 := (hb5).size; omega
  have hB16 := hB4.below hb12
  refine WL.step (post := fun _ w' => Upd g2 w8 w' ∧ Blk w' g2 32 #[.int .i64 ((-2)), .slice none 0 0]) rfl rfl rfl (fun za zC zh zk => st_32 rfl (zh.ev rfl) (zh.ev rfl) rfl rfl hB16 (by first | decide | simp) (fun v => zk v _ ⟨(Upd.at_ _ _ _ _).trans (Upd.at_ _ _ _ _), (hB16.set_ 0 _).set_ 1 _⟩)) ?_
  rintro v20 w17 ⟨hu18, hB19⟩
  have hb21 : Below w.heap.size w w8 := (bstep hb5 hb12)
  have hb22 := upd_below hb21 hu18 (by omega)
  have hB23 := upd_blk hB11 hu18 (by omega)
  refine WL.step (post := fun _ w' => Upd g9 w17 w' ∧ Blk w' g9 32 #[.int .i64 1, .slice none 0 0]) rfl rfl rfl (fun za zC zh zk => st_32 rfl (zh.ev rfl) (zh.ev rfl) rfl rfl hB23 (by first | decide | simp) (fun v => zk v _ ⟨(Upd.at_ _ _ _ _).trans (Upd.at_ _ _ _ _), (hB23.set_ 0 _).set_ 1 _⟩)) ?_
  rintro v27 w24 ⟨hu25, hB26⟩
  have hb28 := upd_below hb22 hu25 (by omega)
  have hB29 := upd_blk hB19 hu25 (by omega)
  refine WL.nil (WE.sub (K' := [(0, .bool false), (1, .pointer (some ⟨g2, 0, none⟩)), (2, .pointer (some ⟨g9, 0, none⟩))]) ⟨rfl, rfl, rfl, trivial⟩ ?_)
  refine WE.next ?_
  refine WC.seq ?_
  refine WC.region ?_
  refine WL.val (.agg #[.int .i64 ((-2)), .slice none 0 0]) rfl rfl rfl (fun za zC zh zk => ld_32 rfl (zh.ev rfl) ((hB29.cell 0).trans rfl) ((hB29.cell 1).trans rfl) zk) ?_
  refine WL.val (.agg #[.int .i64 0, .int .i64 ((-2)), .slice none 0 0]) rfl rfl rfl (fun za zC zh zk => build_56_0_1 rfl (zh.ev rfl) (zh.ev rfl) zk) ?_
  refine WL.step (post := NewRow w24 56 #[.int .i64 0, .int .i64 ((-2)), .slice none 0 0] 1) rfl rfl rfl (fun za zC zh zk => row_23_1 rfl (zh.ev rfl) (zk _ _ (newRow _ _ _ _))) ?_
  rintro _ w30 ⟨g31, rfl, hg32, hB33, hb34, hz35⟩
  have hl36 : g2 < g31 := by have z1 := hB29.lt; omega
  have hl37 : g9 < g31 := by have z1 := hB26.lt; omega
  have hl38 : w.heap.size ≤ g31 := by have z2 := (hb28).size; omega
  have hB39 := hB26.below hb34
  refine WL.val (.agg #[.int .i64 1, .slice none 0 0]) rfl rfl rfl (fun za zC zh zk => ld_32 rfl (zh.ev rfl) ((hB39.cell 0).trans rfl) ((hB39.cell 1).trans rfl) zk) ?_
  refine WL.val (.agg #[.int .i64 1, .int .i64 1, .slice none 0 0]) rfl rfl rfl (fun za zC zh zk => build_56_0_1 rfl (zh.ev rfl) (zh.ev rfl) zk) ?_
  refine WL.step (post := NewRow w30 56 #[.int .i64 1, .int .i64 1, .slice none 0 0] 1) rfl rfl rfl (fun za zC zh zk => row_23_1 rfl (zh.ev rfl) (zk _ _ (newRow _ _ _ _))) ?_
  rintro _ w40 ⟨g41, rfl, hg42, hB43, hb44, hz45⟩
  have hl46 : g2 < g41 := by have z1 := hB29.lt; have z2 := (hb34).size; omega
  have hl47 : g9 < g41 := by have z1 := hB39.lt; omega
  have hl48 : g31 < g41 := by have z1 := hB33.lt; omega
  have hb49 : Below w.heap.size w w30 := (bstep hb28 hb34)
  have hl50 : w.heap.size ≤ g41 := by have z2 := (hb49).size; omega
  have hB51 := hB33.below hb44
  refine WL.call rfl rfl rfl (fun za zh zC => wp_call (by kernel_rfl) rfl (hv2 (zh.ev rfl) (zh.ev rfl))) (compose_wk hB51 hB43) ?_
  rintro _ w52 ⟨⟨wp, wc, rfl, hsub⟩, hbc⟩
  refine WL.val (.tuple #[.slice wp 2 wc, .int .i64 0]) rfl rfl rfl (fun za zC zh zk => wp_move rfl (zh.ev rfl) zk) ?_
  refine WL.val (.slice wp 2 wc) rfl rfl rfl (fun za zC zh zk => ext2_0 rfl (zh.ev rfl) zk) ?_
  refine WL.val (.int .i64 0) rfl rfl rfl (fun za zC zh zk => ext2_1 rfl (zh.ev rfl) zk) ?_
  refine WL.val (.slice wp 2 wc) rfl rfl rfl (fun za zC zh zk => wp_assign rfl (zh.ev rfl) zk) ?_
  refine WL.val (.int .i64 0) rfl rfl rfl (fun za zC zh zk => wp_assign rfl (zh.ev rfl) zk) ?_
  refine WL.nil (WE.sub (K' := [(0, .bool false), (1, .pointer (some ⟨g2, 0, none⟩)), (2, .pointer (some ⟨g9, 0, none⟩)), (3, .slice wp 2 wc), (4, .int .i64 0)]) ⟨rfl, rfl, rfl, rfl, rfl, trivial⟩ ?_)
  refine WE.next ?_
  refine WC.seq ?_
  refine WC.region ?_
  refine WL.val (.int .i64 0) rfl rfl rfl (fun za zC zh zk => wp_move rfl (zh.ev rfl) zk) ?_
  refine WL.val (.bool true) rfl rfl rfl (fun za zC zh zk => eql_26 rfl (zh.ev rfl) (zh.ev rfl) zk) ?_
  refine WL.val (.bool true) rfl rfl rfl (fun za zC zh zk => wp_move rfl (zh.ev rfl) zk) ?_
  refine WL.want (d := 19) rfl rfl rfl ?_
  refine WL.val (.slice wp 2 wc) rfl rfl rfl (fun za zC zh zk => wp_move rfl (zh.ev rfl) zk) ?_
  refine WL.want (d := 19) rfl rfl rfl ?_
  refine WL.val (.int .i64 2) rfl rfl rfl (fun za zC zh zk => len_23 rfl (zh.ev rfl) zk) ?_
  refine WL.want (d := 19) rfl rfl rfl ?_
  refine WL.val (.bool true) rfl rfl rfl (fun za zC zh zk => eql_3 rfl (zh.ev rfl) (zh.ev rfl) zk) ?_
  refine WL.val (.bool true) rfl rfl rfl (fun za zC zh zk => wp_pickT rfl (zh.ev rfl) (zh.ev rfl) zk) ?_
  refine WL.val (.bool true) rfl rfl rfl (fun za zC zh zk => wp_move rfl (zh.ev rfl) zk) ?_
  refine WL.want (d := 24) rfl rfl rfl ?_
  refine WL.val (.slice wp 2 wc) rfl rfl rfl (fun za zC zh zk => wp_move rfl (zh.ev rfl) zk) ?_
  refine WL.want (d := 24) rfl rfl rfl ?_
  obtain ⟨b53, o54, A55, C56, ha57, hc58⟩ := InRow.openB hsub.rows
  refine WL.val (.pointer (some ⟨b53, o54 + 0 * 3, none⟩)) rfl rfl rfl (fun za zC zh zk => ix_23 (k := 0) rfl (zh.ev rfl) (ha57 0 (by decide)) (zh.ev rfl) (by first | omega | (simp; omega)) zk) ?_
  refine WL.want (d := 24) rfl rfl rfl ?_
  refine WL.val (.pointer (some ⟨b53, o54 + 0 * 3 + 1, none⟩)) rfl rfl rfl (fun za zC zh zk => fld_56_1 rfl (zh.ev rfl) zk) ?_
  refine WL.want (d := 24) rfl rfl rfl ?_
  refine WL.val (.pointer (some ⟨b53, o54 + 0 * 3 + 1, none⟩)) rfl rfl rfl (fun za zC zh zk => fld_32_0 rfl (zh.ev rfl) zk) ?_
  refine WL.want (d := 24) rfl rfl rfl ?_
  refine WL.val (.int .i64 1) rfl rfl rfl (fun za zC zh zk => ld_3 rfl (zh.ev rfl) (hc58 0 (by decide)).2.1 zk) ?_
  refine WL.want (d := 24) rfl rfl rfl ?_
  refine WL.val (.bool true) rfl rfl rfl (fun za zC zh zk => eql_3 rfl (zh.ev rfl) (zh.ev rfl) zk) ?_
  refine WL.val (.bool true) rfl rfl rfl (fun za zC zh zk => wp_pickT rfl (zh.ev rfl) (zh.ev rfl) zk) ?_
  refine WL.val (.bool true) rfl rfl rfl (fun za zC zh zk => wp_move rfl (zh.ev rfl) zk) ?_
  refine WL.want (d := 32) rfl rfl rfl ?_
  refine WL.val (.slice wp 2 wc) rfl rfl rfl (fun za zC zh zk => wp_move rfl (zh.ev rfl) zk) ?_
  refine WL.want (d := 32) rfl rfl rfl ?_
  refine WL.val (.pointer (some ⟨b53, o54 + 1 * 3, none⟩)) rfl rfl rfl (fun za zC zh zk => ix_23 (k := 1) rfl (zh.ev rfl) (ha57 1 (by decide)) (zh.ev rfl) (by first | omega | (simp; omega)) zk) ?_
  refine WL.want (d := 32) rfl rfl rfl ?_
  refine WL.val (.pointer (some ⟨b53, o54 + 1 * 3 + 1, none⟩)) rfl rfl rfl (fun za zC zh zk => fld_56_1 rfl (zh.ev rfl) zk) ?_
  refine WL.want (d := 32) rfl rfl rfl ?_
  refine WL.val (.pointer (some ⟨b53, o54 + 1 * 3 + 1, none⟩)) rfl rfl rfl (fun za zC zh zk => fld_32_0 rfl (zh.ev rfl) zk) ?_
  refine WL.want (d := 32) rfl rfl rfl ?_
  refine WL.val (.int .i64 1) rfl rfl rfl (fun za zC zh zk => ld_3 rfl (zh.ev rfl) (hc58 1 (by decide)).2.1 zk) ?_
  refine WL.want (d := 32) rfl rfl rfl ?_
  refine WL.val (.bool true) rfl rfl rfl (fun za zC zh zk => eql_3 rfl (zh.ev rfl) (zh.ev rfl) zk) ?_
  refine WL.val (.bool true) rfl rfl rfl (fun za zC zh zk => wp_pickT rfl (zh.ev rfl) (zh.ev rfl) zk) ?_
  refine WL.val (.bool true) rfl rfl rfl (fun za zC zh zk => wp_move rfl (zh.ev rfl) zk) ?_
  refine WL.want (d := 40) rfl rfl rfl ?_
  refine WL.val (.slice wp 2 wc) rfl rfl rfl (fun za zC zh zk => wp_move rfl (zh.ev rfl) zk) ?_
  refine WL.want (d := 40) rfl rfl rfl ?_
  refine WL.val (.agg #[.int .i64 ((-1)), .slice none 0 0]) rfl rfl rfl (fun za zC zh zk => build_32_0 rfl (zh.ev rfl) zk) ?_
  refine WL.want (d := 40) rfl rfl rfl ?_
  refine WL.call rfl rfl rfl (fun za zh zC => wp_call (by kernel_rfl) rfl (hv2 (zh.ev rfl) (zh.ev rfl))) (apply_wk (hsub.below (Below.refl _ _))) ?_
  rintro _ w59 ⟨⟨qa, qc, rfl⟩, hba⟩
  refine WL.want (d := 40) rfl rfl rfl ?_
  refine WL.val (.int .i64 1) rfl rfl rfl (fun za zC zh zk => part_32_0 rfl (zh.ev rfl) zk) ?_
  refine WL.want (d := 40) rfl rfl rfl ?_
  refine WL.val (.bool true) rfl rfl rfl (fun za zC zh zk => eql_3 rfl (zh.ev rfl) (zh.ev rfl) zk) ?_
  refine WL.val (.bool true) rfl rfl rfl (fun za zC zh zk => wp_pickT rfl (zh.ev rfl) (zh.ev rfl) zk) ?_
  refine WL.val (.bool true) rfl rfl rfl (fun za zC zh zk => wp_move rfl (zh.ev rfl) zk) ?_
  refine WL.want (d := 47) rfl rfl rfl ?_
  refine WL.val (.agg #[.int .i64 ((-1)), .slice none 0 0]) rfl rfl rfl (fun za zC zh zk => build_32_0 rfl (zh.ev rfl) zk) ?_
  refine WL.want (d := 47) rfl rfl rfl ?_
  refine WL.val (.agg #[.int .i64 0, .int .i64 ((-1)), .slice none 0 0]) rfl rfl rfl (fun za zC zh zk => build_56_0_1 rfl (zh.ev rfl) (zh.ev rfl) zk) ?_
  refine WL.want (d := 47) rfl rfl rfl ?_
  refine WL.step (post := NewRow w59 56 #[.int .i64 0, .int .i64 ((-1)), .slice none 0 0] 1) rfl rfl rfl (fun za zC zh zk => row_23_1 rfl (zh.ev rfl) (zk _ _ (newRow _ _ _ _))) ?_
  rintro _ w60 ⟨g61, rfl, hg62, hB63, hb64, hz65⟩
  have hb66 : Below w24.heap.size w24 w59 := (bstep (bstep (bstep hb34 hb44) hbc) hba)
  have hl67 : g2 < g61 := by have z1 := hB29.lt; have z2 := (hb66).size; omega
  have hb68 : Below w30.heap.size w30 w59 := (bstep (bstep hb44 hbc) hba)
  have hl69 : g9 < g61 := by have z1 := hB39.lt; have z2 := (hb68).size; omega
  have hb70 : Below w40.heap.size w40 w59 := (bstep hbc hba)
  have hl71 : g31 < g61 := by have z1 := hB51.lt; have z2 := (hb70).size; omega
  have hl72 : g41 < g61 := by have z1 := hB43.lt; have z2 := (hb70).size; omega
  have hb73 : Below w.heap.size w w59 := (bstep hb28 hb66)
  have hl74 : w.heap.size ≤ g61 := by have z2 := (hb73).size; omega
  refine WL.want (d := 47) rfl rfl rfl ?_
  refine WL.call rfl rfl rfl (fun za zh zC => wp_call (by kernel_rfl) rfl (hv1 (zh.ev rfl))) (check_wk hB63) ?_
  rintro _ w76 ⟨rfl, hq75⟩
  refine WL.want (d := 47) rfl rfl rfl ?_
  refine WL.val (.bool true) rfl rfl rfl (fun za zC zh zk => eql_26 rfl (zh.ev rfl) (zh.ev rfl) zk) ?_
  refine WL.val (.bool true) rfl rfl rfl (fun za zC zh zk => wp_pickT rfl (zh.ev rfl) (zh.ev rfl) zk) ?_
  refine WL.val (.bool true) rfl rfl rfl (fun za zC zh zk => wp_assign rfl (zh.ev rfl) zk) ?_
  refine WL.nil (WE.sub (K' := [(0, .bool true), (1, .pointer (some ⟨g2, 0, none⟩)), (2, .pointer (some ⟨g9, 0, none⟩)), (3, .slice wp 2 wc), (4, .int .i64 0)]) ⟨rfl, rfl, rfl, rfl, rfl, trivial⟩ ?_)
  refine WE.next ?_
  refine WC.ret ?_
  refine WE.ret1 rfl rfl ?_
  have hb77 : Below w.heap.size w w76 := (bstep (bstep hb73 hb64) hq75)
  exact ⟨_, rfl, rfl, hb77⟩

end Go.Proofs.Ytgechlgdnnpoeaa
