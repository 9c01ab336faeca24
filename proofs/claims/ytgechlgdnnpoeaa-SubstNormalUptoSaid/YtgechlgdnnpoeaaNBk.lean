/- Terms, clauses renamed: the document. -/
import Derived.Test.YtgechlgdnnpoeaaNBi
import Derived.Test.YtgechlgdnnpoeaaNBg
import Derived.Test.YtgechlgdnnpoeaaNBj

namespace Go.Proofs.Ytgechlgdnnpoeaa
open Go.RowKit Go
set_option linter.unusedVariables false
set_option linter.unusedSimpArgs false

set_option linter.unnecessarySimpa false

set_option maxRecDepth 100000 in
theorem name_any (s : List Bd) (sa : Option Addr) (sc : Nat) : ∀ (t : T) (w : World) (v : Value), t.size ≤ 4294967296 → IsT w t v → IsSub w s sa sc → Calls Try.prog 67 #[v, .slice sa s.length sc] w (Ret fun v' w' => NewT w w' (t.nm s) v' ∧ Below w.heap.size w w') := by
  refine T.ind (fun f l ih => ?_)
  intro w v hz hv hs
  have hlen := len_le_sizeL l
  have hz' := hz
  simp only [T.size] at hz'
  obtain ⟨hf, a, c, rfl, hc, hmx, hl⟩ := hv
  have hf' := hf
  unfold I64 at hf'
  refine Calls.walk (l := [.agg #[.int .i64 f, .slice a l.length c], .slice sa s.length sc]) Try.func67 rfl (by kernel_rfl) ?_
  refine WC.sub (K' := [(0, .agg #[.int .i64 f, .slice a l.length c]), (1, .slice sa s.length sc)]) ⟨rfl, rfl, trivial⟩ ?_
  refine WC.seq ?_
  refine WC.region ?_
  refine WL.step (post := NewBlk w 32 #[.int .i64 f, .slice a l.length c]) rfl rfl rfl (fun za zC zh zk => box_32 rfl (zh.ev rfl) (zk _ _ (newBlk _ _ _))) ?_
  rintro _ w1 ⟨g2, rfl, hg3, hB4, hb5, hz6⟩
  have hl7 : w.heap.size ≤ g2 := by omega
  refine WL.step (post := NewBlk w1 32 #[.int .i64 0, .slice none 0 0]) rfl rfl rfl (fun za zC zh zk => alloc_32 rfl (zk _ _ (newBlk _ _ _))) ?_
  rintro _ w8 ⟨g9, rfl, hg10, hB11, hb12, hz13⟩
  have hl14 : g2 < g9 := by have z1 := hB4.lt; omega
  have hl15 : w.heap.size ≤ g9 := by have z2 := (hb5).size; omega
  refine WL.nil (WE.sub (K' := [(0, .agg #[.int .i64 f, .slice a l.length c]), (1, .slice sa s.length sc), (2, .pointer (some ⟨g2, 0, none⟩)), (4, .pointer (some ⟨g9, 0, none⟩))]) ⟨rfl, rfl, rfl, rfl, trivial⟩ ?_)
  refine WE.next ?_
  refine WC.seq ?_
  refine WC.region ?_
  refine WL.val (.pointer (some ⟨g2, 0, none⟩)) rfl rfl rfl (fun za zC zh zk => fld_32_0 rfl (zh.ev rfl) zk) ?_
  have hB16 := hB4.below hb12
  refine WL.val (.int .i64 f) rfl rfl rfl (fun za zC zh zk => ld_3 rfl (zh.ev rfl) ((hB16.cell 0).trans rfl) zk) ?_
  refine WL.val (.agg #[.int .i64 f, .slice none 0 0]) rfl rfl rfl (fun za zC zh zk => build_32_0 rfl (zh.ev rfl) zk) ?_
  refine WL.step (post := NewBlk w8 32 #[.int .i64 0, .slice none 0 0]) rfl rfl rfl (fun za zC zh zk => alloc_32 rfl (zk _ _ (newBlk _ _ _))) ?_
  rintro _ w17 ⟨g18, rfl, hg19, hB20, hb21, hz22⟩
  have hl23 : g2 < g18 := by have z1 := hB16.lt; omega
  have hl24 : g9 < g18 := by have z1 := hB11.lt; omega
  have hb25 : Below w.heap.size w w8 := (bstep hb5 hb12)
  have hl26 : w.heap.size ≤ g18 := by have z2 := (hb25).size; omega
  refine WL.step (post := fun _ w' => Upd g18 w17 w' ∧ Blk w' g18 32 #[.int .i64 f, .slice none 0 0]) rfl rfl rfl (fun za zC zh zk => st_32 rfl (zh.ev rfl) (zh.ev rfl) rfl rfl hB20 (by first | decide | simp) (fun v => zk v _ ⟨(Upd.at_ _ _ _ _).trans (Upd.at_ _ _ _ _), (hB20.set_ 0 _).set_ 1 _⟩)) ?_
  rintro v30 w27 ⟨hu28, hB29⟩
  have hb31 : Below w.heap.size w w17 := (bstep hb25 hb21)
  have hb32 := upd_below hb31 hu28 (by omega)
  have hB33 := hB16.below hb21
  have hB34 := upd_blk hB33 hu28 (by omega)
  have hB35 := hB11.below hb21
  have hB36 := upd_blk hB35 hu28 (by omega)
  refine WL.nil (WE.sub (K' := [(0, .agg #[.int .i64 f, .slice a l.length c]), (1, .slice sa s.length sc), (2, .pointer (some ⟨g2, 0, none⟩)), (4, .pointer (some ⟨g9, 0, none⟩)), (5, .pointer (some ⟨g18, 0, none⟩))]) ⟨rfl, rfl, rfl, rfl, rfl, trivial⟩ ?_)
  refine WE.next ?_
  refine WC.seq ?_
  refine WC.seq ?_
  refine WC.region ?_
  refine WL.val (.pointer (some ⟨g2, 0, none⟩)) rfl rfl rfl (fun za zC zh zk => fld_32_0 rfl (zh.ev rfl) zk) ?_
  refine WL.val (.int .i64 f) rfl rfl rfl (fun za zC zh zk => ld_3 rfl (zh.ev rfl) ((hB34.cell 0).trans rfl) zk) ?_
  refine WL.val (.bool ((decide ((f : Int) < (0 : Int))))) rfl rfl rfl (fun za zC zh zk => lss_3 rfl (zh.ev rfl) (zh.ev rfl) zk) ?_
  refine WL.nil (WE.sub (K' := [(0, .agg #[.int .i64 f, .slice a l.length c]), (1, .slice sa s.length sc), (2, .pointer (some ⟨g2, 0, none⟩)), (4, .pointer (some ⟨g9, 0, none⟩)), (5, .pointer (some ⟨g18, 0, none⟩)), (14, .bool ((decide ((f : Int) < (0 : Int)))))]) ⟨rfl, rfl, rfl, rfl, rfl, rfl, trivial⟩ ?_)
  refine WE.next ?_
  refine WC.cond rfl (fun h37 => ?_) (fun h37 => ?_)
  · have h37 : (f : Int) < (0 : Int) := by simpa using h37
    refine WC.seq ?_
    refine WC.region ?_
    refine WL.val (.slice sa s.length sc) rfl rfl rfl (fun za zC zh zk => wp_move rfl (zh.ev rfl) zk) ?_
    refine WL.val (.pointer (some ⟨g2, 0, none⟩)) rfl rfl rfl (fun za zC zh zk => fld_32_0 rfl (zh.ev rfl) zk) ?_
    refine WL.val (.int .i64 f) rfl rfl rfl (fun za zC zh zk => ld_3 rfl (zh.ev rfl) ((hB34.cell 0).trans rfl) zk) ?_
    refine WL.val (.int .i64 ((-1 - f))) rfl rfl rfl (fun za zC zh zk => subb_3 rfl (zh.ev rfl) (zh.ev rfl) (wrap_eq rfl (by omega) (by omega)) zk) ?_
    have hl41 : g2 < w27.heap.size := by have z1 := hB34.lt; omega
    have hl42 : g9 < w27.heap.size := by have z1 := hB36.lt; omega
    have hl43 : g18 < w27.heap.size := by have z1 := hB29.lt; omega
    have hl44 : w.heap.size ≤ w27.heap.size := (hb32).size
    refine WL.call rfl rfl rfl (fun za zh zC => wp_call (by kernel_rfl) rfl (hv2 (zh.ev rfl) (zh.ev rfl))) (rget_any s (-1 - f) _ _ _ (hs.below hb32)) ?_
    rintro _ w45 ⟨⟨u38, rfl, hn39⟩, hb40⟩
    obtain ⟨_, a46, c47, rfl, _, _, _⟩ := hn39.form
    refine WL.val (.tuple #[.agg #[.int .i64 ((((subFind s (-1 - f)).getD (.mk 0 []))).f), .slice a46 ((((subFind s (-1 - f)).getD (.mk 0 []))).args.length) c47], .bool ((subFind s (-1 - f)).isSome)]) rfl rfl rfl (fun za zC zh zk => wp_move rfl (zh.ev rfl) zk) ?_
    refine WL.val (.agg #[.int .i64 ((((subFind s (-1 - f)).getD (.mk 0 []))).f), .slice a46 ((((subFind s (-1 - f)).getD (.mk 0 []))).args.length) c47]) rfl rfl rfl (fun za zC zh zk => ext2_0 rfl (zh.ev rfl) zk) ?_
    refine WL.val (.bool ((subFind s (-1 - f)).isSome)) rfl rfl rfl (fun za zC zh zk => ext2_1 rfl (zh.ev rfl) zk) ?_
    refine WL.step (post := NewBlk w45 32 #[.int .i64 0, .slice none 0 0]) rfl rfl rfl (fun za zC zh zk => alloc_32 rfl (zk _ _ (newBlk _ _ _))) ?_
    rintro _ w48 ⟨g49, rfl, hg50, hB51, hb52, hz53⟩
    have hl54 : g2 < g49 := by have z1 := hB34.lt; have z2 := (hb40).size; omega
    have hl55 : g9 < g49 := by have z1 := hB36.lt; have z2 := (hb40).size; omega
    have hl56 : g18 < g49 := by have z1 := hB29.lt; have z2 := (hb40).size; omega
    have hb57 : Below w.heap.size w w45 := (bstep hb32 hb40)
    have hl58 : w.heap.size ≤ g49 := by have z2 := (hb57).size; omega
    have hl59 : w45.heap.size ≤ g49 := by omega
    refine WL.step (post := fun _ w' => Upd g49 w48 w' ∧ Blk w' g49 32 #[.int .i64 ((((subFind s (-1 - f)).getD (.mk 0 []))).f), .slice a46 ((((subFind s (-1 - f)).getD (.mk 0 []))).args.length) c47]) rfl rfl rfl (fun za zC zh zk => st_32 rfl (zh.ev rfl) (zh.ev rfl) rfl rfl hB51 (by first | decide | simp) (fun v => zk v _ ⟨(Upd.at_ _ _ _ _).trans (Upd.at_ _ _ _ _), (hB51.set_ 0 _).set_ 1 _⟩)) ?_
    rintro v63 w60 ⟨hu61, hB62⟩
    have hb64 : Below w.heap.size w w48 := (bstep hb57 hb52)
    have hb65 := upd_below hb64 hu61 (by omega)
    have hb66 := upd_below hb52 hu61 (by omega)
    have hb68 : Below w27.heap.size w27 w48 := (bstep hb40 hb52)
    have hB67 := hB34.below hb68
    have hB69 := upd_blk hB67 hu61 (by omega)
    have hB70 := hB36.below hb68
    have hB71 := upd_blk hB70 hu61 (by omega)
    have hB72 := hB29.below hb68
    have hB73 := upd_blk hB72 hu61 (by omega)
    refine WL.val (.bool ((subFind s (-1 - f)).isSome)) rfl rfl rfl (fun za zC zh zk => wp_assign rfl (zh.ev rfl) zk) ?_
    refine WL.nil (WE.sub (K' := [(0, .agg #[.int .i64 f, .slice a l.length c]), (1, .slice sa s.length sc), (2, .pointer (some ⟨g2, 0, none⟩)), (4, .pointer (some ⟨g9, 0, none⟩)), (5, .pointer (some ⟨g18, 0, none⟩)), (6, .pointer (some ⟨g49, 0, none⟩)), (7, .bool ((subFind s (-1 - f)).isSome)), (14, .bool ((decide ((f : Int) < (0 : Int)))))]) ⟨rfl, rfl, rfl, rfl, rfl, rfl, rfl, rfl, trivial⟩ ?_)
    refine WE.next ?_
    refine WC.seq ?_
    refine WC.region ?_
    refine WL.val (.bool ((subFind s (-1 - f)).isSome)) rfl rfl rfl (fun za zC zh zk => wp_move rfl (zh.ev rfl) zk) ?_
    refine WL.nil (WE.sub (K' := [(0, .agg #[.int .i64 f, .slice a l.length c]), (1, .slice sa s.length sc), (2, .pointer (some ⟨g2, 0, none⟩)), (4, .pointer (some ⟨g9, 0, none⟩)), (5, .pointer (some ⟨g18, 0, none⟩)), (6, .pointer (some ⟨g49, 0, none⟩)), (7, .bool ((subFind s (-1 - f)).isSome)), (14, .bool ((decide ((f : Int) < (0 : Int))))), (23, .bool ((subFind s (-1 - f)).isSome))]) ⟨rfl, rfl, rfl, rfl, rfl, rfl, rfl, rfl, rfl, trivial⟩ ?_)
    refine WE.next ?_
    refine WC.cond rfl (fun h74 => ?_) (fun h74 => ?_)
    · skip
      refine WC.region ?_
      refine WL.val (.pointer (some ⟨g49, 0, none⟩)) rfl rfl rfl (fun za zC zh zk => fld_32_0 rfl (zh.ev rfl) zk) ?_
      refine WL.val (.int .i64 ((((subFind s (-1 - f)).getD (.mk 0 []))).f)) rfl rfl rfl (fun za zC zh zk => ld_3 rfl (zh.ev rfl) ((hB62.cell 0).trans rfl) zk) ?_
      refine WL.val (.pointer (some ⟨g18, 0, none⟩)) rfl rfl rfl (fun za zC zh zk => fld_32_0 rfl (zh.ev rfl) zk) ?_
      refine WL.step (post := fun _ w' => Upd g18 w60 w' ∧ Blk w' g18 32 #[.int .i64 ((((subFind s (-1 - f)).getD (.mk 0 []))).f), .slice none 0 0]) rfl rfl rfl (fun za zC zh zk => st_3 rfl (zh.ev rfl) (zh.ev rfl) hB73 (by first | decide | simp) (fun v => zk v _ ⟨Upd.at_ _ _ _ _, hB73.set_ 0 _⟩)) ?_
      rintro v78 w75 ⟨hu76, hB77⟩
      have hb79 := upd_below hb65 hu76 (by omega)
      have hB80 := upd_blk hB69 hu76 (by omega)
      have hB81 := upd_blk hB71 hu76 (by omega)
      have hB82 := upd_blk hB62 hu76 (by omega)
      have ho83 := hn39.below hb66
      have ho84 := ho83.upd hu76 (by omega)
      refine WL.nil (WE.sub (K' := [(0, .agg #[.int .i64 f, .slice a l.length c]), (1, .slice sa s.length sc), (2, .pointer (some ⟨g2, 0, none⟩)), (4, .pointer (some ⟨g9, 0, none⟩)), (5, .pointer (some ⟨g18, 0, none⟩)), (6, .pointer (some ⟨g49, 0, none⟩)), (7, .bool ((subFind s (-1 - f)).isSome)), (14, .bool ((decide ((f : Int) < (0 : Int))))), (23, .bool ((subFind s (-1 - f)).isSome))]) ⟨rfl, rfl, rfl, rfl, rfl, rfl, rfl, rfl, rfl, trivial⟩ ?_)
      refine WE.next ?_
      refine WC.seq ?_
      refine WC.seq ?_
      refine WC.region ?_
      refine WL.val (.int .i64 0) rfl rfl rfl (fun za zC zh zk => wp_assign rfl (zh.ev rfl) zk) ?_
      refine WL.nil (WE.sub (K' := [(0, .agg #[.int .i64 f, .slice a l.length c]), (1, .slice sa s.length sc), (2, .pointer (some ⟨g2, 0, none⟩)), (4, .pointer (some ⟨g9, 0, none⟩)), (5, .pointer (some ⟨g18, 0, none⟩)), (6, .pointer (some ⟨g49, 0, none⟩)), (7, .bool ((subFind s (-1 - f)).isSome)), (8, .int .i64 0), (14, .bool ((decide ((f : Int) < (0 : Int))))), (23, .bool ((subFind s (-1 - f)).isSome))]) ⟨rfl, rfl, rfl, rfl, rfl, rfl, rfl, rfl, rfl, rfl, trivial⟩ ?_)
      refine WE.next ?_
      refine WC.block ?_
      have hhd : ((T.mk f []).app s).f = (((subFind s (-1 - f)).getD (.mk 0 []))).f := tnm_some ‹f < 0› h74
      have hh64 : I64 ((((subFind s (-1 - f)).getD (.mk 0 []))).f) := (ho84).form.1
      have hl85 : g2 < w75.heap.size := by have z1 := hB80.lt; omega
      have hl86 : g9 < w75.heap.size := by have z1 := hB81.lt; omega
      have hl87 : g18 < w75.heap.size := by have z1 := hB77.lt; omega
      have hl88 : g49 < w75.heap.size := by have z1 := hB82.lt; omega
      have hl89 : w.heap.size ≤ w75.heap.size := (hb79).size
      have hR90 : RowE eltT w75 w75.heap.size 32 none 0 0 [] := RowE.nil
      refine WC.loop (X := Option Addr × Nat × Nat) (fun x => l.length - x.2.2) (fun x => [(0, .agg #[.int .i64 f, .slice a l.length c]), (1, .slice sa s.length sc), (2, .pointer (some ⟨g2, 0, none⟩)), (4, .pointer (some ⟨g9, 0, none⟩)), (5, .pointer (some ⟨g18, 0, none⟩)), (6, .pointer (some ⟨g49, 0, none⟩)), (7, .bool ((subFind s (-1 - f)).isSome)), (8, .int .i64 (((x.2.2 : Nat) : Int))), (14, .bool ((decide ((f : Int) < (0 : Int))))), (23, .bool ((subFind s (-1 - f)).isSome))]) (fun x w91 => x.2.2 ≤ l.length ∧ w75.heap.size ≤ (w91).heap.size ∧ Below w.heap.size w w91 ∧ Blk w91 g2 32 #[.int .i64 f, .slice a l.length c] ∧ Blk w91 g9 32 #[.int .i64 0, .slice none 0 0] ∧ Blk w91 g49 32 #[.int .i64 ((((subFind s (-1 - f)).getD (.mk 0 []))).f), .slice a46 ((((subFind s (-1 - f)).getD (.mk 0 []))).args.length) c47] ∧ Blk w91 g18 32 #[.int .i64 ((((subFind s (-1 - f)).getD (.mk 0 []))).f), .slice x.1 x.2.2 x.2.1] ∧ RowE eltT (w91) w75.heap.size 32 x.1 x.2.1 x.2.2 ((l.take x.2.2).map (T.nm s))) ((none, 0, 0)) ⟨rfl, rfl, rfl, rfl, rfl, rfl, rfl, rfl, rfl, rfl, trivial⟩ ?_ ?_
      · exact ⟨Nat.zero_le _, Nat.le_refl _, hb79, hB80, hB81, hB82, hB77, (by simpa using hR90)⟩
      · rintro x w91 ⟨hk, hBw, hb92, hB93, hB94, hB95, hB96, ho97⟩
        refine WC.seq ?_
        refine WC.seq ?_
        refine WC.region ?_
        refine WL.val (.int .i64 (((x.2.2 : Nat) : Int))) rfl rfl rfl (fun za zC zh zk => wp_move rfl (zh.ev rfl) zk) ?_
        refine WL.val (.pointer (some ⟨g2, 1, none⟩)) rfl rfl rfl (fun za zC zh zk => fld_32_1 rfl (zh.ev rfl) zk) ?_
        refine WL.val (.slice a l.length c) rfl rfl rfl (fun za zC zh zk => ld_30 rfl (zh.ev rfl) ((hB93.cell 1).trans rfl) zk) ?_
        refine WL.val (.int .i64 (((l.length : Nat) : Int))) rfl rfl rfl (fun za zC zh zk => len_30 rfl (zh.ev rfl) zk) ?_
        refine WL.val (.bool ((decide ((((x.2.2 : Nat) : Int) : Int) < (((l.length : Nat) : Int) : Int))))) rfl rfl rfl (fun za zC zh zk => lss_3 rfl (zh.ev rfl) (zh.ev rfl) zk) ?_
        refine WL.nil (WE.sub (K' := [(0, .agg #[.int .i64 f, .slice a l.length c]), (1, .slice sa s.length sc), (2, .pointer (some ⟨g2, 0, none⟩)), (4, .pointer (some ⟨g9, 0, none⟩)), (5, .pointer (some ⟨g18, 0, none⟩)), (6, .pointer (some ⟨g49, 0, none⟩)), (7, .bool ((subFind s (-1 - f)).isSome)), (8, .int .i64 (((x.2.2 : Nat) : Int))), (14, .bool ((decide ((f : Int) < (0 : Int))))), (23, .bool ((subFind s (-1 - f)).isSome)), (31, .bool ((decide ((((x.2.2 : Nat) : Int) : Int) < (((l.length : Nat) : Int) : Int)))))]) ⟨rfl, rfl, rfl, rfl, rfl, rfl, rfl, rfl, rfl, rfl, rfl, trivial⟩ ?_)
        refine WE.next ?_
        refine WC.cond rfl (fun h98 => ?_) (fun h98 => ?_)
        · have h98 : (((x.2.2 : Nat) : Int) : Int) < (((l.length : Nat) : Int) : Int) := by simpa using h98
          refine WC.skip ?_
          refine WE.next ?_
          refine WC.seq ?_
          refine WC.block ?_
          obtain ⟨b99, o100, A101, C102, ha103, hc104⟩ := IsTs.open hl
          have hSlt : ∀ b, (fun b => b = g18 ∨ (Value.slice x.1 x.2.2 x.2.1).ownBlock = some b) b → b < w91.heap.size := fun b h => h.elim (fun e => e ▸ hB96.lt) (fun h => (ho97.lt b h).2)
          have hSlo : ∀ b, (fun b => b = g18 ∨ (Value.slice x.1 x.2.2 x.2.1).ownBlock = some b) b → b = g18 ∨ (w75.heap.size ≤ b ∧ b < w91.heap.size) := fun b h => h.imp id (fun h => ho97.lt b h)
          have hBW : w75.heap.size ≤ w91.heap.size := by have z1 := hBw; omega
          have hlL : x.2.2 = (((l.take x.2.2).map (T.nm s))).length := ho97.len
          refine WC.tail2 (S := ((fun b => b = g18 ∨ (Value.slice x.1 x.2.2 x.2.1).ownBlock = some b))) [(true, .val (.pointer (some ⟨g18, 1, none⟩))), (true, .val (.slice x.1 x.2.2 x.2.1)), (true, .val (.pointer (some ⟨g2, 1, none⟩))), (true, .val (.slice a l.length c)), (true, .val (.int .i64 (((x.2.2 : Nat) : Int)))), (true, .val (.pointer (some ⟨b99, o100 + x.2.2 * 2, none⟩))), (true, .val (.agg #[.int .i64 ((tget l x.2.2).f), .slice ((A101 x.2.2)) ((tget l x.2.2).args.length) ((C102 x.2.2))])), (true, .val (.slice sa s.length sc)), (true, .mem (fun v w' => NewT w91 w' (((tget l x.2.2).nm s)) v) (fun v w w' hc h => InT.chg h hc (fun b hb hs => by have z := hSlt b hs; omega))), (true, .mem (fun v w' => OneRow eltT w91 32 (((tget l x.2.2).nm s)) v w') (fun v w w' hc h => h.chg hc hSlt)), (true, .val undef), (true, .val (.pointer (some ⟨g18, 1, none⟩))), (true, .val undef)] [(0, .agg #[.int .i64 f, .slice a l.length c]), (1, .slice sa s.length sc), (2, .pointer (some ⟨g2, 0, none⟩)), (4, .pointer (some ⟨g9, 0, none⟩)), (5, .pointer (some ⟨g18, 0, none⟩)), (6, .pointer (some ⟨g49, 0, none⟩)), (7, .bool ((subFind s (-1 - f)).isSome)), (8, .int .i64 (((x.2.2 : Nat) : Int))), (14, .bool ((decide ((f : Int) < (0 : Int))))), (23, .bool ((subFind s (-1 - f)).isSome)), (31, .bool ((decide ((((x.2.2 : Nat) : Int) : Int) < (((l.length : Nat) : Int) : Int)))))] 10 12 ((x.2.2 + 1)) 44 (fun ra rc wz => RowE eltT wz w75.heap.size 32 ra rc (x.2.2 + 1) (((l.take x.2.2).map (T.nm s) ++ [((tget l x.2.2).nm s)])) ∧ Blk wz g18 32 #[.int .i64 ((((subFind s (-1 - f)).getD (.mk 0 []))).f), .slice x.1 x.2.2 x.2.1]) (fun ra rc wz => RowE eltT wz w75.heap.size 32 ra rc (x.2.2 + 1) (((l.take x.2.2).map (T.nm s) ++ [((tget l x.2.2).nm s)])) ∧ Blk wz g18 32 #[.int .i64 ((((subFind s (-1 - f)).getD (.mk 0 []))).f), .slice ra ((x.2.2 + 1)) rc]) (by decide) (fun ra rc w w' hb h => ⟨h.1.below hb, h.2.below hb⟩) (fun ra rc w w' hb h => ⟨h.1.below hb, h.2.below hb⟩) ⟨rfl, rfl, rfl, rfl, rfl, rfl, rfl, rfl, rfl, rfl, rfl, trivial⟩ (by kernel_rfl) (by kernel_rfl) (by kernel_rfl) (by kernel_rfl) (by kernel_rfl) ?_ ?_
          · refine ⟨.inl ⟨rfl, true, .none rfl, (fun gg b h => by cases h), fun h w => optUndef h, fun zβ za zw zc => ?_⟩, ?_⟩
            · exact fld_32_1 rfl (zc.kn.ev rfl) ⟨_, rfl, Below.refl _ _, optDef zβ rfl⟩
            refine ⟨.inl ⟨rfl, true, .none rfl, (fun gg b h => by cases h), fun h w => optUndef h, fun zβ za zw zc => ?_⟩, ?_⟩
            · exact ld_30 rfl ((show za.eval (.tmp 34) = za.tmps.getD 34 undef from rfl).trans (optSVal (zc.dep 0 34 (by kernel_rfl) (by decide)) rfl rfl)) (bkeeps (zc.early (by kernel_rfl)) _ _ ((hB96.cell 1).trans rfl)) ⟨_, rfl, Below.refl _ _, optDef zβ rfl⟩
            refine ⟨.inl ⟨rfl, true, .none rfl, (fun gg b h => by cases h), fun h w => optUndef h, fun zβ za zw zc => ?_⟩, ?_⟩
            · exact fld_32_1 rfl (zc.kn.ev rfl) ⟨_, rfl, Below.refl _ _, optDef zβ rfl⟩
            refine ⟨.inl ⟨rfl, true, .none rfl, (fun gg b h => by cases h), fun h w => optUndef h, fun zβ za zw zc => ?_⟩, ?_⟩
            · exact ld_30 rfl ((show za.eval (.tmp 36) = za.tmps.getD 36 undef from rfl).trans (optSVal (zc.dep 2 36 (by kernel_rfl) (by decide)) rfl rfl)) (bkeeps (zc.early (by kernel_rfl)) _ _ ((hB93.cell 1).trans rfl)) ⟨_, rfl, Below.refl _ _, optDef zβ rfl⟩
            refine ⟨.inl ⟨rfl, true, .none rfl, (fun gg b h => by cases h), fun h w => optUndef h, fun zβ za zw zc => ?_⟩, ?_⟩
            · exact wp_move rfl (zc.kn.ev rfl) ⟨_, rfl, Below.refl _ _, optDef zβ rfl⟩
            refine ⟨.inl ⟨rfl, true, .none rfl, (fun gg b h => by cases h), fun h w => optUndef h, fun zβ za zw zc => ?_⟩, ?_⟩
            · exact ix_30 (k := x.2.2) rfl ((show za.eval (.tmp 37) = za.tmps.getD 37 undef from rfl).trans (optSVal (zc.dep 3 37 (by kernel_rfl) (by decide)) rfl rfl)) (ha103 x.2.2 (by first | omega | (simp; omega))) ((show za.eval (.tmp 38) = za.tmps.getD 38 undef from rfl).trans (optSVal (zc.dep 4 38 (by kernel_rfl) (by decide)) rfl rfl)) (by first | omega | (simp; omega)) ⟨_, rfl, Below.refl _ _, optDef zβ rfl⟩
            refine ⟨.inl ⟨rfl, true, .none rfl, (fun gg b h => by cases h), fun h w => optUndef h, fun zβ za zw zc => ?_⟩, ?_⟩
            · exact ld_32 rfl ((show za.eval (.tmp 39) = za.tmps.getD 39 undef from rfl).trans (optSVal (zc.dep 5 39 (by kernel_rfl) (by decide)) rfl rfl)) (bkeeps (bstep hb92 (zc.early (by kernel_rfl))) _ _ (hc104 x.2.2 (by first | omega | (simp; omega))).1) (bkeeps (bstep hb92 (zc.early (by kernel_rfl))) _ _ (hc104 x.2.2 (by first | omega | (simp; omega))).2.1) ⟨_, rfl, Below.refl _ _, optDef zβ rfl⟩
            refine ⟨.inl ⟨rfl, true, .none rfl, (fun gg b h => by cases h), fun h w => optUndef h, fun zβ za zw zc => ?_⟩, ?_⟩
            · exact wp_move rfl (zc.kn.ev rfl) ⟨_, rfl, Below.refl _ _, optDef zβ rfl⟩
            refine ⟨.inl ⟨rfl, true, .none rfl, (fun gg b h => by cases h), fun h w => optUndef h, fun zβ za zw zc => ?_⟩, ?_⟩
            · exact wp_call (by kernel_rfl) rfl (hv2 ((show za.eval (.tmp 40) = za.tmps.getD 40 undef from rfl).trans (optSVal (zc.dep 6 40 (by kernel_rfl) (by decide)) rfl rfl)) ((show za.eval (.tmp 41) = za.tmps.getD 41 undef from rfl).trans (optSVal (zc.dep 7 41 (by kernel_rfl) (by decide)) rfl rfl))) (ih _ (tget_mem (by omega)) _ _ (size_at (by omega) hz) (IsT.below (bstep hb92 (zc.early (by kernel_rfl))) (hc104 x.2.2 (by first | omega | (simp; omega))).2.2) (hs.below (bstep hb92 (zc.early (by kernel_rfl))))) (fun v w' h => ⟨v, rfl, h.2, optDef zβ (InT.mono (fun b hb _ => Nat.le_trans (zc.early (by kernel_rfl)).size hb) h.1)⟩)
            refine ⟨.inl ⟨rfl, true, .none rfl, (fun gg b h => by cases h), fun h w => optUndef h, fun zβ za zw zc => ?_⟩, ?_⟩
            · have zv := (optSMem (zc.dep 8 42 (by kernel_rfl) (by decide)) rfl rfl)
              obtain ⟨_, a1, c1, e1, _⟩ := zv.form
              rw [e1] at zv
              exact row_30_1 rfl ((show za.eval (.tmp 42) = za.tmps.getD 42 undef from rfl).trans e1) ⟨_, rfl, balloc _ _, optDef zβ ⟨_, _, rfl, zc.chg.size, Blk.new' rfl, _, _, rfl, zv.below (balloc _ _)⟩⟩
            refine ⟨.inr (.inl ⟨rfl, rfl, fun za zw zc => ?_⟩), ?_⟩
            · obtain ⟨g1, cs, e1, hg1, hB1, hin⟩ := (optSMem (zc.dep 9 43 (by kernel_rfl) (by decide)) rfl rfl)
              exact wp_appE (E := eltT) (size := 2) (bytes := 32) (z := .agg #[.int .i64 0, .slice none 0 0]) rfl Try.underlying30 (by kernel_rfl) rfl (by decide) rfl ((show za.eval (.tmp 35) = za.tmps.getD 35 undef from rfl).trans (optSVal (zc.dep 1 35 (by kernel_rfl) (by decide)) rfl rfl)) ((show za.eval (.tmp 43) = za.tmps.getD 43 undef from rfl).trans e1) (ho97.below zc.below) hB1 (eltT.mono (fun b hb _ => ⟨by omega, fun e => by have z := (ho97.lt b e).2; omega⟩) hin) (by omega) (by omega) (by have z := zc.below.size; omega) (fun ra rc w' h1 h2 _ => ⟨ra, rc, rfl, ⟨h1, chg_blk (hB96.below zc.below) h2 (fun e => by have z := (ho97.lt _ e).1; omega)⟩, h2.mono (fun b hb => .inr hb)⟩)
            refine ⟨.inl ⟨rfl, true, .none rfl, (fun gg b h => by cases h), fun h w => optUndef h, fun zβ za zw zc => ?_⟩, ?_⟩
            · exact fld_32_1 rfl (zc.kn.ev rfl) ⟨_, rfl, Below.refl _ _, optDef zβ rfl⟩
            refine ⟨.inr (.inr ⟨rfl, rfl, 44, by kernel_rfl, fun za zw ra rc zk zd zv zg => ?_⟩), ?_⟩
            · exact st_30 rfl ((show za.eval (.tmp 45) = za.tmps.getD 45 undef from rfl).trans (optSVal (zd 11 45 (by kernel_rfl) (by decide)) rfl rfl)) ((show za.eval (.tmp 44) = za.tmps.getD 44 undef from rfl).trans zv) zg.2 (by first | decide | simp) (fun v => ⟨v, rfl, ⟨zg.1.upd (Upd.at_ _ _ _ _) (by omega), zg.2.set_ 1 _⟩, .ofUpd (Upd.at_ _ _ _ _) (.inl rfl)⟩)
            exact trivial
          · intro za w105 ra108 rc109 zh zv hG106 hc107 zu
            have hb110 := chg_below hb92 hc107 (fun b hb => (fun h => by rcases hSlo _ h with h | h <;> omega))
            have hB111 := chg_blk hB93 hc107 (fun h => by rcases hSlo _ h with h | h <;> omega)
            have hB112 := chg_blk hB94 hc107 (fun h => by rcases hSlo _ h with h | h <;> omega)
            have hB113 := chg_blk hB95 hc107 (fun h => by rcases hSlo _ h with h | h <;> omega)
            clear zu
            refine (show WE _ [(0, .agg #[.int .i64 f, .slice a l.length c]), (1, .slice sa s.length sc), (2, .pointer (some ⟨g2, 0, none⟩)), (4, .pointer (some ⟨g9, 0, none⟩)), (5, .pointer (some ⟨g18, 0, none⟩)), (6, .pointer (some ⟨g49, 0, none⟩)), (7, .bool ((subFind s (-1 - f)).isSome)), (8, .int .i64 (((x.2.2 : Nat) : Int))), (14, .bool ((decide ((f : Int) < (0 : Int))))), (23, .bool ((subFind s (-1 - f)).isSome)), (31, .bool ((decide ((((x.2.2 : Nat) : Int) : Int) < (((l.length : Nat) : Int) : Int)))))] w105 _ .normal from ?_) za (zh.sub ⟨rfl, rfl, rfl, rfl, rfl, rfl, rfl, rfl, rfl, rfl, rfl, trivial⟩)
            refine WE.blockNormal ?_
            refine WE.next ?_
            refine WC.region ?_
            refine WL.val (.int .i64 (((x.2.2 : Nat) : Int))) rfl rfl rfl (fun za zC zh zk => wp_move rfl (zh.ev rfl) zk) ?_
            refine WL.val (.int .i64 ((((x.2.2 + 1) : Nat) : Int))) rfl rfl rfl (fun za zC zh zk => addb_3 rfl (zh.ev rfl) (zh.ev rfl) (wrap_eq (by omega) (by omega) (by omega)) zk) ?_
            refine WL.val (.int .i64 ((((x.2.2 + 1) : Nat) : Int))) rfl rfl rfl (fun za zC zh zk => wp_assign rfl (zh.ev rfl) zk) ?_
            refine WL.nil (WE.sub (K' := [(0, .agg #[.int .i64 f, .slice a l.length c]), (1, .slice sa s.length sc), (2, .pointer (some ⟨g2, 0, none⟩)), (4, .pointer (some ⟨g9, 0, none⟩)), (5, .pointer (some ⟨g18, 0, none⟩)), (6, .pointer (some ⟨g49, 0, none⟩)), (7, .bool ((subFind s (-1 - f)).isSome)), (8, .int .i64 ((((x.2.2 + 1) : Nat) : Int))), (14, .bool ((decide ((f : Int) < (0 : Int))))), (23, .bool ((subFind s (-1 - f)).isSome)), (31, .bool ((decide ((((x.2.2 : Nat) : Int) : Int) < (((l.length : Nat) : Int) : Int)))))]) ⟨rfl, rfl, rfl, rfl, rfl, rfl, rfl, rfl, rfl, rfl, rfl, trivial⟩ ?_)
            refine WE.round ((ra108, rc109, x.2.2 + 1)) ⟨rfl, rfl, rfl, rfl, rfl, rfl, rfl, rfl, rfl, rfl, trivial⟩ ?_ ?_
            · exact ⟨by (try dsimp only at *); omega, (Nat.le_trans hBw hc107.size), hb110, hB111, hB112, hB113, hG106.2, (by rw [← take_nm (by (try dsimp only at *); omega)]; exact hG106.1)⟩
            · dsimp only; omega
        · have h98 : ¬ ((((x.2.2 : Nat) : Int) : Int) < (((l.length : Nat) : Int) : Int)) := by simpa using h98
          refine WC.exit ?_
          refine WE.thenExit ?_
          refine WE.thenExit ?_
          refine WE.blockIs rfl ?_
          refine WE.next ?_
          refine WC.seq ?_
          refine WC.region ?_
          refine WL.val (.agg #[.int .i64 ((((subFind s (-1 - f)).getD (.mk 0 []))).f), .slice x.1 x.2.2 x.2.1]) rfl rfl rfl (fun za zC zh zk => ld_32 rfl (zh.ev rfl) ((hB96.cell 0).trans rfl) ((hB96.cell 1).trans rfl) zk) ?_
          refine WL.step (post := fun _ w' => Upd g9 w91 w' ∧ Blk w' g9 32 #[.int .i64 ((((subFind s (-1 - f)).getD (.mk 0 []))).f), .slice x.1 x.2.2 x.2.1]) rfl rfl rfl (fun za zC zh zk => st_32 rfl (zh.ev rfl) (zh.ev rfl) rfl rfl hB94 (by first | decide | simp) (fun v => zk v _ ⟨(Upd.at_ _ _ _ _).trans (Upd.at_ _ _ _ _), (hB94.set_ 0 _).set_ 1 _⟩)) ?_
          rintro v117 w114 ⟨hu115, hB116⟩
          have hb118 := upd_below hb92 hu115 (by omega)
          have hB119 := upd_blk hB93 hu115 (by omega)
          have hB120 := upd_blk hB95 hu115 (by omega)
          have hB121 := upd_blk hB96 hu115 (by omega)
          have ho122 := ho97.upd hu115 (by omega)
          refine WL.nil (WE.sub (K' := [(0, .agg #[.int .i64 f, .slice a l.length c]), (1, .slice sa s.length sc), (2, .pointer (some ⟨g2, 0, none⟩)), (4, .pointer (some ⟨g9, 0, none⟩)), (5, .pointer (some ⟨g18, 0, none⟩)), (6, .pointer (some ⟨g49, 0, none⟩)), (7, .bool ((subFind s (-1 - f)).isSome)), (8, .int .i64 (((x.2.2 : Nat) : Int))), (14, .bool ((decide ((f : Int) < (0 : Int))))), (23, .bool ((subFind s (-1 - f)).isSome)), (31, .bool ((decide ((((x.2.2 : Nat) : Int) : Int) < (((l.length : Nat) : Int) : Int)))))]) ⟨rfl, rfl, rfl, rfl, rfl, rfl, rfl, rfl, rfl, rfl, rfl, trivial⟩ ?_)
          refine WE.next ?_
          refine WC.ret ?_
          refine WE.retAny (v := .agg #[.int .i64 ((((subFind s (-1 - f)).getD (.mk 0 []))).f), .slice x.1 x.2.2 x.2.1]) (fun za zh => ?_) ?_
          · have z0 : za.tmps[4]?.getD undef = .pointer (some ⟨g9, 0, none⟩) := by rw [← Array.getD_eq_getD_getElem?]; exact zh.knows 4 _ rfl
            have y0 : w114.cell? ⟨g9, 0, none⟩ = some (.int .i64 ((((subFind s (-1 - f)).getD (.mk 0 []))).f)) := ((hB116.cell 0).trans rfl)
            have y1 : w114.cell? ⟨g9, 1, none⟩ = some (.slice x.1 x.2.2 x.2.1) := ((hB116.cell 1).trans rfl)
            simp [results, Try.results67, z0, y0, y1, go_sem]
          · have z := ho122
            rw [List.take_of_length_le (by omega)] at z
            exact ⟨_, rfl, by rw [nm_mk, hhd]; exact newT_row hh64 z (by omega), hb118⟩
    · skip
      refine WC.skip ?_
      refine WE.next ?_
      refine WC.seq ?_
      refine WC.seq ?_
      refine WC.region ?_
      refine WL.val (.int .i64 0) rfl rfl rfl (fun za zC zh zk => wp_assign rfl (zh.ev rfl) zk) ?_
      refine WL.nil (WE.sub (K' := [(0, .agg #[.int .i64 f, .slice a l.length c]), (1, .slice sa s.length sc), (2, .pointer (some ⟨g2, 0, none⟩)), (4, .pointer (some ⟨g9, 0, none⟩)), (5, .pointer (some ⟨g18, 0, none⟩)), (6, .pointer (some ⟨g49, 0, none⟩)), (7, .bool ((subFind s (-1 - f)).isSome)), (8, .int .i64 0), (14, .bool ((decide ((f : Int) < (0 : Int))))), (23, .bool ((subFind s (-1 - f)).isSome))]) ⟨rfl, rfl, rfl, rfl, rfl, rfl, rfl, rfl, rfl, rfl, trivial⟩ ?_)
      refine WE.next ?_
      refine WC.block ?_
      have hhd : ((T.mk f []).app s).f = f := tnm_none (by simpa using h74)
      have hh64 : I64 (f) := hf
      have hl123 : g2 < w60.heap.size := by have z1 := hB69.lt; omega
      have hl124 : g9 < w60.heap.size := by have z1 := hB71.lt; omega
      have hl125 : g18 < w60.heap.size := by have z1 := hB73.lt; omega
      have hl126 : g49 < w60.heap.size := by have z1 := hB62.lt; omega
      have hl127 : w.heap.size ≤ w60.heap.size := (hb65).size
      have hR128 : RowE eltT w60 w60.heap.size 32 none 0 0 [] := RowE.nil
      refine WC.loop (X := Option Addr × Nat × Nat) (fun x => l.length - x.2.2) (fun x => [(0, .agg #[.int .i64 f, .slice a l.length c]), (1, .slice sa s.length sc), (2, .pointer (some ⟨g2, 0, none⟩)), (4, .pointer (some ⟨g9, 0, none⟩)), (5, .pointer (some ⟨g18, 0, none⟩)), (6, .pointer (some ⟨g49, 0, none⟩)), (7, .bool ((subFind s (-1 - f)).isSome)), (8, .int .i64 (((x.2.2 : Nat) : Int))), (14, .bool ((decide ((f : Int) < (0 : Int))))), (23, .bool ((subFind s (-1 - f)).isSome))]) (fun x w129 => x.2.2 ≤ l.length ∧ w60.heap.size ≤ (w129).heap.size ∧ Below w.heap.size w w129 ∧ Blk w129 g2 32 #[.int .i64 f, .slice a l.length c] ∧ Blk w129 g9 32 #[.int .i64 0, .slice none 0 0] ∧ Blk w129 g49 32 #[.int .i64 ((((subFind s (-1 - f)).getD (.mk 0 []))).f), .slice a46 ((((subFind s (-1 - f)).getD (.mk 0 []))).args.length) c47] ∧ Blk w129 g18 32 #[.int .i64 f, .slice x.1 x.2.2 x.2.1] ∧ RowE eltT (w129) w60.heap.size 32 x.1 x.2.1 x.2.2 ((l.take x.2.2).map (T.nm s))) ((none, 0, 0)) ⟨rfl, rfl, rfl, rfl, rfl, rfl, rfl, rfl, rfl, rfl, trivial⟩ ?_ ?_
      · exact ⟨Nat.zero_le _, Nat.le_refl _, hb65, hB69, hB71, hB62, hB73, (by simpa using hR128)⟩
      · rintro x w129 ⟨hk, hBw, hb130, hB131, hB132, hB133, hB134, ho135⟩
        refine WC.seq ?_
        refine WC.seq ?_
        refine WC.region ?_
        refine WL.val (.int .i64 (((x.2.2 : Nat) : Int))) rfl rfl rfl (fun za zC zh zk => wp_move rfl (zh.ev rfl) zk) ?_
        refine WL.val (.pointer (some ⟨g2, 1, none⟩)) rfl rfl rfl (fun za zC zh zk => fld_32_1 rfl (zh.ev rfl) zk) ?_
        refine WL.val (.slice a l.length c) rfl rfl rfl (fun za zC zh zk => ld_30 rfl (zh.ev rfl) ((hB131.cell 1).trans rfl) zk) ?_
        refine WL.val (.int .i64 (((l.length : Nat) : Int))) rfl rfl rfl (fun za zC zh zk => len_30 rfl (zh.ev rfl) zk) ?_
        refine WL.val (.bool ((decide ((((x.2.2 : Nat) : Int) : Int) < (((l.length : Nat) : Int) : Int))))) rfl rfl rfl (fun za zC zh zk => lss_3 rfl (zh.ev rfl) (zh.ev rfl) zk) ?_
        refine WL.nil (WE.sub (K' := [(0, .agg #[.int .i64 f, .slice a l.length c]), (1, .slice sa s.length sc), (2, .pointer (some ⟨g2, 0, none⟩)), (4, .pointer (some ⟨g9, 0, none⟩)), (5, .pointer (some ⟨g18, 0, none⟩)), (6, .pointer (some ⟨g49, 0, none⟩)), (7, .bool ((subFind s (-1 - f)).isSome)), (8, .int .i64 (((x.2.2 : Nat) : Int))), (14, .bool ((decide ((f : Int) < (0 : Int))))), (23, .bool ((subFind s (-1 - f)).isSome)), (31, .bool ((decide ((((x.2.2 : Nat) : Int) : Int) < (((l.length : Nat) : Int) : Int)))))]) ⟨rfl, rfl, rfl, rfl, rfl, rfl, rfl, rfl, rfl, rfl, rfl, trivial⟩ ?_)
        refine WE.next ?_
        refine WC.cond rfl (fun h136 => ?_) (fun h136 => ?_)
        · have h136 : (((x.2.2 : Nat) : Int) : Int) < (((l.length : Nat) : Int) : Int) := by simpa using h136
          refine WC.skip ?_
          refine WE.next ?_
          refine WC.seq ?_
          refine WC.block ?_
          obtain ⟨b137, o138, A139, C140, ha141, hc142⟩ := IsTs.open hl
          have hSlt : ∀ b, (fun b => b = g18 ∨ (Value.slice x.1 x.2.2 x.2.1).ownBlock = some b) b → b < w129.heap.size := fun b h => h.elim (fun e => e ▸ hB134.lt) (fun h => (ho135.lt b h).2)
          have hSlo : ∀ b, (fun b => b = g18 ∨ (Value.slice x.1 x.2.2 x.2.1).ownBlock = some b) b → b = g18 ∨ (w60.heap.size ≤ b ∧ b < w129.heap.size) := fun b h => h.imp id (fun h => ho135.lt b h)
          have hBW : w60.heap.size ≤ w129.heap.size := by have z1 := hBw; omega
          have hlL : x.2.2 = (((l.take x.2.2).map (T.nm s))).length := ho135.len
          refine WC.tail2 (S := ((fun b => b = g18 ∨ (Value.slice x.1 x.2.2 x.2.1).ownBlock = some b))) [(true, .val (.pointer (some ⟨g18, 1, none⟩))), (true, .val (.slice x.1 x.2.2 x.2.1)), (true, .val (.pointer (some ⟨g2, 1, none⟩))), (true, .val (.slice a l.length c)), (true, .val (.int .i64 (((x.2.2 : Nat) : Int)))), (true, .val (.pointer (some ⟨b137, o138 + x.2.2 * 2, none⟩))), (true, .val (.agg #[.int .i64 ((tget l x.2.2).f), .slice ((A139 x.2.2)) ((tget l x.2.2).args.length) ((C140 x.2.2))])), (true, .val (.slice sa s.length sc)), (true, .mem (fun v w' => NewT w129 w' (((tget l x.2.2).nm s)) v) (fun v w w' hc h => InT.chg h hc (fun b hb hs => by have z := hSlt b hs; omega))), (true, .mem (fun v w' => OneRow eltT w129 32 (((tget l x.2.2).nm s)) v w') (fun v w w' hc h => h.chg hc hSlt)), (true, .val undef), (true, .val (.pointer (some ⟨g18, 1, none⟩))), (true, .val undef)] [(0, .agg #[.int .i64 f, .slice a l.length c]), (1, .slice sa s.length sc), (2, .pointer (some ⟨g2, 0, none⟩)), (4, .pointer (some ⟨g9, 0, none⟩)), (5, .pointer (some ⟨g18, 0, none⟩)), (6, .pointer (some ⟨g49, 0, none⟩)), (7, .bool ((subFind s (-1 - f)).isSome)), (8, .int .i64 (((x.2.2 : Nat) : Int))), (14, .bool ((decide ((f : Int) < (0 : Int))))), (23, .bool ((subFind s (-1 - f)).isSome)), (31, .bool ((decide ((((x.2.2 : Nat) : Int) : Int) < (((l.length : Nat) : Int) : Int)))))] 10 12 ((x.2.2 + 1)) 44 (fun ra rc wz => RowE eltT wz w60.heap.size 32 ra rc (x.2.2 + 1) (((l.take x.2.2).map (T.nm s) ++ [((tget l x.2.2).nm s)])) ∧ Blk wz g18 32 #[.int .i64 f, .slice x.1 x.2.2 x.2.1]) (fun ra rc wz => RowE eltT wz w60.heap.size 32 ra rc (x.2.2 + 1) (((l.take x.2.2).map (T.nm s) ++ [((tget l x.2.2).nm s)])) ∧ Blk wz g18 32 #[.int .i64 f, .slice ra ((x.2.2 + 1)) rc]) (by decide) (fun ra rc w w' hb h => ⟨h.1.below hb, h.2.below hb⟩) (fun ra rc w w' hb h => ⟨h.1.below hb, h.2.below hb⟩) ⟨rfl, rfl, rfl, rfl, rfl, rfl, rfl, rfl, rfl, rfl, rfl, trivial⟩ (by kernel_rfl) (by kernel_rfl) (by kernel_rfl) (by kernel_rfl) (by kernel_rfl) ?_ ?_
          · refine ⟨.inl ⟨rfl, true, .none rfl, (fun gg b h => by cases h), fun h w => optUndef h, fun zβ za zw zc => ?_⟩, ?_⟩
            · exact fld_32_1 rfl (zc.kn.ev rfl) ⟨_, rfl, Below.refl _ _, optDef zβ rfl⟩
            refine ⟨.inl ⟨rfl, true, .none rfl, (fun gg b h => by cases h), fun h w => optUndef h, fun zβ za zw zc => ?_⟩, ?_⟩
            · exact ld_30 rfl ((show za.eval (.tmp 34) = za.tmps.getD 34 undef from rfl).trans (optSVal (zc.dep 0 34 (by kernel_rfl) (by decide)) rfl rfl)) (bkeeps (zc.early (by kernel_rfl)) _ _ ((hB134.cell 1).trans rfl)) ⟨_, rfl, Below.refl _ _, optDef zβ rfl⟩
            refine ⟨.inl ⟨rfl, true, .none rfl, (fun gg b h => by cases h), fun h w => optUndef h, fun zβ za zw zc => ?_⟩, ?_⟩
            · exact fld_32_1 rfl (zc.kn.ev rfl) ⟨_, rfl, Below.refl _ _, optDef zβ rfl⟩
            refine ⟨.inl ⟨rfl, true, .none rfl, (fun gg b h => by cases h), fun h w => optUndef h, fun zβ za zw zc => ?_⟩, ?_⟩
            · exact ld_30 rfl ((show za.eval (.tmp 36) = za.tmps.getD 36 undef from rfl).trans (optSVal (zc.dep 2 36 (by kernel_rfl) (by decide)) rfl rfl)) (bkeeps (zc.early (by kernel_rfl)) _ _ ((hB131.cell 1).trans rfl)) ⟨_, rfl, Below.refl _ _, optDef zβ rfl⟩
            refine ⟨.inl ⟨rfl, true, .none rfl, (fun gg b h => by cases h), fun h w => optUndef h, fun zβ za zw zc => ?_⟩, ?_⟩
            · exact wp_move rfl (zc.kn.ev rfl) ⟨_, rfl, Below.refl _ _, optDef zβ rfl⟩
            refine ⟨.inl ⟨rfl, true, .none rfl, (fun gg b h => by cases h), fun h w => optUndef h, fun zβ za zw zc => ?_⟩, ?_⟩
            · exact ix_30 (k := x.2.2) rfl ((show za.eval (.tmp 37) = za.tmps.getD 37 undef from rfl).trans (optSVal (zc.dep 3 37 (by kernel_rfl) (by decide)) rfl rfl)) (ha141 x.2.2 (by first | omega | (simp; omega))) ((show za.eval (.tmp 38) = za.tmps.getD 38 undef from rfl).trans (optSVal (zc.dep 4 38 (by kernel_rfl) (by decide)) rfl rfl)) (by first | omega | (simp; omega)) ⟨_, rfl, Below.refl _ _, optDef zβ rfl⟩
            refine ⟨.inl ⟨rfl, true, .none rfl, (fun gg b h => by cases h), fun h w => optUndef h, fun zβ za zw zc => ?_⟩, ?_⟩
            · exact ld_32 rfl ((show za.eval (.tmp 39) = za.tmps.getD 39 undef from rfl).trans (optSVal (zc.dep 5 39 (by kernel_rfl) (by decide)) rfl rfl)) (bkeeps (bstep hb130 (zc.early (by kernel_rfl))) _ _ (hc142 x.2.2 (by first | omega | (simp; omega))).1) (bkeeps (bstep hb130 (zc.early (by kernel_rfl))) _ _ (hc142 x.2.2 (by first | omega | (simp; omega))).2.1) ⟨_, rfl, Below.refl _ _, optDef zβ rfl⟩
            refine ⟨.inl ⟨rfl, true, .none rfl, (fun gg b h => by cases h), fun h w => optUndef h, fun zβ za zw zc => ?_⟩, ?_⟩
            · exact wp_move rfl (zc.kn.ev rfl) ⟨_, rfl, Below.refl _ _, optDef zβ rfl⟩
            refine ⟨.inl ⟨rfl, true, .none rfl, (fun gg b h => by cases h), fun h w => optUndef h, fun zβ za zw zc => ?_⟩, ?_⟩
            · exact wp_call (by kernel_rfl) rfl (hv2 ((show za.eval (.tmp 40) = za.tmps.getD 40 undef from rfl).trans (optSVal (zc.dep 6 40 (by kernel_rfl) (by decide)) rfl rfl)) ((show za.eval (.tmp 41) = za.tmps.getD 41 undef from rfl).trans (optSVal (zc.dep 7 41 (by kernel_rfl) (by decide)) rfl rfl))) (ih _ (tget_mem (by omega)) _ _ (size_at (by omega) hz) (IsT.below (bstep hb130 (zc.early (by kernel_rfl))) (hc142 x.2.2 (by first | omega | (simp; omega))).2.2) (hs.below (bstep hb130 (zc.early (by kernel_rfl))))) (fun v w' h => ⟨v, rfl, h.2, optDef zβ (InT.mono (fun b hb _ => Nat.le_trans (zc.early (by kernel_rfl)).size hb) h.1)⟩)
            refine ⟨.inl ⟨rfl, true, .none rfl, (fun gg b h => by cases h), fun h w => optUndef h, fun zβ za zw zc => ?_⟩, ?_⟩
            · have zv := (optSMem (zc.dep 8 42 (by kernel_rfl) (by decide)) rfl rfl)
              obtain ⟨_, a1, c1, e1, _⟩ := zv.form
              rw [e1] at zv
              exact row_30_1 rfl ((show za.eval (.tmp 42) = za.tmps.getD 42 undef from rfl).trans e1) ⟨_, rfl, balloc _ _, optDef zβ ⟨_, _, rfl, zc.chg.size, Blk.new' rfl, _, _, rfl, zv.below (balloc _ _)⟩⟩
            refine ⟨.inr (.inl ⟨rfl, rfl, fun za zw zc => ?_⟩), ?_⟩
            · obtain ⟨g1, cs, e1, hg1, hB1, hin⟩ := (optSMem (zc.dep 9 43 (by kernel_rfl) (by decide)) rfl rfl)
              exact wp_appE (E := eltT) (size := 2) (bytes := 32) (z := .agg #[.int .i64 0, .slice none 0 0]) rfl Try.underlying30 (by kernel_rfl) rfl (by decide) rfl ((show za.eval (.tmp 35) = za.tmps.getD 35 undef from rfl).trans (optSVal (zc.dep 1 35 (by kernel_rfl) (by decide)) rfl rfl)) ((show za.eval (.tmp 43) = za.tmps.getD 43 undef from rfl).trans e1) (ho135.below zc.below) hB1 (eltT.mono (fun b hb _ => ⟨by omega, fun e => by have z := (ho135.lt b e).2; omega⟩) hin) (by omega) (by omega) (by have z := zc.below.size; omega) (fun ra rc w' h1 h2 _ => ⟨ra, rc, rfl, ⟨h1, chg_blk (hB134.below zc.below) h2 (fun e => by have z := (ho135.lt _ e).1; omega)⟩, h2.mono (fun b hb => .inr hb)⟩)
            refine ⟨.inl ⟨rfl, true, .none rfl, (fun gg b h => by cases h), fun h w => optUndef h, fun zβ za zw zc => ?_⟩, ?_⟩
            · exact fld_32_1 rfl (zc.kn.ev rfl) ⟨_, rfl, Below.refl _ _, optDef zβ rfl⟩
            refine ⟨.inr (.inr ⟨rfl, rfl, 44, by kernel_rfl, fun za zw ra rc zk zd zv zg => ?_⟩), ?_⟩
            · exact st_30 rfl ((show za.eval (.tmp 45) = za.tmps.getD 45 undef from rfl).trans (optSVal (zd 11 45 (by kernel_rfl) (by decide)) rfl rfl)) ((show za.eval (.tmp 44) = za.tmps.getD 44 undef from rfl).trans zv) zg.2 (by first | decide | simp) (fun v => ⟨v, rfl, ⟨zg.1.upd (Upd.at_ _ _ _ _) (by omega), zg.2.set_ 1 _⟩, .ofUpd (Upd.at_ _ _ _ _) (.inl rfl)⟩)
            exact trivial
          · intro za w143 ra146 rc147 zh zv hG144 hc145 zu
            have hb148 := chg_below hb130 hc145 (fun b hb => (fun h => by rcases hSlo _ h with h | h <;> omega))
            have hB149 := chg_blk hB131 hc145 (fun h => by rcases hSlo _ h with h | h <;> omega)
            have hB150 := chg_blk hB132 hc145 (fun h => by rcases hSlo _ h with h | h <;> omega)
            have hB151 := chg_blk hB133 hc145 (fun h => by rcases hSlo _ h with h | h <;> omega)
            clear zu
            refine (show WE _ [(0, .agg #[.int .i64 f, .slice a l.length c]), (1, .slice sa s.length sc), (2, .pointer (some ⟨g2, 0, none⟩)), (4, .pointer (some ⟨g9, 0, none⟩)), (5, .pointer (some ⟨g18, 0, none⟩)), (6, .pointer (some ⟨g49, 0, none⟩)), (7, .bool ((subFind s (-1 - f)).isSome)), (8, .int .i64 (((x.2.2 : Nat) : Int))), (14, .bool ((decide ((f : Int) < (0 : Int))))), (23, .bool ((subFind s (-1 - f)).isSome)), (31, .bool ((decide ((((x.2.2 : Nat) : Int) : Int) < (((l.length : Nat) : Int) : Int)))))] w143 _ .normal from ?_) za (zh.sub ⟨rfl, rfl, rfl, rfl, rfl, rfl, rfl, rfl, rfl, rfl, rfl, trivial⟩)
            refine WE.blockNormal ?_
            refine WE.next ?_
            refine WC.region ?_
            refine WL.val (.int .i64 (((x.2.2 : Nat) : Int))) rfl rfl rfl (fun za zC zh zk => wp_move rfl (zh.ev rfl) zk) ?_
            refine WL.val (.int .i64 ((((x.2.2 + 1) : Nat) : Int))) rfl rfl rfl (fun za zC zh zk => addb_3 rfl (zh.ev rfl) (zh.ev rfl) (wrap_eq (by omega) (by omega) (by omega)) zk) ?_
            refine WL.val (.int .i64 ((((x.2.2 + 1) : Nat) : Int))) rfl rfl rfl (fun za zC zh zk => wp_assign rfl (zh.ev rfl) zk) ?_
            refine WL.nil (WE.sub (K' := [(0, .agg #[.int .i64 f, .slice a l.length c]), (1, .slice sa s.length sc), (2, .pointer (some ⟨g2, 0, none⟩)), (4, .pointer (some ⟨g9, 0, none⟩)), (5, .pointer (some ⟨g18, 0, none⟩)), (6, .pointer (some ⟨g49, 0, none⟩)), (7, .bool ((subFind s (-1 - f)).isSome)), (8, .int .i64 ((((x.2.2 + 1) : Nat) : Int))), (14, .bool ((decide ((f : Int) < (0 : Int))))), (23, .bool ((subFind s (-1 - f)).isSome)), (31, .bool ((decide ((((x.2.2 : Nat) : Int) : Int) < (((l.length : Nat) : Int) : Int)))))]) ⟨rfl, rfl, rfl, rfl, rfl, rfl, rfl, rfl, rfl, rfl, rfl, trivial⟩ ?_)
            refine WE.round ((ra146, rc147, x.2.2 + 1)) ⟨rfl, rfl, rfl, rfl, rfl, rfl, rfl, rfl, rfl, rfl, trivial⟩ ?_ ?_
            · exact ⟨by (try dsimp only at *); omega, (Nat.le_trans hBw hc145.size), hb148, hB149, hB150, hB151, hG144.2, (by rw [← take_nm (by (try dsimp only at *); omega)]; exact hG144.1)⟩
            · dsimp only; omega
        · have h136 : ¬ ((((x.2.2 : Nat) : Int) : Int) < (((l.length : Nat) : Int) : Int)) := by simpa using h136
          refine WC.exit ?_
          refine WE.thenExit ?_
          refine WE.thenExit ?_
          refine WE.blockIs rfl ?_
          refine WE.next ?_
          refine WC.seq ?_
          refine WC.region ?_
          refine WL.val (.agg #[.int .i64 f, .slice x.1 x.2.2 x.2.1]) rfl rfl rfl (fun za zC zh zk => ld_32 rfl (zh.ev rfl) ((hB134.cell 0).trans rfl) ((hB134.cell 1).trans rfl) zk) ?_
          refine WL.step (post := fun _ w' => Upd g9 w129 w' ∧ Blk w' g9 32 #[.int .i64 f, .slice x.1 x.2.2 x.2.1]) rfl rfl rfl (fun za zC zh zk => st_32 rfl (zh.ev rfl) (zh.ev rfl) rfl rfl hB132 (by first | decide | simp) (fun v => zk v _ ⟨(Upd.at_ _ _ _ _).trans (Upd.at_ _ _ _ _), (hB132.set_ 0 _).set_ 1 _⟩)) ?_
          rintro v155 w152 ⟨hu153, hB154⟩
          have hb156 := upd_below hb130 hu153 (by omega)
          have hB157 := upd_blk hB131 hu153 (by omega)
          have hB158 := upd_blk hB133 hu153 (by omega)
          have hB159 := upd_blk hB134 hu153 (by omega)
          have ho160 := ho135.upd hu153 (by omega)
          refine WL.nil (WE.sub (K' := [(0, .agg #[.int .i64 f, .slice a l.length c]), (1, .slice sa s.length sc), (2, .pointer (some ⟨g2, 0, none⟩)), (4, .pointer (some ⟨g9, 0, none⟩)), (5, .pointer (some ⟨g18, 0, none⟩)), (6, .pointer (some ⟨g49, 0, none⟩)), (7, .bool ((subFind s (-1 - f)).isSome)), (8, .int .i64 (((x.2.2 : Nat) : Int))), (14, .bool ((decide ((f : Int) < (0 : Int))))), (23, .bool ((subFind s (-1 - f)).isSome)), (31, .bool ((decide ((((x.2.2 : Nat) : Int) : Int) < (((l.length : Nat) : Int) : Int)))))]) ⟨rfl, rfl, rfl, rfl, rfl, rfl, rfl, rfl, rfl, rfl, rfl, trivial⟩ ?_)
          refine WE.next ?_
          refine WC.ret ?_
          refine WE.retAny (v := .agg #[.int .i64 f, .slice x.1 x.2.2 x.2.1]) (fun za zh => ?_) ?_
          · have z0 : za.tmps[4]?.getD undef = .pointer (some ⟨g9, 0, none⟩) := by rw [← Array.getD_eq_getD_getElem?]; exact zh.knows 4 _ rfl
            have y0 : w152.cell? ⟨g9, 0, none⟩ = some (.int .i64 f) := ((hB154.cell 0).trans rfl)
            have y1 : w152.cell? ⟨g9, 1, none⟩ = some (.slice x.1 x.2.2 x.2.1) := ((hB154.cell 1).trans rfl)
            simp [results, Try.results67, z0, y0, y1, go_sem]
          · have z := ho160
            rw [List.take_of_length_le (by omega)] at z
            exact ⟨_, rfl, by rw [nm_mk, hhd]; exact newT_row hh64 z (by omega), hb156⟩
  · have h37 : ¬ ((f : Int) < (0 : Int)) := by simpa using h37
    refine WC.skip ?_
    refine WE.next ?_
    refine WC.seq ?_
    refine WC.seq ?_
    refine WC.region ?_
    refine WL.val (.int .i64 0) rfl rfl rfl (fun za zC zh zk => wp_assign rfl (zh.ev rfl) zk) ?_
    refine WL.nil (WE.sub (K' := [(0, .agg #[.int .i64 f, .slice a l.length c]), (1, .slice sa s.length sc), (2, .pointer (some ⟨g2, 0, none⟩)), (4, .pointer (some ⟨g9, 0, none⟩)), (5, .pointer (some ⟨g18, 0, none⟩)), (8, .int .i64 0), (14, .bool ((decide ((f : Int) < (0 : Int)))))]) ⟨rfl, rfl, rfl, rfl, rfl, rfl, rfl, trivial⟩ ?_)
    refine WE.next ?_
    refine WC.block ?_
    have hhd : ((T.mk f []).app s).f = f := tnm_pos ‹¬ f < 0›
    have hh64 : I64 (f) := hf
    have hl161 : g2 < w27.heap.size := by have z1 := hB34.lt; omega
    have hl162 : g9 < w27.heap.size := by have z1 := hB36.lt; omega
    have hl163 : g18 < w27.heap.size := by have z1 := hB29.lt; omega
    have hl164 : w.heap.size ≤ w27.heap.size := (hb32).size
    have hR165 : RowE eltT w27 w27.heap.size 32 none 0 0 [] := RowE.nil
    refine WC.loop (X := Option Addr × Nat × Nat) (fun x => l.length - x.2.2) (fun x => [(0, .agg #[.int .i64 f, .slice a l.length c]), (1, .slice sa s.length sc), (2, .pointer (some ⟨g2, 0, none⟩)), (4, .pointer (some ⟨g9, 0, none⟩)), (5, .pointer (some ⟨g18, 0, none⟩)), (8, .int .i64 (((x.2.2 : Nat) : Int))), (14, .bool ((decide ((f : Int) < (0 : Int)))))]) (fun x w166 => x.2.2 ≤ l.length ∧ w27.heap.size ≤ (w166).heap.size ∧ Below w.heap.size w w166 ∧ Blk w166 g2 32 #[.int .i64 f, .slice a l.length c] ∧ Blk w166 g9 32 #[.int .i64 0, .slice none 0 0] ∧ Blk w166 g18 32 #[.int .i64 f, .slice x.1 x.2.2 x.2.1] ∧ RowE eltT (w166) w27.heap.size 32 x.1 x.2.1 x.2.2 ((l.take x.2.2).map (T.nm s))) ((none, 0, 0)) ⟨rfl, rfl, rfl, rfl, rfl, rfl, rfl, trivial⟩ ?_ ?_
    · exact ⟨Nat.zero_le _, Nat.le_refl _, hb32, hB34, hB36, hB29, (by simpa using hR165)⟩
    · rintro x w166 ⟨hk, hBw, hb167, hB168, hB169, hB170, ho171⟩
      refine WC.seq ?_
      refine WC.seq ?_
      refine WC.region ?_
      refine WL.val (.int .i64 (((x.2.2 : Nat) : Int))) rfl rfl rfl (fun za zC zh zk => wp_move rfl (zh.ev rfl) zk) ?_
      refine WL.val (.pointer (some ⟨g2, 1, none⟩)) rfl rfl rfl (fun za zC zh zk => fld_32_1 rfl (zh.ev rfl) zk) ?_
      refine WL.val (.slice a l.length c) rfl rfl rfl (fun za zC zh zk => ld_30 rfl (zh.ev rfl) ((hB168.cell 1).trans rfl) zk) ?_
      refine WL.val (.int .i64 (((l.length : Nat) : Int))) rfl rfl rfl (fun za zC zh zk => len_30 rfl (zh.ev rfl) zk) ?_
      refine WL.val (.bool ((decide ((((x.2.2 : Nat) : Int) : Int) < (((l.length : Nat) : Int) : Int))))) rfl rfl rfl (fun za zC zh zk => lss_3 rfl (zh.ev rfl) (zh.ev rfl) zk) ?_
      refine WL.nil (WE.sub (K' := [(0, .agg #[.int .i64 f, .slice a l.length c]), (1, .slice sa s.length sc), (2, .pointer (some ⟨g2, 0, none⟩)), (4, .pointer (some ⟨g9, 0, none⟩)), (5, .pointer (some ⟨g18, 0, none⟩)), (8, .int .i64 (((x.2.2 : Nat) : Int))), (14, .bool ((decide ((f : Int) < (0 : Int))))), (31, .bool ((decide ((((x.2.2 : Nat) : Int) : Int) < (((l.length : Nat) : Int) : Int)))))]) ⟨rfl, rfl, rfl, rfl, rfl, rfl, rfl, rfl, trivial⟩ ?_)
      refine WE.next ?_
      refine WC.cond rfl (fun h172 => ?_) (fun h172 => ?_)
      · have h172 : (((x.2.2 : Nat) : Int) : Int) < (((l.length : Nat) : Int) : Int) := by simpa using h172
        refine WC.skip ?_
        refine WE.next ?_
        refine WC.seq ?_
        refine WC.block ?_
        obtain ⟨b173, o174, A175, C176, ha177, hc178⟩ := IsTs.open hl
        have hSlt : ∀ b, (fun b => b = g18 ∨ (Value.slice x.1 x.2.2 x.2.1).ownBlock = some b) b → b < w166.heap.size := fun b h => h.elim (fun e => e ▸ hB170.lt) (fun h => (ho171.lt b h).2)
        have hSlo : ∀ b, (fun b => b = g18 ∨ (Value.slice x.1 x.2.2 x.2.1).ownBlock = some b) b → b = g18 ∨ (w27.heap.size ≤ b ∧ b < w166.heap.size) := fun b h => h.imp id (fun h => ho171.lt b h)
        have hBW : w27.heap.size ≤ w166.heap.size := by have z1 := hBw; omega
        have hlL : x.2.2 = (((l.take x.2.2).map (T.nm s))).length := ho171.len
        refine WC.tail2 (S := ((fun b => b = g18 ∨ (Value.slice x.1 x.2.2 x.2.1).ownBlock = some b))) [(true, .val (.pointer (some ⟨g18, 1, none⟩))), (true, .val (.slice x.1 x.2.2 x.2.1)), (true, .val (.pointer (some ⟨g2, 1, none⟩))), (true, .val (.slice a l.length c)), (true, .val (.int .i64 (((x.2.2 : Nat) : Int)))), (true, .val (.pointer (some ⟨b173, o174 + x.2.2 * 2, none⟩))), (true, .val (.agg #[.int .i64 ((tget l x.2.2).f), .slice ((A175 x.2.2)) ((tget l x.2.2).args.length) ((C176 x.2.2))])), (true, .val (.slice sa s.length sc)), (true, .mem (fun v w' => NewT w166 w' (((tget l x.2.2).nm s)) v) (fun v w w' hc h => InT.chg h hc (fun b hb hs => by have z := hSlt b hs; omega))), (true, .mem (fun v w' => OneRow eltT w166 32 (((tget l x.2.2).nm s)) v w') (fun v w w' hc h => h.chg hc hSlt)), (true, .val undef), (true, .val (.pointer (some ⟨g18, 1, none⟩))), (true, .val undef)] [(0, .agg #[.int .i64 f, .slice a l.length c]), (1, .slice sa s.length sc), (2, .pointer (some ⟨g2, 0, none⟩)), (4, .pointer (some ⟨g9, 0, none⟩)), (5, .pointer (some ⟨g18, 0, none⟩)), (8, .int .i64 (((x.2.2 : Nat) : Int))), (14, .bool ((decide ((f : Int) < (0 : Int))))), (31, .bool ((decide ((((x.2.2 : Nat) : Int) : Int) < (((l.length : Nat) : Int) : Int)))))] 10 12 ((x.2.2 + 1)) 44 (fun ra rc wz => RowE eltT wz w27.heap.size 32 ra rc (x.2.2 + 1) (((l.take x.2.2).map (T.nm s) ++ [((tget l x.2.2).nm s)])) ∧ Blk wz g18 32 #[.int .i64 f, .slice x.1 x.2.2 x.2.1]) (fun ra rc wz => RowE eltT wz w27.heap.size 32 ra rc (x.2.2 + 1) (((l.take x.2.2).map (T.nm s) ++ [((tget l x.2.2).nm s)])) ∧ Blk wz g18 32 #[.int .i64 f, .slice ra ((x.2.2 + 1)) rc]) (by decide) (fun ra rc w w' hb h => ⟨h.1.below hb, h.2.below hb⟩) (fun ra rc w w' hb h => ⟨h.1.below hb, h.2.below hb⟩) ⟨rfl, rfl, rfl, rfl, rfl, rfl, rfl, rfl, trivial⟩ (by kernel_rfl) (by kernel_rfl) (by kernel_rfl) (by kernel_rfl) (by kernel_rfl) ?_ ?_
        · refine ⟨.inl ⟨rfl, true, .none rfl, (fun gg b h => by cases h), fun h w => optUndef h, fun zβ za zw zc => ?_⟩, ?_⟩
          · exact fld_32_1 rfl (zc.kn.ev rfl) ⟨_, rfl, Below.refl _ _, optDef zβ rfl⟩
          refine ⟨.inl ⟨rfl, true, .none rfl, (fun gg b h => by cases h), fun h w => optUndef h, fun zβ za zw zc => ?_⟩, ?_⟩
          · exact ld_30 rfl ((show za.eval (.tmp 34) = za.tmps.getD 34 undef from rfl).trans (optSVal (zc.dep 0 34 (by kernel_rfl) (by decide)) rfl rfl)) (bkeeps (zc.early (by kernel_rfl)) _ _ ((hB170.cell 1).trans rfl)) ⟨_, rfl, Below.refl _ _, optDef zβ rfl⟩
          refine ⟨.inl ⟨rfl, true, .none rfl, (fun gg b h => by cases h), fun h w => optUndef h, fun zβ za zw zc => ?_⟩, ?_⟩
          · exact fld_32_1 rfl (zc.kn.ev rfl) ⟨_, rfl, Below.refl _ _, optDef zβ rfl⟩
          refine ⟨.inl ⟨rfl, true, .none rfl, (fun gg b h => by cases h), fun h w => optUndef h, fun zβ za zw zc => ?_⟩, ?_⟩
          · exact ld_30 rfl ((show za.eval (.tmp 36) = za.tmps.getD 36 undef from rfl).trans (optSVal (zc.dep 2 36 (by kernel_rfl) (by decide)) rfl rfl)) (bkeeps (zc.early (by kernel_rfl)) _ _ ((hB168.cell 1).trans rfl)) ⟨_, rfl, Below.refl _ _, optDef zβ rfl⟩
          refine ⟨.inl ⟨rfl, true, .none rfl, (fun gg b h => by cases h), fun h w => optUndef h, fun zβ za zw zc => ?_⟩, ?_⟩
          · exact wp_move rfl (zc.kn.ev rfl) ⟨_, rfl, Below.refl _ _, optDef zβ rfl⟩
          refine ⟨.inl ⟨rfl, true, .none rfl, (fun gg b h => by cases h), fun h w => optUndef h, fun zβ za zw zc => ?_⟩, ?_⟩
          · exact ix_30 (k := x.2.2) rfl ((show za.eval (.tmp 37) = za.tmps.getD 37 undef from rfl).trans (optSVal (zc.dep 3 37 (by kernel_rfl) (by decide)) rfl rfl)) (ha177 x.2.2 (by first | omega | (simp; omega))) ((show za.eval (.tmp 38) = za.tmps.getD 38 undef from rfl).trans (optSVal (zc.dep 4 38 (by kernel_rfl) (by decide)) rfl rfl)) (by first | omega | (simp; omega)) ⟨_, rfl, Below.refl _ _, optDef zβ rfl⟩
          refine ⟨.inl ⟨rfl, true, .none rfl, (fun gg b h => by cases h), fun h w => optUndef h, fun zβ za zw zc => ?_⟩, ?_⟩
          · exact ld_32 rfl ((show za.eval (.tmp 39) = za.tmps.getD 39 undef from rfl).trans (optSVal (zc.dep 5 39 (by kernel_rfl) (by decide)) rfl rfl)) (bkeeps (bstep hb167 (zc.early (by kernel_rfl))) _ _ (hc178 x.2.2 (by first | omega | (simp; omega))).1) (bkeeps (bstep hb167 (zc.early (by kernel_rfl))) _ _ (hc178 x.2.2 (by first | omega | (simp; omega))).2.1) ⟨_, rfl, Below.refl _ _, optDef zβ rfl⟩
          refine ⟨.inl ⟨rfl, true, .none rfl, (fun gg b h => by cases h), fun h w => optUndef h, fun zβ za zw zc => ?_⟩, ?_⟩
          · exact wp_move rfl (zc.kn.ev rfl) ⟨_, rfl, Below.refl _ _, optDef zβ rfl⟩
          refine ⟨.inl ⟨rfl, true, .none rfl, (fun gg b h => by cases h), fun h w => optUndef h, fun zβ za zw zc => ?_⟩, ?_⟩
          · exact wp_call (by kernel_rfl) rfl (hv2 ((show za.eval (.tmp 40) = za.tmps.getD 40 undef from rfl).trans (optSVal (zc.dep 6 40 (by kernel_rfl) (by decide)) rfl rfl)) ((show za.eval (.tmp 41) = za.tmps.getD 41 undef from rfl).trans (optSVal (zc.dep 7 41 (by kernel_rfl) (by decide)) rfl rfl))) (ih _ (tget_mem (by omega)) _ _ (size_at (by omega) hz) (IsT.below (bstep hb167 (zc.early (by kernel_rfl))) (hc178 x.2.2 (by first | omega | (simp; omega))).2.2) (hs.below (bstep hb167 (zc.early (by kernel_rfl))))) (fun v w' h => ⟨v, rfl, h.2, optDef zβ (InT.mono (fun b hb _ => Nat.le_trans (zc.early (by kernel_rfl)).size hb) h.1)⟩)
          refine ⟨.inl ⟨rfl, true, .none rfl, (fun gg b h => by cases h), fun h w => optUndef h, fun zβ za zw zc => ?_⟩, ?_⟩
          · have zv := (optSMem (zc.dep 8 42 (by kernel_rfl) (by decide)) rfl rfl)
            obtain ⟨_, a1, c1, e1, _⟩ := zv.form
            rw [e1] at zv
            exact row_30_1 rfl ((show za.eval (.tmp 42) = za.tmps.getD 42 undef from rfl).trans e1) ⟨_, rfl, balloc _ _, optDef zβ ⟨_, _, rfl, zc.chg.size, Blk.new' rfl, _, _, rfl, zv.below (balloc _ _)⟩⟩
          refine ⟨.inr (.inl ⟨rfl, rfl, fun za zw zc => ?_⟩), ?_⟩
          · obtain ⟨g1, cs, e1, hg1, hB1, hin⟩ := (optSMem (zc.dep 9 43 (by kernel_rfl) (by decide)) rfl rfl)
            exact wp_appE (E := eltT) (size := 2) (bytes := 32) (z := .agg #[.int .i64 0, .slice none 0 0]) rfl Try.underlying30 (by kernel_rfl) rfl (by decide) rfl ((show za.eval (.tmp 35) = za.tmps.getD 35 undef from rfl).trans (optSVal (zc.dep 1 35 (by kernel_rfl) (by decide)) rfl rfl)) ((show za.eval (.tmp 43) = za.tmps.getD 43 undef from rfl).trans e1) (ho171.below zc.below) hB1 (eltT.mono (fun b hb _ => ⟨by omega, fun e => by have z := (ho171.lt b e).2; omega⟩) hin) (by omega) (by omega) (by have z := zc.below.size; omega) (fun ra rc w' h1 h2 _ => ⟨ra, rc, rfl, ⟨h1, chg_blk (hB170.below zc.below) h2 (fun e => by have z := (ho171.lt _ e).1; omega)⟩, h2.mono (fun b hb => .inr hb)⟩)
          refine ⟨.inl ⟨rfl, true, .none rfl, (fun gg b h => by cases h), fun h w => optUndef h, fun zβ za zw zc => ?_⟩, ?_⟩
          · exact fld_32_1 rfl (zc.kn.ev rfl) ⟨_, rfl, Below.refl _ _, optDef zβ rfl⟩
          refine ⟨.inr (.inr ⟨rfl, rfl, 44, by kernel_rfl, fun za zw ra rc zk zd zv zg => ?_⟩), ?_⟩
          · exact st_30 rfl ((show za.eval (.tmp 45) = za.tmps.getD 45 undef from rfl).trans (optSVal (zd 11 45 (by kernel_rfl) (by decide)) rfl rfl)) ((show za.eval (.tmp 44) = za.tmps.getD 44 undef from rfl).trans zv) zg.2 (by first | decide | simp) (fun v => ⟨v, rfl, ⟨zg.1.upd (Upd.at_ _ _ _ _) (by omega), zg.2.set_ 1 _⟩, .ofUpd (Upd.at_ _ _ _ _) (.inl rfl)⟩)
          exact trivial
        · intro za w179 ra182 rc183 zh zv hG180 hc181 zu
          have hb184 := chg_below hb167 hc181 (fun b hb => (fun h => by rcases hSlo _ h with h | h <;> omega))
          have hB185 := chg_blk hB168 hc181 (fun h => by rcases hSlo _ h with h | h <;> omega)
          have hB186 := chg_blk hB169 hc181 (fun h => by rcases hSlo _ h with h | h <;> omega)
          clear zu
          refine (show WE _ [(0, .agg #[.int .i64 f, .slice a l.length c]), (1, .slice sa s.length sc), (2, .pointer (some ⟨g2, 0, none⟩)), (4, .pointer (some ⟨g9, 0, none⟩)), (5, .pointer (some ⟨g18, 0, none⟩)), (8, .int .i64 (((x.2.2 : Nat) : Int))), (14, .bool ((decide ((f : Int) < (0 : Int))))), (31, .bool ((decide ((((x.2.2 : Nat) : Int) : Int) < (((l.length : Nat) : Int) : Int)))))] w179 _ .normal from ?_) za (zh.sub ⟨rfl, rfl, rfl, rfl, rfl, rfl, rfl, rfl, trivial⟩)
          refine WE.blockNormal ?_
          refine WE.next ?_
          refine WC.region ?_
          refine WL.val (.int .i64 (((x.2.2 : Nat) : Int))) rfl rfl rfl (fun za zC zh zk => wp_move rfl (zh.ev rfl) zk) ?_
          refine WL.val (.int .i64 ((((x.2.2 + 1) : Nat) : Int))) rfl rfl rfl (fun za zC zh zk => addb_3 rfl (zh.ev rfl) (zh.ev rfl) (wrap_eq (by omega) (by omega) (by omega)) zk) ?_
          refine WL.val (.int .i64 ((((x.2.2 + 1) : Nat) : Int))) rfl rfl rfl (fun za zC zh zk => wp_assign rfl (zh.ev rfl) zk) ?_
          refine WL.nil (WE.sub (K' := [(0, .agg #[.int .i64 f, .slice a l.length c]), (1, .slice sa s.length sc), (2, .pointer (some ⟨g2, 0, none⟩)), (4, .pointer (some ⟨g9, 0, none⟩)), (5, .pointer (some ⟨g18, 0, none⟩)), (8, .int .i64 ((((x.2.2 + 1) : Nat) : Int))), (14, .bool ((decide ((f : Int) < (0 : Int))))), (31, .bool ((decide ((((x.2.2 : Nat) : Int) : Int) < (((l.length : Nat) : Int) : Int)))))]) ⟨rfl, rfl, rfl, rfl, rfl, rfl, rfl, rfl, trivial⟩ ?_)
          refine WE.round ((ra182, rc183, x.2.2 + 1)) ⟨rfl, rfl, rfl, rfl, rfl, rfl, rfl, trivial⟩ ?_ ?_
          · exact ⟨by (try dsimp only at *); omega, (Nat.le_trans hBw hc181.size), hb184, hB185, hB186, hG180.2, (by rw [← take_nm (by (try dsimp only at *); omega)]; exact hG180.1)⟩
          · dsimp only; omega
      · have h172 : ¬ ((((x.2.2 : Nat) : Int) : Int) < (((l.length : Nat) : Int) : Int)) := by simpa using h172
        refine WC.exit ?_
        refine WE.thenExit ?_
        refine WE.thenExit ?_
        refine WE.blockIs rfl ?_
        refine WE.next ?_
        refine WC.seq ?_
        refine WC.region ?_
        refine WL.val (.agg #[.int .i64 f, .slice x.1 x.2.2 x.2.1]) rfl rfl rfl (fun za zC zh zk => ld_32 rfl (zh.ev rfl) ((hB170.cell 0).trans rfl) ((hB170.cell 1).trans rfl) zk) ?_
        refine WL.step (post := fun _ w' => Upd g9 w166 w' ∧ Blk w' g9 32 #[.int .i64 f, .slice x.1 x.2.2 x.2.1]) rfl rfl rfl (fun za zC zh zk => st_32 rfl (zh.ev rfl) (zh.ev rfl) rfl rfl hB169 (by first | decide | simp) (fun v => zk v _ ⟨(Upd.at_ _ _ _ _).trans (Upd.at_ _ _ _ _), (hB169.set_ 0 _).set_ 1 _⟩)) ?_
        rintro v190 w187 ⟨hu188, hB189⟩
        have hb191 := upd_below hb167 hu188 (by omega)
        have hB192 := upd_blk hB168 hu188 (by omega)
        have hB193 := upd_blk hB170 hu188 (by omega)
        have ho194 := ho171.upd hu188 (by omega)
        refine WL.nil (WE.sub (K' := [(0, .agg #[.int .i64 f, .slice a l.length c]), (1, .slice sa s.length sc), (2, .pointer (some ⟨g2, 0, none⟩)), (4, .pointer (some ⟨g9, 0, none⟩)), (5, .pointer (some ⟨g18, 0, none⟩)), (8, .int .i64 (((x.2.2 : Nat) : Int))), (14, .bool ((decide ((f : Int) < (0 : Int))))), (31, .bool ((decide ((((x.2.2 : Nat) : Int) : Int) < (((l.length : Nat) : Int) : Int)))))]) ⟨rfl, rfl, rfl, rfl, rfl, rfl, rfl, rfl, trivial⟩ ?_)
        refine WE.next ?_
        refine WC.ret ?_
        refine WE.retAny (v := .agg #[.int .i64 f, .slice x.1 x.2.2 x.2.1]) (fun za zh => ?_) ?_
        · have z0 : za.tmps[4]?.getD undef = .pointer (some ⟨g9, 0, none⟩) := by rw [← Array.getD_eq_getD_getElem?]; exact zh.knows 4 _ rfl
          have y0 : w187.cell? ⟨g9, 0, none⟩ = some (.int .i64 f) := ((hB189.cell 0).trans rfl)
          have y1 : w187.cell? ⟨g9, 1, none⟩ = some (.slice x.1 x.2.2 x.2.1) := ((hB189.cell 1).trans rfl)
          simp [results, Try.results67, z0, y0, y1, go_sem]
        · have z := ho194
          rw [List.take_of_length_le (by omega)] at z
          exact ⟨_, rfl, by rw [nm_mk, hhd]; exact newT_row hh64 z (by omega), hb191⟩

theorem take_li {s : List Bd} {l : List Li} {k : Nat} (h : k < l.length) : (l.take k).map (Li.nm s) ++ [(lget l k).nm s] = (l.take (k + 1)).map (Li.nm s) := take_mapL h
set_option maxRecDepth 100000 in
theorem renamedc_any (s : List Bd) (n : Nat) (hn : n = s.length) (l : List Li) (w : World) (sa a : Option Addr) (sc c : Nat) (hs : IsSub w s sa sc) (h : IsCl w l a c) (hlen : l.length ≤ 1048576) : Calls Try.prog 57 #[.slice a l.length c, .slice sa n sc] w (Ret fun v' w' => (∃ p c', v' = .slice p l.length c' ∧ NewC w w' (l.map (Li.nm s)) p c') ∧ Below w.heap.size w w') := by
  subst hn
  have hcap := h.cap
  refine Calls.walk (l := [.slice a l.length c, .slice sa s.length sc]) Try.func57 rfl (by kernel_rfl) ?_
  refine WC.sub (K' := [(0, .slice a l.length c), (1, .slice sa s.length sc)]) ⟨rfl, rfl, trivial⟩ ?_
  refine WC.seq ?_
  refine WC.region ?_
  refine WL.val (.slice none 0 0) rfl rfl rfl (fun za zC zh zk => wp_assign rfl (zh.ev rfl) zk) ?_
  refine WL.nil (WE.sub (K' := [(0, .slice a l.length c), (1, .slice sa s.length sc), (4, .slice none 0 0)]) ⟨rfl, rfl, rfl, trivial⟩ ?_)
  refine WE.next ?_
  refine WC.seq ?_
  refine WC.region ?_
  refine WL.val (.slice none 0 0) rfl rfl rfl (fun za zC zh zk => wp_assign rfl (zh.ev rfl) zk) ?_
  refine WL.nil (WE.sub (K' := [(0, .slice a l.length c), (1, .slice sa s.length sc), (4, .slice none 0 0), (5, .slice none 0 0)]) ⟨rfl, rfl, rfl, rfl, trivial⟩ ?_)
  refine WE.next ?_
  refine WC.seq ?_
  refine WC.seq ?_
  refine WC.region ?_
  refine WL.val (.int .i64 0) rfl rfl rfl (fun za zC zh zk => wp_assign rfl (zh.ev rfl) zk) ?_
  refine WL.nil (WE.sub (K' := [(0, .slice a l.length c), (1, .slice sa s.length sc), (4, .slice none 0 0), (5, .slice none 0 0), (6, .int .i64 0)]) ⟨rfl, rfl, rfl, rfl, rfl, trivial⟩ ?_)
  refine WE.next ?_
  refine WC.block ?_
  have hR1 : RowE eltL w w.heap.size 44 none 0 0 [] := RowE.nil
  refine WC.loop (X := Option Addr × Nat × Nat) (fun x => l.length - x.2.2) (fun x => [(0, .slice a l.length c), (1, .slice sa s.length sc), (4, .slice none 0 0), (5, .slice x.1 x.2.2 x.2.1), (6, .int .i64 (((x.2.2 : Nat) : Int)))]) (fun x w2 => x.2.2 ≤ l.length ∧ w.heap.size ≤ (w2).heap.size ∧ Below w.heap.size w w2 ∧ RowE eltL (w2) w.heap.size 44 x.1 x.2.1 x.2.2 (((l.take x.2.2).map (Li.nm s)))) ((none, 0, 0)) ⟨rfl, rfl, rfl, rfl, rfl, trivial⟩ ?_ ?_
  · exact ⟨Nat.zero_le _, Nat.le_refl _, (Below.refl _ _), (by simpa using hR1)⟩
  · rintro x w2 ⟨hk, hBw, hb3, ho4⟩
    refine WC.seq ?_
    refine WC.seq ?_
    refine WC.region ?_
    refine WL.val (.int .i64 (((x.2.2 : Nat) : Int))) rfl rfl rfl (fun za zC zh zk => wp_move rfl (zh.ev rfl) zk) ?_
    refine WL.val (.slice a l.length c) rfl rfl rfl (fun za zC zh zk => wp_move rfl (zh.ev rfl) zk) ?_
    refine WL.val (.int .i64 (((l.length : Nat) : Int))) rfl rfl rfl (fun za zC zh zk => len_42 rfl (zh.ev rfl) zk) ?_
    refine WL.val (.bool ((decide ((((x.2.2 : Nat) : Int) : Int) < (((l.length : Nat) : Int) : Int))))) rfl rfl rfl (fun za zC zh zk => lss_3 rfl (zh.ev rfl) (zh.ev rfl) zk) ?_
    refine WL.nil (WE.sub (K' := [(0, .slice a l.length c), (1, .slice sa s.length sc), (4, .slice none 0 0), (5, .slice x.1 x.2.2 x.2.1), (6, .int .i64 (((x.2.2 : Nat) : Int))), (10, .bool ((decide ((((x.2.2 : Nat) : Int) : Int) < (((l.length : Nat) : Int) : Int)))))]) ⟨rfl, rfl, rfl, rfl, rfl, rfl, trivial⟩ ?_)
    refine WE.next ?_
    refine WC.cond rfl (fun h5 => ?_) (fun h5 => ?_)
    · have h5 : (((x.2.2 : Nat) : Int) : Int) < (((l.length : Nat) : Int) : Int) := by simpa using h5
      refine WC.skip ?_
      refine WE.next ?_
      refine WC.seq ?_
      refine WC.block ?_
      obtain ⟨b6, o7, A8, C9, A10, C11, ha12, hc13⟩ := InRow.openL h.rows
      have hSlt : ∀ b, (fun b => (Value.slice x.1 x.2.2 x.2.1).ownBlock = some b) b → b < w2.heap.size := fun b h => (ho4.lt b h).2
      have hSlo : ∀ b, (fun b => (Value.slice x.1 x.2.2 x.2.1).ownBlock = some b) b → w.heap.size ≤ b ∧ b < w2.heap.size := fun b h => ho4.lt b h
      have hBW : w.heap.size ≤ w2.heap.size := by have z1 := hBw; omega
      have hlL : x.2.2 = (((l.take x.2.2).map (Li.nm s))).length := ho4.len
      refine WC.tail3 (S := ((fun b => (Value.slice x.1 x.2.2 x.2.1).ownBlock = some b))) [(true, .val (.slice x.1 x.2.2 x.2.1)), (true, .val (.slice a l.length c)), (true, .val (.int .i64 (((x.2.2 : Nat) : Int)))), (true, .val (.pointer (some ⟨b6, o7 + x.2.2 * 5, none⟩))), (true, .val (.pointer (some ⟨b6, o7 + x.2.2 * 5, none⟩))), (true, .val (.bool ((lget l x.2.2).neg))), (true, .val (.slice a l.length c)), (true, .val (.int .i64 (((x.2.2 : Nat) : Int)))), (true, .val (.pointer (some ⟨b6, o7 + x.2.2 * 5, none⟩))), (true, .val (.pointer (some ⟨b6, o7 + x.2.2 * 5 + 1, none⟩))), (true, .val (.agg #[.int .i64 ((lget l x.2.2).l.f), .slice ((A8 x.2.2)) ((lget l x.2.2).l.args.length) ((C9 x.2.2))])), (true, .val (.slice sa s.length sc)), (true, .mem (fun v w' => NewT w2 w' ((lget l x.2.2).l.nm s) v) (fun v w w' hc h => InT.chg h hc (fun b hb hs => by have z := hSlt b hs; omega))), (true, .val (.slice a l.length c)), (true, .val (.int .i64 (((x.2.2 : Nat) : Int)))), (true, .val (.pointer (some ⟨b6, o7 + x.2.2 * 5, none⟩))), (true, .val (.pointer (some ⟨b6, o7 + x.2.2 * 5 + 3, none⟩))), (true, .val (.agg #[.int .i64 ((lget l x.2.2).r.f), .slice ((A10 x.2.2)) ((lget l x.2.2).r.args.length) ((C11 x.2.2))])), (true, .val (.slice sa s.length sc)), (true, .mem (fun v w' => NewT w2 w' ((lget l x.2.2).r.nm s) v) (fun v w w' hc h => InT.chg h hc (fun b hb hs => by have z := hSlt b hs; omega))), (true, .mem (fun v w' => NewL w2 w' (((lget l x.2.2).nm s)) v) (fun v w w' hc h => NewL.chg h hc (fun b hb hs => by have z := hSlt b hs; omega))), (true, .mem (fun v w' => OneRow eltL w2 44 (((lget l x.2.2).nm s)) v w') (fun v w w' hc h => h.chg hc hSlt)), (true, .val undef), (true, .val undef)] [(0, .slice a l.length c), (1, .slice sa s.length sc), (4, .slice none 0 0), (6, .int .i64 (((x.2.2 : Nat) : Int))), (10, .bool ((decide ((((x.2.2 : Nat) : Int) : Int) < (((l.length : Nat) : Int) : Int)))))] 22 23 ((x.2.2 + 1)) 35 5 (fun ra rc wz => RowE eltL wz w.heap.size 44 ra rc (x.2.2 + 1) (((l.take x.2.2).map (Li.nm s) ++ [((lget l x.2.2).nm s)]))) (by decide) (fun ra rc w w' hb h => h.below hb) ⟨rfl, rfl, rfl, rfl, rfl, trivial⟩ (by kernel_rfl) (by kernel_rfl) (by kernel_rfl) (by kernel_rfl) (by kernel_rfl) (by kernel_rfl) ?_ ?_
      · refine ⟨.inl ⟨rfl, true, .none rfl, (fun gg b h => by cases h), fun h w => optUndef h, fun zβ za zw zc => ?_⟩, ?_⟩
        · exact wp_move rfl ((show za.eval (.tmp 5) = za.tmps.getD 5 undef from rfl).trans (zc.old 5 _ rfl (by kernel_rfl))) ⟨_, rfl, Below.refl _ _, optDef zβ rfl⟩
        refine ⟨.inl ⟨rfl, true, .none rfl, (fun gg b h => by cases h), fun h w => optUndef h, fun zβ za zw zc => ?_⟩, ?_⟩
        · exact wp_move rfl (zc.kn.ev rfl) ⟨_, rfl, Below.refl _ _, optDef zβ rfl⟩
        refine ⟨.inl ⟨rfl, true, .none rfl, (fun gg b h => by cases h), fun h w => optUndef h, fun zβ za zw zc => ?_⟩, ?_⟩
        · exact wp_move rfl (zc.kn.ev rfl) ⟨_, rfl, Below.refl _ _, optDef zβ rfl⟩
        refine ⟨.inl ⟨rfl, true, .none rfl, (fun gg b h => by cases h), fun h w => optUndef h, fun zβ za zw zc => ?_⟩, ?_⟩
        · exact ix_42 (k := x.2.2) rfl ((show za.eval (.tmp 14) = za.tmps.getD 14 undef from rfl).trans (optSVal (zc.dep 1 14 (by kernel_rfl) (by decide)) rfl rfl)) (ha12 x.2.2 (by first | omega | (simp; omega))) ((show za.eval (.tmp 15) = za.tmps.getD 15 undef from rfl).trans (optSVal (zc.dep 2 15 (by kernel_rfl) (by decide)) rfl rfl)) (by first | omega | (simp; omega)) ⟨_, rfl, Below.refl _ _, optDef zβ rfl⟩
        refine ⟨.inl ⟨rfl, true, .none rfl, (fun gg b h => by cases h), fun h w => optUndef h, fun zβ za zw zc => ?_⟩, ?_⟩
        · exact fld_44_0 rfl ((show za.eval (.tmp 16) = za.tmps.getD 16 undef from rfl).trans (optSVal (zc.dep 3 16 (by kernel_rfl) (by decide)) rfl rfl)) ⟨_, rfl, Below.refl _ _, optDef zβ rfl⟩
        refine ⟨.inl ⟨rfl, true, .none rfl, (fun gg b h => by cases h), fun h w => optUndef h, fun zβ za zw zc => ?_⟩, ?_⟩
        · exact ld_4 rfl ((show za.eval (.tmp 17) = za.tmps.getD 17 undef from rfl).trans (optSVal (zc.dep 4 17 (by kernel_rfl) (by decide)) rfl rfl)) (bkeeps (bstep hb3 (zc.early (by kernel_rfl))) _ _ (hc13 x.2.2 (by first | omega | (simp; omega))).1) ⟨_, rfl, Below.refl _ _, optDef zβ rfl⟩
        refine ⟨.inl ⟨rfl, true, .none rfl, (fun gg b h => by cases h), fun h w => optUndef h, fun zβ za zw zc => ?_⟩, ?_⟩
        · exact wp_move rfl (zc.kn.ev rfl) ⟨_, rfl, Below.refl _ _, optDef zβ rfl⟩
        refine ⟨.inl ⟨rfl, true, .none rfl, (fun gg b h => by cases h), fun h w => optUndef h, fun zβ za zw zc => ?_⟩, ?_⟩
        · exact wp_move rfl (zc.kn.ev rfl) ⟨_, rfl, Below.refl _ _, optDef zβ rfl⟩
        refine ⟨.inl ⟨rfl, true, .none rfl, (fun gg b h => by cases h), fun h w => optUndef h, fun zβ za zw zc => ?_⟩, ?_⟩
        · exact ix_42 (k := x.2.2) rfl ((show za.eval (.tmp 19) = za.tmps.getD 19 undef from rfl).trans (optSVal (zc.dep 6 19 (by kernel_rfl) (by decide)) rfl rfl)) (ha12 x.2.2 (by first | omega | (simp; omega))) ((show za.eval (.tmp 20) = za.tmps.getD 20 undef from rfl).trans (optSVal (zc.dep 7 20 (by kernel_rfl) (by decide)) rfl rfl)) (by first | omega | (simp; omega)) ⟨_, rfl, Below.refl _ _, optDef zβ rfl⟩
        refine ⟨.inl ⟨rfl, true, .none rfl, (fun gg b h => by cases h), fun h w => optUndef h, fun zβ za zw zc => ?_⟩, ?_⟩
        · exact fld_44_1 rfl ((show za.eval (.tmp 21) = za.tmps.getD 21 undef from rfl).trans (optSVal (zc.dep 8 21 (by kernel_rfl) (by decide)) rfl rfl)) ⟨_, rfl, Below.refl _ _, optDef zβ rfl⟩
        refine ⟨.inl ⟨rfl, true, .none rfl, (fun gg b h => by cases h), fun h w => optUndef h, fun zβ za zw zc => ?_⟩, ?_⟩
        · exact ld_32 rfl ((show za.eval (.tmp 22) = za.tmps.getD 22 undef from rfl).trans (optSVal (zc.dep 9 22 (by kernel_rfl) (by decide)) rfl rfl)) (bkeeps (bstep hb3 (zc.early (by kernel_rfl))) _ _ (hc13 x.2.2 (by first | omega | (simp; omega))).2.1) (bkeeps (bstep hb3 (zc.early (by kernel_rfl))) _ _ (hc13 x.2.2 (by first | omega | (simp; omega))).2.2.1) ⟨_, rfl, Below.refl _ _, optDef zβ rfl⟩
        refine ⟨.inl ⟨rfl, true, .none rfl, (fun gg b h => by cases h), fun h w => optUndef h, fun zβ za zw zc => ?_⟩, ?_⟩
        · exact wp_move rfl (zc.kn.ev rfl) ⟨_, rfl, Below.refl _ _, optDef zβ rfl⟩
        refine ⟨.inl ⟨rfl, true, .none rfl, (fun gg b h => by cases h), fun h w => optUndef h, fun zβ za zw zc => ?_⟩, ?_⟩
        · exact wp_call (by kernel_rfl) rfl (hv2 ((show za.eval (.tmp 23) = za.tmps.getD 23 undef from rfl).trans (optSVal (zc.dep 10 23 (by kernel_rfl) (by decide)) rfl rfl)) ((show za.eval (.tmp 24) = za.tmps.getD 24 undef from rfl).trans (optSVal (zc.dep 11 24 (by kernel_rfl) (by decide)) rfl rfl))) (name_any s _ _ (lget l x.2.2).l _ _ (h.pl (by omega)) (IsT.below (bstep hb3 (zc.early (by kernel_rfl))) (InT.isT (hc13 x.2.2 (by first | omega | (simp; omega))).2.2.2.2.2.1)) (hs.below (bstep hb3 (zc.early (by kernel_rfl))))) (fun v w' h => ⟨v, rfl, h.2, optDef zβ (InT.mono (fun b hb _ => Nat.le_trans (zc.early (by kernel_rfl)).size hb) h.1)⟩)
        refine ⟨.inl ⟨rfl, true, .none rfl, (fun gg b h => by cases h), fun h w => optUndef h, fun zβ za zw zc => ?_⟩, ?_⟩
        · exact wp_move rfl (zc.kn.ev rfl) ⟨_, rfl, Below.refl _ _, optDef zβ rfl⟩
        refine ⟨.inl ⟨rfl, true, .none rfl, (fun gg b h => by cases h), fun h w => optUndef h, fun zβ za zw zc => ?_⟩, ?_⟩
        · exact wp_move rfl (zc.kn.ev rfl) ⟨_, rfl, Below.refl _ _, optDef zβ rfl⟩
        refine ⟨.inl ⟨rfl, true, .none rfl, (fun gg b h => by cases h), fun h w => optUndef h, fun zβ za zw zc => ?_⟩, ?_⟩
        · exact ix_42 (k := x.2.2) rfl ((show za.eval (.tmp 26) = za.tmps.getD 26 undef from rfl).trans (optSVal (zc.dep 13 26 (by kernel_rfl) (by decide)) rfl rfl)) (ha12 x.2.2 (by first | omega | (simp; omega))) ((show za.eval (.tmp 27) = za.tmps.getD 27 undef from rfl).trans (optSVal (zc.dep 14 27 (by kernel_rfl) (by decide)) rfl rfl)) (by first | omega | (simp; omega)) ⟨_, rfl, Below.refl _ _, optDef zβ rfl⟩
        refine ⟨.inl ⟨rfl, true, .none rfl, (fun gg b h => by cases h), fun h w => optUndef h, fun zβ za zw zc => ?_⟩, ?_⟩
        · exact fld_44_2 rfl ((show za.eval (.tmp 28) = za.tmps.getD 28 undef from rfl).trans (optSVal (zc.dep 15 28 (by kernel_rfl) (by decide)) rfl rfl)) ⟨_, rfl, Below.refl _ _, optDef zβ rfl⟩
        refine ⟨.inl ⟨rfl, true, .none rfl, (fun gg b h => by cases h), fun h w => optUndef h, fun zβ za zw zc => ?_⟩, ?_⟩
        · exact ld_32 rfl ((show za.eval (.tmp 29) = za.tmps.getD 29 undef from rfl).trans (optSVal (zc.dep 16 29 (by kernel_rfl) (by decide)) rfl rfl)) (bkeeps (bstep hb3 (zc.early (by kernel_rfl))) _ _ (hc13 x.2.2 (by first | omega | (simp; omega))).2.2.2.1) (bkeeps (bstep hb3 (zc.early (by kernel_rfl))) _ _ (hc13 x.2.2 (by first | omega | (simp; omega))).2.2.2.2.1) ⟨_, rfl, Below.refl _ _, optDef zβ rfl⟩
        refine ⟨.inl ⟨rfl, true, .none rfl, (fun gg b h => by cases h), fun h w => optUndef h, fun zβ za zw zc => ?_⟩, ?_⟩
        · exact wp_move rfl (zc.kn.ev rfl) ⟨_, rfl, Below.refl _ _, optDef zβ rfl⟩
        refine ⟨.inl ⟨rfl, true, .none rfl, (fun gg b h => by cases h), fun h w => optUndef h, fun zβ za zw zc => ?_⟩, ?_⟩
        · exact wp_call (by kernel_rfl) rfl (hv2 ((show za.eval (.tmp 30) = za.tmps.getD 30 undef from rfl).trans (optSVal (zc.dep 17 30 (by kernel_rfl) (by decide)) rfl rfl)) ((show za.eval (.tmp 31) = za.tmps.getD 31 undef from rfl).trans (optSVal (zc.dep 18 31 (by kernel_rfl) (by decide)) rfl rfl))) (name_any s _ _ (lget l x.2.2).r _ _ (h.pr (by omega)) (IsT.below (bstep hb3 (zc.early (by kernel_rfl))) (InT.isT (hc13 x.2.2 (by first | omega | (simp; omega))).2.2.2.2.2.2)) (hs.below (bstep hb3 (zc.early (by kernel_rfl))))) (fun v w' h => ⟨v, rfl, h.2, optDef zβ (InT.mono (fun b hb _ => Nat.le_trans (zc.early (by kernel_rfl)).size hb) h.1)⟩)
        refine ⟨.inl ⟨rfl, true, .none rfl, (fun gg b h => by cases h), fun h w => optUndef h, fun zβ za zw zc => ?_⟩, ?_⟩
        · have z1 := (optSMem (zc.dep 12 25 (by kernel_rfl) (by decide)) rfl rfl)
          obtain ⟨_, a1, c1, e1, _⟩ := z1.form
          rw [e1] at z1
          have z2 := (optSMem (zc.dep 19 32 (by kernel_rfl) (by decide)) rfl rfl)
          obtain ⟨_, a2, c2, e2, _⟩ := z2.form
          rw [e2] at z2
          exact build_44_0_1_2 rfl ((show za.eval (.tmp 18) = za.tmps.getD 18 undef from rfl).trans (optSVal (zc.dep 5 18 (by kernel_rfl) (by decide)) rfl rfl)) ((show za.eval (.tmp 25) = za.tmps.getD 25 undef from rfl).trans e1) ((show za.eval (.tmp 32) = za.tmps.getD 32 undef from rfl).trans e2) ⟨_, rfl, Below.refl _ _, optDef zβ (newL_mk (x := ((lget l x.2.2).nm s)) z1 z2)⟩
        refine ⟨.inl ⟨rfl, true, .none rfl, (fun gg b h => by cases h), fun h w => optUndef h, fun zβ za zw zc => ?_⟩, ?_⟩
        · have zv := (optSMem (zc.dep 20 33 (by kernel_rfl) (by decide)) rfl rfl)
          obtain ⟨a1, a2, c1, c2, e1⟩ := zv.parts
          rw [e1] at zv
          exact row_42_1 rfl ((show za.eval (.tmp 33) = za.tmps.getD 33 undef from rfl).trans e1) ⟨_, rfl, balloc _ _, optDef zβ ⟨_, _, rfl, zc.chg.size, Blk.new' rfl, eltL.below' (balloc _ _) zv.elt⟩⟩
        refine ⟨.inr (.inl ⟨rfl, rfl, fun za zw zc => ?_⟩), ?_⟩
        · obtain ⟨g1, cs, e1, hg1, hB1, hin⟩ := (optSMem (zc.dep 21 34 (by kernel_rfl) (by decide)) rfl rfl)
          exact wp_appE (E := eltL) (size := 5) (bytes := 72) (z := .agg #[.bool false, .int .i64 0, .slice none 0 0, .int .i64 0, .slice none 0 0]) rfl Try.underlying42 (by kernel_rfl) rfl (by decide) rfl ((show za.eval (.tmp 13) = za.tmps.getD 13 undef from rfl).trans (optSVal (zc.dep 0 13 (by kernel_rfl) (by decide)) rfl rfl)) ((show za.eval (.tmp 34) = za.tmps.getD 34 undef from rfl).trans e1) (ho4.below zc.below) hB1 (eltL.mono (fun b hb _ => ⟨by omega, fun e => by have z := (ho4.lt b e).2; omega⟩) hin) (by omega) (by omega) (by have z := zc.below.size; omega) (fun ra rc w' h1 h2 _ => ⟨ra, rc, rfl, h1, h2⟩)
        refine ⟨.inr (.inr ⟨rfl, rfl, 35, by kernel_rfl, rfl⟩), ?_⟩
        exact trivial
      · intro za w14 ra17 rc18 zh zv zv2 hG15 hc16 zu
        have zh := zh.cons (d := 5) zv2
        have hb19 := chg_below hb3 hc16 (fun b hb => (fun h => by have h := hSlo _ h; (try dsimp only at *); omega))
        clear zu
        refine (show WE _ [(0, .slice a l.length c), (1, .slice sa s.length sc), (4, .slice none 0 0), (5, .slice ra17 ((x.2.2 + 1)) rc18), (6, .int .i64 (((x.2.2 : Nat) : Int))), (10, .bool ((decide ((((x.2.2 : Nat) : Int) : Int) < (((l.length : Nat) : Int) : Int)))))] w14 _ .normal from ?_) za (zh.sub ⟨rfl, rfl, rfl, rfl, rfl, rfl, trivial⟩)
        refine WE.blockNormal ?_
        refine WE.next ?_
        refine WC.region ?_
        refine WL.val (.int .i64 (((x.2.2 : Nat) : Int))) rfl rfl rfl (fun za zC zh zk => wp_move rfl (zh.ev rfl) zk) ?_
        refine WL.val (.int .i64 ((((x.2.2 + 1) : Nat) : Int))) rfl rfl rfl (fun za zC zh zk => addb_3 rfl (zh.ev rfl) (zh.ev rfl) (wrap_eq (by omega) (by omega) (by omega)) zk) ?_
        refine WL.val (.int .i64 ((((x.2.2 + 1) : Nat) : Int))) rfl rfl rfl (fun za zC zh zk => wp_assign rfl (zh.ev rfl) zk) ?_
        refine WL.nil (WE.sub (K' := [(0, .slice a l.length c), (1, .slice sa s.length sc), (4, .slice none 0 0), (5, .slice ra17 ((x.2.2 + 1)) rc18), (6, .int .i64 ((((x.2.2 + 1) : Nat) : Int))), (10, .bool ((decide ((((x.2.2 : Nat) : Int) : Int) < (((l.length : Nat) : Int) : Int)))))]) ⟨rfl, rfl, rfl, rfl, rfl, rfl, trivial⟩ ?_)
        refine WE.round ((ra17, rc18, x.2.2 + 1)) ⟨rfl, rfl, rfl, rfl, rfl, trivial⟩ ?_ ?_
        · exact ⟨by (try dsimp only at *); omega, hb19.size, hb19, (by rw [← take_li (by (try dsimp only at *); omega)]; exact hG15)⟩
        · dsimp only; omega
    · have h5 : ¬ ((((x.2.2 : Nat) : Int) : Int) < (((l.length : Nat) : Int) : Int)) := by simpa using h5
      refine WC.exit ?_
      refine WE.thenExit ?_
      refine WE.thenExit ?_
      refine WE.blockIs rfl ?_
      refine WE.next ?_
      refine WC.seq ?_
      refine WC.region ?_
      refine WL.val (.slice x.1 x.2.2 x.2.1) rfl rfl rfl (fun za zC zh zk => wp_move rfl (zh.ev rfl) zk) ?_
      refine WL.val (.slice x.1 x.2.2 x.2.1) rfl rfl rfl (fun za zC zh zk => wp_assign rfl (zh.ev rfl) zk) ?_
      refine WL.nil (WE.sub (K' := [(0, .slice a l.length c), (1, .slice sa s.length sc), (4, .slice x.1 x.2.2 x.2.1), (5, .slice x.1 x.2.2 x.2.1), (6, .int .i64 (((x.2.2 : Nat) : Int))), (10, .bool ((decide ((((x.2.2 : Nat) : Int) : Int) < (((l.length : Nat) : Int) : Int)))))]) ⟨rfl, rfl, rfl, rfl, rfl, rfl, trivial⟩ ?_)
      refine WE.next ?_
      refine WC.ret ?_
      refine WE.ret1 rfl rfl ?_
      have z := ho4
      rw [List.take_of_length_le (by omega)] at z
      obtain ⟨e, z⟩ := newC_row (w0 := w) z (by omega)
      exact ⟨_, rfl, ⟨_, _, by rw [e, List.length_map], z⟩, hb3⟩

end Go.Proofs.Ytgechlgdnnpoeaa
