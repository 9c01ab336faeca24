/- The walks through Add: the program and the document. -/
import Derived.Test.YtbnjppmmhhjjbaaDoorSgnAdd
import Derived.Test.YtbnjppmmhhjjbaaDoorAddPlain
import Derived.Test.YtbnjppmmhhjjbaaDoorGrowR
namespace Go.Proofs.YtbnjppmmhhjjbaaDoor
open Go.RowKit Go
set_option linter.unusedVariables false
set_option linter.unusedSimpArgs false

theorem isSig_own {w : World} {S : Nat → Prop} {ra : Option Addr} {rc n : Nat} {L : List Sy} (h : Own w S 26 3 ra rc n (syCells L)) (hl : ∀ x ∈ L, I64 x.ar ∧ x.name.size ≤ maxLen) : IsSig w L (.agg #[.slice ra n rc]) := by
  obtain ⟨rfl, h1, h2, h3⟩ := sys_of_own h.1 hl
  exact ⟨_, _, rfl, h1, h2, h3⟩
theorem own_len {w : World} {S : Nat → Prop} {ra : Option Addr} {rc n : Nat} {L : List Sy} (h : Own w S 26 3 ra rc n (syCells L)) : n = L.length := by
  have := h.1.1; rw [syCells_len] at this; omega
theorem isSig_nil {w : World} : IsSig w [] (.agg #[.slice none 0 0]) := ⟨_, _, rfl, Nat.le_refl _, by unfold maxLen; omega, fun k hk => by simp at hk⟩
theorem isSig_blk {w : World} {L : List Sy} {v : Value} (h : IsSig w L v) : ∃ a n c, v = .agg #[.slice a n c] ∧ n = L.length := by
  obtain ⟨a, c, rfl, _⟩ := h; exact ⟨_, _, _, rfl, rfl⟩
theorem add1 {s l : List Sy} (h : sigCheck s ≠ (0 : Int)) : addRes s l = ([], sigCheck s) := by unfold addRes; rw [if_pos h]
theorem add2 {s l : List Sy} {k : Nat} (h : ¬ sigCheck s ≠ (0 : Int)) (hk : k < l.length) (hE : addErr l = addErr (l.drop k)) (h1 : (sget l k).one ≠ (0 : Int) ∧ ¬ (sget l k = truth)) : addRes s l = ([], (sget l k).one) := by
  have e : addErr l = (sget l k).one := by rw [hE, addErr_step hk, if_pos h1]
  unfold addRes; rw [if_neg h, if_pos (by rw [e]; exact h1.1), e]
theorem add3 {l : List Sy} {k : Nat} (hk : ¬ k < l.length) (hE : addErr l = addErr (l.drop k)) : addErr l = 0 := by
  rw [hE, List.drop_of_length_le (by omega)]; rfl
theorem add4 {s l : List Sy} {k : Nat} (h : ¬ sigCheck s ≠ (0 : Int)) (hE : addErr l = 0) (hk : ¬ k < l.length) (h1 : 96 < (addL s (l.take k)).length) : addRes s l = ([], 3) := by
  rw [List.take_of_length_le (by omega)] at h1
  unfold addRes; rw [if_neg h, if_neg (by rw [hE]; decide), if_pos h1]
theorem add5 {s l : List Sy} {k : Nat} (h : ¬ sigCheck s ≠ (0 : Int)) (hE : addErr l = 0) (hk : ¬ k < l.length) (h1 : ¬ 96 < (addL s (l.take k)).length) : addRes s l = (addL s (l.take k), 0) := by
  rw [List.take_of_length_le (by omega)] at *
  unfold addRes; rw [if_neg h, if_neg (by rw [hE]; decide), if_neg h1]

set_option maxRecDepth 100000 in
set_option maxHeartbeats 1000000 in
theorem padd_any (L l : List Sy) (w : World) (v : Value) (a2 : Option Addr) (c2 : Nat) (hzL : L.length ≤ 1073741824) (hz : l.length ≤ 1073741824) (hv : IsSig w L v) (hc2 : l.length ≤ c2) (hm2 : c2 ≤ maxLen) (hl2 : IsSys w l a2) : Calls Tryd.prog 9 #[v, .slice a2 l.length c2] w (Ret fun v' w' => ∃ u, v' = .tuple #[u, .int .i64 (addRes L l).2] ∧ IsSig w' (addRes L l).1 u ∧ Below w.heap.size w w') := by
  obtain ⟨a, c, rfl, hc, hm, hl⟩ := hv
  unfold maxLen at hm2
  have hwL := hl.wfs
  have hwl := hl2.wfs
  have hA := fun k => addL_mem (P := fun x => I64 x.ar ∧ x.name.size ≤ maxLen) (l := l.take k) hwL (fun x hx => hwl x (mem_take hx))
  refine Calls.walk (l := [.agg #[.slice a L.length c], .slice a2 l.length c2]) Tryd.func9 rfl (by kernel_rfl) ?_
  refine WC.sub (K' := [(0, .agg #[.slice a L.length c]), (1, .slice a2 l.length c2)]) ⟨rfl, rfl, trivial⟩ ?_
  refine WC.seq ?_
  refine WC.region ?_
  refine WL.step (post := NewBlk w 24 #[.slice a L.length c]) rfl rfl rfl (fun za zC zh zk => box_24 rfl (zh.ev rfl) (zk _ _ (newBlk _ _ _))) ?_
  rintro _ w1 ⟨g2, rfl, hg3, hB4, hb5, hz6⟩
  have hl7 : w.heap.size ≤ g2 := by omega
  refine WL.step (post := NewBlk w1 24 #[.slice none 0 0]) rfl rfl rfl (fun za zC zh zk => alloc_24 rfl (zk _ _ (newBlk _ _ _))) ?_
  rintro _ w8 ⟨g9, rfl, hg10, hB11, hb12, hz13⟩
  have hl14 : g2 < g9 := by have z1 := hB4.lt; omega
  have hl15 : w.heap.size ≤ g9 := by have z2 := (hb5).size; omega
  refine WL.val (.int .i64 0) rfl rfl rfl (fun za zC zh zk => wp_assign rfl (zh.ev rfl) zk) ?_
  refine WL.nil (WE.sub (K' := [(0, .agg #[.slice a L.length c]), (1, .slice a2 l.length c2), (2, .pointer (some ⟨g2, 0, none⟩)), (4, .pointer (some ⟨g9, 0, none⟩)), (5, .int .i64 0)]) ⟨rfl, rfl, rfl, rfl, rfl, trivial⟩ ?_)
  refine WE.next ?_
  refine WC.seq ?_
  refine WC.seq ?_
  refine WC.region ?_
  have hB16 := hB4.below hb12
  refine WL.val (.agg #[.slice a L.length c]) rfl rfl rfl (fun za zC zh zk => ld_24 rfl (zh.ev rfl) ((hB16.cell 0).trans rfl) zk) ?_
  have hb17 : Below w.heap.size w w8 := (bstep hb5 hb12)
  refine WL.call rfl rfl rfl (fun za zh zC => wp_call (by kernel_rfl) rfl (hv1 (zh.ev rfl))) (pcheck_any L _ _ (IsSig.below hb17 ⟨a, c, rfl, hc, hm, hl⟩)) ?_
  rintro _ w18 ⟨rfl, hbc⟩
  refine WL.val (.int .i64 ((sigCheck L))) rfl rfl rfl (fun za zC zh zk => wp_assign rfl (zh.ev rfl) zk) ?_
  refine WL.nil (WE.sub (K' := [(0, .agg #[.slice a L.length c]), (1, .slice a2 l.length c2), (2, .pointer (some ⟨g2, 0, none⟩)), (4, .pointer (some ⟨g9, 0, none⟩)), (5, .int .i64 0), (6, .int .i64 ((sigCheck L)))]) ⟨rfl, rfl, rfl, rfl, rfl, rfl, trivial⟩ ?_)
  refine WE.next ?_
  refine WC.seq ?_
  refine WC.region ?_
  refine WL.val (.int .i64 ((sigCheck L))) rfl rfl rfl (fun za zC zh zk => wp_move rfl (zh.ev rfl) zk) ?_
  refine WL.val (.bool ((((sigCheck L) : Int) != (0 : Int)))) rfl rfl rfl (fun za zC zh zk => neq_27 rfl (zh.ev rfl) (zh.ev rfl) zk) ?_
  refine WL.nil (WE.sub (K' := [(0, .agg #[.slice a L.length c]), (1, .slice a2 l.length c2), (2, .pointer (some ⟨g2, 0, none⟩)), (4, .pointer (some ⟨g9, 0, none⟩)), (5, .int .i64 0), (6, .int .i64 ((sigCheck L))), (18, .bool ((((sigCheck L) : Int) != (0 : Int))))]) ⟨rfl, rfl, rfl, rfl, rfl, rfl, rfl, trivial⟩ ?_)
  refine WE.next ?_
  refine WC.cond rfl (fun h19 => ?_) (fun h19 => ?_)
  · have h19 : ((sigCheck L) : Int) ≠ (0 : Int) := by simpa using h19
    refine WC.seq ?_
    refine WC.region ?_
    refine WL.val (.agg #[.slice none 0 0]) rfl rfl rfl (fun za zC zh zk => build_24_ rfl  zk) ?_
    refine WL.val (.int .i64 ((sigCheck L))) rfl rfl rfl (fun za zC zh zk => wp_move rfl (zh.ev rfl) zk) ?_
    have hB20 := hB11.below hbc
    refine WL.step (post := fun _ w' => Upd g9 w18 w' ∧ Blk w' g9 24 #[.slice none 0 0]) rfl rfl rfl (fun za zC zh zk => st_24 rfl (zh.ev rfl) (zh.ev rfl) rfl hB20 (by first | decide | simp) (fun v => zk v _ ⟨Upd.at_ _ _ _ _, hB20.set_ 0 _⟩)) ?_
    rintro v24 w21 ⟨hu22, hB23⟩
    have hb25 : Below w.heap.size w w18 := (bstep hb17 hbc)
    have hb26 := upd_below hb25 hu22 (by omega)
    have hB27 := hB16.below hbc
    have hB28 := upd_blk hB27 hu22 (by omega)
    refine WL.val (.int .i64 ((sigCheck L))) rfl rfl rfl (fun za zC zh zk => wp_assign rfl (zh.ev rfl) zk) ?_
    refine WL.nil (WE.sub (K' := [(0, .agg #[.slice a L.length c]), (1, .slice a2 l.length c2), (2, .pointer (some ⟨g2, 0, none⟩)), (4, .pointer (some ⟨g9, 0, none⟩)), (5, .int .i64 ((sigCheck L))), (6, .int .i64 ((sigCheck L))), (18, .bool ((((sigCheck L) : Int) != (0 : Int))))]) ⟨rfl, rfl, rfl, rfl, rfl, rfl, rfl, trivial⟩ ?_)
    refine WE.next ?_
    refine WC.ret ?_
    refine WE.thenRet ?_
    refine WE.retAny (v := .tuple #[.agg #[.slice none 0 0], .int .i64 ((sigCheck L))]) (fun za zh => ?_) ?_
    · have z0 : za.tmps[4]?.getD undef = .pointer (some ⟨g9, 0, none⟩) := by rw [← Array.getD_eq_getD_getElem?]; exact zh.knows 4 _ rfl
      have y0_0 : w21.cell? ⟨g9, 0, none⟩ = some (.slice none 0 0) := ((hB23.cell 0).trans rfl)
      have z1 : za.tmps[5]?.getD undef = .int .i64 ((sigCheck L)) := by rw [← Array.getD_eq_getD_getElem?]; exact zh.knows 5 _ rfl
      simp [results, Tryd.results9, z0, y0_0, z1, go_sem]
    · refine ⟨_, rfl, ?_⟩
      have e : addRes L l = ([], (sigCheck L)) := by first | exact add1 ‹_› | exact add2 (k := k) ‹_› (by omega) hE ‹_› | exact add4 (k := x.2.2) ‹_› hE0 (by omega) (by omega)
      rw [e]
      refine ⟨_, rfl, isSig_nil, hb26⟩
  · have h19 : ¬ (((sigCheck L) : Int) ≠ (0 : Int)) := by simpa using h19
    refine WC.skip ?_
    refine WE.next ?_
    refine WC.seq ?_
    refine WC.region ?_
    refine WL.val (.pointer (some ⟨g2, 0, none⟩)) rfl rfl rfl (fun za zC zh zk => fld_24_0 rfl (zh.ev rfl) zk) ?_
    have hB29 := hB16.below hbc
    refine WL.val (.slice a L.length c) rfl rfl rfl (fun za zC zh zk => ld_22 rfl (zh.ev rfl) ((hB29.cell 0).trans rfl) zk) ?_
    have hb30 : Below w.heap.size w w18 := (bstep hb17 hbc)
    have hB31 := hB11.below hbc
    refine WL.call rfl rfl rfl (fun za zh zC => wp_call (by kernel_rfl) rfl (hv1 (zh.ev rfl))) (clone_any L _ _ _ hc hm (by omega) (hl.below hb30)) ?_
    rintro _ w32 ⟨cra, crc, rfl, hcl, hbc⟩
    have hr33 := Own.of hcl
    have hl34 : g2 < w18.heap.size := by have z := hB29.lt; omega
    have hl35 : g9 < w18.heap.size := by have z := hB31.lt; omega
    have hl36 : w.heap.size ≤ w18.heap.size := (hb30).size
    refine WL.val (.agg #[.slice cra L.length crc]) rfl rfl rfl (fun za zC zh zk => build_24_0 rfl (zh.ev rfl) zk) ?_
    refine WL.step (post := NewBlk w32 24 #[.slice none 0 0]) rfl rfl rfl (fun za zC zh zk => alloc_24 rfl (zk _ _ (newBlk _ _ _))) ?_
    rintro _ w37 ⟨g38, rfl, hg39, hB40, hb41, hz42⟩
    have hl43 : g2 < g38 := by have z1 := hB29.lt; have z2 := (hbc).size; omega
    have hl44 : g9 < g38 := by have z1 := hB31.lt; have z2 := (hbc).size; omega
    have hr45 := Own.mono (S' := (fun b => w18.heap.size ≤ b ∧ b ≠ g38)) hr33 (fun b h1 h2 => by (try dsimp only at *); omega)
    have hb46 : Below w.heap.size w w32 := (bstep hb30 hbc)
    have hl47 : w.heap.size ≤ g38 := by have z2 := (hb46).size; omega
    refine WL.step (post := fun _ w' => Upd g38 w37 w' ∧ Blk w' g38 24 #[.slice cra L.length crc]) rfl rfl rfl (fun za zC zh zk => st_24 rfl (zh.ev rfl) (zh.ev rfl) rfl hB40 (by first | decide | simp) (fun v => zk v _ ⟨Upd.at_ _ _ _ _, hB40.set_ 0 _⟩)) ?_
    rintro v51 w48 ⟨hu49, hB50⟩
    have hb52 : Below w.heap.size w w37 := (bstep hb46 hb41)
    have hb53 := upd_below hb52 hu49 (by omega)
    have hb55 : Below w18.heap.size w18 w37 := (bstep hbc hb41)
    have hB54 := hB29.below hb55
    have hB56 := upd_blk hB54 hu49 (by omega)
    have hB57 := hB31.below hb55
    have hB58 := upd_blk hB57 hu49 (by omega)
    have hr59 := hr45.below hb41
    have hr60 := hr59.upd hu49 (by (try dsimp only at *); omega)
    refine WL.nil (WE.sub (K' := [(0, .agg #[.slice a L.length c]), (1, .slice a2 l.length c2), (2, .pointer (some ⟨g2, 0, none⟩)), (4, .pointer (some ⟨g9, 0, none⟩)), (5, .int .i64 0), (6, .int .i64 ((sigCheck L))), (7, .pointer (some ⟨g38, 0, none⟩)), (18, .bool ((((sigCheck L) : Int) != (0 : Int))))]) ⟨rfl, rfl, rfl, rfl, rfl, rfl, rfl, rfl, trivial⟩ ?_)
    refine WE.next ?_
    refine WC.seq ?_
    refine WC.seq ?_
    refine WC.region ?_
    refine WL.val (.slice a2 l.length c2) rfl rfl rfl (fun za zC zh zk => wp_move rfl (zh.ev rfl) zk) ?_
    refine WL.val (.int .i64 (((l.length : Nat) : Int))) rfl rfl rfl (fun za zC zh zk => len_22 rfl (zh.ev rfl) zk) ?_
    refine WL.val (.int .i64 0) rfl rfl rfl (fun za zC zh zk => wp_move rfl (zh.ev rfl) zk) ?_
    refine WL.nil (WE.sub (K' := [(0, .agg #[.slice a L.length c]), (1, .slice a2 l.length c2), (2, .pointer (some ⟨g2, 0, none⟩)), (4, .pointer (some ⟨g9, 0, none⟩)), (5, .int .i64 0), (6, .int .i64 ((sigCheck L))), (7, .pointer (some ⟨g38, 0, none⟩)), (18, .bool ((((sigCheck L) : Int) != (0 : Int)))), (25, .slice a2 l.length c2), (26, .int .i64 (((l.length : Nat) : Int))), (27, .int .i64 0)]) ⟨rfl, rfl, rfl, rfl, rfl, rfl, rfl, rfl, rfl, rfl, rfl, trivial⟩ ?_)
    refine WE.next ?_
    refine WC.block ?_
    refine WC.loop (X := Nat) (fun k => l.length - k) (fun k => [(0, .agg #[.slice a L.length c]), (1, .slice a2 l.length c2), (2, .pointer (some ⟨g2, 0, none⟩)), (4, .pointer (some ⟨g9, 0, none⟩)), (6, .int .i64 ((sigCheck L))), (7, .pointer (some ⟨g38, 0, none⟩)), (18, .bool ((((sigCheck L) : Int) != (0 : Int)))), (25, .slice a2 l.length c2), (26, .int .i64 (((l.length : Nat) : Int))), (27, .int .i64 (((k : Nat) : Int)))]) (fun k w61 => k ≤ l.length ∧ addErr l = addErr (l.drop k) ∧ Below w.heap.size w w61 ∧ Blk w61 g2 24 #[.slice a L.length c] ∧ Blk w61 g9 24 #[.slice none 0 0] ∧ Blk w61 g38 24 #[.slice cra L.length crc] ∧ w18.heap.size ≤ (w61).heap.size ∧ Own w61 (fun b => w18.heap.size ≤ b ∧ b ≠ g38) 26 3 cra crc L.length ((syCells L))) 0 ⟨rfl, rfl, rfl, rfl, rfl, rfl, rfl, rfl, rfl, rfl, trivial⟩ ?_ ?_
    · exact ⟨Nat.zero_le _, rfl, hb53, hB56, hB58, hB50, (by have z1 := (Nat.le_trans hb55.size (Nat.le_of_eq hu49.size.symm)); omega), hr60⟩
    · rintro k w61 ⟨hk, hE, hb62, hB63, hB64, hB65, hf67, hr66⟩
      refine WC.seq ?_
      refine WC.region ?_
      refine WL.val (.bool ((decide ((((k : Nat) : Int) : Int) < (((l.length : Nat) : Int) : Int))))) rfl rfl rfl (fun za zC zh zk => lss_3 rfl (zh.ev rfl) (zh.ev rfl) zk) ?_
      refine WL.nil (WE.sub (K' := [(0, .agg #[.slice a L.length c]), (1, .slice a2 l.length c2), (2, .pointer (some ⟨g2, 0, none⟩)), (4, .pointer (some ⟨g9, 0, none⟩)), (6, .int .i64 ((sigCheck L))), (7, .pointer (some ⟨g38, 0, none⟩)), (18, .bool ((((sigCheck L) : Int) != (0 : Int)))), (25, .slice a2 l.length c2), (26, .int .i64 (((l.length : Nat) : Int))), (27, .int .i64 (((k : Nat) : Int))), (28, .bool ((decide ((((k : Nat) : Int) : Int) < (((l.length : Nat) : Int) : Int)))))]) ⟨rfl, rfl, rfl, rfl, rfl, rfl, rfl, rfl, rfl, rfl, rfl, trivial⟩ ?_)
      refine WE.next ?_
      refine WC.seq ?_
      refine WC.cond rfl (fun h68 => ?_) (fun h68 => ?_)
      · have h68 : (((k : Nat) : Int) : Int) < (((l.length : Nat) : Int) : Int) := by simpa using h68
        refine WC.skip ?_
        refine WE.next ?_
        refine WC.seq ?_
        refine WC.block ?_
        refine WC.seq ?_
        refine WC.region ?_
        obtain ⟨b69, o70, ha71, hc72⟩ := IsSys.open hl2
        refine WL.val (.pointer (some ⟨b69, o70 + k * 3, none⟩)) rfl rfl rfl (fun za zC zh zk => ix_22 (k := k) rfl (zh.ev rfl) (ha71 k (by first | omega | (simp; omega))) (zh.ev rfl) (by first | omega | (simp; omega)) zk) ?_
        refine WL.val (.agg #[.string ((sget l k).name), .int .i64 ((sget l k).ar), .bool ((sget l k).pred)]) rfl rfl rfl (fun za zC zh zk => ld_26 rfl (zh.ev rfl) (bkeeps hb62 _ _ (hc72 k (by first | omega | (simp; omega))).1) (bkeeps hb62 _ _ (hc72 k (by first | omega | (simp; omega))).2.1) (bkeeps hb62 _ _ (hc72 k (by first | omega | (simp; omega))).2.2) zk) ?_
        refine WL.step (post := NewBlk w61 26 #[.string (⟨#[]⟩), .int .i64 0, .bool false]) rfl rfl rfl (fun za zC zh zk => alloc_26 rfl (zk _ _ (newBlk _ _ _))) ?_
        rintro _ w73 ⟨g74, rfl, hg75, hB76, hb77, hz78⟩
        have hl79 : g2 < g74 := by have z1 := hB63.lt; omega
        have hl80 : g9 < g74 := by have z1 := hB64.lt; omega
        have hl81 : g38 < g74 := by have z1 := hB65.lt; omega
        have hr82 := Own.mono (S' := (fun b => w18.heap.size ≤ b ∧ b ≠ g38 ∧ b ≠ g74)) hr66 (fun b h1 h2 => by (try dsimp only at *); omega)
        have hl83 : w.heap.size ≤ g74 := by have z2 := (hb62).size; omega
        refine WL.step (post := fun _ w' => Upd g74 w73 w' ∧ Blk w' g74 26 #[.string ((sget l k).name), .int .i64 ((sget l k).ar), .bool ((sget l k).pred)]) rfl rfl rfl (fun za zC zh zk => st_26 rfl (zh.ev rfl) (zh.ev rfl) rfl rfl rfl hB76 (by first | decide | simp) (fun v => zk v _ ⟨((Upd.at_ _ _ _ _).trans (Upd.at_ _ _ _ _)).trans (Upd.at_ _ _ _ _), ((hB76.set_ 0 _).set_ 1 _).set_ 2 _⟩)) ?_
        rintro v87 w84 ⟨hu85, hB86⟩
        have hb88 : Below w.heap.size w w73 := (bstep hb62 hb77)
        have hb89 := upd_below hb88 hu85 (by omega)
        have hB90 := hB63.below hb77
        have hB91 := upd_blk hB90 hu85 (by omega)
        have hB92 := hB64.below hb77
        have hB93 := upd_blk hB92 hu85 (by omega)
        have hB94 := hB65.below hb77
        have hB95 := upd_blk hB94 hu85 (by omega)
        have hr96 := hr82.below hb77
        have hr97 := hr96.upd hu85 (by (try dsimp only at *); omega)
        refine WL.nil (WE.sub (K' := [(0, .agg #[.slice a L.length c]), (1, .slice a2 l.length c2), (2, .pointer (some ⟨g2, 0, none⟩)), (4, .pointer (some ⟨g9, 0, none⟩)), (6, .int .i64 ((sigCheck L))), (7, .pointer (some ⟨g38, 0, none⟩)), (9, .pointer (some ⟨g74, 0, none⟩)), (18, .bool ((((sigCheck L) : Int) != (0 : Int)))), (25, .slice a2 l.length c2), (26, .int .i64 (((l.length : Nat) : Int))), (27, .int .i64 (((k : Nat) : Int))), (28, .bool ((decide ((((k : Nat) : Int) : Int) < (((l.length : Nat) : Int) : Int)))))]) ⟨rfl, rfl, rfl, rfl, rfl, rfl, rfl, rfl, rfl, rfl, rfl, rfl, trivial⟩ ?_)
        refine WE.next ?_
        refine WC.seq ?_
        refine WC.region ?_
        refine WL.val (.agg #[.string ((sget l k).name), .int .i64 ((sget l k).ar), .bool ((sget l k).pred)]) rfl rfl rfl (fun za zC zh zk => ld_26 rfl (zh.ev rfl) ((hB86.cell 0).trans rfl) ((hB86.cell 1).trans rfl) ((hB86.cell 2).trans rfl) zk) ?_
        refine WL.call rfl rfl rfl (fun za zh zC => wp_call (by kernel_rfl) rfl (hv1 (zh.ev rfl))) (pone_any (sget l k) _ (hwl (sget l k) (sget_mem (by omega))).2) ?_
        rintro _ w98 ⟨rfl, hbo⟩
        refine WL.val (.int .i64 ((sget l k).one)) rfl rfl rfl (fun za zC zh zk => wp_assign rfl (zh.ev rfl) zk) ?_
        refine WL.nil (WE.sub (K' := [(0, .agg #[.slice a L.length c]), (1, .slice a2 l.length c2), (2, .pointer (some ⟨g2, 0, none⟩)), (4, .pointer (some ⟨g9, 0, none⟩)), (6, .int .i64 ((sigCheck L))), (7, .pointer (some ⟨g38, 0, none⟩)), (9, .pointer (some ⟨g74, 0, none⟩)), (10, .int .i64 ((sget l k).one)), (18, .bool ((((sigCheck L) : Int) != (0 : Int)))), (25, .slice a2 l.length c2), (26, .int .i64 (((l.length : Nat) : Int))), (27, .int .i64 (((k : Nat) : Int))), (28, .bool ((decide ((((k : Nat) : Int) : Int) < (((l.length : Nat) : Int) : Int)))))]) ⟨rfl, rfl, rfl, rfl, rfl, rfl, rfl, rfl, rfl, rfl, rfl, rfl, rfl, trivial⟩ ?_)
        refine WE.next ?_
        refine WC.seq ?_
        have hB99 := hB86.below hbo
        refine WC.opt [(true, .val (.int .i64 ((sget l k).one))), (true, .val (.bool ((((sget l k).one : Int) != (0 : Int))))), (true, .val (.bool ((((sget l k).one : Int) != (0 : Int))))), ((true && (((sget l k).one : Int) != (0 : Int))), .val (.agg #[.string ((sget l k).name), .int .i64 ((sget l k).ar), .bool ((sget l k).pred)])), ((true && (((sget l k).one : Int) != (0 : Int))), .val (.agg #[.string truth.name, .int .i64 truth.ar, .bool truth.pred])), ((true && (((sget l k).one : Int) != (0 : Int))), .val (.bool ((!decide ((sget l k) = truth))))), (true, .val (.bool (((((sget l k).one : Int) != (0 : Int)) && (!decide ((sget l k) = truth))))))] [(0, .agg #[.slice a L.length c]), (1, .slice a2 l.length c2), (2, .pointer (some ⟨g2, 0, none⟩)), (4, .pointer (some ⟨g9, 0, none⟩)), (6, .int .i64 ((sigCheck L))), (7, .pointer (some ⟨g38, 0, none⟩)), (9, .pointer (some ⟨g74, 0, none⟩)), (10, .int .i64 ((sget l k).one)), (18, .bool ((((sigCheck L) : Int) != (0 : Int)))), (25, .slice a2 l.length c2), (26, .int .i64 (((l.length : Nat) : Int))), (27, .int .i64 (((k : Nat) : Int))), (28, .bool ((decide ((((k : Nat) : Int) : Int) < (((l.length : Nat) : Int) : Int)))))] ⟨rfl, rfl, rfl, rfl, rfl, rfl, rfl, rfl, rfl, rfl, rfl, rfl, rfl, trivial⟩ (by kernel_rfl) (by kernel_rfl) (by kernel_rfl) ?_ ?_
        · refine ⟨⟨true, .none rfl, fun h w => optUndef h, fun zβ za zw zc => ?_⟩, ?_⟩
          · exact wp_move rfl (zc.kn.ev rfl) ⟨_, rfl, Below.refl _ _, optDef zβ rfl⟩
          refine ⟨⟨true, .none rfl, fun h w => optUndef h, fun zβ za zw zc => ?_⟩, ?_⟩
          · exact neq_27 rfl ((show za.eval (.tmp 33) = za.tmps.getD 33 undef from rfl).trans (optVal (zc.dep 0 33 (by kernel_rfl)) rfl rfl)) (zc.kn.ev rfl) ⟨_, rfl, Below.refl _ _, optDef zβ rfl⟩
          refine ⟨⟨true, .none rfl, fun h w => optUndef h, fun zβ za zw zc => ?_⟩, ?_⟩
          · exact wp_move rfl ((show za.eval (.tmp 34) = za.tmps.getD 34 undef from rfl).trans (optVal (zc.dep 1 34 (by kernel_rfl)) rfl rfl)) ⟨_, rfl, Below.refl _ _, optDef zβ rfl⟩
          refine ⟨⟨(true && (((sget l k).one : Int) != (0 : Int))), .yes (c := (((sget l k).one : Int) != (0 : Int))) (d := true) rfl (fun v w h => h), fun h w => optUndef h, fun zβ za zw zc => ?_⟩, ?_⟩
          · exact ld_26 rfl (zc.kn.ev rfl) (bkeeps zc.below _ _ ((hB99.cell 0).trans rfl)) (bkeeps zc.below _ _ ((hB99.cell 1).trans rfl)) (bkeeps zc.below _ _ ((hB99.cell 2).trans rfl)) ⟨_, rfl, Below.refl _ _, optDef zβ rfl⟩
          refine ⟨⟨(true && (((sget l k).one : Int) != (0 : Int))), .yes (c := (((sget l k).one : Int) != (0 : Int))) (d := true) rfl (fun v w h => h), fun h w => optUndef h, fun zβ za zw zc => ?_⟩, ?_⟩
          · exact wp_call (by kernel_rfl) rfl (hv0) (ptruth_any _) (fun v w' h => ⟨v, rfl, h.2, optDef zβ h.1⟩)
          refine ⟨⟨(true && (((sget l k).one : Int) != (0 : Int))), .yes (c := (((sget l k).one : Int) != (0 : Int))) (d := true) rfl (fun v w h => h), fun h w => optUndef h, fun zβ za zw zc => ?_⟩, ?_⟩
          · exact wp_neq_sy (s := (sget l k)) (t := truth) rfl ((show za.eval (.tmp 36) = za.tmps.getD 36 undef from rfl).trans (optVal (zc.dep 3 36 (by kernel_rfl)) rfl zβ)) ((show za.eval (.tmp 37) = za.tmps.getD 37 undef from rfl).trans (optVal (zc.dep 4 37 (by kernel_rfl)) rfl zβ)) ⟨_, rfl, Below.refl _ _, optDef zβ rfl⟩
          refine ⟨⟨true, .none rfl, fun h w => optUndef h, fun zβ za zw zc => ?_⟩, ?_⟩
          · exact wp_and rfl ((show za.eval (.tmp 35) = za.tmps.getD 35 undef from rfl).trans (optVal (zc.dep 2 35 (by kernel_rfl)) rfl rfl)) (fun hp => ((show za.eval (.tmp 38) = za.tmps.getD 38 undef from rfl).trans (optVal (zc.dep 5 38 (by kernel_rfl)) rfl (bMk zβ hp)))) ⟨_, rfl, Below.refl _ _, optDef zβ rfl⟩
          exact trivial
        · intro za w100 zh hb101 zu
          have zh := zh.cons (d := 39) (v := .bool (((((sget l k).one : Int) != (0 : Int)) && (!decide ((sget l k) = truth))))) (optVal (zu 6 39 (by kernel_rfl)) rfl rfl)
          clear zu
          refine (show WE _ [(0, .agg #[.slice a L.length c]), (1, .slice a2 l.length c2), (2, .pointer (some ⟨g2, 0, none⟩)), (4, .pointer (some ⟨g9, 0, none⟩)), (6, .int .i64 ((sigCheck L))), (7, .pointer (some ⟨g38, 0, none⟩)), (9, .pointer (some ⟨g74, 0, none⟩)), (10, .int .i64 ((sget l k).one)), (18, .bool ((((sigCheck L) : Int) != (0 : Int)))), (25, .slice a2 l.length c2), (26, .int .i64 (((l.length : Nat) : Int))), (27, .int .i64 (((k : Nat) : Int))), (28, .bool ((decide ((((k : Nat) : Int) : Int) < (((l.length : Nat) : Int) : Int))))), (39, .bool (((((sget l k).one : Int) != (0 : Int)) && (!decide ((sget l k) = truth)))))] w100 _ .normal from ?_) za (zh.sub ⟨rfl, rfl, rfl, rfl, rfl, rfl, rfl, rfl, rfl, rfl, rfl, rfl, rfl, rfl, trivial⟩)
          refine WE.next ?_
          refine WC.cond rfl (fun h102 => ?_) (fun h102 => ?_)
          · have h102 : (((sget l k).one : Int) ≠ (0 : Int)) ∧ (¬ ((sget l k) = truth)) := by simpa using h102
            refine WC.seq ?_
            refine WC.region ?_
            refine WL.val (.agg #[.slice none 0 0]) rfl rfl rfl (fun za zC zh zk => build_24_ rfl  zk) ?_
            refine WL.val (.int .i64 ((sget l k).one)) rfl rfl rfl (fun za zC zh zk => wp_move rfl (zh.ev rfl) zk) ?_
            have hb104 : Below w84.heap.size w84 w100 := (bstep hbo hb101)
            have hB103 := hB93.below hb104
            refine WL.step (post := fun _ w' => Upd g9 w100 w' ∧ Blk w' g9 24 #[.slice none 0 0]) rfl rfl rfl (fun za zC zh zk => st_24 rfl (zh.ev rfl) (zh.ev rfl) rfl hB103 (by first | decide | simp) (fun v => zk v _ ⟨Upd.at_ _ _ _ _, hB103.set_ 0 _⟩)) ?_
            rintro v108 w105 ⟨hu106, hB107⟩
            have hb109 : Below w.heap.size w w100 := (bstep hb89 hb104)
            have hb110 := upd_below hb109 hu106 (by omega)
            have hB111 := hB91.below hb104
            have hB112 := upd_blk hB111 hu106 (by omega)
            have hB113 := hB95.below hb104
            have hB114 := upd_blk hB113 hu106 (by omega)
            have hB115 := hB99.below hb101
            have hB116 := upd_blk hB115 hu106 (by omega)
            have hr117 := hr97.below hb104
            have hr118 := hr117.upd hu106 (by (try dsimp only at *); omega)
            refine WL.val (.int .i64 ((sget l k).one)) rfl rfl rfl (fun za zC zh zk => wp_assign rfl (zh.ev rfl) zk) ?_
            refine WL.nil (WE.sub (K' := [(0, .agg #[.slice a L.length c]), (1, .slice a2 l.length c2), (2, .pointer (some ⟨g2, 0, none⟩)), (4, .pointer (some ⟨g9, 0, none⟩)), (5, .int .i64 ((sget l k).one)), (6, .int .i64 ((sigCheck L))), (7, .pointer (some ⟨g38, 0, none⟩)), (9, .pointer (some ⟨g74, 0, none⟩)), (10, .int .i64 ((sget l k).one)), (18, .bool ((((sigCheck L) : Int) != (0 : Int)))), (25, .slice a2 l.length c2), (26, .int .i64 (((l.length : Nat) : Int))), (27, .int .i64 (((k : Nat) : Int))), (28, .bool ((decide ((((k : Nat) : Int) : Int) < (((l.length : Nat) : Int) : Int))))), (39, .bool (((((sget l k).one : Int) != (0 : Int)) && (!decide ((sget l k) = truth)))))]) ⟨rfl, rfl, rfl, rfl, rfl, rfl, rfl, rfl, rfl, rfl, rfl, rfl, rfl, rfl, rfl, trivial⟩ ?_)
            refine WE.next ?_
            refine WC.ret ?_
            refine WE.blockRet ?_
            refine WE.thenRet ?_
            refine WE.thenRet ?_
            refine WE.blockRet ?_
            refine WE.thenRet ?_
            refine WE.retAny (v := .tuple #[.agg #[.slice none 0 0], .int .i64 ((sget l k).one)]) (fun za zh => ?_) ?_
            · have z0 : za.tmps[4]?.getD undef = .pointer (some ⟨g9, 0, none⟩) := by rw [← Array.getD_eq_getD_getElem?]; exact zh.knows 4 _ rfl
              have y0_0 : w105.cell? ⟨g9, 0, none⟩ = some (.slice none 0 0) := ((hB107.cell 0).trans rfl)
              have z1 : za.tmps[5]?.getD undef = .int .i64 ((sget l k).one) := by rw [← Array.getD_eq_getD_getElem?]; exact zh.knows 5 _ rfl
              simp [results, Tryd.results9, z0, y0_0, z1, go_sem]
            · refine ⟨_, rfl, ?_⟩
              have e : addRes L l = ([], (sget l k).one) := by first | exact add1 ‹_› | exact add2 (k := k) ‹_› (by omega) hE ‹_› | exact add4 (k := x.2.2) ‹_› hE0 (by omega) (by omega)
              rw [e]
              refine ⟨_, rfl, isSig_nil, hb110⟩
          · have h102 : ¬ ((((sget l k).one : Int) ≠ (0 : Int)) ∧ (¬ ((sget l k) = truth))) := by simpa using h102
            refine WC.skip ?_
            refine WE.blockNormal ?_
            refine WE.next ?_
            refine WC.region ?_
            refine WL.val (.int .i64 ((((k + 1) : Nat) : Int))) rfl rfl rfl (fun za zC zh zk => addb_3 rfl (zh.ev rfl) (zh.ev rfl) (wrap_eq (by omega) (by omega) (by omega)) zk) ?_
            refine WL.val (.int .i64 ((((k + 1) : Nat) : Int))) rfl rfl rfl (fun za zC zh zk => wp_move rfl (zh.ev rfl) zk) ?_
            refine WL.nil (WE.sub (K' := [(0, .agg #[.slice a L.length c]), (1, .slice a2 l.length c2), (2, .pointer (some ⟨g2, 0, none⟩)), (4, .pointer (some ⟨g9, 0, none⟩)), (6, .int .i64 ((sigCheck L))), (7, .pointer (some ⟨g38, 0, none⟩)), (9, .pointer (some ⟨g74, 0, none⟩)), (10, .int .i64 ((sget l k).one)), (18, .bool ((((sigCheck L) : Int) != (0 : Int)))), (25, .slice a2 l.length c2), (26, .int .i64 (((l.length : Nat) : Int))), (27, .int .i64 ((((k + 1) : Nat) : Int))), (28, .bool ((decide ((((k : Nat) : Int) : Int) < (((l.length : Nat) : Int) : Int))))), (39, .bool (((((sget l k).one : Int) != (0 : Int)) && (!decide ((sget l k) = truth)))))]) ⟨rfl, rfl, rfl, rfl, rfl, rfl, rfl, rfl, rfl, rfl, rfl, rfl, rfl, rfl, trivial⟩ ?_)
            refine WE.round (k + 1) ⟨rfl, rfl, rfl, rfl, rfl, rfl, rfl, rfl, rfl, rfl, trivial⟩ ?_ ?_
            · have hb119 : Below w.heap.size w w100 := (bstep (bstep hb89 hbo) hb101)
              have hb121 : Below w84.heap.size w84 w100 := (bstep hbo hb101)
              have hB120 := hB91.below hb121
              have hB122 := hB93.below hb121
              have hB123 := hB95.below hb121
              have hr124 := hr97.below hb121
              have hr125 := Own.mono (S' := (fun b => w18.heap.size ≤ b ∧ b ≠ g38)) hr124 (fun b h1 h2 => by (try dsimp only at *); omega)
              exact ⟨by omega, hE.trans (by rw [addErr_step (by omega), if_neg h102]), hb119, hB120, hB122, hB123, (by have z1 := (Nat.le_trans (Nat.le_trans hb77.size (Nat.le_of_eq hu85.size.symm)) hb121.size); have z2 := hf67; omega), hr125⟩
            · omega
      · have h68 : ¬ ((((k : Nat) : Int) : Int) < (((l.length : Nat) : Int) : Int)) := by simpa using h68
        refine WC.exit ?_
        refine WE.thenExit ?_
        refine WE.thenExit ?_
        refine WE.blockIs rfl ?_
        refine WE.next ?_
        refine WC.seq ?_
        refine WC.seq ?_
        refine WC.region ?_
        refine WL.val (.slice a2 l.length c2) rfl rfl rfl (fun za zC zh zk => wp_move rfl (zh.ev rfl) zk) ?_
        refine WL.val (.int .i64 (((l.length : Nat) : Int))) rfl rfl rfl (fun za zC zh zk => len_22 rfl (zh.ev rfl) zk) ?_
        refine WL.val (.int .i64 0) rfl rfl rfl (fun za zC zh zk => wp_move rfl (zh.ev rfl) zk) ?_
        refine WL.nil (WE.sub (K' := [(0, .agg #[.slice a L.length c]), (1, .slice a2 l.length c2), (2, .pointer (some ⟨g2, 0, none⟩)), (4, .pointer (some ⟨g9, 0, none⟩)), (6, .int .i64 ((sigCheck L))), (7, .pointer (some ⟨g38, 0, none⟩)), (18, .bool ((((sigCheck L) : Int) != (0 : Int)))), (25, .slice a2 l.length c2), (26, .int .i64 (((l.length : Nat) : Int))), (27, .int .i64 (((k : Nat) : Int))), (28, .bool ((decide ((((k : Nat) : Int) : Int) < (((l.length : Nat) : Int) : Int))))), (43, .slice a2 l.length c2), (44, .int .i64 (((l.length : Nat) : Int))), (45, .int .i64 0)]) ⟨rfl, rfl, rfl, rfl, rfl, rfl, rfl, rfl, rfl, rfl, rfl, rfl, rfl, rfl, trivial⟩ ?_)
        refine WE.next ?_
        refine WC.block ?_
        have hE0 := add3 (by omega) hE
        refine WC.loop (X := Option Addr × Nat × Nat) (fun x => l.length - x.2.2) (fun x => [(0, .agg #[.slice a L.length c]), (1, .slice a2 l.length c2), (2, .pointer (some ⟨g2, 0, none⟩)), (4, .pointer (some ⟨g9, 0, none⟩)), (6, .int .i64 ((sigCheck L))), (7, .pointer (some ⟨g38, 0, none⟩)), (18, .bool ((((sigCheck L) : Int) != (0 : Int)))), (25, .slice a2 l.length c2), (26, .int .i64 (((l.length : Nat) : Int))), (27, .int .i64 (((k : Nat) : Int))), (28, .bool ((decide ((((k : Nat) : Int) : Int) < (((l.length : Nat) : Int) : Int))))), (43, .slice a2 l.length c2), (44, .int .i64 (((l.length : Nat) : Int))), (45, .int .i64 (((x.2.2 : Nat) : Int)))]) (fun x w126 => x.2.2 ≤ l.length ∧ Below w.heap.size w w126 ∧ Blk w126 g2 24 #[.slice a L.length c] ∧ Blk w126 g9 24 #[.slice none 0 0] ∧ Blk w126 g38 24 #[.slice x.1 ((addL L (l.take x.2.2)).length) x.2.1] ∧ w18.heap.size ≤ (w126).heap.size ∧ Own w126 (fun b => w18.heap.size ≤ b ∧ b ≠ g38) 26 3 x.1 x.2.1 ((addL L (l.take x.2.2)).length) ((syCells (addL L (l.take x.2.2))))) ((cra, crc, 0)) ⟨rfl, rfl, rfl, rfl, rfl, rfl, rfl, rfl, rfl, rfl, rfl, rfl, rfl, rfl, trivial⟩ ?_ ?_
        · exact ⟨Nat.zero_le _, hb62, hB63, hB64, hB65, (by have z2 := hf67; omega), (by simpa [addL] using hr66)⟩
        · rintro x w126 ⟨hk2, hb127, hB128, hB129, hB130, hf132, hr131⟩
          have hlen := addL_len (l.take x.2.2) L
          have hlt : (l.take x.2.2).length ≤ l.length := by simp; omega
          refine WC.seq ?_
          refine WC.region ?_
          refine WL.val (.bool ((decide ((((x.2.2 : Nat) : Int) : Int) < (((l.length : Nat) : Int) : Int))))) rfl rfl rfl (fun za zC zh zk => lss_3 rfl (zh.ev rfl) (zh.ev rfl) zk) ?_
          refine WL.nil (WE.sub (K' := [(0, .agg #[.slice a L.length c]), (1, .slice a2 l.length c2), (2, .pointer (some ⟨g2, 0, none⟩)), (4, .pointer (some ⟨g9, 0, none⟩)), (6, .int .i64 ((sigCheck L))), (7, .pointer (some ⟨g38, 0, none⟩)), (18, .bool ((((sigCheck L) : Int) != (0 : Int)))), (25, .slice a2 l.length c2), (26, .int .i64 (((l.length : Nat) : Int))), (27, .int .i64 (((k : Nat) : Int))), (28, .bool ((decide ((((k : Nat) : Int) : Int) < (((l.length : Nat) : Int) : Int))))), (43, .slice a2 l.length c2), (44, .int .i64 (((l.length : Nat) : Int))), (45, .int .i64 (((x.2.2 : Nat) : Int))), (46, .bool ((decide ((((x.2.2 : Nat) : Int) : Int) < (((l.length : Nat) : Int) : Int)))))]) ⟨rfl, rfl, rfl, rfl, rfl, rfl, rfl, rfl, rfl, rfl, rfl, rfl, rfl, rfl, rfl, trivial⟩ ?_)
          refine WE.next ?_
          refine WC.seq ?_
          refine WC.cond rfl (fun h133 => ?_) (fun h133 => ?_)
          · have h133 : (((x.2.2 : Nat) : Int) : Int) < (((l.length : Nat) : Int) : Int) := by simpa using h133
            refine WC.skip ?_
            refine WE.next ?_
            refine WC.seq ?_
            refine WC.block ?_
            refine WC.seq ?_
            refine WC.region ?_
            obtain ⟨b134, o135, ha136, hc137⟩ := IsSys.open hl2
            refine WL.val (.pointer (some ⟨b134, o135 + x.2.2 * 3, none⟩)) rfl rfl rfl (fun za zC zh zk => ix_22 (k := x.2.2) rfl (zh.ev rfl) (ha136 x.2.2 (by first | omega | (simp; omega))) (zh.ev rfl) (by first | omega | (simp; omega)) zk) ?_
            refine WL.val (.agg #[.string ((sget l x.2.2).name), .int .i64 ((sget l x.2.2).ar), .bool ((sget l x.2.2).pred)]) rfl rfl rfl (fun za zC zh zk => ld_26 rfl (zh.ev rfl) (bkeeps hb127 _ _ (hc137 x.2.2 (by first | omega | (simp; omega))).1) (bkeeps hb127 _ _ (hc137 x.2.2 (by first | omega | (simp; omega))).2.1) (bkeeps hb127 _ _ (hc137 x.2.2 (by first | omega | (simp; omega))).2.2) zk) ?_
            refine WL.step (post := NewBlk w126 26 #[.string (⟨#[]⟩), .int .i64 0, .bool false]) rfl rfl rfl (fun za zC zh zk => alloc_26 rfl (zk _ _ (newBlk _ _ _))) ?_
            rintro _ w138 ⟨g139, rfl, hg140, hB141, hb142, hz143⟩
            have hl144 : g2 < g139 := by have z1 := hB128.lt; omega
            have hl145 : g9 < g139 := by have z1 := hB129.lt; omega
            have hl146 : g38 < g139 := by have z1 := hB130.lt; omega
            have hr147 := Own.mono (S' := (fun b => w18.heap.size ≤ b ∧ b ≠ g38 ∧ b ≠ g139)) hr131 (fun b h1 h2 => by (try dsimp only at *); omega)
            have hl148 : w.heap.size ≤ g139 := by have z2 := (hb127).size; omega
            refine WL.step (post := fun _ w' => Upd g139 w138 w' ∧ Blk w' g139 26 #[.string ((sget l x.2.2).name), .int .i64 ((sget l x.2.2).ar), .bool ((sget l x.2.2).pred)]) rfl rfl rfl (fun za zC zh zk => st_26 rfl (zh.ev rfl) (zh.ev rfl) rfl rfl rfl hB141 (by first | decide | simp) (fun v => zk v _ ⟨((Upd.at_ _ _ _ _).trans (Upd.at_ _ _ _ _)).trans (Upd.at_ _ _ _ _), ((hB141.set_ 0 _).set_ 1 _).set_ 2 _⟩)) ?_
            rintro v152 w149 ⟨hu150, hB151⟩
            have hb153 : Below w.heap.size w w138 := (bstep hb127 hb142)
            have hb154 := upd_below hb153 hu150 (by omega)
            have hB155 := hB128.below hb142
            have hB156 := upd_blk hB155 hu150 (by omega)
            have hB157 := hB129.below hb142
            have hB158 := upd_blk hB157 hu150 (by omega)
            have hB159 := hB130.below hb142
            have hB160 := upd_blk hB159 hu150 (by omega)
            have hr161 := hr147.below hb142
            have hr162 := hr161.upd hu150 (by (try dsimp only at *); omega)
            refine WL.nil (WE.sub (K' := [(0, .agg #[.slice a L.length c]), (1, .slice a2 l.length c2), (2, .pointer (some ⟨g2, 0, none⟩)), (4, .pointer (some ⟨g9, 0, none⟩)), (6, .int .i64 ((sigCheck L))), (7, .pointer (some ⟨g38, 0, none⟩)), (12, .pointer (some ⟨g139, 0, none⟩)), (18, .bool ((((sigCheck L) : Int) != (0 : Int)))), (25, .slice a2 l.length c2), (26, .int .i64 (((l.length : Nat) : Int))), (27, .int .i64 (((k : Nat) : Int))), (28, .bool ((decide ((((k : Nat) : Int) : Int) < (((l.length : Nat) : Int) : Int))))), (43, .slice a2 l.length c2), (44, .int .i64 (((l.length : Nat) : Int))), (45, .int .i64 (((x.2.2 : Nat) : Int))), (46, .bool ((decide ((((x.2.2 : Nat) : Int) : Int) < (((l.length : Nat) : Int) : Int)))))]) ⟨rfl, rfl, rfl, rfl, rfl, rfl, rfl, rfl, rfl, rfl, rfl, rfl, rfl, rfl, rfl, rfl, trivial⟩ ?_)
            refine WE.next ?_
            refine WC.seq ?_
            refine WC.region ?_
            refine WL.val (.agg #[.slice x.1 ((addL L (l.take x.2.2)).length) x.2.1]) rfl rfl rfl (fun za zC zh zk => ld_24 rfl (zh.ev rfl) ((hB160.cell 0).trans rfl) zk) ?_
            refine WL.val (.agg #[.string ((sget l x.2.2).name), .int .i64 ((sget l x.2.2).ar), .bool ((sget l x.2.2).pred)]) rfl rfl rfl (fun za zC zh zk => ld_26 rfl (zh.ev rfl) ((hB151.cell 0).trans rfl) ((hB151.cell 1).trans rfl) ((hB151.cell 2).trans rfl) zk) ?_
            refine WL.call rfl rfl rfl (fun za zh zC => wp_call (by kernel_rfl) rfl (hv2 (zh.ev rfl) (zh.ev rfl))) (find_any (addL L (l.take x.2.2)) (sget l x.2.2) _ _ (isSig_own hr162 (hA x.2.2))) ?_
            rintro _ w163 ⟨rfl, hbf⟩
            refine WL.val (.tuple #[.int .i64 ((max (syAt (sget l x.2.2) (addL L (l.take x.2.2)) 0) 0)), .bool ((decide ((0 : Int) ≤ syAt (sget l x.2.2) (addL L (l.take x.2.2)) 0)))]) rfl rfl rfl (fun za zC zh zk => wp_move rfl (zh.ev rfl) zk) ?_
            refine WL.val (.int .i64 ((max (syAt (sget l x.2.2) (addL L (l.take x.2.2)) 0) 0))) rfl rfl rfl (fun za zC zh zk => ext2_0 rfl (zh.ev rfl) zk) ?_
            refine WL.val (.bool ((decide ((0 : Int) ≤ syAt (sget l x.2.2) (addL L (l.take x.2.2)) 0)))) rfl rfl rfl (fun za zC zh zk => ext2_1 rfl (zh.ev rfl) zk) ?_
            refine WL.val (.int .i64 ((max (syAt (sget l x.2.2) (addL L (l.take x.2.2)) 0) 0))) rfl rfl rfl (fun za zC zh zk => wp_assign rfl (zh.ev rfl) zk) ?_
            refine WL.val (.bool ((decide ((0 : Int) ≤ syAt (sget l x.2.2) (addL L (l.take x.2.2)) 0)))) rfl rfl rfl (fun za zC zh zk => wp_assign rfl (zh.ev rfl) zk) ?_
            refine WL.nil (WE.sub (K' := [(0, .agg #[.slice a L.length c]), (1, .slice a2 l.length c2), (2, .pointer (some ⟨g2, 0, none⟩)), (4, .pointer (some ⟨g9, 0, none⟩)), (6, .int .i64 ((sigCheck L))), (7, .pointer (some ⟨g38, 0, none⟩)), (12, .pointer (some ⟨g139, 0, none⟩)), (14, .bool ((decide ((0 : Int) ≤ syAt (sget l x.2.2) (addL L (l.take x.2.2)) 0)))), (18, .bool ((((sigCheck L) : Int) != (0 : Int)))), (25, .slice a2 l.length c2), (26, .int .i64 (((l.length : Nat) : Int))), (27, .int .i64 (((k : Nat) : Int))), (28, .bool ((decide ((((k : Nat) : Int) : Int) < (((l.length : Nat) : Int) : Int))))), (43, .slice a2 l.length c2), (44, .int .i64 (((l.length : Nat) : Int))), (45, .int .i64 (((x.2.2 : Nat) : Int))), (46, .bool ((decide ((((x.2.2 : Nat) : Int) : Int) < (((l.length : Nat) : Int) : Int)))))]) ⟨rfl, rfl, rfl, rfl, rfl, rfl, rfl, rfl, rfl, rfl, rfl, rfl, rfl, rfl, rfl, rfl, rfl, trivial⟩ ?_)
            refine WE.next ?_
            refine WC.seq ?_
            refine WC.region ?_
            refine WL.val (.bool ((decide ((0 : Int) ≤ syAt (sget l x.2.2) (addL L (l.take x.2.2)) 0)))) rfl rfl rfl (fun za zC zh zk => wp_move rfl (zh.ev rfl) zk) ?_
            refine WL.val (.bool ((!(decide ((0 : Int) ≤ syAt (sget l x.2.2) (addL L (l.take x.2.2)) 0))))) rfl rfl rfl (fun za zC zh zk => wp_not rfl (zh.ev rfl) zk) ?_
            refine WL.nil (WE.sub (K' := [(0, .agg #[.slice a L.length c]), (1, .slice a2 l.length c2), (2, .pointer (some ⟨g2, 0, none⟩)), (4, .pointer (some ⟨g9, 0, none⟩)), (6, .int .i64 ((sigCheck L))), (7, .pointer (some ⟨g38, 0, none⟩)), (12, .pointer (some ⟨g139, 0, none⟩)), (14, .bool ((decide ((0 : Int) ≤ syAt (sget l x.2.2) (addL L (l.take x.2.2)) 0)))), (18, .bool ((((sigCheck L) : Int) != (0 : Int)))), (25, .slice a2 l.length c2), (26, .int .i64 (((l.length : Nat) : Int))), (27, .int .i64 (((k : Nat) : Int))), (28, .bool ((decide ((((k : Nat) : Int) : Int) < (((l.length : Nat) : Int) : Int))))), (43, .slice a2 l.length c2), (44, .int .i64 (((l.length : Nat) : Int))), (45, .int .i64 (((x.2.2 : Nat) : Int))), (46, .bool ((decide ((((x.2.2 : Nat) : Int) : Int) < (((l.length : Nat) : Int) : Int))))), (56, .bool ((!(decide ((0 : Int) ≤ syAt (sget l x.2.2) (addL L (l.take x.2.2)) 0)))))]) ⟨rfl, rfl, rfl, rfl, rfl, rfl, rfl, rfl, rfl, rfl, rfl, rfl, rfl, rfl, rfl, rfl, rfl, rfl, trivial⟩ ?_)
            refine WE.next ?_
            refine WC.cond rfl (fun h164 => ?_) (fun h164 => ?_)
            · have h164 : ¬ ((0 : Int) ≤ syAt (sget l x.2.2) (addL L (l.take x.2.2)) 0) := by simpa using h164
              refine WC.region ?_
              refine WL.val (.pointer (some ⟨g38, 0, none⟩)) rfl rfl rfl (fun za zC zh zk => fld_24_0 rfl (zh.ev rfl) zk) ?_
              have hB165 := hB160.below hbf
              refine WL.val (.slice x.1 ((addL L (l.take x.2.2)).length) x.2.1) rfl rfl rfl (fun za zC zh zk => ld_22 rfl (zh.ev rfl) ((hB165.cell 0).trans rfl) zk) ?_
              have hB166 := hB151.below hbf
              refine WL.val (.agg #[.string ((sget l x.2.2).name), .int .i64 ((sget l x.2.2).ar), .bool ((sget l x.2.2).pred)]) rfl rfl rfl (fun za zC zh zk => ld_26 rfl (zh.ev rfl) ((hB166.cell 0).trans rfl) ((hB166.cell 1).trans rfl) ((hB166.cell 2).trans rfl) zk) ?_
              refine WL.step (post := NewRow w163 26 #[.string ((sget l x.2.2).name), .int .i64 ((sget l x.2.2).ar), .bool ((sget l x.2.2).pred)] 1) rfl rfl rfl (fun za zC zh zk => row_22_1 rfl (zh.ev rfl) (zk _ _ (newRow _ _ _ _))) ?_
              rintro _ w167 ⟨g168, rfl, hg169, hB170, hb171, hz172⟩
              have hl173 : g2 < g168 := by have z1 := hB156.lt; have z2 := (hbf).size; omega
              have hl174 : g9 < g168 := by have z1 := hB158.lt; have z2 := (hbf).size; omega
              have hl175 : g38 < g168 := by have z1 := hB165.lt; omega
              have hl176 : g139 < g168 := by have z1 := hB166.lt; omega
              have hr177 := hr162.below hbf
              have hr178 := Own.mono (S' := (fun b => w18.heap.size ≤ b ∧ b ≠ g38 ∧ b ≠ g139 ∧ b ≠ g168)) hr177 (fun b h1 h2 => by (try dsimp only at *); omega)
              have hb179 : Below w.heap.size w w163 := (bstep hb154 hbf)
              have hl180 : w.heap.size ≤ g168 := by have z2 := (hb179).size; omega
              have hr181 := hr178.below hb171
              have hB187 := hB165.below hb171
              have hB188 := hB166.below hb171
              refine WL.step (post := fun v w' => ∃ ra rc, v = .slice ra ((addL L (l.take x.2.2)).length + 1) rc ∧ Own w' (fun b => w18.heap.size ≤ b ∧ b ≠ g38 ∧ b ≠ g139 ∧ b ≠ g168) 26 3 ra rc ((addL L (l.take x.2.2)).length + 1) ((syCells (addL L (l.take x.2.2))) ++ [.string ((sget l x.2.2).name), .int .i64 ((sget l x.2.2).ar), .bool ((sget l x.2.2).pred)]) ∧ Chg (fun b => w18.heap.size ≤ b ∧ b ≠ g38 ∧ b ≠ g139 ∧ b ≠ g168) w167 w') rfl rfl rfl (fun za zC zh zk => app_22 (S := (fun b => w18.heap.size ≤ b ∧ b ≠ g38 ∧ b ≠ g139 ∧ b ≠ g168)) (xs := (syCells (addL L (l.take x.2.2)))) (news := [.string ((sget l x.2.2).name), .int .i64 ((sget l x.2.2).ar), .bool ((sget l x.2.2).pred)]) rfl (zh.ev rfl) (zh.ev rfl) hr181 (SrcIs.ofBlk hB170) (by simp) (by simp [Value.oneCell']) (by omega) (by omega) (by have z1 := (Nat.le_trans (Nat.le_trans (Nat.le_trans hb142.size (Nat.le_of_eq hu150.size.symm)) hbf.size) hb171.size); have z2 := hf132; have y0 := hB187.lt; have y1 := hB188.lt; have y2 := hB170.lt; (try dsimp only at *); omega) (fun ra rc w' h1 h2 => zk _ _ ⟨ra, rc, rfl, h1, h2⟩)) ?_
              rintro _ w182 ⟨ra183, rc184, rfl, hr185, hc186⟩
              have hb189 : Below w.heap.size w w167 := (bstep hb179 hb171)
              have hb191 : Below w149.heap.size w149 w167 := (bstep hbf hb171)
              have hB190 := hB156.below hb191
              have hB192 := hB158.below hb191
              have hb193 := chg_below hb189 hc186 (fun b hb => (by (try dsimp only at *); omega))
              have hB194 := chg_blk hB190 hc186 (by (try dsimp only at *); omega)
              have hB195 := chg_blk hB192 hc186 (by (try dsimp only at *); omega)
              have hB196 := chg_blk hB187 hc186 (by (try dsimp only at *); omega)
              have hB197 := chg_blk hB188 hc186 (by (try dsimp only at *); omega)
              have hB198 := chg_blk hB170 hc186 (by (try dsimp only at *); omega)
              refine WL.val (.pointer (some ⟨g38, 0, none⟩)) rfl rfl rfl (fun za zC zh zk => fld_24_0 rfl (zh.ev rfl) zk) ?_
              refine WL.step (post := fun _ w' => Upd g38 w182 w' ∧ Blk w' g38 24 #[.slice ra183 (((addL L (l.take x.2.2)).length + 1)) rc184]) rfl rfl rfl (fun za zC zh zk => st_22 rfl (zh.ev rfl) (zh.ev rfl) hB196 (by first | decide | simp) (fun v => zk v _ ⟨Upd.at_ _ _ _ _, hB196.set_ 0 _⟩)) ?_
              rintro v202 w199 ⟨hu200, hB201⟩
              have hb203 := upd_below hb193 hu200 (by omega)
              have hB204 := upd_blk hB194 hu200 (by omega)
              have hB205 := upd_blk hB195 hu200 (by omega)
              have hB206 := upd_blk hB197 hu200 (by omega)
              have hB207 := upd_blk hB198 hu200 (by omega)
              have hr208 := hr185.upd hu200 (by (try dsimp only at *); omega)
              refine WL.nil (WE.sub (K' := [(0, .agg #[.slice a L.length c]), (1, .slice a2 l.length c2), (2, .pointer (some ⟨g2, 0, none⟩)), (4, .pointer (some ⟨g9, 0, none⟩)), (6, .int .i64 ((sigCheck L))), (7, .pointer (some ⟨g38, 0, none⟩)), (12, .pointer (some ⟨g139, 0, none⟩)), (14, .bool ((decide ((0 : Int) ≤ syAt (sget l x.2.2) (addL L (l.take x.2.2)) 0)))), (18, .bool ((((sigCheck L) : Int) != (0 : Int)))), (25, .slice a2 l.length c2), (26, .int .i64 (((l.length : Nat) : Int))), (27, .int .i64 (((k : Nat) : Int))), (28, .bool ((decide ((((k : Nat) : Int) : Int) < (((l.length : Nat) : Int) : Int))))), (43, .slice a2 l.length c2), (44, .int .i64 (((l.length : Nat) : Int))), (45, .int .i64 (((x.2.2 : Nat) : Int))), (46, .bool ((decide ((((x.2.2 : Nat) : Int) : Int) < (((l.length : Nat) : Int) : Int))))), (56, .bool ((!(decide ((0 : Int) ≤ syAt (sget l x.2.2) (addL L (l.take x.2.2)) 0)))))]) ⟨rfl, rfl, rfl, rfl, rfl, rfl, rfl, rfl, rfl, rfl, rfl, rfl, rfl, rfl, rfl, rfl, rfl, rfl, trivial⟩ ?_)
              refine WE.blockNormal ?_
              refine WE.next ?_
              refine WC.region ?_
              refine WL.val (.int .i64 ((((x.2.2 + 1) : Nat) : Int))) rfl rfl rfl (fun za zC zh zk => addb_3 rfl (zh.ev rfl) (zh.ev rfl) (wrap_eq (by omega) (by omega) (by omega)) zk) ?_
              refine WL.val (.int .i64 ((((x.2.2 + 1) : Nat) : Int))) rfl rfl rfl (fun za zC zh zk => wp_move rfl (zh.ev rfl) zk) ?_
              refine WL.nil (WE.sub (K' := [(0, .agg #[.slice a L.length c]), (1, .slice a2 l.length c2), (2, .pointer (some ⟨g2, 0, none⟩)), (4, .pointer (some ⟨g9, 0, none⟩)), (6, .int .i64 ((sigCheck L))), (7, .pointer (some ⟨g38, 0, none⟩)), (12, .pointer (some ⟨g139, 0, none⟩)), (14, .bool ((decide ((0 : Int) ≤ syAt (sget l x.2.2) (addL L (l.take x.2.2)) 0)))), (18, .bool ((((sigCheck L) : Int) != (0 : Int)))), (25, .slice a2 l.length c2), (26, .int .i64 (((l.length : Nat) : Int))), (27, .int .i64 (((k : Nat) : Int))), (28, .bool ((decide ((((k : Nat) : Int) : Int) < (((l.length : Nat) : Int) : Int))))), (43, .slice a2 l.length c2), (44, .int .i64 (((l.length : Nat) : Int))), (45, .int .i64 ((((x.2.2 + 1) : Nat) : Int))), (46, .bool ((decide ((((x.2.2 : Nat) : Int) : Int) < (((l.length : Nat) : Int) : Int))))), (56, .bool ((!(decide ((0 : Int) ≤ syAt (sget l x.2.2) (addL L (l.take x.2.2)) 0)))))]) ⟨rfl, rfl, rfl, rfl, rfl, rfl, rfl, rfl, rfl, rfl, rfl, rfl, rfl, rfl, rfl, rfl, rfl, rfl, trivial⟩ ?_)
              have hS : addL L (l.take (x.2.2 + 1)) = addL L (l.take x.2.2) ++ [sget l x.2.2] := by rw [addL_step (by omega), if_neg (fun e => by have z := (syAt_nonneg _ _).2 e; omega)]
              refine WE.round ((ra183, rc184, x.2.2 + 1)) ⟨rfl, rfl, rfl, rfl, rfl, rfl, rfl, rfl, rfl, rfl, rfl, rfl, rfl, rfl, trivial⟩ ?_ ?_
              · have hr209 := Own.mono (S' := (fun b => w18.heap.size ≤ b ∧ b ≠ g38)) hr208 (fun b h1 h2 => by (try dsimp only at *); omega)
                exact ⟨by dsimp only; omega, hb203, hB204, hB205, (by dsimp only; rw [hS, List.length_append]; exact hB201), (by have z1 := (Nat.le_trans (Nat.le_trans (Nat.le_trans (Nat.le_trans hb142.size (Nat.le_of_eq hu150.size.symm)) hb191.size) hc186.size) (Nat.le_of_eq hu200.size.symm)); have z2 := hf132; omega), (by dsimp only; rw [hS, syCells_append, List.length_append]; exact hr209)⟩
              · dsimp only; omega
            · have h164 : ¬ (¬ ((0 : Int) ≤ syAt (sget l x.2.2) (addL L (l.take x.2.2)) 0)) := by simpa using h164
              refine WC.skip ?_
              refine WE.blockNormal ?_
              refine WE.next ?_
              refine WC.region ?_
              refine WL.val (.int .i64 ((((x.2.2 + 1) : Nat) : Int))) rfl rfl rfl (fun za zC zh zk => addb_3 rfl (zh.ev rfl) (zh.ev rfl) (wrap_eq (by omega) (by omega) (by omega)) zk) ?_
              refine WL.val (.int .i64 ((((x.2.2 + 1) : Nat) : Int))) rfl rfl rfl (fun za zC zh zk => wp_move rfl (zh.ev rfl) zk) ?_
              refine WL.nil (WE.sub (K' := [(0, .agg #[.slice a L.length c]), (1, .slice a2 l.length c2), (2, .pointer (some ⟨g2, 0, none⟩)), (4, .pointer (some ⟨g9, 0, none⟩)), (6, .int .i64 ((sigCheck L))), (7, .pointer (some ⟨g38, 0, none⟩)), (12, .pointer (some ⟨g139, 0, none⟩)), (14, .bool ((decide ((0 : Int) ≤ syAt (sget l x.2.2) (addL L (l.take x.2.2)) 0)))), (18, .bool ((((sigCheck L) : Int) != (0 : Int)))), (25, .slice a2 l.length c2), (26, .int .i64 (((l.length : Nat) : Int))), (27, .int .i64 (((k : Nat) : Int))), (28, .bool ((decide ((((k : Nat) : Int) : Int) < (((l.length : Nat) : Int) : Int))))), (43, .slice a2 l.length c2), (44, .int .i64 (((l.length : Nat) : Int))), (45, .int .i64 ((((x.2.2 + 1) : Nat) : Int))), (46, .bool ((decide ((((x.2.2 : Nat) : Int) : Int) < (((l.length : Nat) : Int) : Int))))), (56, .bool ((!(decide ((0 : Int) ≤ syAt (sget l x.2.2) (addL L (l.take x.2.2)) 0)))))]) ⟨rfl, rfl, rfl, rfl, rfl, rfl, rfl, rfl, rfl, rfl, rfl, rfl, rfl, rfl, rfl, rfl, rfl, rfl, trivial⟩ ?_)
              have hS : addL L (l.take (x.2.2 + 1)) = addL L (l.take x.2.2) := by rw [addL_step (by omega), if_pos ((syAt_nonneg _ _).1 (by omega))]
              refine WE.round ((x.1, x.2.1, x.2.2 + 1)) ⟨rfl, rfl, rfl, rfl, rfl, rfl, rfl, rfl, rfl, rfl, rfl, rfl, rfl, rfl, trivial⟩ ?_ ?_
              · have hb210 : Below w.heap.size w w163 := (bstep hb154 hbf)
                have hB211 := hB156.below hbf
                have hB212 := hB158.below hbf
                have hB213 := hB160.below hbf
                have hr214 := hr162.below hbf
                have hr215 := Own.mono (S' := (fun b => w18.heap.size ≤ b ∧ b ≠ g38)) hr214 (fun b h1 h2 => by (try dsimp only at *); omega)
                exact ⟨by dsimp only; omega, hb210, hB211, hB212, (by dsimp only; rw [hS]; exact hB213), (by have z1 := (Nat.le_trans (Nat.le_trans hb142.size (Nat.le_of_eq hu150.size.symm)) hbf.size); have z2 := hf132; omega), (by dsimp only; rw [hS]; exact hr215)⟩
              · dsimp only; omega
          · have h133 : ¬ ((((x.2.2 : Nat) : Int) : Int) < (((l.length : Nat) : Int) : Int)) := by simpa using h133
            refine WC.exit ?_
            refine WE.thenExit ?_
            refine WE.thenExit ?_
            refine WE.blockIs rfl ?_
            refine WE.next ?_
            refine WC.seq ?_
            refine WC.seq ?_
            refine WC.region ?_
            refine WL.val (.pointer (some ⟨g38, 0, none⟩)) rfl rfl rfl (fun za zC zh zk => fld_24_0 rfl (zh.ev rfl) zk) ?_
            refine WL.val (.slice x.1 ((addL L (l.take x.2.2)).length) x.2.1) rfl rfl rfl (fun za zC zh zk => ld_22 rfl (zh.ev rfl) ((hB130.cell 0).trans rfl) zk) ?_
            refine WL.val (.int .i64 ((((addL L (l.take x.2.2)).length : Nat) : Int))) rfl rfl rfl (fun za zC zh zk => len_22 rfl (zh.ev rfl) zk) ?_
            refine WL.val (.bool ((decide ((96 : Int) < ((((addL L (l.take x.2.2)).length : Nat) : Int) : Int))))) rfl rfl rfl (fun za zC zh zk => gtr_3 rfl (zh.ev rfl) (zh.ev rfl) zk) ?_
            refine WL.nil (WE.sub (K' := [(0, .agg #[.slice a L.length c]), (1, .slice a2 l.length c2), (2, .pointer (some ⟨g2, 0, none⟩)), (4, .pointer (some ⟨g9, 0, none⟩)), (6, .int .i64 ((sigCheck L))), (7, .pointer (some ⟨g38, 0, none⟩)), (18, .bool ((((sigCheck L) : Int) != (0 : Int)))), (25, .slice a2 l.length c2), (26, .int .i64 (((l.length : Nat) : Int))), (27, .int .i64 (((k : Nat) : Int))), (28, .bool ((decide ((((k : Nat) : Int) : Int) < (((l.length : Nat) : Int) : Int))))), (43, .slice a2 l.length c2), (44, .int .i64 (((l.length : Nat) : Int))), (45, .int .i64 (((x.2.2 : Nat) : Int))), (46, .bool ((decide ((((x.2.2 : Nat) : Int) : Int) < (((l.length : Nat) : Int) : Int))))), (67, .bool ((decide ((96 : Int) < ((((addL L (l.take x.2.2)).length : Nat) : Int) : Int)))))]) ⟨rfl, rfl, rfl, rfl, rfl, rfl, rfl, rfl, rfl, rfl, rfl, rfl, rfl, rfl, rfl, rfl, trivial⟩ ?_)
            refine WE.next ?_
            refine WC.cond rfl (fun h216 => ?_) (fun h216 => ?_)
            · have h216 : (96 : Int) < ((((addL L (l.take x.2.2)).length : Nat) : Int) : Int) := by simpa using h216
              refine WC.seq ?_
              refine WC.region ?_
              refine WL.val (.agg #[.slice none 0 0]) rfl rfl rfl (fun za zC zh zk => build_24_ rfl  zk) ?_
              refine WL.step (post := fun _ w' => Upd g9 w126 w' ∧ Blk w' g9 24 #[.slice none 0 0]) rfl rfl rfl (fun za zC zh zk => st_24 rfl (zh.ev rfl) (zh.ev rfl) rfl hB129 (by first | decide | simp) (fun v => zk v _ ⟨Upd.at_ _ _ _ _, hB129.set_ 0 _⟩)) ?_
              rintro v220 w217 ⟨hu218, hB219⟩
              have hb221 := upd_below hb127 hu218 (by omega)
              have hB222 := upd_blk hB128 hu218 (by omega)
              have hB223 := upd_blk hB130 hu218 (by omega)
              have hr224 := hr131.upd hu218 (by (try dsimp only at *); omega)
              refine WL.val (.int .i64 3) rfl rfl rfl (fun za zC zh zk => wp_assign rfl (zh.ev rfl) zk) ?_
              refine WL.nil (WE.sub (K' := [(0, .agg #[.slice a L.length c]), (1, .slice a2 l.length c2), (2, .pointer (some ⟨g2, 0, none⟩)), (4, .pointer (some ⟨g9, 0, none⟩)), (5, .int .i64 3), (6, .int .i64 ((sigCheck L))), (7, .pointer (some ⟨g38, 0, none⟩)), (18, .bool ((((sigCheck L) : Int) != (0 : Int)))), (25, .slice a2 l.length c2), (26, .int .i64 (((l.length : Nat) : Int))), (27, .int .i64 (((k : Nat) : Int))), (28, .bool ((decide ((((k : Nat) : Int) : Int) < (((l.length : Nat) : Int) : Int))))), (43, .slice a2 l.length c2), (44, .int .i64 (((l.length : Nat) : Int))), (45, .int .i64 (((x.2.2 : Nat) : Int))), (46, .bool ((decide ((((x.2.2 : Nat) : Int) : Int) < (((l.length : Nat) : Int) : Int))))), (67, .bool ((decide ((96 : Int) < ((((addL L (l.take x.2.2)).length : Nat) : Int) : Int)))))]) ⟨rfl, rfl, rfl, rfl, rfl, rfl, rfl, rfl, rfl, rfl, rfl, rfl, rfl, rfl, rfl, rfl, rfl, trivial⟩ ?_)
              refine WE.next ?_
              refine WC.ret ?_
              refine WE.thenRet ?_
              refine WE.retAny (v := .tuple #[.agg #[.slice none 0 0], .int .i64 3]) (fun za zh => ?_) ?_
              · have z0 : za.tmps[4]?.getD undef = .pointer (some ⟨g9, 0, none⟩) := by rw [← Array.getD_eq_getD_getElem?]; exact zh.knows 4 _ rfl
                have y0_0 : w217.cell? ⟨g9, 0, none⟩ = some (.slice none 0 0) := ((hB219.cell 0).trans rfl)
                have z1 : za.tmps[5]?.getD undef = .int .i64 3 := by rw [← Array.getD_eq_getD_getElem?]; exact zh.knows 5 _ rfl
                simp [results, Tryd.results9, z0, y0_0, z1, go_sem]
              · refine ⟨_, rfl, ?_⟩
                have e : addRes L l = ([], 3) := by first | exact add1 ‹_› | exact add2 (k := k) ‹_› (by omega) hE ‹_› | exact add4 (k := x.2.2) ‹_› hE0 (by omega) (by omega)
                rw [e]
                refine ⟨_, rfl, isSig_nil, hb221⟩
            · have h216 : ¬ ((96 : Int) < ((((addL L (l.take x.2.2)).length : Nat) : Int) : Int)) := by simpa using h216
              refine WC.skip ?_
              refine WE.next ?_
              refine WC.seq ?_
              refine WC.region ?_
              refine WL.val (.agg #[.slice x.1 ((addL L (l.take x.2.2)).length) x.2.1]) rfl rfl rfl (fun za zC zh zk => ld_24 rfl (zh.ev rfl) ((hB130.cell 0).trans rfl) zk) ?_
              refine WL.step (post := fun _ w' => Upd g9 w126 w' ∧ Blk w' g9 24 #[.slice x.1 ((addL L (l.take x.2.2)).length) x.2.1]) rfl rfl rfl (fun za zC zh zk => st_24 rfl (zh.ev rfl) (zh.ev rfl) rfl hB129 (by first | decide | simp) (fun v => zk v _ ⟨Upd.at_ _ _ _ _, hB129.set_ 0 _⟩)) ?_
              rintro v228 w225 ⟨hu226, hB227⟩
              have hb229 := upd_below hb127 hu226 (by omega)
              have hB230 := upd_blk hB128 hu226 (by omega)
              have hB231 := upd_blk hB130 hu226 (by omega)
              have hr232 := hr131.upd hu226 (by (try dsimp only at *); omega)
              refine WL.val (.int .i64 0) rfl rfl rfl (fun za zC zh zk => wp_assign rfl (zh.ev rfl) zk) ?_
              refine WL.nil (WE.sub (K' := [(0, .agg #[.slice a L.length c]), (1, .slice a2 l.length c2), (2, .pointer (some ⟨g2, 0, none⟩)), (4, .pointer (some ⟨g9, 0, none⟩)), (5, .int .i64 0), (6, .int .i64 ((sigCheck L))), (7, .pointer (some ⟨g38, 0, none⟩)), (18, .bool ((((sigCheck L) : Int) != (0 : Int)))), (25, .slice a2 l.length c2), (26, .int .i64 (((l.length : Nat) : Int))), (27, .int .i64 (((k : Nat) : Int))), (28, .bool ((decide ((((k : Nat) : Int) : Int) < (((l.length : Nat) : Int) : Int))))), (43, .slice a2 l.length c2), (44, .int .i64 (((l.length : Nat) : Int))), (45, .int .i64 (((x.2.2 : Nat) : Int))), (46, .bool ((decide ((((x.2.2 : Nat) : Int) : Int) < (((l.length : Nat) : Int) : Int))))), (67, .bool ((decide ((96 : Int) < ((((addL L (l.take x.2.2)).length : Nat) : Int) : Int)))))]) ⟨rfl, rfl, rfl, rfl, rfl, rfl, rfl, rfl, rfl, rfl, rfl, rfl, rfl, rfl, rfl, rfl, rfl, trivial⟩ ?_)
              refine WE.next ?_
              refine WC.ret ?_
              refine WE.retAny (v := .tuple #[.agg #[.slice x.1 ((addL L (l.take x.2.2)).length) x.2.1], .int .i64 0]) (fun za zh => ?_) ?_
              · have z0 : za.tmps[4]?.getD undef = .pointer (some ⟨g9, 0, none⟩) := by rw [← Array.getD_eq_getD_getElem?]; exact zh.knows 4 _ rfl
                have y0_0 : w225.cell? ⟨g9, 0, none⟩ = some (.slice x.1 ((addL L (l.take x.2.2)).length) x.2.1) := ((hB227.cell 0).trans rfl)
                have z1 : za.tmps[5]?.getD undef = .int .i64 0 := by rw [← Array.getD_eq_getD_getElem?]; exact zh.knows 5 _ rfl
                simp [results, Tryd.results9, z0, y0_0, z1, go_sem]
              · refine ⟨_, rfl, ?_⟩
                have e : addRes L l = (addL L (l.take x.2.2), 0) := add5 (k := x.2.2) ‹_› hE0 (by omega) (by omega)
                rw [e]
                refine ⟨_, rfl, isSig_own hr232 (hA x.2.2), hb229⟩

theorem at_sig (x : Sy) (l : List Sy) (w : World) {a : Option Addr} {n c : Nat} (h : IsSig w l (.agg #[.slice a n c])) : Calls Tryd.prog 32 #[.slice a n c, x.val] w fun e w' => e = .returned (.int .i64 (syAt x l 0)) ∧ Below w.heap.size w w' := by
  obtain ⟨a', c', e, h1, h2, h3⟩ := h
  simp only [Value.agg.injEq, Array.mk.injEq, List.cons.injEq, and_true, Value.slice.injEq] at e
  obtain ⟨rfl, rfl, rfl⟩ := e
  exact at_any x l w a c h1 h2 h3

end Go.Proofs.YtbnjppmmhhjjbaaDoor
