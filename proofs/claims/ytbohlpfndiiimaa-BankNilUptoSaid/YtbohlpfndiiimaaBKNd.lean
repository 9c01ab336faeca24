/- The walk through the document's check of a signature: the check. -/
import Derived.Test.YtbohlpfndiiimaaBKNb
import Derived.Test.YtbohlpfndiiimaaBKNc
import Derived.Test.YtbohlpfndiiimaaBKNa

/- A term is put into a bank: the program. -/
namespace Go.Proofs.Ytbohlpfndiiimaa
open Go.RowKit Go
set_option linter.unusedVariables false
set_option linter.unusedSimpArgs false
theorem bputL_take {l : List T} {k : Nat} {N : List En} (h : k < l.length) : T.bputL (l.take (k + 1)) N = (((tget l k).bput (T.bputL (l.take k) N).1).1, (T.bputL (l.take k) N).2 ++ [((tget l k).bput (T.bputL (l.take k) N).1).2]) := by
 rw [List.take_succ_eq_append_getElem h, bputL_snoc, tget_lt h]
theorem bputL_len : ∀ (l : List T) (N : List En), (T.bputL l N).2.length = l.length
 | [], N => by rw [T.bputL]; rfl
 | t :: r, N => by rw [T.bputL]; simp [bputL_len r]
set_option maxRecDepth 100000 in
theorem bwalk_any (g : Nat) (sg : Value) (gw gb : Nat) : ∀ (t : T) (N : List En) (Z A : Nat → Prop) (w : World) (v : Value), t.size ≤ 4294967296 → N.length + t.size ≤ 1048576 → BkIs w g sg Z N → Blk w gw 73 #[.func (.func 55) #[] #[.pointer (some ⟨gw, 0, none⟩), .pointer (some ⟨gb, 0, none⟩)]] → Blk w gb 26 #[.pointer (some ⟨g, 0, none⟩)] → ¬ Z gw → ¬ Z gb → InT A w t v → (∀ b, A b → ¬ Z b ∧ b < w.heap.size) →
  Calls Try.prog 55 #[v, .pointer (some ⟨gw, 0, none⟩), .pointer (some ⟨gb, 0, none⟩)] w (Ret fun v' w' => v' = .int .i64 (((t.bput N).2 : Nat) : Int) ∧ (∃ Z', BkIs w' g sg Z' (t.bput N).1 ∧ ∀ b, Z' b → Z b ∨ w.heap.size ≤ b) ∧ Chg Z w w') := by
 refine T.ind (fun f l ih => ?_)
 intro N Z A w v hsz hNl hK hBW hBB hzw hzb ht hA
 obtain ⟨hf, a, c, rfl, hlc, hcm, hts⟩ := ht.form
 simp only [T.f_mk, T.args_mk] at hf hlc hts ⊢
 unfold maxLen at hcm
 have hsz' := hsz
 rw [T.size] at hsz'
 have hNl' := hNl
 rw [T.size] at hNl'
 have hlen := len_le_sizeL l
 have hgw := hBW.lt
 have hgb := hBB.lt
 have hZl := hK.lt
 have hC0 := Chg.refl Z w
 refine Calls.walk (l := [.agg #[.int .i64 f, .slice a l.length c], .pointer (some ⟨gw, 0, none⟩), .pointer (some ⟨gb, 0, none⟩)]) Try.func55 rfl (by kernel_rfl) ?_
 refine WC.sub (K' := [(0, .agg #[.int .i64 f, .slice a l.length c]), (1, .pointer (some ⟨gw, 0, none⟩)), (2, .pointer (some ⟨gb, 0, none⟩))]) ⟨rfl, rfl, rfl, trivial⟩ ?_
 refine WC.seq (WC.region ?_)
 refine WL.step (post := NewBlk w 35 #[.int .i64 f, .slice a l.length c]) rfl rfl rfl (fun za zC zh zk => box_35 rfl (zh.ev rfl) (zk _ _ (newBlk _ _ _))) ?_
 rintro _ w1 ⟨g2, rfl, hg3, hB4, hb5, hz6⟩
 have hl7 : gw < g2 := by have z1 := hBW.lt; omega
 have hl8 : gb < g2 := by have z1 := hBB.lt; omega
 have hl9 : w.heap.size ≤ g2 := by omega
 refine WL.asg rfl rfl rfl rfl rfl (WL.nil (WE.next (WC.seq (WC.region (WL.asg rfl rfl rfl rfl rfl (WL.nil (WE.next (WC.seq (WC.region ?_)))))))))
 refine WL.val _ rfl rfl rfl (fun za zC zh zk => fld_35_0 rfl (zh.ev rfl) zk) ?_
 refine WL.val _ rfl rfl rfl (fun za zC zh zk => ld_3 rfl (zh.ev rfl) ((hB4.cell 0).trans rfl) zk) ?_
 refine WL.val (.bool ((decide ((0 : Int) ≤ (f : Int))))) rfl rfl rfl (fun za zC zh zk => geq_3 rfl (zh.ev rfl) (zh.ev rfl) zk) ?_
 refine WL.val (.agg #[.int .i64 1, .bool ((decide ((0 : Int) ≤ (f : Int))))]) rfl rfl rfl (fun za zC zh zk => build_81_0_1 rfl (zh.ev rfl) (zh.ev rfl) zk) ?_
 refine WL.step (post := NewBlk w1 81 #[.int .i64 0, .bool false]) rfl rfl rfl (fun za zC zh zk => alloc_81 rfl (zk _ _ (newBlk _ _ _))) ?_
 rintro _ w10 ⟨g11, rfl, hg12, hB13, hb14, hz15⟩
 have hl16 : gw < g11 := by have z1 := hBW.lt; have z2 := (hb5).size; omega
 have hl17 : gb < g11 := by have z1 := hBB.lt; have z2 := (hb5).size; omega
 have hl18 : g2 < g11 := by have z1 := hB4.lt; omega
 have hl19 : w.heap.size ≤ g11 := by have z2 := (hb5).size; omega
 refine WL.step (post := fun _ w' => Upd g11 w10 w' ∧ Blk w' g11 81 #[.int .i64 1, .bool ((decide ((0 : Int) ≤ (f : Int))))]) rfl rfl rfl (fun za zC zh zk => st_81 rfl (zh.ev rfl) (zh.ev rfl) rfl rfl hB13 (by first | decide | simp) (fun v => zk v _ ⟨(Upd.at_ _ _ _ _).trans (Upd.at_ _ _ _ _), (hB13.set_ 0 _).set_ 1 _⟩)) ?_
 rintro v23 w20 ⟨hu21, hB22⟩
 have hb24 : Below w.heap.size w w10 := (bstep hb5 hb14)
 have hb25 := upd_below hb24 hu21 (by omega)
 have hB26 := hBW.below hb24
 have hB27 := upd_blk hB26 hu21 (by omega)
 have hB28 := hBB.below hb24
 have hB29 := upd_blk hB28 hu21 (by omega)
 have hB30 := hB4.below hb14
 have hB31 := upd_blk hB30 hu21 (by omega)
 refine WL.nil (WE.next (WC.seq (WC.seq (WC.region ?_))))
 refine WL.val _ rfl rfl rfl (fun za zC zh zk => fld_35_1 rfl (zh.ev rfl) zk) ?_
 refine WL.val _ rfl rfl rfl (fun za zC zh zk => ld_25 rfl (zh.ev rfl) ((hB31.cell 1).trans rfl) zk) ?_
 refine WL.val (.int .i64 (((l.length : Nat) : Int))) rfl rfl rfl (fun za zC zh zk => len_25 rfl (zh.ev rfl) zk) ?_
 refine WL.mv rfl rfl rfl rfl rfl (WL.nil (WE.next (WC.block ?_)))
 have hbW := (hb25).size
 have hg3w : w.heap.size ≤ g2 := by omega
 have hg6w : w.heap.size ≤ g11 := by omega
 have hg36 : g2 ≠ g11 := by omega
 have hj0 : BkJ w20 w.heap.size Z g sg ((T.bputL (l.take 0) N).1) (fun b => b = g2 ∨ b = g11 ∨ b = gw ∨ b = gb ∨ A b ∨ obk none 0 0 = some b) := ⟨Z, hK.below hb25, fun b q => .inl q, fun b q k => by
  have z := hZl b k
  rcases q with q | q | q | q | q | q
  ·omega
  ·omega
  ·rw [q] at k; exact hzw k
  ·rw [q] at k; exact hzb k
  ·exact (hA b q).1 k
  ·cases q⟩
 have hr0 : RowD eltN (fun _ => False) w20 3 none 0 0 ((T.bputL (l.take 0) N).2) := RowD.nil
 have ht0 : InT A w20 (.mk f l) (.agg #[.int .i64 f, .slice a l.length c]) := ht.below hb25
 have hC32 := Chg.trans hC0 (.ofBelow hb25)
 refine WC.loop (X := Nat × Option Addr × Nat) (fun x => l.length - x.1) (fun x => [(0, .agg #[.int .i64 f, .slice a l.length c]), (1, .pointer (some ⟨gw, 0, none⟩)), (2, .pointer (some ⟨gb, 0, none⟩)), (3, .pointer (some ⟨g2, 0, none⟩)), (4, .int .i64 0), (5, .slice x.2.1 x.1 x.2.2), (6, .pointer (some ⟨g11, 0, none⟩)), (21, .slice a l.length c), (22, .int .i64 (((l.length : Nat) : Int))), (23, .int .i64 (((x.1 : Nat) : Int)))]) (fun x w33 => x.1 ≤ l.length ∧ Chg Z w w33 ∧ (∀ b, obk x.2.1 x.1 x.2.2 = some b → w.heap.size ≤ b) ∧ Blk w33 gw 73 #[.func (.func 55) #[] #[.pointer (some ⟨gw, 0, none⟩), .pointer (some ⟨gb, 0, none⟩)]] ∧ Blk w33 gb 26 #[.pointer (some ⟨g, 0, none⟩)] ∧ Blk w33 g2 35 #[.int .i64 f, .slice a l.length c] ∧ Blk w33 g11 81 #[.int .i64 ((((1 + T.sizeL (l.take x.1)) : Nat) : Int)), .bool ((decide (0 ≤ f) && T.gndL (l.take x.1)))] ∧ BkJ (w33) w.heap.size Z g sg ((T.bputL (l.take x.1) N).1) (fun b => b = g2 ∨ b = g11 ∨ b = gw ∨ b = gb ∨ A b ∨ obk x.2.1 x.1 x.2.2 = some b) ∧ RowD eltN (fun _ => False) (w33) 3 x.2.1 x.2.2 x.1 ((T.bputL (l.take x.1) N).2) ∧ InT A (w33) (.mk f l) (.agg #[.int .i64 f, .slice a l.length c])) ((0, none, 0)) ⟨rfl, rfl, rfl, rfl, rfl, rfl, rfl, rfl, rfl, rfl, trivial⟩ ?_ ?_
 ·exact ⟨Nat.zero_le _, hC32, (fun b e => nomatch e), hB27, hB29, hB31, (by simpa [T.sizeL, T.gndL] using hB22), hj0, hr0, ht0⟩
 ·rintro x w33 ⟨hkx, hCx, hownx, hB34, hB35, hB36, hB37, ho38, ho39, ho40⟩
  have hlk : (T.bputL (l.take x.1) N).2.length = x.1 := by rw [bputL_len, List.length_take]; omega
  have hpo := bputL_ok (l.take x.1) N hK.ok
  have htk := T.sizeL_take_le l x.1
  have hle9 := hpo.1.le
  obtain ⟨Z9, hK9, hZ9, hX9⟩ := ho38
  have hZ9l := hK9.lt
  have hwx := hCx.size
  have hrl := ho39.lt
  obtain ⟨_, a_, c_, e_, _, _, hts9⟩ := ho40.form
  simp only [T.f_mk, T.args_mk, Value.agg.injEq, Array.mk.injEq, List.cons.injEq, and_true, true_and, Value.slice.injEq] at e_ hts9
  obtain ⟨rfl, rfl⟩ := e_
  refine WC.seq (WC.region ?_)
  refine WL.val (.bool ((decide ((((x.1 : Nat) : Int) : Int) < (((l.length : Nat) : Int) : Int))))) rfl rfl rfl (fun za zC zh zk => lss_3 rfl (zh.ev rfl) (zh.ev rfl) zk) ?_
  refine WL.nil (WE.next (WC.seq ?_))
  refine WC.cond rfl (fun h41 => ?_) (fun h41 => ?_)
  ·have h41 : (((x.1 : Nat) : Int) : Int) < (((l.length : Nat) : Int) : Int) := by simpa using h41
   refine WC.skip (WE.next (WC.seq (WC.block (WC.seq (WC.region ?_)))))
   obtain ⟨b42, o43, A44, C45, ha46, hc47⟩ := InTs.open hts9
   refine WL.val _ rfl rfl rfl (fun za zC zh zk => ix_25 (k := x.1) rfl (zh.ev rfl) (ha46 x.1 (by first | omega | (simp; omega))) (zh.ev rfl) (by first | omega | (simp; omega)) zk) ?_
   refine WL.val _ rfl rfl rfl (fun za zC zh zk => ld_35 rfl (zh.ev rfl) (hc47 x.1 (by first | omega | (simp; omega))).1 (hc47 x.1 (by first | omega | (simp; omega))).2.1 zk) ?_
   refine WL.step (post := NewBlk w33 35 #[.int .i64 0, .slice none 0 0]) rfl rfl rfl (fun za zC zh zk => alloc_35 rfl (zk _ _ (newBlk _ _ _))) ?_
   rintro _ w48 ⟨g49, rfl, hg50, hB51, hb52, hz53⟩
   have hl54 : gw < g49 := by have z1 := hB34.lt; omega
   have hl55 : gb < g49 := by have z1 := hB35.lt; omega
   have hl56 : g2 < g49 := by have z1 := hB36.lt; omega
   have hl57 : g11 < g49 := by have z1 := hB37.lt; omega
   have hl58 : w33.heap.size ≤ g49 := by omega
   refine WL.step (post := fun _ w' => Upd g49 w48 w' ∧ Blk w' g49 35 #[.int .i64 ((tget l x.1).f), .slice ((A44 x.1)) ((tget l x.1).args.length) ((C45 x.1))]) rfl rfl rfl (fun za zC zh zk => st_35 rfl (zh.ev rfl) (zh.ev rfl) rfl rfl hB51 (by first | decide | simp) (fun v => zk v _ ⟨(Upd.at_ _ _ _ _).trans (Upd.at_ _ _ _ _), (hB51.set_ 0 _).set_ 1 _⟩)) ?_
   rintro v62 w59 ⟨hu60, hB61⟩
   have hb63 := upd_below hb52 hu60 (by omega)
   have hB64 := hB34.below hb52
   have hB65 := upd_blk hB64 hu60 (by omega)
   have hB66 := hB35.below hb52
   have hB67 := upd_blk hB66 hu60 (by omega)
   have hB68 := hB36.below hb52
   have hB69 := upd_blk hB68 hu60 (by omega)
   have hB70 := hB37.below hb52
   have hB71 := upd_blk hB70 hu60 (by omega)
   refine WL.nil (WE.next (WC.seq (WC.region ?_)))
   refine WL.val _ rfl rfl rfl (fun za zC zh zk => ld_73 rfl (zh.ev rfl) ((hB65.cell 0).trans rfl) zk) ?_
   refine WL.val _ rfl rfl rfl (fun za zC zh zk => ld_35 rfl (zh.ev rfl) ((hB61.cell 0).trans rfl) ((hB61.cell 1).trans rfl) zk) ?_
   have ho72 := hK9.below hb63
   have ho73 := ho39.below hb63
   have ho74 := ho40.below hb63
   have hg3c := hB69.lt
   have hg6c := hB71.lt
   have hmem9 : tget l x.1 ∈ l := tget_mem (by omega)
   have hsz9 := T.sizeL_take_succ l x.1 (by omega)
   have htg9 := tget_lt (show x.1 < l.length by omega)
   rw [← htg9] at hsz9
   have hst9 := T.sizeL_take_le l (x.1 + 1)
   have hWL9 : w33.heap.size ≤ w59.heap.size := hb63.size
   have hg8Z : ¬ Z9 g49 := fun q => by have z := hZ9l _ q; omega
   have hC80 := Chg.trans hCx (.ofBelow hb63)
   refine WL.call rfl rfl rfl (fun za zh zC => wp_callv (by kernel_rfl) rfl (zh.ev rfl) (hv1 (zh.ev rfl))) (ih _ hmem9 (T.bputL (l.take x.1) N).1 Z9 A _ _ (by omega) (by omega) ho72 hB65 hB67 (fun k => hX9 _ (.inr (.inr (.inl rfl))) k) (fun k => hX9 _ (.inr (.inr (.inr (.inl rfl)))) k) (InT.below hb63 (hc47 x.1 (by first | omega | (simp; omega))).2.2) (fun b q => ⟨fun k => hX9 b (.inr (.inr (.inr (.inr (.inl q))))) k, by have z := (hA b q).2; omega⟩)) ?_
   rintro _ w81 ⟨rfl, ⟨Z75, hK76, hZ77⟩, hc78⟩
   have hC82 := chg_fresh hC80 hc78 (fun b q => hZ9 b q)
   have hr83 := ho73.chg hc78 (fun b q k => hX9 b (.inr (.inr (.inr (.inr (.inr q))))) k) (fun b q => q.elim)
   have ht84 := ho74.chg hc78 (fun b q k => hX9 b (.inr (.inr (.inr (.inr (.inl q))))) k)
   have hB85 := chg_blk hB65 hc78 (fun k => hX9 _ (.inr (.inr (.inl rfl))) k)
   have hB86 := chg_blk hB67 hc78 (fun k => hX9 _ (.inr (.inr (.inr (.inl rfl)))) k)
   have hB87 := chg_blk hB69 hc78 (fun k => hX9 _ (.inl rfl) k)
   have hB88 := chg_blk hB71 hc78 (fun k => hX9 _ (.inr (.inl rfl)) k)
   have hB89 := chg_blk hB61 hc78 (hg8Z)
   have hpn9 := bput_ok (tget l x.1) (T.bputL (l.take x.1) N).1 hK9.ok
   have hK8l := hK76.lt
   refine WL.asg rfl rfl rfl rfl rfl (WL.nil (WE.next (WC.seq (WC.region (WL.mv rfl rfl rfl rfl rfl (WL.mv rfl rfl rfl rfl rfl ?_))))))
   refine WL.step (post := NewRow w81 3 #[.int .i64 (((((tget l x.1).bput (T.bputL (l.take x.1) N).1).2 : Nat) : Int))] 1) rfl rfl rfl (fun za zC zh zk => row_31_1 rfl (zh.ev rfl) (zk _ _ (newRow _ _ _ _))) ?_
   rintro _ w90 ⟨g91, rfl, hg92, hB93, hb94, hz95⟩
   have hl96 : gw < g91 := by have z1 := hB85.lt; omega
   have hl97 : gb < g91 := by have z1 := hB86.lt; omega
   have hl98 : g2 < g91 := by have z1 := hB87.lt; omega
   have hl99 : g11 < g91 := by have z1 := hB88.lt; omega
   have hl100 : g49 < g91 := by have z1 := hB89.lt; omega
   have hl101 : w81.heap.size ≤ g91 := by omega
   have ho102 := hr83.below hb94
   have ho103 := ht84.below hb94
   have ho104 := hK76.below hb94
   have hB105 := hB85.below hb94
   have hB106 := hB86.below hb94
   have hB107 := hB87.below hb94
   have hB108 := hB88.below hb94
   have hB109 := hB89.below hb94
   have hrl7 := ho102.lt
   have hq7l := ho104.lt
   have hK8x : ∀ b, obk x.2.1 x.1 x.2.2 = some b → ¬ Z75 b := fun b q k => by rcases hZ77 b k with z | z; exact hX9 b (.inr (.inr (.inr (.inr (.inr q))))) z; (have z2 := hrl b q; omega)
   have hWR : w59.heap.size ≤ w90.heap.size := (Nat.le_trans hc78.size hb94.size)
   have hWc : w81.heap.size ≤ w90.heap.size := hb94.size
   refine WL.step (post := fun v w' => ∃ ra rc, v = .slice ra (x.1 + 1) rc ∧ RowD eltN (fun _ => False) w' 3 ra rc ((x.1 + 1)) (((T.bputL (l.take x.1) N).2 ++ [((tget l x.1).bput (T.bputL (l.take x.1) N).1).2])) ∧ Chg (fun b => obk x.2.1 x.1 x.2.2 = some b) w90 w' ∧ ∀ b, obk ra ((x.1 + 1)) rc = some b → obk x.2.1 x.1 x.2.2 = some b ∨ w90.heap.size ≤ b) rfl rfl rfl (fun za zC zh zk => wp_appD (E := eltN) (S2 := fun _ => False) (y := ((tget l x.1).bput (T.bputL (l.take x.1) N).1).2) (size := 1) (bytes := 8) (z := .int .i64 0) rfl Try.underlying31 (by kernel_rfl) rfl (by decide) rfl (zh.ev rfl) (zh.ev rfl) ho102 hB93 rfl (fun b q => q.elim) (by omega) (by omega) (fun ra rc w' h1 h2 h3 => zk _ _ ⟨ra, rc, rfl, h1.mono (fun b q _ => by rcases q.1 with q | q <;> exact q) (fun b q => q.elim), h2, h3⟩)) ?_
   rintro _ w110 ⟨ra111, rc112, rfl, hr113, hc114, ho115⟩
   have hC116 := Chg.trans hC82 (.ofBelow hb94)
   have hC117 := chg_fresh hC116 hc114 (fun b q => .inr (hownx b q))
   have ht118 := ho103.chg hc114 (fun b q k => by have z := (hA b q).2; have z2 := hownx b k; omega)
   have hK119 := ho104.chg hc114 (fun b q k => hK8x b k q)
   have hB120 := chg_blk hB105 hc114 (fun k => by have z := hownx _ k; omega)
   have hB121 := chg_blk hB106 hc114 (fun k => by have z := hownx _ k; omega)
   have hB122 := chg_blk hB107 hc114 (fun k => (RowD.neBlk ho102 hB107 (by decide)) k)
   have hB123 := chg_blk hB108 hc114 (fun k => (RowD.neBlk ho102 hB108 (by decide)) k)
   refine WL.asg rfl rfl rfl rfl rfl (WL.nil (WE.next (WC.seq ?_)))
   obtain ⟨So124, mo124, lao124, lco124, Lo124, Ro124, hbo124, hwo124, hzo124, hlo124⟩ := id hK119
   have hno124 := hwo124.len
   obtain ⟨bo124, Ao124, Co124, eo124, hoo124, hco124⟩ := hbo124.opn (by omega)
   have hK8g : ¬ Z75 g11 := fun q => by rcases hZ77 _ q with z | z; exact hX9 _ (.inr (.inl rfl)) z; omega
   have hid9 := hpn9.2.1
   have htl9 := hwo124.tell ((tget l x.1).bput (T.bputL (l.take x.1) N).1).2 (by omega)
   have htm9 : tmE ((tget l x.1).bput (T.bputL (l.take x.1) N).1).1 ((tget l x.1).bput (T.bputL (l.take x.1) N).1).2 = tget l x.1 := hpn9.2.2.1
   rw [htm9] at htl9
   have hSlt : ∀ b, b = g11 → b < w110.heap.size := fun b e => e ▸ hB123.lt
   refine WC.tail1 (S := ((fun b => b = g11))) [(true, .val (.pointer (some ⟨g11, 0, none⟩))), (true, .val (.int .i64 ((((1 + T.sizeL (l.take x.1)) : Nat) : Int)))), (true, .val (.pointer (some ⟨g, 0, none⟩))), (true, .val (.pointer (some ⟨g, 0, none⟩))), (true, .val (.pointer (some ⟨g, 1, none⟩))), (true, .val (.slice lao124 Lo124.length lco124)), (true, .val (.int .i64 (((((tget l x.1).bput (T.bputL (l.take x.1) N).1).2 : Nat) : Int)))), (true, .val (.pointer (some ⟨bo124, 0 + (((tget l x.1).bput (T.bputL (l.take x.1) N).1).2) * 5, none⟩))), (true, .val (.pointer (some ⟨bo124, 0 + (((tget l x.1).bput (T.bputL (l.take x.1) N).1).2) * 5, none⟩))), (true, .val (.pointer (some ⟨bo124, 0 + (((tget l x.1).bput (T.bputL (l.take x.1) N).1).2) * 5, none⟩))), (true, .val (.int .i64 ((((xget Lo124 (((tget l x.1).bput (T.bputL (l.take x.1) N).1).2)).sz : Nat) : Int)))), (true, .val (.int .i64 ((((1 + T.sizeL (l.take (x.1 + 1))) : Nat) : Int)))), (true, .val (.pointer (some ⟨g11, 0, none⟩))), (true, .val undef)] [(0, .agg #[.int .i64 f, .slice a l.length c]), (1, .pointer (some ⟨gw, 0, none⟩)), (2, .pointer (some ⟨gb, 0, none⟩)), (3, .pointer (some ⟨g2, 0, none⟩)), (4, .int .i64 0), (5, .slice ra111 ((x.1 + 1)) rc112), (6, .pointer (some ⟨g11, 0, none⟩)), (8, .pointer (some ⟨g49, 0, none⟩)), (9, .int .i64 (((((tget l x.1).bput (T.bputL (l.take x.1) N).1).2 : Nat) : Int))), (21, .slice a l.length c), (22, .int .i64 (((l.length : Nat) : Int))), (23, .int .i64 (((x.1 : Nat) : Int))), (24, .bool ((decide ((((x.1 : Nat) : Int) : Int) < (((l.length : Nat) : Int) : Int)))))] 13 (fun wz => Blk wz g11 81 #[.int .i64 ((((1 + T.sizeL (l.take (x.1 + 1))) : Nat) : Int)), .bool ((decide (0 ≤ f) && T.gndL (l.take x.1)))]) (fun w1 w2 hb h => h.below hb) ⟨rfl, rfl, rfl, rfl, rfl, rfl, rfl, rfl, rfl, rfl, rfl, rfl, rfl, trivial⟩ (by kernel_rfl) (by kernel_rfl) (by kernel_rfl) (by kernel_rfl) ?_ ?_
   ·refine ⟨.inl ⟨rfl, true, .none rfl, (fun gg b h => by cases h), fun h w => optUndef h, fun zβ za zw zc => ?_⟩, ?_⟩
    ·exact fld_81_0 rfl (zc.kn.ev rfl) ⟨_, rfl, Below.refl _ _, optDef zβ rfl⟩
    refine ⟨.inl ⟨rfl, true, .none rfl, (fun gg b h => by cases h), fun h w => optUndef h, fun zβ za zw zc => ?_⟩, ?_⟩
    ·exact ld_3 rfl ((evt za 34).trans (optSVal (zc.dep 0 34 (by kernel_rfl) (by decide)) rfl rfl)) (bkeeps (zc.early (by kernel_rfl)) _ _ ((hB123.cell 0).trans rfl)) ⟨_, rfl, Below.refl _ _, optDef zβ rfl⟩
    refine ⟨.inl ⟨rfl, true, .none rfl, (fun gg b h => by cases h), fun h w => optUndef h, fun zβ za zw zc => ?_⟩, ?_⟩
    ·exact ld_26 rfl (zc.kn.ev rfl) (bkeeps (zc.early (by kernel_rfl)) _ _ ((hB121.cell 0).trans rfl)) ⟨_, rfl, Below.refl _ _, optDef zβ rfl⟩
    refine ⟨.inl ⟨rfl, true, .none rfl, (fun gg b h => by cases h), fun h w => optUndef h, fun zβ za zw zc => ?_⟩, ?_⟩
    ·exact nilCheck_ rfl ((evt za 36).trans (optSVal (zc.dep 2 36 (by kernel_rfl) (by decide)) rfl rfl)) ⟨_, rfl, Below.refl _ _, optDef zβ rfl⟩
    refine ⟨.inl ⟨rfl, true, .none rfl, (fun gg b h => by cases h), fun h w => optUndef h, fun zβ za zw zc => ?_⟩, ?_⟩
    ·exact fld_70_1 rfl ((evt za 37).trans (optSVal (zc.dep 3 37 (by kernel_rfl) (by decide)) rfl rfl)) ⟨_, rfl, Below.refl _ _, optDef zβ rfl⟩
    refine ⟨.inl ⟨rfl, true, .none rfl, (fun gg b h => by cases h), fun h w => optUndef h, fun zβ za zw zc => ?_⟩, ?_⟩
    ·exact ld_68 rfl ((evt za 38).trans (optSVal (zc.dep 4 38 (by kernel_rfl) (by decide)) rfl rfl)) (bkeeps (zc.early (by kernel_rfl)) _ _ hbo124.c1) ⟨_, rfl, Below.refl _ _, optDef zβ rfl⟩
    refine ⟨.inl ⟨rfl, true, .none rfl, (fun gg b h => by cases h), fun h w => optUndef h, fun zβ za zw zc => ?_⟩, ?_⟩
    ·exact wp_move rfl (zc.kn.ev rfl) ⟨_, rfl, Below.refl _ _, optDef zβ rfl⟩
    refine ⟨.inl ⟨rfl, true, .none rfl, (fun gg b h => by cases h), fun h w => optUndef h, fun zβ za zw zc => ?_⟩, ?_⟩
    ·exact ix_68 (k := ((tget l x.1).bput (T.bputL (l.take x.1) N).1).2) rfl ((evt za 39).trans (optSVal (zc.dep 5 39 (by kernel_rfl) (by decide)) rfl rfl)) eo124 ((evt za 40).trans (optSVal (zc.dep 6 40 (by kernel_rfl) (by decide)) rfl rfl)) (by first | omega | (simp; omega)) ⟨_, rfl, Below.refl _ _, optDef zβ rfl⟩
    refine ⟨.inl ⟨rfl, true, .none rfl, (fun gg b h => by cases h), fun h w => optUndef h, fun zβ za zw zc => ?_⟩, ?_⟩
    ·exact fld_83_0 rfl ((evt za 41).trans (optSVal (zc.dep 7 41 (by kernel_rfl) (by decide)) rfl rfl)) ⟨_, rfl, Below.refl _ _, optDef zβ rfl⟩
    refine ⟨.inl ⟨rfl, true, .none rfl, (fun gg b h => by cases h), fun h w => optUndef h, fun zβ za zw zc => ?_⟩, ?_⟩
    ·exact fld_81_0 rfl ((evt za 42).trans (optSVal (zc.dep 8 42 (by kernel_rfl) (by decide)) rfl rfl)) ⟨_, rfl, Below.refl _ _, optDef zβ rfl⟩
    refine ⟨.inl ⟨rfl, true, .none rfl, (fun gg b h => by cases h), fun h w => optUndef h, fun zβ za zw zc => ?_⟩, ?_⟩
    ·exact ld_3 rfl ((evt za 43).trans (optSVal (zc.dep 9 43 (by kernel_rfl) (by decide)) rfl rfl)) (bkeeps (zc.early (by kernel_rfl)) _ _ (hco124 (((tget l x.1).bput (T.bputL (l.take x.1) N).1).2) (by first | omega | (simp; omega))).1) ⟨_, rfl, Below.refl _ _, optDef zβ rfl⟩
    refine ⟨.inl ⟨rfl, true, .none rfl, (fun gg b h => by cases h), fun h w => optUndef h, fun zβ za zw zc => ?_⟩, ?_⟩
    ·exact addb_3 rfl ((evt za 35).trans (optSVal (zc.dep 1 35 (by kernel_rfl) (by decide)) rfl rfl)) ((evt za 44).trans (optSVal (zc.dep 10 44 (by kernel_rfl) (by decide)) rfl rfl)) (wrap_eq (by omega) (by omega) (by omega)) ⟨_, rfl, Below.refl _ _, optDef zβ rfl⟩
    refine ⟨.inl ⟨rfl, true, .none rfl, (fun gg b h => by cases h), fun h w => optUndef h, fun zβ za zw zc => ?_⟩, ?_⟩
    ·exact fld_81_0 rfl (zc.kn.ev rfl) ⟨_, rfl, Below.refl _ _, optDef zβ rfl⟩
    refine ⟨.inr ⟨rfl, rfl, fun za zw zc => ?_⟩, ?_⟩
    ·exact st_3 rfl ((evt za 46).trans (optSVal (zc.dep 12 46 (by kernel_rfl) (by decide)) rfl rfl)) ((evt za 45).trans (optSVal (zc.dep 11 45 (by kernel_rfl) (by decide)) rfl rfl)) (hB123.below zc.below) (by first | decide | simp) (fun v => ⟨v, rfl, (hB123.below zc.below).set_ 0 _, .ofUpd (Upd.at_ _ _ _ _) rfl⟩)
    exact trivial
   ·intro za w125 zh hG126 hc127 zu
    have hC128 := chg_fresh hC117 hc127 (fun b e => .inr (by rw [show b = g11 from e]; exact hg6w))
    have hr129 := hr113.chg hc127 (fun b q k => (RowD.neBlk hr113 hB123 (by decide)) ((show b = g11 from k) ▸ q)) (fun b q => q.elim)
    have ht130 := ht118.chg hc127 (fun b q k => by have z := (hA b q).2; have z2 : b = g11 := k; omega)
    have hK131 := hK119.chg hc127 (fun b q k => by have z2 : b = g11 := k; rw [z2] at q; exact hK8g q)
    have hB132 := chg_blk hB120 hc127 (fun k => by have z2 : gw = g11 := k; omega)
    have hB133 := chg_blk hB121 hc127 (fun k => by have z2 : gb = g11 := k; omega)
    have hB134 := chg_blk hB122 hc127 (fun k => hg36 k)
    clear zu
    refine WE.go zh ?_
    refine WE.next ?_
    obtain ⟨So135, mo135, lao135, lco135, Lo135, Ro135, hbo135, hwo135, hzo135, hlo135⟩ := id hK131
    have hno135 := hwo135.len
    obtain ⟨bo135, Ao135, Co135, eo135, hoo135, hco135⟩ := hbo135.opn (by omega)
    have hid9 := hpn9.2.1
    have htl9 := hwo135.tell ((tget l x.1).bput (T.bputL (l.take x.1) N).1).2 (by omega)
    have htm9 : tmE ((tget l x.1).bput (T.bputL (l.take x.1) N).1).1 ((tget l x.1).bput (T.bputL (l.take x.1) N).1).2 = tget l x.1 := hpn9.2.2.1
    rw [htm9] at htl9
    have hSlt : ∀ b, b = g11 → b < w125.heap.size := fun b e => e ▸ hG126.lt
    refine WC.tail1 (S := ((fun b => b = g11))) [(true, .val (.pointer (some ⟨g11, 1, none⟩))), (true, .val (.bool ((decide (0 ≤ f) && T.gndL (l.take x.1))))), (true, .val (.bool ((decide (0 ≤ f) && T.gndL (l.take x.1))))), ((true && (decide (0 ≤ f) && T.gndL (l.take x.1))), .val (.pointer (some ⟨g, 0, none⟩))), ((true && (decide (0 ≤ f) && T.gndL (l.take x.1))), .val (.pointer (some ⟨g, 0, none⟩))), ((true && (decide (0 ≤ f) && T.gndL (l.take x.1))), .val (.pointer (some ⟨g, 1, none⟩))), ((true && (decide (0 ≤ f) && T.gndL (l.take x.1))), .val (.slice lao135 Lo135.length lco135)), ((true && (decide (0 ≤ f) && T.gndL (l.take x.1))), .val (.int .i64 (((((tget l x.1).bput (T.bputL (l.take x.1) N).1).2 : Nat) : Int)))), ((true && (decide (0 ≤ f) && T.gndL (l.take x.1))), .val (.pointer (some ⟨bo135, 0 + (((tget l x.1).bput (T.bputL (l.take x.1) N).1).2) * 5, none⟩))), ((true && (decide (0 ≤ f) && T.gndL (l.take x.1))), .val (.pointer (some ⟨bo135, 0 + (((tget l x.1).bput (T.bputL (l.take x.1) N).1).2) * 5, none⟩))), ((true && (decide (0 ≤ f) && T.gndL (l.take x.1))), .val (.pointer (some ⟨bo135, 0 + (((tget l x.1).bput (T.bputL (l.take x.1) N).1).2) * 5 + 1, none⟩))), ((true && (decide (0 ≤ f) && T.gndL (l.take x.1))), .val (.bool ((xget Lo135 (((tget l x.1).bput (T.bputL (l.take x.1) N).1).2)).gr))), (true, .val (.bool (((decide (0 ≤ f) && T.gndL (l.take x.1)) && (xget Lo135 (((tget l x.1).bput (T.bputL (l.take x.1) N).1).2)).gr)))), (true, .val (.pointer (some ⟨g11, 1, none⟩))), (true, .val undef)] [(0, .agg #[.int .i64 f, .slice a l.length c]), (1, .pointer (some ⟨gw, 0, none⟩)), (2, .pointer (some ⟨gb, 0, none⟩)), (3, .pointer (some ⟨g2, 0, none⟩)), (4, .int .i64 0), (5, .slice ra111 ((x.1 + 1)) rc112), (6, .pointer (some ⟨g11, 0, none⟩)), (8, .pointer (some ⟨g49, 0, none⟩)), (9, .int .i64 (((((tget l x.1).bput (T.bputL (l.take x.1) N).1).2 : Nat) : Int))), (21, .slice a l.length c), (22, .int .i64 (((l.length : Nat) : Int))), (23, .int .i64 (((x.1 : Nat) : Int))), (24, .bool ((decide ((((x.1 : Nat) : Int) : Int) < (((l.length : Nat) : Int) : Int)))))] 14 (fun wz => Blk wz g11 81 #[.int .i64 ((((1 + T.sizeL (l.take (x.1 + 1))) : Nat) : Int)), .bool (((decide (0 ≤ f) && T.gndL (l.take x.1)) && (xget Lo135 ((tget l x.1).bput (T.bputL (l.take x.1) N).1).2).gr))]) (fun w1 w2 hb h => h.below hb) ⟨rfl, rfl, rfl, rfl, rfl, rfl, rfl, rfl, rfl, rfl, rfl, rfl, rfl, trivial⟩ (by kernel_rfl) (by kernel_rfl) (by kernel_rfl) (by kernel_rfl) ?_ ?_
    ·refine ⟨.inl ⟨rfl, true, .none rfl, (fun gg b h => by cases h), fun h w => optUndef h, fun zβ za zw zc => ?_⟩, ?_⟩
     ·exact fld_81_1 rfl (zc.kn.ev rfl) ⟨_, rfl, Below.refl _ _, optDef zβ rfl⟩
     refine ⟨.inl ⟨rfl, true, .none rfl, (fun gg b h => by cases h), fun h w => optUndef h, fun zβ za zw zc => ?_⟩, ?_⟩
     ·exact ld_4 rfl ((evt za 47).trans (optSVal (zc.dep 0 47 (by kernel_rfl) (by decide)) rfl rfl)) (bkeeps (zc.early (by kernel_rfl)) _ _ ((hG126.cell 1).trans rfl)) ⟨_, rfl, Below.refl _ _, optDef zβ rfl⟩
     refine ⟨.inl ⟨rfl, true, .none rfl, (fun gg b h => by cases h), fun h w => optUndef h, fun zβ za zw zc => ?_⟩, ?_⟩
     ·exact wp_move rfl ((evt za 48).trans (optSVal (zc.dep 1 48 (by kernel_rfl) (by decide)) rfl rfl)) ⟨_, rfl, Below.refl _ _, optDef zβ rfl⟩
     refine ⟨.inl ⟨rfl, (true && (decide (0 ≤ f) && T.gndL (l.take x.1))), .yes (c := (decide (0 ≤ f) && T.gndL (l.take x.1))) (d := true) rfl (fun v w h => h), (fun gg b h => by cases h; rfl), fun h w => optUndef h, fun zβ za zw zc => ?_⟩, ?_⟩
     ·exact ld_26 rfl (zc.kn.ev rfl) (bkeeps (zc.early (by kernel_rfl)) _ _ ((hB133.cell 0).trans rfl)) ⟨_, rfl, Below.refl _ _, optDef zβ rfl⟩
     refine ⟨.inl ⟨rfl, (true && (decide (0 ≤ f) && T.gndL (l.take x.1))), .yes (c := (decide (0 ≤ f) && T.gndL (l.take x.1))) (d := true) rfl (fun v w h => h), (fun gg b h => by cases h; rfl), fun h w => optUndef h, fun zβ za zw zc => ?_⟩, ?_⟩
     ·exact nilCheck_ rfl ((evt za 50).trans (optSVal (zc.dep 3 50 (by kernel_rfl) (by decide)) rfl zβ)) ⟨_, rfl, Below.refl _ _, optDef zβ rfl⟩
     refine ⟨.inl ⟨rfl, (true && (decide (0 ≤ f) && T.gndL (l.take x.1))), .yes (c := (decide (0 ≤ f) && T.gndL (l.take x.1))) (d := true) rfl (fun v w h => h), (fun gg b h => by cases h; rfl), fun h w => optUndef h, fun zβ za zw zc => ?_⟩, ?_⟩
     ·exact fld_70_1 rfl ((evt za 51).trans (optSVal (zc.dep 4 51 (by kernel_rfl) (by decide)) rfl zβ)) ⟨_, rfl, Below.refl _ _, optDef zβ rfl⟩
     refine ⟨.inl ⟨rfl, (true && (decide (0 ≤ f) && T.gndL (l.take x.1))), .yes (c := (decide (0 ≤ f) && T.gndL (l.take x.1))) (d := true) rfl (fun v w h => h), (fun gg b h => by cases h; rfl), fun h w => optUndef h, fun zβ za zw zc => ?_⟩, ?_⟩
     ·exact ld_68 rfl ((evt za 52).trans (optSVal (zc.dep 5 52 (by kernel_rfl) (by decide)) rfl zβ)) (bkeeps (zc.early (by kernel_rfl)) _ _ hbo135.c1) ⟨_, rfl, Below.refl _ _, optDef zβ rfl⟩
     refine ⟨.inl ⟨rfl, (true && (decide (0 ≤ f) && T.gndL (l.take x.1))), .yes (c := (decide (0 ≤ f) && T.gndL (l.take x.1))) (d := true) rfl (fun v w h => h), (fun gg b h => by cases h; rfl), fun h w => optUndef h, fun zβ za zw zc => ?_⟩, ?_⟩
     ·exact wp_move rfl (zc.kn.ev rfl) ⟨_, rfl, Below.refl _ _, optDef zβ rfl⟩
     refine ⟨.inl ⟨rfl, (true && (decide (0 ≤ f) && T.gndL (l.take x.1))), .yes (c := (decide (0 ≤ f) && T.gndL (l.take x.1))) (d := true) rfl (fun v w h => h), (fun gg b h => by cases h; rfl), fun h w => optUndef h, fun zβ za zw zc => ?_⟩, ?_⟩
     ·exact ix_68 (k := ((tget l x.1).bput (T.bputL (l.take x.1) N).1).2) rfl ((evt za 53).trans (optSVal (zc.dep 6 53 (by kernel_rfl) (by decide)) rfl zβ)) eo135 ((evt za 54).trans (optSVal (zc.dep 7 54 (by kernel_rfl) (by decide)) rfl zβ)) (by first | omega | (have zz := zβ; simp only [Bool.and_eq_true, Bool.or_eq_true, Bool.true_and, Bool.not_eq_true', Bool.or_eq_false_iff, Bool.and_eq_false_iff, beq_eq_false_iff_ne, ne_eq, beq_iff_eq, decide_eq_true_eq, decide_eq_false_iff_not, bne_iff_ne, bne_eq_false_iff_eq] at zz; omega)) ⟨_, rfl, Below.refl _ _, optDef zβ rfl⟩
     refine ⟨.inl ⟨rfl, (true && (decide (0 ≤ f) && T.gndL (l.take x.1))), .yes (c := (decide (0 ≤ f) && T.gndL (l.take x.1))) (d := true) rfl (fun v w h => h), (fun gg b h => by cases h; rfl), fun h w => optUndef h, fun zβ za zw zc => ?_⟩, ?_⟩
     ·exact fld_83_0 rfl ((evt za 55).trans (optSVal (zc.dep 8 55 (by kernel_rfl) (by decide)) rfl zβ)) ⟨_, rfl, Below.refl _ _, optDef zβ rfl⟩
     refine ⟨.inl ⟨rfl, (true && (decide (0 ≤ f) && T.gndL (l.take x.1))), .yes (c := (decide (0 ≤ f) && T.gndL (l.take x.1))) (d := true) rfl (fun v w h => h), (fun gg b h => by cases h; rfl), fun h w => optUndef h, fun zβ za zw zc => ?_⟩, ?_⟩
     ·exact fld_81_1 rfl ((evt za 56).trans (optSVal (zc.dep 9 56 (by kernel_rfl) (by decide)) rfl zβ)) ⟨_, rfl, Below.refl _ _, optDef zβ rfl⟩
     refine ⟨.inl ⟨rfl, (true && (decide (0 ≤ f) && T.gndL (l.take x.1))), .yes (c := (decide (0 ≤ f) && T.gndL (l.take x.1))) (d := true) rfl (fun v w h => h), (fun gg b h => by cases h; rfl), fun h w => optUndef h, fun zβ za zw zc => ?_⟩, ?_⟩
     ·exact ld_4 rfl ((evt za 57).trans (optSVal (zc.dep 10 57 (by kernel_rfl) (by decide)) rfl zβ)) (bkeeps (zc.early (by kernel_rfl)) _ _ (hco135 (((tget l x.1).bput (T.bputL (l.take x.1) N).1).2) (by first | omega | (have zz := zβ; simp only [Bool.and_eq_true, Bool.or_eq_true, Bool.true_and, Bool.not_eq_true', Bool.or_eq_false_iff, Bool.and_eq_false_iff, beq_eq_false_iff_ne, ne_eq, beq_iff_eq, decide_eq_true_eq, decide_eq_false_iff_not, bne_iff_ne, bne_eq_false_iff_eq] at zz; omega))).2.1) ⟨_, rfl, Below.refl _ _, optDef zβ rfl⟩
     refine ⟨.inl ⟨rfl, true, .none rfl, (fun gg b h => by cases h), fun h w => optUndef h, fun zβ za zw zc => ?_⟩, ?_⟩
     ·exact wp_and rfl ((evt za 49).trans (optSVal (zc.dep 2 49 (by kernel_rfl) (by decide)) rfl rfl)) (fun hp => ((evt za 58).trans (optSVal (zc.dep 11 58 (by kernel_rfl) (by decide)) rfl (bMk rfl hp)))) ⟨_, rfl, Below.refl _ _, optDef zβ rfl⟩
     refine ⟨.inl ⟨rfl, true, .none rfl, (fun gg b h => by cases h), fun h w => optUndef h, fun zβ za zw zc => ?_⟩, ?_⟩
     ·exact fld_81_1 rfl (zc.kn.ev rfl) ⟨_, rfl, Below.refl _ _, optDef zβ rfl⟩
     refine ⟨.inr ⟨rfl, rfl, fun za zw zc => ?_⟩, ?_⟩
     ·exact st_4 rfl ((evt za 60).trans (optSVal (zc.dep 13 60 (by kernel_rfl) (by decide)) rfl rfl)) ((evt za 59).trans (optSVal (zc.dep 12 59 (by kernel_rfl) (by decide)) rfl rfl)) (hG126.below zc.below) (by first | decide | simp) (fun v => ⟨v, rfl, (hG126.below zc.below).set_ 1 _, .ofUpd (Upd.at_ _ _ _ _) rfl⟩)
     exact trivial
    ·intro za w136 zh hG137 hc138 zu
     have hC139 := chg_fresh hC128 hc138 (fun b e => .inr (by rw [show b = g11 from e]; exact hg6w))
     have hr140 := hr129.chg hc138 (fun b q k => (RowD.neBlk hr129 hG126 (by decide)) ((show b = g11 from k) ▸ q)) (fun b q => q.elim)
     have ht141 := ht130.chg hc138 (fun b q k => by have z := (hA b q).2; have z2 : b = g11 := k; omega)
     have hK142 := hK131.chg hc138 (fun b q k => by have z2 : b = g11 := k; rw [z2] at q; exact hK8g q)
     have hB143 := chg_blk hB132 hc138 (fun k => by have z2 : gw = g11 := k; omega)
     have hB144 := chg_blk hB133 hc138 (fun k => by have z2 : gb = g11 := k; omega)
     have hB145 := chg_blk hB134 hc138 (fun k => hg36 k)
     have hB146 : Blk w136 g11 81 #[.int .i64 ((((1 + T.sizeL (l.take (x.1 + 1))) : Nat) : Int)), .bool ((decide (0 ≤ f) && T.gndL (l.take (x.1 + 1))))] := by
      have e : (decide (0 ≤ f) && T.gndL (l.take (x.1 + 1))) = ((decide (0 ≤ f) && T.gndL (l.take x.1)) && (xget Lo135 ((tget l x.1).bput (T.bputL (l.take x.1) N).1).2).gr) := by rw [htl9.2, List.take_succ_eq_append_getElem (by omega), ← tget_lt (show x.1 < l.length by omega), gndL_snoc, Bool.and_assoc]
      rw [e]; exact hG137
     clear zu
     refine WE.go zh ?_
     refine WE.blockNormal (WE.next (WC.region ?_))
     refine WL.val (.int .i64 ((((x.1 + 1) : Nat) : Int))) rfl rfl rfl (fun za zC zh zk => addb_3 rfl (zh.ev rfl) (zh.ev rfl) (wrap_eq (by omega) (by omega) (by omega)) zk) ?_
     refine WL.mv rfl rfl rfl rfl rfl ?_
     refine WL.nil (WE.sub (K' := [(0, .agg #[.int .i64 f, .slice a l.length c]), (1, .pointer (some ⟨gw, 0, none⟩)), (2, .pointer (some ⟨gb, 0, none⟩)), (3, .pointer (some ⟨g2, 0, none⟩)), (4, .int .i64 0), (5, .slice ra111 ((x.1 + 1)) rc112), (6, .pointer (some ⟨g11, 0, none⟩)), (8, .pointer (some ⟨g49, 0, none⟩)), (9, .int .i64 (((((tget l x.1).bput (T.bputL (l.take x.1) N).1).2 : Nat) : Int))), (21, .slice a l.length c), (22, .int .i64 (((l.length : Nat) : Int))), (23, .int .i64 ((((x.1 + 1) : Nat) : Int))), (24, .bool ((decide ((((x.1 : Nat) : Int) : Int) < (((l.length : Nat) : Int) : Int)))))]) ⟨rfl, rfl, rfl, rfl, rfl, rfl, rfl, rfl, rfl, rfl, rfl, rfl, rfl, trivial⟩ ?_)
     refine WE.round ((x.1 + 1, ra111, rc112)) ⟨rfl, rfl, rfl, rfl, rfl, rfl, rfl, rfl, rfl, rfl, trivial⟩ ?_ ?_
     ·have hZW9 := hWR
      have hZa9 : w59.heap.size ≤ w90.heap.size := hWR
      have hj147 : BkJ w136 w.heap.size Z g sg ((T.bputL (l.take (x.1 + 1)) N).1) (fun b => b = g2 ∨ b = g11 ∨ b = gw ∨ b = gb ∨ A b ∨ obk ra111 ((x.1 + 1)) rc112 = some b) := by
       rw [bputL_take (by omega)]
       exact ⟨Z75, hK142, fun b q => by rcases hZ77 b q with z | z; exact hZ9 b z; (right; omega), fun b q k => by
        rcases hZ77 b k with z | z
        ·rcases q with q | q | q | q | q | q
         ·exact hX9 b (.inl q) z
         ·exact hX9 b (.inr (.inl q)) z
         ·exact hX9 b (.inr (.inr (.inl q))) z
         ·exact hX9 b (.inr (.inr (.inr (.inl q)))) z
         ·exact hX9 b (.inr (.inr (.inr (.inr (.inl q))))) z
         ·rcases ho115 b q with y | y
          ·exact hX9 b (.inr (.inr (.inr (.inr (.inr y))))) z
          ·have z3 := hZ9l b z; omega
        ·rcases q with q | q | q | q | q | q
         ·omega
         ·omega
         ·omega
         ·omega
         ·have z3 := (hA b q).2; omega
         ·rcases ho115 b q with y | y
          ·have z3 := hrl b y; omega
          ·have z3 := hq7l b k; omega⟩
      exact ⟨(by (try dsimp only); omega), hC139, (fun b e => by rcases ho115 b e with z | z; exact hownx b z; omega), hB143, hB144, hB145, hB146, hj147, (by (try dsimp only); rw [bputL_take (by omega)]; exact hr140), ht141⟩
     ·(try dsimp only); omega
  ·have h41 : ¬ ((((x.1 : Nat) : Int) : Int) < (((l.length : Nat) : Int) : Int)) := by simpa using h41
   refine WC.exit (WE.thenExit (WE.thenExit (WE.blockIs rfl (WE.next (WC.seq ?_)))))
   have hx1 : x.1 = l.length := by omega
   have hxb : ∀ q ∈ (T.bputL (l.take x.1) N).2, q < (T.bputL (l.take x.1) N).1.length := hpo.2.1
   have hNb := hpo.2.2.2
   have hxq : ∀ q ∈ (T.bputL (l.take x.1) N).2, q < 1048577 := fun q hq => by have z := hxb q hq; omega
   have hzo : EnOk (⟨f, (T.bputL (l.take x.1) N).2⟩ : En) := fun q hq => Nat.lt_trans (hxq q hq) (by decide)
   have hko := keyOf_any f (T.bputL (l.take x.1) N).2 (by omega) (fun q hq => Nat.lt_trans (hxq q hq) (by decide)) _ _ _ x.2.2 (RowD.inRowOwn ho39)
   rw [hlk] at hko
   have hcap17 := (RowD.inRow ho39).2.1
   have hbp : (T.mk f l).bput N = addE (T.bputL (l.take x.1) N).1 (⟨f, (T.bputL (l.take x.1) N).2⟩ : En) := by rw [hx1, List.take_length, T.bput]
   refine WC.region ?_
   refine WL.val _ rfl rfl rfl (fun za zC zh zk => fld_35_0 rfl (zh.ev rfl) zk) ?_
   refine WL.val _ rfl rfl rfl (fun za zC zh zk => ld_3 rfl (zh.ev rfl) ((hB36.cell 0).trans rfl) zk) ?_
   refine WL.mv rfl rfl rfl rfl rfl ?_
   refine WL.call rfl rfl rfl (fun za zh zC => wp_call (by kernel_rfl) rfl (hv2 (zh.ev rfl) (zh.ev rfl))) hko ?_
   rintro _ w148 ⟨rfl, hbk⟩
   refine WL.step (post := NewBlk w148 77 #[.int .i64 0, .string (⟨#[]⟩)]) rfl rfl rfl (fun za zC zh zk => alloc_77 rfl (zk _ _ (newBlk _ _ _))) ?_
   rintro _ w149 ⟨g150, rfl, hg151, hB152, hb153, hz154⟩
   have hl155 : gw < g150 := by have z1 := hB34.lt; have z2 := (hbk).size; omega
   have hl156 : gb < g150 := by have z1 := hB35.lt; have z2 := (hbk).size; omega
   have hl157 : g2 < g150 := by have z1 := hB36.lt; have z2 := (hbk).size; omega
   have hl158 : g11 < g150 := by have z1 := hB37.lt; have z2 := (hbk).size; omega
   have hl159 : w33.heap.size ≤ g150 := by have z2 := (hbk).size; omega
   refine WL.step (post := fun _ w' => Upd g150 w149 w' ∧ Blk w' g150 77 #[.int .i64 f, .string ((kba (T.bputL (l.take x.1) N).2))]) rfl rfl rfl (fun za zC zh zk => st_77 rfl (zh.ev rfl) (zh.ev rfl) rfl rfl hB152 (by first | decide | simp) (fun v => zk v _ ⟨(Upd.at_ _ _ _ _).trans (Upd.at_ _ _ _ _), (hB152.set_ 0 _).set_ 1 _⟩)) ?_
   rintro v163 w160 ⟨hu161, hB162⟩
   have hb164 : Below w33.heap.size w33 w149 := (bstep hbk hb153)
   have hb165 := upd_below hb164 hu161 (by omega)
   have hB166 := hB34.below hb164
   have hB167 := upd_blk hB166 hu161 (by omega)
   have hB168 := hB35.below hb164
   have hB169 := upd_blk hB168 hu161 (by omega)
   have hB170 := hB36.below hb164
   have hB171 := upd_blk hB170 hu161 (by omega)
   have hB172 := hB37.below hb164
   have hB173 := upd_blk hB172 hu161 (by omega)
   refine WL.nil (WE.next (WC.seq (WC.seq ?_)))
   have hs12 : w33.heap.size ≤ w148.heap.size := hbk.size
   have hg10Z : ¬ Z9 g150 := fun q => by have z := hZ9l _ q; omega
   have ho174 := hK9.below hb165
   obtain ⟨So175, mo175, lao175, lco175, Lo175, Ro175, hbo175, hwo175, hzo175, hlo175⟩ := id ho174
   have hno175 := hwo175.len
   have hc1o175 : w160.cell? ⟨g, 1, none⟩ = some (.slice lao175 (T.bputL (l.take x.1) N).1.length lco175) := by rw [← hno175]; exact hbo175.c1
   refine WC.opt [(true, .val (.pointer (some ⟨g, 0, none⟩))), (true, .val (.pointer (some ⟨g, 0, none⟩))), (true, .val (.pointer (some ⟨g, 2, none⟩))), (true, .val (.map ((some mo175)))), (true, .val (.agg #[.int .i64 f, .string ((kba (T.bputL (l.take x.1) N).2))])), (true, .val (.tuple #[.int .i64 (((((idxE (T.bputL (l.take x.1) N).1 (⟨f, (T.bputL (l.take x.1) N).2⟩ : En)).getD 0) : Nat) : Int)), .bool ((idxE (T.bputL (l.take x.1) N).1 (⟨f, (T.bputL (l.take x.1) N).2⟩ : En)).isSome)])), (true, .val (.tuple #[.int .i64 (((((idxE (T.bputL (l.take x.1) N).1 (⟨f, (T.bputL (l.take x.1) N).2⟩ : En)).getD 0) : Nat) : Int)), .bool ((idxE (T.bputL (l.take x.1) N).1 (⟨f, (T.bputL (l.take x.1) N).2⟩ : En)).isSome)])), (true, .val (.int .i64 (((((idxE (T.bputL (l.take x.1) N).1 (⟨f, (T.bputL (l.take x.1) N).2⟩ : En)).getD 0) : Nat) : Int)))), (true, .val (.bool ((idxE (T.bputL (l.take x.1) N).1 (⟨f, (T.bputL (l.take x.1) N).2⟩ : En)).isSome))), (true, .val (.int .i64 (((((idxE (T.bputL (l.take x.1) N).1 (⟨f, (T.bputL (l.take x.1) N).2⟩ : En)).getD 0) : Nat) : Int)))), (true, .val (.bool ((idxE (T.bputL (l.take x.1) N).1 (⟨f, (T.bputL (l.take x.1) N).2⟩ : En)).isSome)))] [(0, .agg #[.int .i64 f, .slice a l.length c]), (1, .pointer (some ⟨gw, 0, none⟩)), (2, .pointer (some ⟨gb, 0, none⟩)), (3, .pointer (some ⟨g2, 0, none⟩)), (4, .int .i64 0), (5, .slice x.2.1 x.1 x.2.2), (6, .pointer (some ⟨g11, 0, none⟩)), (10, .pointer (some ⟨g150, 0, none⟩)), (21, .slice a l.length c), (22, .int .i64 (((l.length : Nat) : Int))), (23, .int .i64 (((x.1 : Nat) : Int))), (24, .bool ((decide ((((x.1 : Nat) : Int) : Int) < (((l.length : Nat) : Int) : Int)))))] ⟨rfl, rfl, rfl, rfl, rfl, rfl, rfl, rfl, rfl, rfl, rfl, rfl, trivial⟩ (by kernel_rfl) (by kernel_rfl) (by kernel_rfl) ?_ ?_
   ·refine ⟨⟨true, .none rfl, fun h w => optUndef h, fun zβ za zw zc => ?_⟩, ?_⟩
    ·exact ld_26 rfl (zc.kn.ev rfl) (bkeeps zc.below _ _ ((hB169.cell 0).trans rfl)) ⟨_, rfl, Below.refl _ _, optDef zβ rfl⟩
    refine ⟨⟨true, .none rfl, fun h w => optUndef h, fun zβ za zw zc => ?_⟩, ?_⟩
    ·exact nilCheck_ rfl ((evt za 67).trans (optVal (zc.dep 0 67 (by kernel_rfl)) rfl rfl)) ⟨_, rfl, Below.refl _ _, optDef zβ rfl⟩
    refine ⟨⟨true, .none rfl, fun h w => optUndef h, fun zβ za zw zc => ?_⟩, ?_⟩
    ·exact fld_70_2 rfl ((evt za 68).trans (optVal (zc.dep 1 68 (by kernel_rfl)) rfl rfl)) ⟨_, rfl, Below.refl _ _, optDef zβ rfl⟩
    refine ⟨⟨true, .none rfl, fun h w => optUndef h, fun zβ za zw zc => ?_⟩, ?_⟩
    ·exact ld_67 rfl ((evt za 69).trans (optVal (zc.dep 2 69 (by kernel_rfl)) rfl rfl)) (bkeeps zc.below _ _ hbo175.c2) ⟨_, rfl, Below.refl _ _, optDef zβ rfl⟩
    refine ⟨⟨true, .none rfl, fun h w => optUndef h, fun zβ za zw zc => ?_⟩, ?_⟩
    ·exact ld_77 rfl (zc.kn.ev rfl) (bkeeps zc.below _ _ ((hB162.cell 0).trans rfl)) (bkeeps zc.below _ _ ((hB162.cell 1).trans rfl)) ⟨_, rfl, Below.refl _ _, optDef zβ rfl⟩
    refine ⟨⟨true, .none rfl, fun h w => optUndef h, fun zβ za zw zc => ?_⟩, ?_⟩
    ·exact wp_lookup_key (z := (⟨f, (T.bputL (l.take x.1) N).2⟩ : En)) hzo rfl ((evt za 70).trans (optVal (zc.dep 3 70 (by kernel_rfl)) rfl rfl)) ((evt za 71).trans (optVal (zc.dep 4 71 (by kernel_rfl)) rfl rfl)) (hbo175.map.below zc.below) ⟨_, rfl, Below.refl _ _, optDef zβ rfl⟩
    refine ⟨⟨true, .none rfl, fun h w => optUndef h, fun zβ za zw zc => ?_⟩, ?_⟩
    ·exact wp_move rfl ((evt za 72).trans (optVal (zc.dep 5 72 (by kernel_rfl)) rfl rfl)) ⟨_, rfl, Below.refl _ _, optDef zβ rfl⟩
    refine ⟨⟨true, .none rfl, fun h w => optUndef h, fun zβ za zw zc => ?_⟩, ?_⟩
    ·exact ext2_0 rfl ((evt za 66).trans (optVal (zc.dep 6 66 (by kernel_rfl)) rfl rfl)) ⟨_, rfl, Below.refl _ _, optDef zβ rfl⟩
    refine ⟨⟨true, .none rfl, fun h w => optUndef h, fun zβ za zw zc => ?_⟩, ?_⟩
    ·exact ext2_1 rfl ((evt za 66).trans (optVal (zc.dep 6 66 (by kernel_rfl)) rfl rfl)) ⟨_, rfl, Below.refl _ _, optDef zβ rfl⟩
    refine ⟨⟨true, .none rfl, fun h w => optUndef h, fun zβ za zw zc => ?_⟩, ?_⟩
    ·exact wp_assign rfl ((evt za 73).trans (optVal (zc.dep 7 73 (by kernel_rfl)) rfl rfl)) ⟨_, rfl, Below.refl _ _, optDef zβ rfl⟩
    refine ⟨⟨true, .none rfl, fun h w => optUndef h, fun zβ za zw zc => ?_⟩, ?_⟩
    ·exact wp_assign rfl ((evt za 74).trans (optVal (zc.dep 8 74 (by kernel_rfl)) rfl rfl)) ⟨_, rfl, Below.refl _ _, optDef zβ rfl⟩
    exact trivial
   ·intro za w176 zh hb177 zu
    have zh := zh.cons (d := 11) (v := .int .i64 (((((idxE (T.bputL (l.take x.1) N).1 (⟨f, (T.bputL (l.take x.1) N).2⟩ : En)).getD 0) : Nat) : Int))) (optVal (zu 9 11 (by kernel_rfl)) rfl rfl)
    have zh := zh.cons (d := 12) (v := .bool ((idxE (T.bputL (l.take x.1) N).1 (⟨f, (T.bputL (l.take x.1) N).2⟩ : En)).isSome)) (optVal (zu 10 12 (by kernel_rfl)) rfl rfl)
    clear zu
    refine WE.go zh ?_
    refine WE.next (WC.seq (WC.region (WL.mv rfl rfl rfl rfl rfl (WL.nil (WE.next ?_)))))
    refine WC.cond rfl (fun h178 => ?_) (fun h178 => ?_)
    ·skip
     obtain ⟨n0, hn0⟩ := Option.isSome_iff_exists.1 h178
     refine WC.seq (WC.region (WL.mv rfl rfl rfl rfl rfl (WL.asg rfl rfl rfl rfl rfl (WL.nil (WE.next (WC.ret (WE.thenRet (WE.ret1 rfl rfl ?_))))))))
     have ho179 := ho174.below hb177
     have hb181 : Below w33.heap.size w33 w176 := (bstep hb165 hb177)
     have hC180 := Chg.trans hCx (.ofBelow hb181)
     rw [hbp, show addE (T.bputL (l.take x.1) N).1 (⟨f, (T.bputL (l.take x.1) N).2⟩ : En) = ((T.bputL (l.take x.1) N).1, n0) from by unfold addE; rw [hn0]]
     exact ⟨_, rfl, by rw [hn0]; rfl, ⟨Z9, ho179, hZ9⟩, hC180⟩
    ·skip
     have hno : idxE (T.bputL (l.take x.1) N).1 (⟨f, (T.bputL (l.take x.1) N).2⟩ : En) = none := by cases hq : idxE (T.bputL (l.take x.1) N).1 (⟨f, (T.bputL (l.take x.1) N).2⟩ : En) with | none => rfl | some q => rw [hq] at h178; simp at h178
     refine WC.skip (WE.next (WC.seq ?_))
     have ho182 := ho174.below hb177
     obtain ⟨So183, mo183, lao183, lco183, Lo183, Ro183, hbo183, hwo183, hzo183, hlo183⟩ := id ho182
     have hno183 := hwo183.len
     have hc1o183 : w176.cell? ⟨g, 1, none⟩ = some (.slice lao183 (T.bputL (l.take x.1) N).1.length lco183) := by rw [← hno183]; exact hbo183.c1
     refine WC.region ?_
     have hB184 := hB169.below hb177
     refine WL.val _ rfl rfl rfl (fun za zC zh zk => ld_26 rfl (zh.ev rfl) ((hB184.cell 0).trans rfl) zk) ?_
     refine WL.val _ rfl rfl rfl (fun za zC zh zk => nilCheck_ rfl (zh.ev rfl) zk) ?_
     refine WL.val _ rfl rfl rfl (fun za zC zh zk => fld_70_1 rfl (zh.ev rfl) zk) ?_
     refine WL.val _ rfl rfl rfl (fun za zC zh zk => ld_68 rfl (zh.ev rfl) hc1o183 zk) ?_
     refine WL.val (.int .i64 ((((T.bputL (l.take x.1) N).1.length : Nat) : Int))) rfl rfl rfl (fun za zC zh zk => len_68 rfl (zh.ev rfl) zk) ?_
     refine WL.asg rfl rfl rfl rfl rfl (WL.nil (WE.next (WC.seq ?_)))
     have hb186 : Below w33.heap.size w33 w176 := (bstep hb165 hb177)
     have ho185 := ho39.below hb186
     have ho187 := ho40.below hb186
     have hB188 := hB171.below hb177
     have hB189 := hB173.below hb177
     have hB190 := hB162.below hb177
     have hmZ : Z9 mo183 := hzo183 mo183 (.inr (.inl rfl))
     have hb16 := BK.below hbo183 (Below.refl _ _)
     have hSlt : ∀ b, b = mo183 → b < w176.heap.size := fun b e => e ▸ hb16.map.lt
     refine WC.tail1 (S := ((fun b => b = mo183))) [(true, .val (.pointer (some ⟨g, 0, none⟩))), (true, .val (.pointer (some ⟨g, 0, none⟩))), (true, .val (.pointer (some ⟨g, 2, none⟩))), (true, .val (.map ((some mo183)))), (true, .val (.agg #[.int .i64 f, .string ((kba (T.bputL (l.take x.1) N).2))])), (true, .val (.int .i64 ((((T.bputL (l.take x.1) N).1.length : Nat) : Int)))), (true, .val undef)] [(0, .agg #[.int .i64 f, .slice a l.length c]), (1, .pointer (some ⟨gw, 0, none⟩)), (2, .pointer (some ⟨gb, 0, none⟩)), (3, .pointer (some ⟨g2, 0, none⟩)), (4, .int .i64 0), (5, .slice x.2.1 x.1 x.2.2), (6, .pointer (some ⟨g11, 0, none⟩)), (10, .pointer (some ⟨g150, 0, none⟩)), (11, .int .i64 (((((idxE (T.bputL (l.take x.1) N).1 (⟨f, (T.bputL (l.take x.1) N).2⟩ : En)).getD 0) : Nat) : Int))), (12, .bool ((idxE (T.bputL (l.take x.1) N).1 (⟨f, (T.bputL (l.take x.1) N).2⟩ : En)).isSome)), (13, .int .i64 ((((T.bputL (l.take x.1) N).1.length : Nat) : Int))), (21, .slice a l.length c), (22, .int .i64 (((l.length : Nat) : Int))), (23, .int .i64 (((x.1 : Nat) : Int))), (24, .bool ((decide ((((x.1 : Nat) : Int) : Int) < (((l.length : Nat) : Int) : Int))))), (75, .bool ((idxE (T.bputL (l.take x.1) N).1 (⟨f, (T.bputL (l.take x.1) N).2⟩ : En)).isSome))] 6 (fun wz => MapK wz mo183 ((T.bputL (l.take x.1) N).1 ++ [(⟨f, (T.bputL (l.take x.1) N).2⟩ : En)]) ∧ BK wz g sg So183 mo183 (lao183, Lo183.length, lco183) lao183 lco183 Lo183 ((T.bputL (l.take x.1) N).1 ++ [(⟨f, (T.bputL (l.take x.1) N).2⟩ : En)]) Ro183 (usersE (T.bputL (l.take x.1) N).1)) (fun w1 w2 hb h => ⟨h.1.below hb, h.2.below hb⟩) ⟨rfl, rfl, rfl, rfl, rfl, rfl, rfl, rfl, rfl, rfl, rfl, rfl, rfl, rfl, rfl, rfl, trivial⟩ (by kernel_rfl) (by kernel_rfl) (by kernel_rfl) (by kernel_rfl) ?_ ?_
     ·refine ⟨.inl ⟨rfl, true, .none rfl, (fun gg b h => by cases h), fun h w => optUndef h, fun zβ za zw zc => ?_⟩, ?_⟩
      ·exact ld_26 rfl (zc.kn.ev rfl) (bkeeps (zc.early (by kernel_rfl)) _ _ ((hB184.cell 0).trans rfl)) ⟨_, rfl, Below.refl _ _, optDef zβ rfl⟩
      refine ⟨.inl ⟨rfl, true, .none rfl, (fun gg b h => by cases h), fun h w => optUndef h, fun zβ za zw zc => ?_⟩, ?_⟩
      ·exact nilCheck_ rfl ((evt za 82).trans (optSVal (zc.dep 0 82 (by kernel_rfl) (by decide)) rfl rfl)) ⟨_, rfl, Below.refl _ _, optDef zβ rfl⟩
      refine ⟨.inl ⟨rfl, true, .none rfl, (fun gg b h => by cases h), fun h w => optUndef h, fun zβ za zw zc => ?_⟩, ?_⟩
      ·exact fld_70_2 rfl ((evt za 83).trans (optSVal (zc.dep 1 83 (by kernel_rfl) (by decide)) rfl rfl)) ⟨_, rfl, Below.refl _ _, optDef zβ rfl⟩
      refine ⟨.inl ⟨rfl, true, .none rfl, (fun gg b h => by cases h), fun h w => optUndef h, fun zβ za zw zc => ?_⟩, ?_⟩
      ·exact ld_67 rfl ((evt za 84).trans (optSVal (zc.dep 2 84 (by kernel_rfl) (by decide)) rfl rfl)) (bkeeps (zc.early (by kernel_rfl)) _ _ hbo183.c2) ⟨_, rfl, Below.refl _ _, optDef zβ rfl⟩
      refine ⟨.inl ⟨rfl, true, .none rfl, (fun gg b h => by cases h), fun h w => optUndef h, fun zβ za zw zc => ?_⟩, ?_⟩
      ·exact ld_77 rfl (zc.kn.ev rfl) (bkeeps (zc.early (by kernel_rfl)) _ _ ((hB190.cell 0).trans rfl)) (bkeeps (zc.early (by kernel_rfl)) _ _ ((hB190.cell 1).trans rfl)) ⟨_, rfl, Below.refl _ _, optDef zβ rfl⟩
      refine ⟨.inl ⟨rfl, true, .none rfl, (fun gg b h => by cases h), fun h w => optUndef h, fun zβ za zw zc => ?_⟩, ?_⟩
      ·exact wp_move rfl (zc.kn.ev rfl) ⟨_, rfl, Below.refl _ _, optDef zβ rfl⟩
      refine ⟨.inr ⟨rfl, rfl, fun za zw zc => ?_⟩, ?_⟩
      ·exact wp_mapUpdate_key (z := (⟨f, (T.bputL (l.take x.1) N).2⟩ : En)) hzo rfl ((evt za 85).trans (optSVal (zc.dep 3 85 (by kernel_rfl) (by decide)) rfl rfl)) ((evt za 86).trans (optSVal (zc.dep 4 86 (by kernel_rfl) (by decide)) rfl rfl)) ((evt za 87).trans (optSVal (zc.dep 5 87 (by kernel_rfl) (by decide)) rfl rfl)) (hb16.map.below zc.below) hno (fun u w' h1 h2 => ⟨u, rfl, ⟨h1, hb16.setM' zc.below h1 h2⟩, .ofUpd h2 rfl⟩)
      exact trivial
     ·intro za w191 zh hG192 hc193 zu
      have hC194 := Chg.trans hCx (.ofBelow hb186)
      have hC195 := chg_fresh hC194 hc193 (fun b e => hZ9 b (by rw [show b = mo183 from e]; exact hmZ))
      have hr196 := RowD.chg ho185 hc193 (fun b q k => hX9 b (.inr (.inr (.inr (.inr (.inr q))))) (by rw [show b = mo183 from k]; exact hmZ)) (fun b q => q.elim)
      have hB197 := chg_blk hB184 hc193 (fun k => hX9 _ (.inr (.inr (.inr (.inl rfl)))) (by rw [show _ = mo183 from k]; exact hmZ))
      have hB198 := chg_blk hB188 hc193 (fun k => hX9 _ (.inl rfl) (by rw [show _ = mo183 from k]; exact hmZ))
      have hB199 := chg_blk hB189 hc193 (fun k => hX9 _ (.inr (.inl rfl)) (by rw [show _ = mo183 from k]; exact hmZ))
      have hB200 := chg_blk hB190 hc193 (fun k => hg10Z (by rw [show _ = mo183 from k]; exact hmZ))
      clear zu
      refine WE.go zh ?_
      refine WE.next (WC.seq ?_)
      have hW17 := (hC195).size
      have hgZ : Z9 g := hzo183 g (.inl rfl)
      have hSlt : ∀ b, (fun b => b = g ∨ obk lao183 Lo183.length lco183 = some b) b → b < w191.heap.size := fun b q => q.elim (fun e => e ▸ hG192.2.blk.lt) (fun e => hG192.2.row.lt b e)
      have hLn : Lo183.length = (T.bputL (l.take x.1) N).1.length := hno183
      have hSZ : ∀ b, (fun b => b = g ∨ obk lao183 Lo183.length lco183 = some b) b → Z9 b := fun b q => q.elim (fun e => e ▸ hgZ) (fun e => hzo183 b (.inr (.inr (.inr (.inl e)))))
      have hin17 : eltX.In (fun b => obk x.2.1 x.1 x.2.2 = some b) w191 (⟨(⟨f, (T.bputL (l.take x.1) N).2⟩ : En), (1 + T.sizeL (l.take x.1)), (decide (0 ≤ f) && T.gndL (l.take x.1)), none, 0, 0⟩ : Ex) [.int .i64 ((((1 + T.sizeL (l.take x.1)) : Nat) : Int)), .bool ((decide (0 ≤ f) && T.gndL (l.take x.1))), .int .i64 f, .slice x.2.1 x.1 x.2.2, .slice none 0 0] := ⟨x.2.1, x.2.2, by rw [show ((⟨(⟨f, (T.bputL (l.take x.1) N).2⟩ : En), (1 + T.sizeL (l.take x.1)), (decide (0 ≤ f) && T.gndL (l.take x.1)), none, 0, 0⟩ : Ex) : Ex).en.args.length = x.1 from hlk], RowD.inRowOwn hr196⟩
      have hOA : ∀ b, obk x.2.1 x.1 x.2.2 = some b → ¬ Z9 b := fun b q => hX9 b (.inr (.inr (.inr (.inr (.inr q)))))
      have hOAl : ∀ b, obk x.2.1 x.1 x.2.2 = some b → b < w191.heap.size := hr196.lt
      refine WC.tail2 (S := ((fun b => b = g ∨ obk lao183 Lo183.length lco183 = some b))) [(true, .val (.pointer (some ⟨g, 0, none⟩))), (true, .val (.pointer (some ⟨g, 0, none⟩))), (true, .val (.pointer (some ⟨g, 0, none⟩))), (true, .val (.pointer (some ⟨g, 1, none⟩))), (true, .val (.slice lao183 ((T.bputL (l.take x.1) N).1.length) lco183)), (true, .val (.agg #[.int .i64 ((((1 + T.sizeL (l.take x.1)) : Nat) : Int)), .bool ((decide (0 ≤ f) && T.gndL (l.take x.1)))])), (true, .val (.pointer (some ⟨g2, 0, none⟩))), (true, .val (.int .i64 f)), (true, .val (.slice x.2.1 x.1 x.2.2)), (true, .val (.agg #[.int .i64 ((((1 + T.sizeL (l.take x.1)) : Nat) : Int)), .bool ((decide (0 ≤ f) && T.gndL (l.take x.1))), .int .i64 f, .slice x.2.1 x.1 x.2.2, .slice none 0 0])), (true, .mem (fun v w' => ∃ g, v = .slice (some ⟨g, 0, none⟩) 1 1 ∧ w191.heap.size ≤ g ∧ Blk w' g 83 #[.int .i64 ((((1 + T.sizeL (l.take x.1)) : Nat) : Int)), .bool ((decide (0 ≤ f) && T.gndL (l.take x.1))), .int .i64 f, .slice x.2.1 x.1 x.2.2, .slice none 0 0]) (fun v w1 w2 hc h => by obtain ⟨g, e, h1, h2⟩ := h; exact ⟨g, e, h1, chg_blk h2 hc (fun q => by have z := hSlt _ q; omega)⟩)), (true, .val undef), (true, .val (.pointer (some ⟨g, 0, none⟩))), (true, .val (.pointer (some ⟨g, 1, none⟩))), (true, .val undef)] [(0, .agg #[.int .i64 f, .slice a l.length c]), (1, .pointer (some ⟨gw, 0, none⟩)), (2, .pointer (some ⟨gb, 0, none⟩)), (3, .pointer (some ⟨g2, 0, none⟩)), (4, .int .i64 0), (5, .slice x.2.1 x.1 x.2.2), (6, .pointer (some ⟨g11, 0, none⟩)), (10, .pointer (some ⟨g150, 0, none⟩)), (11, .int .i64 (((((idxE (T.bputL (l.take x.1) N).1 (⟨f, (T.bputL (l.take x.1) N).2⟩ : En)).getD 0) : Nat) : Int))), (12, .bool ((idxE (T.bputL (l.take x.1) N).1 (⟨f, (T.bputL (l.take x.1) N).2⟩ : En)).isSome)), (13, .int .i64 ((((T.bputL (l.take x.1) N).1.length : Nat) : Int))), (21, .slice a l.length c), (22, .int .i64 (((l.length : Nat) : Int))), (23, .int .i64 (((x.1 : Nat) : Int))), (24, .bool ((decide ((((x.1 : Nat) : Int) : Int) < (((l.length : Nat) : Int) : Int))))), (75, .bool ((idxE (T.bputL (l.take x.1) N).1 (⟨f, (T.bputL (l.take x.1) N).2⟩ : En)).isSome))] 11 14 (((T.bputL (l.take x.1) N).1.length + 1)) 99 (fun ra rc wz => (BK wz g sg (fun b => So183 b ∨ obk x.2.1 x.1 x.2.2 = some b) mo183 (lao183, Lo183.length, lco183) ra rc ((Lo183 ++ [(⟨(⟨f, (T.bputL (l.take x.1) N).2⟩ : En), (1 + T.sizeL (l.take x.1)), (decide (0 ≤ f) && T.gndL (l.take x.1)), none, 0, 0⟩ : Ex)])) ((T.bputL (l.take x.1) N).1 ++ [(⟨f, (T.bputL (l.take x.1) N).2⟩ : En)]) Ro183 (usersE (T.bputL (l.take x.1) N).1)) ∧ ∀ b, obk ra ((Lo183.length + 1)) rc = some b → Z b ∨ w.heap.size ≤ b) (fun ra rc wz => (BK wz g sg (fun b => So183 b ∨ obk x.2.1 x.1 x.2.2 = some b) mo183 (ra, Lo183.length + 1, rc) ra rc ((Lo183 ++ [(⟨(⟨f, (T.bputL (l.take x.1) N).2⟩ : En), (1 + T.sizeL (l.take x.1)), (decide (0 ≤ f) && T.gndL (l.take x.1)), none, 0, 0⟩ : Ex)])) ((T.bputL (l.take x.1) N).1 ++ [(⟨f, (T.bputL (l.take x.1) N).2⟩ : En)]) Ro183 (usersE (T.bputL (l.take x.1) N).1)) ∧ ∀ b, obk ra ((Lo183.length + 1)) rc = some b → Z b ∨ w.heap.size ≤ b) (by decide) (fun ra rc w1 w2 hb h => ⟨h.1.below hb, h.2⟩) (fun ra rc w1 w2 hb h => ⟨h.1.below hb, h.2⟩) ⟨rfl, rfl, rfl, rfl, rfl, rfl, rfl, rfl, rfl, rfl, rfl, rfl, rfl, rfl, rfl, rfl, trivial⟩ (by kernel_rfl) (by kernel_rfl) (by kernel_rfl) (by kernel_rfl) (by kernel_rfl) ?_ ?_
      ·refine ⟨.inl ⟨rfl, true, .none rfl, (fun gg b h => by cases h), fun h w => optUndef h, fun zβ za zw zc => ?_⟩, ?_⟩
       ·exact ld_26 rfl (zc.kn.ev rfl) (((chg_blk hB197 zc.chg (fun k => hX9 _ (.inr (.inr (.inr (.inl rfl)))) (hSZ _ k))).cell 0).trans rfl) ⟨_, rfl, Below.refl _ _, optDef zβ rfl⟩
       refine ⟨.inl ⟨rfl, true, .none rfl, (fun gg b h => by cases h), fun h w => optUndef h, fun zβ za zw zc => ?_⟩, ?_⟩
       ·exact ld_26 rfl (zc.kn.ev rfl) (bkeeps (zc.early (by kernel_rfl)) _ _ ((hB197.cell 0).trans rfl)) ⟨_, rfl, Below.refl _ _, optDef zβ rfl⟩
       refine ⟨.inl ⟨rfl, true, .none rfl, (fun gg b h => by cases h), fun h w => optUndef h, fun zβ za zw zc => ?_⟩, ?_⟩
       ·exact nilCheck_ rfl ((evt za 89).trans (optSVal (zc.dep 1 89 (by kernel_rfl) (by decide)) rfl rfl)) ⟨_, rfl, Below.refl _ _, optDef zβ rfl⟩
       refine ⟨.inl ⟨rfl, true, .none rfl, (fun gg b h => by cases h), fun h w => optUndef h, fun zβ za zw zc => ?_⟩, ?_⟩
       ·exact fld_70_1 rfl ((evt za 90).trans (optSVal (zc.dep 2 90 (by kernel_rfl) (by decide)) rfl rfl)) ⟨_, rfl, Below.refl _ _, optDef zβ rfl⟩
       refine ⟨.inl ⟨rfl, true, .none rfl, (fun gg b h => by cases h), fun h w => optUndef h, fun zβ za zw zc => ?_⟩, ?_⟩
       ·exact ld_68 rfl ((evt za 91).trans (optSVal (zc.dep 3 91 (by kernel_rfl) (by decide)) rfl rfl)) (bkeeps (zc.early (by kernel_rfl)) _ _ (by rw [← hno183]; exact hG192.2.c1)) ⟨_, rfl, Below.refl _ _, optDef zβ rfl⟩
       refine ⟨.inl ⟨rfl, true, .none rfl, (fun gg b h => by cases h), fun h w => optUndef h, fun zβ za zw zc => ?_⟩, ?_⟩
       ·exact ld_81 rfl (zc.kn.ev rfl) (bkeeps (zc.early (by kernel_rfl)) _ _ ((hB199.cell 0).trans rfl)) (bkeeps (zc.early (by kernel_rfl)) _ _ ((hB199.cell 1).trans rfl)) ⟨_, rfl, Below.refl _ _, optDef zβ rfl⟩
       refine ⟨.inl ⟨rfl, true, .none rfl, (fun gg b h => by cases h), fun h w => optUndef h, fun zβ za zw zc => ?_⟩, ?_⟩
       ·exact fld_35_0 rfl (zc.kn.ev rfl) ⟨_, rfl, Below.refl _ _, optDef zβ rfl⟩
       refine ⟨.inl ⟨rfl, true, .none rfl, (fun gg b h => by cases h), fun h w => optUndef h, fun zβ za zw zc => ?_⟩, ?_⟩
       ·exact ld_3 rfl ((evt za 94).trans (optSVal (zc.dep 6 94 (by kernel_rfl) (by decide)) rfl rfl)) (bkeeps (zc.early (by kernel_rfl)) _ _ ((hB198.cell 0).trans rfl)) ⟨_, rfl, Below.refl _ _, optDef zβ rfl⟩
       refine ⟨.inl ⟨rfl, true, .none rfl, (fun gg b h => by cases h), fun h w => optUndef h, fun zβ za zw zc => ?_⟩, ?_⟩
       ·exact wp_move rfl (zc.kn.ev rfl) ⟨_, rfl, Below.refl _ _, optDef zβ rfl⟩
       refine ⟨.inl ⟨rfl, true, .none rfl, (fun gg b h => by cases h), fun h w => optUndef h, fun zβ za zw zc => ?_⟩, ?_⟩
       ·exact build_83_0_1_2_3 rfl ((evt za 93).trans (optSVal (zc.dep 5 93 (by kernel_rfl) (by decide)) rfl rfl)) ((evt za 95).trans (optSVal (zc.dep 7 95 (by kernel_rfl) (by decide)) rfl rfl)) ((evt za 96).trans (optSVal (zc.dep 8 96 (by kernel_rfl) (by decide)) rfl rfl)) (zc.kn.ev rfl) ⟨_, rfl, Below.refl _ _, optDef zβ rfl⟩
       refine ⟨.inl ⟨rfl, true, .none rfl, (fun gg b h => by cases h), fun h w => optUndef h, fun zβ za zw zc => ?_⟩, ?_⟩
       ·exact row_68_1 rfl ((evt za 97).trans (optSVal (zc.dep 9 97 (by kernel_rfl) (by decide)) rfl rfl)) ⟨_, rfl, balloc _ _, optDef zβ ⟨_, rfl, zc.chg.size, Blk.new' rfl⟩⟩
       refine ⟨.inr (.inl ⟨rfl, rfl, fun za zw zc => ?_⟩), ?_⟩
       ·obtain ⟨g1, e1, hg1, hB1⟩ := (optSMem (zc.dep 10 98 (by kernel_rfl) (by decide)) rfl rfl)
        have hb17 := hG192.2.below zc.below
        exact wp_appD (E := eltX) (S2 := fun b => obk x.2.1 x.1 x.2.2 = some b) (y := (⟨(⟨f, (T.bputL (l.take x.1) N).2⟩ : En), (1 + T.sizeL (l.take x.1)), (decide (0 ≤ f) && T.gndL (l.take x.1)), none, 0, 0⟩ : Ex)) (cs := [.int .i64 ((((1 + T.sizeL (l.take x.1)) : Nat) : Int)), .bool ((decide (0 ≤ f) && T.gndL (l.take x.1))), .int .i64 f, .slice x.2.1 x.1 x.2.2, .slice none 0 0]) (size := 5) (bytes := 72) (z := .agg #[.int .i64 0, .bool false, .int .i64 0, .slice none 0 0, .slice none 0 0]) rfl Try.underlying68 (by kernel_rfl) rfl (by decide) rfl ((evt za 92).trans (optSVal (zc.dep 4 92 (by kernel_rfl) (by decide)) rfl rfl)) ((evt za 98).trans e1) (by have z := hb17.row; rw [hLn] at z; exact z) hB1 (Elt.below hin17 zc.below) (fun b q e => hOA b q (hzo183 b (.inr (.inr (.inr (.inl (by rw [hLn]; exact e))))))) (by omega) (by omega) (fun ra rc w' h1 h2 h3 => by
          rw [← hLn] at h1 h2 h3
          exact ⟨ra, rc, rfl, ⟨hb17.growL2 ⟨rfl, rfl, rfl⟩ (fun b q => ⟨fun e => hOA b q (e ▸ hgZ), fun e => hOA b q (hzo183 b (.inr (.inl e))), by have z := hOAl b q; have z2 := zc.below.size; omega, fun i hi e => hOA b q (hzo183 b (.inr (.inr (.inr (.inr ⟨i, hi, e⟩)))))⟩) hwo183.no (fun i hi => usersE_ge hwo183.ok (by omega)) h1 h2 h3, fun b q => by rcases h3 b q with z | z; exact hZ9 b (hzo183 b (.inr (.inr (.inr (.inl z))))); (right; have z2 := zc.below.size; omega)⟩, h2.mono (fun b q => .inr q)⟩)
       refine ⟨.inl ⟨rfl, true, .none rfl, (fun gg b h => by cases h), fun h w => optUndef h, fun zβ za zw zc => ?_⟩, ?_⟩
       ·exact nilCheck_ rfl ((evt za 88).trans (optSVal (zc.dep 0 88 (by kernel_rfl) (by decide)) rfl rfl)) ⟨_, rfl, Below.refl _ _, optDef zβ rfl⟩
       refine ⟨.inl ⟨rfl, true, .none rfl, (fun gg b h => by cases h), fun h w => optUndef h, fun zβ za zw zc => ?_⟩, ?_⟩
       ·exact fld_70_1 rfl ((evt za 100).trans (optSVal (zc.dep 12 100 (by kernel_rfl) (by decide)) rfl rfl)) ⟨_, rfl, Below.refl _ _, optDef zβ rfl⟩
       refine ⟨.inr (.inr ⟨rfl, rfl, 99, by kernel_rfl, fun za zw ra rc zk zd zv zg => ?_⟩), ?_⟩
       ·exact st_68 rfl ((evt za 101).trans (optSVal (zd 13 101 (by kernel_rfl) (by decide)) rfl rfl)) ((evt za 99).trans zv) zg.1.blk (by first | decide | simp) (fun v => ⟨v, rfl, ⟨by rw [← hLn]; exact zg.1.storeL2, zg.2⟩, .ofUpd (Upd.at_ _ _ _ _) (.inl rfl)⟩)
       exact trivial
      ·intro za w201 ra204 rc205 zh zv hG202 hc203 zu
       have hC206 := chg_fresh hC195 hc203 (fun b q => hZ9 b (hSZ b q))
       have hr207 := (RowD.inRowOwn hr196).chgS hc203 (fun b q e => hOA b q (hSZ b e))
       have hB208 := chg_blk hB197 hc203 (fun k => hX9 _ (.inr (.inr (.inr (.inl rfl)))) (hSZ _ k))
       clear zu
       refine (show WE _ [(0, .agg #[.int .i64 f, .slice a l.length c]), (1, .pointer (some ⟨gw, 0, none⟩)), (2, .pointer (some ⟨gb, 0, none⟩)), (3, .pointer (some ⟨g2, 0, none⟩)), (4, .int .i64 0), (5, .slice x.2.1 x.1 x.2.2), (6, .pointer (some ⟨g11, 0, none⟩)), (10, .pointer (some ⟨g150, 0, none⟩)), (11, .int .i64 (((((idxE (T.bputL (l.take x.1) N).1 (⟨f, (T.bputL (l.take x.1) N).2⟩ : En)).getD 0) : Nat) : Int))), (12, .bool ((idxE (T.bputL (l.take x.1) N).1 (⟨f, (T.bputL (l.take x.1) N).2⟩ : En)).isSome)), (13, .int .i64 ((((T.bputL (l.take x.1) N).1.length : Nat) : Int))), (21, .slice a l.length c), (22, .int .i64 (((l.length : Nat) : Int))), (23, .int .i64 (((x.1 : Nat) : Int))), (24, .bool ((decide ((((x.1 : Nat) : Int) : Int) < (((l.length : Nat) : Int) : Int))))), (75, .bool ((idxE (T.bputL (l.take x.1) N).1 (⟨f, (T.bputL (l.take x.1) N).2⟩ : En)).isSome))] w201 _ .normal from ?_) za (zh.sub ⟨rfl, rfl, rfl, rfl, rfl, rfl, rfl, rfl, rfl, rfl, rfl, rfl, rfl, rfl, rfl, rfl, trivial⟩)
       refine WE.next (WC.seq (WC.seq (WC.region (WL.mv rfl rfl rfl rfl rfl ?_))))
       refine WL.val (.int .i64 (((x.1 : Nat) : Int))) rfl rfl rfl (fun za zC zh zk => len_31 rfl (zh.ev rfl) zk) ?_
       refine WL.mv rfl rfl rfl rfl rfl (WL.nil (WE.next (WC.block ?_)))
       have hte := bput_ok (.mk f l) N hK.ok
       rw [hbp, show addE (T.bputL (l.take x.1) N).1 (⟨f, (T.bputL (l.take x.1) N).2⟩ : En) = (((T.bputL (l.take x.1) N).1 ++ [(⟨f, (T.bputL (l.take x.1) N).2⟩ : En)]), (T.bputL (l.take x.1) N).1.length) from by unfold addE; rw [hno]] at hte
       have hbw : BW (Lo183 ++ [(⟨(⟨f, (T.bputL (l.take x.1) N).2⟩ : En), (1 + T.sizeL (l.take x.1)), (decide (0 ≤ f) && T.gndL (l.take x.1)), none, 0, 0⟩ : Ex)]) ((T.bputL (l.take x.1) N).1 ++ [(⟨f, (T.bputL (l.take x.1) N).2⟩ : En)]) Ro183 := hwo183.grow hte.1.ok ⟨rfl, rfl, rfl⟩ (by
        have z := hte.2.2.1
        refine ⟨?_, ?_⟩
        ·show (1 + T.sizeL (l.take x.1)) = (tmE ((T.bputL (l.take x.1) N).1 ++ [(⟨f, (T.bputL (l.take x.1) N).2⟩ : En)]) (T.bputL (l.take x.1) N).1.length).size
         rw [z, hx1, List.take_length, T.size]
        ·show (decide (0 ≤ f) && T.gndL (l.take x.1)) = (tmE ((T.bputL (l.take x.1) N).1 ++ [(⟨f, (T.bputL (l.take x.1) N).2⟩ : En)]) (T.bputL (l.take x.1) N).1.length).gnd
         rw [z, hx1, List.take_length, T.gnd])
       have huj : UJ w201 w Z g sg (fun b => So183 b ∨ obk x.2.1 x.1 x.2.2 = some b) mo183 ra204 rc205 ((T.bputL (l.take x.1) N).1 ++ [(⟨f, (T.bputL (l.take x.1) N).2⟩ : En)]) (T.bputL (l.take x.1) N).1 (T.bputL (l.take x.1) N).2 0 := ⟨(Lo183 ++ [(⟨(⟨f, (T.bputL (l.take x.1) N).2⟩ : En), (1 + T.sizeL (l.take x.1)), (decide (0 ≤ f) && T.gndL (l.take x.1)), none, 0, 0⟩ : Ex)]), Ro183, by rw [usK0, show ((Lo183 ++ [(⟨(⟨f, (T.bputL (l.take x.1) N).2⟩ : En), (1 + T.sizeL (l.take x.1)), (decide (0 ≤ f) && T.gndL (l.take x.1)), none, 0, 0⟩ : Ex)])).length = Lo183.length + 1 from by simp]; exact hG202.1, hbw, fun b k => by
        rw [show ((Lo183 ++ [(⟨(⟨f, (T.bputL (l.take x.1) N).2⟩ : En), (1 + T.sizeL (l.take x.1)), (decide (0 ≤ f) && T.gndL (l.take x.1)), none, 0, 0⟩ : Ex)])).length = Lo183.length + 1 from by simp] at k
        rcases k with k | k | k | k | ⟨i, hi, k⟩
        ·exact hZ9 b (k ▸ hgZ)
        ·exact hZ9 b (k ▸ hmZ)
        ·rcases k with k | k
         ·exact hZ9 b (hzo183 b (.inr (.inr (.inl k))))
         ·exact .inr (hownx b k)
        ·exact hG202.2 b k
        ·by_cases c : i < Lo183.length
         ·exact hZ9 b (hzo183 b (.inr (.inr (.inr (.inr ⟨i, c, k⟩)))))
         ·rw [hwo183.no i (by omega)] at k; cases k⟩
       refine WC.loop (X := Nat) (fun y => x.1 - y) (fun y => [(0, .agg #[.int .i64 f, .slice a l.length c]), (1, .pointer (some ⟨gw, 0, none⟩)), (2, .pointer (some ⟨gb, 0, none⟩)), (3, .pointer (some ⟨g2, 0, none⟩)), (4, .int .i64 0), (5, .slice x.2.1 x.1 x.2.2), (6, .pointer (some ⟨g11, 0, none⟩)), (10, .pointer (some ⟨g150, 0, none⟩)), (11, .int .i64 (((((idxE (T.bputL (l.take x.1) N).1 (⟨f, (T.bputL (l.take x.1) N).2⟩ : En)).getD 0) : Nat) : Int))), (12, .bool ((idxE (T.bputL (l.take x.1) N).1 (⟨f, (T.bputL (l.take x.1) N).2⟩ : En)).isSome)), (13, .int .i64 ((((T.bputL (l.take x.1) N).1.length : Nat) : Int))), (21, .slice a l.length c), (22, .int .i64 (((l.length : Nat) : Int))), (23, .int .i64 (((x.1 : Nat) : Int))), (24, .bool ((decide ((((x.1 : Nat) : Int) : Int) < (((l.length : Nat) : Int) : Int))))), (75, .bool ((idxE (T.bputL (l.take x.1) N).1 (⟨f, (T.bputL (l.take x.1) N).2⟩ : En)).isSome)), (102, .slice x.2.1 x.1 x.2.2), (103, .int .i64 (((x.1 : Nat) : Int))), (104, .int .i64 (((y : Nat) : Int)))]) (fun y w209 => y ≤ x.1 ∧ Chg Z w w209 ∧ Blk w209 gb 26 #[.pointer (some ⟨g, 0, none⟩)] ∧ InRow eltN (fun b => obk x.2.1 x.1 x.2.2 = some b) (w209) (T.bputL (l.take x.1) N).2 x.2.1 ∧ UJ (w209) w Z g sg (fun b => So183 b ∨ obk x.2.1 x.1 x.2.2 = some b) mo183 ra204 rc205 ((T.bputL (l.take x.1) N).1 ++ [(⟨f, (T.bputL (l.take x.1) N).2⟩ : En)]) (T.bputL (l.take x.1) N).1 (T.bputL (l.take x.1) N).2 y) 0 ⟨rfl, rfl, rfl, rfl, rfl, rfl, rfl, rfl, rfl, rfl, rfl, rfl, rfl, rfl, rfl, rfl, rfl, rfl, rfl, trivial⟩ ?_ ?_
       ·exact ⟨Nat.zero_le _, hC206, hB208, hr207, huj⟩
       ·rintro y w209 ⟨hky, hCy, hB210, ho211, ho212⟩
        refine WC.seq (WC.region ?_)
        refine WL.val (.bool ((decide ((((y : Nat) : Int) : Int) < (((x.1 : Nat) : Int) : Int))))) rfl rfl rfl (fun za zC zh zk => lss_3 rfl (zh.ev rfl) (zh.ev rfl) zk) ?_
        refine WL.nil (WE.next (WC.seq ?_))
        refine WC.cond rfl (fun h213 => ?_) (fun h213 => ?_)
        ·have h213 : (((y : Nat) : Int) : Int) < (((x.1 : Nat) : Int) : Int) := by simpa using h213
         refine WC.skip (WE.next (WC.seq (WC.block (WC.seq (WC.region (WL.mv rfl rfl rfl rfl rfl ?_))))))
         obtain ⟨b214, o215, ha216, hc217⟩ := InRow.openN ho211
         refine WL.val _ rfl rfl rfl (fun za zC zh zk => ix_31 (k := y) rfl (zh.ev rfl) (ha216 y (by omega)) (zh.ev rfl) (by first | omega | (simp; omega)) zk) ?_
         refine WL.val _ rfl rfl rfl (fun za zC zh zk => ld_3 rfl (zh.ev rfl) (hc217 y (by omega)) zk) ?_
         refine WL.asg rfl rfl rfl rfl rfl (WL.asg rfl rfl rfl rfl rfl (WL.nil (WE.next (WC.seq (WC.region (WL.mv rfl rfl rfl rfl rfl (WL.mv rfl rfl rfl rfl rfl ?_)))))))
         refine WL.val (.slice x.2.1 y x.2.2) rfl rfl rfl (fun za zC zh zk => shi_31 (k := y) rfl (zh.ev rfl) (zh.ev rfl) (by omega) zk) ?_
         refine WL.mv rfl rfl rfl rfl rfl ?_
         refine WL.call rfl rfl rfl (fun za zh zC => wp_call (by kernel_rfl) rfl (hv2 (zh.ev rfl) (zh.ev rfl))) (ncontT_any (T.bputL (l.take x.1) N).2 (aget (T.bputL (l.take x.1) N).2 y) y _ _ _ x.2.2 ho211 (by omega) (by omega)) ?_
         rintro _ w219 ⟨rfl, hq218⟩
         refine WL.val (.bool ((!(decide ((aget (T.bputL (l.take x.1) N).2 y) ∈ (T.bputL (l.take x.1) N).2.take y))))) rfl rfl rfl (fun za zC zh zk => wp_not rfl (zh.ev rfl) zk) ?_
         refine WL.nil (WE.next ?_)
         refine WC.cond rfl (fun h220 => ?_) (fun h220 => ?_)
         ·have h220 : ¬ ((aget (T.bputL (l.take x.1) N).2 y) ∈ (T.bputL (l.take x.1) N).2.take y) := by simpa using h220
          have ho221 := ho212.below hq218
          have hyl : y < (T.bputL (l.take x.1) N).2.length := by omega
          have hxa := hxb (aget (T.bputL (l.take x.1) N).2 y) (aget_mem hyl)
          have hnm : (aget (T.bputL (l.take x.1) N).2 y) ∉ (T.bputL (l.take x.1) N).2.take y := by simpa using h220
          obtain ⟨L9, R9, hb9, hw9, hz9⟩ := id ho221
          have hL9 := hw9.len
          have hM9 : ((T.bputL (l.take x.1) N).1 ++ [(⟨f, (T.bputL (l.take x.1) N).2⟩ : En)]).length = (T.bputL (l.take x.1) N).1.length + 1 := by simp
          obtain ⟨b9, A9, C9, e9, ho9, hc9⟩ := hb9.opn (by omega)
          have ho222 := ho211.below hq218
          have hB223 := hB210.below hq218
          have hus9 := hw9.us (aget (T.bputL (l.take x.1) N).2 y) (by omega)
          have hRa : (R9 (aget (T.bputL (l.take x.1) N).2 y)).1 = (xget L9 (aget (T.bputL (l.take x.1) N).2 y)).ua ∧ (R9 (aget (T.bputL (l.take x.1) N).2 y)).2.1 = (xget L9 (aget (T.bputL (l.take x.1) N).2 y)).un ∧ (R9 (aget (T.bputL (l.take x.1) N).2 y)).2.2 = (xget L9 (aget (T.bputL (l.take x.1) N).2 y)).uc := by rw [hus9]; exact ⟨rfl, rfl, rfl⟩
          have hro9 : RowD eltN (fun _ => False) w219 3 (xget L9 (aget (T.bputL (l.take x.1) N).2 y)).ua (xget L9 (aget (T.bputL (l.take x.1) N).2 y)).uc (xget L9 (aget (T.bputL (l.take x.1) N).2 y)).un (UsK (T.bputL (l.take x.1) N).1 (T.bputL (l.take x.1) N).2 y (aget (T.bputL (l.take x.1) N).2 y)) := by have z := hb9.us (aget (T.bputL (l.take x.1) N).2 y) (by omega); rw [hRa.1, hRa.2.1, hRa.2.2] at z; exact z
          have hSlt : ∀ b, (fun b => obk ((xget L9 (aget (T.bputL (l.take x.1) N).2 y)).ua) ((xget L9 (aget (T.bputL (l.take x.1) N).2 y)).un) ((xget L9 (aget (T.bputL (l.take x.1) N).2 y)).uc) = some b ∨ b = b9) b → b < w219.heap.size := fun b q => q.elim (fun e => hro9.lt b e) (fun e => hb9.row.lt b (by rw [show b = b9 from e]; exact ho9))
          have hSZ : ∀ b, (fun b => obk ((xget L9 (aget (T.bputL (l.take x.1) N).2 y)).ua) ((xget L9 (aget (T.bputL (l.take x.1) N).2 y)).un) ((xget L9 (aget (T.bputL (l.take x.1) N).2 y)).uc) = some b ∨ b = b9) b → Z b ∨ w.heap.size ≤ b := fun b q => q.elim (fun e => hz9 b (.inr (.inr (.inr (.inr ⟨(aget (T.bputL (l.take x.1) N).2 y), by omega, by rw [hRa.1, hRa.2.1, hRa.2.2]; exact e⟩))))) (fun e => hz9 b (.inr (.inr (.inr (.inl (by rw [show b = b9 from e]; exact ho9))))))
          have hUn : (xget L9 (aget (T.bputL (l.take x.1) N).2 y)).un ≤ 1048576 := by have z := hro9.len; rw [z]; exact usK_le (by omega)
          refine WC.tail2 (S := ((fun b => obk ((xget L9 (aget (T.bputL (l.take x.1) N).2 y)).ua) ((xget L9 (aget (T.bputL (l.take x.1) N).2 y)).un) ((xget L9 (aget (T.bputL (l.take x.1) N).2 y)).uc) = some b ∨ b = b9))) [(true, .val (.pointer (some ⟨g, 0, none⟩))), (true, .val (.pointer (some ⟨g, 0, none⟩))), (true, .val (.pointer (some ⟨g, 1, none⟩))), (true, .val (.slice ra204 L9.length rc205)), (true, .val (.int .i64 ((((aget (T.bputL (l.take x.1) N).2 y) : Nat) : Int)))), (true, .val (.pointer (some ⟨g, 0, none⟩))), (true, .val (.pointer (some ⟨g, 0, none⟩))), (true, .val (.pointer (some ⟨g, 1, none⟩))), (true, .val (.slice ra204 L9.length rc205)), (true, .val (.int .i64 ((((aget (T.bputL (l.take x.1) N).2 y) : Nat) : Int)))), (true, .val (.pointer (some ⟨b9, 0 + ((aget (T.bputL (l.take x.1) N).2 y)) * 5, none⟩))), (true, .val (.pointer (some ⟨b9, 0 + ((aget (T.bputL (l.take x.1) N).2 y)) * 5 + 4, none⟩))), (true, .val (.slice ((xget L9 ((aget (T.bputL (l.take x.1) N).2 y))).ua) ((xget L9 ((aget (T.bputL (l.take x.1) N).2 y))).un) ((xget L9 ((aget (T.bputL (l.take x.1) N).2 y))).uc))), (true, .val (.int .i64 ((((T.bputL (l.take x.1) N).1.length : Nat) : Int)))), (true, .mem (fun v w' => ∃ g, v = .slice (some ⟨g, 0, none⟩) 1 1 ∧ w219.heap.size ≤ g ∧ Blk w' g 3 #[.int .i64 (((T.bputL (l.take x.1) N).1.length : Nat) : Int)]) (fun v w1 w2 hc h => by obtain ⟨g, e, h1, h2⟩ := h; exact ⟨g, e, h1, chg_blk h2 hc (fun q => by have z := hSlt _ q; omega)⟩)), (true, .val undef), (true, .val (.pointer (some ⟨b9, 0 + ((aget (T.bputL (l.take x.1) N).2 y)) * 5, none⟩))), (true, .val (.pointer (some ⟨b9, 0 + ((aget (T.bputL (l.take x.1) N).2 y)) * 5 + 4, none⟩))), (true, .val undef)] [(0, .agg #[.int .i64 f, .slice a l.length c]), (1, .pointer (some ⟨gw, 0, none⟩)), (2, .pointer (some ⟨gb, 0, none⟩)), (3, .pointer (some ⟨g2, 0, none⟩)), (4, .int .i64 0), (5, .slice x.2.1 x.1 x.2.2), (6, .pointer (some ⟨g11, 0, none⟩)), (10, .pointer (some ⟨g150, 0, none⟩)), (11, .int .i64 (((((idxE (T.bputL (l.take x.1) N).1 (⟨f, (T.bputL (l.take x.1) N).2⟩ : En)).getD 0) : Nat) : Int))), (12, .bool ((idxE (T.bputL (l.take x.1) N).1 (⟨f, (T.bputL (l.take x.1) N).2⟩ : En)).isSome)), (13, .int .i64 ((((T.bputL (l.take x.1) N).1.length : Nat) : Int))), (14, .int .i64 (((y : Nat) : Int))), (15, .int .i64 ((((aget (T.bputL (l.take x.1) N).2 y) : Nat) : Int))), (21, .slice a l.length c), (22, .int .i64 (((l.length : Nat) : Int))), (23, .int .i64 (((x.1 : Nat) : Int))), (24, .bool ((decide ((((x.1 : Nat) : Int) : Int) < (((l.length : Nat) : Int) : Int))))), (75, .bool ((idxE (T.bputL (l.take x.1) N).1 (⟨f, (T.bputL (l.take x.1) N).2⟩ : En)).isSome)), (102, .slice x.2.1 x.1 x.2.2), (103, .int .i64 (((x.1 : Nat) : Int))), (104, .int .i64 (((y : Nat) : Int))), (105, .bool ((decide ((((y : Nat) : Int) : Int) < (((x.1 : Nat) : Int) : Int))))), (114, .bool ((!(decide ((aget (T.bputL (l.take x.1) N).2 y) ∈ (T.bputL (l.take x.1) N).2.take y)))))] 15 18 (((xget L9 (aget (T.bputL (l.take x.1) N).2 y)).un + 1)) 130 (fun ra rc wz => (BK wz g sg (fun b => So183 b ∨ obk x.2.1 x.1 x.2.2 = some b) mo183 (ra204, L9.length, rc205) ra204 rc205 L9 ((T.bputL (l.take x.1) N).1 ++ [(⟨f, (T.bputL (l.take x.1) N).2⟩ : En)]) (fun i => if i = (aget (T.bputL (l.take x.1) N).2 y) then (ra, (xget L9 (aget (T.bputL (l.take x.1) N).2 y)).un + 1, rc) else R9 i) (fun i => if i = (aget (T.bputL (l.take x.1) N).2 y) then UsK (T.bputL (l.take x.1) N).1 (T.bputL (l.take x.1) N).2 y (aget (T.bputL (l.take x.1) N).2 y) ++ [(T.bputL (l.take x.1) N).1.length] else UsK (T.bputL (l.take x.1) N).1 (T.bputL (l.take x.1) N).2 y i)) ∧ ∀ b, obk ra (((xget L9 (aget (T.bputL (l.take x.1) N).2 y)).un + 1)) rc = some b → Z b ∨ w.heap.size ≤ b) (fun ra rc wz => (BK wz g sg (fun b => So183 b ∨ obk x.2.1 x.1 x.2.2 = some b) mo183 (ra204, L9.length, rc205) ra204 rc205 (L9.set (aget (T.bputL (l.take x.1) N).2 y) ⟨(xget L9 (aget (T.bputL (l.take x.1) N).2 y)).en, (xget L9 (aget (T.bputL (l.take x.1) N).2 y)).sz, (xget L9 (aget (T.bputL (l.take x.1) N).2 y)).gr, ra, (xget L9 (aget (T.bputL (l.take x.1) N).2 y)).un + 1, rc⟩) ((T.bputL (l.take x.1) N).1 ++ [(⟨f, (T.bputL (l.take x.1) N).2⟩ : En)]) (fun i => if i = (aget (T.bputL (l.take x.1) N).2 y) then (ra, (xget L9 (aget (T.bputL (l.take x.1) N).2 y)).un + 1, rc) else R9 i) (fun i => if i = (aget (T.bputL (l.take x.1) N).2 y) then UsK (T.bputL (l.take x.1) N).1 (T.bputL (l.take x.1) N).2 y (aget (T.bputL (l.take x.1) N).2 y) ++ [(T.bputL (l.take x.1) N).1.length] else UsK (T.bputL (l.take x.1) N).1 (T.bputL (l.take x.1) N).2 y i)) ∧ ∀ b, obk ra (((xget L9 (aget (T.bputL (l.take x.1) N).2 y)).un + 1)) rc = some b → Z b ∨ w.heap.size ≤ b) (by decide) (fun ra rc w1 w2 hb h => ⟨h.1.below hb, h.2⟩) (fun ra rc w1 w2 hb h => ⟨h.1.below hb, h.2⟩) ⟨rfl, rfl, rfl, rfl, rfl, rfl, rfl, rfl, rfl, rfl, rfl, rfl, rfl, rfl, rfl, rfl, rfl, rfl, rfl, rfl, rfl, rfl, rfl, trivial⟩ (by kernel_rfl) (by kernel_rfl) (by kernel_rfl) (by kernel_rfl) (by kernel_rfl) ?_ ?_
          ·refine ⟨.inl ⟨rfl, true, .none rfl, (fun gg b h => by cases h), fun h w => optUndef h, fun zβ za zw zc => ?_⟩, ?_⟩
           ·exact ld_26 rfl (zc.kn.ev rfl) (((chg_blk hB223 zc.chg (fun k => by rcases hSZ _ k with z | z; exact hzb z; omega)).cell 0).trans rfl) ⟨_, rfl, Below.refl _ _, optDef zβ rfl⟩
           refine ⟨.inl ⟨rfl, true, .none rfl, (fun gg b h => by cases h), fun h w => optUndef h, fun zβ za zw zc => ?_⟩, ?_⟩
           ·exact nilCheck_ rfl ((evt za 115).trans (optSVal (zc.dep 0 115 (by kernel_rfl) (by decide)) rfl rfl)) ⟨_, rfl, Below.refl _ _, optDef zβ rfl⟩
           refine ⟨.inl ⟨rfl, true, .none rfl, (fun gg b h => by cases h), fun h w => optUndef h, fun zβ za zw zc => ?_⟩, ?_⟩
           ·exact fld_70_1 rfl ((evt za 116).trans (optSVal (zc.dep 1 116 (by kernel_rfl) (by decide)) rfl rfl)) ⟨_, rfl, Below.refl _ _, optDef zβ rfl⟩
           refine ⟨.inl ⟨rfl, true, .none rfl, (fun gg b h => by cases h), fun h w => optUndef h, fun zβ za zw zc => ?_⟩, ?_⟩
           ·exact ld_68 rfl ((evt za 117).trans (optSVal (zc.dep 2 117 (by kernel_rfl) (by decide)) rfl rfl)) (((chg_blk hb9.blk zc.chg (fun k => by rcases k with k | k; exact (hb9.uS (aget (T.bputL (l.take x.1) N).2 y) (by omega) _ (by rw [hRa.1, hRa.2.1, hRa.2.2]; exact k)).2.1 rfl; exact (hb9.lS b9 ho9).1 k.symm)).cell 1).trans rfl) ⟨_, rfl, Below.refl _ _, optDef zβ rfl⟩
           refine ⟨.inl ⟨rfl, true, .none rfl, (fun gg b h => by cases h), fun h w => optUndef h, fun zβ za zw zc => ?_⟩, ?_⟩
           ·exact wp_move rfl (zc.kn.ev rfl) ⟨_, rfl, Below.refl _ _, optDef zβ rfl⟩
           refine ⟨.inl ⟨rfl, true, .none rfl, (fun gg b h => by cases h), fun h w => optUndef h, fun zβ za zw zc => ?_⟩, ?_⟩
           ·exact ld_26 rfl (zc.kn.ev rfl) (bkeeps (zc.early (by kernel_rfl)) _ _ ((hB223.cell 0).trans rfl)) ⟨_, rfl, Below.refl _ _, optDef zβ rfl⟩
           refine ⟨.inl ⟨rfl, true, .none rfl, (fun gg b h => by cases h), fun h w => optUndef h, fun zβ za zw zc => ?_⟩, ?_⟩
           ·exact nilCheck_ rfl ((evt za 120).trans (optSVal (zc.dep 5 120 (by kernel_rfl) (by decide)) rfl rfl)) ⟨_, rfl, Below.refl _ _, optDef zβ rfl⟩
           refine ⟨.inl ⟨rfl, true, .none rfl, (fun gg b h => by cases h), fun h w => optUndef h, fun zβ za zw zc => ?_⟩, ?_⟩
           ·exact fld_70_1 rfl ((evt za 121).trans (optSVal (zc.dep 6 121 (by kernel_rfl) (by decide)) rfl rfl)) ⟨_, rfl, Below.refl _ _, optDef zβ rfl⟩
           refine ⟨.inl ⟨rfl, true, .none rfl, (fun gg b h => by cases h), fun h w => optUndef h, fun zβ za zw zc => ?_⟩, ?_⟩
           ·exact ld_68 rfl ((evt za 122).trans (optSVal (zc.dep 7 122 (by kernel_rfl) (by decide)) rfl rfl)) (bkeeps (zc.early (by kernel_rfl)) _ _ hb9.c1) ⟨_, rfl, Below.refl _ _, optDef zβ rfl⟩
           refine ⟨.inl ⟨rfl, true, .none rfl, (fun gg b h => by cases h), fun h w => optUndef h, fun zβ za zw zc => ?_⟩, ?_⟩
           ·exact wp_move rfl (zc.kn.ev rfl) ⟨_, rfl, Below.refl _ _, optDef zβ rfl⟩
           refine ⟨.inl ⟨rfl, true, .none rfl, (fun gg b h => by cases h), fun h w => optUndef h, fun zβ za zw zc => ?_⟩, ?_⟩
           ·exact ix_68 (k := (aget (T.bputL (l.take x.1) N).2 y)) rfl ((evt za 123).trans (optSVal (zc.dep 8 123 (by kernel_rfl) (by decide)) rfl rfl)) e9 ((evt za 124).trans (optSVal (zc.dep 9 124 (by kernel_rfl) (by decide)) rfl rfl)) (by first | omega | (simp; omega)) ⟨_, rfl, Below.refl _ _, optDef zβ rfl⟩
           refine ⟨.inl ⟨rfl, true, .none rfl, (fun gg b h => by cases h), fun h w => optUndef h, fun zβ za zw zc => ?_⟩, ?_⟩
           ·exact fld_83_3 rfl ((evt za 125).trans (optSVal (zc.dep 10 125 (by kernel_rfl) (by decide)) rfl rfl)) ⟨_, rfl, Below.refl _ _, optDef zβ rfl⟩
           refine ⟨.inl ⟨rfl, true, .none rfl, (fun gg b h => by cases h), fun h w => optUndef h, fun zβ za zw zc => ?_⟩, ?_⟩
           ·exact ld_31 rfl ((evt za 126).trans (optSVal (zc.dep 11 126 (by kernel_rfl) (by decide)) rfl rfl)) (bkeeps (zc.early (by kernel_rfl)) _ _ (hc9 ((aget (T.bputL (l.take x.1) N).2 y)) (by first | omega | (simp; omega))).2.2.2.2.1) ⟨_, rfl, Below.refl _ _, optDef zβ rfl⟩
           refine ⟨.inl ⟨rfl, true, .none rfl, (fun gg b h => by cases h), fun h w => optUndef h, fun zβ za zw zc => ?_⟩, ?_⟩
           ·exact wp_move rfl (zc.kn.ev rfl) ⟨_, rfl, Below.refl _ _, optDef zβ rfl⟩
           refine ⟨.inl ⟨rfl, true, .none rfl, (fun gg b h => by cases h), fun h w => optUndef h, fun zβ za zw zc => ?_⟩, ?_⟩
           ·exact row_31_1 rfl ((evt za 128).trans (optSVal (zc.dep 13 128 (by kernel_rfl) (by decide)) rfl rfl)) ⟨_, rfl, balloc _ _, optDef zβ ⟨_, rfl, zc.chg.size, Blk.new' rfl⟩⟩
           refine ⟨.inr (.inl ⟨rfl, rfl, fun za zw zc => ?_⟩), ?_⟩
           ·obtain ⟨g1, e1, hg1, hB1⟩ := (optSMem (zc.dep 14 129 (by kernel_rfl) (by decide)) rfl rfl)
            exact wp_appD (E := eltN) (S2 := fun _ => False) (y := (T.bputL (l.take x.1) N).1.length) (size := 1) (bytes := 8) (z := .int .i64 0) rfl Try.underlying31 (by kernel_rfl) rfl (by decide) rfl ((evt za 127).trans (optSVal (zc.dep 12 127 (by kernel_rfl) (by decide)) rfl rfl)) ((evt za 129).trans e1) (hro9.below zc.below) hB1 rfl (fun b q => q.elim) (by omega) (by omega) (fun ra rc w' h1 h2 h3 => ⟨ra, rc, rfl, ⟨by
              have z := (hb9.below zc.below).growU (i0 := (aget (T.bputL (l.take x.1) N).2 y)) (x := (T.bputL (l.take x.1) N).1.length) (ra := ra) (rc := rc) (by omega) (by rw [hRa.2.1]; exact h1.mono (fun b q _ => by rcases q.1 with q | q <;> exact q) (fun b q => q.elim)) (by rw [hRa.1, hRa.2.1, hRa.2.2]; exact h2) (by rw [hRa.1, hRa.2.1, hRa.2.2]; exact h3)
              rw [hRa.2.1] at z; exact z, fun b q => by rcases h3 b q with z | z; exact hSZ b (.inl z); (right; have z2 := zc.below.size; have z3 := hCy.size; have z4 := hq218.size; omega)⟩, h2.mono (fun b q => .inl q)⟩)
           refine ⟨.inl ⟨rfl, true, .none rfl, (fun gg b h => by cases h), fun h w => optUndef h, fun zβ za zw zc => ?_⟩, ?_⟩
           ·exact ix_68 (k := (aget (T.bputL (l.take x.1) N).2 y)) rfl ((evt za 118).trans (optSVal (zc.dep 3 118 (by kernel_rfl) (by decide)) rfl rfl)) e9 ((evt za 119).trans (optSVal (zc.dep 4 119 (by kernel_rfl) (by decide)) rfl rfl)) (by first | omega | (simp; omega)) ⟨_, rfl, Below.refl _ _, optDef zβ rfl⟩
           refine ⟨.inl ⟨rfl, true, .none rfl, (fun gg b h => by cases h), fun h w => optUndef h, fun zβ za zw zc => ?_⟩, ?_⟩
           ·exact fld_83_3 rfl ((evt za 131).trans (optSVal (zc.dep 16 131 (by kernel_rfl) (by decide)) rfl rfl)) ⟨_, rfl, Below.refl _ _, optDef zβ rfl⟩
           refine ⟨.inr (.inr ⟨rfl, rfl, 130, by kernel_rfl, fun za zw ra rc zk zd zv zg => ?_⟩), ?_⟩
           ·obtain ⟨b8, e8, o8, ⟨cs8, hB8, hs8⟩, hk8⟩ := zg.1.storeU (i0 := (aget (T.bputL (l.take x.1) N).2 y)) (ra := ra) (rn := (xget L9 (aget (T.bputL (l.take x.1) N).2 y)).un + 1) (rc := rc) (by omega)
            obtain rfl : b9 = b8 := Option.some.inj (ho9.symm.trans o8)
            exact st_31 rfl ((evt za 132).trans (optSVal (zd 17 132 (by kernel_rfl) (by decide)) rfl rfl)) ((evt za 130).trans zv) hB8 hs8 (fun v => ⟨v, rfl, ⟨hk8, zg.2⟩, .ofUpd (Upd.at_ _ _ _ _) (.inr rfl)⟩)
           exact trivial
          ·intro za w224 ra227 rc228 zh zv hG225 hc226 zu
           have hC229 := Chg.trans hCy (.ofBelow hq218)
           have hC230 := chg_fresh hC229 hc226 (fun b q => hSZ b q)
           have ha231 := ho222.chgS hc226 (fun b q e => by rcases e with e | e; exact (hb9.uS (aget (T.bputL (l.take x.1) N).2 y) (by omega) b (by rw [hRa.1, hRa.2.1, hRa.2.2]; exact e)).1 (.inr q); exact hb9.row.ne b (.inr q) (by rw [show b = b9 from e]; exact ho9))
           have hu232 : UJ w224 w Z g sg (fun b => So183 b ∨ obk x.2.1 x.1 x.2.2 = some b) mo183 ra204 rc205 ((T.bputL (l.take x.1) N).1 ++ [(⟨f, (T.bputL (l.take x.1) N).2⟩ : En)]) (T.bputL (l.take x.1) N).1 (T.bputL (l.take x.1) N).2 ((y + 1)) := UJ.grown hyl hnm rfl (by omega) hG225.1 hw9 hz9 hG225.2
           have hB233 := chg_blk hB223 hc226 (fun k => by rcases hSZ _ k with z | z; exact hzb z; omega)
           clear zu
           refine WE.go zh ?_
           refine WE.blockNormal (WE.next (WC.region ?_))
           refine WL.val (.int .i64 ((((y + 1) : Nat) : Int))) rfl rfl rfl (fun za zC zh zk => addb_3 rfl (zh.ev rfl) (zh.ev rfl) (wrap_eq (by omega) (by omega) (by omega)) zk) ?_
           refine WL.mv rfl rfl rfl rfl rfl (WL.nil ?_)
           refine WE.round (y + 1) ⟨rfl, rfl, rfl, rfl, rfl, rfl, rfl, rfl, rfl, rfl, rfl, rfl, rfl, rfl, rfl, rfl, rfl, rfl, rfl, trivial⟩ ?_ ?_
           ·exact ⟨(by omega), hC230, hB233, ha231, hu232⟩
           ·omega
         ·have h220 : ¬ (¬ ((aget (T.bputL (l.take x.1) N).2 y) ∈ (T.bputL (l.take x.1) N).2.take y)) := by simpa using h220
          refine WC.skip (WE.blockNormal (WE.next (WC.region ?_)))
          refine WL.val (.int .i64 ((((y + 1) : Nat) : Int))) rfl rfl rfl (fun za zC zh zk => addb_3 rfl (zh.ev rfl) (zh.ev rfl) (wrap_eq (by omega) (by omega) (by omega)) zk) ?_
          refine WL.mv rfl rfl rfl rfl rfl (WL.nil ?_)
          have ho235 := ho212.below hq218
          have hu234 : UJ w219 w Z g sg (fun b => So183 b ∨ obk x.2.1 x.1 x.2.2 = some b) mo183 ra204 rc205 ((T.bputL (l.take x.1) N).1 ++ [(⟨f, (T.bputL (l.take x.1) N).2⟩ : En)]) (T.bputL (l.take x.1) N).1 (T.bputL (l.take x.1) N).2 ((y + 1)) := UJ.skip ho235 (by omega) (by simpa using h220)
          have hC236 := Chg.trans hCy (.ofBelow hq218)
          refine WE.round (y + 1) ⟨rfl, rfl, rfl, rfl, rfl, rfl, rfl, rfl, rfl, rfl, rfl, rfl, rfl, rfl, rfl, rfl, rfl, rfl, rfl, trivial⟩ ?_ ?_
          ·have hB237 := hB210.below hq218
           have ho238 := ho211.below hq218
           exact ⟨(by omega), hC236, hB237, ho238, hu234⟩
          ·omega
        ·have h213 : ¬ ((((y : Nat) : Int) : Int) < (((x.1 : Nat) : Int) : Int)) := by simpa using h213
         refine WC.exit (WE.thenExit (WE.thenExit (WE.blockIs rfl (WE.next (WC.seq (WC.region (WL.mv rfl rfl rfl rfl rfl (WL.asg rfl rfl rfl rfl rfl (WL.nil (WE.next (WC.ret (WE.ret1 rfl rfl ?_))))))))))))
         rw [hbp, show addE (T.bputL (l.take x.1) N).1 (⟨f, (T.bputL (l.take x.1) N).2⟩ : En) = (((T.bputL (l.take x.1) N).1 ++ [(⟨f, (T.bputL (l.take x.1) N).2⟩ : En)]), (T.bputL (l.take x.1) N).1.length) from by unfold addE; rw [hno]]
         exact ⟨_, rfl, rfl, UJ.fin (f := f) ho212 (by omega), hCy⟩
end Go.Proofs.Ytbohlpfndiiimaa

/- What a bank tells: the program. -/
namespace Go.Proofs.Ytbohlpfndiiimaa
open Go.RowKit Go
set_option linter.unusedVariables false
set_option linter.unusedSimpArgs false
section
variable {w : World} {a : Act} {K : Act → World → Prop} {Q : Exit → Act → World → Prop} {o : Oper}
theorem wp_neqm {x y : Operand} {r : Nat} (ho : o.op = .binOp .neq 67 x y 67) (hx : a.eval x = .map (some r)) (hy : a.eval y = .map none) (hK : K (a.put o.dst (.bool true)) w) : o.wp Try.prog a w K Q := by
 have um := Try.underlying67
 have he : (Op.equal 67 (.map (some r)) (.map none)).run Try.prog w = .ok false w := by
  unfold Op.equal
  rw [show Op.maxDepth = 9999 + 1 from rfl]
  generalize (9999 : Nat) = n
  simp [Op.equalIn, run_underlying um, go_sem]
 have hb : (binOp .neq 67 (.map (some r)) (.map none)).run Try.prog w = .ok (.bool true) w := by
  simp [binOp, he]
 unfold Oper.wp execOp
 simp only [ho, hx, hy, Sem.run_bind, hb, Result.andThen_ok]
 go_simp
 exact hK
end
set_option maxRecDepth 100000 in
theorem bok_any (g : Nat) (sg : Value) (Z : Nat → Prop) (N : List En) (w : World)  (hK : BkIs w g sg Z N) :
  Calls Try.prog 29 #[.pointer (some ⟨g, 0, none⟩)] w (Ret fun v' w' => v' = .bool true ∧ Below w.heap.size w w') := by
 have h := hK
 obtain ⟨S9, m, la, lc, L, R, hb, hw, hz, hl⟩ := h
 have hn := hw.len
 refine Calls.walk (l := [.pointer (some ⟨g, 0, none⟩)]) Try.func29 rfl (by kernel_rfl) ?_
 refine WC.sub (K' := [(0, .pointer (some ⟨g, 0, none⟩))]) ⟨rfl, trivial⟩ ?_
 refine WC.seq (WC.region (WL.asg rfl rfl rfl rfl rfl (WL.nil (WE.next (WC.seq ?_)))))
 refine WC.opt [(true, .val (.pointer (some ⟨g, 0, none⟩))), (true, .val (.bool true)), (true, .val (.bool true)), ((true && true), .val (.pointer (some ⟨g, 0, none⟩))), ((true && true), .val (.pointer (some ⟨g, 0, none⟩))), ((true && true), .val (.pointer (some ⟨g, 2, none⟩))), ((true && true), .val (.map ((some m)))), ((true && true), .val (.bool true)), (true, .val (.bool true)), (true, .val (.bool true))] [(0, .pointer (some ⟨g, 0, none⟩))] ⟨rfl, trivial⟩ (by kernel_rfl) (by kernel_rfl) (by kernel_rfl) ?_ ?_
 ·refine ⟨⟨true, .none rfl, fun h w => optUndef h, fun zβ za zw zc => ?_⟩, ?_⟩
  ·exact wp_move rfl (zc.kn.ev rfl) ⟨_, rfl, Below.refl _ _, optDef zβ rfl⟩
  refine ⟨⟨true, .none rfl, fun h w => optUndef h, fun zβ za zw zc => ?_⟩, ?_⟩
  ·exact neqp_26 rfl ((evt za 3).trans (optVal (zc.dep 0 3 (by kernel_rfl)) rfl rfl)) (zc.kn.ev rfl) ⟨_, rfl, Below.refl _ _, optDef zβ rfl⟩
  refine ⟨⟨true, .none rfl, fun h w => optUndef h, fun zβ za zw zc => ?_⟩, ?_⟩
  ·exact wp_move rfl ((evt za 4).trans (optVal (zc.dep 1 4 (by kernel_rfl)) rfl rfl)) ⟨_, rfl, Below.refl _ _, optDef zβ rfl⟩
  refine ⟨⟨_, .yes (c := true) (d := true) rfl (fun v w h => h), fun h w => optUndef h, fun zβ za zw zc => ?_⟩, ?_⟩
  ·exact wp_move rfl (zc.kn.ev rfl) ⟨_, rfl, Below.refl _ _, optDef zβ rfl⟩
  refine ⟨⟨_, .yes (c := true) (d := true) rfl (fun v w h => h), fun h w => optUndef h, fun zβ za zw zc => ?_⟩, ?_⟩
  ·exact nilCheck_ rfl ((evt za 6).trans (optVal (zc.dep 3 6 (by kernel_rfl)) rfl rfl)) ⟨_, rfl, Below.refl _ _, optDef zβ rfl⟩
  refine ⟨⟨_, .yes (c := true) (d := true) rfl (fun v w h => h), fun h w => optUndef h, fun zβ za zw zc => ?_⟩, ?_⟩
  ·exact fld_70_2 rfl ((evt za 7).trans (optVal (zc.dep 4 7 (by kernel_rfl)) rfl rfl)) ⟨_, rfl, Below.refl _ _, optDef zβ rfl⟩
  refine ⟨⟨_, .yes (c := true) (d := true) rfl (fun v w h => h), fun h w => optUndef h, fun zβ za zw zc => ?_⟩, ?_⟩
  ·exact ld_67 rfl ((evt za 8).trans (optVal (zc.dep 5 8 (by kernel_rfl)) rfl rfl)) (bkeeps zc.below _ _ hb.c2) ⟨_, rfl, Below.refl _ _, optDef zβ rfl⟩
  refine ⟨⟨_, .yes (c := true) (d := true) rfl (fun v w h => h), fun h w => optUndef h, fun zβ za zw zc => ?_⟩, ?_⟩
  ·exact wp_neqm rfl ((evt za 9).trans (optVal (zc.dep 6 9 (by kernel_rfl)) rfl rfl)) (zc.kn.ev rfl) ⟨_, rfl, Below.refl _ _, optDef zβ rfl⟩
  refine ⟨⟨true, .none rfl, fun h w => optUndef h, fun zβ za zw zc => ?_⟩, ?_⟩
  ·exact wp_pickT rfl ((evt za 5).trans (optVal (zc.dep 2 5 (by kernel_rfl)) rfl rfl)) ((evt za 10).trans (optVal (zc.dep 7 10 (by kernel_rfl)) rfl rfl)) ⟨_, rfl, Below.refl _ _, optDef zβ rfl⟩
  refine ⟨⟨true, .none rfl, fun h w => optUndef h, fun zβ za zw zc => ?_⟩, ?_⟩
  ·exact wp_assign rfl ((evt za 11).trans (optVal (zc.dep 8 11 (by kernel_rfl)) rfl rfl)) ⟨_, rfl, Below.refl _ _, optDef zβ rfl⟩
  exact trivial
 ·intro za w1 zh hb2 zu
  have zh := zh.cons (d := 2) (v := .bool true) (optVal (zu 9 2 (by kernel_rfl)) rfl rfl)
  clear zu
  refine WE.go zh ?_
  refine WE.next (WC.ret (WE.ret1 rfl rfl ?_))
  exact ⟨_, rfl, rfl, hb2⟩
set_option maxRecDepth 100000 in
theorem blen_any (g : Nat) (sg : Value) (Z : Nat → Prop) (N : List En) (w : World)  (hK : BkIs w g sg Z N) :
  Calls Try.prog 14 #[.pointer (some ⟨g, 0, none⟩)] w (Ret fun v' w' => v' = .int .i64 ((N.length : Nat) : Int) ∧ Below w.heap.size w w') := by
 have h := hK
 obtain ⟨S9, m, la, lc, L, R, hb, hw, hz, hl⟩ := h
 have hn := hw.len
 refine Calls.walk (l := [.pointer (some ⟨g, 0, none⟩)]) Try.func14 rfl (by kernel_rfl) ?_
 refine WC.sub (K' := [(0, .pointer (some ⟨g, 0, none⟩))]) ⟨rfl, trivial⟩ ?_
 refine WC.seq (WC.region (WL.asg rfl rfl rfl rfl rfl (WL.nil (WE.next (WC.seq (WC.seq (WC.region (WL.mv rfl rfl rfl rfl rfl ?_))))))))
 refine WL.call rfl rfl rfl (fun za zh zC => wp_call (by kernel_rfl) rfl (hv1 (zh.ev rfl))) (bok_any g sg Z N _ (BkIs.below hK (Below.refl _ _))) ?_
 rintro _ w2 ⟨rfl, hq1⟩
 refine WL.val (.bool false) rfl rfl rfl (fun za zC zh zk => wp_not rfl (zh.ev rfl) zk) ?_
 refine WL.nil (WE.next ?_)
 refine WC.condF rfl rfl ?_
 refine WC.skip (WE.next (WC.seq (WC.region (WL.mv rfl rfl rfl rfl rfl ?_))))
 refine WL.val _ rfl rfl rfl (fun za zC zh zk => nilCheck_ rfl (zh.ev rfl) zk) ?_
 refine WL.val _ rfl rfl rfl (fun za zC zh zk => fld_70_1 rfl (zh.ev rfl) zk) ?_
 have hc3 := bkeeps hq1 _ _ hb.c1
 refine WL.val _ rfl rfl rfl (fun za zC zh zk => ld_68 rfl (zh.ev rfl) hc3 zk) ?_
 refine WL.val (.int .i64 (((L.length : Nat) : Int))) rfl rfl rfl (fun za zC zh zk => len_68 rfl (zh.ev rfl) zk) ?_
 refine WL.asg rfl rfl rfl rfl rfl (WL.nil (WE.next (WC.ret (WE.ret1 rfl rfl ?_))))
 exact ⟨_, rfl, by rw [hn], hq1⟩
set_option maxRecDepth 100000 in
theorem bhas_any (g : Nat) (sg : Value) (Z : Nat → Prop) (N : List En) (w : World) (k : Nat) (hK : BkIs w g sg Z N) (hk : k < N.length) :
  Calls Try.prog 33 #[.pointer (some ⟨g, 0, none⟩), .int .i64 (((k : Nat) : Int))] w (Ret fun v' w' => v' = .bool true ∧ Below w.heap.size w w') := by
 have h := hK
 obtain ⟨S9, m, la, lc, L, R, hb, hw, hz, hl⟩ := h
 have hn := hw.len
 refine Calls.walk (l := [.pointer (some ⟨g, 0, none⟩), .int .i64 (((k : Nat) : Int))]) Try.func33 rfl (by kernel_rfl) ?_
 refine WC.sub (K' := [(0, .pointer (some ⟨g, 0, none⟩)), (1, .int .i64 (((k : Nat) : Int)))]) ⟨rfl, rfl, trivial⟩ ?_
 refine WC.seq (WC.region (WL.asg rfl rfl rfl rfl rfl (WL.nil (WE.next (WC.seq ?_)))))
 refine WC.opt [(true, .val (.pointer (some ⟨g, 0, none⟩))), (true, .val (.bool true)), (true, .val (.bool true)), ((true && true), .val (.int .i64 (((k : Nat) : Int)))), ((true && true), .val (.bool ((decide ((0 : Int) ≤ (((k : Nat) : Int) : Int)))))), (true, .val (.bool ((decide ((0 : Int) ≤ (((k : Nat) : Int) : Int)))))), (true, .val (.bool ((decide ((0 : Int) ≤ (((k : Nat) : Int) : Int)))))), ((true && (decide ((0 : Int) ≤ (((k : Nat) : Int) : Int)))), .val (.int .i64 (((k : Nat) : Int)))), ((true && (decide ((0 : Int) ≤ (((k : Nat) : Int) : Int)))), .val (.pointer (some ⟨g, 0, none⟩))), ((true && (decide ((0 : Int) ≤ (((k : Nat) : Int) : Int)))), .val (.pointer (some ⟨g, 0, none⟩))), ((true && (decide ((0 : Int) ≤ (((k : Nat) : Int) : Int)))), .val (.pointer (some ⟨g, 1, none⟩))), ((true && (decide ((0 : Int) ≤ (((k : Nat) : Int) : Int)))), .val (.slice la L.length lc)), ((true && (decide ((0 : Int) ≤ (((k : Nat) : Int) : Int)))), .val (.int .i64 (((L.length : Nat) : Int)))), ((true && (decide ((0 : Int) ≤ (((k : Nat) : Int) : Int)))), .val (.bool ((decide ((((k : Nat) : Int) : Int) < (((L.length : Nat) : Int) : Int)))))), (true, .val (.bool (((decide ((0 : Int) ≤ (((k : Nat) : Int) : Int))) && (decide ((((k : Nat) : Int) : Int) < (((L.length : Nat) : Int) : Int))))))), (true, .val (.bool (((decide ((0 : Int) ≤ (((k : Nat) : Int) : Int))) && (decide ((((k : Nat) : Int) : Int) < (((L.length : Nat) : Int) : Int)))))))] [(0, .pointer (some ⟨g, 0, none⟩)), (1, .int .i64 (((k : Nat) : Int)))] ⟨rfl, rfl, trivial⟩ (by kernel_rfl) (by kernel_rfl) (by kernel_rfl) ?_ ?_
 ·refine ⟨⟨true, .none rfl, fun h w => optUndef h, fun zβ za zw zc => ?_⟩, ?_⟩
  ·exact wp_move rfl (zc.kn.ev rfl) ⟨_, rfl, Below.refl _ _, optDef zβ rfl⟩
  refine ⟨⟨true, .none rfl, fun h w => optUndef h, fun zβ za zw zc => ?_⟩, ?_⟩
  ·exact wp_call (by kernel_rfl) rfl (hv1 ((evt za 5).trans (optVal (zc.dep 0 5 (by kernel_rfl)) rfl rfl))) (bok_any g sg Z N _ (BkIs.below hK zc.below)) (fun v w' h => ⟨v, rfl, h.2, optDef zβ h.1⟩)
  refine ⟨⟨true, .none rfl, fun h w => optUndef h, fun zβ za zw zc => ?_⟩, ?_⟩
  ·exact wp_move rfl ((evt za 6).trans (optVal (zc.dep 1 6 (by kernel_rfl)) rfl rfl)) ⟨_, rfl, Below.refl _ _, optDef zβ rfl⟩
  refine ⟨⟨_, .yes (c := true) (d := true) rfl (fun v w h => h), fun h w => optUndef h, fun zβ za zw zc => ?_⟩, ?_⟩
  ·exact wp_move rfl (zc.kn.ev rfl) ⟨_, rfl, Below.refl _ _, optDef zβ rfl⟩
  refine ⟨⟨_, .yes (c := true) (d := true) rfl (fun v w h => h), fun h w => optUndef h, fun zβ za zw zc => ?_⟩, ?_⟩
  ·exact geq_3 rfl ((evt za 8).trans (optVal (zc.dep 3 8 (by kernel_rfl)) rfl rfl)) (zc.kn.ev rfl) ⟨_, rfl, Below.refl _ _, optDef zβ rfl⟩
  refine ⟨⟨true, .none rfl, fun h w => optUndef h, fun zβ za zw zc => ?_⟩, ?_⟩
  ·exact wp_pickT rfl ((evt za 7).trans (optVal (zc.dep 2 7 (by kernel_rfl)) rfl rfl)) ((evt za 9).trans (optVal (zc.dep 4 9 (by kernel_rfl)) rfl rfl)) ⟨_, rfl, Below.refl _ _, optDef zβ rfl⟩
  refine ⟨⟨true, .none rfl, fun h w => optUndef h, fun zβ za zw zc => ?_⟩, ?_⟩
  ·exact wp_move rfl ((evt za 10).trans (optVal (zc.dep 5 10 (by kernel_rfl)) rfl rfl)) ⟨_, rfl, Below.refl _ _, optDef zβ rfl⟩
  refine ⟨⟨_, .yes (c := (decide ((0 : Int) ≤ (((k : Nat) : Int) : Int)))) (d := true) rfl (fun v w h => h), fun h w => optUndef h, fun zβ za zw zc => ?_⟩, ?_⟩
  ·exact wp_move rfl (zc.kn.ev rfl) ⟨_, rfl, Below.refl _ _, optDef zβ rfl⟩
  refine ⟨⟨_, .yes (c := (decide ((0 : Int) ≤ (((k : Nat) : Int) : Int)))) (d := true) rfl (fun v w h => h), fun h w => optUndef h, fun zβ za zw zc => ?_⟩, ?_⟩
  ·exact wp_move rfl (zc.kn.ev rfl) ⟨_, rfl, Below.refl _ _, optDef zβ rfl⟩
  refine ⟨⟨_, .yes (c := (decide ((0 : Int) ≤ (((k : Nat) : Int) : Int)))) (d := true) rfl (fun v w h => h), fun h w => optUndef h, fun zβ za zw zc => ?_⟩, ?_⟩
  ·exact nilCheck_ rfl ((evt za 13).trans (optVal (zc.dep 8 13 (by kernel_rfl)) rfl zβ)) ⟨_, rfl, Below.refl _ _, optDef zβ rfl⟩
  refine ⟨⟨_, .yes (c := (decide ((0 : Int) ≤ (((k : Nat) : Int) : Int)))) (d := true) rfl (fun v w h => h), fun h w => optUndef h, fun zβ za zw zc => ?_⟩, ?_⟩
  ·exact fld_70_1 rfl ((evt za 14).trans (optVal (zc.dep 9 14 (by kernel_rfl)) rfl zβ)) ⟨_, rfl, Below.refl _ _, optDef zβ rfl⟩
  refine ⟨⟨_, .yes (c := (decide ((0 : Int) ≤ (((k : Nat) : Int) : Int)))) (d := true) rfl (fun v w h => h), fun h w => optUndef h, fun zβ za zw zc => ?_⟩, ?_⟩
  ·exact ld_68 rfl ((evt za 15).trans (optVal (zc.dep 10 15 (by kernel_rfl)) rfl zβ)) (bkeeps zc.below _ _ hb.c1) ⟨_, rfl, Below.refl _ _, optDef zβ rfl⟩
  refine ⟨⟨_, .yes (c := (decide ((0 : Int) ≤ (((k : Nat) : Int) : Int)))) (d := true) rfl (fun v w h => h), fun h w => optUndef h, fun zβ za zw zc => ?_⟩, ?_⟩
  ·exact len_68 rfl ((evt za 16).trans (optVal (zc.dep 11 16 (by kernel_rfl)) rfl zβ)) ⟨_, rfl, Below.refl _ _, optDef zβ rfl⟩
  refine ⟨⟨_, .yes (c := (decide ((0 : Int) ≤ (((k : Nat) : Int) : Int)))) (d := true) rfl (fun v w h => h), fun h w => optUndef h, fun zβ za zw zc => ?_⟩, ?_⟩
  ·exact lss_3 rfl ((evt za 12).trans (optVal (zc.dep 7 12 (by kernel_rfl)) rfl zβ)) ((evt za 17).trans (optVal (zc.dep 12 17 (by kernel_rfl)) rfl zβ)) ⟨_, rfl, Below.refl _ _, optDef zβ rfl⟩
  refine ⟨⟨true, .none rfl, fun h w => optUndef h, fun zβ za zw zc => ?_⟩, ?_⟩
  ·exact wp_and rfl ((evt za 11).trans (optVal (zc.dep 6 11 (by kernel_rfl)) rfl rfl)) (fun hp => ((evt za 18).trans (optVal (zc.dep 13 18 (by kernel_rfl)) rfl (bMk zβ hp)))) ⟨_, rfl, Below.refl _ _, optDef zβ rfl⟩
  refine ⟨⟨true, .none rfl, fun h w => optUndef h, fun zβ za zw zc => ?_⟩, ?_⟩
  ·exact wp_assign rfl ((evt za 19).trans (optVal (zc.dep 14 19 (by kernel_rfl)) rfl rfl)) ⟨_, rfl, Below.refl _ _, optDef zβ rfl⟩
  exact trivial
 ·intro za w1 zh hb2 zu
  have zh := zh.cons (d := 4) (v := .bool (((decide ((0 : Int) ≤ (((k : Nat) : Int) : Int))) && (decide ((((k : Nat) : Int) : Int) < (((L.length : Nat) : Int) : Int)))))) (optVal (zu 15 4 (by kernel_rfl)) rfl rfl)
  clear zu
  refine WE.go zh ?_
  refine WE.next (WC.ret (WE.ret1 rfl rfl ?_))
  exact ⟨_, rfl, congrArg Value.bool (by simp; omega), hb2⟩
set_option maxRecDepth 100000 in
theorem bsize_any (g : Nat) (sg : Value) (Z : Nat → Prop) (N : List En) (w : World) (k : Nat) (hK : BkIs w g sg Z N) (hk : k < N.length) :
  Calls Try.prog 15 #[.pointer (some ⟨g, 0, none⟩), .int .i64 (((k : Nat) : Int))] w (Ret fun v' w' => v' = .int .i64 (((tmE N k).size : Nat) : Int) ∧ Below w.heap.size w w') := by
 have h := hK
 obtain ⟨S9, m, la, lc, L, R, hb, hw, hz, hl⟩ := h
 have hn := hw.len
 obtain ⟨b9, A9, C9, rfl, ho9, hc9⟩ := hb.opn (by omega)
 refine Calls.walk (l := [.pointer (some ⟨g, 0, none⟩), .int .i64 (((k : Nat) : Int))]) Try.func15 rfl (by kernel_rfl) ?_
 refine WC.sub (K' := [(0, .pointer (some ⟨g, 0, none⟩)), (1, .int .i64 (((k : Nat) : Int)))]) ⟨rfl, rfl, trivial⟩ ?_
 refine WC.seq (WC.region (WL.asg rfl rfl rfl rfl rfl (WL.nil (WE.next (WC.seq (WC.seq (WC.region (WL.mv rfl rfl rfl rfl rfl (WL.mv rfl rfl rfl rfl rfl ?_)))))))))
 refine WL.call rfl rfl rfl (fun za zh zC => wp_call (by kernel_rfl) rfl (hv2 (zh.ev rfl) (zh.ev rfl))) (bhas_any g sg Z N _ k (BkIs.below hK (Below.refl _ _)) hk) ?_
 rintro _ w2 ⟨rfl, hq1⟩
 refine WL.val (.bool false) rfl rfl rfl (fun za zC zh zk => wp_not rfl (zh.ev rfl) zk) ?_
 refine WL.nil (WE.next ?_)
 refine WC.condF rfl rfl ?_
 refine WC.skip (WE.next (WC.seq (WC.region (WL.mv rfl rfl rfl rfl rfl ?_))))
 refine WL.val _ rfl rfl rfl (fun za zC zh zk => nilCheck_ rfl (zh.ev rfl) zk) ?_
 refine WL.val _ rfl rfl rfl (fun za zC zh zk => fld_70_1 rfl (zh.ev rfl) zk) ?_
 have hc3 := bkeeps hq1 _ _ hb.c1
 refine WL.val _ rfl rfl rfl (fun za zC zh zk => ld_68 rfl (zh.ev rfl) hc3 zk) ?_
 refine WL.mv rfl rfl rfl rfl rfl ?_
 refine WL.val _ rfl rfl rfl (fun za zC zh zk => ix_68 (k := k) rfl (zh.ev rfl) rfl (zh.ev rfl) (by first | omega | (simp; omega)) zk) ?_
 refine WL.val _ rfl rfl rfl (fun za zC zh zk => fld_83_0 rfl (zh.ev rfl) zk) ?_
 refine WL.val _ rfl rfl rfl (fun za zC zh zk => fld_81_0 rfl (zh.ev rfl) zk) ?_
 refine WL.val _ rfl rfl rfl (fun za zC zh zk => ld_3 rfl (zh.ev rfl) (bkeeps hq1 _ _ (hc9 k (by first | omega | (simp; omega))).1) zk) ?_
 refine WL.asg rfl rfl rfl rfl rfl (WL.nil (WE.next (WC.ret (WE.ret1 rfl rfl ?_))))
 exact ⟨_, rfl, by rw [(hw.tell k (by omega)).1], hq1⟩
set_option maxRecDepth 100000 in
theorem bground_any (g : Nat) (sg : Value) (Z : Nat → Prop) (N : List En) (w : World) (k : Nat) (hK : BkIs w g sg Z N) (hk : k < N.length) :
  Calls Try.prog 16 #[.pointer (some ⟨g, 0, none⟩), .int .i64 (((k : Nat) : Int))] w (Ret fun v' w' => v' = .bool (tmE N k).gnd ∧ Below w.heap.size w w') := by
 have h := hK
 obtain ⟨S9, m, la, lc, L, R, hb, hw, hz, hl⟩ := h
 have hn := hw.len
 obtain ⟨b9, A9, C9, rfl, ho9, hc9⟩ := hb.opn (by omega)
 refine Calls.walk (l := [.pointer (some ⟨g, 0, none⟩), .int .i64 (((k : Nat) : Int))]) Try.func16 rfl (by kernel_rfl) ?_
 refine WC.sub (K' := [(0, .pointer (some ⟨g, 0, none⟩)), (1, .int .i64 (((k : Nat) : Int)))]) ⟨rfl, rfl, trivial⟩ ?_
 refine WC.seq (WC.region (WL.asg rfl rfl rfl rfl rfl (WL.nil (WE.next (WC.seq ?_)))))
 refine WC.opt [(true, .val (.pointer (some ⟨g, 0, none⟩))), (true, .val (.int .i64 (((k : Nat) : Int)))), (true, .val (.bool true)), (true, .val (.bool true)), ((true && true), .val (.pointer (some ⟨g, 0, none⟩))), ((true && true), .val (.pointer (some ⟨g, 0, none⟩))), ((true && true), .val (.pointer (some ⟨g, 1, none⟩))), ((true && true), .val (.slice ((some ⟨b9, 0, none⟩)) L.length lc)), ((true && true), .val (.int .i64 (((k : Nat) : Int)))), ((true && true), .val (.pointer (some ⟨b9, 0 + k * 5, none⟩))), ((true && true), .val (.pointer (some ⟨b9, 0 + k * 5, none⟩))), ((true && true), .val (.pointer (some ⟨b9, 0 + k * 5 + 1, none⟩))), ((true && true), .val (.bool ((xget L k).gr))), (true, .val (.bool ((xget L k).gr))), (true, .val (.bool ((xget L k).gr)))] [(0, .pointer (some ⟨g, 0, none⟩)), (1, .int .i64 (((k : Nat) : Int)))] ⟨rfl, rfl, trivial⟩ (by kernel_rfl) (by kernel_rfl) (by kernel_rfl) ?_ ?_
 ·refine ⟨⟨true, .none rfl, fun h w => optUndef h, fun zβ za zw zc => ?_⟩, ?_⟩
  ·exact wp_move rfl (zc.kn.ev rfl) ⟨_, rfl, Below.refl _ _, optDef zβ rfl⟩
  refine ⟨⟨true, .none rfl, fun h w => optUndef h, fun zβ za zw zc => ?_⟩, ?_⟩
  ·exact wp_move rfl (zc.kn.ev rfl) ⟨_, rfl, Below.refl _ _, optDef zβ rfl⟩
  refine ⟨⟨true, .none rfl, fun h w => optUndef h, fun zβ za zw zc => ?_⟩, ?_⟩
  ·exact wp_call (by kernel_rfl) rfl (hv2 ((evt za 5).trans (optVal (zc.dep 0 5 (by kernel_rfl)) rfl rfl)) ((evt za 6).trans (optVal (zc.dep 1 6 (by kernel_rfl)) rfl rfl))) (bhas_any g sg Z N _ k (BkIs.below hK zc.below) hk) (fun v w' h => ⟨v, rfl, h.2, optDef zβ h.1⟩)
  refine ⟨⟨true, .none rfl, fun h w => optUndef h, fun zβ za zw zc => ?_⟩, ?_⟩
  ·exact wp_move rfl ((evt za 7).trans (optVal (zc.dep 2 7 (by kernel_rfl)) rfl rfl)) ⟨_, rfl, Below.refl _ _, optDef zβ rfl⟩
  refine ⟨⟨_, .yes (c := true) (d := true) rfl (fun v w h => h), fun h w => optUndef h, fun zβ za zw zc => ?_⟩, ?_⟩
  ·exact wp_move rfl (zc.kn.ev rfl) ⟨_, rfl, Below.refl _ _, optDef zβ rfl⟩
  refine ⟨⟨_, .yes (c := true) (d := true) rfl (fun v w h => h), fun h w => optUndef h, fun zβ za zw zc => ?_⟩, ?_⟩
  ·exact nilCheck_ rfl ((evt za 9).trans (optVal (zc.dep 4 9 (by kernel_rfl)) rfl rfl)) ⟨_, rfl, Below.refl _ _, optDef zβ rfl⟩
  refine ⟨⟨_, .yes (c := true) (d := true) rfl (fun v w h => h), fun h w => optUndef h, fun zβ za zw zc => ?_⟩, ?_⟩
  ·exact fld_70_1 rfl ((evt za 10).trans (optVal (zc.dep 5 10 (by kernel_rfl)) rfl rfl)) ⟨_, rfl, Below.refl _ _, optDef zβ rfl⟩
  refine ⟨⟨_, .yes (c := true) (d := true) rfl (fun v w h => h), fun h w => optUndef h, fun zβ za zw zc => ?_⟩, ?_⟩
  ·exact ld_68 rfl ((evt za 11).trans (optVal (zc.dep 6 11 (by kernel_rfl)) rfl rfl)) (bkeeps zc.below _ _ hb.c1) ⟨_, rfl, Below.refl _ _, optDef zβ rfl⟩
  refine ⟨⟨_, .yes (c := true) (d := true) rfl (fun v w h => h), fun h w => optUndef h, fun zβ za zw zc => ?_⟩, ?_⟩
  ·exact wp_move rfl (zc.kn.ev rfl) ⟨_, rfl, Below.refl _ _, optDef zβ rfl⟩
  refine ⟨⟨_, .yes (c := true) (d := true) rfl (fun v w h => h), fun h w => optUndef h, fun zβ za zw zc => ?_⟩, ?_⟩
  ·exact ix_68 (k := k) rfl ((evt za 12).trans (optVal (zc.dep 7 12 (by kernel_rfl)) rfl rfl)) rfl ((evt za 13).trans (optVal (zc.dep 8 13 (by kernel_rfl)) rfl rfl)) (by first | omega | (have zz := zβ; simp only [Bool.and_eq_true, Bool.or_eq_true, Bool.true_and, Bool.not_eq_true', Bool.or_eq_false_iff, Bool.and_eq_false_iff, beq_eq_false_iff_ne, ne_eq, beq_iff_eq, decide_eq_true_eq, decide_eq_false_iff_not, bne_iff_ne, bne_eq_false_iff_eq] at zz; omega)) ⟨_, rfl, Below.refl _ _, optDef zβ rfl⟩
  refine ⟨⟨_, .yes (c := true) (d := true) rfl (fun v w h => h), fun h w => optUndef h, fun zβ za zw zc => ?_⟩, ?_⟩
  ·exact fld_83_0 rfl ((evt za 14).trans (optVal (zc.dep 9 14 (by kernel_rfl)) rfl rfl)) ⟨_, rfl, Below.refl _ _, optDef zβ rfl⟩
  refine ⟨⟨_, .yes (c := true) (d := true) rfl (fun v w h => h), fun h w => optUndef h, fun zβ za zw zc => ?_⟩, ?_⟩
  ·exact fld_81_1 rfl ((evt za 15).trans (optVal (zc.dep 10 15 (by kernel_rfl)) rfl rfl)) ⟨_, rfl, Below.refl _ _, optDef zβ rfl⟩
  refine ⟨⟨_, .yes (c := true) (d := true) rfl (fun v w h => h), fun h w => optUndef h, fun zβ za zw zc => ?_⟩, ?_⟩
  ·exact ld_4 rfl ((evt za 16).trans (optVal (zc.dep 11 16 (by kernel_rfl)) rfl rfl)) (bkeeps zc.below _ _ (hc9 k (by first | omega | (have zz := zβ; simp only [Bool.and_eq_true, Bool.or_eq_true, Bool.true_and, Bool.not_eq_true', Bool.or_eq_false_iff, Bool.and_eq_false_iff, beq_eq_false_iff_ne, ne_eq, beq_iff_eq, decide_eq_true_eq, decide_eq_false_iff_not, bne_iff_ne, bne_eq_false_iff_eq] at zz; omega))).2.1) ⟨_, rfl, Below.refl _ _, optDef zβ rfl⟩
  refine ⟨⟨true, .none rfl, fun h w => optUndef h, fun zβ za zw zc => ?_⟩, ?_⟩
  ·exact wp_pickT rfl ((evt za 8).trans (optVal (zc.dep 3 8 (by kernel_rfl)) rfl rfl)) ((evt za 17).trans (optVal (zc.dep 12 17 (by kernel_rfl)) rfl rfl)) ⟨_, rfl, Below.refl _ _, optDef zβ rfl⟩
  refine ⟨⟨true, .none rfl, fun h w => optUndef h, fun zβ za zw zc => ?_⟩, ?_⟩
  ·exact wp_assign rfl ((evt za 18).trans (optVal (zc.dep 13 18 (by kernel_rfl)) rfl rfl)) ⟨_, rfl, Below.refl _ _, optDef zβ rfl⟩
  exact trivial
 ·intro za w1 zh hb2 zu
  have zh := zh.cons (d := 4) (v := .bool ((xget L k).gr)) (optVal (zu 14 4 (by kernel_rfl)) rfl rfl)
  clear zu
  refine WE.go zh ?_
  refine WE.next (WC.ret (WE.ret1 rfl rfl ?_))
  exact ⟨_, rfl, congrArg Value.bool (by rw [← (hw.tell k (by omega)).2]), hb2⟩
end Go.Proofs.Ytbohlpfndiiimaa

/- A term is told back, or found: the program. -/
namespace Go.Proofs.Ytbohlpfndiiimaa
open Go.RowKit Go
set_option linter.unusedVariables false
set_option linter.unusedSimpArgs false
/-- All symbols fit. -/
def FnI (N : List En) : Prop := ∀ i, i < N.length → I64 (eget N i).fn
end Go.Proofs.Ytbohlpfndiiimaa

/- A term's number is found: the program. -/
namespace Go.Proofs.Ytbohlpfndiiimaa
open Go.RowKit Go
set_option linter.unusedVariables false
set_option linter.unusedSimpArgs false
end Go.Proofs.Ytbohlpfndiiimaa

/- Rows of things of several cells, how they lie in memory. -/
namespace Go.Proofs.Ytbohlpfndiiimaa
open Go.RowKit
/-- The row at 'a' holds the things 'l', 'k' cells each. -/
def IsRow {α : Type} (w : World) (k : Nat) (R : World → α → List Value → Prop) (l : List α) (a : Option Addr) : Prop :=
  ∀ i (hi : i < l.length), ∃ (b o : Nat) (cs : List Value), a = some ⟨b, o, none⟩ ∧ cs.length = k ∧ (∀ j, j < k → w.cell? ⟨b, o + i * k + j, none⟩ = cs[j]?) ∧ R w l[i] cs
theorem IsRow.keep {α : Type} {w w' : World} {k : Nat} {R : World → α → List Value → Prop} {l : List α} {a : Option Addr} (h : IsRow w k R l a) (hb : Below w.heap.size w w') (hR : ∀ x cs, R w x cs → R w' x cs) : IsRow w' k R l a := by
  intro i hi
  obtain ⟨b, o, cs, h1, h2, h3, h4⟩ := h i hi
  refine ⟨b, o, cs, h1, h2, fun j hj => ?_, hR _ _ h4⟩
  have := h3 j hj
  rw [List.getElem?_eq_getElem (by omega)] at this ⊢
  exact bkeeps hb _ _ this
section
variable {H : Type} {enc : TypeId × Value → H} {P : Program} {w : World} {base : Nat} {spare : Nat → Bool} {held : Bool}
end
end Go.Proofs.Ytbohlpfndiiimaa

/- Signatures: how they lie in memory, that what reads as one is one; which ones may be, as plain functions. -/
namespace Go.Proofs.Ytbohlpfndiiimaa
open Go.RowKit
/-- A symbol. -/
structure Sy where
  name : ByteArray
  ar : Int
  pred : Bool
  deriving DecidableEq
instance : Inhabited Sy := ⟨⟨ByteArray.empty, 0, false⟩⟩
def IsSy (_ : World) (x : Sy) (cs : List Value) : Prop := cs = [.string x.name, .int .i64 x.ar, .bool x.pred] ∧ I64 x.ar ∧ x.name.size ≤ maxLen
def IsSys (w : World) (l : List Sy) (a : Option Addr) : Prop := IsRow w 3 IsSy l a
theorem IsSys.below {w w' : World} (hb : Below w.heap.size w w') {l : List Sy} {a : Option Addr} (h : IsSys w l a) : IsSys w' l a := IsRow.keep h hb (fun _ _ h => h)
theorem IsSys.at_ {w w' : World} {l : List Sy} {a : Option Addr} (h : IsSys w l a) (hb : Below w.heap.size w w') (k : Nat) (hk : k < l.length) :
    ∃ (b o : Nat), a = some ⟨b, o, none⟩ ∧ w'.cell? ⟨b, o + k * 3, none⟩ = some (.string l[k].name) ∧ w'.cell? ⟨b, o + k * 3 + 1, none⟩ = some (.int .i64 l[k].ar) ∧ w'.cell? ⟨b, o + k * 3 + 2, none⟩ = some (.bool l[k].pred) ∧ I64 l[k].ar ∧ l[k].name.size ≤ maxLen := by
  obtain ⟨b, o, cs, h1, _, h3, rfl, h4, h5⟩ := h k hk
  have e0 := h3 0 (by omega)
  have e1 := h3 1 (by omega)
  have e2 := h3 2 (by omega)
  simp only [List.getElem?_cons_zero, List.getElem?_cons_succ, Nat.add_zero] at e0 e1 e2
  exact ⟨b, o, h1, bkeeps hb _ _ e0, bkeeps hb _ _ e1, bkeeps hb _ _ e2, h4, h5⟩
/-- The value is the signature. -/
def IsSig (w : World) (l : List Sy) (v : Value) : Prop := ∃ (a : Option Addr) (c : Nat), v = .agg #[.slice a l.length c] ∧ l.length ≤ c ∧ c ≤ maxLen ∧ IsSys w l a
theorem IsSig.below {w w' : World} (hb : Below w.heap.size w w') {l : List Sy} {v : Value} (h : IsSig w l v) : IsSig w' l v := by
  obtain ⟨a, c, h1, h2, h3, h4⟩ := h
  exact ⟨a, c, h1, h2, h3, h4.below hb⟩
section
variable {H : Type} {enc : TypeId × Value → H} {w : World} {base : Nat} {spare : Nat → Bool} {held : Bool}
end
/-! ### The plain functions -/
def byteOk (c : UInt8) : Bool := (97 ≤ c && c ≤ 122) || (65 ≤ c && c ≤ 90) || (48 ≤ c && c ≤ 57) || c == 95
def named (s : ByteArray) : Bool := decide (1 ≤ s.size ∧ s.size ≤ 40) && s.data.toList.all byteOk
def Sy.one (x : Sy) : Int := if named x.name then (if x.ar < 0 ∨ 6 < x.ar then 112 else 0) else 111
def truth : Sy := ⟨⟨#[36, 116, 114, 117, 101]⟩, 0, true⟩
/-- A symbol's place in a row, from 'k' on. -/
def syAt (x : Sy) : List Sy → Int → Int
  | [], _ => -1
  | y :: r, k => if y = x then k else syAt x r (k + 1)
/-- The first error among the symbols from the k-th on. -/
def symsErr (all : List Sy) : List Sy → Int → Int
  | [], _ => 0
  | x :: r, k => if x.one ≠ 0 then x.one else if syAt x all 0 < k then 113 else symsErr all r (k + 1)
def sigCheck (l : List Sy) : Int :=
  if 96 < l.length then 3 else if l.head? ≠ some truth then 110 else symsErr l (l.drop 1) 1
end Go.Proofs.Ytbohlpfndiiimaa

/- Rows of symbols, opened whole. -/
namespace Go.Proofs.Ytbohlpfndiiimaa
open Go.RowKit Go
def sget (l : List Sy) (k : Nat) : Sy := l.getD k default
theorem sget_lt {l : List Sy} {k : Nat} (h : k < l.length) : sget l k = l[k] := by simp [sget, h]
theorem sget_mem {l : List Sy} {k : Nat} (h : k < l.length) : sget l k ∈ l := by rw [sget_lt h]; exact List.getElem_mem h
theorem IsSys.open {w : World} {l : List Sy} {a : Option Addr} (h : IsSys w l a) : ∃ (b o : Nat), (∀ k, k < l.length → a = some ⟨b, o, none⟩) ∧
    ∀ k, k < l.length → w.cell? ⟨b, o + k * 3, none⟩ = some (.string (sget l k).name) ∧ w.cell? ⟨b, o + k * 3 + 1, none⟩ = some (.int .i64 (sget l k).ar) ∧ w.cell? ⟨b, o + k * 3 + 2, none⟩ = some (.bool (sget l k).pred) := by
  rcases Nat.eq_zero_or_pos l.length with h0 | h0
  · exact ⟨0, 0, fun k hk => by omega, fun k hk => by omega⟩
  · obtain ⟨b, o, ha, _⟩ := h.at_ (Below.refl _ _) 0 h0
    refine ⟨b, o, fun _ _ => ha, fun k hk => ?_⟩
    obtain ⟨b', o', ha', h1, h2, h3, _⟩ := h.at_ (Below.refl _ _) k hk
    rw [ha] at ha'
    simp only [Option.some.injEq, Addr.mk.injEq, and_true] at ha'
    obtain ⟨rfl, rfl⟩ := ha'
    rw [sget_lt hk]; exact ⟨h1, h2, h3⟩
theorem IsSys.wf {w : World} {l : List Sy} {a : Option Addr} (h : IsSys w l a) {k : Nat} (hk : k < l.length) : I64 (sget l k).ar ∧ (sget l k).name.size ≤ maxLen := by
  obtain ⟨_, _, _, _, _, _, h4, h5⟩ := h.at_ (Below.refl _ _) k hk
  rw [sget_lt hk]; exact ⟨h4, h5⟩
theorem IsRow.drop {α : Type} {w : World} {sz c k : Nat} {R : World → α → List Value → Prop} {l : List α} {a : Option Addr} (h : IsRow w sz R l a) (hc : l.length ≤ c) : IsRow w sz R (l.drop k) (slA a k sz c) := by
  intro i hi
  simp only [List.length_drop] at hi
  obtain ⟨b, o, cs, rfl, h2, h3, h4⟩ := h (k + i) (by omega)
  refine ⟨b, o + k * sz, cs, slA_some (by omega), h2, fun j hj => ?_, by simpa using h4⟩
  have := h3 j hj
  rwa [Nat.add_mul, ← Nat.add_assoc] at this
def syCells (l : List Sy) : List Value := l.flatMap fun x => [.string x.name, .int .i64 x.ar, .bool x.pred]
theorem syCells_len (l : List Sy) : (syCells l).length = l.length * 3 := by
  induction l with
  | nil => rfl
  | cons x r ih => simp only [syCells, List.flatMap_cons, List.length_append, List.length_cons, List.length_nil] at *; omega
theorem syCells_oneCell (l : List Sy) : ∀ u ∈ syCells l, u.oneCell' = true := by
  intro u hu
  simp only [syCells, List.mem_flatMap] at hu
  obtain ⟨x, _, h⟩ := hu
  simp only [List.mem_cons, List.not_mem_nil, or_false] at h
  rcases h with rfl | rfl | rfl <;> rfl
theorem syCells_at (l : List Sy) : ∀ k, k < l.length → (syCells l)[k * 3]? = some (.string (sget l k).name) ∧ (syCells l)[k * 3 + 1]? = some (.int .i64 (sget l k).ar) ∧ (syCells l)[k * 3 + 2]? = some (.bool (sget l k).pred) := by
  induction l with
  | nil => intro k hk; simp at hk
  | cons x r ih =>
    intro k hk
    cases k with
    | zero => simp [syCells, sget]
    | succ k =>
      have := ih k (by simpa using hk)
      have e : syCells (x :: r) = [.string x.name, .int .i64 x.ar, .bool x.pred] ++ syCells r := rfl
      have s1 : sget (x :: r) (k + 1) = sget r k := rfl
      rw [e, s1, show (k + 1) * 3 = k * 3 + 3 by omega]
      rw [List.getElem?_append_right (by simp), List.getElem?_append_right (by simp <;> omega), List.getElem?_append_right (by simp <;> omega)]
      simpa using this
theorem SrcIs.ofSys {w : World} {l : List Sy} {a : Option Addr} {c : Nat} (h : IsSys w l a) : SrcIs w (.slice a l.length c) l.length (syCells l) := by
  cases l with
  | nil =>
    cases a with
    | none => exact .inr ⟨c, rfl, rfl, rfl⟩
    | some ad => exact .inl ⟨ad, c, rfl, fun j u hj => by simp [syCells] at hj⟩
  | cons x r =>
    obtain ⟨b, o, ha, hc⟩ := h.open
    obtain rfl := ha 0 (by simp)
    refine .inl ⟨_, _, rfl, fun j u hj => ?_⟩
    have hj' : j < (syCells (x :: r)).length := (List.getElem?_eq_some_iff.1 hj).1
    rw [syCells_len] at hj'
    have hk : j / 3 < (x :: r).length := by omega
    obtain ⟨h0, h1, h2⟩ := hc (j / 3) hk
    obtain ⟨e0, e1, e2⟩ := syCells_at (x :: r) (j / 3) hk
    rw [add_plain2]
    rcases (show j = j / 3 * 3 ∨ j = j / 3 * 3 + 1 ∨ j = j / 3 * 3 + 2 by omega) with e | e | e
    · rw [e, e0] at hj; rw [e]; rw [← Option.some.inj hj]; exact h0
    · rw [e, e1] at hj; rw [e, ← Nat.add_assoc]; rw [← Option.some.inj hj]; exact h1
    · rw [e, e2] at hj; rw [e, ← Nat.add_assoc]; rw [← Option.some.inj hj]; exact h2
theorem sys_of_own {w : World} {base : Nat} {l : List Sy} {ra : Option Addr} {n rc : Nat} (h : w.ownsRow base 66 3 (.slice ra n rc) n (syCells l)) (hl : ∀ x ∈ l, I64 x.ar ∧ x.name.size ≤ maxLen) : n = l.length ∧ n ≤ rc ∧ rc ≤ maxLen ∧ IsSys w l ra := by
  have hn : n = l.length := by have := h.1; rw [syCells_len] at this; omega
  subst hn
  rcases h.2 with ⟨e, h0⟩ | ⟨g, cap, cur, e, _, hB, hc, hm, _, _⟩
  · simp only [Value.slice.injEq] at e
    refine ⟨rfl, by omega, by rw [e.2.2]; unfold maxLen; omega, fun k hk => by omega⟩
  · simp only [Value.slice.injEq, true_and] at e
    obtain ⟨rfl, rfl⟩ := e
    refine ⟨rfl, hc, hm, fun k hk => ⟨g, 0, [.string (sget l k).name, .int .i64 (sget l k).ar, .bool (sget l k).pred], rfl, rfl, fun j hj => ?_, ?_⟩⟩
    · obtain ⟨e0, e1, e2⟩ := syCells_at l k hk
      have hcell := fun i u hi => h.cells (g := g) rfl i u hi
      simp only [add_plain2] at hcell
      rcases (show j = 0 ∨ j = 1 ∨ j = 2 by omega) with rfl | rfl | rfl
      · have := hcell _ _ e0; simpa [Nat.add_assoc] using this
      · have := hcell _ _ e1; simpa [Nat.add_assoc] using this
      · have := hcell _ _ e2; simpa [Nat.add_assoc] using this
    · have := hl _ (sget_mem hk)
      rw [sget_lt hk]
      rw [sget_lt hk] at this
      exact ⟨rfl, this.1, this.2⟩
theorem IsSys.wfs {w : World} {l : List Sy} {a : Option Addr} (h : IsSys w l a) : ∀ x ∈ l, I64 x.ar ∧ x.name.size ≤ maxLen := by
  intro x hx
  obtain ⟨k, hk, rfl⟩ := List.getElem_of_mem hx
  have := h.wf hk
  rwa [sget_lt hk] at this
end Go.Proofs.Ytbohlpfndiiimaa

/- The walks through the document's check of a signature. -/
namespace Go.Proofs.Ytbohlpfndiiimaa
open Go.RowKit Go.Sort Go
end Go.Proofs.Ytbohlpfndiiimaa

/- The walks through the document's check of a signature, the rest. -/
namespace Go.Proofs.Ytbohlpfndiiimaa
open Go.RowKit Go.Sort Go
def Sy.val (x : Sy) : Value := .agg #[.string x.name, .int .i64 x.ar, .bool x.pred]
theorem bytes_ext {n m : ByteArray} (h : n.toList = m.toList) : n = m := by
  rw [ByteArray.toList_eq, ByteArray.toList_eq] at h
  exact ByteArray.ext (Array.toList_inj.1 h)
theorem eqSy (n m : ByteArray) (a b : Int) (p q : Bool) (w : World) : (binOp .eql 66 (.agg #[.string n, .int .i64 a, .bool p]) (.agg #[.string m, .int .i64 b, .bool q])).run Try.prog w = .ok (.bool (decide ((⟨n, a, p⟩ : Sy) = ⟨m, b, q⟩))) w := by
  have hS : Try.prog.underlying 66 = some (.struct (Try.prog.fieldsOf 66)) := by kernel_rfl
  have hp : Try.prog.stoodInHeld 66 = false := by kernel_rfl
  have u1 := Try.underlying9
  have u2 := Try.underlying3
  have u3 := Try.underlying4
  rw [run_eql_struct, show (10000 : Nat) = 9999 + 1 from rfl, run_equalIn_agg w 9999 66 _ _ hS hp]
  simp only [Program.fieldsOf, Try.underlying66]
  go_simp
  have hn : ¬ n = m → ¬ n.toList = m.toList := fun h e => h (bytes_ext e)
  by_cases h1 : n = m <;> by_cases h2 : a = b <;> by_cases h3 : p = q <;> simp_all
theorem neqSy (n m : ByteArray) (a b : Int) (p q : Bool) (w : World) : (binOp .neq 66 (.agg #[.string n, .int .i64 a, .bool p]) (.agg #[.string m, .int .i64 b, .bool q])).run Try.prog w = .ok (.bool (!decide ((⟨n, a, p⟩ : Sy) = ⟨m, b, q⟩))) w := by
  have h := eqSy n m a b p q w
  rw [run_eql_struct] at h
  rw [run_neq_struct]
  cases hr : (Op.equalIn 10000 66 (.agg #[.string n, .int .i64 a, .bool p]) (.agg #[.string m, .int .i64 b, .bool q])).run Try.prog w with
  | ok b' w' =>
    rw [hr] at h
    simp only [Result.andThen_ok, Result.ok.injEq, Value.bool.injEq] at h ⊢
    exact ⟨by rw [h.1], h.2⟩
  | halt x w' => rw [hr] at h; simp [Result.andThen] at h
theorem guardSy (op : BinOp) (x y : Operand) (xs ys : Array Value) (w : World) : (eqGuard op 66 x y (.agg xs) (.agg ys)).run Try.prog w = .ok () w := run_eqGuard_agg w op _ x y xs ys (by kernel_rfl)
end Go.Proofs.Ytbohlpfndiiimaa

namespace Go.Proofs.Ytbohlpfndiiimaa
open Go.RowKit Go.Sort Go
end Go.Proofs.Ytbohlpfndiiimaa
