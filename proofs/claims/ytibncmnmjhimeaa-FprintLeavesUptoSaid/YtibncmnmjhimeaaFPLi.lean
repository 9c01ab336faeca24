/- Match and Variant: the document; substitutions compared. -/
import Derived.Test.YtibncmnmjhimeaaFPLh
import Derived.Test.YtibncmnmjhimeaaFPLc
import Derived.Test.YtibncmnmjhimeaaFPLd
import Derived.Test.YtibncmnmjhimeaaFPLa
import Derived.Laws.IdiomCopy

/- The document matches a term: the program. -/
namespace Go.Proofs.Ytibncmnmjhimeaa
open Go.RowKit Go
set_option linter.unusedVariables false
set_option linter.unusedSimpArgs false
set_option maxRecDepth 100000 in
theorem rget_any {g : Nat} {st : List Bd} {a : Option Addr} {c : Nat} (v : Int) (w : World) (hB : Blk w g 66 #[.slice a st.length c]) (hr : InRow eltB (fun _ => True) w st a) (hc1 : st.length ≤ c) (hc2 : c ≤ 9223372036854775807) : Calls Try.prog 53 #[.pointer (some ⟨g, 0, none⟩), .int .i64 v] w (Ret fun v' w' => RGetIs st v v' w' ∧ Below w.heap.size w w') := by
 refine Calls.walk (l := [.pointer (some ⟨g, 0, none⟩), .int .i64 v]) Try.func53 rfl (by kernel_rfl) ?_
 refine WC.sub (K' := [(0, .pointer (some ⟨g, 0, none⟩)), (1, .int .i64 v)]) ⟨rfl, rfl, trivial⟩ ?_
 refine WC.seq (WC.region ?_)
 refine WL.step (post := NewBlk w 24 #[.int .i64 0, .slice none 0 0]) rfl rfl rfl (fun za zC zh zk => alloc_24 rfl (zk _ _ (newBlk _ _ _))) ?_
 rintro _ w1 ⟨g2, rfl, hg3, hB4, hb5, hz6⟩
 have hl7 : g < g2 := by have z1 := hB.lt; omega
 have hl8 : w.heap.size ≤ g2 := by omega
 refine WL.asg rfl rfl rfl rfl rfl (WL.nil (WE.next (WC.seq (WC.seq (WC.region (WL.asg rfl rfl rfl rfl rfl (WL.nil (WE.next (WC.block ?_)))))))))
 refine WC.loop (X := Nat) (fun k => st.length - k) (fun k => [(0, .pointer (some ⟨g, 0, none⟩)), (1, .int .i64 v), (4, .pointer (some ⟨g2, 0, none⟩)), (6, .int .i64 (((k : Nat) : Int)))]) (fun k w9 => k ≤ st.length ∧ (∀ i, i < k → (dget st i).var ≠ v) ∧ Below w.heap.size w w9 ∧ Blk w9 g 66 #[.slice a st.length c] ∧ Blk w9 g2 24 #[.int .i64 0, .slice none 0 0]) 0 ⟨rfl, rfl, rfl, rfl, trivial⟩ ?_ ?_
 ·have hB10 := hB.below hb5
  exact ⟨Nat.zero_le _, fun i h => absurd h (Nat.not_lt_zero i), hb5, hB10, hB4⟩
 ·rintro k w9 ⟨hk, hE, hb11, hB12, hB13⟩
  refine WC.seq (WC.seq (WC.region (WL.mv rfl rfl rfl rfl rfl (WL.mv rfl rfl rfl rfl rfl ?_))))
  refine WL.val _ rfl rfl rfl (fun za zC zh zk => nilCheck_ rfl (zh.ev rfl) zk) ?_
  refine WL.val _ rfl rfl rfl (fun za zC zh zk => fld_66_0 rfl (zh.ev rfl) zk) ?_
  refine WL.val _ rfl rfl rfl (fun za zC zh zk => ld_36 rfl (zh.ev rfl) ((hB12.cell 0).trans rfl) zk) ?_
  refine WL.val (.int .i64 (((st.length : Nat) : Int))) rfl rfl rfl (fun za zC zh zk => len_36 rfl (zh.ev rfl) zk) ?_
  refine WL.val (.bool ((decide ((((k : Nat) : Int) : Int) < (((st.length : Nat) : Int) : Int))))) rfl rfl rfl (fun za zC zh zk => lss_3 rfl (zh.ev rfl) (zh.ev rfl) zk) ?_
  refine WL.nil (WE.next ?_)
  refine WC.cond rfl (fun h14 => ?_) (fun h14 => ?_)
  ·have h14 : (((k : Nat) : Int) : Int) < (((st.length : Nat) : Int) : Int) := by simpa using h14
   refine WC.skip (WE.next (WC.seq (WC.block (WC.seq (WC.region (WL.mv rfl rfl rfl rfl rfl ?_))))))
   refine WL.val _ rfl rfl rfl (fun za zC zh zk => nilCheck_ rfl (zh.ev rfl) zk) ?_
   refine WL.val _ rfl rfl rfl (fun za zC zh zk => fld_66_0 rfl (zh.ev rfl) zk) ?_
   refine WL.val _ rfl rfl rfl (fun za zC zh zk => ld_36 rfl (zh.ev rfl) ((hB12.cell 0).trans rfl) zk) ?_
   refine WL.mv rfl rfl rfl rfl rfl ?_
   obtain ⟨b15, o16, A17, C18, ha19, hc20⟩ := InRow.openB hr
   refine WL.val _ rfl rfl rfl (fun za zC zh zk => ix_36 (k := k) rfl (zh.ev rfl) (ha19 k (by first | omega | (simp; omega))) (zh.ev rfl) (by first | omega | (simp; omega)) zk) ?_
   refine WL.val _ rfl rfl rfl (fun za zC zh zk => fld_85_0 rfl (zh.ev rfl) zk) ?_
   refine WL.val _ rfl rfl rfl (fun za zC zh zk => ld_3 rfl (zh.ev rfl) (bkeeps hb11 _ _ (hc20 k (by first | omega | (simp; omega))).1) zk) ?_
   refine WL.mv rfl rfl rfl rfl rfl ?_
   refine WL.val (.bool ((((dget st k).var : Int) == (v : Int)))) rfl rfl rfl (fun za zC zh zk => eql_3 rfl (zh.ev rfl) (zh.ev rfl) zk) ?_
   refine WL.nil (WE.next ?_)
   refine WC.cond rfl (fun h21 => ?_) (fun h21 => ?_)
   ·have h21 : ((dget st k).var : Int) = (v : Int) := by simpa using h21
    refine WC.seq (WC.region (WL.mv rfl rfl rfl rfl rfl ?_))
    refine WL.val _ rfl rfl rfl (fun za zC zh zk => nilCheck_ rfl (zh.ev rfl) zk) ?_
    refine WL.val _ rfl rfl rfl (fun za zC zh zk => fld_66_0 rfl (zh.ev rfl) zk) ?_
    refine WL.val _ rfl rfl rfl (fun za zC zh zk => ld_36 rfl (zh.ev rfl) ((hB12.cell 0).trans rfl) zk) ?_
    refine WL.mv rfl rfl rfl rfl rfl ?_
    refine WL.val _ rfl rfl rfl (fun za zC zh zk => ix_36 (k := k) rfl (zh.ev rfl) (ha19 k (by first | omega | (simp; omega))) (zh.ev rfl) (by first | omega | (simp; omega)) zk) ?_
    refine WL.val _ rfl rfl rfl (fun za zC zh zk => fld_85_1 rfl (zh.ev rfl) zk) ?_
    refine WL.val _ rfl rfl rfl (fun za zC zh zk => ld_24 rfl (zh.ev rfl) (bkeeps hb11 _ _ (hc20 k (by first | omega | (simp; omega))).2.1) (bkeeps hb11 _ _ (hc20 k (by first | omega | (simp; omega))).2.2.1) zk) ?_
    refine WL.step (post := fun _ w' => Upd g2 w9 w' ∧ Blk w' g2 24 #[.int .i64 ((dget st k).t.f), .slice ((A17 k)) ((dget st k).t.args.length) ((C18 k))]) rfl rfl rfl (fun za zC zh zk => st_24 rfl (zh.ev rfl) (zh.ev rfl) rfl rfl hB13 (by first | decide | simp) (fun v => zk v _ ⟨(Upd.at_ _ _ _ _).trans (Upd.at_ _ _ _ _), (hB13.set_ 0 _).set_ 1 _⟩)) ?_
    rintro v25 w22 ⟨hu23, hB24⟩
    have hb26 := upd_below hb11 hu23 (by omega)
    have hB27 := upd_blk hB12 hu23 (by omega)
    refine WL.asg rfl rfl rfl rfl rfl ?_
    refine WL.nil (WE.sub (K' := [(0, .pointer (some ⟨g, 0, none⟩)), (1, .int .i64 v), (4, .pointer (some ⟨g2, 0, none⟩)), (5, .bool true), (6, .int .i64 (((k : Nat) : Int))), (13, .bool ((decide ((((k : Nat) : Int) : Int) < (((st.length : Nat) : Int) : Int))))), (25, .bool ((((dget st k).var : Int) == (v : Int))))]) ⟨rfl, rfl, rfl, rfl, rfl, rfl, rfl, trivial⟩ ?_)
    refine WE.next (WC.ret (WE.blockRet (WE.thenRet (WE.thenRet (WE.blockRet (WE.thenRet ?_))))))
    refine WE.retAny (v := .tuple #[.agg #[.int .i64 ((dget st k).t.f), .slice ((A17 k)) ((dget st k).t.args.length) ((C18 k))], .bool true]) (fun za zh => ?_) ?_
    ·have z0 : za.tmps[4]?.getD undef = .pointer (some ⟨g2, 0, none⟩) := by rw [← Array.getD_eq_getD_getElem?]; exact zh.knows 4 _ rfl
     have y0_0 : w22.cell? ⟨g2, 0, none⟩ = some (.int .i64 ((dget st k).t.f)) := ((hB24.cell 0).trans rfl)
     have y0_1 : w22.cell? ⟨g2, 1, none⟩ = some (.slice ((A17 k)) ((dget st k).t.args.length) ((C18 k))) := ((hB24.cell 1).trans rfl)
     have z1 : za.tmps[5]?.getD undef = .bool true := by rw [← Array.getD_eq_getD_getElem?]; exact zh.knows 5 _ rfl
     simp [results, Try.results53, z0, y0_0, y0_1, z1, go_sem]
    ·have hf9 := subFind_here (v := v) (by omega) hE (by simpa using h21)
     refine ⟨_, rfl, ?_, hb26⟩
     unfold RGetIs
     rw [hf9]
     exact ⟨_, _, rfl, (IsT.below hb26 (InT.isT (hc20 k (by first | omega | (simp; omega))).2.2.2.1))⟩
   ·have h21 : ¬ (((dget st k).var : Int) = (v : Int)) := by simpa using h21
    refine WC.skip (WE.blockNormal (WE.next (WC.region (WL.mv rfl rfl rfl rfl rfl ?_))))
    refine WL.val (.int .i64 ((((k + 1) : Nat) : Int))) rfl rfl rfl (fun za zC zh zk => addb_3 rfl (zh.ev rfl) (zh.ev rfl) (wrap_eq (by omega) (by omega) (by omega)) zk) ?_
    refine WL.asg rfl rfl rfl rfl rfl (WL.nil ?_)
    refine WE.round (k + 1) ⟨rfl, rfl, rfl, rfl, trivial⟩ ?_ ?_
    ·exact ⟨by omega, fun i hi => by rcases Nat.lt_or_ge i k with q | q; exact hE i q; (obtain rfl : i = k := by omega); simpa using h21, hb11, hB12, hB13⟩
    ·omega
  ·have h14 : ¬ ((((k : Nat) : Int) : Int) < (((st.length : Nat) : Int) : Int)) := by simpa using h14
   refine WC.exit (WE.thenExit (WE.thenExit (WE.blockIs rfl (WE.next (WC.seq (WC.region ?_))))))
   refine WL.val (.agg #[.int .i64 0, .slice none 0 0]) rfl rfl rfl (fun za zC zh zk => build_24_ rfl  zk) ?_
   refine WL.step (post := fun _ w' => Upd g2 w9 w' ∧ Blk w' g2 24 #[.int .i64 0, .slice none 0 0]) rfl rfl rfl (fun za zC zh zk => st_24 rfl (zh.ev rfl) (zh.ev rfl) rfl rfl hB13 (by first | decide | simp) (fun v => zk v _ ⟨(Upd.at_ _ _ _ _).trans (Upd.at_ _ _ _ _), (hB13.set_ 0 _).set_ 1 _⟩)) ?_
   rintro v31 w28 ⟨hu29, hB30⟩
   have hb32 := upd_below hb11 hu29 (by omega)
   have hB33 := upd_blk hB12 hu29 (by omega)
   refine WL.asg rfl rfl rfl rfl rfl (WL.nil (WE.next (WC.ret ?_)))
   refine WE.retAny (v := .tuple #[.agg #[.int .i64 0, .slice none 0 0], .bool false]) (fun za zh => ?_) ?_
   ·have z0 : za.tmps[4]?.getD undef = .pointer (some ⟨g2, 0, none⟩) := by rw [← Array.getD_eq_getD_getElem?]; exact zh.knows 4 _ rfl
    have y0_0 : w28.cell? ⟨g2, 0, none⟩ = some (.int .i64 0) := ((hB30.cell 0).trans rfl)
    have y0_1 : w28.cell? ⟨g2, 1, none⟩ = some (.slice none 0 0) := ((hB30.cell 1).trans rfl)
    have z1 : za.tmps[5]?.getD undef = .bool false := by rw [← Array.getD_eq_getD_getElem?]; exact zh.knows 5 _ rfl
    simp [results, Try.results53, z0, y0_0, y0_1, z1, go_sem]
   ·have hf9 := subFind_gone (v := v) (st := st) (fun i hi => hE i (by omega))
    refine ⟨_, rfl, ?_, hb32⟩
    unfold RGetIs
    rw [hf9]
set_option maxRecDepth 100000 in
theorem rterm_any : ∀ p : T, RtSpec p := by
 refine T.ind (fun f l ih => ?_)
 intro t g st D A w u v h hp ht hA hzp hzt hn
 have h0 := h
 obtain ⟨a, c, hR⟩ := h
 have hDlt := hR.dlt
 have hgl := hR.blk.lt
 obtain ⟨hcap1, hcap2⟩ := hR.cap
 unfold maxLen at hcap2
 obtain ⟨hf64, pa0, pc0, rfl, hpc1, hpc2, _⟩ := hp.form
 have hf64b := hf64
 rw [T.f_mk] at hf64b
 unfold I64 at hf64b
 have hn2 := hn
 rw [T.size] at hn2
 obtain ⟨hft, ta0, tc0, rfl, htc1, htc2, _⟩ := ht.form
 unfold maxLen at hpc2 htc2
 have hA0 : ∀ b, (A b ∧ b < w.heap.size) → A b := fun b q => q.1
 have hzl : T.sizeL l + 1 ≤ 4294967296 := by have z := hzp; rw [T.size] at z; omega
 have hll := len_le_sizeL l
 have hlt := len_le_sizeL t.args
 have hzt2 : T.sizeL t.args + 1 ≤ 4294967296 := by have z := hzt; rw [T.size_eq] at z; omega
 refine Calls.walk (l := [.pointer (some ⟨g, 0, none⟩), .agg #[.int .i64 f, .slice pa0 l.length pc0], .agg #[.int .i64 t.f, .slice ta0 t.args.length tc0]]) Try.func47 rfl (by kernel_rfl) ?_
 refine WC.sub (K' := [(0, .pointer (some ⟨g, 0, none⟩)), (1, .agg #[.int .i64 f, .slice pa0 l.length pc0]), (2, .agg #[.int .i64 t.f, .slice ta0 t.args.length tc0])]) ⟨rfl, rfl, rfl, trivial⟩ ?_
 refine WC.seq (WC.region ?_)
 refine WL.step (post := NewBlk w 24 #[.int .i64 f, .slice pa0 l.length pc0]) rfl rfl rfl (fun za zC zh zk => box_24 rfl (zh.ev rfl) (zk _ _ (newBlk _ _ _))) ?_
 rintro _ w1 ⟨g2, rfl, hg3, hB4, hb5, hz6⟩
 have hl7 : g < g2 := by have z1 := hR.blk.lt; omega
 have hl8 : w.heap.size ≤ g2 := by omega
 refine WL.step (post := NewBlk w1 24 #[.int .i64 t.f, .slice ta0 t.args.length tc0]) rfl rfl rfl (fun za zC zh zk => box_24 rfl (zh.ev rfl) (zk _ _ (newBlk _ _ _))) ?_
 rintro _ w9 ⟨g10, rfl, hg11, hB12, hb13, hz14⟩
 have hl15 : g < g10 := by have z1 := hR.blk.lt; have z2 := (hb5).size; omega
 have hl16 : g2 < g10 := by have z1 := hB4.lt; omega
 have hl17 : w.heap.size ≤ g10 := by have z2 := (hb5).size; omega
 refine WL.asg rfl rfl rfl rfl rfl (WL.nil (WE.next (WC.seq (WC.seq (WC.region ?_)))))
 refine WL.val _ rfl rfl rfl (fun za zC zh zk => fld_24_0 rfl (zh.ev rfl) zk) ?_
 have hB18 := hB4.below hb13
 refine WL.val _ rfl rfl rfl (fun za zC zh zk => ld_3 rfl (zh.ev rfl) ((hB18.cell 0).trans rfl) zk) ?_
 refine WL.val (.bool ((decide ((f : Int) < (0 : Int))))) rfl rfl rfl (fun za zC zh zk => lss_3 rfl (zh.ev rfl) (zh.ev rfl) zk) ?_
 refine WL.nil (WE.next ?_)
 refine WC.cond rfl (fun h19 => ?_) (fun h19 => ?_)
 ·have h19 : (f : Int) < (0 : Int) := by simpa using h19
  refine WC.seq (WC.seq (WC.region (WL.mv rfl rfl rfl rfl rfl ?_)))
  refine WL.val _ rfl rfl rfl (fun za zC zh zk => fld_24_0 rfl (zh.ev rfl) zk) ?_
  refine WL.val _ rfl rfl rfl (fun za zC zh zk => ld_3 rfl (zh.ev rfl) ((hB18.cell 0).trans rfl) zk) ?_
  refine WL.val (.int .i64 ((-1 - f))) rfl rfl rfl (fun za zC zh zk => subb_3 rfl (zh.ev rfl) (zh.ev rfl) (wrap_eq rfl (by omega) (by omega)) zk) ?_
  have hb27 : Below w.heap.size w w9 := (bstep hb5 hb13)
  have hB26 := hR.blk.below hb27
  have hir := hR.rows.below hb27
  refine WL.call rfl rfl rfl (fun za zh zC => wp_call (by kernel_rfl) rfl (hv2 (zh.ev rfl) (zh.ev rfl))) (rget_any (-1 - f) w9 hB26 hir hcap1 (by omega)) ?_
  rintro v25 w20 ⟨hto21, hb22⟩
  unfold RGetIs at hto21
  rcases hf24 : subFind st (-1 - f) with _ | o23
  ·rw [hf24] at hto21
   obtain rfl : v25 = _ := hto21
   refine WL.mv rfl rfl rfl rfl rfl ?_
   refine WL.val (.agg #[.int .i64 0, .slice none 0 0]) rfl rfl rfl (fun za zC zh zk => ext2_0 rfl (zh.ev rfl) zk) ?_
   refine WL.val (.bool false) rfl rfl rfl (fun za zC zh zk => ext2_1 rfl (zh.ev rfl) zk) ?_
   refine WL.step (post := NewBlk w20 24 #[.int .i64 0, .slice none 0 0]) rfl rfl rfl (fun za zC zh zk => alloc_24 rfl (zk _ _ (newBlk _ _ _))) ?_
   rintro _ w28 ⟨g29, rfl, hg30, hB31, hb32, hz33⟩
   have hl34 : g < g29 := by have z1 := hB26.lt; have z2 := (hb22).size; omega
   have hl35 : g2 < g29 := by have z1 := hB18.lt; have z2 := (hb22).size; omega
   have hl36 : g10 < g29 := by have z1 := hB12.lt; have z2 := (hb22).size; omega
   have hb37 : Below w.heap.size w w20 := (bstep hb27 hb22)
   have hl38 : w.heap.size ≤ g29 := by have z2 := (hb37).size; omega
   have hl39 : w20.heap.size ≤ g29 := by omega
   refine WL.step (post := fun _ w' => Upd g29 w28 w' ∧ Blk w' g29 24 #[.int .i64 0, .slice none 0 0]) rfl rfl rfl (fun za zC zh zk => st_24 rfl (zh.ev rfl) (zh.ev rfl) rfl rfl hB31 (by first | decide | simp) (fun v => zk v _ ⟨(Upd.at_ _ _ _ _).trans (Upd.at_ _ _ _ _), (hB31.set_ 0 _).set_ 1 _⟩)) ?_
   rintro v43 w40 ⟨hu41, hB42⟩
   have hb44 : Below w.heap.size w w28 := (bstep hb37 hb32)
   have hb45 := upd_below hb44 hu41 (by omega)
   have hb46 := upd_below hb32 hu41 (by omega)
   have hb48 : Below w9.heap.size w9 w28 := (bstep hb22 hb32)
   have hB47 := hB26.below hb48
   have hB49 := upd_blk hB47 hu41 (by omega)
   have hB50 := hB18.below hb48
   have hB51 := upd_blk hB50 hu41 (by omega)
   have hB52 := hB12.below hb48
   have hB53 := upd_blk hB52 hu41 (by omega)
   refine WL.asg rfl rfl rfl rfl rfl (WL.nil (WE.next (WC.seq (WC.region (WL.mv rfl rfl rfl rfl rfl (WL.nil (WE.next ?_)))))))
   refine WC.condF rfl rfl ?_
   refine WC.skip (WE.next (WC.seq ?_))
   have hRR := hR.chg (S := fun _ => False) (.ofBelow hb45) (fun _ _ => id)
   have hgl5 : g < w40.heap.size := hB49.lt
   have hSlt : ∀ b, (fun b => b = g ∨ (Value.slice a st.length c).ownBlock = some b) b → b < w40.heap.size := fun b h => h.elim (fun e => by omega) (fun h => hRR.dlt b (hRR.drow b h))
   refine WC.tail2 (S := ((fun b => b = g ∨ (Value.slice a st.length c).ownBlock = some b))) [(true, .val (.pointer (some ⟨g, 0, none⟩))), (true, .val (.pointer (some ⟨g, 0, none⟩))), (true, .val (.pointer (some ⟨g, 0, none⟩))), (true, .val (.pointer (some ⟨g, 0, none⟩))), (true, .val (.slice a st.length c)), (true, .val (.pointer (some ⟨g2, 0, none⟩))), (true, .val (.int .i64 f)), (true, .val (.int .i64 ((-1 - f)))), (true, .val (.agg #[.int .i64 t.f, .slice ta0 t.args.length tc0])), (true, .mem (fun v w' => NewT w40 w' ((⟨-1 - f, t⟩ : Bd).t) v) (fun v w w' hc h => InT.chg h hc (fun b hb hs => by have z := hSlt b hs; omega))), (true, .mem (fun v w' => BdNew w40 w' ((⟨-1 - f, t⟩ : Bd)) v) (fun v w w' hc h => h.chg hc hSlt)), (true, .mem (fun v w' => OneRow eltB w40 85 ((⟨-1 - f, t⟩ : Bd)) v w') (fun v w w' hc h => h.chg hc hSlt)), (true, .val undef), (true, .val (.pointer (some ⟨g, 0, none⟩))), (true, .val (.pointer (some ⟨g, 0, none⟩))), (true, .val undef)] [(0, .pointer (some ⟨g, 0, none⟩)), (1, .agg #[.int .i64 f, .slice pa0 l.length pc0]), (2, .agg #[.int .i64 t.f, .slice ta0 t.args.length tc0]), (4, .pointer (some ⟨g2, 0, none⟩)), (5, .pointer (some ⟨g10, 0, none⟩)), (6, .bool false), (7, .pointer (some ⟨g29, 0, none⟩)), (8, .bool false), (12, .bool ((decide ((f : Int) < (0 : Int))))), (21, .bool false)] 12 15 ((st.length + 1)) 37 (fun ra rc wz => (∃ Z, RowD eltB Z wz 85 ra rc (st.length + 1) (st ++ [(⟨-1 - f, t⟩ : Bd)]) ∧ ∀ b, Z b → ((D b ∧ b ≠ g ∧ (Value.slice a st.length c).ownBlock ≠ some b) ∨ w40.heap.size ≤ b)) ∧ (∀ b, (Value.slice ra (st.length + 1) rc).ownBlock = some b → (Value.slice a st.length c).ownBlock = some b ∨ w40.heap.size ≤ b) ∧ Blk wz g 66 #[.slice a st.length c]) (fun ra rc wz => (∃ Z, RowD eltB Z wz 85 ra rc (st.length + 1) (st ++ [(⟨-1 - f, t⟩ : Bd)]) ∧ ∀ b, Z b → ((D b ∧ b ≠ g ∧ (Value.slice a st.length c).ownBlock ≠ some b) ∨ w40.heap.size ≤ b)) ∧ (∀ b, (Value.slice ra (st.length + 1) rc).ownBlock = some b → (Value.slice a st.length c).ownBlock = some b ∨ w40.heap.size ≤ b) ∧ Blk wz g 66 #[.slice ra (st.length + 1) rc]) (by decide) (fun ra rc w w' hb h => by obtain ⟨⟨Z, h1, h2⟩, h3, h4⟩ := h; exact ⟨⟨Z, h1.below hb, h2⟩, h3, h4.below hb⟩) (fun ra rc w w' hb h => by obtain ⟨⟨Z, h1, h2⟩, h3, h4⟩ := h; exact ⟨⟨Z, h1.below hb, h2⟩, h3, h4.below hb⟩) ⟨rfl, rfl, rfl, rfl, rfl, rfl, rfl, rfl, rfl, rfl, trivial⟩ (by kernel_rfl) (by kernel_rfl) (by kernel_rfl) (by kernel_rfl) (by kernel_rfl) ?_ ?_
   ·refine ⟨.inl ⟨rfl, true, .none rfl, (fun gg b h => by cases h), fun h w => optUndef h, fun zβ za zw zc => ?_⟩, ?_⟩
    ·exact wp_move rfl (zc.kn.ev rfl) ⟨_, rfl, Below.refl _ _, optDef zβ rfl⟩
    refine ⟨.inl ⟨rfl, true, .none rfl, (fun gg b h => by cases h), fun h w => optUndef h, fun zβ za zw zc => ?_⟩, ?_⟩
    ·exact wp_move rfl (zc.kn.ev rfl) ⟨_, rfl, Below.refl _ _, optDef zβ rfl⟩
    refine ⟨.inl ⟨rfl, true, .none rfl, (fun gg b h => by cases h), fun h w => optUndef h, fun zβ za zw zc => ?_⟩, ?_⟩
    ·exact nilCheck_ rfl ((evt za 26).trans (optSVal (zc.dep 1 26 (by kernel_rfl) (by decide)) rfl rfl)) ⟨_, rfl, Below.refl _ _, optDef zβ rfl⟩
    refine ⟨.inl ⟨rfl, true, .none rfl, (fun gg b h => by cases h), fun h w => optUndef h, fun zβ za zw zc => ?_⟩, ?_⟩
    ·exact fld_66_0 rfl ((evt za 27).trans (optSVal (zc.dep 2 27 (by kernel_rfl) (by decide)) rfl rfl)) ⟨_, rfl, Below.refl _ _, optDef zβ rfl⟩
    refine ⟨.inl ⟨rfl, true, .none rfl, (fun gg b h => by cases h), fun h w => optUndef h, fun zβ za zw zc => ?_⟩, ?_⟩
    ·exact ld_36 rfl ((evt za 28).trans (optSVal (zc.dep 3 28 (by kernel_rfl) (by decide)) rfl rfl)) (bkeeps (zc.early (by kernel_rfl)) _ _ ((hB49.cell 0).trans rfl)) ⟨_, rfl, Below.refl _ _, optDef zβ rfl⟩
    refine ⟨.inl ⟨rfl, true, .none rfl, (fun gg b h => by cases h), fun h w => optUndef h, fun zβ za zw zc => ?_⟩, ?_⟩
    ·exact fld_24_0 rfl (zc.kn.ev rfl) ⟨_, rfl, Below.refl _ _, optDef zβ rfl⟩
    refine ⟨.inl ⟨rfl, true, .none rfl, (fun gg b h => by cases h), fun h w => optUndef h, fun zβ za zw zc => ?_⟩, ?_⟩
    ·exact ld_3 rfl ((evt za 30).trans (optSVal (zc.dep 5 30 (by kernel_rfl) (by decide)) rfl rfl)) (bkeeps (zc.early (by kernel_rfl)) _ _ ((hB51.cell 0).trans rfl)) ⟨_, rfl, Below.refl _ _, optDef zβ rfl⟩
    refine ⟨.inl ⟨rfl, true, .none rfl, (fun gg b h => by cases h), fun h w => optUndef h, fun zβ za zw zc => ?_⟩, ?_⟩
    ·exact subb_3 rfl (zc.kn.ev rfl) ((evt za 31).trans (optSVal (zc.dep 6 31 (by kernel_rfl) (by decide)) rfl rfl)) (wrap_eq rfl (by omega) (by omega)) ⟨_, rfl, Below.refl _ _, optDef zβ rfl⟩
    refine ⟨.inl ⟨rfl, true, .none rfl, (fun gg b h => by cases h), fun h w => optUndef h, fun zβ za zw zc => ?_⟩, ?_⟩
    ·exact ld_24 rfl (zc.kn.ev rfl) (bkeeps (zc.early (by kernel_rfl)) _ _ ((hB53.cell 0).trans rfl)) (bkeeps (zc.early (by kernel_rfl)) _ _ ((hB53.cell 1).trans rfl)) ⟨_, rfl, Below.refl _ _, optDef zβ rfl⟩
    refine ⟨.inl ⟨rfl, true, .none rfl, (fun gg b h => by cases h), fun h w => optUndef h, fun zβ za zw zc => ?_⟩, ?_⟩
    ·exact wp_call (by kernel_rfl) rfl (hv1 ((evt za 33).trans (optSVal (zc.dep 8 33 (by kernel_rfl) (by decide)) rfl rfl))) (rcopy_any t _ _ hzt (IsT.below (bstep hb45 (zc.early (by kernel_rfl))) (InT.isT ht))) (fun v w' h => ⟨v, rfl, h.2, optDef zβ (InT.mono (fun b hb _ => Nat.le_trans (zc.early (by kernel_rfl)).size hb) h.1)⟩)
    refine ⟨.inl ⟨rfl, true, .none rfl, (fun gg b h => by cases h), fun h w => optUndef h, fun zβ za zw zc => ?_⟩, ?_⟩
    ·have zv := (optSMem (zc.dep 9 34 (by kernel_rfl) (by decide)) rfl rfl)
     obtain ⟨_, a1, c1, e1, _⟩ := zv.form
     rw [e1] at zv
     exact build_85_0_1 rfl ((evt za 32).trans (optSVal (zc.dep 7 32 (by kernel_rfl) (by decide)) rfl rfl)) ((evt za 34).trans e1) ⟨_, rfl, Below.refl _ _, optDef zβ ⟨_, _, rfl, (show I64 (-1 - f) by unfold I64; omega), zv⟩⟩
    refine ⟨.inl ⟨rfl, true, .none rfl, (fun gg b h => by cases h), fun h w => optUndef h, fun zβ za zw zc => ?_⟩, ?_⟩
    ·have zv := (optSMem (zc.dep 10 35 (by kernel_rfl) (by decide)) rfl rfl)
     obtain ⟨u1, u2, e1, h0, zv⟩ := zv
     exact row_36_1 rfl ((evt za 35).trans e1) ⟨_, rfl, balloc _ _, optDef zβ ⟨_, _, rfl, zc.chg.size, Blk.new' rfl, ⟨_, _, rfl, h0, zv.below (balloc _ _)⟩⟩⟩
    refine ⟨.inr (.inl ⟨rfl, rfl, fun za zw zc => ?_⟩), ?_⟩
    ·obtain ⟨g1, cs, e1, hg1, hB1, hin⟩ := (optSMem (zc.dep 11 36 (by kernel_rfl) (by decide)) rfl rfl)
     exact wp_appD (E := eltB) (size := 3) (bytes := 40) (z := .agg #[.int .i64 0, .int .i64 0, .slice none 0 0]) rfl Try.underlying36 (by kernel_rfl) rfl (by decide) rfl ((evt za 29).trans (optSVal (zc.dep 4 29 (by kernel_rfl) (by decide)) rfl rfl)) ((evt za 36).trans e1) (hRR.row.below zc.below) hB1 hin (fun b q e => by have z := hRR.dlt b (hRR.drow b e); omega) (by omega) (by omega) (fun ra rc w' h1 h2 h3 => ⟨ra, rc, rfl, ⟨⟨_, h1, fun b q => q.1.imp id id⟩, fun b e => (h3 b e).imp id (fun q => by have z := zc.below.size; omega), chg_blk (hB49.below zc.below) h2 (hRR.rowg)⟩, h2.mono (fun b hb => .inr hb)⟩)
    refine ⟨.inl ⟨rfl, true, .none rfl, (fun gg b h => by cases h), fun h w => optUndef h, fun zβ za zw zc => ?_⟩, ?_⟩
    ·exact nilCheck_ rfl ((evt za 25).trans (optSVal (zc.dep 0 25 (by kernel_rfl) (by decide)) rfl rfl)) ⟨_, rfl, Below.refl _ _, optDef zβ rfl⟩
    refine ⟨.inl ⟨rfl, true, .none rfl, (fun gg b h => by cases h), fun h w => optUndef h, fun zβ za zw zc => ?_⟩, ?_⟩
    ·exact fld_66_0 rfl ((evt za 38).trans (optSVal (zc.dep 13 38 (by kernel_rfl) (by decide)) rfl rfl)) ⟨_, rfl, Below.refl _ _, optDef zβ rfl⟩
    refine ⟨.inr (.inr ⟨rfl, rfl, 37, by kernel_rfl, fun za zw ra rc zk zd zv zg => ?_⟩), ?_⟩
    ·obtain ⟨⟨Z, zr, zZ⟩, zo, zB⟩ := zg
     exact st_36 rfl ((evt za 39).trans (optSVal (zd 14 39 (by kernel_rfl) (by decide)) rfl rfl)) ((evt za 37).trans zv) zB (by first | decide | simp) (fun v => ⟨v, rfl, ⟨⟨Z, zr.chg (.ofUpd (S := fun b => b = g) (Upd.at_ _ _ _ _) rfl) (fun b q e => zr.neBlk zB (by decide) (by subst e; exact q)) (fun b q e => by rcases zZ b q with q | q; exact q.2.1 e; omega), zZ⟩, zo, zB.set_ 0 _⟩, .ofUpd (Upd.at_ _ _ _ _) (.inl rfl)⟩)
    exact trivial
   ·intro za w54 ra57 rc58 zh zv hG55 hc56 zu
    have hB59 := chg_blk hB51 hc56 (fun h => h.elim (fun e => by omega) (fun h => by have z := hR.dlt _ (hR.drow _ h); omega))
    have hB60 := chg_blk hB53 hc56 (fun h => h.elim (fun e => by omega) (fun h => by have z := hR.dlt _ (hR.drow _ h); omega))
    have hB61 := chg_blk hB42 hc56 (fun h => h.elim (fun e => by omega) (fun h => by have z := hR.dlt _ (hR.drow _ h); omega))
    clear zu
    refine WE.go zh ?_
    refine WE.next (WC.seq (WC.region (WL.asg rfl rfl rfl rfl rfl ?_)))
    refine WL.nil (WE.sub (K' := [(0, .pointer (some ⟨g, 0, none⟩)), (1, .agg #[.int .i64 f, .slice pa0 l.length pc0]), (2, .agg #[.int .i64 t.f, .slice ta0 t.args.length tc0]), (4, .pointer (some ⟨g2, 0, none⟩)), (5, .pointer (some ⟨g10, 0, none⟩)), (6, .bool true), (7, .pointer (some ⟨g29, 0, none⟩)), (8, .bool false), (12, .bool ((decide ((f : Int) < (0 : Int))))), (21, .bool false)]) ⟨rfl, rfl, rfl, rfl, rfl, rfl, rfl, rfl, rfl, rfl, trivial⟩ ?_)
    refine WE.next (WC.ret (WE.thenRet (WE.ret1 rfl rfl ?_)))
    have hs62 : Chg ((fun b => b = g ∨ (Value.slice a st.length c).ownBlock = some b)) w w54 := (Chg.trans2 (Chg.trans2 (Chg.refl ((fun b => b = g ∨ (Value.slice a st.length c).ownBlock = some b)) _) (Chg.ofBelow (S := fun k => k < 0) hb45) (fun i h1 h2 => by first | exact h2 | exact .inl ⟨h2, h1⟩ | exact .inl h2 | exact .inr h2 | exact .inr (.inl h2) | exact .inr (.inr h2) | ((try dsimp only at *); omega))) hc56 (fun i h1 h2 => by first | exact h2 | exact .inl ⟨h2, h1⟩ | exact .inl h2 | exact .inr h2 | exact .inr (.inl h2) | exact .inr (.inr h2) | ((try dsimp only at *); omega)))
    have hfin := mt_new_ok (l := l) (t := t) h19 hf24
    obtain ⟨⟨Z, zr, zZ⟩, zo, zB⟩ := hG55
    have hbw := (hb45).size
    refine ⟨_, rfl, ⟨_, _, congrArg Value.bool hfin.2.symm, ⟨_, _, hR.push zr (fun b q => (zZ b q).imp id (fun q => by omega)) (fun b q => (zo b q).imp id (fun q => by omega)) zB hzt (Nat.le_trans hb45.size hc56.size)⟩, fun b q => q.imp id (fun q => q.1), hfin.1⟩, hs62.mono (fun b q => by rcases q with rfl | q; exact hR.dg; exact hR.drow b q)⟩
  ·rw [hf24] at hto21
   obtain ⟨a63, c64, rfl, h65⟩ := hto21
   refine WL.mv rfl rfl rfl rfl rfl ?_
   refine WL.val (.agg #[.int .i64 o23.f, .slice a63 o23.args.length c64]) rfl rfl rfl (fun za zC zh zk => ext2_0 rfl (zh.ev rfl) zk) ?_
   refine WL.val (.bool true) rfl rfl rfl (fun za zC zh zk => ext2_1 rfl (zh.ev rfl) zk) ?_
   refine WL.step (post := NewBlk w20 24 #[.int .i64 0, .slice none 0 0]) rfl rfl rfl (fun za zC zh zk => alloc_24 rfl (zk _ _ (newBlk _ _ _))) ?_
   rintro _ w66 ⟨g67, rfl, hg68, hB69, hb70, hz71⟩
   have hl72 : g < g67 := by have z1 := hB26.lt; have z2 := (hb22).size; omega
   have hl73 : g2 < g67 := by have z1 := hB18.lt; have z2 := (hb22).size; omega
   have hl74 : g10 < g67 := by have z1 := hB12.lt; have z2 := (hb22).size; omega
   have hb75 : Below w.heap.size w w20 := (bstep hb27 hb22)
   have hl76 : w.heap.size ≤ g67 := by have z2 := (hb75).size; omega
   have hl77 : w20.heap.size ≤ g67 := by omega
   refine WL.step (post := fun _ w' => Upd g67 w66 w' ∧ Blk w' g67 24 #[.int .i64 o23.f, .slice a63 o23.args.length c64]) rfl rfl rfl (fun za zC zh zk => st_24 rfl (zh.ev rfl) (zh.ev rfl) rfl rfl hB69 (by first | decide | simp) (fun v => zk v _ ⟨(Upd.at_ _ _ _ _).trans (Upd.at_ _ _ _ _), (hB69.set_ 0 _).set_ 1 _⟩)) ?_
   rintro v81 w78 ⟨hu79, hB80⟩
   have hb82 : Below w.heap.size w w66 := (bstep hb75 hb70)
   have hb83 := upd_below hb82 hu79 (by omega)
   have hb84 := upd_below hb70 hu79 (by omega)
   have hb86 : Below w9.heap.size w9 w66 := (bstep hb22 hb70)
   have hB85 := hB26.below hb86
   have hB87 := upd_blk hB85 hu79 (by omega)
   have hB88 := hB18.below hb86
   have hB89 := upd_blk hB88 hu79 (by omega)
   have hB90 := hB12.below hb86
   have hB91 := upd_blk hB90 hu79 (by omega)
   refine WL.asg rfl rfl rfl rfl rfl (WL.nil (WE.next (WC.seq (WC.region (WL.mv rfl rfl rfl rfl rfl (WL.nil (WE.next ?_)))))))
   refine WC.condT rfl rfl ?_
   refine WC.seq (WC.region ?_)
   refine WL.val _ rfl rfl rfl (fun za zC zh zk => ld_24 rfl (zh.ev rfl) ((hB80.cell 0).trans rfl) ((hB80.cell 1).trans rfl) zk) ?_
   refine WL.val _ rfl rfl rfl (fun za zC zh zk => ld_24 rfl (zh.ev rfl) ((hB91.cell 0).trans rfl) ((hB91.cell 1).trans rfl) zk) ?_
   refine WL.call rfl rfl rfl (fun za zh zC => wp_call (by kernel_rfl) rfl (hv2 (zh.ev rfl) (zh.ev rfl))) (ret_of (rsame_any o23 t _ _ _ (IsT.below hb84 h65) (IsT.below hb83 (InT.isT ht)))) ?_
   rintro _ w93 ⟨rfl, hq92⟩
   refine WL.asg rfl rfl rfl rfl rfl (WL.nil (WE.next (WC.ret (WE.thenRet (WE.thenRet (WE.ret1 rfl rfl ?_))))))
   have hb94 : Below w.heap.size w w93 := (bstep hb83 hq92)
   have hfin := mt_old_ok (l := l) (t := t) h19 hf24
   exact ⟨_, rfl, ⟨st, D, congrArg Value.bool hfin.2.symm, h0.below hb94, fun b q => .inl q, hfin.1⟩, .ofBelow hb94⟩
 ·have h19 : ¬ ((f : Int) < (0 : Int)) := by simpa using h19
  refine WC.skip (WE.next (WC.seq (WC.seq ?_)))
  refine WC.opt [(true, .val (.pointer (some ⟨g2, 0, none⟩))), (true, .val (.int .i64 f)), (true, .val (.pointer (some ⟨g10, 0, none⟩))), (true, .val (.int .i64 t.f)), (true, .val (.bool (((f : Int) != (t.f : Int))))), (true, .val (.bool (((f : Int) != (t.f : Int))))), ((true && !((f : Int) != (t.f : Int))), .val (.pointer (some ⟨g2, 1, none⟩))), ((true && !((f : Int) != (t.f : Int))), .val (.slice pa0 l.length pc0)), ((true && !((f : Int) != (t.f : Int))), .val (.int .i64 (((l.length : Nat) : Int)))), ((true && !((f : Int) != (t.f : Int))), .val (.pointer (some ⟨g10, 1, none⟩))), ((true && !((f : Int) != (t.f : Int))), .val (.slice ta0 t.args.length tc0)), ((true && !((f : Int) != (t.f : Int))), .val (.int .i64 (((t.args.length : Nat) : Int)))), ((true && !((f : Int) != (t.f : Int))), .val (.bool (((((l.length : Nat) : Int) : Int) != (((t.args.length : Nat) : Int) : Int))))), (true, .val (.bool ((((f : Int) != (t.f : Int)) || ((((l.length : Nat) : Int) : Int) != (((t.args.length : Nat) : Int) : Int))))))] [(0, .pointer (some ⟨g, 0, none⟩)), (1, .agg #[.int .i64 f, .slice pa0 l.length pc0]), (2, .agg #[.int .i64 t.f, .slice ta0 t.args.length tc0]), (4, .pointer (some ⟨g2, 0, none⟩)), (5, .pointer (some ⟨g10, 0, none⟩)), (6, .bool false), (12, .bool ((decide ((f : Int) < (0 : Int)))))] ⟨rfl, rfl, rfl, rfl, rfl, rfl, rfl, trivial⟩ (by kernel_rfl) (by kernel_rfl) (by kernel_rfl) ?_ ?_
  ·refine ⟨⟨true, .none rfl, fun h w => optUndef h, fun zβ za zw zc => ?_⟩, ?_⟩
   ·exact fld_24_0 rfl (zc.kn.ev rfl) ⟨_, rfl, Below.refl _ _, optDef zβ rfl⟩
   refine ⟨⟨true, .none rfl, fun h w => optUndef h, fun zβ za zw zc => ?_⟩, ?_⟩
   ·exact ld_3 rfl ((evt za 40).trans (optVal (zc.dep 0 40 (by kernel_rfl)) rfl rfl)) (bkeeps zc.below _ _ ((hB18.cell 0).trans rfl)) ⟨_, rfl, Below.refl _ _, optDef zβ rfl⟩
   refine ⟨⟨true, .none rfl, fun h w => optUndef h, fun zβ za zw zc => ?_⟩, ?_⟩
   ·exact fld_24_0 rfl (zc.kn.ev rfl) ⟨_, rfl, Below.refl _ _, optDef zβ rfl⟩
   refine ⟨⟨true, .none rfl, fun h w => optUndef h, fun zβ za zw zc => ?_⟩, ?_⟩
   ·exact ld_3 rfl ((evt za 42).trans (optVal (zc.dep 2 42 (by kernel_rfl)) rfl rfl)) (bkeeps zc.below _ _ ((hB12.cell 0).trans rfl)) ⟨_, rfl, Below.refl _ _, optDef zβ rfl⟩
   refine ⟨⟨true, .none rfl, fun h w => optUndef h, fun zβ za zw zc => ?_⟩, ?_⟩
   ·exact neq_3 rfl ((evt za 41).trans (optVal (zc.dep 1 41 (by kernel_rfl)) rfl rfl)) ((evt za 43).trans (optVal (zc.dep 3 43 (by kernel_rfl)) rfl rfl)) ⟨_, rfl, Below.refl _ _, optDef zβ rfl⟩
   refine ⟨⟨true, .none rfl, fun h w => optUndef h, fun zβ za zw zc => ?_⟩, ?_⟩
   ·exact wp_move rfl ((evt za 44).trans (optVal (zc.dep 4 44 (by kernel_rfl)) rfl rfl)) ⟨_, rfl, Below.refl _ _, optDef zβ rfl⟩
   refine ⟨⟨_, .no (d := true) rfl (fun v w h => h), fun h w => optUndef h, fun zβ za zw zc => ?_⟩, ?_⟩
   ·exact fld_24_1 rfl (zc.kn.ev rfl) ⟨_, rfl, Below.refl _ _, optDef zβ rfl⟩
   refine ⟨⟨_, .no (d := true) rfl (fun v w h => h), fun h w => optUndef h, fun zβ za zw zc => ?_⟩, ?_⟩
   ·exact ld_22 rfl ((evt za 46).trans (optVal (zc.dep 6 46 (by kernel_rfl)) rfl zβ)) (bkeeps zc.below _ _ ((hB18.cell 1).trans rfl)) ⟨_, rfl, Below.refl _ _, optDef zβ rfl⟩
   refine ⟨⟨_, .no (d := true) rfl (fun v w h => h), fun h w => optUndef h, fun zβ za zw zc => ?_⟩, ?_⟩
   ·exact len_22 rfl ((evt za 47).trans (optVal (zc.dep 7 47 (by kernel_rfl)) rfl zβ)) ⟨_, rfl, Below.refl _ _, optDef zβ rfl⟩
   refine ⟨⟨_, .no (d := true) rfl (fun v w h => h), fun h w => optUndef h, fun zβ za zw zc => ?_⟩, ?_⟩
   ·exact fld_24_1 rfl (zc.kn.ev rfl) ⟨_, rfl, Below.refl _ _, optDef zβ rfl⟩
   refine ⟨⟨_, .no (d := true) rfl (fun v w h => h), fun h w => optUndef h, fun zβ za zw zc => ?_⟩, ?_⟩
   ·exact ld_22 rfl ((evt za 49).trans (optVal (zc.dep 9 49 (by kernel_rfl)) rfl zβ)) (bkeeps zc.below _ _ ((hB12.cell 1).trans rfl)) ⟨_, rfl, Below.refl _ _, optDef zβ rfl⟩
   refine ⟨⟨_, .no (d := true) rfl (fun v w h => h), fun h w => optUndef h, fun zβ za zw zc => ?_⟩, ?_⟩
   ·exact len_22 rfl ((evt za 50).trans (optVal (zc.dep 10 50 (by kernel_rfl)) rfl zβ)) ⟨_, rfl, Below.refl _ _, optDef zβ rfl⟩
   refine ⟨⟨_, .no (d := true) rfl (fun v w h => h), fun h w => optUndef h, fun zβ za zw zc => ?_⟩, ?_⟩
   ·exact neq_3 rfl ((evt za 48).trans (optVal (zc.dep 8 48 (by kernel_rfl)) rfl zβ)) ((evt za 51).trans (optVal (zc.dep 11 51 (by kernel_rfl)) rfl zβ)) ⟨_, rfl, Below.refl _ _, optDef zβ rfl⟩
   refine ⟨⟨true, .none rfl, fun h w => optUndef h, fun zβ za zw zc => ?_⟩, ?_⟩
   ·exact wp_or rfl ((evt za 45).trans (optVal (zc.dep 5 45 (by kernel_rfl)) rfl rfl)) (fun hp => ((evt za 52).trans (optVal (zc.dep 12 52 (by kernel_rfl)) rfl (bMkN zβ hp)))) ⟨_, rfl, Below.refl _ _, optDef zβ rfl⟩
   exact trivial
  ·intro za w95 zh hb96 zu
   have zh := zh.cons (d := 53) (v := .bool ((((f : Int) != (t.f : Int)) || ((((l.length : Nat) : Int) : Int) != (((t.args.length : Nat) : Int) : Int))))) (optVal (zu 13 53 (by kernel_rfl)) rfl rfl)
   clear zu
   refine WE.go zh ?_
   refine WE.next ?_
   refine WC.cond rfl (fun h97 => ?_) (fun h97 => ?_)
   ·have h97 : ((f : Int) ≠ (t.f : Int)) ∨ ((((l.length : Nat) : Int) : Int) ≠ (((t.args.length : Nat) : Int) : Int)) := by simpa using h97
    refine WC.seq (WC.region (WL.asg rfl rfl rfl rfl rfl (WL.nil (WE.next (WC.ret (WE.thenRet (WE.ret1 rfl rfl ?_)))))))
    have hb98 : Below w.heap.size w w95 := (bstep (bstep hb5 hb13) hb96)
    have hfin := mt_offr (st := st) (l := l) (t := t) h19 (fun q => by have z := h97; simp [q.1, q.2] at z)
    exact ⟨_, rfl, ⟨st, D, congrArg Value.bool (by unfold mtB; rw [hfin]; rfl), h0.below hb98, fun b q => .inl q, .same (fun s e => by rw [hfin] at e; cases e)⟩, .ofBelow hb98⟩
   ·have h97 : ¬ (((f : Int) ≠ (t.f : Int)) ∨ ((((l.length : Nat) : Int) : Int) ≠ (((t.args.length : Nat) : Int) : Int))) := by simpa using h97
    refine WC.skip (WE.next (WC.seq (WC.seq (WC.region (WL.asg rfl rfl rfl rfl rfl (WL.nil (WE.next (WC.block ?_))))))))
    have hB99 := hB18.below hb96
    have hl100 : g2 < w95.heap.size := hB99.lt
    have hl101 : w.heap.size ≤ g2 := by have z : w.heap.size ≤ w.heap.size := (Nat.le_refl _); omega
    have hB102 := hB12.below hb96
    have hl103 : g10 < w95.heap.size := hB102.lt
    have hl104 : w.heap.size ≤ g10 := by have z : w.heap.size ≤ w1.heap.size := hb5.size; omega
    have hb105 : Below w.heap.size w w95 := (bstep (bstep hb5 hb13) hb96)
    have hsl : f = t.f ∧ l.length = t.args.length := by have z := h97; (try simp at z); omega
    have hgo : RefGo w95 D g st w95 := RefGo.start (h0.below hb105)
    have hA1 : ∀ b, (A b ∧ b < w.heap.size) → ¬ Since w95 D b := fun b q q2 => q2.elim (hA b q.1) (fun q2 => by have z := (hb105).size; omega)
    have hSD : ∀ b, Since w95 D b → (fun b => (D b ∧ b < w.heap.size) ∨ w95.heap.size ≤ b) b := fun b q => q.imp (fun q => ⟨q, hDlt b q⟩) id
    have hDS : ∀ b, (fun b => (D b ∧ b < w.heap.size) ∨ w95.heap.size ≤ b) b → Since w95 D b := fun b q => q.imp (fun q => q.1) id
    have hp1 := (InT.mono (S' := fun b => A b ∧ b < w.heap.size) (fun b q z => ⟨q, z⟩) hp).below hb105
    have ht1 := (InT.mono (S' := fun b => A b ∧ b < w.heap.size) (fun b q z => ⟨q, z⟩) ht).below hb105
    have hf0 : ¬ f < 0 := h19
    refine WC.loop (X := Nat × List Bd) (fun x => l.length - x.1) (fun x => [(0, .pointer (some ⟨g, 0, none⟩)), (1, .agg #[.int .i64 f, .slice pa0 l.length pc0]), (2, .agg #[.int .i64 t.f, .slice ta0 t.args.length tc0]), (4, .pointer (some ⟨g2, 0, none⟩)), (5, .pointer (some ⟨g10, 0, none⟩)), (9, .int .i64 (((x.1 : Nat) : Int))), (12, .bool ((decide ((f : Int) < (0 : Int))))), (53, .bool ((((f : Int) != (t.f : Int)) || ((((l.length : Nat) : Int) : Int) != (((t.args.length : Nat) : Int) : Int)))))]) (fun x w106 => x.1 ≤ l.length ∧ RtL l t.args st x.1 x.2 ∧ Blk w106 g2 24 #[.int .i64 f, .slice pa0 l.length pc0] ∧ Blk w106 g10 24 #[.int .i64 t.f, .slice ta0 t.args.length tc0] ∧ RefGo w95 D g x.2 (w106) ∧ Chg ((fun b => (D b ∧ b < w.heap.size) ∨ w95.heap.size ≤ b)) w95 w106) ((0, st)) ⟨rfl, rfl, rfl, rfl, rfl, rfl, rfl, rfl, trivial⟩ ?_ ?_
    ·have hs107 : Chg ((fun b => (D b ∧ b < w.heap.size) ∨ w95.heap.size ≤ b)) w95 w95 := (Chg.refl ((fun b => (D b ∧ b < w.heap.size) ∨ w95.heap.size ≤ b)) _)
     exact ⟨Nat.zero_le _, RtL.start, hB99, hB102, hgo, hs107⟩
    ·rintro x w106 ⟨hk, hrl, hB108, hB109, ho110, hc111⟩
     refine WC.seq (WC.seq (WC.region (WL.mv rfl rfl rfl rfl rfl ?_)))
     refine WL.val _ rfl rfl rfl (fun za zC zh zk => fld_24_1 rfl (zh.ev rfl) zk) ?_
     refine WL.val _ rfl rfl rfl (fun za zC zh zk => ld_22 rfl (zh.ev rfl) ((hB108.cell 1).trans rfl) zk) ?_
     refine WL.val (.int .i64 (((l.length : Nat) : Int))) rfl rfl rfl (fun za zC zh zk => len_22 rfl (zh.ev rfl) zk) ?_
     refine WL.val (.bool ((decide ((((x.1 : Nat) : Int) : Int) < (((l.length : Nat) : Int) : Int))))) rfl rfl rfl (fun za zC zh zk => lss_3 rfl (zh.ev rfl) (zh.ev rfl) zk) ?_
     refine WL.nil (WE.next ?_)
     refine WC.cond rfl (fun h112 => ?_) (fun h112 => ?_)
     ·have h112 : (((x.1 : Nat) : Int) : Int) < (((l.length : Nat) : Int) : Int) := by simpa using h112
      refine WC.skip (WE.next (WC.seq (WC.block (WC.seq ?_))))
      have hs113 : Chg ((fun b => (D b ∧ b < w.heap.size) ∨ w95.heap.size ≤ b)) w95 w106 := (Chg.trans2 (Chg.refl ((fun b => (D b ∧ b < w.heap.size) ∨ w95.heap.size ≤ b)) _) hc111 (fun i h1 h2 => by first | exact h2 | exact .inl ⟨h2, h1⟩ | exact .inl h2 | exact .inr h2 | exact .inr (.inl h2) | exact .inr (.inr h2) | ((try dsimp only at *); omega)))
      have hcs9 : Chg (Since w95 D) w95 w106 := hs113.mono hDS
      obtain ⟨pb, po, hpa, hpk⟩ := InTp.arg (b := 0) (o := 0) (hp1.chg hcs9 hA1) x.1 (by simp; omega)
      obtain ⟨qb, qo, hqa, hqk⟩ := InTp.arg (b := 0) (o := 0) (ht1.chg hcs9 hA1) x.1 (by omega)
      have hpS : A pb ∧ pb < w.heap.size := by obtain ⟨b9, o9, a9, c9, e9, k9, _⟩ := hpk; simp only [Value.pointer.injEq, Option.some.injEq, Addr.mk.injEq] at e9; rw [e9.1]; exact k9
      have hqS : A qb ∧ qb < w.heap.size := by obtain ⟨b9, o9, a9, c9, e9, k9, _⟩ := hqk; simp only [Value.pointer.injEq, Option.some.injEq, Addr.mk.injEq] at e9; rw [e9.1]; exact k9
      have hnp : ¬ (fun b => (D b ∧ b < w.heap.size) ∨ w95.heap.size ≤ b) pb := fun q => hA1 pb hpS (hDS pb q)
      have hnq : ¬ (fun b => (D b ∧ b < w.heap.size) ∨ w95.heap.size ≤ b) qb := fun q => hA1 qb hqS (hDS qb q)
      obtain ⟨pka, pkc, hpk1, hpk2, hpk3⟩ := hpk.at
      obtain ⟨qka, qkc, hqk1, hqk2, hqk3⟩ := hqk.at
      simp only [T.args_mk] at hpk1 hpk2 hpk3
      have hsd := sizeL_drop (l := l) (k := x.1) (by omega)
      have hpz := T.size_le_sizeL (tget_mem (l := l) (k := x.1) (by omega))
      have hqz := T.size_le_sizeL (tget_mem (l := t.args) (k := x.1) (by omega))
      have hrhi := hrl.hi
      refine WC.seqV (S := ((fun b => (D b ∧ b < w.heap.size) ∨ w95.heap.size ≤ b))) [(true, .val (.pointer (some ⟨g, 0, none⟩))), (true, .val (.pointer (some ⟨g2, 1, none⟩))), (true, .val (.slice pa0 l.length pc0)), (true, .val (.int .i64 (((x.1 : Nat) : Int)))), (true, .val (.pointer (some ⟨pb, po + x.1 * 2, none⟩))), (true, .val (.agg #[.int .i64 ((tget l x.1).f), .slice pka ((tget l x.1).args.length) pkc])), (true, .val (.pointer (some ⟨g10, 1, none⟩))), (true, .val (.slice ta0 t.args.length tc0)), (true, .val (.int .i64 (((x.1 : Nat) : Int)))), (true, .val (.pointer (some ⟨qb, qo + x.1 * 2, none⟩))), (true, .val (.agg #[.int .i64 ((tget t.args x.1).f), .slice qka ((tget t.args x.1).args.length) qkc])), (true, .val undef), (true, .val (.bool ((!(mtB (tget l x.1) (tget t.args x.1) x.2)))))] [(0, .pointer (some ⟨g, 0, none⟩)), (1, .agg #[.int .i64 f, .slice pa0 l.length pc0]), (2, .agg #[.int .i64 t.f, .slice ta0 t.args.length tc0]), (4, .pointer (some ⟨g2, 0, none⟩)), (5, .pointer (some ⟨g10, 0, none⟩)), (9, .int .i64 (((x.1 : Nat) : Int))), (12, .bool ((decide ((f : Int) < (0 : Int))))), (53, .bool ((((f : Int) != (t.f : Int)) || ((((l.length : Nat) : Int) : Int) != (((t.args.length : Nat) : Int) : Int))))), (58, .bool ((decide ((((x.1 : Nat) : Int) : Int) < (((l.length : Nat) : Int) : Int)))))] [11] [some (true, .bool ((mtB (tget l x.1) (tget t.args x.1) x.2)))] (fun vals wz => match vals with | [] => RefGo w95 D g x.2 wz | [_] => ∃ st2, RefGo w95 D g st2 wz ∧ RtOk (tget l x.1) (tget t.args x.1) x.2 st2 | _ => False) (fun vals w w' hb h => by match vals, h with | [], h => exact RefGo.below h hb | [_], h => obtain ⟨s2, h1, h2⟩ := h; exact ⟨s2, h1.below hb, h2⟩) (by decide) ⟨rfl, rfl, rfl, rfl, rfl, rfl, rfl, rfl, rfl, trivial⟩ (by kernel_rfl) (by kernel_rfl) (by kernel_rfl) (by kernel_rfl) ho110 ?_ ?_
      ·refine ⟨.inl ⟨rfl, true, .none rfl, (fun gg b h => by cases h), fun h w => optUndef h, fun zβ za zw zc => ?_⟩, ?_⟩
       ·exact wp_move rfl (zc.kn.ev rfl) ⟨_, rfl, Below.refl _ _, optDef zβ rfl⟩
       refine ⟨.inl ⟨rfl, true, .none rfl, (fun gg b h => by cases h), fun h w => optUndef h, fun zβ za zw zc => ?_⟩, ?_⟩
       ·exact fld_24_1 rfl (zc.kn.ev rfl) ⟨_, rfl, Below.refl _ _, optDef zβ rfl⟩
       refine ⟨.inl ⟨rfl, true, .none rfl, (fun gg b h => by cases h), fun h w => optUndef h, fun zβ za zw zc => ?_⟩, ?_⟩
       ·exact ld_22 rfl ((evt za 62).trans (optSVal (zc.dep 1 62 (by kernel_rfl) (by decide)) rfl rfl)) (chg_cell zc.chg (by first | assumption | ((try dsimp only at *); omega)) ((hB108.cell 1).trans rfl)) ⟨_, rfl, Below.refl _ _, optDef zβ rfl⟩
       refine ⟨.inl ⟨rfl, true, .none rfl, (fun gg b h => by cases h), fun h w => optUndef h, fun zβ za zw zc => ?_⟩, ?_⟩
       ·exact wp_move rfl (zc.kn.ev rfl) ⟨_, rfl, Below.refl _ _, optDef zβ rfl⟩
       refine ⟨.inl ⟨rfl, true, .none rfl, (fun gg b h => by cases h), fun h w => optUndef h, fun zβ za zw zc => ?_⟩, ?_⟩
       ·exact ix_22 (k := x.1) rfl ((evt za 63).trans (optSVal (zc.dep 2 63 (by kernel_rfl) (by decide)) rfl rfl)) hpa ((evt za 64).trans (optSVal (zc.dep 3 64 (by kernel_rfl) (by decide)) rfl rfl)) (by first | omega | (simp; omega)) ⟨_, rfl, Below.refl _ _, optDef zβ rfl⟩
       refine ⟨.inl ⟨rfl, true, .none rfl, (fun gg b h => by cases h), fun h w => optUndef h, fun zβ za zw zc => ?_⟩, ?_⟩
       ·exact ld_24 rfl ((evt za 65).trans (optSVal (zc.dep 4 65 (by kernel_rfl) (by decide)) rfl rfl)) (chg_cell zc.chg (by first | assumption | ((try dsimp only at *); omega)) hpk1) (chg_cell zc.chg (by first | assumption | ((try dsimp only at *); omega)) hpk2) ⟨_, rfl, Below.refl _ _, optDef zβ rfl⟩
       refine ⟨.inl ⟨rfl, true, .none rfl, (fun gg b h => by cases h), fun h w => optUndef h, fun zβ za zw zc => ?_⟩, ?_⟩
       ·exact fld_24_1 rfl (zc.kn.ev rfl) ⟨_, rfl, Below.refl _ _, optDef zβ rfl⟩
       refine ⟨.inl ⟨rfl, true, .none rfl, (fun gg b h => by cases h), fun h w => optUndef h, fun zβ za zw zc => ?_⟩, ?_⟩
       ·exact ld_22 rfl ((evt za 67).trans (optSVal (zc.dep 6 67 (by kernel_rfl) (by decide)) rfl rfl)) (chg_cell zc.chg (by first | assumption | ((try dsimp only at *); omega)) ((hB109.cell 1).trans rfl)) ⟨_, rfl, Below.refl _ _, optDef zβ rfl⟩
       refine ⟨.inl ⟨rfl, true, .none rfl, (fun gg b h => by cases h), fun h w => optUndef h, fun zβ za zw zc => ?_⟩, ?_⟩
       ·exact wp_move rfl (zc.kn.ev rfl) ⟨_, rfl, Below.refl _ _, optDef zβ rfl⟩
       refine ⟨.inl ⟨rfl, true, .none rfl, (fun gg b h => by cases h), fun h w => optUndef h, fun zβ za zw zc => ?_⟩, ?_⟩
       ·exact ix_22 (k := x.1) rfl ((evt za 68).trans (optSVal (zc.dep 7 68 (by kernel_rfl) (by decide)) rfl rfl)) hqa ((evt za 69).trans (optSVal (zc.dep 8 69 (by kernel_rfl) (by decide)) rfl rfl)) (by first | omega | (simp; omega)) ⟨_, rfl, Below.refl _ _, optDef zβ rfl⟩
       refine ⟨.inl ⟨rfl, true, .none rfl, (fun gg b h => by cases h), fun h w => optUndef h, fun zβ za zw zc => ?_⟩, ?_⟩
       ·exact ld_24 rfl ((evt za 70).trans (optSVal (zc.dep 9 70 (by kernel_rfl) (by decide)) rfl rfl)) (chg_cell zc.chg (by first | assumption | ((try dsimp only at *); omega)) hqk1) (chg_cell zc.chg (by first | assumption | ((try dsimp only at *); omega)) hqk2) ⟨_, rfl, Below.refl _ _, optDef zβ rfl⟩
       refine ⟨.inr ⟨0, rfl, by kernel_rfl, true, .none rfl, (fun gg b h => by cases h), (fun h => (nomatch h)), fun zβ za zw zvals zc => ?_⟩, ?_⟩
       ·obtain rfl := vlen0 zc.len
        have zn := zc.now
        exact wp_call (by kernel_rfl) rfl (hv3 ((evt za 61).trans (optSVal (zc.dep 0 61 (by kernel_rfl) (by decide)) rfl rfl)) ((evt za 66).trans (optSVal (zc.dep 5 66 (by kernel_rfl) (by decide)) rfl rfl)) ((evt za 71).trans (optSVal (zc.dep 10 71 (by kernel_rfl) (by decide)) rfl rfl))) (rterm_go (ih (tget l x.1) (tget_mem (by omega))) zn (hpk3.chg (zc.chg.mono hDS) hA1) (hqk3.chg (zc.chg.mono hDS) hA1) hA1 (by omega) (by omega) (by omega)) (fun v w' h => by obtain ⟨⟨st2, e2, k1, k2⟩, k3⟩ := h; exact ⟨v, rfl, k3.mono hSD, ⟨st2, k1, k2⟩, cvIs e2⟩)
       refine ⟨.inl ⟨rfl, true, .none rfl, (fun gg b h => by cases h), fun h w => optUndef h, fun zβ za zw zc => ?_⟩, ?_⟩
       ·exact wp_not rfl ((evt za 72).trans (zc.link 0 11 72 _ _ rfl (by kernel_rfl) rfl rfl)) ⟨_, rfl, Below.refl _ _, optDef zβ rfl⟩
       exact trivial
      ·intro za w114 zvals zh zl hG115 hc116 zu zw zk
       obtain ⟨z0, rfl⟩ := vlen1 zl
       have zh := zh.cons (d := 73) (v := .bool ((!(mtB (tget l x.1) (tget t.args x.1) x.2)))) (optSVal (zu 12 73 (by kernel_rfl) (by decide)) rfl rfl)
       obtain ⟨st117, hgo118, hrk119⟩ := hG115
       have hB120 := chg_blk hB108 hc116 (fun h => by (try dsimp only at *); omega)
       have hB121 := chg_blk hB109 hc116 (fun h => by (try dsimp only at *); omega)
       clear zu zw zk
       refine WE.go zh ?_
       refine WE.next ?_
       refine WC.cond rfl (fun h122 => ?_) (fun h122 => ?_)
       ·have h122 : ¬ ((mtB (tget l x.1) (tget t.args x.1) x.2) = true) := by simpa using h122
        refine WC.seq (WC.region (WL.asg rfl rfl rfl rfl rfl (WL.nil (WE.next (WC.ret (WE.blockRet (WE.thenRet (WE.thenRet (WE.blockRet (WE.thenRet (WE.ret1 rfl rfl ?_)))))))))))
        have hs123 : Chg ((fun b => (D b ∧ b < w.heap.size) ∨ w95.heap.size ≤ b)) w95 w114 := (Chg.trans2 (Chg.trans2 (Chg.refl ((fun b => (D b ∧ b < w.heap.size) ∨ w95.heap.size ≤ b)) _) hc111 (fun i h1 h2 => by first | exact h2 | exact .inl ⟨h2, h1⟩ | exact .inl h2 | exact .inr h2 | exact .inr (.inl h2) | exact .inr (.inr h2) | ((try dsimp only at *); omega))) hc116 (fun i h1 h2 => by first | exact h2 | exact .inl ⟨h2, h1⟩ | exact .inl h2 | exact .inr h2 | exact .inr (.inl h2) | exact .inr (.inr h2) | ((try dsimp only at *); omega)))
        have hfin := hrl.bad hf0 hsl (by omega) hrk119 h122
        obtain ⟨D9, z1, z2⟩ := RefGo.done hgo118 (hb105).size
        exact ⟨_, rfl, ⟨_, D9, congrArg Value.bool hfin.2.symm, z1, z2, hfin.1⟩, chg_since hb105 (hs123.mono hDS)⟩
       ·have h122 : ¬ (¬ ((mtB (tget l x.1) (tget t.args x.1) x.2) = true)) := by simpa using h122
        refine WC.skip (WE.blockNormal (WE.next (WC.region (WL.mv rfl rfl rfl rfl rfl ?_))))
        refine WL.val (.int .i64 ((((x.1 + 1) : Nat) : Int))) rfl rfl rfl (fun za zC zh zk => addb_3 rfl (zh.ev rfl) (zh.ev rfl) (wrap_eq (by omega) (by omega) (by omega)) zk) ?_
        refine WL.asg rfl rfl rfl rfl rfl (WL.nil ?_)
        refine WE.round ((x.1 + 1, st117)) ⟨rfl, rfl, rfl, rfl, rfl, rfl, rfl, rfl, trivial⟩ ?_ ?_
        ·have hs124 : Chg ((fun b => (D b ∧ b < w.heap.size) ∨ w95.heap.size ≤ b)) w95 w114 := (Chg.trans2 (Chg.trans2 (Chg.refl ((fun b => (D b ∧ b < w.heap.size) ∨ w95.heap.size ≤ b)) _) hc111 (fun i h1 h2 => by first | exact h2 | exact .inl ⟨h2, h1⟩ | exact .inl h2 | exact .inr h2 | exact .inr (.inl h2) | exact .inr (.inr h2) | ((try dsimp only at *); omega))) hc116 (fun i h1 h2 => by first | exact h2 | exact .inl ⟨h2, h1⟩ | exact .inl h2 | exact .inr h2 | exact .inr (.inl h2) | exact .inr (.inr h2) | ((try dsimp only at *); omega)))
         exact ⟨by (try dsimp only); omega, hrl.next (by omega) hsl.2 hrk119 (Classical.not_not.1 h122), hB120, hB121, hgo118, hs124⟩
        ·(try dsimp only); omega
     ·have h112 : ¬ ((((x.1 : Nat) : Int) : Int) < (((l.length : Nat) : Int) : Int)) := by simpa using h112
      refine WC.exit (WE.thenExit (WE.thenExit (WE.blockIs rfl (WE.next (WC.seq (WC.region (WL.asg rfl rfl rfl rfl rfl (WL.nil (WE.next (WC.ret (WE.ret1 rfl rfl ?_)))))))))))
      have hs125 : Chg ((fun b => (D b ∧ b < w.heap.size) ∨ w95.heap.size ≤ b)) w95 w106 := (Chg.trans2 (Chg.refl ((fun b => (D b ∧ b < w.heap.size) ∨ w95.heap.size ≤ b)) _) hc111 (fun i h1 h2 => by first | exact h2 | exact .inl ⟨h2, h1⟩ | exact .inl h2 | exact .inr h2 | exact .inr (.inl h2) | exact .inr (.inr h2) | ((try dsimp only at *); omega)))
      have hfin := hrl.good hf0 hsl (by omega)
      obtain ⟨D9, z1, z2⟩ := RefGo.done ho110 (hb105).size
      exact ⟨_, rfl, ⟨_, D9, congrArg Value.bool hfin.2.symm, z1, z2, hfin.1⟩, chg_since hb105 (hs125.mono hDS)⟩
end Go.Proofs.Ytibncmnmjhimeaa

/- The document's matcher: terms, literals, marks. -/
namespace Go.Proofs.Ytibncmnmjhimeaa
open Go.RowKit Go
set_option linter.unusedVariables false
set_option linter.unusedSimpArgs false
set_option maxRecDepth 100000 in
theorem rTerm_any (p t : T) {g : Nat} {st : List Bd} {D A : Nat → Prop} {w : World} {u v : Value} (h : RefAt w g st D) (hp : InT A w p u) (ht : InT A w t v) (hA : ∀ b, A b → ¬ D b) (hzp : p.size ≤ 4294967296) (hzt : t.size ≤ 4294967296) (hn : st.length + p.size ≤ 1099511627776) :
  Calls Try.prog 33 #[.pointer (some ⟨g, 0, none⟩), u, v] w (Ret fun v' w' => (∃ D', v' = .bool (mOk p t st) ∧ RefAt w' g (mTo p t st) D' ∧ ∀ b, D' b → D b ∨ w.heap.size ≤ b) ∧ Chg D w w') := by
 have h0 := h
 obtain ⟨a, c, hR⟩ := h
 have hDlt := hR.dlt
 have hgl := hR.blk.lt
 obtain ⟨hcap1, hcap2⟩ := hR.cap
 unfold maxLen at hcap2
 obtain ⟨hfp, pa0, pc0, rfl, _, _, _⟩ := hp.form
 obtain ⟨hft, ta0, tc0, rfl, _, _, _⟩ := ht.form
 refine Calls.walk (l := [.pointer (some ⟨g, 0, none⟩), .agg #[.int .i64 p.f, .slice pa0 p.args.length pc0], .agg #[.int .i64 t.f, .slice ta0 t.args.length tc0]]) Try.func33 rfl (by kernel_rfl) ?_
 refine WC.sub (K' := [(0, .pointer (some ⟨g, 0, none⟩)), (1, .agg #[.int .i64 p.f, .slice pa0 p.args.length pc0]), (2, .agg #[.int .i64 t.f, .slice ta0 t.args.length tc0])]) ⟨rfl, rfl, rfl, trivial⟩ ?_
 refine WC.seq (WC.region ?_)
 refine WL.step (post := NewBlk w 24 #[.int .i64 p.f, .slice pa0 p.args.length pc0]) rfl rfl rfl (fun za zC zh zk => box_24 rfl (zh.ev rfl) (zk _ _ (newBlk _ _ _))) ?_
 rintro _ w1 ⟨g2, rfl, hg3, hB4, hb5, hz6⟩
 have hl7 : g < g2 := by have z1 := hR.blk.lt; omega
 have hl8 : w.heap.size ≤ g2 := by omega
 refine WL.step (post := NewBlk w1 24 #[.int .i64 t.f, .slice ta0 t.args.length tc0]) rfl rfl rfl (fun za zC zh zk => box_24 rfl (zh.ev rfl) (zk _ _ (newBlk _ _ _))) ?_
 rintro _ w9 ⟨g10, rfl, hg11, hB12, hb13, hz14⟩
 have hl15 : g < g10 := by have z1 := hR.blk.lt; have z2 := (hb5).size; omega
 have hl16 : g2 < g10 := by have z1 := hB4.lt; omega
 have hl17 : w.heap.size ≤ g10 := by have z2 := (hb5).size; omega
 refine WL.asg rfl rfl rfl rfl rfl (WL.nil (WE.next (WC.seq (WC.region (WL.mv rfl rfl rfl rfl rfl ?_)))))
 refine WL.val _ rfl rfl rfl (fun za zC zh zk => nilCheck_ rfl (zh.ev rfl) zk) ?_
 refine WL.val _ rfl rfl rfl (fun za zC zh zk => fld_66_0 rfl (zh.ev rfl) zk) ?_
 have hb19 : Below w.heap.size w w9 := (bstep hb5 hb13)
 have hB18 := hR.blk.below hb19
 refine WL.val _ rfl rfl rfl (fun za zC zh zk => ld_36 rfl (zh.ev rfl) ((hB18.cell 0).trans rfl) zk) ?_
 refine WL.val (.int .i64 (((st.length : Nat) : Int))) rfl rfl rfl (fun za zC zh zk => len_36 rfl (zh.ev rfl) zk) ?_
 refine WL.asg rfl rfl rfl rfl rfl (WL.nil (WE.next (WC.seq (WC.seq (WC.region ?_)))))
 have hB20 := hB4.below hb13
 refine WL.val _ rfl rfl rfl (fun za zC zh zk => ld_24 rfl (zh.ev rfl) ((hB20.cell 0).trans rfl) ((hB20.cell 1).trans rfl) zk) ?_
 refine WL.call rfl rfl rfl (fun za zh zC => wp_call (by kernel_rfl) rfl (hv1 (zh.ev rfl))) (rplain_any p _ _ hzp (IsT.below hb19 (InT.isT hp))) ?_
 rintro _ w22 ⟨rfl, hq21⟩
 refine WL.mv rfl rfl rfl rfl rfl ?_
 refine bool_split ((p.plain)) (fun h23 => ?_) (fun h23 => ?_)
 ·refine WL.setb (d := 15) (b := true) rfl h23 ?_
  refine WL.want (d := 15) rfl rfl rfl ?_
  have hB24 := hB12.below hq21
  refine WL.val _ rfl rfl rfl (fun za zC zh zk => ld_24 rfl (zh.ev rfl) ((hB24.cell 0).trans rfl) ((hB24.cell 1).trans rfl) zk) ?_
  refine WL.want (d := 15) rfl rfl rfl ?_
  have hb25 : Below w.heap.size w w22 := (bstep hb19 hq21)
  refine WL.call rfl rfl rfl (fun za zh zC => wp_call (by kernel_rfl) rfl (hv1 (zh.ev rfl))) (rplain_any t _ _ hzt (IsT.below hb25 (InT.isT ht))) ?_
  rintro _ w27 ⟨rfl, hq26⟩
  refine WL.val (.bool ((t.plain))) rfl rfl rfl (fun za zC zh zk => wp_pickT rfl (zh.ev rfl) (zh.ev rfl) zk) ?_
  refine WL.mv rfl rfl rfl rfl rfl ?_
  refine bool_split ((t.plain)) (fun h28 => ?_) (fun h28 => ?_)
  ·refine WL.setb (d := 19) (b := true) rfl h28 ?_
   refine WL.want (d := 19) rfl rfl rfl ?_
   refine WL.mv rfl rfl rfl rfl rfl ?_
   refine WL.want (d := 19) rfl rfl rfl ?_
   have hb30 : Below w9.heap.size w9 w27 := (bstep hq21 hq26)
   have hB29 := hB20.below hb30
   refine WL.val _ rfl rfl rfl (fun za zC zh zk => ld_24 rfl (zh.ev rfl) ((hB29.cell 0).trans rfl) ((hB29.cell 1).trans rfl) zk) ?_
   refine WL.want (d := 19) rfl rfl rfl ?_
   have hB31 := hB24.below hq26
   refine WL.val _ rfl rfl rfl (fun za zC zh zk => ld_24 rfl (zh.ev rfl) ((hB31.cell 0).trans rfl) ((hB31.cell 1).trans rfl) zk) ?_
   refine WL.want (d := 19) rfl rfl rfl ?_
   have hb32 : Below w.heap.size w w27 := (bstep hb19 hb30)
   have hl33 : g2 < w27.heap.size := hB29.lt
   have hl34 : w.heap.size ≤ g2 := by have z : w.heap.size ≤ w.heap.size := (Nat.le_refl _); omega
   have hl35 : g10 < w27.heap.size := hB31.lt
   have hl36 : w.heap.size ≤ g10 := by have z : w.heap.size ≤ w1.heap.size := hb5.size; omega
   have hgo : RefGo w27 D g st w27 := RefGo.start (h0.below hb32)
   have hA1 : ∀ b, (A b ∧ b < w.heap.size) → ¬ Since w27 D b := fun b q q2 => q2.elim (hA b q.1) (fun q2 => by have z := (hb32).size; omega)
   refine WL.call rfl rfl rfl (fun za zh zC => wp_call (by kernel_rfl) rfl (hv3 (zh.ev rfl) (zh.ev rfl) (zh.ev rfl))) (rterm_go (rterm_any p) hgo ((InT.mono (S' := fun b => A b ∧ b < w.heap.size) (fun b q z => ⟨q, z⟩) hp).below hb32) ((InT.mono (S' := fun b => A b ∧ b < w.heap.size) (fun b q z => ⟨q, z⟩) ht).below hb32) hA1 hzp hzt hn) ?_
   rintro _ w37 ⟨⟨st2, rfl, hgo2, hrk⟩, hcT⟩
   have hB38 := chg_blk hB29 hcT (fun h => h.elim (fun h => by have z := hDlt _ h; (try dsimp only at *); omega) (fun h => by (try dsimp only at *); omega))
   have hB39 := chg_blk hB31 hcT (fun h => h.elim (fun h => by have z := hDlt _ h; (try dsimp only at *); omega) (fun h => by (try dsimp only at *); omega))
   obtain ⟨D2, a2, c2, hR2, hD2⟩ := hgo2.in_
   obtain ⟨hcap3, hcap4⟩ := hR2.cap
   have hrlo := hrk.lo
   refine WL.val (.bool ((mtB p t st))) rfl rfl rfl (fun za zC zh zk => wp_pickT rfl (zh.ev rfl) (zh.ev rfl) zk) ?_
   refine WL.nil (WE.next ?_)
   refine WC.cond rfl (fun h40 => ?_) (fun h40 => ?_)
   ·skip
    refine WC.seq (WC.region (WL.asg rfl rfl rfl rfl rfl (WL.nil (WE.next (WC.ret (WE.thenRet (WE.ret1 rfl rfl ?_)))))))
    have hfin := fin_ok (p := p) (t := t) (st := st) (s := st2) h23 h28 (mtB_some hrk h40)
    obtain ⟨D9, z1, z2⟩ := RefGo.done (hgo2.below (Below.refl _ _)) (hb32).size
    exact ⟨_, rfl, ⟨D9, congrArg Value.bool hfin.1.symm, by rw [hfin.2]; exact z1, z2⟩, (chg_since hb32 hcT).trans (.ofBelow (Below.refl _ _))⟩
   ·skip
    refine WC.skip (WE.next (WC.seq (WC.region (WL.mv rfl rfl rfl rfl rfl (WL.mv rfl rfl rfl rfl rfl ?_)))))
    refine WL.val _ rfl rfl rfl (fun za zC zh zk => nilCheck_ rfl (zh.ev rfl) zk) ?_
    refine WL.val _ rfl rfl rfl (fun za zC zh zk => fld_66_0 rfl (zh.ev rfl) zk) ?_
    refine WL.val _ rfl rfl rfl (fun za zC zh zk => ld_36 rfl (zh.ev rfl) ((hR2.blk.cell 0).trans rfl) zk) ?_
    refine WL.mv rfl rfl rfl rfl rfl ?_
    refine WL.val (.slice a2 st.length c2) rfl rfl rfl (fun za zC zh zk => shi_36 (k := st.length) rfl (zh.ev rfl) (zh.ev rfl) (by omega) zk) ?_
    refine WL.val _ rfl rfl rfl (fun za zC zh zk => nilCheck_ rfl (zh.ev rfl) zk) ?_
    refine WL.val _ rfl rfl rfl (fun za zC zh zk => fld_66_0 rfl (zh.ev rfl) zk) ?_
    refine WL.step (post := fun _ w' => Upd g w37 w' ∧ Blk w' g 66 #[.slice a2 st.length c2]) rfl rfl rfl (fun za zC zh zk => st_36 rfl (zh.ev rfl) (zh.ev rfl) hR2.blk (by first | decide | simp) (fun v => zk v _ ⟨Upd.at_ _ _ _ _, hR2.blk.set_ 0 _⟩)) ?_
    rintro v44 w41 ⟨hu42, hB43⟩
    have hB45 := upd_blk hB38 hu42 (by omega)
    have hB46 := upd_blk hB39 hu42 (by omega)
    refine WL.nil (WE.sub (K' := [(0, .pointer (some ⟨g, 0, none⟩)), (1, .agg #[.int .i64 p.f, .slice pa0 p.args.length pc0]), (2, .agg #[.int .i64 t.f, .slice ta0 t.args.length tc0]), (4, .pointer (some ⟨g2, 0, none⟩)), (5, .pointer (some ⟨g10, 0, none⟩)), (6, .bool false), (7, .int .i64 (((st.length : Nat) : Int))), (24, .bool ((mtB p t st)))]) ⟨rfl, rfl, rfl, rfl, rfl, rfl, rfl, rfl, trivial⟩ ?_)
    refine WE.next (WC.seq (WC.region (WL.asg rfl rfl rfl rfl rfl (WL.nil (WE.next (WC.ret (WE.ret1 rfl rfl ?_)))))))
    have hfin := fin_no (p := p) (t := t) (st := st) h23 h28 (mtB_none (Bool.eq_false_iff.1 h40))
    have hs47 : Chg ((fun b => b = g)) w37 w41 := (Chg.trans2 (Chg.refl ((fun b => b = g)) _) (Chg.ofUpd (S := fun k => k = g) hu42 rfl) (fun i h1 h2 => by first | exact h2 | exact .inl ⟨h2, h1⟩ | exact .inl h2 | exact .inr h2 | exact .inr (.inl h2) | exact .inr (.inr h2) | ((try dsimp only at *); omega)))
    have hcS := hs47
    have hRb := hR2.cut st.length hrlo hB43 hcS
    rw [hrk.pre] at hRb
    exact ⟨_, rfl, ⟨D2, congrArg Value.bool hfin.1.symm, by rw [hfin.2]; exact ⟨_, _, hRb⟩, fun b q => (hD2 b q).imp id (fun q => by have z := (hb32).size; omega)⟩, (chg_since hb32 hcT).trans2 hcS (fun b _ e => e ▸ hR.dg)⟩
  ·refine WL.setb (d := 19) (b := false) rfl h28 ?_
   refine WL.skip (d := 19) rfl rfl rfl rfl rfl ?_
   refine WL.skip (d := 19) rfl rfl rfl rfl rfl ?_
   refine WL.skip (d := 19) rfl rfl rfl rfl rfl ?_
   refine WL.skip (d := 19) rfl rfl rfl rfl rfl ?_
   refine WL.val (.bool false) rfl rfl rfl (fun za zC zh zk => wp_pickF rfl (zh.ev rfl) (zh.ev rfl) zk) ?_
   refine WL.nil (WE.next ?_)
   refine WC.condF rfl rfl ?_
   refine WC.skip (WE.next (WC.seq (WC.region (WL.mv rfl rfl rfl rfl rfl (WL.mv rfl rfl rfl rfl rfl ?_)))))
   refine WL.val _ rfl rfl rfl (fun za zC zh zk => nilCheck_ rfl (zh.ev rfl) zk) ?_
   refine WL.val _ rfl rfl rfl (fun za zC zh zk => fld_66_0 rfl (zh.ev rfl) zk) ?_
   have hb49 : Below w9.heap.size w9 w27 := (bstep hq21 hq26)
   have hB48 := hB18.below hb49
   refine WL.val _ rfl rfl rfl (fun za zC zh zk => ld_36 rfl (zh.ev rfl) ((hB48.cell 0).trans rfl) zk) ?_
   refine WL.mv rfl rfl rfl rfl rfl ?_
   refine WL.val (.slice a st.length c) rfl rfl rfl (fun za zC zh zk => shi_36 (k := st.length) rfl (zh.ev rfl) (zh.ev rfl) (by omega) zk) ?_
   refine WL.val _ rfl rfl rfl (fun za zC zh zk => nilCheck_ rfl (zh.ev rfl) zk) ?_
   refine WL.val _ rfl rfl rfl (fun za zC zh zk => fld_66_0 rfl (zh.ev rfl) zk) ?_
   refine WL.step (post := fun _ w' => Upd g w27 w' ∧ Blk w' g 66 #[.slice a st.length c]) rfl rfl rfl (fun za zC zh zk => st_36 rfl (zh.ev rfl) (zh.ev rfl) hB48 (by first | decide | simp) (fun v => zk v _ ⟨Upd.at_ _ _ _ _, hB48.set_ 0 _⟩)) ?_
   rintro v53 w50 ⟨hu51, hB52⟩
   have hB54 := hB20.below hb49
   have hB55 := upd_blk hB54 hu51 (by omega)
   have hB56 := hB24.below hq26
   have hB57 := upd_blk hB56 hu51 (by omega)
   refine WL.nil (WE.sub (K' := [(0, .pointer (some ⟨g, 0, none⟩)), (1, .agg #[.int .i64 p.f, .slice pa0 p.args.length pc0]), (2, .agg #[.int .i64 t.f, .slice ta0 t.args.length tc0]), (4, .pointer (some ⟨g2, 0, none⟩)), (5, .pointer (some ⟨g10, 0, none⟩)), (6, .bool false), (7, .int .i64 (((st.length : Nat) : Int))), (24, .bool false)]) ⟨rfl, rfl, rfl, rfl, rfl, rfl, rfl, rfl, trivial⟩ ?_)
   refine WE.next (WC.seq (WC.region (WL.asg rfl rfl rfl rfl rfl (WL.nil (WE.next (WC.ret (WE.ret1 rfl rfl ?_)))))))
   have hfin := fin_np (p := p) (t := t) (st := st) (fun q => by have z := h28; simp [q.1, q.2] at z)
   have hb58 : Below w.heap.size w w27 := (bstep hb19 hb49)
   have hs59 : Chg ((fun b => b = g)) w27 w50 := (Chg.trans2 (Chg.refl ((fun b => b = g)) _) (Chg.ofUpd (S := fun k => k = g) hu51 rfl) (fun i h1 h2 => by first | exact h2 | exact .inl ⟨h2, h1⟩ | exact .inl h2 | exact .inr h2 | exact .inr (.inl h2) | exact .inr (.inr h2) | ((try dsimp only at *); omega)))
   have hRb := (hR.chg (S := fun _ => False) (.ofBelow hb58) (fun _ _ => id)).cut st.length (Nat.le_refl _) hB52 hs59
   rw [List.take_length] at hRb
   have hs60 : Chg ((fun b => b = g)) w w50 := (Chg.trans2 (Chg.trans2 (Chg.refl ((fun b => b = g)) _) (Chg.ofBelow (S := fun k => k < 0) hb58) (fun i h1 h2 => by first | exact h2 | exact .inl ⟨h2, h1⟩ | exact .inl h2 | exact .inr h2 | exact .inr (.inl h2) | exact .inr (.inr h2) | ((try dsimp only at *); omega))) (Chg.ofUpd (S := fun k => k = g) hu51 rfl) (fun i h1 h2 => by first | exact h2 | exact .inl ⟨h2, h1⟩ | exact .inl h2 | exact .inr h2 | exact .inr (.inl h2) | exact .inr (.inr h2) | ((try dsimp only at *); omega)))
   exact ⟨_, rfl, ⟨D, congrArg Value.bool hfin.1.symm, by rw [hfin.2]; exact ⟨_, _, hRb⟩, fun b q => .inl q⟩, hs60.mono (fun b q => q ▸ hR.dg)⟩
 ·refine WL.setb (d := 15) (b := false) rfl h23 ?_
  refine WL.skip (d := 15) rfl rfl rfl rfl rfl ?_
  refine WL.skip (d := 15) rfl rfl rfl rfl rfl ?_
  refine WL.val (.bool false) rfl rfl rfl (fun za zC zh zk => wp_pickF rfl (zh.ev rfl) (zh.ev rfl) zk) ?_
  refine WL.mv rfl rfl rfl rfl rfl ?_
  refine WL.skip (d := 19) rfl rfl rfl rfl rfl ?_
  refine WL.skip (d := 19) rfl rfl rfl rfl rfl ?_
  refine WL.skip (d := 19) rfl rfl rfl rfl rfl ?_
  refine WL.skip (d := 19) rfl rfl rfl rfl rfl ?_
  refine WL.val (.bool false) rfl rfl rfl (fun za zC zh zk => wp_pickF rfl (zh.ev rfl) (zh.ev rfl) zk) ?_
  refine WL.nil (WE.next ?_)
  refine WC.condF rfl rfl ?_
  refine WC.skip (WE.next (WC.seq (WC.region (WL.mv rfl rfl rfl rfl rfl (WL.mv rfl rfl rfl rfl rfl ?_)))))
  refine WL.val _ rfl rfl rfl (fun za zC zh zk => nilCheck_ rfl (zh.ev rfl) zk) ?_
  refine WL.val _ rfl rfl rfl (fun za zC zh zk => fld_66_0 rfl (zh.ev rfl) zk) ?_
  have hB61 := hB18.below hq21
  refine WL.val _ rfl rfl rfl (fun za zC zh zk => ld_36 rfl (zh.ev rfl) ((hB61.cell 0).trans rfl) zk) ?_
  refine WL.mv rfl rfl rfl rfl rfl ?_
  refine WL.val (.slice a st.length c) rfl rfl rfl (fun za zC zh zk => shi_36 (k := st.length) rfl (zh.ev rfl) (zh.ev rfl) (by omega) zk) ?_
  refine WL.val _ rfl rfl rfl (fun za zC zh zk => nilCheck_ rfl (zh.ev rfl) zk) ?_
  refine WL.val _ rfl rfl rfl (fun za zC zh zk => fld_66_0 rfl (zh.ev rfl) zk) ?_
  refine WL.step (post := fun _ w' => Upd g w22 w' ∧ Blk w' g 66 #[.slice a st.length c]) rfl rfl rfl (fun za zC zh zk => st_36 rfl (zh.ev rfl) (zh.ev rfl) hB61 (by first | decide | simp) (fun v => zk v _ ⟨Upd.at_ _ _ _ _, hB61.set_ 0 _⟩)) ?_
  rintro v65 w62 ⟨hu63, hB64⟩
  have hB66 := hB20.below hq21
  have hB67 := upd_blk hB66 hu63 (by omega)
  have hB68 := hB12.below hq21
  have hB69 := upd_blk hB68 hu63 (by omega)
  refine WL.nil (WE.sub (K' := [(0, .pointer (some ⟨g, 0, none⟩)), (1, .agg #[.int .i64 p.f, .slice pa0 p.args.length pc0]), (2, .agg #[.int .i64 t.f, .slice ta0 t.args.length tc0]), (4, .pointer (some ⟨g2, 0, none⟩)), (5, .pointer (some ⟨g10, 0, none⟩)), (6, .bool false), (7, .int .i64 (((st.length : Nat) : Int))), (24, .bool false)]) ⟨rfl, rfl, rfl, rfl, rfl, rfl, rfl, rfl, trivial⟩ ?_)
  refine WE.next (WC.seq (WC.region (WL.asg rfl rfl rfl rfl rfl (WL.nil (WE.next (WC.ret (WE.ret1 rfl rfl ?_)))))))
  have hfin := fin_np (p := p) (t := t) (st := st) (fun q => by have z := h23; simp [q.1, q.2] at z)
  have hb70 : Below w.heap.size w w22 := (bstep hb19 hq21)
  have hs71 : Chg ((fun b => b = g)) w22 w62 := (Chg.trans2 (Chg.refl ((fun b => b = g)) _) (Chg.ofUpd (S := fun k => k = g) hu63 rfl) (fun i h1 h2 => by first | exact h2 | exact .inl ⟨h2, h1⟩ | exact .inl h2 | exact .inr h2 | exact .inr (.inl h2) | exact .inr (.inr h2) | ((try dsimp only at *); omega)))
  have hRb := (hR.chg (S := fun _ => False) (.ofBelow hb70) (fun _ _ => id)).cut st.length (Nat.le_refl _) hB64 hs71
  rw [List.take_length] at hRb
  have hs72 : Chg ((fun b => b = g)) w w62 := (Chg.trans2 (Chg.trans2 (Chg.refl ((fun b => b = g)) _) (Chg.ofBelow (S := fun k => k < 0) hb70) (fun i h1 h2 => by first | exact h2 | exact .inl ⟨h2, h1⟩ | exact .inl h2 | exact .inr h2 | exact .inr (.inl h2) | exact .inr (.inr h2) | ((try dsimp only at *); omega))) (Chg.ofUpd (S := fun k => k = g) hu63 rfl) (fun i h1 h2 => by first | exact h2 | exact .inl ⟨h2, h1⟩ | exact .inl h2 | exact .inr h2 | exact .inr (.inl h2) | exact .inr (.inr h2) | ((try dsimp only at *); omega)))
  exact ⟨_, rfl, ⟨D, congrArg Value.bool hfin.1.symm, by rw [hfin.2]; exact ⟨_, _, hRb⟩, fun b q => .inl q⟩, hs72.mono (fun b q => q ▸ hR.dg)⟩
end Go.Proofs.Ytibncmnmjhimeaa

/- The document matches literals. -/
namespace Go.Proofs.Ytibncmnmjhimeaa
open Go.RowKit Go
set_option linter.unusedVariables false
set_option linter.unusedSimpArgs false
end Go.Proofs.Ytibncmnmjhimeaa

/- Rows of bindings of the call's own: opened, written, cut. -/
namespace Go.Proofs.Ytibncmnmjhimeaa
open Go.RowKit Go
set_option linter.unusedVariables false
set_option linter.unusedSimpArgs false
abbrev BdV := Bd × Value × Value
def encB (x : BdV) : List Value := [.int .i64 x.1.var, x.2.1, x.2.2]
/-- What a row of bindings holds. -/
def BdOk (S : Nat → Prop) (w : World) (p : BdV) : Prop := I64 p.1.var ∧ InT S w p.1.t (.agg #[p.2.1, p.2.2])
theorem elts_bdv {S : Nat → Prop} {w : World} : ∀ {l : List Bd} {xs : List Value}, Elts eltB S w l xs → ∃ ds : List BdV, ds.map (·.1) = l ∧ xs = ds.flatMap encB ∧ ∀ p ∈ ds, BdOk S w p
  | [], _, h => ⟨[], rfl, h, fun p hp => nomatch hp⟩
  | x :: l, _, ⟨cs, r, e, ⟨u, v, e2, h0, h1⟩, h2⟩ => by
    obtain ⟨ds, h3, rfl, h5⟩ := elts_bdv h2
    refine ⟨(x, u, v) :: ds, by simp [h3], by rw [e, e2]; rfl, fun p hp => ?_⟩
    rcases List.mem_cons.1 hp with rfl | hp
    · exact ⟨h0, h1⟩
    · exact h5 p hp
theorem bdv_elts {S : Nat → Prop} {w : World} : ∀ {ds : List BdV}, (∀ p ∈ ds, BdOk S w p) → Elts eltB S w (ds.map (·.1)) (ds.flatMap encB)
  | [], _ => rfl
  | p :: ds, h => ⟨encB p, ds.flatMap encB, rfl, ⟨p.2.1, p.2.2, rfl, (h p (by simp)).1, (h p (by simp)).2⟩, bdv_elts fun q hq => h q (by simp [hq])⟩
theorem len_encB (ds : List BdV) : (ds.flatMap encB).length = ds.length * 3 := by
  induction ds with
  | nil => rfl
  | cons p r ih => rw [List.flatMap_cons, List.length_append, ih, List.length_cons]; show 3 + _ = _; omega
section
variable {w : World} {B e n rc g : Nat} {P : List Bd}
theorem own_some : (Value.slice (some ⟨g, 0, none⟩) n rc).ownBlock = some g := by simp [Value.ownBlock]
theorem RowE.open3 (h : RowE eltB w B e (some ⟨g, 0, none⟩) rc n P) : ∃ (cur : Array Value) (ds : List BdV), Blk w g e cur ∧ ds.map (·.1) = P ∧ (∀ p ∈ ds, BdOk (fun b => B ≤ b ∧ b ≠ g) w p) ∧ cur.toList.take (n * 3) = ds.flatMap encB ∧ n ≤ rc ∧ rc ≤ maxLen ∧ cur.size = rc * 3 ∧ B ≤ g ∧ n = P.length := by
  obtain ⟨⟨xs, h1, h2⟩, hl⟩ := h
  rcases h1.2 with ⟨e1, h0⟩ | ⟨b, cap, cur, e1, hB, hb, hcap, hm, hs, hx⟩
  · cases e1
  · simp only [Value.slice.injEq, true_and, Option.some.injEq, Addr.mk.injEq, and_true] at e1
    obtain ⟨rfl, rfl⟩ := e1
    obtain ⟨ds, h3, rfl, h5⟩ := elts_bdv h2
    have hk3 : eltB.k = 3 := rfl
    rw [hk3] at hs hx
    refine ⟨cur, ds, hb, h3, fun p hp => ⟨(h5 p hp).1, InT.mono (fun b hb _ => ⟨hb.1, fun e => hb.2 (by rw [own_some, e])⟩) (h5 p hp).2⟩, hx, hcap, hm, hs, hB, hl⟩
theorem RowE.mk3 {cur : Array Value} {ds : List BdV} (hb : Blk w g e cur) (hds : ∀ p ∈ ds, BdOk (fun b => B ≤ b ∧ b ≠ g) w p) (hx : cur.toList.take (n * 3) = ds.flatMap encB) (h1 : n ≤ rc) (h2 : rc ≤ maxLen) (h3 : cur.size = rc * 3) (hB : B ≤ g) (hn : n = ds.length) : RowE eltB w B e (some ⟨g, 0, none⟩) rc n (ds.map (·.1)) := by
  have hk3 : eltB.k = 3 := rfl
  refine ⟨⟨ds.flatMap encB, ⟨by rw [len_encB, hn, hk3], .inr ⟨g, rc, cur, rfl, hB, hb, h1, h2, by rw [hk3]; exact h3, by rw [hk3]; exact hx⟩⟩, bdv_elts fun p hp => ⟨(hds p hp).1, InT.mono (fun b hb _ => ⟨hb.1, fun e => hb.2 (by rw [own_some] at e; exact (Option.some.inj e).symm)⟩) (hds p hp).2⟩⟩, by simpa using hn⟩
theorem InRow.opts {S : Nat → Prop} (hg : ∀ k, k < n → ∃ p : Option Addr × Nat, w.cell? ⟨g, 0 + k * 3, none⟩ = some (.int .i64 (dget P k).var) ∧ w.cell? ⟨g, 0 + k * 3 + 1, none⟩ = some (.int .i64 (dget P k).t.f) ∧ w.cell? ⟨g, 0 + k * 3 + 2, none⟩ = some (.slice p.1 (dget P k).t.args.length p.2) ∧
      InT S w (dget P k).t (.agg #[.int .i64 (dget P k).t.f, .slice p.1 (dget P k).t.args.length p.2]) ∧ I64 (dget P k).var) : ∃ (A : Nat → Option Addr) (C : Nat → Nat), ∀ k, k < n → w.cell? ⟨g, 0 + k * 3, none⟩ = some (.int .i64 (dget P k).var) ∧ w.cell? ⟨g, 0 + k * 3 + 1, none⟩ = some (.int .i64 (dget P k).t.f) ∧ w.cell? ⟨g, 0 + k * 3 + 2, none⟩ = some (.slice (A k) (dget P k).t.args.length (C k)) ∧
      InT S w (dget P k).t (.agg #[.int .i64 (dget P k).t.f, .slice (A k) (dget P k).t.args.length (C k)]) ∧ I64 (dget P k).var := by
  have : Inhabited (Option Addr × Nat) := ⟨(none, 0)⟩
  obtain ⟨F, hF⟩ := Go.Deep.choose_lt hg
  exact ⟨fun k => (F k).1, fun k => (F k).2, hF⟩
theorem flat_at : ∀ (ds : List BdV) (k : Nat) (hk : k < ds.length) (j : Nat), j < 3 → (ds.flatMap encB)[k * 3 + j]? = (encB ds[k])[j]?
  | [], k, hk, _, _ => by simp at hk
  | p :: r, 0, _, j, hj => by rw [List.flatMap_cons, List.getElem?_append_left (by show 0 * 3 + j < 3; omega), Nat.zero_mul, Nat.zero_add]; rfl
  | p :: r, k + 1, hk, j, hj => by
    rw [List.flatMap_cons, List.getElem?_append_right (by show 3 ≤ _; omega)]
    show (r.flatMap encB)[(k + 1) * 3 + j - 3]? = _
    rw [show (k + 1) * 3 + j - 3 = k * 3 + j by omega, flat_at r k (by simpa using hk) j hj]; rfl
theorem RowE.cells (h : RowE eltB w B e (some ⟨g, 0, none⟩) rc n P) : ∃ (A : Nat → Option Addr) (C : Nat → Nat), ∀ k, k < n → w.cell? ⟨g, 0 + k * 3, none⟩ = some (.int .i64 (dget P k).var) ∧ w.cell? ⟨g, 0 + k * 3 + 1, none⟩ = some (.int .i64 (dget P k).t.f) ∧ w.cell? ⟨g, 0 + k * 3 + 2, none⟩ = some (.slice (A k) (dget P k).t.args.length (C k)) ∧
      InT (fun b => B ≤ b ∧ b ≠ g) w (dget P k).t (.agg #[.int .i64 (dget P k).t.f, .slice (A k) (dget P k).t.args.length (C k)]) ∧ I64 (dget P k).var := by
  obtain ⟨cur, ds, h1, rfl, h3, h4, h5, h6, h7, h8, h9⟩ := h.open3
  refine InRow.opts fun k hk => ?_
  have hkd : k < ds.length := by simpa [h9] using hk
  have hp := h3 ds[k] (List.getElem_mem hkd)
  have hd : dget (ds.map (·.1)) k = ds[k].1 := by rw [dget_lt (by simpa using hkd)]; simp
  obtain ⟨_, p, c, e, _, _, _⟩ := hp.2.form
  simp only [Value.agg.injEq, Array.mk.injEq, List.cons.injEq, and_true] at e
  have hc : ∀ j, j < 3 → w.cell? ⟨g, 0 + k * 3 + j, none⟩ = (encB ds[k])[j]? := fun j hj => by
    rw [h1.cell, ← flat_at ds k hkd j hj, ← h4, List.getElem?_take_of_lt (by omega), Array.getElem?_toList, Nat.zero_add]
  have c0 := hc 0 (by decide)
  have c1 := hc 1 (by decide)
  have c2 := hc 2 (by decide)
  simp only [encB] at c0 c1 c2
  rw [hd]
  refine ⟨(p, c), c0, c1.trans (by rw [← e.1]; rfl), c2.trans (by rw [← e.2]; rfl), ?_, hp.1⟩
  rw [← e.1, ← e.2]; exact hp.2
theorem flat_set : ∀ (ds : List BdV) (i : Nat) (x : BdV), i < ds.length → (((ds.flatMap encB).set (i * 3) (.int .i64 x.1.var)).set (i * 3 + 1) x.2.1).set (i * 3 + 2) x.2.2 = (ds.set i x).flatMap encB
  | [], i, x, h => by simp at h
  | p :: r, 0, x, _ => by simp [List.flatMap_cons, encB]
  | p :: r, i + 1, x, h => by
    have ih := flat_set r i x (by simpa using h)
    rw [List.set_cons_succ, List.flatMap_cons, List.flatMap_cons, ← ih]
    have e3 : ∀ k v, 3 ≤ k → ∀ l : List Value, (encB p ++ l).set k v = encB p ++ l.set (k - 3) v := fun k v hk l => by rw [List.set_append_right _ _ (show (encB p).length ≤ k from hk)]; rfl
    rw [e3 _ _ (by omega), e3 _ _ (by omega), e3 _ _ (by omega), show (i + 1) * 3 - 3 = i * 3 by omega, show (i + 1) * 3 + 1 - 3 = i * 3 + 1 by omega, show (i + 1) * 3 + 2 - 3 = i * 3 + 2 by omega]
theorem RowE.store3 (h : RowE eltB w B e (some ⟨g, 0, none⟩) rc n P) {i : Nat} (hi : i < n) {x : Bd} {u v : Value} (hx : I64 x.var) (hin : InT (fun b => B ≤ b ∧ b ≠ g) w x.t (.agg #[u, v])) :
    RowE eltB (((w.setCell ⟨g, 0 + i * 3, none⟩ (.int .i64 x.var)).setCell ⟨g, 0 + i * 3 + 1, none⟩ u).setCell ⟨g, 0 + i * 3 + 2, none⟩ v) B e (some ⟨g, 0, none⟩) rc n (P.set i x) := by
  obtain ⟨cur, ds, h1, rfl, h3, h4, h5, h6, h7, h8, h9⟩ := h.open3
  have hu : Upd g w (((w.setCell ⟨g, 0 + i * 3, none⟩ (.int .i64 x.var)).setCell ⟨g, 0 + i * 3 + 1, none⟩ u).setCell ⟨g, 0 + i * 3 + 2, none⟩ v) := ((Upd.at_ _ _ _ _).trans (Upd.at_ _ _ _ _)).trans (Upd.at_ _ _ _ _)
  have hk : ∀ (p : Addr) (v' : Value), (B ≤ p.block ∧ p.block ≠ g) → w.cell? p = some v' → (((w.setCell ⟨g, 0 + i * 3, none⟩ (.int .i64 x.var)).setCell ⟨g, 0 + i * 3 + 1, none⟩ u).setCell ⟨g, 0 + i * 3 + 2, none⟩ v).cell? p = some v' := fun p v' hp hv => by
    have e := hu.block p.block hp.2
    unfold World.cell? at hv ⊢
    rw [e]; exact hv
  have hil : i < ds.length := by simpa [h9] using hi
  have e1 : (ds.map (·.1)).set i x = (ds.set i (x, u, v)).map (·.1) := by rw [List.map_set]
  rw [e1]
  have hB3 := ((h1.set_ (0 + i * 3) (.int .i64 x.var)).set_ (0 + i * 3 + 1) u).set_ (0 + i * 3 + 2) v
  refine RowE.mk3 hB3 (fun p hp => ?_) ?_ h5 h6 (by simpa using h7) h8 (by simpa using h9)
  · rcases List.mem_or_eq_of_mem_set hp with hp | rfl
    · exact ⟨(h3 p hp).1, InT.keep hk (h3 p hp).2⟩
    · exact ⟨hx, InT.keep hk hin⟩
  · rw [← flat_set ds i (x, u, v) hil, ← h4]
    simp only [Array.toList_setIfInBounds, List.take_set, Nat.zero_add]
theorem RowE.nilOr {ra : Option Addr} (h : RowE eltB w B e ra rc n P) : (ra = none ∧ n = 0 ∧ rc = 0 ∧ P = []) ∨ ∃ g, ra = some ⟨g, 0, none⟩ := by
  obtain ⟨⟨xs, h1, h2⟩, hl⟩ := h
  rcases h1.2 with ⟨e1, h0⟩ | ⟨b, cap, cur, e1, _⟩
  · simp only [Value.slice.injEq] at e1
    obtain ⟨rfl, rfl, rfl⟩ := e1
    exact .inl ⟨rfl, rfl, rfl, List.length_eq_zero_iff.1 hl.symm⟩
  · simp only [Value.slice.injEq] at e1
    exact .inr ⟨b, e1.1⟩
end
end Go.Proofs.Ytibncmnmjhimeaa

/- The document tells its bindings: the program. -/
namespace Go.Proofs.Ytibncmnmjhimeaa
open Go.RowKit Go
set_option linter.unusedVariables false
set_option linter.unusedSimpArgs false
set_option maxRecDepth 100000 in
theorem rsub_any {g : Nat} {st : List Bd} {D : Nat → Prop} (w : World) (h : RefAt w g st D) (hnd : (st.map (·.var)).Nodup) (hz : st.length ≤ 4294967296) : Calls Try.prog 34 #[.pointer (some ⟨g, 0, none⟩)] w (Ret fun v' w' => (∃ R p c, v' = .slice p R.length c ∧ SubOf st R ∧ NewBs w w' R p c) ∧ Below w.heap.size w w') := by
 obtain ⟨a, c, hR⟩ := h
 have hgl := hR.blk.lt
 have hrow := hR.rows
 have hcapR := hR.cap
 have hcap3 := hcapR.2
 unfold maxLen at hcap3
 refine Calls.walk (l := [.pointer (some ⟨g, 0, none⟩)]) Try.func34 rfl (by kernel_rfl) ?_
 refine WC.sub (K' := [(0, .pointer (some ⟨g, 0, none⟩))]) ⟨rfl, trivial⟩ ?_
 refine WC.seq (WC.region (WL.asg rfl rfl rfl rfl rfl (WL.nil (WE.next (WC.seq (WC.region (WL.asg rfl rfl rfl rfl rfl (WL.nil (WE.next (WC.seq (WC.seq (WC.region (WL.asg rfl rfl rfl rfl rfl (WL.nil (WE.next (WC.block ?_))))))))))))))))
 have hl1 : g < w.heap.size := by have z1 := hR.blk.lt; omega
 have hR2 : RowE eltB w w.heap.size 85 none 0 0 [] := RowE.nil
 refine WC.loop (X := RXs) (fun x => st.length - x.i) (fun x => [(0, .pointer (some ⟨g, 0, none⟩)), (2, .slice none 0 0), (3, .slice x.a x.n x.c), (4, .int .i64 (((x.i : Nat) : Int)))]) (fun x w3 => x.i ≤ st.length ∧ w.heap.size ≤ (w3).heap.size ∧ SubOf (st.take x.i) x.L ∧ Below w.heap.size w w3 ∧ Blk w3 g 66 #[.slice a st.length c] ∧ RowE eltB (w3) w.heap.size 85 x.a x.c x.n x.L) (⟨0, none, 0, 0, []⟩) ⟨rfl, rfl, rfl, rfl, trivial⟩ ?_ ?_
 ·exact ⟨Nat.zero_le _, Nat.le_refl _, subOf_nil, (Below.refl _ _), hR.blk, hR2⟩
 ·rintro x w3 ⟨hk, hBw, hso, hb4, hB5, ho6⟩
  have hLl := hso.length_le
  have hLl2 : x.L.length ≤ x.i := by have z := hso.length_le; simp at z; omega
  refine WC.seq (WC.seq (WC.region (WL.mv rfl rfl rfl rfl rfl (WL.mv rfl rfl rfl rfl rfl ?_))))
  refine WL.val _ rfl rfl rfl (fun za zC zh zk => nilCheck_ rfl (zh.ev rfl) zk) ?_
  refine WL.val _ rfl rfl rfl (fun za zC zh zk => fld_66_0 rfl (zh.ev rfl) zk) ?_
  refine WL.val _ rfl rfl rfl (fun za zC zh zk => ld_36 rfl (zh.ev rfl) ((hB5.cell 0).trans rfl) zk) ?_
  refine WL.val (.int .i64 (((st.length : Nat) : Int))) rfl rfl rfl (fun za zC zh zk => len_36 rfl (zh.ev rfl) zk) ?_
  refine WL.val (.bool ((decide ((((x.i : Nat) : Int) : Int) < (((st.length : Nat) : Int) : Int))))) rfl rfl rfl (fun za zC zh zk => lss_3 rfl (zh.ev rfl) (zh.ev rfl) zk) ?_
  refine WL.nil (WE.next ?_)
  refine WC.cond rfl (fun h7 => ?_) (fun h7 => ?_)
  ·have h7 : (((x.i : Nat) : Int) : Int) < (((st.length : Nat) : Int) : Int) := by simpa using h7
   refine WC.skip (WE.next (WC.seq (WC.block (WC.seq (WC.seq ?_)))))
   have hi64 := (hR.rows x.i (by omega))
   have hi64b : I64 (dget st x.i).var := by obtain ⟨_, _, _, _, _, ⟨_, _, _, q, _⟩, _⟩ := hi64; rw [dget_lt (by omega)]; exact q
   unfold I64 at hi64b
   have hszi := hR.sz _ (dget_mem (l := st) (k := x.i) (by omega))
   obtain ⟨b8, o9, A10, C11, ha12, hc13⟩ := InRow.openB hrow
   refine WC.opt [(true, .val (.pointer (some ⟨g, 0, none⟩))), (true, .val (.pointer (some ⟨g, 0, none⟩))), (true, .val (.pointer (some ⟨g, 0, none⟩))), (true, .val (.slice a st.length c)), (true, .val (.int .i64 (((x.i : Nat) : Int)))), (true, .val (.pointer (some ⟨b8, o9 + x.i * 3, none⟩))), (true, .val (.pointer (some ⟨b8, o9 + x.i * 3 + 1, none⟩))), (true, .val (.pointer (some ⟨b8, o9 + x.i * 3 + 1, none⟩))), (true, .val (.int .i64 ((dget st x.i).t.f))), (true, .val (.pointer (some ⟨g, 0, none⟩))), (true, .val (.pointer (some ⟨g, 0, none⟩))), (true, .val (.pointer (some ⟨g, 0, none⟩))), (true, .val (.slice a st.length c)), (true, .val (.int .i64 (((x.i : Nat) : Int)))), (true, .val (.pointer (some ⟨b8, o9 + x.i * 3, none⟩))), (true, .val (.pointer (some ⟨b8, o9 + x.i * 3, none⟩))), (true, .val (.int .i64 ((dget st x.i).var))), (true, .val (.int .i64 ((-1 - (dget st x.i).var)))), (true, .val (.bool ((((dget st x.i).t.f : Int) == ((-1 - (dget st x.i).var) : Int))))), (true, .val (.bool ((((dget st x.i).t.f : Int) == ((-1 - (dget st x.i).var) : Int))))), ((true && (((dget st x.i).t.f : Int) == ((-1 - (dget st x.i).var) : Int))), .val (.pointer (some ⟨g, 0, none⟩))), ((true && (((dget st x.i).t.f : Int) == ((-1 - (dget st x.i).var) : Int))), .val (.pointer (some ⟨g, 0, none⟩))), ((true && (((dget st x.i).t.f : Int) == ((-1 - (dget st x.i).var) : Int))), .val (.pointer (some ⟨g, 0, none⟩))), ((true && (((dget st x.i).t.f : Int) == ((-1 - (dget st x.i).var) : Int))), .val (.slice a st.length c)), ((true && (((dget st x.i).t.f : Int) == ((-1 - (dget st x.i).var) : Int))), .val (.int .i64 (((x.i : Nat) : Int)))), ((true && (((dget st x.i).t.f : Int) == ((-1 - (dget st x.i).var) : Int))), .val (.pointer (some ⟨b8, o9 + x.i * 3, none⟩))), ((true && (((dget st x.i).t.f : Int) == ((-1 - (dget st x.i).var) : Int))), .val (.pointer (some ⟨b8, o9 + x.i * 3 + 1, none⟩))), ((true && (((dget st x.i).t.f : Int) == ((-1 - (dget st x.i).var) : Int))), .val (.pointer (some ⟨b8, o9 + x.i * 3 + 2, none⟩))), ((true && (((dget st x.i).t.f : Int) == ((-1 - (dget st x.i).var) : Int))), .val (.slice ((A10 x.i)) ((dget st x.i).t.args.length) ((C11 x.i)))), ((true && (((dget st x.i).t.f : Int) == ((-1 - (dget st x.i).var) : Int))), .val (.int .i64 ((((dget st x.i).t.args.length : Nat) : Int)))), ((true && (((dget st x.i).t.f : Int) == ((-1 - (dget st x.i).var) : Int))), .val (.bool ((((((dget st x.i).t.args.length : Nat) : Int) : Int) == (0 : Int))))), (true, .val (.bool (((((dget st x.i).t.f : Int) == ((-1 - (dget st x.i).var) : Int)) && (((((dget st x.i).t.args.length : Nat) : Int) : Int) == (0 : Int))))))] [(0, .pointer (some ⟨g, 0, none⟩)), (2, .slice none 0 0), (3, .slice x.a x.n x.c), (4, .int .i64 (((x.i : Nat) : Int))), (13, .bool ((decide ((((x.i : Nat) : Int) : Int) < (((st.length : Nat) : Int) : Int)))))] ⟨rfl, rfl, rfl, rfl, rfl, trivial⟩ (by kernel_rfl) (by kernel_rfl) (by kernel_rfl) ?_ ?_
   ·refine ⟨⟨true, .none rfl, fun h w => optUndef h, fun zβ za zw zc => ?_⟩, ?_⟩
    ·exact wp_move rfl (zc.kn.ev rfl) ⟨_, rfl, Below.refl _ _, optDef zβ rfl⟩
    refine ⟨⟨true, .none rfl, fun h w => optUndef h, fun zβ za zw zc => ?_⟩, ?_⟩
    ·exact nilCheck_ rfl ((evt za 16).trans (optVal (zc.dep 0 16 (by kernel_rfl)) rfl rfl)) ⟨_, rfl, Below.refl _ _, optDef zβ rfl⟩
    refine ⟨⟨true, .none rfl, fun h w => optUndef h, fun zβ za zw zc => ?_⟩, ?_⟩
    ·exact fld_66_0 rfl ((evt za 17).trans (optVal (zc.dep 1 17 (by kernel_rfl)) rfl rfl)) ⟨_, rfl, Below.refl _ _, optDef zβ rfl⟩
    refine ⟨⟨true, .none rfl, fun h w => optUndef h, fun zβ za zw zc => ?_⟩, ?_⟩
    ·exact ld_36 rfl ((evt za 18).trans (optVal (zc.dep 2 18 (by kernel_rfl)) rfl rfl)) (bkeeps zc.below _ _ ((hB5.cell 0).trans rfl)) ⟨_, rfl, Below.refl _ _, optDef zβ rfl⟩
    refine ⟨⟨true, .none rfl, fun h w => optUndef h, fun zβ za zw zc => ?_⟩, ?_⟩
    ·exact wp_move rfl (zc.kn.ev rfl) ⟨_, rfl, Below.refl _ _, optDef zβ rfl⟩
    refine ⟨⟨true, .none rfl, fun h w => optUndef h, fun zβ za zw zc => ?_⟩, ?_⟩
    ·exact ix_36 (k := x.i) rfl ((evt za 19).trans (optVal (zc.dep 3 19 (by kernel_rfl)) rfl rfl)) (ha12 x.i (by first | omega | (simp; omega))) ((evt za 20).trans (optVal (zc.dep 4 20 (by kernel_rfl)) rfl rfl)) (by first | omega | (simp; omega)) ⟨_, rfl, Below.refl _ _, optDef zβ rfl⟩
    refine ⟨⟨true, .none rfl, fun h w => optUndef h, fun zβ za zw zc => ?_⟩, ?_⟩
    ·exact fld_85_1 rfl ((evt za 21).trans (optVal (zc.dep 5 21 (by kernel_rfl)) rfl rfl)) ⟨_, rfl, Below.refl _ _, optDef zβ rfl⟩
    refine ⟨⟨true, .none rfl, fun h w => optUndef h, fun zβ za zw zc => ?_⟩, ?_⟩
    ·exact fld_24_0 rfl ((evt za 22).trans (optVal (zc.dep 6 22 (by kernel_rfl)) rfl rfl)) ⟨_, rfl, Below.refl _ _, optDef zβ rfl⟩
    refine ⟨⟨true, .none rfl, fun h w => optUndef h, fun zβ za zw zc => ?_⟩, ?_⟩
    ·exact ld_3 rfl ((evt za 23).trans (optVal (zc.dep 7 23 (by kernel_rfl)) rfl rfl)) (bkeeps (bstep hb4 zc.below) _ _ (hc13 x.i (by first | omega | (simp; omega))).2.1) ⟨_, rfl, Below.refl _ _, optDef zβ rfl⟩
    refine ⟨⟨true, .none rfl, fun h w => optUndef h, fun zβ za zw zc => ?_⟩, ?_⟩
    ·exact wp_move rfl (zc.kn.ev rfl) ⟨_, rfl, Below.refl _ _, optDef zβ rfl⟩
    refine ⟨⟨true, .none rfl, fun h w => optUndef h, fun zβ za zw zc => ?_⟩, ?_⟩
    ·exact nilCheck_ rfl ((evt za 25).trans (optVal (zc.dep 9 25 (by kernel_rfl)) rfl rfl)) ⟨_, rfl, Below.refl _ _, optDef zβ rfl⟩
    refine ⟨⟨true, .none rfl, fun h w => optUndef h, fun zβ za zw zc => ?_⟩, ?_⟩
    ·exact fld_66_0 rfl ((evt za 26).trans (optVal (zc.dep 10 26 (by kernel_rfl)) rfl rfl)) ⟨_, rfl, Below.refl _ _, optDef zβ rfl⟩
    refine ⟨⟨true, .none rfl, fun h w => optUndef h, fun zβ za zw zc => ?_⟩, ?_⟩
    ·exact ld_36 rfl ((evt za 27).trans (optVal (zc.dep 11 27 (by kernel_rfl)) rfl rfl)) (bkeeps zc.below _ _ ((hB5.cell 0).trans rfl)) ⟨_, rfl, Below.refl _ _, optDef zβ rfl⟩
    refine ⟨⟨true, .none rfl, fun h w => optUndef h, fun zβ za zw zc => ?_⟩, ?_⟩
    ·exact wp_move rfl (zc.kn.ev rfl) ⟨_, rfl, Below.refl _ _, optDef zβ rfl⟩
    refine ⟨⟨true, .none rfl, fun h w => optUndef h, fun zβ za zw zc => ?_⟩, ?_⟩
    ·exact ix_36 (k := x.i) rfl ((evt za 28).trans (optVal (zc.dep 12 28 (by kernel_rfl)) rfl rfl)) (ha12 x.i (by first | omega | (simp; omega))) ((evt za 29).trans (optVal (zc.dep 13 29 (by kernel_rfl)) rfl rfl)) (by first | omega | (simp; omega)) ⟨_, rfl, Below.refl _ _, optDef zβ rfl⟩
    refine ⟨⟨true, .none rfl, fun h w => optUndef h, fun zβ za zw zc => ?_⟩, ?_⟩
    ·exact fld_85_0 rfl ((evt za 30).trans (optVal (zc.dep 14 30 (by kernel_rfl)) rfl rfl)) ⟨_, rfl, Below.refl _ _, optDef zβ rfl⟩
    refine ⟨⟨true, .none rfl, fun h w => optUndef h, fun zβ za zw zc => ?_⟩, ?_⟩
    ·exact ld_3 rfl ((evt za 31).trans (optVal (zc.dep 15 31 (by kernel_rfl)) rfl rfl)) (bkeeps (bstep hb4 zc.below) _ _ (hc13 x.i (by first | omega | (simp; omega))).1) ⟨_, rfl, Below.refl _ _, optDef zβ rfl⟩
    refine ⟨⟨true, .none rfl, fun h w => optUndef h, fun zβ za zw zc => ?_⟩, ?_⟩
    ·exact subb_3 rfl (zc.kn.ev rfl) ((evt za 32).trans (optVal (zc.dep 16 32 (by kernel_rfl)) rfl rfl)) (wrap_eq rfl (by omega) (by omega)) ⟨_, rfl, Below.refl _ _, optDef zβ rfl⟩
    refine ⟨⟨true, .none rfl, fun h w => optUndef h, fun zβ za zw zc => ?_⟩, ?_⟩
    ·exact eql_3 rfl ((evt za 24).trans (optVal (zc.dep 8 24 (by kernel_rfl)) rfl rfl)) ((evt za 33).trans (optVal (zc.dep 17 33 (by kernel_rfl)) rfl rfl)) ⟨_, rfl, Below.refl _ _, optDef zβ rfl⟩
    refine ⟨⟨true, .none rfl, fun h w => optUndef h, fun zβ za zw zc => ?_⟩, ?_⟩
    ·exact wp_move rfl ((evt za 34).trans (optVal (zc.dep 18 34 (by kernel_rfl)) rfl rfl)) ⟨_, rfl, Below.refl _ _, optDef zβ rfl⟩
    refine ⟨⟨_, .yes (d := true) rfl (fun v w h => h), fun h w => optUndef h, fun zβ za zw zc => ?_⟩, ?_⟩
    ·exact wp_move rfl (zc.kn.ev rfl) ⟨_, rfl, Below.refl _ _, optDef zβ rfl⟩
    refine ⟨⟨_, .yes (d := true) rfl (fun v w h => h), fun h w => optUndef h, fun zβ za zw zc => ?_⟩, ?_⟩
    ·exact nilCheck_ rfl ((evt za 36).trans (optVal (zc.dep 20 36 (by kernel_rfl)) rfl zβ)) ⟨_, rfl, Below.refl _ _, optDef zβ rfl⟩
    refine ⟨⟨_, .yes (d := true) rfl (fun v w h => h), fun h w => optUndef h, fun zβ za zw zc => ?_⟩, ?_⟩
    ·exact fld_66_0 rfl ((evt za 37).trans (optVal (zc.dep 21 37 (by kernel_rfl)) rfl zβ)) ⟨_, rfl, Below.refl _ _, optDef zβ rfl⟩
    refine ⟨⟨_, .yes (d := true) rfl (fun v w h => h), fun h w => optUndef h, fun zβ za zw zc => ?_⟩, ?_⟩
    ·exact ld_36 rfl ((evt za 38).trans (optVal (zc.dep 22 38 (by kernel_rfl)) rfl zβ)) (bkeeps zc.below _ _ ((hB5.cell 0).trans rfl)) ⟨_, rfl, Below.refl _ _, optDef zβ rfl⟩
    refine ⟨⟨_, .yes (d := true) rfl (fun v w h => h), fun h w => optUndef h, fun zβ za zw zc => ?_⟩, ?_⟩
    ·exact wp_move rfl (zc.kn.ev rfl) ⟨_, rfl, Below.refl _ _, optDef zβ rfl⟩
    refine ⟨⟨_, .yes (d := true) rfl (fun v w h => h), fun h w => optUndef h, fun zβ za zw zc => ?_⟩, ?_⟩
    ·exact ix_36 (k := x.i) rfl ((evt za 39).trans (optVal (zc.dep 23 39 (by kernel_rfl)) rfl zβ)) (ha12 x.i (by first | omega | (have zz := zβ; simp only [Bool.and_eq_true, Bool.or_eq_true, Bool.true_and, Bool.not_eq_true', Bool.or_eq_false_iff, Bool.and_eq_false_iff, beq_eq_false_iff_ne, ne_eq, beq_iff_eq, decide_eq_true_eq, decide_eq_false_iff_not, bne_iff_ne, bne_eq_false_iff_eq] at zz; omega))) ((evt za 40).trans (optVal (zc.dep 24 40 (by kernel_rfl)) rfl zβ)) (by first | omega | (have zz := zβ; simp only [Bool.and_eq_true, Bool.or_eq_true, Bool.true_and, Bool.not_eq_true', Bool.or_eq_false_iff, Bool.and_eq_false_iff, beq_eq_false_iff_ne, ne_eq, beq_iff_eq, decide_eq_true_eq, decide_eq_false_iff_not, bne_iff_ne, bne_eq_false_iff_eq] at zz; omega)) ⟨_, rfl, Below.refl _ _, optDef zβ rfl⟩
    refine ⟨⟨_, .yes (d := true) rfl (fun v w h => h), fun h w => optUndef h, fun zβ za zw zc => ?_⟩, ?_⟩
    ·exact fld_85_1 rfl ((evt za 41).trans (optVal (zc.dep 25 41 (by kernel_rfl)) rfl zβ)) ⟨_, rfl, Below.refl _ _, optDef zβ rfl⟩
    refine ⟨⟨_, .yes (d := true) rfl (fun v w h => h), fun h w => optUndef h, fun zβ za zw zc => ?_⟩, ?_⟩
    ·exact fld_24_1 rfl ((evt za 42).trans (optVal (zc.dep 26 42 (by kernel_rfl)) rfl zβ)) ⟨_, rfl, Below.refl _ _, optDef zβ rfl⟩
    refine ⟨⟨_, .yes (d := true) rfl (fun v w h => h), fun h w => optUndef h, fun zβ za zw zc => ?_⟩, ?_⟩
    ·exact ld_22 rfl ((evt za 43).trans (optVal (zc.dep 27 43 (by kernel_rfl)) rfl zβ)) (bkeeps (bstep hb4 zc.below) _ _ (hc13 x.i (by first | omega | (have zz := zβ; simp only [Bool.and_eq_true, Bool.or_eq_true, Bool.true_and, Bool.not_eq_true', Bool.or_eq_false_iff, Bool.and_eq_false_iff, beq_eq_false_iff_ne, ne_eq, beq_iff_eq, decide_eq_true_eq, decide_eq_false_iff_not, bne_iff_ne, bne_eq_false_iff_eq] at zz; omega))).2.2.1) ⟨_, rfl, Below.refl _ _, optDef zβ rfl⟩
    refine ⟨⟨_, .yes (d := true) rfl (fun v w h => h), fun h w => optUndef h, fun zβ za zw zc => ?_⟩, ?_⟩
    ·exact len_22 rfl ((evt za 44).trans (optVal (zc.dep 28 44 (by kernel_rfl)) rfl zβ)) ⟨_, rfl, Below.refl _ _, optDef zβ rfl⟩
    refine ⟨⟨_, .yes (d := true) rfl (fun v w h => h), fun h w => optUndef h, fun zβ za zw zc => ?_⟩, ?_⟩
    ·exact eql_3 rfl ((evt za 45).trans (optVal (zc.dep 29 45 (by kernel_rfl)) rfl zβ)) (zc.kn.ev rfl) ⟨_, rfl, Below.refl _ _, optDef zβ rfl⟩
    refine ⟨⟨true, .none rfl, fun h w => optUndef h, fun zβ za zw zc => ?_⟩, ?_⟩
    ·exact wp_and rfl ((evt za 35).trans (optVal (zc.dep 19 35 (by kernel_rfl)) rfl rfl)) (fun hp => ((evt za 46).trans (optVal (zc.dep 30 46 (by kernel_rfl)) rfl (bMk zβ hp)))) ⟨_, rfl, Below.refl _ _, optDef zβ rfl⟩
    exact trivial
   ·intro za w14 zh hb15 zu
    have zh := zh.cons (d := 47) (v := .bool (((((dget st x.i).t.f : Int) == ((-1 - (dget st x.i).var) : Int)) && (((((dget st x.i).t.args.length : Nat) : Int) : Int) == (0 : Int))))) (optVal (zu 31 47 (by kernel_rfl)) rfl rfl)
    clear zu
    refine WE.go zh ?_
    refine WE.next ?_
    refine WC.cond rfl (fun h16 => ?_) (fun h16 => ?_)
    ·have h16 : (((dget st x.i).t.f : Int) = ((-1 - (dget st x.i).var) : Int)) ∧ (((((dget st x.i).t.args.length : Nat) : Int) : Int) = (0 : Int)) := by simpa using h16
     refine WC.exit (WE.thenExit (WE.blockIs rfl (WE.next (WC.region (WL.mv rfl rfl rfl rfl rfl ?_)))))
     refine WL.val (.int .i64 ((((x.i + 1) : Nat) : Int))) rfl rfl rfl (fun za zC zh zk => addb_3 rfl (zh.ev rfl) (zh.ev rfl) (wrap_eq (by omega) (by omega) (by omega)) zk) ?_
     refine WL.asg rfl rfl rfl rfl rfl (WL.nil ?_)
     refine WE.round (⟨x.i + 1, x.a, x.c, x.n, x.L⟩) ⟨rfl, rfl, rfl, rfl, trivial⟩ ?_ ?_
     ·have hb17 : Below w.heap.size w w14 := (bstep hb4 hb15)
      have hB18 := hB5.below hb15
      have ho19 := ho6.below hb15
      exact ⟨by (try dsimp only); omega, (Nat.le_trans hBw hb15.size), subOf_skip hso (by omega) (itself_iff.2 (by omega)), hb17, hB18, ho19⟩
     ·(try dsimp only); omega
    ·have h16 : ¬ ((((dget st x.i).t.f : Int) = ((-1 - (dget st x.i).var) : Int)) ∧ (((((dget st x.i).t.args.length : Nat) : Int) : Int) = (0 : Int))) := by simpa using h16
     have hns : ¬ (dget st x.i).itself = true := fun q => by have z := itself_iff.1 q; omega
     refine WC.skip (WE.next (WC.seq ?_))
     have ho20 := ho6.below hb15
     have hB21 := hB5.below hb15
     have hb22 : Below w.heap.size w w14 := (bstep hb4 hb15)
     have hSlt : ∀ b, (fun b => (Value.slice x.a x.n x.c).ownBlock = some b) b → b < w14.heap.size := fun b h => (ho20.lt b h).2
     have hSlo : ∀ b, (fun b => (Value.slice x.a x.n x.c).ownBlock = some b) b → w.heap.size ≤ b ∧ b < w3.heap.size := fun b h => ho6.lt b h
     have hBW : w.heap.size ≤ w14.heap.size := by have z1 := hb22.size; omega
     have hlL : x.n = (x.L).length := ho20.len
     refine WC.tail3 (S := ((fun b => (Value.slice x.a x.n x.c).ownBlock = some b))) [(true, .val (.slice x.a x.n x.c)), (true, .val (.pointer (some ⟨g, 0, none⟩))), (true, .val (.pointer (some ⟨g, 0, none⟩))), (true, .val (.pointer (some ⟨g, 0, none⟩))), (true, .val (.slice a st.length c)), (true, .val (.int .i64 (((x.i : Nat) : Int)))), (true, .val (.pointer (some ⟨b8, o9 + x.i * 3, none⟩))), (true, .val (.pointer (some ⟨b8, o9 + x.i * 3, none⟩))), (true, .val (.int .i64 ((dget st x.i).var))), (true, .val (.pointer (some ⟨g, 0, none⟩))), (true, .val (.pointer (some ⟨g, 0, none⟩))), (true, .val (.pointer (some ⟨g, 0, none⟩))), (true, .val (.slice a st.length c)), (true, .val (.int .i64 (((x.i : Nat) : Int)))), (true, .val (.pointer (some ⟨b8, o9 + x.i * 3, none⟩))), (true, .val (.pointer (some ⟨b8, o9 + x.i * 3 + 1, none⟩))), (true, .val (.agg #[.int .i64 ((dget st x.i).t.f), .slice ((A10 x.i)) ((dget st x.i).t.args.length) ((C11 x.i))])), (true, .mem (fun v w' => NewT w14 w' ((dget st x.i).t) v) (fun v w w' hc h => InT.chg h hc (fun b hb hs => by have z := hSlt b hs; omega))), (true, .mem (fun v w' => BdNew w14 w' ((dget st x.i)) v) (fun v w w' hc h => h.chg hc hSlt)), (true, .mem (fun v w' => OneRow eltB w14 85 ((dget st x.i)) v w') (fun v w w' hc h => h.chg hc hSlt)), (true, .val undef), (true, .val undef)] [(0, .pointer (some ⟨g, 0, none⟩)), (2, .slice none 0 0), (4, .int .i64 (((x.i : Nat) : Int))), (13, .bool ((decide ((((x.i : Nat) : Int) : Int) < (((st.length : Nat) : Int) : Int))))), (47, .bool (((((dget st x.i).t.f : Int) == ((-1 - (dget st x.i).var) : Int)) && (((((dget st x.i).t.args.length : Nat) : Int) : Int) == (0 : Int)))))] 20 21 ((x.n + 1)) 68 3 (fun ra rc wz => RowE eltB wz w.heap.size 85 ra rc (x.n + 1) ((x.L ++ [(dget st x.i)]))) (by decide) (fun ra rc w w' hb h => h.below hb) ⟨rfl, rfl, rfl, rfl, rfl, trivial⟩ (by kernel_rfl) (by kernel_rfl) (by kernel_rfl) (by kernel_rfl) (by kernel_rfl) (by kernel_rfl) ?_ ?_
     ·refine ⟨.inl ⟨rfl, true, .none rfl, (fun gg b h => by cases h), fun h w => optUndef h, fun zβ za zw zc => ?_⟩, ?_⟩
      ·exact wp_move rfl ((evt za 3).trans (zc.old 3 _ rfl (by kernel_rfl))) ⟨_, rfl, Below.refl _ _, optDef zβ rfl⟩
      refine ⟨.inl ⟨rfl, true, .none rfl, (fun gg b h => by cases h), fun h w => optUndef h, fun zβ za zw zc => ?_⟩, ?_⟩
      ·exact wp_move rfl (zc.kn.ev rfl) ⟨_, rfl, Below.refl _ _, optDef zβ rfl⟩
      refine ⟨.inl ⟨rfl, true, .none rfl, (fun gg b h => by cases h), fun h w => optUndef h, fun zβ za zw zc => ?_⟩, ?_⟩
      ·exact nilCheck_ rfl ((evt za 49).trans (optSVal (zc.dep 1 49 (by kernel_rfl) (by decide)) rfl rfl)) ⟨_, rfl, Below.refl _ _, optDef zβ rfl⟩
      refine ⟨.inl ⟨rfl, true, .none rfl, (fun gg b h => by cases h), fun h w => optUndef h, fun zβ za zw zc => ?_⟩, ?_⟩
      ·exact fld_66_0 rfl ((evt za 50).trans (optSVal (zc.dep 2 50 (by kernel_rfl) (by decide)) rfl rfl)) ⟨_, rfl, Below.refl _ _, optDef zβ rfl⟩
      refine ⟨.inl ⟨rfl, true, .none rfl, (fun gg b h => by cases h), fun h w => optUndef h, fun zβ za zw zc => ?_⟩, ?_⟩
      ·exact ld_36 rfl ((evt za 51).trans (optSVal (zc.dep 3 51 (by kernel_rfl) (by decide)) rfl rfl)) (bkeeps (zc.early (by kernel_rfl)) _ _ ((hB21.cell 0).trans rfl)) ⟨_, rfl, Below.refl _ _, optDef zβ rfl⟩
      refine ⟨.inl ⟨rfl, true, .none rfl, (fun gg b h => by cases h), fun h w => optUndef h, fun zβ za zw zc => ?_⟩, ?_⟩
      ·exact wp_move rfl (zc.kn.ev rfl) ⟨_, rfl, Below.refl _ _, optDef zβ rfl⟩
      refine ⟨.inl ⟨rfl, true, .none rfl, (fun gg b h => by cases h), fun h w => optUndef h, fun zβ za zw zc => ?_⟩, ?_⟩
      ·exact ix_36 (k := x.i) rfl ((evt za 52).trans (optSVal (zc.dep 4 52 (by kernel_rfl) (by decide)) rfl rfl)) (ha12 x.i (by first | omega | (simp; omega))) ((evt za 53).trans (optSVal (zc.dep 5 53 (by kernel_rfl) (by decide)) rfl rfl)) (by first | omega | (simp; omega)) ⟨_, rfl, Below.refl _ _, optDef zβ rfl⟩
      refine ⟨.inl ⟨rfl, true, .none rfl, (fun gg b h => by cases h), fun h w => optUndef h, fun zβ za zw zc => ?_⟩, ?_⟩
      ·exact fld_85_0 rfl ((evt za 54).trans (optSVal (zc.dep 6 54 (by kernel_rfl) (by decide)) rfl rfl)) ⟨_, rfl, Below.refl _ _, optDef zβ rfl⟩
      refine ⟨.inl ⟨rfl, true, .none rfl, (fun gg b h => by cases h), fun h w => optUndef h, fun zβ za zw zc => ?_⟩, ?_⟩
      ·exact ld_3 rfl ((evt za 55).trans (optSVal (zc.dep 7 55 (by kernel_rfl) (by decide)) rfl rfl)) (bkeeps (bstep hb22 (zc.early (by kernel_rfl))) _ _ (hc13 x.i (by first | omega | (simp; omega))).1) ⟨_, rfl, Below.refl _ _, optDef zβ rfl⟩
      refine ⟨.inl ⟨rfl, true, .none rfl, (fun gg b h => by cases h), fun h w => optUndef h, fun zβ za zw zc => ?_⟩, ?_⟩
      ·exact wp_move rfl (zc.kn.ev rfl) ⟨_, rfl, Below.refl _ _, optDef zβ rfl⟩
      refine ⟨.inl ⟨rfl, true, .none rfl, (fun gg b h => by cases h), fun h w => optUndef h, fun zβ za zw zc => ?_⟩, ?_⟩
      ·exact nilCheck_ rfl ((evt za 57).trans (optSVal (zc.dep 9 57 (by kernel_rfl) (by decide)) rfl rfl)) ⟨_, rfl, Below.refl _ _, optDef zβ rfl⟩
      refine ⟨.inl ⟨rfl, true, .none rfl, (fun gg b h => by cases h), fun h w => optUndef h, fun zβ za zw zc => ?_⟩, ?_⟩
      ·exact fld_66_0 rfl ((evt za 58).trans (optSVal (zc.dep 10 58 (by kernel_rfl) (by decide)) rfl rfl)) ⟨_, rfl, Below.refl _ _, optDef zβ rfl⟩
      refine ⟨.inl ⟨rfl, true, .none rfl, (fun gg b h => by cases h), fun h w => optUndef h, fun zβ za zw zc => ?_⟩, ?_⟩
      ·exact ld_36 rfl ((evt za 59).trans (optSVal (zc.dep 11 59 (by kernel_rfl) (by decide)) rfl rfl)) (bkeeps (zc.early (by kernel_rfl)) _ _ ((hB21.cell 0).trans rfl)) ⟨_, rfl, Below.refl _ _, optDef zβ rfl⟩
      refine ⟨.inl ⟨rfl, true, .none rfl, (fun gg b h => by cases h), fun h w => optUndef h, fun zβ za zw zc => ?_⟩, ?_⟩
      ·exact wp_move rfl (zc.kn.ev rfl) ⟨_, rfl, Below.refl _ _, optDef zβ rfl⟩
      refine ⟨.inl ⟨rfl, true, .none rfl, (fun gg b h => by cases h), fun h w => optUndef h, fun zβ za zw zc => ?_⟩, ?_⟩
      ·exact ix_36 (k := x.i) rfl ((evt za 60).trans (optSVal (zc.dep 12 60 (by kernel_rfl) (by decide)) rfl rfl)) (ha12 x.i (by first | omega | (simp; omega))) ((evt za 61).trans (optSVal (zc.dep 13 61 (by kernel_rfl) (by decide)) rfl rfl)) (by first | omega | (simp; omega)) ⟨_, rfl, Below.refl _ _, optDef zβ rfl⟩
      refine ⟨.inl ⟨rfl, true, .none rfl, (fun gg b h => by cases h), fun h w => optUndef h, fun zβ za zw zc => ?_⟩, ?_⟩
      ·exact fld_85_1 rfl ((evt za 62).trans (optSVal (zc.dep 14 62 (by kernel_rfl) (by decide)) rfl rfl)) ⟨_, rfl, Below.refl _ _, optDef zβ rfl⟩
      refine ⟨.inl ⟨rfl, true, .none rfl, (fun gg b h => by cases h), fun h w => optUndef h, fun zβ za zw zc => ?_⟩, ?_⟩
      ·exact ld_24 rfl ((evt za 63).trans (optSVal (zc.dep 15 63 (by kernel_rfl) (by decide)) rfl rfl)) (bkeeps (bstep hb22 (zc.early (by kernel_rfl))) _ _ (hc13 x.i (by first | omega | (simp; omega))).2.1) (bkeeps (bstep hb22 (zc.early (by kernel_rfl))) _ _ (hc13 x.i (by first | omega | (simp; omega))).2.2.1) ⟨_, rfl, Below.refl _ _, optDef zβ rfl⟩
      refine ⟨.inl ⟨rfl, true, .none rfl, (fun gg b h => by cases h), fun h w => optUndef h, fun zβ za zw zc => ?_⟩, ?_⟩
      ·exact wp_call (by kernel_rfl) rfl (hv1 ((evt za 64).trans (optSVal (zc.dep 16 64 (by kernel_rfl) (by decide)) rfl rfl))) (rcopy_any (dget st x.i).t _ _ hszi (IsT.below (bstep hb22 (zc.early (by kernel_rfl))) (InT.isT (hc13 x.i (by first | omega | (simp; omega))).2.2.2.1))) (fun v w' h => ⟨v, rfl, h.2, optDef zβ (InT.mono (fun b hb _ => Nat.le_trans (zc.early (by kernel_rfl)).size hb) h.1)⟩)
      refine ⟨.inl ⟨rfl, true, .none rfl, (fun gg b h => by cases h), fun h w => optUndef h, fun zβ za zw zc => ?_⟩, ?_⟩
      ·have zv := (optSMem (zc.dep 17 65 (by kernel_rfl) (by decide)) rfl rfl)
       obtain ⟨_, a1, c1, e1, _⟩ := zv.form
       rw [e1] at zv
       exact build_85_0_1 rfl ((evt za 56).trans (optSVal (zc.dep 8 56 (by kernel_rfl) (by decide)) rfl rfl)) ((evt za 65).trans e1) ⟨_, rfl, Below.refl _ _, optDef zβ ⟨_, _, rfl, (show I64 (dget st x.i).var by unfold I64; omega), zv⟩⟩
      refine ⟨.inl ⟨rfl, true, .none rfl, (fun gg b h => by cases h), fun h w => optUndef h, fun zβ za zw zc => ?_⟩, ?_⟩
      ·have zv := (optSMem (zc.dep 18 66 (by kernel_rfl) (by decide)) rfl rfl)
       obtain ⟨u1, u2, e1, h0, zv⟩ := zv
       exact row_37_1 rfl ((evt za 66).trans e1) ⟨_, rfl, balloc _ _, optDef zβ ⟨_, _, rfl, zc.chg.size, Blk.new' rfl, ⟨_, _, rfl, h0, zv.below (balloc _ _)⟩⟩⟩
      refine ⟨.inr (.inl ⟨rfl, rfl, fun za zw zc => ?_⟩), ?_⟩
      ·obtain ⟨g1, cs, e1, hg1, hB1, hin⟩ := (optSMem (zc.dep 19 67 (by kernel_rfl) (by decide)) rfl rfl)
       exact wp_appE (E := eltB) (size := 3) (bytes := 40) (z := .agg #[.int .i64 0, .int .i64 0, .slice none 0 0]) rfl Try.underlying37 (by kernel_rfl) rfl (by decide) rfl ((evt za 48).trans (optSVal (zc.dep 0 48 (by kernel_rfl) (by decide)) rfl rfl)) ((evt za 67).trans e1) (ho20.below zc.below) hB1 (eltB.mono (fun b hb _ => ⟨by omega, fun e => by have z := (ho20.lt b e).2; omega⟩) hin) (by omega) (by omega) (by have z := zc.below.size; omega) (fun ra rc w' h1 h2 _ => ⟨ra, rc, rfl, h1, h2⟩)
      refine ⟨.inr (.inr ⟨rfl, rfl, 68, by kernel_rfl, rfl⟩), ?_⟩
      exact trivial
     ·intro za w23 ra26 rc27 zh zv zv2 hG24 hc25 zu
      have zh := zh.cons (d := 3) zv2
      have hb28 := chg_below hb22 hc25 (fun b hb => (fun h => by have h := hSlo _ h; (try dsimp only at *); omega))
      have hB29 := chg_blk hB21 hc25 (fun h => by have h := hSlo _ h; (try dsimp only at *); omega)
      clear zu
      refine WE.go zh ?_
      refine WE.next (WC.seq ?_)
      have hnl := hG24.len
      have hxn : x.n = x.L.length := by simp at hnl; omega
      obtain ⟨gr, hgr⟩ : ∃ gr, ra26 = some ⟨gr, 0, none⟩ := by
       rcases hG24.nilOr with ⟨_, e, _⟩ | q
       ·omega
       ·exact q
      subst hgr
      have hgr := hG24.lt gr own_some
      have hgB : w.heap.size ≤ w.heap.size := (Nat.le_refl _)
      refine WC.region (WL.mv rfl rfl rfl rfl rfl ?_)
      refine WL.val (.int .i64 ((((x.n + 1) : Nat) : Int))) rfl rfl rfl (fun za zC zh zk => len_37 rfl (zh.ev rfl) zk) ?_
      refine WL.val (.int .i64 (((x.L.length : Nat) : Int))) rfl rfl rfl (fun za zC zh zk => subb_3 rfl (zh.ev rfl) (zh.ev rfl) (wrap_eq (by omega) (by omega) (by omega)) zk) ?_
      refine WL.asg rfl rfl rfl rfl rfl (WL.nil (WE.next (WC.block ?_)))
      have hst9 : RowE eltB w23 w.heap.size 85 (some ⟨gr, 0, none⟩) rc27 (x.n + 1) (insAt x.L x.L.length (dget st x.i)) := by rw [insAt_end]; exact hG24
      refine WC.loop (X := Nat) (fun j => j) (fun j => [(0, .pointer (some ⟨g, 0, none⟩)), (2, .slice none 0 0), (3, .slice ((some ⟨gr, 0, none⟩)) ((x.n + 1)) rc27), (4, .int .i64 (((x.i : Nat) : Int))), (5, .int .i64 (((j : Nat) : Int))), (13, .bool ((decide ((((x.i : Nat) : Int) : Int) < (((st.length : Nat) : Int) : Int))))), (47, .bool (((((dget st x.i).t.f : Int) == ((-1 - (dget st x.i).var) : Int)) && (((((dget st x.i).t.args.length : Nat) : Int) : Int) == (0 : Int)))))]) (fun j w30 => j ≤ x.L.length ∧ w23.heap.size ≤ (w30).heap.size ∧ (∀ k, j ≤ k → k < x.L.length → (dget st x.i).var < (dget x.L k).var) ∧ Below w.heap.size w w30 ∧ Blk w30 g 66 #[.slice a st.length c] ∧ RowE eltB (w30) w.heap.size 85 (some ⟨gr, 0, none⟩) rc27 (x.n + 1) ((insAt x.L j (dget st x.i)))) x.L.length ⟨rfl, rfl, rfl, rfl, rfl, rfl, rfl, trivial⟩ ?_ ?_
      ·exact ⟨Nat.le_refl _, Nat.le_refl _, fun k h1 h2 => by omega, hb28, hB29, hst9⟩
      ·rintro j w30 ⟨hj, hBw3, hjr, hb31, hB32, ho33⟩
       have hPl := insAt_len (x := (dget st x.i)) hj
       have hgl2 := (ho33.lt gr own_some).2
       have hcp := ho33.inRow
       have hcp3 := hcp.2.2.2
       unfold maxLen at hcp3
       refine WC.seq (WC.seq ?_)
       obtain ⟨A34, C35, hc36⟩ := ho33.cells
       refine WC.opt [(true, .val (.int .i64 (((j : Nat) : Int)))), (true, .val (.bool ((decide ((0 : Int) < (((j : Nat) : Int) : Int)))))), (true, .val (.bool ((decide ((0 : Int) < (((j : Nat) : Int) : Int)))))), ((true && (decide ((0 : Int) < (((j : Nat) : Int) : Int)))), .val (.slice ((some ⟨gr, 0, none⟩)) ((x.n + 1)) rc27)), ((true && (decide ((0 : Int) < (((j : Nat) : Int) : Int)))), .val (.int .i64 (((j : Nat) : Int)))), ((true && (decide ((0 : Int) < (((j : Nat) : Int) : Int)))), .val (.pointer (some ⟨gr, 0 + j * 3, none⟩))), ((true && (decide ((0 : Int) < (((j : Nat) : Int) : Int)))), .val (.pointer (some ⟨gr, 0 + j * 3, none⟩))), ((true && (decide ((0 : Int) < (((j : Nat) : Int) : Int)))), .val (.int .i64 ((dget ((insAt x.L j (dget st x.i))) j).var))), ((true && (decide ((0 : Int) < (((j : Nat) : Int) : Int)))), .val (.slice ((some ⟨gr, 0, none⟩)) ((x.n + 1)) rc27)), ((true && (decide ((0 : Int) < (((j : Nat) : Int) : Int)))), .val (.int .i64 (((j : Nat) : Int)))), ((true && (decide ((0 : Int) < (((j : Nat) : Int) : Int)))), .val (.int .i64 ((((j - 1) : Nat) : Int)))), ((true && (decide ((0 : Int) < (((j : Nat) : Int) : Int)))), .val (.pointer (some ⟨gr, 0 + ((j - 1)) * 3, none⟩))), ((true && (decide ((0 : Int) < (((j : Nat) : Int) : Int)))), .val (.pointer (some ⟨gr, 0 + ((j - 1)) * 3, none⟩))), ((true && (decide ((0 : Int) < (((j : Nat) : Int) : Int)))), .val (.int .i64 ((dget ((insAt x.L j (dget st x.i))) ((j - 1))).var))), ((true && (decide ((0 : Int) < (((j : Nat) : Int) : Int)))), .val (.bool ((decide (((dget ((insAt x.L j (dget st x.i))) j).var : Int) < ((dget ((insAt x.L j (dget st x.i))) ((j - 1))).var : Int)))))), (true, .val (.bool (((decide ((0 : Int) < (((j : Nat) : Int) : Int))) && (decide (((dget ((insAt x.L j (dget st x.i))) j).var : Int) < ((dget ((insAt x.L j (dget st x.i))) ((j - 1))).var : Int)))))))] [(0, .pointer (some ⟨g, 0, none⟩)), (2, .slice none 0 0), (3, .slice ((some ⟨gr, 0, none⟩)) ((x.n + 1)) rc27), (4, .int .i64 (((x.i : Nat) : Int))), (5, .int .i64 (((j : Nat) : Int))), (13, .bool ((decide ((((x.i : Nat) : Int) : Int) < (((st.length : Nat) : Int) : Int))))), (47, .bool (((((dget st x.i).t.f : Int) == ((-1 - (dget st x.i).var) : Int)) && (((((dget st x.i).t.args.length : Nat) : Int) : Int) == (0 : Int)))))] ⟨rfl, rfl, rfl, rfl, rfl, rfl, rfl, trivial⟩ (by kernel_rfl) (by kernel_rfl) (by kernel_rfl) ?_ ?_
       ·refine ⟨⟨true, .none rfl, fun h w => optUndef h, fun zβ za zw zc => ?_⟩, ?_⟩
        ·exact wp_move rfl (zc.kn.ev rfl) ⟨_, rfl, Below.refl _ _, optDef zβ rfl⟩
        refine ⟨⟨true, .none rfl, fun h w => optUndef h, fun zβ za zw zc => ?_⟩, ?_⟩
        ·exact gtr_3 rfl ((evt za 72).trans (optVal (zc.dep 0 72 (by kernel_rfl)) rfl rfl)) (zc.kn.ev rfl) ⟨_, rfl, Below.refl _ _, optDef zβ rfl⟩
        refine ⟨⟨true, .none rfl, fun h w => optUndef h, fun zβ za zw zc => ?_⟩, ?_⟩
        ·exact wp_move rfl ((evt za 73).trans (optVal (zc.dep 1 73 (by kernel_rfl)) rfl rfl)) ⟨_, rfl, Below.refl _ _, optDef zβ rfl⟩
        refine ⟨⟨_, .yes (d := true) rfl (fun v w h => h), fun h w => optUndef h, fun zβ za zw zc => ?_⟩, ?_⟩
        ·exact wp_move rfl (zc.kn.ev rfl) ⟨_, rfl, Below.refl _ _, optDef zβ rfl⟩
        refine ⟨⟨_, .yes (d := true) rfl (fun v w h => h), fun h w => optUndef h, fun zβ za zw zc => ?_⟩, ?_⟩
        ·exact wp_move rfl (zc.kn.ev rfl) ⟨_, rfl, Below.refl _ _, optDef zβ rfl⟩
        refine ⟨⟨_, .yes (d := true) rfl (fun v w h => h), fun h w => optUndef h, fun zβ za zw zc => ?_⟩, ?_⟩
        ·exact ix_37 (k := j) rfl ((evt za 75).trans (optVal (zc.dep 3 75 (by kernel_rfl)) rfl zβ)) rfl ((evt za 76).trans (optVal (zc.dep 4 76 (by kernel_rfl)) rfl zβ)) (by first | omega | (have zz := zβ; simp only [Bool.and_eq_true, Bool.or_eq_true, Bool.true_and, Bool.not_eq_true', Bool.or_eq_false_iff, Bool.and_eq_false_iff, beq_eq_false_iff_ne, ne_eq, beq_iff_eq, decide_eq_true_eq, decide_eq_false_iff_not, bne_iff_ne, bne_eq_false_iff_eq] at zz; omega)) ⟨_, rfl, Below.refl _ _, optDef zβ rfl⟩
        refine ⟨⟨_, .yes (d := true) rfl (fun v w h => h), fun h w => optUndef h, fun zβ za zw zc => ?_⟩, ?_⟩
        ·exact fld_85_0 rfl ((evt za 77).trans (optVal (zc.dep 5 77 (by kernel_rfl)) rfl zβ)) ⟨_, rfl, Below.refl _ _, optDef zβ rfl⟩
        refine ⟨⟨_, .yes (d := true) rfl (fun v w h => h), fun h w => optUndef h, fun zβ za zw zc => ?_⟩, ?_⟩
        ·exact ld_3 rfl ((evt za 78).trans (optVal (zc.dep 6 78 (by kernel_rfl)) rfl zβ)) (bkeeps zc.below _ _ (hc36 j (by first | omega | (have zz := zβ; simp only [Bool.and_eq_true, Bool.or_eq_true, Bool.true_and, Bool.not_eq_true', Bool.or_eq_false_iff, Bool.and_eq_false_iff, beq_eq_false_iff_ne, ne_eq, beq_iff_eq, decide_eq_true_eq, decide_eq_false_iff_not, bne_iff_ne, bne_eq_false_iff_eq] at zz; omega))).1) ⟨_, rfl, Below.refl _ _, optDef zβ rfl⟩
        refine ⟨⟨_, .yes (d := true) rfl (fun v w h => h), fun h w => optUndef h, fun zβ za zw zc => ?_⟩, ?_⟩
        ·exact wp_move rfl (zc.kn.ev rfl) ⟨_, rfl, Below.refl _ _, optDef zβ rfl⟩
        refine ⟨⟨_, .yes (d := true) rfl (fun v w h => h), fun h w => optUndef h, fun zβ za zw zc => ?_⟩, ?_⟩
        ·exact wp_move rfl (zc.kn.ev rfl) ⟨_, rfl, Below.refl _ _, optDef zβ rfl⟩
        refine ⟨⟨_, .yes (d := true) rfl (fun v w h => h), fun h w => optUndef h, fun zβ za zw zc => ?_⟩, ?_⟩
        ·exact subb_3 rfl ((evt za 81).trans (optVal (zc.dep 9 81 (by kernel_rfl)) rfl zβ)) (zc.kn.ev rfl) (wrap_eq (by have z := zβ; simp at z; omega) (by omega) (by omega)) ⟨_, rfl, Below.refl _ _, optDef zβ rfl⟩
        refine ⟨⟨_, .yes (d := true) rfl (fun v w h => h), fun h w => optUndef h, fun zβ za zw zc => ?_⟩, ?_⟩
        ·exact ix_37 (k := (j - 1)) rfl ((evt za 80).trans (optVal (zc.dep 8 80 (by kernel_rfl)) rfl zβ)) rfl ((evt za 82).trans (optVal (zc.dep 10 82 (by kernel_rfl)) rfl zβ)) (by first | omega | (have zz := zβ; simp only [Bool.and_eq_true, Bool.or_eq_true, Bool.true_and, Bool.not_eq_true', Bool.or_eq_false_iff, Bool.and_eq_false_iff, beq_eq_false_iff_ne, ne_eq, beq_iff_eq, decide_eq_true_eq, decide_eq_false_iff_not, bne_iff_ne, bne_eq_false_iff_eq] at zz; omega)) ⟨_, rfl, Below.refl _ _, optDef zβ rfl⟩
        refine ⟨⟨_, .yes (d := true) rfl (fun v w h => h), fun h w => optUndef h, fun zβ za zw zc => ?_⟩, ?_⟩
        ·exact fld_85_0 rfl ((evt za 83).trans (optVal (zc.dep 11 83 (by kernel_rfl)) rfl zβ)) ⟨_, rfl, Below.refl _ _, optDef zβ rfl⟩
        refine ⟨⟨_, .yes (d := true) rfl (fun v w h => h), fun h w => optUndef h, fun zβ za zw zc => ?_⟩, ?_⟩
        ·exact ld_3 rfl ((evt za 84).trans (optVal (zc.dep 12 84 (by kernel_rfl)) rfl zβ)) (bkeeps zc.below _ _ (hc36 ((j - 1)) (by first | omega | (have zz := zβ; simp only [Bool.and_eq_true, Bool.or_eq_true, Bool.true_and, Bool.not_eq_true', Bool.or_eq_false_iff, Bool.and_eq_false_iff, beq_eq_false_iff_ne, ne_eq, beq_iff_eq, decide_eq_true_eq, decide_eq_false_iff_not, bne_iff_ne, bne_eq_false_iff_eq] at zz; omega))).1) ⟨_, rfl, Below.refl _ _, optDef zβ rfl⟩
        refine ⟨⟨_, .yes (d := true) rfl (fun v w h => h), fun h w => optUndef h, fun zβ za zw zc => ?_⟩, ?_⟩
        ·exact lss_3 rfl ((evt za 79).trans (optVal (zc.dep 7 79 (by kernel_rfl)) rfl zβ)) ((evt za 85).trans (optVal (zc.dep 13 85 (by kernel_rfl)) rfl zβ)) ⟨_, rfl, Below.refl _ _, optDef zβ rfl⟩
        refine ⟨⟨true, .none rfl, fun h w => optUndef h, fun zβ za zw zc => ?_⟩, ?_⟩
        ·exact wp_and rfl ((evt za 74).trans (optVal (zc.dep 2 74 (by kernel_rfl)) rfl rfl)) (fun hp => ((evt za 86).trans (optVal (zc.dep 14 86 (by kernel_rfl)) rfl (bMk zβ hp)))) ⟨_, rfl, Below.refl _ _, optDef zβ rfl⟩
        exact trivial
       ·intro za w37 zh hb38 zu
        have zh := zh.cons (d := 87) (v := .bool (((decide ((0 : Int) < (((j : Nat) : Int) : Int))) && (decide (((dget ((insAt x.L j (dget st x.i))) j).var : Int) < ((dget ((insAt x.L j (dget st x.i))) ((j - 1))).var : Int)))))) (optVal (zu 15 87 (by kernel_rfl)) rfl rfl)
        clear zu
        refine WE.go zh ?_
        refine WE.next ?_
        refine WC.cond rfl (fun h39 => ?_) (fun h39 => ?_)
        ·have h39 : ((0 : Int) < (((j : Nat) : Int) : Int)) ∧ (((dget ((insAt x.L j (dget st x.i))) j).var : Int) < ((dget ((insAt x.L j (dget st x.i))) ((j - 1))).var : Int)) := by simpa using h39
         have hgo9 := h39
         have hsw : (dget st x.i).var < (dget x.L (j - 1)).var := by have z := hgo9.2; rw [dget_ins_at hj, dget_ins_lt (by omega) hj] at z; exact z
         refine WC.skip (WE.next (WC.seq (WC.block (WC.seq (WC.region (WL.mv rfl rfl rfl rfl rfl (WL.mv rfl rfl rfl rfl rfl ?_)))))))
         refine WL.val _ rfl rfl rfl (fun za zC zh zk => ix_37 (k := j) rfl (zh.ev rfl) rfl (zh.ev rfl) (by first | omega | (simp; omega)) zk) ?_
         refine WL.val _ rfl rfl rfl (fun za zC zh zk => ld_85 rfl (zh.ev rfl) (bkeeps hb38 _ _ (hc36 j (by first | omega | (simp; omega))).1) (bkeeps hb38 _ _ (hc36 j (by first | omega | (simp; omega))).2.1) (bkeeps hb38 _ _ (hc36 j (by first | omega | (simp; omega))).2.2.1) zk) ?_
         refine WL.step (post := NewBlk w37 85 #[.int .i64 0, .int .i64 0, .slice none 0 0]) rfl rfl rfl (fun za zC zh zk => alloc_85 rfl (zk _ _ (newBlk _ _ _))) ?_
         rintro _ w40 ⟨g41, rfl, hg42, hB43, hb44, hz45⟩
         have hl46 : g < g41 := by have z1 := hB32.lt; have z2 := (hb38).size; omega
         have hb47 : Below w.heap.size w w37 := (bstep hb31 hb38)
         have hl48 : w.heap.size ≤ g41 := by have z2 := (hb47).size; omega
         have hl49 : w30.heap.size ≤ g41 := by have z2 := (hb38).size; omega
         refine WL.step (post := fun _ w' => Upd g41 w40 w' ∧ Blk w' g41 85 #[.int .i64 ((dget ((insAt x.L j (dget st x.i))) j).var), .int .i64 ((dget ((insAt x.L j (dget st x.i))) j).t.f), .slice ((A34 j)) ((dget ((insAt x.L j (dget st x.i))) j).t.args.length) ((C35 j))]) rfl rfl rfl (fun za zC zh zk => st_85 rfl (zh.ev rfl) (zh.ev rfl) rfl rfl rfl hB43 (by first | decide | simp) (fun v => zk v _ ⟨((Upd.at_ _ _ _ _).trans (Upd.at_ _ _ _ _)).trans (Upd.at_ _ _ _ _), ((hB43.set_ 0 _).set_ 1 _).set_ 2 _⟩)) ?_
         rintro v53 w50 ⟨hu51, hB52⟩
         have hb54 : Below w.heap.size w w40 := (bstep hb47 hb44)
         have hb55 : Below w30.heap.size w30 w40 := (bstep hb38 hb44)
         have hb56 := upd_below hb54 hu51 (by omega)
         have hb57 := upd_below hb55 hu51 (by omega)
         have hB58 := hB32.below hb55
         have hB59 := upd_blk hB58 hu51 (by omega)
         refine WL.nil (WE.next (WC.seq (WC.region (WL.mv rfl rfl rfl rfl rfl (WL.mv rfl rfl rfl rfl rfl (WL.mv rfl rfl rfl rfl rfl (WL.mv rfl rfl rfl rfl rfl ?_)))))))
         refine WL.val (.int .i64 ((((j - 1) : Nat) : Int))) rfl rfl rfl (fun za zC zh zk => subb_3 rfl (zh.ev rfl) (zh.ev rfl) (wrap_eq (by omega) (by omega) (by omega)) zk) ?_
         refine WL.val _ rfl rfl rfl (fun za zC zh zk => ix_37 (k := (j - 1)) rfl (zh.ev rfl) rfl (zh.ev rfl) (by first | omega | (simp; omega)) zk) ?_
         refine WL.val _ rfl rfl rfl (fun za zC zh zk => ld_85 rfl (zh.ev rfl) (bkeeps hb57 _ _ (hc36 ((j - 1)) (by first | omega | (simp; omega))).1) (bkeeps hb57 _ _ (hc36 ((j - 1)) (by first | omega | (simp; omega))).2.1) (bkeeps hb57 _ _ (hc36 ((j - 1)) (by first | omega | (simp; omega))).2.2.1) zk) ?_
         refine WL.val _ rfl rfl rfl (fun za zC zh zk => ix_37 (k := j) rfl (zh.ev rfl) rfl (zh.ev rfl) (by first | omega | (simp; omega)) zk) ?_
         have ho60 := ho33.below hb57
         have hs70 : Chg ((fun b => b = gr)) w30 w50 := (Chg.trans2 (Chg.refl ((fun b => b = gr)) _) (Chg.ofBelow (S := fun k => k < 0) hb57) (fun i h1 h2 => by first | exact h2 | exact .inl ⟨h2, h1⟩ | exact .inl h2 | exact .inr h2 | exact .inr (.inl h2) | exact .inr (.inr h2) | ((try dsimp only at *); omega)))
         obtain ⟨cu65, ds66, hb67, _, _, _, _, _, hs68, _, _⟩ := ho60.open3
         have hin69 := InT.chg (hc36 ((j - 1)) (by first | omega | (simp; omega))).2.2.2.1 hs70 (fun b q e => q.2 e)
         refine WL.step (post := fun _ w' => Upd gr w50 w' ∧ RowE eltB w' w.heap.size 85 (some ⟨gr, 0, none⟩) rc27 (x.n + 1) (((insAt x.L j (dget st x.i)).set j (dget ((insAt x.L j (dget st x.i))) ((j - 1)))))) rfl rfl rfl (fun za zC zh zk => st_85 rfl (zh.ev rfl) (zh.ev rfl) rfl rfl rfl hb67 (by omega) (fun v => zk v _ ⟨((Upd.at_ _ _ _ _).trans (Upd.at_ _ _ _ _)).trans (Upd.at_ _ _ _ _), ho60.store3 (by omega) (hc36 ((j - 1)) (by first | omega | (simp; omega))).2.2.2.2 hin69⟩)) ?_
         rintro v64 w61 ⟨hu62, hr63⟩
         have hb71 := upd_below hb56 hu62 (by omega)
         have hB72 := upd_blk hB59 hu62 (by omega)
         have hB73 := upd_blk hB52 hu62 (by omega)
         refine WL.nil (WE.next (WC.region (WL.mv rfl rfl rfl rfl rfl (WL.mv rfl rfl rfl rfl rfl ?_))))
         refine WL.val (.int .i64 ((((j - 1) : Nat) : Int))) rfl rfl rfl (fun za zC zh zk => subb_3 rfl (zh.ev rfl) (zh.ev rfl) (wrap_eq (by omega) (by omega) (by omega)) zk) ?_
         refine WL.val _ rfl rfl rfl (fun za zC zh zk => ld_85 rfl (zh.ev rfl) ((hB73.cell 0).trans rfl) ((hB73.cell 1).trans rfl) ((hB73.cell 2).trans rfl) zk) ?_
         obtain ⟨A74, C75, hc76⟩ := hr63.cells
         refine WL.val _ rfl rfl rfl (fun za zC zh zk => ix_37 (k := (j - 1)) rfl (zh.ev rfl) rfl (zh.ev rfl) (by first | omega | (simp; omega)) zk) ?_
         have hs86 : Chg ((fun b => b = gr)) w30 w61 := (Chg.trans2 (Chg.trans2 (Chg.refl ((fun b => b = gr)) _) (Chg.ofBelow (S := fun k => k < 0) hb57) (fun i h1 h2 => by first | exact h2 | exact .inl ⟨h2, h1⟩ | exact .inl h2 | exact .inr h2 | exact .inr (.inl h2) | exact .inr (.inr h2) | ((try dsimp only at *); omega))) (Chg.ofUpd (S := fun k => k = gr) hu62 rfl) (fun i h1 h2 => by first | exact h2 | exact .inl ⟨h2, h1⟩ | exact .inl h2 | exact .inr h2 | exact .inr (.inl h2) | exact .inr (.inr h2) | ((try dsimp only at *); omega)))
         obtain ⟨cu81, ds82, hb83, _, _, _, _, _, hs84, _, _⟩ := hr63.open3
         have hin85 := InT.chg (hc36 j (by first | omega | (simp; omega))).2.2.2.1 hs86 (fun b q e => q.2 e)
         refine WL.step (post := fun _ w' => Upd gr w61 w' ∧ RowE eltB w' w.heap.size 85 (some ⟨gr, 0, none⟩) rc27 (x.n + 1) ((((insAt x.L j (dget st x.i)).set j (dget ((insAt x.L j (dget st x.i))) ((j - 1)))).set (j - 1) (dget ((insAt x.L j (dget st x.i))) j)))) rfl rfl rfl (fun za zC zh zk => st_85 rfl (zh.ev rfl) (zh.ev rfl) rfl rfl rfl hb83 (by omega) (fun v => zk v _ ⟨((Upd.at_ _ _ _ _).trans (Upd.at_ _ _ _ _)).trans (Upd.at_ _ _ _ _), hr63.store3 (by omega) (hc36 j (by first | omega | (simp; omega))).2.2.2.2 hin85⟩)) ?_
         rintro v80 w77 ⟨hu78, hr79⟩
         have hb87 := upd_below hb71 hu78 (by omega)
         have hB88 := upd_blk hB72 hu78 (by omega)
         have hB89 := upd_blk hB73 hu78 (by omega)
         refine WL.nil (WE.sub (K' := [(0, .pointer (some ⟨g, 0, none⟩)), (2, .slice none 0 0), (3, .slice ((some ⟨gr, 0, none⟩)) ((x.n + 1)) rc27), (4, .int .i64 (((x.i : Nat) : Int))), (5, .int .i64 (((j : Nat) : Int))), (6, .pointer (some ⟨g41, 0, none⟩)), (13, .bool ((decide ((((x.i : Nat) : Int) : Int) < (((st.length : Nat) : Int) : Int))))), (47, .bool (((((dget st x.i).t.f : Int) == ((-1 - (dget st x.i).var) : Int)) && (((((dget st x.i).t.args.length : Nat) : Int) : Int) == (0 : Int))))), (87, .bool (((decide ((0 : Int) < (((j : Nat) : Int) : Int))) && (decide (((dget ((insAt x.L j (dget st x.i))) j).var : Int) < ((dget ((insAt x.L j (dget st x.i))) ((j - 1))).var : Int))))))]) ⟨rfl, rfl, rfl, rfl, rfl, rfl, rfl, rfl, rfl, trivial⟩ ?_)
         refine WE.blockNormal (WE.next (WC.region (WL.mv rfl rfl rfl rfl rfl ?_)))
         refine WL.val (.int .i64 ((((j - 1) : Nat) : Int))) rfl rfl rfl (fun za zC zh zk => subb_3 rfl (zh.ev rfl) (zh.ev rfl) (wrap_eq (by omega) (by omega) (by omega)) zk) ?_
         refine WL.asg rfl rfl rfl rfl rfl (WL.nil ?_)
         refine WE.round (j - 1) ⟨rfl, rfl, rfl, rfl, rfl, rfl, rfl, trivial⟩ ?_ ?_
         ·exact ⟨by omega, (Nat.le_trans (Nat.le_trans (Nat.le_trans hBw3 hb57.size) (Nat.le_of_eq hu62.size.symm)) (Nat.le_of_eq hu78.size.symm)), fun k h1 h2 => by rcases Nat.lt_or_ge k j with q | q; (obtain rfl : k = j - 1 := by omega); exact hsw; exact hjr k q h2, hb87, hB88, (by rw [← ins_swap (x := (dget st x.i)) (by omega) hj]; exact hr79)⟩
         ·omega
        ·have h39 : ¬ (((0 : Int) < (((j : Nat) : Int) : Int)) ∧ (((dget ((insAt x.L j (dget st x.i))) j).var : Int) < ((dget ((insAt x.L j (dget st x.i))) ((j - 1))).var : Int))) := by simpa using h39
         have hgo9 := h39
         have hstop : ¬ (0 < j ∧ (dget st x.i).var < (dget x.L (j - 1)).var) := fun q => hgo9 ⟨by omega, by rw [dget_ins_at hj, dget_ins_lt (by omega) hj]; exact q.2⟩
         refine WC.exit (WE.thenExit (WE.thenExit (WE.blockIs rfl (WE.blockNormal (WE.next (WC.region (WL.mv rfl rfl rfl rfl rfl ?_)))))))
         refine WL.val (.int .i64 ((((x.i + 1) : Nat) : Int))) rfl rfl rfl (fun za zC zh zk => addb_3 rfl (zh.ev rfl) (zh.ev rfl) (wrap_eq (by omega) (by omega) (by omega)) zk) ?_
         refine WL.asg rfl rfl rfl rfl rfl (WL.nil ?_)
         refine WE.round (⟨x.i + 1, (some ⟨gr, 0, none⟩), rc27, (x.n + 1), (insAt x.L j (dget st x.i))⟩) ⟨rfl, rfl, rfl, rfl, trivial⟩ ?_ ?_
         ·have hb90 : Below w.heap.size w w37 := (bstep hb31 hb38)
          have hB91 := hB32.below hb38
          have ho92 := ho33.below hb38
          exact ⟨by (try dsimp only); omega, (Nat.le_trans hb31.size hb38.size), subOf_ins hso hnd (by omega) hns hj hjr hstop, hb90, hB91, ho92⟩
         ·(try dsimp only); omega
  ·have h7 : ¬ ((((x.i : Nat) : Int) : Int) < (((st.length : Nat) : Int) : Int)) := by simpa using h7
   refine WC.exit (WE.thenExit (WE.thenExit (WE.blockIs rfl (WE.next (WC.seq (WC.region (WL.mv rfl rfl rfl rfl rfl (WL.asg rfl rfl rfl rfl rfl (WL.nil (WE.next (WC.ret (WE.ret1 rfl rfl ?_))))))))))))
   have hRo := (ho6).inRow
   rw [hRo.2.1]
   refine ⟨_, rfl, ⟨x.L, _, _, rfl, by rw [show x.i = st.length by omega, List.take_length] at hso; exact hso, hRo.1.mono (by decide) (fun b hb _ => by omega), by omega, hRo.2.2.2⟩, hb4⟩
end Go.Proofs.Ytibncmnmjhimeaa

namespace Go.Proofs.Ytibncmnmjhimeaa
open Go.RowKit Go
set_option linter.unusedVariables false
set_option linter.unusedSimpArgs false
instance : DecidableEq T := fun s t => decidable_of_iff _ (T.same_iff s t)
instance : DecidableEq Bd := fun x y => decidable_of_iff (x.var = y.var ∧ x.t = y.t) (by cases x; cases y; simp)
set_option maxRecDepth 100000 in
theorem rmatch_any (p t : T) (w : World) (u v : Value) (hp : IsT w p u) (ht : IsT w t v) (hzp : p.size ≤ 4294967296) (hzt : t.size ≤ 4294967296) : Calls Try.prog 16 #[u, v] w (Ret fun v' w' => MatchIs w w' p t v' ∧ Below w.heap.size w w') := by
 obtain ⟨hfp, pa0, pc0, rfl, _, _, _⟩ := hp.form
 obtain ⟨hft, ta0, tc0, rfl, _, _, _⟩ := ht.form
 have hpI := hp.inT
 have htI := ht.inT
 refine Calls.walk (l := [.agg #[.int .i64 p.f, .slice pa0 p.args.length pc0], .agg #[.int .i64 t.f, .slice ta0 t.args.length tc0]]) Try.func16 rfl (by kernel_rfl) ?_
 refine WC.sub (K' := [(0, .agg #[.int .i64 p.f, .slice pa0 p.args.length pc0]), (1, .agg #[.int .i64 t.f, .slice ta0 t.args.length tc0])]) ⟨rfl, rfl, trivial⟩ ?_
 refine WC.seq (WC.region ?_)
 refine WL.step (post := NewBlk w 24 #[.int .i64 p.f, .slice pa0 p.args.length pc0]) rfl rfl rfl (fun za zC zh zk => box_24 rfl (zh.ev rfl) (zk _ _ (newBlk _ _ _))) ?_
 rintro _ w1 ⟨g2, rfl, hg3, hB4, hb5, hz6⟩
 have hl7 : w.heap.size ≤ g2 := by omega
 refine WL.step (post := NewBlk w1 24 #[.int .i64 t.f, .slice ta0 t.args.length tc0]) rfl rfl rfl (fun za zC zh zk => box_24 rfl (zh.ev rfl) (zk _ _ (newBlk _ _ _))) ?_
 rintro _ w8 ⟨g9, rfl, hg10, hB11, hb12, hz13⟩
 have hl14 : g2 < g9 := by have z1 := hB4.lt; omega
 have hl15 : w.heap.size ≤ g9 := by have z2 := (hb5).size; omega
 refine WL.asg rfl rfl rfl rfl rfl (WL.asg rfl rfl rfl rfl rfl (WL.nil (WE.next (WC.seq (WC.region ?_)))))
 refine WL.val (.agg #[.slice none 0 0]) rfl rfl rfl (fun za zC zh zk => build_66_ rfl  zk) ?_
 refine WL.step (post := NewBlk w8 66 #[.slice none 0 0]) rfl rfl rfl (fun za zC zh zk => box_66 rfl (zh.ev rfl) (zk _ _ (newBlk _ _ _))) ?_
 rintro _ w16 ⟨g17, rfl, hg18, hB19, hb20, hz21⟩
 have hl22 : g2 < g17 := by have z1 := hB4.lt; have z2 := (hb12).size; omega
 have hl23 : g9 < g17 := by have z1 := hB11.lt; omega
 have hb24 : Below w.heap.size w w8 := (bstep hb5 hb12)
 have hl25 : w.heap.size ≤ g17 := by have z2 := (hb24).size; omega
 refine WL.asg rfl rfl rfl rfl rfl (WL.nil (WE.next (WC.seq (WC.seq ?_))))
 have hb27 : Below w1.heap.size w1 w16 := (bstep hb12 hb20)
 have hB26 := hB4.below hb27
 have hl28 : g2 < w16.heap.size := hB26.lt
 have hl29 : w.heap.size ≤ g2 := by have z : w.heap.size ≤ w.heap.size := (Nat.le_refl _); omega
 have hB30 := hB11.below hb20
 have hl31 : g9 < w16.heap.size := hB30.lt
 have hl32 : w.heap.size ≤ g9 := by have z : w.heap.size ≤ w1.heap.size := hb5.size; omega
 have hl33 : g17 < w16.heap.size := hB19.lt
 have hl34 : w.heap.size ≤ g17 := by have z : w.heap.size ≤ w8.heap.size := hb24.size; omega
 have hMA : RefAt w16 g17 [] (fun b => b = g17) := ⟨_, _, RefIn.start hB19⟩
 have hC : ∀ b, (fun b => b = g17) b → w.heap.size ≤ b := fun b q => by (try dsimp only at q); omega
 have hne35 : g2 ≠ g17 := by omega
 have hne36 : g9 ≠ g17 := by omega
 refine WC.region (WL.mv rfl rfl rfl rfl rfl ?_)
 refine WL.val _ rfl rfl rfl (fun za zC zh zk => ld_24 rfl (zh.ev rfl) ((hB26.cell 0).trans rfl) ((hB26.cell 1).trans rfl) zk) ?_
 refine WL.val _ rfl rfl rfl (fun za zC zh zk => ld_24 rfl (zh.ev rfl) ((hB30.cell 0).trans rfl) ((hB30.cell 1).trans rfl) zk) ?_
 have hb37 : Below w.heap.size w w16 := (bstep hb5 hb27)
 refine WL.call rfl rfl rfl (fun za zh zC => wp_call (by kernel_rfl) rfl (hv3 (zh.ev rfl) (zh.ev rfl) (zh.ev rfl))) (rTerm_any p t hMA (InT.below hb37 hpI) (InT.below hb37 htI) (fun b q q2 => by have z := hC _ q2; omega) hzp hzt (by simp; omega)) ?_
 rintro _ w38 ⟨⟨C2, rfl, hMA2, hC2⟩, hcT⟩
 have hb39 := chg_below hb37 hcT (fun b hb => (fun h => by have z := hC _ h; (try dsimp only at *); omega))
 have hB40 := chg_blk hB26 hcT (fun h => by have z := hC _ h; (try dsimp only at *); omega)
 have hB41 := chg_blk hB30 hcT (fun h => by have z := hC _ h; (try dsimp only at *); omega)
 refine WL.val (.bool ((!(mOk p t [])))) rfl rfl rfl (fun za zC zh zk => wp_not rfl (zh.ev rfl) zk) ?_
 refine WL.nil (WE.next ?_)
 refine WC.cond rfl (fun h42 => ?_) (fun h42 => ?_)
 ·have h42 : ¬ ((mOk p t []) = true) := by simpa using h42
  refine WC.seq (WC.region (WL.asg rfl rfl rfl rfl rfl (WL.asg rfl rfl rfl rfl rfl (WL.nil (WE.next (WC.ret (WE.thenRet (WE.ret2 rfl rfl rfl ?_))))))))
  refine ⟨_, rfl, ?_, hb39⟩
  unfold MatchIs
  rw [if_neg (by simpa using h42)]
 ·have h42 : ¬ (¬ ((mOk p t []) = true)) := by simpa using h42
  refine WC.skip (WE.next (WC.seq (WC.region (WL.mv rfl rfl rfl rfl rfl ?_))))
  refine WL.call rfl rfl rfl (fun za zh zC => wp_call (by kernel_rfl) rfl (hv1 (zh.ev rfl))) (rsub_any _ hMA2 (mTo_nd p t List.nodup_nil) (by have z := (mTo_take p t []).2.1; simp at z; omega)) ?_
  rintro _ w43 ⟨⟨R, ra, rc, rfl, hSO, hNB⟩, hbs⟩
  refine WL.asg rfl rfl rfl rfl rfl (WL.asg rfl rfl rfl rfl rfl (WL.nil (WE.next (WC.ret (WE.ret2 rfl rfl rfl ?_)))))
  have hb44 : Below w.heap.size w w43 := (bstep hb39 hbs)
  refine ⟨_, rfl, ?_, hb44⟩
  unfold MatchIs
  rw [if_pos (by simpa using h42)]
  exact ⟨R, _, _, rfl, hSO, (hNB.older hb39.size).below (Below.refl _ _)⟩
end Go.Proofs.Ytibncmnmjhimeaa
