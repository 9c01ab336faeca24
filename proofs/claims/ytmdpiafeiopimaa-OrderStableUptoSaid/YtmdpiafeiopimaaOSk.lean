/- The document checks substitutions. -/
import Derived.Test.YtmdpiafeiopimaaOSj
import Derived.Test.YtmdpiafeiopimaaOSb
import Derived.Test.YtmdpiafeiopimaaOSf
import Derived.Test.YtmdpiafeiopimaaOSh
import Derived.Test.YtmdpiafeiopimaaOSg

/- Terms, bindings: the program and the document. -/
namespace Go.Proofs.Ytmdpiafeiopimaa
open Go.RowKit Go
set_option linter.unusedVariables false
set_option linter.unusedSimpArgs false
/-- What Get tells. -/
def GetIs (w w' : World) (o : Option T) (v : Value) : Prop := ∃ u, v = .tuple #[u, .bool o.isSome] ∧ NewT w w' (o.getD (.mk 0 [])) u
theorem newT_zero (w w' : World) : NewT w w' (.mk 0 []) (.agg #[.int .i64 0, .slice none 0 0]) := newT_leaf (by unfold I64; omega)
set_option maxRecDepth 100000 in
theorem rget_any (s : List Bd) (m : Int) (w : World) (sa : Option Addr) (sc : Nat) (hs : IsSub w s sa sc) : Calls Try.prog 47 #[.slice sa s.length sc, .int .i64 m] w (Ret fun v' w' => GetIs w w' (subFind s m) v' ∧ Below w.heap.size w w') := by
 have hcap := hs.cap
 have hsm := hs.small
 unfold maxLen at hcap
 refine Calls.walk (l := [.slice sa s.length sc, .int .i64 m]) Try.func47 rfl (by kernel_rfl) ?_
 refine WC.sub (K' := [(0, .slice sa s.length sc), (1, .int .i64 m)]) ⟨rfl, rfl, trivial⟩ ?_
 refine WC.seq (WC.region ?_)
 refine WL.step (post := NewBlk w 30 #[.int .i64 0, .slice none 0 0]) rfl rfl rfl (fun za zC zh zk => alloc_30 rfl (zk _ _ (newBlk _ _ _))) ?_
 rintro _ w1 ⟨g2, rfl, hg3, hB4, hb5, hz6⟩
 have hl7 : w.heap.size ≤ g2 := by omega
 refine WL.asg rfl rfl rfl rfl rfl (WL.nil (WE.next (WC.seq (WC.seq (WC.region (WL.asg rfl rfl rfl rfl rfl (WL.nil (WE.next (WC.block ?_)))))))))
 refine WC.loop (X := Nat) (fun k => s.length - k) (fun k => [(0, .slice sa s.length sc), (1, .int .i64 m), (4, .pointer (some ⟨g2, 0, none⟩)), (6, .int .i64 (((k : Nat) : Int)))]) (fun k w8 => k ≤ s.length ∧ (∀ i, i < k → (dget s i).var ≠ m) ∧ Below w.heap.size w w8 ∧ Blk w8 g2 30 #[.int .i64 0, .slice none 0 0]) 0 ⟨rfl, rfl, rfl, rfl, trivial⟩ ?_ ?_
 ·exact ⟨Nat.zero_le _, fun i h => absurd h (Nat.not_lt_zero i), hb5, hB4⟩
 ·rintro k w8 ⟨hk, hne, hb9, hB10⟩
  refine WC.seq (WC.seq (WC.region (WL.mv rfl rfl rfl rfl rfl (WL.mv rfl rfl rfl rfl rfl ?_))))
  refine WL.val (.int .i64 (((s.length : Nat) : Int))) rfl rfl rfl (fun za zC zh zk => len_34 rfl (zh.ev rfl) zk) ?_
  refine WL.val (.bool ((decide ((((k : Nat) : Int) : Int) < (((s.length : Nat) : Int) : Int))))) rfl rfl rfl (fun za zC zh zk => lss_3 rfl (zh.ev rfl) (zh.ev rfl) zk) ?_
  refine WL.nil (WE.next ?_)
  refine WC.cond rfl (fun h11 => ?_) (fun h11 => ?_)
  ·have h11 : (((k : Nat) : Int) : Int) < (((s.length : Nat) : Int) : Int) := by simpa using h11
   refine WC.skip (WE.next (WC.seq (WC.block (WC.seq (WC.region (WL.mv rfl rfl rfl rfl rfl (WL.mv rfl rfl rfl rfl rfl ?_)))))))
   obtain ⟨b12, o13, A14, C15, ha16, hc17⟩ := InRow.openB hs.rows
   refine WL.val _ rfl rfl rfl (fun za zC zh zk => ix_34 (k := k) rfl (zh.ev rfl) (ha16 k (by first | omega | (simp; omega))) (zh.ev rfl) (by first | omega | (simp; omega)) zk) ?_
   refine WL.val _ rfl rfl rfl (fun za zC zh zk => fld_44_0 rfl (zh.ev rfl) zk) ?_
   refine WL.val _ rfl rfl rfl (fun za zC zh zk => ld_3 rfl (zh.ev rfl) (bkeeps hb9 _ _ (hc17 k (by first | omega | (simp; omega))).1) zk) ?_
   refine WL.mv rfl rfl rfl rfl rfl ?_
   refine WL.val (.bool ((((dget s k).var : Int) == (m : Int)))) rfl rfl rfl (fun za zC zh zk => eql_3 rfl (zh.ev rfl) (zh.ev rfl) zk) ?_
   refine WL.nil (WE.next ?_)
   refine WC.cond rfl (fun h18 => ?_) (fun h18 => ?_)
   ·have h18 : ((dget s k).var : Int) = (m : Int) := by simpa using h18
    refine WC.seq (WC.region (WL.mv rfl rfl rfl rfl rfl (WL.mv rfl rfl rfl rfl rfl ?_)))
    refine WL.val _ rfl rfl rfl (fun za zC zh zk => ix_34 (k := k) rfl (zh.ev rfl) (ha16 k (by first | omega | (simp; omega))) (zh.ev rfl) (by first | omega | (simp; omega)) zk) ?_
    refine WL.val _ rfl rfl rfl (fun za zC zh zk => fld_44_1 rfl (zh.ev rfl) zk) ?_
    refine WL.val _ rfl rfl rfl (fun za zC zh zk => ld_30 rfl (zh.ev rfl) (bkeeps hb9 _ _ (hc17 k (by first | omega | (simp; omega))).2.1) (bkeeps hb9 _ _ (hc17 k (by first | omega | (simp; omega))).2.2.1) zk) ?_
    have hfound : subFind s m = some (dget s k).t := subFind_at (by omega) h18 hne
    have hl22 : g2 < w8.heap.size := by have z1 := hB10.lt; omega
    have hl23 : w.heap.size ≤ w8.heap.size := (hb9).size
    refine WL.call rfl rfl rfl (fun za zh zC => wp_call (by kernel_rfl) rfl (hv1 (zh.ev rfl))) (rcopy_any (dget s k).t _ _ (hs.found hfound) (IsT.below hb9 (InT.isT (hc17 k (by first | omega | (simp; omega))).2.2.2.1))) ?_
    rintro v19 w24 ⟨hn20, hb21⟩
    obtain ⟨_, a25, c26, rfl, _, _, _⟩ := hn20.form
    have hB27 := hB10.below hb21
    refine WL.step (post := fun _ w' => Upd g2 w24 w' ∧ Blk w' g2 30 #[.int .i64 (((dget s k).t).f), .slice a25 (((dget s k).t).args.length) c26]) rfl rfl rfl (fun za zC zh zk => st_30 rfl (zh.ev rfl) (zh.ev rfl) rfl rfl hB27 (by first | decide | simp) (fun v => zk v _ ⟨(Upd.at_ _ _ _ _).trans (Upd.at_ _ _ _ _), (hB27.set_ 0 _).set_ 1 _⟩)) ?_
    rintro v31 w28 ⟨hu29, hB30⟩
    have hb32 : Below w.heap.size w w24 := (bstep hb9 hb21)
    have hb33 := upd_below hb32 hu29 (by omega)
    have ho34 := hn20.upd hu29 (by omega)
    refine WL.asg rfl rfl rfl rfl rfl (WL.nil (WE.next (WC.ret (WE.blockRet (WE.thenRet (WE.thenRet (WE.blockRet (WE.thenRet ?_))))))))
    refine WE.retAny (v := .tuple #[.agg #[.int .i64 (((dget s k).t).f), .slice a25 (((dget s k).t).args.length) c26], .bool true]) (fun za zh => ?_) ?_
    ·have z0 : za.tmps[4]?.getD undef = .pointer (some ⟨g2, 0, none⟩) := by rw [← Array.getD_eq_getD_getElem?]; exact zh.knows 4 _ rfl
     have y0_0 : w28.cell? ⟨g2, 0, none⟩ = some (.int .i64 (((dget s k).t).f)) := ((hB30.cell 0).trans rfl)
     have y0_1 : w28.cell? ⟨g2, 1, none⟩ = some (.slice a25 (((dget s k).t).args.length) c26) := ((hB30.cell 1).trans rfl)
     have z1 : za.tmps[5]?.getD undef = .bool true := by rw [← Array.getD_eq_getD_getElem?]; exact zh.knows 5 _ rfl
     simp [results, Try.results47, z0, y0_0, y0_1, z1, go_sem]
    ·have hgz := (hb9).size
     exact ⟨_, rfl, ⟨_, by (try rw [hfound]); rfl, by (try rw [hfound]); exact (ho34).mono (fun b hb _ => by omega)⟩, hb33⟩
   ·have h18 : ¬ (((dget s k).var : Int) = (m : Int)) := by simpa using h18
    refine WC.skip (WE.blockNormal (WE.next (WC.region (WL.mv rfl rfl rfl rfl rfl ?_))))
    refine WL.val (.int .i64 ((((k + 1) : Nat) : Int))) rfl rfl rfl (fun za zC zh zk => addb_3 rfl (zh.ev rfl) (zh.ev rfl) (wrap_eq (by omega) (by omega) (by omega)) zk) ?_
    refine WL.asg rfl rfl rfl rfl rfl (WL.nil ?_)
    refine WE.round (k + 1) ⟨rfl, rfl, rfl, rfl, trivial⟩ ?_ ?_
    ·exact ⟨by omega, ne_step hne h18, hb9, hB10⟩
    ·omega
  ·have h11 : ¬ ((((k : Nat) : Int) : Int) < (((s.length : Nat) : Int) : Int)) := by simpa using h11
   refine WC.exit (WE.thenExit (WE.thenExit (WE.blockIs rfl (WE.next (WC.seq (WC.region ?_))))))
   refine WL.val (.agg #[.int .i64 0, .slice none 0 0]) rfl rfl rfl (fun za zC zh zk => build_30_ rfl  zk) ?_
   refine WL.step (post := fun _ w' => Upd g2 w8 w' ∧ Blk w' g2 30 #[.int .i64 0, .slice none 0 0]) rfl rfl rfl (fun za zC zh zk => st_30 rfl (zh.ev rfl) (zh.ev rfl) rfl rfl hB10 (by first | decide | simp) (fun v => zk v _ ⟨(Upd.at_ _ _ _ _).trans (Upd.at_ _ _ _ _), (hB10.set_ 0 _).set_ 1 _⟩)) ?_
   rintro v38 w35 ⟨hu36, hB37⟩
   have hb39 := upd_below hb9 hu36 (by omega)
   refine WL.asg rfl rfl rfl rfl rfl (WL.nil (WE.next (WC.ret ?_)))
   refine WE.retAny (v := .tuple #[.agg #[.int .i64 0, .slice none 0 0], .bool false]) (fun za zh => ?_) ?_
   ·have z0 : za.tmps[4]?.getD undef = .pointer (some ⟨g2, 0, none⟩) := by rw [← Array.getD_eq_getD_getElem?]; exact zh.knows 4 _ rfl
    have y0_0 : w35.cell? ⟨g2, 0, none⟩ = some (.int .i64 0) := ((hB37.cell 0).trans rfl)
    have y0_1 : w35.cell? ⟨g2, 1, none⟩ = some (.slice none 0 0) := ((hB37.cell 1).trans rfl)
    have z1 : za.tmps[5]?.getD undef = .bool false := by rw [← Array.getD_eq_getD_getElem?]; exact zh.knows 5 _ rfl
    simp [results, Try.results47, z0, y0_0, y0_1, z1, go_sem]
   ·have hnone : subFind s m = none := subFind_none (fun i h => hne i (by omega))
    exact ⟨_, rfl, ⟨_, by (try rw [hnone]); rfl, by (try rw [hnone]); exact newT_zero _ _⟩, hb39⟩
theorem isSome_true {o : Option T} (h : o.isSome = true) : o = some (o.getD (.mk 0 [])) := by cases o with | none => cases h | some t => rfl
theorem isSome_false {o : Option T} (h : o.isSome = false) : o = none := by cases o with | none => rfl | some t => cases h
set_option maxRecDepth 100000 in
theorem rapply_any (s : List Bd) (sa : Option Addr) (sc : Nat) : ∀ (t : T) (w : World) (v : Value), t.size ≤ 4294967296 → IsT w t v → IsSub w s sa sc → Calls Try.prog 30 #[.slice sa s.length sc, v] w (Ret fun v' w' => NewT w w' (t.app s) v' ∧ Below w.heap.size w w') := by
 refine T.ind (fun f l ih => ?_)
 intro w v hz hv hs
 have hlen := len_le_sizeL l
 have hz' := hz
 simp only [T.size] at hz'
 obtain ⟨hf, a, c, rfl, hc, hmx, hl⟩ := hv
 have hf' := hf
 unfold I64 at hf'
 refine Calls.walk (l := [.slice sa s.length sc, .agg #[.int .i64 f, .slice a l.length c]]) Try.func30 rfl (by kernel_rfl) ?_
 refine WC.sub (K' := [(0, .slice sa s.length sc), (1, .agg #[.int .i64 f, .slice a l.length c])]) ⟨rfl, rfl, trivial⟩ ?_
 refine WC.seq (WC.region ?_)
 refine WL.step (post := NewBlk w 30 #[.int .i64 f, .slice a l.length c]) rfl rfl rfl (fun za zC zh zk => box_30 rfl (zh.ev rfl) (zk _ _ (newBlk _ _ _))) ?_
 rintro _ w1 ⟨g2, rfl, hg3, hB4, hb5, hz6⟩
 have hl7 : w.heap.size ≤ g2 := by omega
 refine WL.step (post := NewBlk w1 30 #[.int .i64 0, .slice none 0 0]) rfl rfl rfl (fun za zC zh zk => alloc_30 rfl (zk _ _ (newBlk _ _ _))) ?_
 rintro _ w8 ⟨g9, rfl, hg10, hB11, hb12, hz13⟩
 have hl14 : g2 < g9 := by have z1 := hB4.lt; omega
 have hl15 : w.heap.size ≤ g9 := by have z2 := (hb5).size; omega
 refine WL.nil (WE.next (WC.seq (WC.seq (WC.region ?_))))
 refine WL.val _ rfl rfl rfl (fun za zC zh zk => fld_30_0 rfl (zh.ev rfl) zk) ?_
 have hB16 := hB4.below hb12
 refine WL.val _ rfl rfl rfl (fun za zC zh zk => ld_3 rfl (zh.ev rfl) ((hB16.cell 0).trans rfl) zk) ?_
 refine WL.val (.bool ((decide ((f : Int) < (0 : Int))))) rfl rfl rfl (fun za zC zh zk => lss_3 rfl (zh.ev rfl) (zh.ev rfl) zk) ?_
 refine WL.nil (WE.next ?_)
 refine WC.cond rfl (fun h17 => ?_) (fun h17 => ?_)
 ·have h17 : (f : Int) < (0 : Int) := by simpa using h17
  refine WC.seq (WC.region (WL.mv rfl rfl rfl rfl rfl ?_))
  refine WL.val _ rfl rfl rfl (fun za zC zh zk => fld_30_0 rfl (zh.ev rfl) zk) ?_
  refine WL.val _ rfl rfl rfl (fun za zC zh zk => ld_3 rfl (zh.ev rfl) ((hB16.cell 0).trans rfl) zk) ?_
  refine WL.val (.int .i64 ((-1 - f))) rfl rfl rfl (fun za zC zh zk => subb_3 rfl (zh.ev rfl) (zh.ev rfl) (wrap_eq rfl (by omega) (by omega)) zk) ?_
  have hb18 : Below w.heap.size w w8 := (bstep hb5 hb12)
  have hl22 : g2 < w8.heap.size := by have z1 := hB16.lt; omega
  have hl23 : g9 < w8.heap.size := by have z1 := hB11.lt; omega
  have hl24 : w.heap.size ≤ w8.heap.size := (hb18).size
  refine WL.call rfl rfl rfl (fun za zh zC => wp_call (by kernel_rfl) rfl (hv2 (zh.ev rfl) (zh.ev rfl))) (rget_any s (-1 - f) _ _ _ (hs.below hb18)) ?_
  rintro _ w25 ⟨⟨u19, rfl, hn20⟩, hb21⟩
  obtain ⟨_, a26, c27, rfl, _, _, _⟩ := hn20.form
  refine WL.mv rfl rfl rfl rfl rfl ?_
  refine WL.val (.agg #[.int .i64 ((((subFind s (-1 - f)).getD (.mk 0 []))).f), .slice a26 ((((subFind s (-1 - f)).getD (.mk 0 []))).args.length) c27]) rfl rfl rfl (fun za zC zh zk => ext2_0 rfl (zh.ev rfl) zk) ?_
  refine WL.val (.bool ((subFind s (-1 - f)).isSome)) rfl rfl rfl (fun za zC zh zk => ext2_1 rfl (zh.ev rfl) zk) ?_
  refine WL.step (post := NewBlk w25 30 #[.int .i64 0, .slice none 0 0]) rfl rfl rfl (fun za zC zh zk => alloc_30 rfl (zk _ _ (newBlk _ _ _))) ?_
  rintro _ w28 ⟨g29, rfl, hg30, hB31, hb32, hz33⟩
  have hl34 : g2 < g29 := by have z1 := hB16.lt; have z2 := (hb21).size; omega
  have hl35 : g9 < g29 := by have z1 := hB11.lt; have z2 := (hb21).size; omega
  have hb36 : Below w.heap.size w w25 := (bstep hb18 hb21)
  have hl37 : w.heap.size ≤ g29 := by have z2 := (hb36).size; omega
  have hl38 : w25.heap.size ≤ g29 := by omega
  refine WL.step (post := fun _ w' => Upd g29 w28 w' ∧ Blk w' g29 30 #[.int .i64 ((((subFind s (-1 - f)).getD (.mk 0 []))).f), .slice a26 ((((subFind s (-1 - f)).getD (.mk 0 []))).args.length) c27]) rfl rfl rfl (fun za zC zh zk => st_30 rfl (zh.ev rfl) (zh.ev rfl) rfl rfl hB31 (by first | decide | simp) (fun v => zk v _ ⟨(Upd.at_ _ _ _ _).trans (Upd.at_ _ _ _ _), (hB31.set_ 0 _).set_ 1 _⟩)) ?_
  rintro v42 w39 ⟨hu40, hB41⟩
  have hb43 : Below w.heap.size w w28 := (bstep hb36 hb32)
  have hb44 := upd_below hb43 hu40 (by omega)
  have hb45 := upd_below hb32 hu40 (by omega)
  have hb47 : Below w8.heap.size w8 w28 := (bstep hb21 hb32)
  have hB46 := hB16.below hb47
  have hB48 := upd_blk hB46 hu40 (by omega)
  have hB49 := hB11.below hb47
  have hB50 := upd_blk hB49 hu40 (by omega)
  refine WL.asg rfl rfl rfl rfl rfl (WL.nil (WE.next (WC.seq (WC.region (WL.mv rfl rfl rfl rfl rfl (WL.nil (WE.next ?_)))))))
  refine WC.cond rfl (fun h51 => ?_) (fun h51 => ?_)
  ·skip
   refine WC.seq (WC.region ?_)
   refine WL.val _ rfl rfl rfl (fun za zC zh zk => ld_30 rfl (zh.ev rfl) ((hB41.cell 0).trans rfl) ((hB41.cell 1).trans rfl) zk) ?_
   refine WL.step (post := fun _ w' => Upd g9 w39 w' ∧ Blk w' g9 30 #[.int .i64 ((((subFind s (-1 - f)).getD (.mk 0 []))).f), .slice a26 ((((subFind s (-1 - f)).getD (.mk 0 []))).args.length) c27]) rfl rfl rfl (fun za zC zh zk => st_30 rfl (zh.ev rfl) (zh.ev rfl) rfl rfl hB50 (by first | decide | simp) (fun v => zk v _ ⟨(Upd.at_ _ _ _ _).trans (Upd.at_ _ _ _ _), (hB50.set_ 0 _).set_ 1 _⟩)) ?_
   rintro v55 w52 ⟨hu53, hB54⟩
   have hb56 := upd_below hb44 hu53 (by omega)
   have hB57 := upd_blk hB48 hu53 (by omega)
   have hB58 := upd_blk hB41 hu53 (by omega)
   have ho59 := hn20.below hb45
   have ho60 := ho59.upd hu53 (by omega)
   refine WL.nil (WE.next (WC.ret (WE.thenRet ?_)))
   refine WE.retAny (v := .agg #[.int .i64 ((((subFind s (-1 - f)).getD (.mk 0 []))).f), .slice a26 ((((subFind s (-1 - f)).getD (.mk 0 []))).args.length) c27]) (fun za zh => ?_) ?_
   ·have z0 : za.tmps[4]?.getD undef = .pointer (some ⟨g9, 0, none⟩) := by rw [← Array.getD_eq_getD_getElem?]; exact zh.knows 4 _ rfl
    have y0 : w52.cell? ⟨g9, 0, none⟩ = some (.int .i64 ((((subFind s (-1 - f)).getD (.mk 0 []))).f)) := ((hB54.cell 0).trans rfl)
    have y1 : w52.cell? ⟨g9, 1, none⟩ = some (.slice a26 ((((subFind s (-1 - f)).getD (.mk 0 []))).args.length) c27) := ((hB54.cell 1).trans rfl)
    simp [results, Try.results30, z0, y0, y1, go_sem]
   ·have hgz := (hb18).size
    exact ⟨_, rfl, by rw [app_some ‹_› (isSome_true h51)]; exact (ho60).mono (fun b hb _ => by omega), hb56⟩
  ·skip
   refine WC.skip (WE.next (WC.seq (WC.region ?_)))
   refine WL.val _ rfl rfl rfl (fun za zC zh zk => fld_30_0 rfl (zh.ev rfl) zk) ?_
   refine WL.val _ rfl rfl rfl (fun za zC zh zk => ld_3 rfl (zh.ev rfl) ((hB48.cell 0).trans rfl) zk) ?_
   refine WL.val (.agg #[.int .i64 f, .slice none 0 0]) rfl rfl rfl (fun za zC zh zk => build_30_0 rfl (zh.ev rfl) zk) ?_
   refine WL.step (post := NewBlk w39 30 #[.int .i64 0, .slice none 0 0]) rfl rfl rfl (fun za zC zh zk => alloc_30 rfl (zk _ _ (newBlk _ _ _))) ?_
   rintro _ w61 ⟨g62, rfl, hg63, hB64, hb65, hz66⟩
   have hl67 : g2 < g62 := by have z1 := hB48.lt; omega
   have hl68 : g9 < g62 := by have z1 := hB50.lt; omega
   have hl69 : g29 < g62 := by have z1 := hB41.lt; omega
   have hl70 : w.heap.size ≤ g62 := by have z2 := (hb44).size; omega
   have hl71 : w25.heap.size ≤ g62 := by have z2 := (hb45).size; omega
   refine WL.step (post := fun _ w' => Upd g62 w61 w' ∧ Blk w' g62 30 #[.int .i64 f, .slice none 0 0]) rfl rfl rfl (fun za zC zh zk => st_30 rfl (zh.ev rfl) (zh.ev rfl) rfl rfl hB64 (by first | decide | simp) (fun v => zk v _ ⟨(Upd.at_ _ _ _ _).trans (Upd.at_ _ _ _ _), (hB64.set_ 0 _).set_ 1 _⟩)) ?_
   rintro v75 w72 ⟨hu73, hB74⟩
   have hb76 : Below w.heap.size w w61 := (bstep hb44 hb65)
   have hb77 : Below w25.heap.size w25 w61 := (bstep hb45 hb65)
   have hb78 := upd_below hb76 hu73 (by omega)
   have hb79 := upd_below hb77 hu73 (by omega)
   have hB80 := hB48.below hb65
   have hB81 := upd_blk hB80 hu73 (by omega)
   have hB82 := hB50.below hb65
   have hB83 := upd_blk hB82 hu73 (by omega)
   have hB84 := hB41.below hb65
   have hB85 := upd_blk hB84 hu73 (by omega)
   refine WL.nil (WE.next (WC.seq (WC.seq (WC.region (WL.asg rfl rfl rfl rfl rfl (WL.nil (WE.next (WC.block ?_))))))))
   have hl86 : g2 < w72.heap.size := by have z1 := hB81.lt; omega
   have hl87 : g9 < w72.heap.size := by have z1 := hB83.lt; omega
   have hl88 : g29 < w72.heap.size := by have z1 := hB85.lt; omega
   have hl89 : g62 < w72.heap.size := by have z1 := hB74.lt; omega
   have hl90 : w.heap.size ≤ w72.heap.size := (hb78).size
   have hR91 : RowE eltT w72 w72.heap.size 30 none 0 0 [] := RowE.nil
   refine WC.loop (X := Option Addr × Nat × Nat) (fun x => l.length - x.2.2) (fun x => [(0, .slice sa s.length sc), (1, .agg #[.int .i64 f, .slice a l.length c]), (3, .pointer (some ⟨g2, 0, none⟩)), (4, .pointer (some ⟨g9, 0, none⟩)), (5, .pointer (some ⟨g29, 0, none⟩)), (6, .bool ((subFind s (-1 - f)).isSome)), (7, .pointer (some ⟨g62, 0, none⟩)), (8, .int .i64 (((x.2.2 : Nat) : Int))), (11, .bool ((decide ((f : Int) < (0 : Int))))), (20, .bool ((subFind s (-1 - f)).isSome))]) (fun x w92 => x.2.2 ≤ l.length ∧ w72.heap.size ≤ (w92).heap.size ∧ Below w.heap.size w w92 ∧ Blk w92 g2 30 #[.int .i64 f, .slice a l.length c] ∧ Blk w92 g9 30 #[.int .i64 0, .slice none 0 0] ∧ Blk w92 g29 30 #[.int .i64 ((((subFind s (-1 - f)).getD (.mk 0 []))).f), .slice a26 ((((subFind s (-1 - f)).getD (.mk 0 []))).args.length) c27] ∧ Blk w92 g62 30 #[.int .i64 f, .slice x.1 x.2.2 x.2.1] ∧ RowE eltT (w92) w72.heap.size 30 x.1 x.2.1 x.2.2 ((l.take x.2.2).map (T.app s))) ((none, 0, 0)) ⟨rfl, rfl, rfl, rfl, rfl, rfl, rfl, rfl, rfl, rfl, trivial⟩ ?_ ?_
   ·exact ⟨Nat.zero_le _, Nat.le_refl _, hb78, hB81, hB83, hB85, hB74, (by simpa using hR91)⟩
   ·rintro x w92 ⟨hk, hBw, hb93, hB94, hB95, hB96, hB97, ho98⟩
    refine WC.seq (WC.seq (WC.region (WL.mv rfl rfl rfl rfl rfl ?_)))
    refine WL.val _ rfl rfl rfl (fun za zC zh zk => fld_30_1 rfl (zh.ev rfl) zk) ?_
    refine WL.val _ rfl rfl rfl (fun za zC zh zk => ld_28 rfl (zh.ev rfl) ((hB94.cell 1).trans rfl) zk) ?_
    refine WL.val (.int .i64 (((l.length : Nat) : Int))) rfl rfl rfl (fun za zC zh zk => len_28 rfl (zh.ev rfl) zk) ?_
    refine WL.val (.bool ((decide ((((x.2.2 : Nat) : Int) : Int) < (((l.length : Nat) : Int) : Int))))) rfl rfl rfl (fun za zC zh zk => lss_3 rfl (zh.ev rfl) (zh.ev rfl) zk) ?_
    refine WL.nil (WE.next ?_)
    refine WC.cond rfl (fun h99 => ?_) (fun h99 => ?_)
    ·have h99 : (((x.2.2 : Nat) : Int) : Int) < (((l.length : Nat) : Int) : Int) := by simpa using h99
     refine WC.skip (WE.next (WC.seq (WC.block ?_)))
     obtain ⟨b100, o101, A102, C103, ha104, hc105⟩ := IsTs.open hl
     have hSlt : ∀ b, (fun b => b = g62 ∨ (Value.slice x.1 x.2.2 x.2.1).ownBlock = some b) b → b < w92.heap.size := fun b h => h.elim (fun e => e ▸ hB97.lt) (fun h => (ho98.lt b h).2)
     have hSlo : ∀ b, (fun b => b = g62 ∨ (Value.slice x.1 x.2.2 x.2.1).ownBlock = some b) b → b = g62 ∨ (w72.heap.size ≤ b ∧ b < w92.heap.size) := fun b h => h.imp id (fun h => ho98.lt b h)
     have hBW : w72.heap.size ≤ w92.heap.size := by have z1 := hBw; omega
     have hlL : x.2.2 = (((l.take x.2.2).map (T.app s))).length := ho98.len
     refine WC.tail2 (S := ((fun b => b = g62 ∨ (Value.slice x.1 x.2.2 x.2.1).ownBlock = some b))) [(true, .val (.pointer (some ⟨g62, 1, none⟩))), (true, .val (.slice x.1 x.2.2 x.2.1)), (true, .val (.slice sa s.length sc)), (true, .val (.pointer (some ⟨g2, 1, none⟩))), (true, .val (.slice a l.length c)), (true, .val (.int .i64 (((x.2.2 : Nat) : Int)))), (true, .val (.pointer (some ⟨b100, o101 + x.2.2 * 2, none⟩))), (true, .val (.agg #[.int .i64 ((tget l x.2.2).f), .slice ((A102 x.2.2)) ((tget l x.2.2).args.length) ((C103 x.2.2))])), (true, .mem (fun v w' => NewT w92 w' (((tget l x.2.2).app s)) v) (fun v w w' hc h => InT.chg h hc (fun b hb hs => by have z := hSlt b hs; omega))), (true, .mem (fun v w' => OneRow eltT w92 30 (((tget l x.2.2).app s)) v w') (fun v w w' hc h => h.chg hc hSlt)), (true, .val undef), (true, .val (.pointer (some ⟨g62, 1, none⟩))), (true, .val undef)] [(0, .slice sa s.length sc), (1, .agg #[.int .i64 f, .slice a l.length c]), (3, .pointer (some ⟨g2, 0, none⟩)), (4, .pointer (some ⟨g9, 0, none⟩)), (5, .pointer (some ⟨g29, 0, none⟩)), (6, .bool ((subFind s (-1 - f)).isSome)), (7, .pointer (some ⟨g62, 0, none⟩)), (8, .int .i64 (((x.2.2 : Nat) : Int))), (11, .bool ((decide ((f : Int) < (0 : Int))))), (20, .bool ((subFind s (-1 - f)).isSome)), (29, .bool ((decide ((((x.2.2 : Nat) : Int) : Int) < (((l.length : Nat) : Int) : Int)))))] 10 12 ((x.2.2 + 1)) 42 (fun ra rc wz => RowE eltT wz w72.heap.size 30 ra rc (x.2.2 + 1) (((l.take x.2.2).map (T.app s) ++ [((tget l x.2.2).app s)])) ∧ Blk wz g62 30 #[.int .i64 f, .slice x.1 x.2.2 x.2.1]) (fun ra rc wz => RowE eltT wz w72.heap.size 30 ra rc (x.2.2 + 1) (((l.take x.2.2).map (T.app s) ++ [((tget l x.2.2).app s)])) ∧ Blk wz g62 30 #[.int .i64 f, .slice ra ((x.2.2 + 1)) rc]) (by decide) (fun ra rc w w' hb h => ⟨h.1.below hb, h.2.below hb⟩) (fun ra rc w w' hb h => ⟨h.1.below hb, h.2.below hb⟩) ⟨rfl, rfl, rfl, rfl, rfl, rfl, rfl, rfl, rfl, rfl, rfl, trivial⟩ (by kernel_rfl) (by kernel_rfl) (by kernel_rfl) (by kernel_rfl) (by kernel_rfl) ?_ ?_
     ·refine ⟨.inl ⟨rfl, true, .none rfl, (fun gg b h => by cases h), fun h w => optUndef h, fun zβ za zw zc => ?_⟩, ?_⟩
      ·exact fld_30_1 rfl (zc.kn.ev rfl) ⟨_, rfl, Below.refl _ _, optDef zβ rfl⟩
      refine ⟨.inl ⟨rfl, true, .none rfl, (fun gg b h => by cases h), fun h w => optUndef h, fun zβ za zw zc => ?_⟩, ?_⟩
      ·exact ld_28 rfl ((evt za 32).trans (optSVal (zc.dep 0 32 (by kernel_rfl) (by decide)) rfl rfl)) (bkeeps (zc.early (by kernel_rfl)) _ _ ((hB97.cell 1).trans rfl)) ⟨_, rfl, Below.refl _ _, optDef zβ rfl⟩
      refine ⟨.inl ⟨rfl, true, .none rfl, (fun gg b h => by cases h), fun h w => optUndef h, fun zβ za zw zc => ?_⟩, ?_⟩
      ·exact wp_move rfl (zc.kn.ev rfl) ⟨_, rfl, Below.refl _ _, optDef zβ rfl⟩
      refine ⟨.inl ⟨rfl, true, .none rfl, (fun gg b h => by cases h), fun h w => optUndef h, fun zβ za zw zc => ?_⟩, ?_⟩
      ·exact fld_30_1 rfl (zc.kn.ev rfl) ⟨_, rfl, Below.refl _ _, optDef zβ rfl⟩
      refine ⟨.inl ⟨rfl, true, .none rfl, (fun gg b h => by cases h), fun h w => optUndef h, fun zβ za zw zc => ?_⟩, ?_⟩
      ·exact ld_28 rfl ((evt za 35).trans (optSVal (zc.dep 3 35 (by kernel_rfl) (by decide)) rfl rfl)) (bkeeps (zc.early (by kernel_rfl)) _ _ ((hB94.cell 1).trans rfl)) ⟨_, rfl, Below.refl _ _, optDef zβ rfl⟩
      refine ⟨.inl ⟨rfl, true, .none rfl, (fun gg b h => by cases h), fun h w => optUndef h, fun zβ za zw zc => ?_⟩, ?_⟩
      ·exact wp_move rfl (zc.kn.ev rfl) ⟨_, rfl, Below.refl _ _, optDef zβ rfl⟩
      refine ⟨.inl ⟨rfl, true, .none rfl, (fun gg b h => by cases h), fun h w => optUndef h, fun zβ za zw zc => ?_⟩, ?_⟩
      ·exact ix_28 (k := x.2.2) rfl ((evt za 36).trans (optSVal (zc.dep 4 36 (by kernel_rfl) (by decide)) rfl rfl)) (ha104 x.2.2 (by first | omega | (simp; omega))) ((evt za 37).trans (optSVal (zc.dep 5 37 (by kernel_rfl) (by decide)) rfl rfl)) (by first | omega | (simp; omega)) ⟨_, rfl, Below.refl _ _, optDef zβ rfl⟩
      refine ⟨.inl ⟨rfl, true, .none rfl, (fun gg b h => by cases h), fun h w => optUndef h, fun zβ za zw zc => ?_⟩, ?_⟩
      ·exact ld_30 rfl ((evt za 38).trans (optSVal (zc.dep 6 38 (by kernel_rfl) (by decide)) rfl rfl)) (bkeeps (bstep hb93 (zc.early (by kernel_rfl))) _ _ (hc105 x.2.2 (by first | omega | (simp; omega))).1) (bkeeps (bstep hb93 (zc.early (by kernel_rfl))) _ _ (hc105 x.2.2 (by first | omega | (simp; omega))).2.1) ⟨_, rfl, Below.refl _ _, optDef zβ rfl⟩
      refine ⟨.inl ⟨rfl, true, .none rfl, (fun gg b h => by cases h), fun h w => optUndef h, fun zβ za zw zc => ?_⟩, ?_⟩
      ·exact wp_call (by kernel_rfl) rfl (hv2 ((evt za 34).trans (optSVal (zc.dep 2 34 (by kernel_rfl) (by decide)) rfl rfl)) ((evt za 39).trans (optSVal (zc.dep 7 39 (by kernel_rfl) (by decide)) rfl rfl))) (ih _ (tget_mem (by omega)) _ _ (size_at (by omega) hz) (IsT.below (bstep hb93 (zc.early (by kernel_rfl))) (hc105 x.2.2 (by first | omega | (simp; omega))).2.2) (hs.below (bstep hb93 (zc.early (by kernel_rfl))))) (fun v w' h => ⟨v, rfl, h.2, optDef zβ (InT.mono (fun b hb _ => Nat.le_trans (zc.early (by kernel_rfl)).size hb) h.1)⟩)
      refine ⟨.inl ⟨rfl, true, .none rfl, (fun gg b h => by cases h), fun h w => optUndef h, fun zβ za zw zc => ?_⟩, ?_⟩
      ·have zv := (optSMem (zc.dep 8 40 (by kernel_rfl) (by decide)) rfl rfl)
       obtain ⟨_, a1, c1, e1, _⟩ := zv.form
       rw [e1] at zv
       exact row_28_1 rfl ((evt za 40).trans e1) ⟨_, rfl, balloc _ _, optDef zβ ⟨_, _, rfl, zc.chg.size, Blk.new' rfl, _, _, rfl, zv.below (balloc _ _)⟩⟩
      refine ⟨.inr (.inl ⟨rfl, rfl, fun za zw zc => ?_⟩), ?_⟩
      ·obtain ⟨g1, cs, e1, hg1, hB1, hin⟩ := (optSMem (zc.dep 9 41 (by kernel_rfl) (by decide)) rfl rfl)
       exact wp_appE (E := eltT) (size := 2) (bytes := 32) (z := .agg #[.int .i64 0, .slice none 0 0]) rfl Try.underlying28 (by kernel_rfl) rfl (by decide) rfl ((evt za 33).trans (optSVal (zc.dep 1 33 (by kernel_rfl) (by decide)) rfl rfl)) ((evt za 41).trans e1) (ho98.below zc.below) hB1 (eltT.mono (fun b hb _ => ⟨by omega, fun e => by have z := (ho98.lt b e).2; omega⟩) hin) (by omega) (by omega) (by have z := zc.below.size; omega) (fun ra rc w' h1 h2 _ => ⟨ra, rc, rfl, ⟨h1, chg_blk (hB97.below zc.below) h2 (fun e => by have z := (ho98.lt _ e).1; omega)⟩, h2.mono (fun b hb => .inr hb)⟩)
      refine ⟨.inl ⟨rfl, true, .none rfl, (fun gg b h => by cases h), fun h w => optUndef h, fun zβ za zw zc => ?_⟩, ?_⟩
      ·exact fld_30_1 rfl (zc.kn.ev rfl) ⟨_, rfl, Below.refl _ _, optDef zβ rfl⟩
      refine ⟨.inr (.inr ⟨rfl, rfl, 42, by kernel_rfl, fun za zw ra rc zk zd zv zg => ?_⟩), ?_⟩
      ·exact st_28 rfl ((evt za 43).trans (optSVal (zd 11 43 (by kernel_rfl) (by decide)) rfl rfl)) ((evt za 42).trans zv) zg.2 (by first | decide | simp) (fun v => ⟨v, rfl, ⟨zg.1.upd (Upd.at_ _ _ _ _) (by omega), zg.2.set_ 1 _⟩, .ofUpd (Upd.at_ _ _ _ _) (.inl rfl)⟩)
      exact trivial
     ·intro za w106 ra109 rc110 zh zv hG107 hc108 zu
      have hb111 := chg_below hb93 hc108 (fun b hb => (fun h => by rcases hSlo _ h with h | h <;> omega))
      have hB112 := chg_blk hB94 hc108 (fun h => by rcases hSlo _ h with h | h <;> omega)
      have hB113 := chg_blk hB95 hc108 (fun h => by rcases hSlo _ h with h | h <;> omega)
      have hB114 := chg_blk hB96 hc108 (fun h => by rcases hSlo _ h with h | h <;> omega)
      clear zu
      refine WE.go zh ?_
      refine WE.blockNormal (WE.next (WC.region (WL.mv rfl rfl rfl rfl rfl ?_)))
      refine WL.val (.int .i64 ((((x.2.2 + 1) : Nat) : Int))) rfl rfl rfl (fun za zC zh zk => addb_3 rfl (zh.ev rfl) (zh.ev rfl) (wrap_eq (by omega) (by omega) (by omega)) zk) ?_
      refine WL.asg rfl rfl rfl rfl rfl (WL.nil ?_)
      refine WE.round ((ra109, rc110, x.2.2 + 1)) ⟨rfl, rfl, rfl, rfl, rfl, rfl, rfl, rfl, rfl, rfl, trivial⟩ ?_ ?_
      ·exact ⟨by (try dsimp only at *); omega, (Nat.le_trans hBw hc108.size), hb111, hB112, hB113, hB114, hG107.2, (by rw [← take_map (by (try dsimp only at *); omega)]; exact hG107.1)⟩
      ·dsimp only; omega
    ·have h99 : ¬ ((((x.2.2 : Nat) : Int) : Int) < (((l.length : Nat) : Int) : Int)) := by simpa using h99
     refine WC.exit (WE.thenExit (WE.thenExit (WE.blockIs rfl (WE.next (WC.seq (WC.region ?_))))))
     refine WL.val _ rfl rfl rfl (fun za zC zh zk => ld_30 rfl (zh.ev rfl) ((hB97.cell 0).trans rfl) ((hB97.cell 1).trans rfl) zk) ?_
     refine WL.step (post := fun _ w' => Upd g9 w92 w' ∧ Blk w' g9 30 #[.int .i64 f, .slice x.1 x.2.2 x.2.1]) rfl rfl rfl (fun za zC zh zk => st_30 rfl (zh.ev rfl) (zh.ev rfl) rfl rfl hB95 (by first | decide | simp) (fun v => zk v _ ⟨(Upd.at_ _ _ _ _).trans (Upd.at_ _ _ _ _), (hB95.set_ 0 _).set_ 1 _⟩)) ?_
     rintro v118 w115 ⟨hu116, hB117⟩
     have hb119 := upd_below hb93 hu116 (by omega)
     have hB120 := upd_blk hB94 hu116 (by omega)
     have hB121 := upd_blk hB96 hu116 (by omega)
     have hB122 := upd_blk hB97 hu116 (by omega)
     have ho123 := ho98.upd hu116 (by omega)
     refine WL.nil (WE.next (WC.ret ?_))
     refine WE.retAny (v := .agg #[.int .i64 f, .slice x.1 x.2.2 x.2.1]) (fun za zh => ?_) ?_
     ·have z0 : za.tmps[4]?.getD undef = .pointer (some ⟨g9, 0, none⟩) := by rw [← Array.getD_eq_getD_getElem?]; exact zh.knows 4 _ rfl
      have y0 : w115.cell? ⟨g9, 0, none⟩ = some (.int .i64 f) := ((hB117.cell 0).trans rfl)
      have y1 : w115.cell? ⟨g9, 1, none⟩ = some (.slice x.1 x.2.2 x.2.1) := ((hB117.cell 1).trans rfl)
      simp [results, Try.results30, z0, y0, y1, go_sem]
     ·have z := ho123
      rw [List.take_of_length_le (by omega)] at z
      exact ⟨_, rfl, by rw [app_none (fun _ => isSome_false h51)]; exact newT_row hf z (by omega), hb119⟩
 ·have h17 : ¬ ((f : Int) < (0 : Int)) := by simpa using h17
  refine WC.skip (WE.next (WC.seq (WC.region ?_)))
  refine WL.val _ rfl rfl rfl (fun za zC zh zk => fld_30_0 rfl (zh.ev rfl) zk) ?_
  refine WL.val _ rfl rfl rfl (fun za zC zh zk => ld_3 rfl (zh.ev rfl) ((hB16.cell 0).trans rfl) zk) ?_
  refine WL.val (.agg #[.int .i64 f, .slice none 0 0]) rfl rfl rfl (fun za zC zh zk => build_30_0 rfl (zh.ev rfl) zk) ?_
  refine WL.step (post := NewBlk w8 30 #[.int .i64 0, .slice none 0 0]) rfl rfl rfl (fun za zC zh zk => alloc_30 rfl (zk _ _ (newBlk _ _ _))) ?_
  rintro _ w124 ⟨g125, rfl, hg126, hB127, hb128, hz129⟩
  have hl130 : g2 < g125 := by have z1 := hB16.lt; omega
  have hl131 : g9 < g125 := by have z1 := hB11.lt; omega
  have hb132 : Below w.heap.size w w8 := (bstep hb5 hb12)
  have hl133 : w.heap.size ≤ g125 := by have z2 := (hb132).size; omega
  refine WL.step (post := fun _ w' => Upd g125 w124 w' ∧ Blk w' g125 30 #[.int .i64 f, .slice none 0 0]) rfl rfl rfl (fun za zC zh zk => st_30 rfl (zh.ev rfl) (zh.ev rfl) rfl rfl hB127 (by first | decide | simp) (fun v => zk v _ ⟨(Upd.at_ _ _ _ _).trans (Upd.at_ _ _ _ _), (hB127.set_ 0 _).set_ 1 _⟩)) ?_
  rintro v137 w134 ⟨hu135, hB136⟩
  have hb138 : Below w.heap.size w w124 := (bstep hb132 hb128)
  have hb139 := upd_below hb138 hu135 (by omega)
  have hB140 := hB16.below hb128
  have hB141 := upd_blk hB140 hu135 (by omega)
  have hB142 := hB11.below hb128
  have hB143 := upd_blk hB142 hu135 (by omega)
  refine WL.nil (WE.next (WC.seq (WC.seq (WC.region (WL.asg rfl rfl rfl rfl rfl (WL.nil (WE.next (WC.block ?_))))))))
  have hl144 : g2 < w134.heap.size := by have z1 := hB141.lt; omega
  have hl145 : g9 < w134.heap.size := by have z1 := hB143.lt; omega
  have hl146 : g125 < w134.heap.size := by have z1 := hB136.lt; omega
  have hl147 : w.heap.size ≤ w134.heap.size := (hb139).size
  have hR148 : RowE eltT w134 w134.heap.size 30 none 0 0 [] := RowE.nil
  refine WC.loop (X := Option Addr × Nat × Nat) (fun x => l.length - x.2.2) (fun x => [(0, .slice sa s.length sc), (1, .agg #[.int .i64 f, .slice a l.length c]), (3, .pointer (some ⟨g2, 0, none⟩)), (4, .pointer (some ⟨g9, 0, none⟩)), (7, .pointer (some ⟨g125, 0, none⟩)), (8, .int .i64 (((x.2.2 : Nat) : Int))), (11, .bool ((decide ((f : Int) < (0 : Int)))))]) (fun x w149 => x.2.2 ≤ l.length ∧ w134.heap.size ≤ (w149).heap.size ∧ Below w.heap.size w w149 ∧ Blk w149 g2 30 #[.int .i64 f, .slice a l.length c] ∧ Blk w149 g9 30 #[.int .i64 0, .slice none 0 0] ∧ Blk w149 g125 30 #[.int .i64 f, .slice x.1 x.2.2 x.2.1] ∧ RowE eltT (w149) w134.heap.size 30 x.1 x.2.1 x.2.2 ((l.take x.2.2).map (T.app s))) ((none, 0, 0)) ⟨rfl, rfl, rfl, rfl, rfl, rfl, rfl, trivial⟩ ?_ ?_
  ·exact ⟨Nat.zero_le _, Nat.le_refl _, hb139, hB141, hB143, hB136, (by simpa using hR148)⟩
  ·rintro x w149 ⟨hk, hBw, hb150, hB151, hB152, hB153, ho154⟩
   refine WC.seq (WC.seq (WC.region (WL.mv rfl rfl rfl rfl rfl ?_)))
   refine WL.val _ rfl rfl rfl (fun za zC zh zk => fld_30_1 rfl (zh.ev rfl) zk) ?_
   refine WL.val _ rfl rfl rfl (fun za zC zh zk => ld_28 rfl (zh.ev rfl) ((hB151.cell 1).trans rfl) zk) ?_
   refine WL.val (.int .i64 (((l.length : Nat) : Int))) rfl rfl rfl (fun za zC zh zk => len_28 rfl (zh.ev rfl) zk) ?_
   refine WL.val (.bool ((decide ((((x.2.2 : Nat) : Int) : Int) < (((l.length : Nat) : Int) : Int))))) rfl rfl rfl (fun za zC zh zk => lss_3 rfl (zh.ev rfl) (zh.ev rfl) zk) ?_
   refine WL.nil (WE.next ?_)
   refine WC.cond rfl (fun h155 => ?_) (fun h155 => ?_)
   ·have h155 : (((x.2.2 : Nat) : Int) : Int) < (((l.length : Nat) : Int) : Int) := by simpa using h155
    refine WC.skip (WE.next (WC.seq (WC.block ?_)))
    obtain ⟨b156, o157, A158, C159, ha160, hc161⟩ := IsTs.open hl
    have hSlt : ∀ b, (fun b => b = g125 ∨ (Value.slice x.1 x.2.2 x.2.1).ownBlock = some b) b → b < w149.heap.size := fun b h => h.elim (fun e => e ▸ hB153.lt) (fun h => (ho154.lt b h).2)
    have hSlo : ∀ b, (fun b => b = g125 ∨ (Value.slice x.1 x.2.2 x.2.1).ownBlock = some b) b → b = g125 ∨ (w134.heap.size ≤ b ∧ b < w149.heap.size) := fun b h => h.imp id (fun h => ho154.lt b h)
    have hBW : w134.heap.size ≤ w149.heap.size := by have z1 := hBw; omega
    have hlL : x.2.2 = (((l.take x.2.2).map (T.app s))).length := ho154.len
    refine WC.tail2 (S := ((fun b => b = g125 ∨ (Value.slice x.1 x.2.2 x.2.1).ownBlock = some b))) [(true, .val (.pointer (some ⟨g125, 1, none⟩))), (true, .val (.slice x.1 x.2.2 x.2.1)), (true, .val (.slice sa s.length sc)), (true, .val (.pointer (some ⟨g2, 1, none⟩))), (true, .val (.slice a l.length c)), (true, .val (.int .i64 (((x.2.2 : Nat) : Int)))), (true, .val (.pointer (some ⟨b156, o157 + x.2.2 * 2, none⟩))), (true, .val (.agg #[.int .i64 ((tget l x.2.2).f), .slice ((A158 x.2.2)) ((tget l x.2.2).args.length) ((C159 x.2.2))])), (true, .mem (fun v w' => NewT w149 w' (((tget l x.2.2).app s)) v) (fun v w w' hc h => InT.chg h hc (fun b hb hs => by have z := hSlt b hs; omega))), (true, .mem (fun v w' => OneRow eltT w149 30 (((tget l x.2.2).app s)) v w') (fun v w w' hc h => h.chg hc hSlt)), (true, .val undef), (true, .val (.pointer (some ⟨g125, 1, none⟩))), (true, .val undef)] [(0, .slice sa s.length sc), (1, .agg #[.int .i64 f, .slice a l.length c]), (3, .pointer (some ⟨g2, 0, none⟩)), (4, .pointer (some ⟨g9, 0, none⟩)), (7, .pointer (some ⟨g125, 0, none⟩)), (8, .int .i64 (((x.2.2 : Nat) : Int))), (11, .bool ((decide ((f : Int) < (0 : Int))))), (29, .bool ((decide ((((x.2.2 : Nat) : Int) : Int) < (((l.length : Nat) : Int) : Int)))))] 10 12 ((x.2.2 + 1)) 42 (fun ra rc wz => RowE eltT wz w134.heap.size 30 ra rc (x.2.2 + 1) (((l.take x.2.2).map (T.app s) ++ [((tget l x.2.2).app s)])) ∧ Blk wz g125 30 #[.int .i64 f, .slice x.1 x.2.2 x.2.1]) (fun ra rc wz => RowE eltT wz w134.heap.size 30 ra rc (x.2.2 + 1) (((l.take x.2.2).map (T.app s) ++ [((tget l x.2.2).app s)])) ∧ Blk wz g125 30 #[.int .i64 f, .slice ra ((x.2.2 + 1)) rc]) (by decide) (fun ra rc w w' hb h => ⟨h.1.below hb, h.2.below hb⟩) (fun ra rc w w' hb h => ⟨h.1.below hb, h.2.below hb⟩) ⟨rfl, rfl, rfl, rfl, rfl, rfl, rfl, rfl, trivial⟩ (by kernel_rfl) (by kernel_rfl) (by kernel_rfl) (by kernel_rfl) (by kernel_rfl) ?_ ?_
    ·refine ⟨.inl ⟨rfl, true, .none rfl, (fun gg b h => by cases h), fun h w => optUndef h, fun zβ za zw zc => ?_⟩, ?_⟩
     ·exact fld_30_1 rfl (zc.kn.ev rfl) ⟨_, rfl, Below.refl _ _, optDef zβ rfl⟩
     refine ⟨.inl ⟨rfl, true, .none rfl, (fun gg b h => by cases h), fun h w => optUndef h, fun zβ za zw zc => ?_⟩, ?_⟩
     ·exact ld_28 rfl ((evt za 32).trans (optSVal (zc.dep 0 32 (by kernel_rfl) (by decide)) rfl rfl)) (bkeeps (zc.early (by kernel_rfl)) _ _ ((hB153.cell 1).trans rfl)) ⟨_, rfl, Below.refl _ _, optDef zβ rfl⟩
     refine ⟨.inl ⟨rfl, true, .none rfl, (fun gg b h => by cases h), fun h w => optUndef h, fun zβ za zw zc => ?_⟩, ?_⟩
     ·exact wp_move rfl (zc.kn.ev rfl) ⟨_, rfl, Below.refl _ _, optDef zβ rfl⟩
     refine ⟨.inl ⟨rfl, true, .none rfl, (fun gg b h => by cases h), fun h w => optUndef h, fun zβ za zw zc => ?_⟩, ?_⟩
     ·exact fld_30_1 rfl (zc.kn.ev rfl) ⟨_, rfl, Below.refl _ _, optDef zβ rfl⟩
     refine ⟨.inl ⟨rfl, true, .none rfl, (fun gg b h => by cases h), fun h w => optUndef h, fun zβ za zw zc => ?_⟩, ?_⟩
     ·exact ld_28 rfl ((evt za 35).trans (optSVal (zc.dep 3 35 (by kernel_rfl) (by decide)) rfl rfl)) (bkeeps (zc.early (by kernel_rfl)) _ _ ((hB151.cell 1).trans rfl)) ⟨_, rfl, Below.refl _ _, optDef zβ rfl⟩
     refine ⟨.inl ⟨rfl, true, .none rfl, (fun gg b h => by cases h), fun h w => optUndef h, fun zβ za zw zc => ?_⟩, ?_⟩
     ·exact wp_move rfl (zc.kn.ev rfl) ⟨_, rfl, Below.refl _ _, optDef zβ rfl⟩
     refine ⟨.inl ⟨rfl, true, .none rfl, (fun gg b h => by cases h), fun h w => optUndef h, fun zβ za zw zc => ?_⟩, ?_⟩
     ·exact ix_28 (k := x.2.2) rfl ((evt za 36).trans (optSVal (zc.dep 4 36 (by kernel_rfl) (by decide)) rfl rfl)) (ha160 x.2.2 (by first | omega | (simp; omega))) ((evt za 37).trans (optSVal (zc.dep 5 37 (by kernel_rfl) (by decide)) rfl rfl)) (by first | omega | (simp; omega)) ⟨_, rfl, Below.refl _ _, optDef zβ rfl⟩
     refine ⟨.inl ⟨rfl, true, .none rfl, (fun gg b h => by cases h), fun h w => optUndef h, fun zβ za zw zc => ?_⟩, ?_⟩
     ·exact ld_30 rfl ((evt za 38).trans (optSVal (zc.dep 6 38 (by kernel_rfl) (by decide)) rfl rfl)) (bkeeps (bstep hb150 (zc.early (by kernel_rfl))) _ _ (hc161 x.2.2 (by first | omega | (simp; omega))).1) (bkeeps (bstep hb150 (zc.early (by kernel_rfl))) _ _ (hc161 x.2.2 (by first | omega | (simp; omega))).2.1) ⟨_, rfl, Below.refl _ _, optDef zβ rfl⟩
     refine ⟨.inl ⟨rfl, true, .none rfl, (fun gg b h => by cases h), fun h w => optUndef h, fun zβ za zw zc => ?_⟩, ?_⟩
     ·exact wp_call (by kernel_rfl) rfl (hv2 ((evt za 34).trans (optSVal (zc.dep 2 34 (by kernel_rfl) (by decide)) rfl rfl)) ((evt za 39).trans (optSVal (zc.dep 7 39 (by kernel_rfl) (by decide)) rfl rfl))) (ih _ (tget_mem (by omega)) _ _ (size_at (by omega) hz) (IsT.below (bstep hb150 (zc.early (by kernel_rfl))) (hc161 x.2.2 (by first | omega | (simp; omega))).2.2) (hs.below (bstep hb150 (zc.early (by kernel_rfl))))) (fun v w' h => ⟨v, rfl, h.2, optDef zβ (InT.mono (fun b hb _ => Nat.le_trans (zc.early (by kernel_rfl)).size hb) h.1)⟩)
     refine ⟨.inl ⟨rfl, true, .none rfl, (fun gg b h => by cases h), fun h w => optUndef h, fun zβ za zw zc => ?_⟩, ?_⟩
     ·have zv := (optSMem (zc.dep 8 40 (by kernel_rfl) (by decide)) rfl rfl)
      obtain ⟨_, a1, c1, e1, _⟩ := zv.form
      rw [e1] at zv
      exact row_28_1 rfl ((evt za 40).trans e1) ⟨_, rfl, balloc _ _, optDef zβ ⟨_, _, rfl, zc.chg.size, Blk.new' rfl, _, _, rfl, zv.below (balloc _ _)⟩⟩
     refine ⟨.inr (.inl ⟨rfl, rfl, fun za zw zc => ?_⟩), ?_⟩
     ·obtain ⟨g1, cs, e1, hg1, hB1, hin⟩ := (optSMem (zc.dep 9 41 (by kernel_rfl) (by decide)) rfl rfl)
      exact wp_appE (E := eltT) (size := 2) (bytes := 32) (z := .agg #[.int .i64 0, .slice none 0 0]) rfl Try.underlying28 (by kernel_rfl) rfl (by decide) rfl ((evt za 33).trans (optSVal (zc.dep 1 33 (by kernel_rfl) (by decide)) rfl rfl)) ((evt za 41).trans e1) (ho154.below zc.below) hB1 (eltT.mono (fun b hb _ => ⟨by omega, fun e => by have z := (ho154.lt b e).2; omega⟩) hin) (by omega) (by omega) (by have z := zc.below.size; omega) (fun ra rc w' h1 h2 _ => ⟨ra, rc, rfl, ⟨h1, chg_blk (hB153.below zc.below) h2 (fun e => by have z := (ho154.lt _ e).1; omega)⟩, h2.mono (fun b hb => .inr hb)⟩)
     refine ⟨.inl ⟨rfl, true, .none rfl, (fun gg b h => by cases h), fun h w => optUndef h, fun zβ za zw zc => ?_⟩, ?_⟩
     ·exact fld_30_1 rfl (zc.kn.ev rfl) ⟨_, rfl, Below.refl _ _, optDef zβ rfl⟩
     refine ⟨.inr (.inr ⟨rfl, rfl, 42, by kernel_rfl, fun za zw ra rc zk zd zv zg => ?_⟩), ?_⟩
     ·exact st_28 rfl ((evt za 43).trans (optSVal (zd 11 43 (by kernel_rfl) (by decide)) rfl rfl)) ((evt za 42).trans zv) zg.2 (by first | decide | simp) (fun v => ⟨v, rfl, ⟨zg.1.upd (Upd.at_ _ _ _ _) (by omega), zg.2.set_ 1 _⟩, .ofUpd (Upd.at_ _ _ _ _) (.inl rfl)⟩)
     exact trivial
    ·intro za w162 ra165 rc166 zh zv hG163 hc164 zu
     have hb167 := chg_below hb150 hc164 (fun b hb => (fun h => by rcases hSlo _ h with h | h <;> omega))
     have hB168 := chg_blk hB151 hc164 (fun h => by rcases hSlo _ h with h | h <;> omega)
     have hB169 := chg_blk hB152 hc164 (fun h => by rcases hSlo _ h with h | h <;> omega)
     clear zu
     refine WE.go zh ?_
     refine WE.blockNormal (WE.next (WC.region (WL.mv rfl rfl rfl rfl rfl ?_)))
     refine WL.val (.int .i64 ((((x.2.2 + 1) : Nat) : Int))) rfl rfl rfl (fun za zC zh zk => addb_3 rfl (zh.ev rfl) (zh.ev rfl) (wrap_eq (by omega) (by omega) (by omega)) zk) ?_
     refine WL.asg rfl rfl rfl rfl rfl (WL.nil ?_)
     refine WE.round ((ra165, rc166, x.2.2 + 1)) ⟨rfl, rfl, rfl, rfl, rfl, rfl, rfl, trivial⟩ ?_ ?_
     ·exact ⟨by (try dsimp only at *); omega, (Nat.le_trans hBw hc164.size), hb167, hB168, hB169, hG163.2, (by rw [← take_map (by (try dsimp only at *); omega)]; exact hG163.1)⟩
     ·dsimp only; omega
   ·have h155 : ¬ ((((x.2.2 : Nat) : Int) : Int) < (((l.length : Nat) : Int) : Int)) := by simpa using h155
    refine WC.exit (WE.thenExit (WE.thenExit (WE.blockIs rfl (WE.next (WC.seq (WC.region ?_))))))
    refine WL.val _ rfl rfl rfl (fun za zC zh zk => ld_30 rfl (zh.ev rfl) ((hB153.cell 0).trans rfl) ((hB153.cell 1).trans rfl) zk) ?_
    refine WL.step (post := fun _ w' => Upd g9 w149 w' ∧ Blk w' g9 30 #[.int .i64 f, .slice x.1 x.2.2 x.2.1]) rfl rfl rfl (fun za zC zh zk => st_30 rfl (zh.ev rfl) (zh.ev rfl) rfl rfl hB152 (by first | decide | simp) (fun v => zk v _ ⟨(Upd.at_ _ _ _ _).trans (Upd.at_ _ _ _ _), (hB152.set_ 0 _).set_ 1 _⟩)) ?_
    rintro v173 w170 ⟨hu171, hB172⟩
    have hb174 := upd_below hb150 hu171 (by omega)
    have hB175 := upd_blk hB151 hu171 (by omega)
    have hB176 := upd_blk hB153 hu171 (by omega)
    have ho177 := ho154.upd hu171 (by omega)
    refine WL.nil (WE.next (WC.ret ?_))
    refine WE.retAny (v := .agg #[.int .i64 f, .slice x.1 x.2.2 x.2.1]) (fun za zh => ?_) ?_
    ·have z0 : za.tmps[4]?.getD undef = .pointer (some ⟨g9, 0, none⟩) := by rw [← Array.getD_eq_getD_getElem?]; exact zh.knows 4 _ rfl
     have y0 : w170.cell? ⟨g9, 0, none⟩ = some (.int .i64 f) := ((hB172.cell 0).trans rfl)
     have y1 : w170.cell? ⟨g9, 1, none⟩ = some (.slice x.1 x.2.2 x.2.1) := ((hB172.cell 1).trans rfl)
     simp [results, Try.results30, z0, y0, y1, go_sem]
    ·have z := ho177
     rw [List.take_of_length_le (by omega)] at z
     exact ⟨_, rfl, by rw [app_none (fun h => absurd h ‹_›)]; exact newT_row hf z (by omega), hb174⟩
end Go.Proofs.Ytmdpiafeiopimaa

/- Literals by a substitution: the document. -/
namespace Go.Proofs.Ytmdpiafeiopimaa
open Go.RowKit Go
set_option linter.unusedVariables false
set_option linter.unusedSimpArgs false
def Li.app (s : List Bd) (x : Li) : Li := ⟨x.neg, x.l.app s, x.r.app s⟩
set_option maxRecDepth 100000 in
theorem rlit_any (s : List Bd) (x : Li) (w : World) (v : Value) (sa : Option Addr) (sc : Nat) (hz1 : x.l.size ≤ 4294967296) (hz2 : x.r.size ≤ 4294967296) (hv : IsLi w x v) (hs : IsSub w s sa sc) : Calls Try.prog 12 #[.slice sa s.length sc, v] w (Ret fun v' w' => NewL w w' (x.app s) v' ∧ Below w.heap.size w w') := by
 obtain ⟨a1, a2, c1, c2, rfl, hl, hr⟩ := hv.form
 refine Calls.walk (l := [.slice sa s.length sc, .agg #[.bool x.neg, .int .i64 x.l.f, .slice a1 x.l.args.length c1, .int .i64 x.r.f, .slice a2 x.r.args.length c2]]) Try.func12 rfl (by kernel_rfl) ?_
 refine WC.sub (K' := [(0, .slice sa s.length sc), (1, .agg #[.bool x.neg, .int .i64 x.l.f, .slice a1 x.l.args.length c1, .int .i64 x.r.f, .slice a2 x.r.args.length c2])]) ⟨rfl, rfl, trivial⟩ ?_
 refine WC.seq (WC.region ?_)
 refine WL.step (post := NewBlk w 32 #[.bool x.neg, .int .i64 x.l.f, .slice a1 x.l.args.length c1, .int .i64 x.r.f, .slice a2 x.r.args.length c2]) rfl rfl rfl (fun za zC zh zk => box_32 rfl (zh.ev rfl) (zk _ _ (newBlk _ _ _))) ?_
 rintro _ w1 ⟨g2, rfl, hg3, hB4, hb5, hz6⟩
 have hl7 : w.heap.size ≤ g2 := by omega
 refine WL.step (post := NewBlk w1 32 #[.bool false, .int .i64 0, .slice none 0 0, .int .i64 0, .slice none 0 0]) rfl rfl rfl (fun za zC zh zk => alloc_32 rfl (zk _ _ (newBlk _ _ _))) ?_
 rintro _ w8 ⟨g9, rfl, hg10, hB11, hb12, hz13⟩
 have hl14 : g2 < g9 := by have z1 := hB4.lt; omega
 have hl15 : w.heap.size ≤ g9 := by have z2 := (hb5).size; omega
 refine WL.nil (WE.next (WC.seq ?_))
 have hB16 := hB4.below hb12
 have hb17 : Below w.heap.size w w8 := (bstep hb5 hb12)
 have hSlt : ∀ b, (fun b => b = g9) b → b < w8.heap.size := fun b e => e ▸ hB11.lt
 have hgl : g9 < w8.heap.size := hB11.lt
 refine WC.tail1 (S := ((fun b => b = g9))) [(true, .val (.pointer (some ⟨g2, 0, none⟩))), (true, .val (.bool x.neg)), (true, .val (.slice sa s.length sc)), (true, .val (.pointer (some ⟨g2, 1, none⟩))), (true, .val (.agg #[.int .i64 x.l.f, .slice a1 x.l.args.length c1])), (true, .mem (fun v w' => NewT w8 w' ((x.app s).l) v) (fun v w w' hc h => InT.chg h hc (fun b hb hs => by have z := hSlt b hs; omega))), (true, .val (.slice sa s.length sc)), (true, .val (.pointer (some ⟨g2, 3, none⟩))), (true, .val (.agg #[.int .i64 x.r.f, .slice a2 x.r.args.length c2])), (true, .mem (fun v w' => NewT w8 w' ((x.app s).r) v) (fun v w w' hc h => InT.chg h hc (fun b hb hs => by have z := hSlt b hs; omega))), (true, .mem (fun v w' => NewL w8 w' ((x.app s)) v) (fun v w w' hc h => NewL.chg h hc (fun b hb hs => by have z := hSlt b hs; omega))), (true, .val undef)] [(0, .slice sa s.length sc), (1, .agg #[.bool x.neg, .int .i64 x.l.f, .slice a1 x.l.args.length c1, .int .i64 x.r.f, .slice a2 x.r.args.length c2]), (3, .pointer (some ⟨g2, 0, none⟩)), (4, .pointer (some ⟨g9, 0, none⟩))] 11 (fun wz => LiBox w8 wz g9 32 ((x.app s))) (fun w w' hb h => h.below hb) ⟨rfl, rfl, rfl, rfl, trivial⟩ (by kernel_rfl) (by kernel_rfl) (by kernel_rfl) (by kernel_rfl) ?_ ?_
 ·refine ⟨.inl ⟨rfl, true, .none rfl, (fun gg b h => by cases h), fun h w => optUndef h, fun zβ za zw zc => ?_⟩, ?_⟩
  ·exact fld_32_0 rfl (zc.kn.ev rfl) ⟨_, rfl, Below.refl _ _, optDef zβ rfl⟩
  refine ⟨.inl ⟨rfl, true, .none rfl, (fun gg b h => by cases h), fun h w => optUndef h, fun zβ za zw zc => ?_⟩, ?_⟩
  ·exact ld_4 rfl ((evt za 5).trans (optSVal (zc.dep 0 5 (by kernel_rfl) (by decide)) rfl rfl)) (bkeeps (zc.early (by kernel_rfl)) _ _ ((hB16.cell 0).trans rfl)) ⟨_, rfl, Below.refl _ _, optDef zβ rfl⟩
  refine ⟨.inl ⟨rfl, true, .none rfl, (fun gg b h => by cases h), fun h w => optUndef h, fun zβ za zw zc => ?_⟩, ?_⟩
  ·exact wp_move rfl (zc.kn.ev rfl) ⟨_, rfl, Below.refl _ _, optDef zβ rfl⟩
  refine ⟨.inl ⟨rfl, true, .none rfl, (fun gg b h => by cases h), fun h w => optUndef h, fun zβ za zw zc => ?_⟩, ?_⟩
  ·exact fld_32_1 rfl (zc.kn.ev rfl) ⟨_, rfl, Below.refl _ _, optDef zβ rfl⟩
  refine ⟨.inl ⟨rfl, true, .none rfl, (fun gg b h => by cases h), fun h w => optUndef h, fun zβ za zw zc => ?_⟩, ?_⟩
  ·exact ld_30 rfl ((evt za 8).trans (optSVal (zc.dep 3 8 (by kernel_rfl) (by decide)) rfl rfl)) (bkeeps (zc.early (by kernel_rfl)) _ _ ((hB16.cell 1).trans rfl)) (bkeeps (zc.early (by kernel_rfl)) _ _ ((hB16.cell 2).trans rfl)) ⟨_, rfl, Below.refl _ _, optDef zβ rfl⟩
  refine ⟨.inl ⟨rfl, true, .none rfl, (fun gg b h => by cases h), fun h w => optUndef h, fun zβ za zw zc => ?_⟩, ?_⟩
  ·exact wp_call (by kernel_rfl) rfl (hv2 ((evt za 7).trans (optSVal (zc.dep 2 7 (by kernel_rfl) (by decide)) rfl rfl)) ((evt za 9).trans (optSVal (zc.dep 4 9 (by kernel_rfl) (by decide)) rfl rfl))) (rapply_any s sa sc x.l _ _ hz1 (IsT.below (bstep hb17 (zc.early (by kernel_rfl))) hl) (hs.below (bstep hb17 (zc.early (by kernel_rfl))))) (fun v w' h => ⟨v, rfl, h.2, optDef zβ (InT.mono (fun b hb _ => Nat.le_trans (zc.early (by kernel_rfl)).size hb) h.1)⟩)
  refine ⟨.inl ⟨rfl, true, .none rfl, (fun gg b h => by cases h), fun h w => optUndef h, fun zβ za zw zc => ?_⟩, ?_⟩
  ·exact wp_move rfl (zc.kn.ev rfl) ⟨_, rfl, Below.refl _ _, optDef zβ rfl⟩
  refine ⟨.inl ⟨rfl, true, .none rfl, (fun gg b h => by cases h), fun h w => optUndef h, fun zβ za zw zc => ?_⟩, ?_⟩
  ·exact fld_32_2 rfl (zc.kn.ev rfl) ⟨_, rfl, Below.refl _ _, optDef zβ rfl⟩
  refine ⟨.inl ⟨rfl, true, .none rfl, (fun gg b h => by cases h), fun h w => optUndef h, fun zβ za zw zc => ?_⟩, ?_⟩
  ·exact ld_30 rfl ((evt za 12).trans (optSVal (zc.dep 7 12 (by kernel_rfl) (by decide)) rfl rfl)) (bkeeps (zc.early (by kernel_rfl)) _ _ ((hB16.cell 3).trans rfl)) (bkeeps (zc.early (by kernel_rfl)) _ _ ((hB16.cell 4).trans rfl)) ⟨_, rfl, Below.refl _ _, optDef zβ rfl⟩
  refine ⟨.inl ⟨rfl, true, .none rfl, (fun gg b h => by cases h), fun h w => optUndef h, fun zβ za zw zc => ?_⟩, ?_⟩
  ·exact wp_call (by kernel_rfl) rfl (hv2 ((evt za 11).trans (optSVal (zc.dep 6 11 (by kernel_rfl) (by decide)) rfl rfl)) ((evt za 13).trans (optSVal (zc.dep 8 13 (by kernel_rfl) (by decide)) rfl rfl))) (rapply_any s sa sc x.r _ _ hz2 (IsT.below (bstep hb17 (zc.early (by kernel_rfl))) hr) (hs.below (bstep hb17 (zc.early (by kernel_rfl))))) (fun v w' h => ⟨v, rfl, h.2, optDef zβ (InT.mono (fun b hb _ => Nat.le_trans (zc.early (by kernel_rfl)).size hb) h.1)⟩)
  refine ⟨.inl ⟨rfl, true, .none rfl, (fun gg b h => by cases h), fun h w => optUndef h, fun zβ za zw zc => ?_⟩, ?_⟩
  ·have z1 := (optSMem (zc.dep 5 10 (by kernel_rfl) (by decide)) rfl rfl)
   obtain ⟨_, a1, c1, e1, _⟩ := z1.form
   rw [e1] at z1
   have z2 := (optSMem (zc.dep 9 14 (by kernel_rfl) (by decide)) rfl rfl)
   obtain ⟨_, a2, c2, e2, _⟩ := z2.form
   rw [e2] at z2
   exact build_32_0_1_2 rfl ((evt za 6).trans (optSVal (zc.dep 1 6 (by kernel_rfl) (by decide)) rfl rfl)) ((evt za 10).trans e1) ((evt za 14).trans e2) ⟨_, rfl, Below.refl _ _, optDef zβ (newL_mk (x := (x.app s)) z1 z2)⟩
  refine ⟨.inr ⟨rfl, rfl, fun za zw zc => ?_⟩, ?_⟩
  ·have zv := (optSMem (zc.dep 10 15 (by kernel_rfl) (by decide)) rfl rfl)
   obtain ⟨a1, a2, c1, c2, e1⟩ := zv.parts
   rw [e1] at zv
   exact st_32 rfl (zc.kn.ev rfl) ((evt za 15).trans e1) rfl rfl rfl rfl rfl (hB11.below zc.below) (by decide) (fun v => ⟨v, rfl, ⟨a1, a2, c1, c2, ((((hB11.below zc.below).set_ 0 _).set_ 1 _).set_ 2 _ |>.set_ 3 _).set_ 4 _, zv.chg (S := fun b => b = g9) (.ofUpd (((((Upd.at_ _ _ _ _).trans (Upd.at_ _ _ _ _)).trans (Upd.at_ _ _ _ _)).trans (Upd.at_ _ _ _ _)).trans (Upd.at_ _ _ _ _)) rfl) (fun b hb e => by (try dsimp only at *); omega)⟩, .ofUpd (((((Upd.at_ _ _ _ _).trans (Upd.at_ _ _ _ _)).trans (Upd.at_ _ _ _ _)).trans (Upd.at_ _ _ _ _)).trans (Upd.at_ _ _ _ _)) rfl⟩)
  exact trivial
 ·intro za w18 zh hG19 hc20 zu
  have hb21 := chg_below hb17 hc20 (fun b hb => (by (try dsimp only at *); omega))
  have hB22 := chg_blk hB16 hc20 (by (try dsimp only at *); omega)
  obtain ⟨a23, a24, c25, c26, hB27, hn28⟩ := hG19
  clear zu
  refine WE.go zh ?_
  refine WE.next (WC.ret ?_)
  refine WE.retAny (v := .agg #[.bool ((x.app s).neg), .int .i64 ((x.app s).l.f), .slice a23 ((x.app s).l.args.length) c25, .int .i64 ((x.app s).r.f), .slice a24 ((x.app s).r.args.length) c26]) (fun za zh => ?_) ?_
  ·have z0 : za.tmps[4]?.getD undef = .pointer (some ⟨g9, 0, none⟩) := by rw [← Array.getD_eq_getD_getElem?]; exact zh.knows 4 _ rfl
   have y0 : w18.cell? ⟨g9, 0, none⟩ = some (.bool ((x.app s).neg)) := ((hB27.cell 0).trans rfl)
   have y1 : w18.cell? ⟨g9, 1, none⟩ = some (.int .i64 ((x.app s).l.f)) := ((hB27.cell 1).trans rfl)
   have y2 : w18.cell? ⟨g9, 2, none⟩ = some (.slice a23 ((x.app s).l.args.length) c25) := ((hB27.cell 2).trans rfl)
   have y3 : w18.cell? ⟨g9, 3, none⟩ = some (.int .i64 ((x.app s).r.f)) := ((hB27.cell 3).trans rfl)
   have y4 : w18.cell? ⟨g9, 4, none⟩ = some (.slice a24 ((x.app s).r.args.length) c26) := ((hB27.cell 4).trans rfl)
   simp [results, Try.results12, z0, y0, y1, y2, y3, y4, go_sem]
  ·have hgz := (hb17).size
   exact ⟨_, rfl, (hn28).older (by omega), hb21⟩
end Go.Proofs.Ytmdpiafeiopimaa

/- What is put in for variables leaves literals above one another as they are: plain. -/
namespace Go.Proofs.Ytmdpiafeiopimaa
set_option linter.unusedVariables false
/-- The terms that a substitution puts in for the first 48 variables. -/
def subTerms (s : List Bd) : List T := (List.range 48).map fun (v : Nat) => T.app s (.mk (-1 - (v : Int)) [])
theorem subTerms_get {s : List Bd} {f : Int} {d : T} (h1 : -48 ≤ f) (h2 : f < 0) : (subTerms s).getD (-1 - f).toNat d = T.app s (.mk f []) := by
  have hl : (-1 - f).toNat < 48 := by omega
  rw [List.getD_eq_getElem?_getD]
  simp only [subTerms, List.getElem?_map, List.getElem?_range hl, Option.map_some, Option.getD_some]
  have e : (-1 - (((-1 - f).toNat : Nat) : Int)) = f := by omega
  rw [e]
theorem app_put {s : List Bd} : ∀ t : T, t.low 48 = true → t.app s = t.put (subTerms s) := by
  refine T.ind (fun f l ih => fun h => ?_)
  rw [T.low] at h
  rw [T.put]
  by_cases hf : f < 0
  · rw [if_pos hf] at h ⊢
    simp only [Bool.and_eq_true, decide_eq_true_eq, List.isEmpty_iff] at h
    obtain ⟨h1, rfl⟩ := h
    rw [subTerms_get (by omega) hf]
  · rw [if_neg hf] at h ⊢
    rw [app_none (fun q => absurd q hf), T.putL_map]
    rw [T.lowL_all, List.all_eq_true] at h
    congr 1
    exact List.map_congr_left (fun a ha => ih a ha (h a ha))
theorem okL_iff {ar : List Int} : ∀ {l : List T}, T.okL ar l = true ↔ ∀ a ∈ l, T.ok ar a = true
  | [] => by simp [T.okL]
  | a :: r => by rw [T.okL, Bool.and_eq_true, okL_iff]; simp
theorem app_ok {ar : List Int} {s : List Bd} (hs : ∀ b ∈ s, T.ok ar b.t = true) : ∀ t : T, T.ok ar t = true → T.ok ar (t.app s) = true := by
  refine T.ind (fun f l ih => fun h => ?_)
  cases hf : (if f < 0 then subFind s (-1 - f) else none) with
  | some t =>
    have hf0 : f < 0 := Decidable.byContradiction (fun q => by rw [if_neg q] at hf; cases hf)
    rw [if_pos hf0] at hf
    rw [app_some hf0 hf]
    obtain ⟨b, hb, rfl⟩ := subFind_mem hf
    exact hs b hb
  | none =>
    rw [app_none (fun q => by rw [if_pos q] at hf; exact hf)]
    rw [T.ok] at h ⊢
    by_cases hf0 : f < 0
    · rw [if_pos hf0] at h ⊢
      simp only [List.isEmpty_iff] at h
      subst h; rfl
    · rw [if_neg hf0] at h ⊢
      simp only [Bool.and_eq_true] at h ⊢
      refine ⟨by simpa using h.1, okL_iff.2 (fun a ha => ?_)⟩
      obtain ⟨b, hb, rfl⟩ := List.mem_map.1 ha
      exact ih b hb (okL_iff.1 h.2 b hb)
theorem sizeL_map_le {m : Nat} {p : T → T} : ∀ {l : List T}, (∀ a ∈ l, (p a).size ≤ a.size * m) → T.sizeL (l.map p) ≤ T.sizeL l * m
  | [], _ => by simp [T.sizeL]
  | a :: r, h => by
    have h1 := h a List.mem_cons_self
    have h2 := sizeL_map_le (m := m) (p := p) (l := r) (fun b hb => h b (List.mem_cons_of_mem _ hb))
    simp only [List.map_cons, T.sizeL, Nat.add_mul]
    omega
theorem app_size {m : Nat} (hm : 1 ≤ m) {s : List Bd} (hs : ∀ b ∈ s, b.t.size ≤ m) : ∀ t : T, (t.app s).size ≤ t.size * m := by
  refine T.ind (fun f l ih => ?_)
  have e1 : (T.mk f l).size * m = m + T.sizeL l * m := by rw [T.size, Nat.add_mul, Nat.one_mul]
  cases hf : (if f < 0 then subFind s (-1 - f) else none) with
  | some t =>
    have hf0 : f < 0 := Decidable.byContradiction (fun q => by rw [if_neg q] at hf; cases hf)
    rw [if_pos hf0] at hf
    rw [app_some hf0 hf, e1]
    obtain ⟨b, hb, rfl⟩ := subFind_mem hf
    have := hs b hb; omega
  | none =>
    rw [app_none (fun q => by rw [if_pos q] at hf; exact hf), e1, T.size]
    have := sizeL_map_le (m := m) (p := T.app s) (l := l) ih
    omega
theorem ok2_3 {P : T → Prop} {R : T → T → Bool} (h0 : ∀ s, P s → R s s = false) {c : T → T → Int} (hc : ∀ s t, P s → P t → c s t = if T.same s t then 2 else if R s t then 3 else if R t s then 1 else 0) {s t : T} (hs : P s) (ht : P t) : c s t = 3 ↔ R s t = true := by
  rw [hc s t hs ht]
  cases e : T.same s t with
  | true => have := (T.same_iff s t).1 e; subst this; simp [h0 s hs]
  | false =>
    cases e2 : R s t with
    | true => simp
    | false => cases e3 : R t s <;> simp
/-- Terms that may be put into. -/
def FitS (o : Od) (ar : List Int) (t : T) : Prop := Od.Fit o ar t ∧ t.low 48 = true ∧ t.size ≤ 300
theorem OrdOk.mono {sg : List Sy} {o : Od} (h : OrdOk sg o) {s : List Bd} (hs : ∀ b ∈ s, T.ok (sg.map (·.ar)) b.t = true ∧ b.t.size ≤ 20) : MonoC (FitS o (sg.map (·.ar))) o.ok2 (Od.Fit o (sg.map (·.ar))) o.ok2 (T.app s) := by
  have into : ∀ x, FitS o (sg.map (·.ar)) x → Od.Fit o (sg.map (·.ar)) (T.app s x) := fun x hx => ⟨app_ok (fun b hb => (hs b hb).1) x hx.1.ok, by
    have := app_size (m := 20) (by omega) (fun b hb => (hs b hb).2) x; have := hx.2.2; omega⟩
  have same : ∀ x y, FitS o (sg.map (·.ar)) x → FitS o (sg.map (·.ar)) y → o.ok2 x y = 2 → x = y := fun x y hx hy e => by
    have g := h.good
    refine Classical.byContradiction (fun hne => ?_)
    have e2 : T.same x y = false := by
      cases q : T.same x y with
      | false => rfl
      | true => exact absurd ((T.same_iff x y).1 q) hne
    cases hl : o.lpo with
    | false =>
      have G := Od.good_of h hl
      have e1 : o.oc x y = o.Cmp x y := by unfold Od.oc; rw [if_neg (by rw [hl]; exact Bool.false_ne_true)]
      unfold Od.ok2 at e
      rw [e2, e1, G.Cmp_eq hx.1 hy.1, e2] at e
      simp only [Bool.false_eq_true, if_false] at e
      split at e <;> (try split at e) <;> omega
    | true =>
      have kn : ∀ t, Od.Fit o (sg.map (·.ar)) t → o.lknows t = true := fun t ht => T.ok_known (by simpa using h.len.symm) t ht.ok
      have e1 : o.oc x y = o.lcmp x y := by unfold Od.oc; rw [if_pos hl]
      unfold Od.ok2 at e
      rw [e2, e1, Od.lcmp_eq (kn x hx.1) (kn y hy.1), e2] at e
      simp only [Bool.false_eq_true, if_false] at e
      split at e <;> (try split at e) <;> omega
  refine ⟨into, fun x y hx hy e => ?_, fun x y hx hy e => by rw [same x y hx hy e]; exact h.good.refl _ (into y hy)⟩
  have px := app_put (s := s) x hx.2.1
  have py := app_put (s := s) y hy.2.1
  have ix := into x hx
  have iy := into y hy
  cases hl : o.lpo with
  | false =>
    have G := Od.good_of h hl
    have hc : ∀ a b, Od.Fit o (sg.map (·.ar)) a → Od.Fit o (sg.map (·.ar)) b → o.ok2 a b = if T.same a b then 2 else if o.kb a b then 3 else if o.kb b a then 1 else 0 := fun a b ha hb => by
      have e1 : o.oc a b = o.Cmp a b := by unfold Od.oc; rw [if_neg (by rw [hl]; exact Bool.false_ne_true)]
      unfold Od.ok2
      rw [e1, G.Cmp_eq ha hb]
      cases T.same a b <;> rfl
    rw [ok2_3 (fun a _ => Od.kb_irrefl o a) hc hx.1 hy.1] at e
    rw [ok2_3 (fun a _ => Od.kb_irrefl o a) hc ix iy, px, py]
    exact G.kb_put _ x y hx.1.ok hy.1.ok (by rw [← px]; exact ix.ok) (by rw [← py]; exact iy.ok) e
  | true =>
    have kn : ∀ t, Od.Fit o (sg.map (·.ar)) t → o.lknows t = true := fun t ht => T.ok_known (by simpa using h.len.symm) t ht.ok
    have hc : ∀ a b, Od.Fit o (sg.map (·.ar)) a → Od.Fit o (sg.map (·.ar)) b → o.ok2 a b = if T.same a b then 2 else if o.lg a b then 3 else if o.lg b a then 1 else 0 := fun a b ha hb => by
      have e1 : o.oc a b = o.lcmp a b := by unfold Od.oc; rw [if_pos hl]
      unfold Od.ok2
      rw [e1, Od.lcmp_eq (kn a ha) (kn b hb)]
      cases T.same a b <;> rfl
    have ir : ∀ a, Od.Fit o (sg.map (·.ar)) a → o.lg a a = false := fun a ha => Od.lg_irrefl (kn a ha)
    rw [ok2_3 ir hc hx.1 hy.1] at e
    rw [ok2_3 ir hc ix iy, px, py]
    exact Od.lg_put _ x y (Nat.le_refl _) (kn x hx.1) (kn y hy.1) (by rw [← px]; exact kn _ ix) (by rw [← py]; exact kn _ iy) e
theorem GoodC.sub {α : Type} {P Q : α → Prop} {c : α → α → Int} (g : GoodC P c) (h : ∀ x, Q x → P x) : GoodC Q c :=
  ⟨fun x hx => g.refl x (h x hx), fun x y hx hy => g.turn x y (h x hx) (h y hy), fun x y z hx hy hz => g.trans x y z (h x hx) (h y hy) (h z hz), fun x y z hx hy hz => g.same x y z (h x hx) (h y hy) (h z hz), fun x y hx hy => g.rng x y (h x hx) (h y hy)⟩
theorem mems_app {s : List Bd} {x : Li} : (x.app s).mems = x.mems.map (List.map (T.app s)) := by
  unfold Li.mems Li.app
  cases x.neg <;> rfl
theorem fitS_of {sg : List Sy} {o : Od} {t : T} (h : t.check sg = 0) : FitS o (sg.map (·.ar)) t := by
  have a := T.check_ok h
  refine ⟨⟨a.1, by omega⟩, ?_, a.2⟩
  unfold T.check at h
  by_cases hc : sigCheck sg = 0 ∧ T.small 48 t = true ∧ T.over sg true t = true
  · have h1 := hc.2.1
    simp only [T.small, Bool.and_eq_true, decide_eq_true_eq] at h1
    exact h1.2.2
  · rw [if_neg hc] at h; cases h
/-- What is put in leaves a literal above another one, and the same those that are the same. -/
theorem OrdOk.stable {sg : List Sy} {o : Od} (h : OrdOk sg o) {s : List Bd} (hs : ∀ b ∈ s, b.t.check sg = 0 ∧ b.t.size ≤ 20) {x y : Li} (hx : x.l.check sg = 0 ∧ x.r.check sg = 0) (hy : y.l.check sg = 0 ∧ y.r.check sg = 0) :
    (o.lits x y = 3 → o.lits (x.app s) (y.app s) = 3) ∧ (o.lits x y = 2 → o.lits (x.app s) (y.app s) = 2) := by
  have m := h.mono (s := s) (fun b hb => ⟨(T.check_ok (hs b hb).1).1, (hs b hb).2⟩)
  have g := h.good
  have gs : GoodC (FitS o (sg.map (·.ar))) o.ok2 := g.sub (fun x hx => hx.1)
  have m1 := MonoC.multi gs g m
  have m2 := MonoC.multi gs.multi g.multi m1
  have fm : ∀ {x : Li}, (x.l.check sg = 0 ∧ x.r.check sg = 0) → ∀ l ∈ x.mems, ∀ t ∈ l, FitS o (sg.map (·.ar)) t := fun {x} hx l hl t ht => ((Li.mems_all l hl).2 t ht).elim (fun e => e ▸ fitS_of hx.1) (fun e => e ▸ fitS_of hx.2)
  unfold Od.lits
  rw [mems_app, mems_app]
  exact ⟨m2.above _ _ (fm hx) (fm hy), m2.same _ _ (fm hx) (fm hy)⟩
theorem stB (x y : Int) (h1 : x = 3 → y = 3) (h2 : x = 2 → y = 2) : (((((x : Int) != (3 : Int)) || ((y : Int) == (3 : Int)))) && (((x : Int) != (2 : Int)) || ((y : Int) == (2 : Int)))) = true := by
  by_cases e1 : x = 3
  · simp [e1, h1 e1]
  · by_cases e3 : x = 2
    · simp [e3, h2 e3]
    · simp [e1, e3]
end Go.Proofs.Ytmdpiafeiopimaa

namespace Go.Proofs.Ytmdpiafeiopimaa
open Go.RowKit Go
set_option linter.unusedVariables false
set_option linter.unusedSimpArgs false
theorem subOk_iff : ∀ (l : List Bd) (last : Int), subOk last l = true ↔ (∀ x ∈ l, last < x.var ∧ x.itself = false) ∧ l.Pairwise (fun x y => x.var < y.var)
 | [], _ => by simp [subOk]
 | b :: r, last => by
  rw [subOk]
  split
  ·rename_i hn
   constructor
   ·intro h; cases h
   ·intro h
    have := h.1 b (by simp)
    rcases hn with hn | hn
    ·omega
    ·rw [this.2] at hn; cases hn
  ·rename_i hn
   rw [subOk_iff r b.var]
   have hn1 := not_or.1 hn
   constructor
   ·intro ⟨h1, h2⟩
    refine ⟨fun x hx => ?_, .cons (fun x hx => (h1 x hx).1) h2⟩
    rcases List.mem_cons.1 hx with rfl | hx
    ·exact ⟨by omega, Bool.eq_false_iff.2 hn1.2⟩
    ·have := h1 x hx; exact ⟨by omega, this.2⟩
   ·intro ⟨h1, h2⟩
    obtain ⟨h3, h4⟩ := List.pairwise_cons.1 h2
    exact ⟨fun x hx => ⟨h3 x hx, (h1 x (by simp [hx])).2⟩, h4⟩
/-- So far it may be. -/
def OkTo (l : List Bd) (k : Nat) : Prop := ∀ i, i < k → 0 ≤ (dget l i).var ∧ (dget l i).itself = false ∧ (0 < i → (dget l (i - 1)).var < (dget l i).var)
theorem okTo_lt {l : List Bd} {k : Nat} (h : OkTo l k) : ∀ j i, i < j → j < k → (dget l i).var < (dget l j).var := by
 intro j
 induction j with
 | zero => intro i hi; omega
 | succ j ih =>
  intro i hi hj
  have h1 := (h (j + 1) hj).2.2 (by omega)
  rw [Nat.add_sub_cancel] at h1
  rcases Nat.lt_or_ge i j with q | q
  ·have := ih i q (by omega); omega
  ·obtain rfl : i = j := by omega
   exact h1
theorem okTo_ok {l : List Bd} (h : OkTo l l.length) : subOk (-1) l = true := by
 rw [subOk_iff]
 refine ⟨fun x hx => ?_, List.pairwise_iff_getElem.2 fun i j hi hj hij => ?_⟩
 ·obtain ⟨i, hi, rfl⟩ := List.getElem_of_mem hx
  have := h i hi
  rw [dget_lt hi] at this
  exact ⟨by omega, this.2.1⟩
 ·have := okTo_lt h j i hij hj
  rwa [dget_lt hi, dget_lt hj] at this
theorem okTo_no {l : List Bd} {k : Nat} (hk : k < l.length) (h : (dget l k).var < 0 ∨ (0 < k ∧ (dget l k).var ≤ (dget l (k - 1)).var) ∨ (dget l k).itself = true) : subOk (-1) l = false := by
 rw [Bool.eq_false_iff]
 intro hok
 rw [subOk_iff] at hok
 have h1 := hok.1 _ (dget_mem hk)
 rcases h with h | ⟨h2, h3⟩ | h
 ·omega
 ·have := List.pairwise_iff_getElem.1 hok.2 (k - 1) k (by omega) hk (by omega)
  rw [← dget_lt, ← dget_lt] at this
  omega
 ·rw [h1.2] at h; cases h
set_option maxRecDepth 100000 in
theorem rcheck_any (l : List Bd) (w : World) (a : Option Addr) (c : Nat) (h1 : l.length ≤ 4294967296) (hl : IsBs w l a) : Calls Try.prog 7 #[.slice a l.length c] w (Ret fun v' w' => v' = .int .i64 (subCheck l) ∧ Below w.heap.size w w') := by
 refine Calls.walk (l := [.slice a l.length c]) Try.func7 rfl (by kernel_rfl) ?_
 refine WC.sub (K' := [(0, .slice a l.length c)]) ⟨rfl, trivial⟩ ?_
 refine WC.seq (WC.region (WL.asg rfl rfl rfl rfl rfl (WL.nil (WE.next (WC.seq (WC.seq (WC.region (WL.asg rfl rfl rfl rfl rfl (WL.nil (WE.next (WC.block ?_)))))))))))
 refine WC.loop (X := Nat) (fun k => l.length - k) (fun k => [(0, .slice a l.length c), (3, .int .i64 (((k : Nat) : Int)))]) (fun k w1 => k ≤ l.length ∧ OkTo l k ∧ Below w.heap.size w w1) 0 ⟨rfl, rfl, trivial⟩ ?_ ?_
 ·exact ⟨Nat.zero_le _, fun i h => absurd h (Nat.not_lt_zero i), (Below.refl _ _)⟩
 ·rintro k w1 ⟨hk, hE, hb2⟩
  refine WC.seq (WC.seq (WC.region (WL.mv rfl rfl rfl rfl rfl (WL.mv rfl rfl rfl rfl rfl ?_))))
  refine WL.val (.int .i64 (((l.length : Nat) : Int))) rfl rfl rfl (fun za zC zh zk => len_34 rfl (zh.ev rfl) zk) ?_
  refine WL.val (.bool ((decide ((((k : Nat) : Int) : Int) < (((l.length : Nat) : Int) : Int))))) rfl rfl rfl (fun za zC zh zk => lss_3 rfl (zh.ev rfl) (zh.ev rfl) zk) ?_
  refine WL.nil (WE.next ?_)
  refine WC.cond rfl (fun h3 => ?_) (fun h3 => ?_)
  ·have h3 : (((k : Nat) : Int) : Int) < (((l.length : Nat) : Int) : Int) := by simpa using h3
   refine WC.skip (WE.next (WC.seq (WC.block (WC.seq ?_))))
   obtain ⟨b4, o5, A6, C7, ha8, hc9⟩ := InRow.openB hl
   refine WC.opt [(true, .val (.slice a l.length c)), (true, .val (.int .i64 (((k : Nat) : Int)))), (true, .val (.pointer (some ⟨b4, o5 + k * 3, none⟩))), (true, .val (.pointer (some ⟨b4, o5 + k * 3, none⟩))), (true, .val (.int .i64 ((dget l k).var))), (true, .val (.bool ((decide (((dget l k).var : Int) < (0 : Int)))))), (true, .val (.bool ((decide (((dget l k).var : Int) < (0 : Int)))))), ((true && !(decide (((dget l k).var : Int) < (0 : Int)))), .val (.int .i64 (((k : Nat) : Int)))), ((true && !(decide (((dget l k).var : Int) < (0 : Int)))), .val (.bool ((decide ((0 : Int) < (((k : Nat) : Int) : Int)))))), ((true && !(decide (((dget l k).var : Int) < (0 : Int)))), .val (.bool ((decide ((0 : Int) < (((k : Nat) : Int) : Int)))))), (((true && !(decide (((dget l k).var : Int) < (0 : Int)))) && (decide ((0 : Int) < (((k : Nat) : Int) : Int)))), .val (.slice a l.length c)), (((true && !(decide (((dget l k).var : Int) < (0 : Int)))) && (decide ((0 : Int) < (((k : Nat) : Int) : Int)))), .val (.int .i64 (((k : Nat) : Int)))), (((true && !(decide (((dget l k).var : Int) < (0 : Int)))) && (decide ((0 : Int) < (((k : Nat) : Int) : Int)))), .val (.pointer (some ⟨b4, o5 + k * 3, none⟩))), (((true && !(decide (((dget l k).var : Int) < (0 : Int)))) && (decide ((0 : Int) < (((k : Nat) : Int) : Int)))), .val (.pointer (some ⟨b4, o5 + k * 3, none⟩))), (((true && !(decide (((dget l k).var : Int) < (0 : Int)))) && (decide ((0 : Int) < (((k : Nat) : Int) : Int)))), .val (.int .i64 ((dget l k).var))), (((true && !(decide (((dget l k).var : Int) < (0 : Int)))) && (decide ((0 : Int) < (((k : Nat) : Int) : Int)))), .val (.slice a l.length c)), (((true && !(decide (((dget l k).var : Int) < (0 : Int)))) && (decide ((0 : Int) < (((k : Nat) : Int) : Int)))), .val (.int .i64 (((k : Nat) : Int)))), (((true && !(decide (((dget l k).var : Int) < (0 : Int)))) && (decide ((0 : Int) < (((k : Nat) : Int) : Int)))), .val (.int .i64 ((((k - 1) : Nat) : Int)))), (((true && !(decide (((dget l k).var : Int) < (0 : Int)))) && (decide ((0 : Int) < (((k : Nat) : Int) : Int)))), .val (.pointer (some ⟨b4, o5 + ((k - 1)) * 3, none⟩))), (((true && !(decide (((dget l k).var : Int) < (0 : Int)))) && (decide ((0 : Int) < (((k : Nat) : Int) : Int)))), .val (.pointer (some ⟨b4, o5 + ((k - 1)) * 3, none⟩))), (((true && !(decide (((dget l k).var : Int) < (0 : Int)))) && (decide ((0 : Int) < (((k : Nat) : Int) : Int)))), .val (.int .i64 ((dget l ((k - 1))).var))), (((true && !(decide (((dget l k).var : Int) < (0 : Int)))) && (decide ((0 : Int) < (((k : Nat) : Int) : Int)))), .val (.bool ((decide (((dget l k).var : Int) ≤ ((dget l ((k - 1))).var : Int)))))), ((true && !(decide (((dget l k).var : Int) < (0 : Int)))), .val (.bool (((decide ((0 : Int) < (((k : Nat) : Int) : Int))) && (decide (((dget l k).var : Int) ≤ ((dget l ((k - 1))).var : Int))))))), (true, .val (.bool (((decide (((dget l k).var : Int) < (0 : Int))) || ((decide ((0 : Int) < (((k : Nat) : Int) : Int))) && (decide (((dget l k).var : Int) ≤ ((dget l ((k - 1))).var : Int)))))))), (true, .val (.bool (((decide (((dget l k).var : Int) < (0 : Int))) || ((decide ((0 : Int) < (((k : Nat) : Int) : Int))) && (decide (((dget l k).var : Int) ≤ ((dget l ((k - 1))).var : Int)))))))), ((true && !((decide (((dget l k).var : Int) < (0 : Int))) || ((decide ((0 : Int) < (((k : Nat) : Int) : Int))) && (decide (((dget l k).var : Int) ≤ ((dget l ((k - 1))).var : Int)))))), .val (.slice a l.length c)), ((true && !((decide (((dget l k).var : Int) < (0 : Int))) || ((decide ((0 : Int) < (((k : Nat) : Int) : Int))) && (decide (((dget l k).var : Int) ≤ ((dget l ((k - 1))).var : Int)))))), .val (.int .i64 (((k : Nat) : Int)))), ((true && !((decide (((dget l k).var : Int) < (0 : Int))) || ((decide ((0 : Int) < (((k : Nat) : Int) : Int))) && (decide (((dget l k).var : Int) ≤ ((dget l ((k - 1))).var : Int)))))), .val (.pointer (some ⟨b4, o5 + k * 3, none⟩))), ((true && !((decide (((dget l k).var : Int) < (0 : Int))) || ((decide ((0 : Int) < (((k : Nat) : Int) : Int))) && (decide (((dget l k).var : Int) ≤ ((dget l ((k - 1))).var : Int)))))), .val (.pointer (some ⟨b4, o5 + k * 3 + 1, none⟩))), ((true && !((decide (((dget l k).var : Int) < (0 : Int))) || ((decide ((0 : Int) < (((k : Nat) : Int) : Int))) && (decide (((dget l k).var : Int) ≤ ((dget l ((k - 1))).var : Int)))))), .val (.agg #[.int .i64 ((dget l k).t.f), .slice ((A6 k)) ((dget l k).t.args.length) ((C7 k))])), ((true && !((decide (((dget l k).var : Int) < (0 : Int))) || ((decide ((0 : Int) < (((k : Nat) : Int) : Int))) && (decide (((dget l k).var : Int) ≤ ((dget l ((k - 1))).var : Int)))))), .val (.slice a l.length c)), ((true && !((decide (((dget l k).var : Int) < (0 : Int))) || ((decide ((0 : Int) < (((k : Nat) : Int) : Int))) && (decide (((dget l k).var : Int) ≤ ((dget l ((k - 1))).var : Int)))))), .val (.int .i64 (((k : Nat) : Int)))), ((true && !((decide (((dget l k).var : Int) < (0 : Int))) || ((decide ((0 : Int) < (((k : Nat) : Int) : Int))) && (decide (((dget l k).var : Int) ≤ ((dget l ((k - 1))).var : Int)))))), .val (.pointer (some ⟨b4, o5 + k * 3, none⟩))), ((true && !((decide (((dget l k).var : Int) < (0 : Int))) || ((decide ((0 : Int) < (((k : Nat) : Int) : Int))) && (decide (((dget l k).var : Int) ≤ ((dget l ((k - 1))).var : Int)))))), .val (.pointer (some ⟨b4, o5 + k * 3, none⟩))), ((true && !((decide (((dget l k).var : Int) < (0 : Int))) || ((decide ((0 : Int) < (((k : Nat) : Int) : Int))) && (decide (((dget l k).var : Int) ≤ ((dget l ((k - 1))).var : Int)))))), .val (.int .i64 ((dget l k).var))), ((true && !((decide (((dget l k).var : Int) < (0 : Int))) || ((decide ((0 : Int) < (((k : Nat) : Int) : Int))) && (decide (((dget l k).var : Int) ≤ ((dget l ((k - 1))).var : Int)))))), .val (.bool ((dget l k).itself))), (true, .val (.bool ((((decide (((dget l k).var : Int) < (0 : Int))) || ((decide ((0 : Int) < (((k : Nat) : Int) : Int))) && (decide (((dget l k).var : Int) ≤ ((dget l ((k - 1))).var : Int))))) || (dget l k).itself))))] [(0, .slice a l.length c), (3, .int .i64 (((k : Nat) : Int))), (7, .bool ((decide ((((k : Nat) : Int) : Int) < (((l.length : Nat) : Int) : Int)))))] ⟨rfl, rfl, rfl, trivial⟩ (by kernel_rfl) (by kernel_rfl) (by kernel_rfl) ?_ ?_
   ·refine ⟨⟨true, .none rfl, fun h w => optUndef h, fun zβ za zw zc => ?_⟩, ?_⟩
    ·exact wp_move rfl (zc.kn.ev rfl) ⟨_, rfl, Below.refl _ _, optDef zβ rfl⟩
    refine ⟨⟨true, .none rfl, fun h w => optUndef h, fun zβ za zw zc => ?_⟩, ?_⟩
    ·exact wp_move rfl (zc.kn.ev rfl) ⟨_, rfl, Below.refl _ _, optDef zβ rfl⟩
    refine ⟨⟨true, .none rfl, fun h w => optUndef h, fun zβ za zw zc => ?_⟩, ?_⟩
    ·exact ix_34 (k := k) rfl ((evt za 10).trans (optVal (zc.dep 0 10 (by kernel_rfl)) rfl rfl)) (ha8 k (by first | omega | (simp; omega))) ((evt za 11).trans (optVal (zc.dep 1 11 (by kernel_rfl)) rfl rfl)) (by first | omega | (simp; omega)) ⟨_, rfl, Below.refl _ _, optDef zβ rfl⟩
    refine ⟨⟨true, .none rfl, fun h w => optUndef h, fun zβ za zw zc => ?_⟩, ?_⟩
    ·exact fld_44_0 rfl ((evt za 12).trans (optVal (zc.dep 2 12 (by kernel_rfl)) rfl rfl)) ⟨_, rfl, Below.refl _ _, optDef zβ rfl⟩
    refine ⟨⟨true, .none rfl, fun h w => optUndef h, fun zβ za zw zc => ?_⟩, ?_⟩
    ·exact ld_3 rfl ((evt za 13).trans (optVal (zc.dep 3 13 (by kernel_rfl)) rfl rfl)) (bkeeps (bstep hb2 zc.below) _ _ (hc9 k (by first | omega | (simp; omega))).1) ⟨_, rfl, Below.refl _ _, optDef zβ rfl⟩
    refine ⟨⟨true, .none rfl, fun h w => optUndef h, fun zβ za zw zc => ?_⟩, ?_⟩
    ·exact lss_3 rfl ((evt za 14).trans (optVal (zc.dep 4 14 (by kernel_rfl)) rfl rfl)) (zc.kn.ev rfl) ⟨_, rfl, Below.refl _ _, optDef zβ rfl⟩
    refine ⟨⟨true, .none rfl, fun h w => optUndef h, fun zβ za zw zc => ?_⟩, ?_⟩
    ·exact wp_move rfl ((evt za 15).trans (optVal (zc.dep 5 15 (by kernel_rfl)) rfl rfl)) ⟨_, rfl, Below.refl _ _, optDef zβ rfl⟩
    refine ⟨⟨_, .no (c := (decide (((dget l k).var : Int) < (0 : Int)))) (d := true) rfl (fun v w h => h), fun h w => optUndef h, fun zβ za zw zc => ?_⟩, ?_⟩
    ·exact wp_move rfl (zc.kn.ev rfl) ⟨_, rfl, Below.refl _ _, optDef zβ rfl⟩
    refine ⟨⟨_, .no (c := (decide (((dget l k).var : Int) < (0 : Int)))) (d := true) rfl (fun v w h => h), fun h w => optUndef h, fun zβ za zw zc => ?_⟩, ?_⟩
    ·exact gtr_3 rfl ((evt za 17).trans (optVal (zc.dep 7 17 (by kernel_rfl)) rfl zβ)) (zc.kn.ev rfl) ⟨_, rfl, Below.refl _ _, optDef zβ rfl⟩
    refine ⟨⟨_, .no (c := (decide (((dget l k).var : Int) < (0 : Int)))) (d := true) rfl (fun v w h => h), fun h w => optUndef h, fun zβ za zw zc => ?_⟩, ?_⟩
    ·exact wp_move rfl ((evt za 18).trans (optVal (zc.dep 8 18 (by kernel_rfl)) rfl zβ)) ⟨_, rfl, Below.refl _ _, optDef zβ rfl⟩
    refine ⟨⟨_, .yes (c := (decide ((0 : Int) < (((k : Nat) : Int) : Int)))) (d := (true && !(decide (((dget l k).var : Int) < (0 : Int))))) rfl (fun v w h => h), fun h w => optUndef h, fun zβ za zw zc => ?_⟩, ?_⟩
    ·exact wp_move rfl (zc.kn.ev rfl) ⟨_, rfl, Below.refl _ _, optDef zβ rfl⟩
    refine ⟨⟨_, .yes (c := (decide ((0 : Int) < (((k : Nat) : Int) : Int)))) (d := (true && !(decide (((dget l k).var : Int) < (0 : Int))))) rfl (fun v w h => h), fun h w => optUndef h, fun zβ za zw zc => ?_⟩, ?_⟩
    ·exact wp_move rfl (zc.kn.ev rfl) ⟨_, rfl, Below.refl _ _, optDef zβ rfl⟩
    refine ⟨⟨_, .yes (c := (decide ((0 : Int) < (((k : Nat) : Int) : Int)))) (d := (true && !(decide (((dget l k).var : Int) < (0 : Int))))) rfl (fun v w h => h), fun h w => optUndef h, fun zβ za zw zc => ?_⟩, ?_⟩
    ·exact ix_34 (k := k) rfl ((evt za 20).trans (optVal (zc.dep 10 20 (by kernel_rfl)) rfl zβ)) (ha8 k (by first | omega | (have zz := zβ; simp only [Bool.and_eq_true, Bool.or_eq_true, Bool.true_and, Bool.not_eq_true', Bool.or_eq_false_iff, Bool.and_eq_false_iff, beq_eq_false_iff_ne, ne_eq, beq_iff_eq, decide_eq_true_eq, decide_eq_false_iff_not, bne_iff_ne, bne_eq_false_iff_eq] at zz; omega))) ((evt za 21).trans (optVal (zc.dep 11 21 (by kernel_rfl)) rfl zβ)) (by first | omega | (have zz := zβ; simp only [Bool.and_eq_true, Bool.or_eq_true, Bool.true_and, Bool.not_eq_true', Bool.or_eq_false_iff, Bool.and_eq_false_iff, beq_eq_false_iff_ne, ne_eq, beq_iff_eq, decide_eq_true_eq, decide_eq_false_iff_not, bne_iff_ne, bne_eq_false_iff_eq] at zz; omega)) ⟨_, rfl, Below.refl _ _, optDef zβ rfl⟩
    refine ⟨⟨_, .yes (c := (decide ((0 : Int) < (((k : Nat) : Int) : Int)))) (d := (true && !(decide (((dget l k).var : Int) < (0 : Int))))) rfl (fun v w h => h), fun h w => optUndef h, fun zβ za zw zc => ?_⟩, ?_⟩
    ·exact fld_44_0 rfl ((evt za 22).trans (optVal (zc.dep 12 22 (by kernel_rfl)) rfl zβ)) ⟨_, rfl, Below.refl _ _, optDef zβ rfl⟩
    refine ⟨⟨_, .yes (c := (decide ((0 : Int) < (((k : Nat) : Int) : Int)))) (d := (true && !(decide (((dget l k).var : Int) < (0 : Int))))) rfl (fun v w h => h), fun h w => optUndef h, fun zβ za zw zc => ?_⟩, ?_⟩
    ·exact ld_3 rfl ((evt za 23).trans (optVal (zc.dep 13 23 (by kernel_rfl)) rfl zβ)) (bkeeps (bstep hb2 zc.below) _ _ (hc9 k (by first | omega | (have zz := zβ; simp only [Bool.and_eq_true, Bool.or_eq_true, Bool.true_and, Bool.not_eq_true', Bool.or_eq_false_iff, Bool.and_eq_false_iff, beq_eq_false_iff_ne, ne_eq, beq_iff_eq, decide_eq_true_eq, decide_eq_false_iff_not, bne_iff_ne, bne_eq_false_iff_eq] at zz; omega))).1) ⟨_, rfl, Below.refl _ _, optDef zβ rfl⟩
    refine ⟨⟨_, .yes (c := (decide ((0 : Int) < (((k : Nat) : Int) : Int)))) (d := (true && !(decide (((dget l k).var : Int) < (0 : Int))))) rfl (fun v w h => h), fun h w => optUndef h, fun zβ za zw zc => ?_⟩, ?_⟩
    ·exact wp_move rfl (zc.kn.ev rfl) ⟨_, rfl, Below.refl _ _, optDef zβ rfl⟩
    refine ⟨⟨_, .yes (c := (decide ((0 : Int) < (((k : Nat) : Int) : Int)))) (d := (true && !(decide (((dget l k).var : Int) < (0 : Int))))) rfl (fun v w h => h), fun h w => optUndef h, fun zβ za zw zc => ?_⟩, ?_⟩
    ·exact wp_move rfl (zc.kn.ev rfl) ⟨_, rfl, Below.refl _ _, optDef zβ rfl⟩
    refine ⟨⟨_, .yes (c := (decide ((0 : Int) < (((k : Nat) : Int) : Int)))) (d := (true && !(decide (((dget l k).var : Int) < (0 : Int))))) rfl (fun v w h => h), fun h w => optUndef h, fun zβ za zw zc => ?_⟩, ?_⟩
    ·exact subb_3 rfl ((evt za 26).trans (optVal (zc.dep 16 26 (by kernel_rfl)) rfl zβ)) (zc.kn.ev rfl) (wrap_eq (by have zz := zβ; simp at zz; omega) (by omega) (by omega)) ⟨_, rfl, Below.refl _ _, optDef zβ rfl⟩
    refine ⟨⟨_, .yes (c := (decide ((0 : Int) < (((k : Nat) : Int) : Int)))) (d := (true && !(decide (((dget l k).var : Int) < (0 : Int))))) rfl (fun v w h => h), fun h w => optUndef h, fun zβ za zw zc => ?_⟩, ?_⟩
    ·exact ix_34 (k := (k - 1)) rfl ((evt za 25).trans (optVal (zc.dep 15 25 (by kernel_rfl)) rfl zβ)) (ha8 ((k - 1)) (by first | omega | (have zz := zβ; simp only [Bool.and_eq_true, Bool.or_eq_true, Bool.true_and, Bool.not_eq_true', Bool.or_eq_false_iff, Bool.and_eq_false_iff, beq_eq_false_iff_ne, ne_eq, beq_iff_eq, decide_eq_true_eq, decide_eq_false_iff_not, bne_iff_ne, bne_eq_false_iff_eq] at zz; omega))) ((evt za 27).trans (optVal (zc.dep 17 27 (by kernel_rfl)) rfl zβ)) (by first | omega | (have zz := zβ; simp only [Bool.and_eq_true, Bool.or_eq_true, Bool.true_and, Bool.not_eq_true', Bool.or_eq_false_iff, Bool.and_eq_false_iff, beq_eq_false_iff_ne, ne_eq, beq_iff_eq, decide_eq_true_eq, decide_eq_false_iff_not, bne_iff_ne, bne_eq_false_iff_eq] at zz; omega)) ⟨_, rfl, Below.refl _ _, optDef zβ rfl⟩
    refine ⟨⟨_, .yes (c := (decide ((0 : Int) < (((k : Nat) : Int) : Int)))) (d := (true && !(decide (((dget l k).var : Int) < (0 : Int))))) rfl (fun v w h => h), fun h w => optUndef h, fun zβ za zw zc => ?_⟩, ?_⟩
    ·exact fld_44_0 rfl ((evt za 28).trans (optVal (zc.dep 18 28 (by kernel_rfl)) rfl zβ)) ⟨_, rfl, Below.refl _ _, optDef zβ rfl⟩
    refine ⟨⟨_, .yes (c := (decide ((0 : Int) < (((k : Nat) : Int) : Int)))) (d := (true && !(decide (((dget l k).var : Int) < (0 : Int))))) rfl (fun v w h => h), fun h w => optUndef h, fun zβ za zw zc => ?_⟩, ?_⟩
    ·exact ld_3 rfl ((evt za 29).trans (optVal (zc.dep 19 29 (by kernel_rfl)) rfl zβ)) (bkeeps (bstep hb2 zc.below) _ _ (hc9 ((k - 1)) (by first | omega | (have zz := zβ; simp only [Bool.and_eq_true, Bool.or_eq_true, Bool.true_and, Bool.not_eq_true', Bool.or_eq_false_iff, Bool.and_eq_false_iff, beq_eq_false_iff_ne, ne_eq, beq_iff_eq, decide_eq_true_eq, decide_eq_false_iff_not, bne_iff_ne, bne_eq_false_iff_eq] at zz; omega))).1) ⟨_, rfl, Below.refl _ _, optDef zβ rfl⟩
    refine ⟨⟨_, .yes (c := (decide ((0 : Int) < (((k : Nat) : Int) : Int)))) (d := (true && !(decide (((dget l k).var : Int) < (0 : Int))))) rfl (fun v w h => h), fun h w => optUndef h, fun zβ za zw zc => ?_⟩, ?_⟩
    ·exact leq_3 rfl ((evt za 24).trans (optVal (zc.dep 14 24 (by kernel_rfl)) rfl zβ)) ((evt za 30).trans (optVal (zc.dep 20 30 (by kernel_rfl)) rfl zβ)) ⟨_, rfl, Below.refl _ _, optDef zβ rfl⟩
    refine ⟨⟨_, .no (c := (decide (((dget l k).var : Int) < (0 : Int)))) (d := true) rfl (fun v w h => h), fun h w => optUndef h, fun zβ za zw zc => ?_⟩, ?_⟩
    ·exact wp_and rfl ((evt za 19).trans (optVal (zc.dep 9 19 (by kernel_rfl)) rfl zβ)) (fun hp => ((evt za 31).trans (optVal (zc.dep 21 31 (by kernel_rfl)) rfl (bMk zβ hp)))) ⟨_, rfl, Below.refl _ _, optDef zβ rfl⟩
    refine ⟨⟨true, .none rfl, fun h w => optUndef h, fun zβ za zw zc => ?_⟩, ?_⟩
    ·exact wp_or rfl ((evt za 16).trans (optVal (zc.dep 6 16 (by kernel_rfl)) rfl rfl)) (fun hp => ((evt za 32).trans (optVal (zc.dep 22 32 (by kernel_rfl)) rfl (bMkN zβ hp)))) ⟨_, rfl, Below.refl _ _, optDef zβ rfl⟩
    refine ⟨⟨true, .none rfl, fun h w => optUndef h, fun zβ za zw zc => ?_⟩, ?_⟩
    ·exact wp_move rfl ((evt za 33).trans (optVal (zc.dep 23 33 (by kernel_rfl)) rfl rfl)) ⟨_, rfl, Below.refl _ _, optDef zβ rfl⟩
    refine ⟨⟨_, .no (c := ((decide (((dget l k).var : Int) < (0 : Int))) || ((decide ((0 : Int) < (((k : Nat) : Int) : Int))) && (decide (((dget l k).var : Int) ≤ ((dget l ((k - 1))).var : Int)))))) (d := true) rfl (fun v w h => h), fun h w => optUndef h, fun zβ za zw zc => ?_⟩, ?_⟩
    ·exact wp_move rfl (zc.kn.ev rfl) ⟨_, rfl, Below.refl _ _, optDef zβ rfl⟩
    refine ⟨⟨_, .no (c := ((decide (((dget l k).var : Int) < (0 : Int))) || ((decide ((0 : Int) < (((k : Nat) : Int) : Int))) && (decide (((dget l k).var : Int) ≤ ((dget l ((k - 1))).var : Int)))))) (d := true) rfl (fun v w h => h), fun h w => optUndef h, fun zβ za zw zc => ?_⟩, ?_⟩
    ·exact wp_move rfl (zc.kn.ev rfl) ⟨_, rfl, Below.refl _ _, optDef zβ rfl⟩
    refine ⟨⟨_, .no (c := ((decide (((dget l k).var : Int) < (0 : Int))) || ((decide ((0 : Int) < (((k : Nat) : Int) : Int))) && (decide (((dget l k).var : Int) ≤ ((dget l ((k - 1))).var : Int)))))) (d := true) rfl (fun v w h => h), fun h w => optUndef h, fun zβ za zw zc => ?_⟩, ?_⟩
    ·exact ix_34 (k := k) rfl ((evt za 35).trans (optVal (zc.dep 25 35 (by kernel_rfl)) rfl zβ)) (ha8 k (by first | omega | (have zz := zβ; simp only [Bool.and_eq_true, Bool.or_eq_true, Bool.true_and, Bool.not_eq_true', Bool.or_eq_false_iff, Bool.and_eq_false_iff, beq_eq_false_iff_ne, ne_eq, beq_iff_eq, decide_eq_true_eq, decide_eq_false_iff_not, bne_iff_ne, bne_eq_false_iff_eq] at zz; omega))) ((evt za 36).trans (optVal (zc.dep 26 36 (by kernel_rfl)) rfl zβ)) (by first | omega | (have zz := zβ; simp only [Bool.and_eq_true, Bool.or_eq_true, Bool.true_and, Bool.not_eq_true', Bool.or_eq_false_iff, Bool.and_eq_false_iff, beq_eq_false_iff_ne, ne_eq, beq_iff_eq, decide_eq_true_eq, decide_eq_false_iff_not, bne_iff_ne, bne_eq_false_iff_eq] at zz; omega)) ⟨_, rfl, Below.refl _ _, optDef zβ rfl⟩
    refine ⟨⟨_, .no (c := ((decide (((dget l k).var : Int) < (0 : Int))) || ((decide ((0 : Int) < (((k : Nat) : Int) : Int))) && (decide (((dget l k).var : Int) ≤ ((dget l ((k - 1))).var : Int)))))) (d := true) rfl (fun v w h => h), fun h w => optUndef h, fun zβ za zw zc => ?_⟩, ?_⟩
    ·exact fld_44_1 rfl ((evt za 37).trans (optVal (zc.dep 27 37 (by kernel_rfl)) rfl zβ)) ⟨_, rfl, Below.refl _ _, optDef zβ rfl⟩
    refine ⟨⟨_, .no (c := ((decide (((dget l k).var : Int) < (0 : Int))) || ((decide ((0 : Int) < (((k : Nat) : Int) : Int))) && (decide (((dget l k).var : Int) ≤ ((dget l ((k - 1))).var : Int)))))) (d := true) rfl (fun v w h => h), fun h w => optUndef h, fun zβ za zw zc => ?_⟩, ?_⟩
    ·exact ld_30 rfl ((evt za 38).trans (optVal (zc.dep 28 38 (by kernel_rfl)) rfl zβ)) (bkeeps (bstep hb2 zc.below) _ _ (hc9 k (by first | omega | (have zz := zβ; simp only [Bool.and_eq_true, Bool.or_eq_true, Bool.true_and, Bool.not_eq_true', Bool.or_eq_false_iff, Bool.and_eq_false_iff, beq_eq_false_iff_ne, ne_eq, beq_iff_eq, decide_eq_true_eq, decide_eq_false_iff_not, bne_iff_ne, bne_eq_false_iff_eq] at zz; omega))).2.1) (bkeeps (bstep hb2 zc.below) _ _ (hc9 k (by first | omega | (have zz := zβ; simp only [Bool.and_eq_true, Bool.or_eq_true, Bool.true_and, Bool.not_eq_true', Bool.or_eq_false_iff, Bool.and_eq_false_iff, beq_eq_false_iff_ne, ne_eq, beq_iff_eq, decide_eq_true_eq, decide_eq_false_iff_not, bne_iff_ne, bne_eq_false_iff_eq] at zz; omega))).2.2.1) ⟨_, rfl, Below.refl _ _, optDef zβ rfl⟩
    refine ⟨⟨_, .no (c := ((decide (((dget l k).var : Int) < (0 : Int))) || ((decide ((0 : Int) < (((k : Nat) : Int) : Int))) && (decide (((dget l k).var : Int) ≤ ((dget l ((k - 1))).var : Int)))))) (d := true) rfl (fun v w h => h), fun h w => optUndef h, fun zβ za zw zc => ?_⟩, ?_⟩
    ·exact wp_move rfl (zc.kn.ev rfl) ⟨_, rfl, Below.refl _ _, optDef zβ rfl⟩
    refine ⟨⟨_, .no (c := ((decide (((dget l k).var : Int) < (0 : Int))) || ((decide ((0 : Int) < (((k : Nat) : Int) : Int))) && (decide (((dget l k).var : Int) ≤ ((dget l ((k - 1))).var : Int)))))) (d := true) rfl (fun v w h => h), fun h w => optUndef h, fun zβ za zw zc => ?_⟩, ?_⟩
    ·exact wp_move rfl (zc.kn.ev rfl) ⟨_, rfl, Below.refl _ _, optDef zβ rfl⟩
    refine ⟨⟨_, .no (c := ((decide (((dget l k).var : Int) < (0 : Int))) || ((decide ((0 : Int) < (((k : Nat) : Int) : Int))) && (decide (((dget l k).var : Int) ≤ ((dget l ((k - 1))).var : Int)))))) (d := true) rfl (fun v w h => h), fun h w => optUndef h, fun zβ za zw zc => ?_⟩, ?_⟩
    ·exact ix_34 (k := k) rfl ((evt za 40).trans (optVal (zc.dep 30 40 (by kernel_rfl)) rfl zβ)) (ha8 k (by first | omega | (have zz := zβ; simp only [Bool.and_eq_true, Bool.or_eq_true, Bool.true_and, Bool.not_eq_true', Bool.or_eq_false_iff, Bool.and_eq_false_iff, beq_eq_false_iff_ne, ne_eq, beq_iff_eq, decide_eq_true_eq, decide_eq_false_iff_not, bne_iff_ne, bne_eq_false_iff_eq] at zz; omega))) ((evt za 41).trans (optVal (zc.dep 31 41 (by kernel_rfl)) rfl zβ)) (by first | omega | (have zz := zβ; simp only [Bool.and_eq_true, Bool.or_eq_true, Bool.true_and, Bool.not_eq_true', Bool.or_eq_false_iff, Bool.and_eq_false_iff, beq_eq_false_iff_ne, ne_eq, beq_iff_eq, decide_eq_true_eq, decide_eq_false_iff_not, bne_iff_ne, bne_eq_false_iff_eq] at zz; omega)) ⟨_, rfl, Below.refl _ _, optDef zβ rfl⟩
    refine ⟨⟨_, .no (c := ((decide (((dget l k).var : Int) < (0 : Int))) || ((decide ((0 : Int) < (((k : Nat) : Int) : Int))) && (decide (((dget l k).var : Int) ≤ ((dget l ((k - 1))).var : Int)))))) (d := true) rfl (fun v w h => h), fun h w => optUndef h, fun zβ za zw zc => ?_⟩, ?_⟩
    ·exact fld_44_0 rfl ((evt za 42).trans (optVal (zc.dep 32 42 (by kernel_rfl)) rfl zβ)) ⟨_, rfl, Below.refl _ _, optDef zβ rfl⟩
    refine ⟨⟨_, .no (c := ((decide (((dget l k).var : Int) < (0 : Int))) || ((decide ((0 : Int) < (((k : Nat) : Int) : Int))) && (decide (((dget l k).var : Int) ≤ ((dget l ((k - 1))).var : Int)))))) (d := true) rfl (fun v w h => h), fun h w => optUndef h, fun zβ za zw zc => ?_⟩, ?_⟩
    ·exact ld_3 rfl ((evt za 43).trans (optVal (zc.dep 33 43 (by kernel_rfl)) rfl zβ)) (bkeeps (bstep hb2 zc.below) _ _ (hc9 k (by first | omega | (have zz := zβ; simp only [Bool.and_eq_true, Bool.or_eq_true, Bool.true_and, Bool.not_eq_true', Bool.or_eq_false_iff, Bool.and_eq_false_iff, beq_eq_false_iff_ne, ne_eq, beq_iff_eq, decide_eq_true_eq, decide_eq_false_iff_not, bne_iff_ne, bne_eq_false_iff_eq] at zz; omega))).1) ⟨_, rfl, Below.refl _ _, optDef zβ rfl⟩
    refine ⟨⟨_, .no (c := ((decide (((dget l k).var : Int) < (0 : Int))) || ((decide ((0 : Int) < (((k : Nat) : Int) : Int))) && (decide (((dget l k).var : Int) ≤ ((dget l ((k - 1))).var : Int)))))) (d := true) rfl (fun v w h => h), fun h w => optUndef h, fun zβ za zw zc => ?_⟩, ?_⟩
    ·exact wp_call (by kernel_rfl) rfl (hv2 ((evt za 39).trans (optVal (zc.dep 29 39 (by kernel_rfl)) rfl zβ)) ((evt za 44).trans (optVal (zc.dep 34 44 (by kernel_rfl)) rfl zβ))) (ritself_any (dget l k) _ _ (hc9 k (by first | omega | (have zz := zβ; simp only [Bool.and_eq_true, Bool.or_eq_true, Bool.true_and, Bool.not_eq_true', Bool.or_eq_false_iff, Bool.and_eq_false_iff, beq_eq_false_iff_ne, ne_eq, beq_iff_eq, decide_eq_true_eq, decide_eq_false_iff_not, bne_iff_ne, bne_eq_false_iff_eq] at zz; omega))).2.2.2.2 (IsT.below (bstep hb2 zc.below) (InT.isT (hc9 k (by first | omega | (have zz := zβ; simp only [Bool.and_eq_true, Bool.or_eq_true, Bool.true_and, Bool.not_eq_true', Bool.or_eq_false_iff, Bool.and_eq_false_iff, beq_eq_false_iff_ne, ne_eq, beq_iff_eq, decide_eq_true_eq, decide_eq_false_iff_not, bne_iff_ne, bne_eq_false_iff_eq] at zz; omega))).2.2.2.1))) (fun v w' h => ⟨v, rfl, h.2, optDef zβ h.1⟩)
    refine ⟨⟨true, .none rfl, fun h w => optUndef h, fun zβ za zw zc => ?_⟩, ?_⟩
    ·exact wp_or rfl ((evt za 34).trans (optVal (zc.dep 24 34 (by kernel_rfl)) rfl rfl)) (fun hp => ((evt za 45).trans (optVal (zc.dep 35 45 (by kernel_rfl)) rfl (bMkN zβ hp)))) ⟨_, rfl, Below.refl _ _, optDef zβ rfl⟩
    exact trivial
   ·intro za w10 zh hb11 zu
    have zh := zh.cons (d := 46) (v := .bool ((((decide (((dget l k).var : Int) < (0 : Int))) || ((decide ((0 : Int) < (((k : Nat) : Int) : Int))) && (decide (((dget l k).var : Int) ≤ ((dget l ((k - 1))).var : Int))))) || (dget l k).itself))) (optVal (zu 36 46 (by kernel_rfl)) rfl rfl)
    clear zu
    refine WE.go zh ?_
    refine WE.next ?_
    refine WC.cond rfl (fun h12 => ?_) (fun h12 => ?_)
    ·have h12 : ((((dget l k).var : Int) < (0 : Int)) ∨ (((0 : Int) < (((k : Nat) : Int) : Int)) ∧ (((dget l k).var : Int) ≤ ((dget l ((k - 1))).var : Int)))) ∨ ((dget l k).itself = true) := by simpa using h12
     refine WC.seq (WC.region (WL.asg rfl rfl rfl rfl rfl (WL.nil (WE.next (WC.ret (WE.blockRet (WE.thenRet (WE.thenRet (WE.blockRet (WE.thenRet (WE.ret1 rfl rfl ?_)))))))))))
     have hb13 : Below w.heap.size w w10 := (bstep hb2 hb11)
     exact ⟨_, rfl, congrArg (Value.int .i64) (by rw [subCheck_of (okTo_no (k := k) (by omega) (by rcases h12 with (h | ⟨h, h2⟩) | h; exact .inl h; exact .inr (.inl ⟨by omega, h2⟩); exact .inr (.inr h)))]; rfl), hb13⟩
    ·have h12 : ¬ (((((dget l k).var : Int) < (0 : Int)) ∨ (((0 : Int) < (((k : Nat) : Int) : Int)) ∧ (((dget l k).var : Int) ≤ ((dget l ((k - 1))).var : Int)))) ∨ ((dget l k).itself = true)) := by simpa using h12
     refine WC.skip (WE.blockNormal (WE.next (WC.region (WL.mv rfl rfl rfl rfl rfl ?_))))
     refine WL.val (.int .i64 ((((k + 1) : Nat) : Int))) rfl rfl rfl (fun za zC zh zk => addb_3 rfl (zh.ev rfl) (zh.ev rfl) (wrap_eq (by omega) (by omega) (by omega)) zk) ?_
     refine WL.asg rfl rfl rfl rfl rfl (WL.nil ?_)
     refine WE.round (k + 1) ⟨rfl, rfl, trivial⟩ ?_ ?_
     ·have hb14 : Below w.heap.size w w10 := (bstep hb2 hb11)
      exact ⟨by omega, fun i hi => by rcases Nat.lt_or_ge i k with q | q; exact hE i q; (obtain rfl : i = k := by omega); have z := h12; simp at z; exact ⟨z.1.1, z.2, fun h0 => z.1.2 h0⟩, hb14⟩
     ·omega
  ·have h3 : ¬ ((((k : Nat) : Int) : Int) < (((l.length : Nat) : Int) : Int)) := by simpa using h3
   refine WC.exit (WE.thenExit (WE.thenExit (WE.blockIs rfl (WE.next (WC.seq (WC.region (WL.asg rfl rfl rfl rfl rfl (WL.nil (WE.next (WC.ret (WE.ret1 rfl rfl ?_)))))))))))
   exact ⟨_, rfl, congrArg (Value.int .i64) (by rw [subCheck_of (okTo_ok (fun i hi => hE i (by omega)))]; rfl), hb2⟩
end Go.Proofs.Ytmdpiafeiopimaa
