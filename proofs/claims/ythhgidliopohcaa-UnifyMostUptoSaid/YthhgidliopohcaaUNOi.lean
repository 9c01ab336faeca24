/- Arguments of a law, opened: substitutions. -/
import Derived.Test.YthhgidliopohcaaUNOh
import Derived.Test.YthhgidliopohcaaUNOg
import Derived.Test.YthhgidliopohcaaUNOc
import Derived.Test.YthhgidliopohcaaUNOa
import Derived.WalkKit
import Derived.ProofKit
import Derived.JoinedCond
import Derived.OpenShut

/- Terms, bindings: the program and the document. -/
namespace Go.Proofs.Ythhgidliopohcaa
open Go.RowKit Go
set_option linter.unusedVariables false
set_option linter.unusedSimpArgs false
set_option maxRecDepth 100000 in
theorem apply_any (s : List Bd) (t : T) (w : World) (v : Value) (sa : Option Addr) (sc : Nat) (hz : t.size ≤ 4294967296) (hv : IsT w t v) (hs : IsSub w s sa sc) : Calls Try.prog 20 #[.slice sa s.length sc, v] w (Ret fun v' w' => NewT w w' (t.app s) v' ∧ Below w.heap.size w w') := by
 obtain ⟨hf, a, c, rfl, hc, hm, hl⟩ := hv.form
 refine Calls.walk (l := [.slice sa s.length sc, .agg #[.int .i64 t.f, .slice a t.args.length c]]) Try.func20 rfl (by kernel_rfl) ?_
 refine WC.sub (K' := [(0, .slice sa s.length sc), (1, .agg #[.int .i64 t.f, .slice a t.args.length c])]) ⟨rfl, rfl, trivial⟩ ?_
 refine WC.seq (WC.region ?_)
 refine WL.step (post := NewBlk w 24 #[.slice sa s.length sc]) rfl rfl rfl (fun za zC zh zk => box_24 rfl (zh.ev rfl) (zk _ _ (newBlk _ _ _))) ?_
 rintro _ w1 ⟨g2, rfl, hg3, hB4, hb5, hz6⟩
 have hl7 : w.heap.size ≤ g2 := by omega
 refine WL.step (post := NewBlk w1 32 #[.int .i64 t.f, .slice a t.args.length c]) rfl rfl rfl (fun za zC zh zk => box_32 rfl (zh.ev rfl) (zk _ _ (newBlk _ _ _))) ?_
 rintro _ w8 ⟨g9, rfl, hg10, hB11, hb12, hz13⟩
 have hl14 : g2 < g9 := by have z1 := hB4.lt; omega
 have hl15 : w.heap.size ≤ g9 := by have z2 := (hb5).size; omega
 refine WL.step (post := NewBlk w8 32 #[.int .i64 0, .slice none 0 0]) rfl rfl rfl (fun za zC zh zk => alloc_32 rfl (zk _ _ (newBlk _ _ _))) ?_
 rintro _ w16 ⟨g17, rfl, hg18, hB19, hb20, hz21⟩
 have hl22 : g2 < g17 := by have z1 := hB4.lt; have z2 := (hb12).size; omega
 have hl23 : g9 < g17 := by have z1 := hB11.lt; omega
 have hb24 : Below w.heap.size w w8 := (bstep hb5 hb12)
 have hl25 : w.heap.size ≤ g17 := by have z2 := (hb24).size; omega
 refine WL.nil (WE.next (WC.seq (WC.region ?_)))
 have hB26 := hB11.below hb20
 refine WL.val _ rfl rfl rfl (fun za zC zh zk => ld_32 rfl (zh.ev rfl) ((hB26.cell 0).trans rfl) ((hB26.cell 1).trans rfl) zk) ?_
 refine WL.val (.func (Fn.func 36) #[] #[.pointer (some ⟨g2, 0, none⟩)]) rfl rfl rfl (fun za zC zh zk => mkfn rfl (hv0) (hv1 (zh.ev rfl)) zk) ?_
 have hb28 : Below w1.heap.size w1 w16 := (bstep hb12 hb20)
 have hB27 := hB4.below hb28
 have hb29 : Below w.heap.size w w16 := (bstep hb5 hb28)
 have hl33 : g2 < w16.heap.size := by have z1 := hB27.lt; omega
 have hl34 : g9 < w16.heap.size := by have z1 := hB26.lt; omega
 have hl35 : g17 < w16.heap.size := by have z1 := hB19.lt; omega
 have hl36 : w.heap.size ≤ w16.heap.size := (hb29).size
 refine WL.call rfl rfl rfl (fun za zh zC => wp_call (by kernel_rfl) rfl (hv2 (zh.ev rfl) (zh.ev rfl))) (each_any s sa sc _ t _ _ hz (IsT.below hb29 hv) (hs.below hb29) hB27) ?_
 rintro v30 w37 ⟨hn31, hb32⟩
 obtain ⟨_, a38, c39, rfl, _, _, _⟩ := hn31.form
 have hB40 := hB19.below hb32
 refine WL.step (post := fun _ w' => Upd g17 w37 w' ∧ Blk w' g17 32 #[.int .i64 ((t.app s).f), .slice a38 ((t.app s).args.length) c39]) rfl rfl rfl (fun za zC zh zk => st_32 rfl (zh.ev rfl) (zh.ev rfl) rfl rfl hB40 (by first | decide | simp) (fun v => zk v _ ⟨(Upd.at_ _ _ _ _).trans (Upd.at_ _ _ _ _), (hB40.set_ 0 _).set_ 1 _⟩)) ?_
 rintro v44 w41 ⟨hu42, hB43⟩
 have hb45 : Below w.heap.size w w37 := (bstep hb29 hb32)
 have hb46 := upd_below hb45 hu42 (by omega)
 have hB47 := hB27.below hb32
 have hB48 := upd_blk hB47 hu42 (by omega)
 have hB49 := hB26.below hb32
 have hB50 := upd_blk hB49 hu42 (by omega)
 have ho51 := hn31.upd hu42 (by omega)
 refine WL.nil (WE.next (WC.ret ?_))
 refine WE.retAny (v := .agg #[.int .i64 ((t.app s).f), .slice a38 ((t.app s).args.length) c39]) (fun za zh => ?_) ?_
 ·have z0 : za.tmps[4]?.getD undef = .pointer (some ⟨g17, 0, none⟩) := by rw [← Array.getD_eq_getD_getElem?]; exact zh.knows 4 _ rfl
  have y0_0 : w41.cell? ⟨g17, 0, none⟩ = some (.int .i64 ((t.app s).f)) := ((hB43.cell 0).trans rfl)
  have y0_1 : w41.cell? ⟨g17, 1, none⟩ = some (.slice a38 ((t.app s).args.length) c39) := ((hB43.cell 1).trans rfl)
  simp [results, Try.results20, z0, y0_0, y0_1, go_sem]
 ·have hgz := (hb29).size
  exact ⟨_, rfl, (ho51).mono (fun b hb _ => by omega), hb46⟩
/-- What Get tells. -/
def GetIs (w w' : World) (o : Option T) (v : Value) : Prop := ∃ u, v = .tuple #[u, .bool o.isSome] ∧ NewT w w' (o.getD (.mk 0 [])) u
theorem newT_zero (w w' : World) : NewT w w' (.mk 0 []) (.agg #[.int .i64 0, .slice none 0 0]) := newT_leaf (by unfold I64; omega)
set_option maxRecDepth 100000 in
theorem rget_any (s : List Bd) (m : Int) (w : World) (sa : Option Addr) (sc : Nat) (hs : IsSub w s sa sc) : Calls Try.prog 34 #[.slice sa s.length sc, .int .i64 m] w (Ret fun v' w' => GetIs w w' (subFind s m) v' ∧ Below w.heap.size w w') := by
 have hcap := hs.cap
 have hsm := hs.small
 unfold maxLen at hcap
 refine Calls.walk (l := [.slice sa s.length sc, .int .i64 m]) Try.func34 rfl (by kernel_rfl) ?_
 refine WC.sub (K' := [(0, .slice sa s.length sc), (1, .int .i64 m)]) ⟨rfl, rfl, trivial⟩ ?_
 refine WC.seq (WC.region ?_)
 refine WL.step (post := NewBlk w 32 #[.int .i64 0, .slice none 0 0]) rfl rfl rfl (fun za zC zh zk => alloc_32 rfl (zk _ _ (newBlk _ _ _))) ?_
 rintro _ w1 ⟨g2, rfl, hg3, hB4, hb5, hz6⟩
 have hl7 : w.heap.size ≤ g2 := by omega
 refine WL.asg rfl rfl rfl rfl rfl (WL.nil (WE.next (WC.seq (WC.seq (WC.region (WL.asg rfl rfl rfl rfl rfl (WL.nil (WE.next (WC.block ?_)))))))))
 refine WC.loop (X := Nat) (fun k => s.length - k) (fun k => [(0, .slice sa s.length sc), (1, .int .i64 m), (4, .pointer (some ⟨g2, 0, none⟩)), (6, .int .i64 (((k : Nat) : Int)))]) (fun k w8 => k ≤ s.length ∧ (∀ i, i < k → (dget s i).var ≠ m) ∧ Below w.heap.size w w8 ∧ Blk w8 g2 32 #[.int .i64 0, .slice none 0 0]) 0 ⟨rfl, rfl, rfl, rfl, trivial⟩ ?_ ?_
 ·exact ⟨Nat.zero_le _, fun i h => absurd h (Nat.not_lt_zero i), hb5, hB4⟩
 ·rintro k w8 ⟨hk, hne, hb9, hB10⟩
  refine WC.seq (WC.seq (WC.region (WL.mv rfl rfl rfl rfl rfl (WL.mv rfl rfl rfl rfl rfl ?_))))
  refine WL.val (.int .i64 (((s.length : Nat) : Int))) rfl rfl rfl (fun za zC zh zk => len_24 rfl (zh.ev rfl) zk) ?_
  refine WL.val (.bool ((decide ((((k : Nat) : Int) : Int) < (((s.length : Nat) : Int) : Int))))) rfl rfl rfl (fun za zC zh zk => lss_3 rfl (zh.ev rfl) (zh.ev rfl) zk) ?_
  refine WL.nil (WE.next ?_)
  refine WC.cond rfl (fun h11 => ?_) (fun h11 => ?_)
  ·have h11 : (((k : Nat) : Int) : Int) < (((s.length : Nat) : Int) : Int) := by simpa using h11
   refine WC.skip (WE.next (WC.seq (WC.block (WC.seq (WC.region (WL.mv rfl rfl rfl rfl rfl (WL.mv rfl rfl rfl rfl rfl ?_)))))))
   obtain ⟨b12, o13, A14, C15, ha16, hc17⟩ := InRow.openB hs.rows
   refine WL.val _ rfl rfl rfl (fun za zC zh zk => ix_24 (k := k) rfl (zh.ev rfl) (ha16 k (by first | omega | (simp; omega))) (zh.ev rfl) (by first | omega | (simp; omega)) zk) ?_
   refine WL.val _ rfl rfl rfl (fun za zC zh zk => fld_41_0 rfl (zh.ev rfl) zk) ?_
   refine WL.val _ rfl rfl rfl (fun za zC zh zk => ld_3 rfl (zh.ev rfl) (bkeeps hb9 _ _ (hc17 k (by first | omega | (simp; omega))).1) zk) ?_
   refine WL.mv rfl rfl rfl rfl rfl ?_
   refine WL.val (.bool ((((dget s k).var : Int) == (m : Int)))) rfl rfl rfl (fun za zC zh zk => eql_3 rfl (zh.ev rfl) (zh.ev rfl) zk) ?_
   refine WL.nil (WE.next ?_)
   refine WC.cond rfl (fun h18 => ?_) (fun h18 => ?_)
   ·have h18 : ((dget s k).var : Int) = (m : Int) := by simpa using h18
    refine WC.seq (WC.region (WL.mv rfl rfl rfl rfl rfl (WL.mv rfl rfl rfl rfl rfl ?_)))
    refine WL.val _ rfl rfl rfl (fun za zC zh zk => ix_24 (k := k) rfl (zh.ev rfl) (ha16 k (by first | omega | (simp; omega))) (zh.ev rfl) (by first | omega | (simp; omega)) zk) ?_
    refine WL.val _ rfl rfl rfl (fun za zC zh zk => fld_41_1 rfl (zh.ev rfl) zk) ?_
    refine WL.val _ rfl rfl rfl (fun za zC zh zk => ld_32 rfl (zh.ev rfl) (bkeeps hb9 _ _ (hc17 k (by first | omega | (simp; omega))).2.1) (bkeeps hb9 _ _ (hc17 k (by first | omega | (simp; omega))).2.2.1) zk) ?_
    have hfound : subFind s m = some (dget s k).t := subFind_at (by omega) h18 hne
    have hl22 : g2 < w8.heap.size := by have z1 := hB10.lt; omega
    have hl23 : w.heap.size ≤ w8.heap.size := (hb9).size
    refine WL.call rfl rfl rfl (fun za zh zC => wp_call (by kernel_rfl) rfl (hv1 (zh.ev rfl))) (rcopy_any (dget s k).t _ _ (hs.found hfound) (IsT.below hb9 (InT.isT (hc17 k (by first | omega | (simp; omega))).2.2.2.1))) ?_
    rintro v19 w24 ⟨hn20, hb21⟩
    obtain ⟨_, a25, c26, rfl, _, _, _⟩ := hn20.form
    have hB27 := hB10.below hb21
    refine WL.step (post := fun _ w' => Upd g2 w24 w' ∧ Blk w' g2 32 #[.int .i64 (((dget s k).t).f), .slice a25 (((dget s k).t).args.length) c26]) rfl rfl rfl (fun za zC zh zk => st_32 rfl (zh.ev rfl) (zh.ev rfl) rfl rfl hB27 (by first | decide | simp) (fun v => zk v _ ⟨(Upd.at_ _ _ _ _).trans (Upd.at_ _ _ _ _), (hB27.set_ 0 _).set_ 1 _⟩)) ?_
    rintro v31 w28 ⟨hu29, hB30⟩
    have hb32 : Below w.heap.size w w24 := (bstep hb9 hb21)
    have hb33 := upd_below hb32 hu29 (by omega)
    have ho34 := hn20.upd hu29 (by omega)
    refine WL.asg rfl rfl rfl rfl rfl (WL.nil (WE.next (WC.ret (WE.blockRet (WE.thenRet (WE.thenRet (WE.blockRet (WE.thenRet ?_))))))))
    refine WE.retAny (v := .tuple #[.agg #[.int .i64 (((dget s k).t).f), .slice a25 (((dget s k).t).args.length) c26], .bool true]) (fun za zh => ?_) ?_
    ·have z0 : za.tmps[4]?.getD undef = .pointer (some ⟨g2, 0, none⟩) := by rw [← Array.getD_eq_getD_getElem?]; exact zh.knows 4 _ rfl
     have y0_0 : w28.cell? ⟨g2, 0, none⟩ = some (.int .i64 (((dget s k).t).f)) := ((hB30.cell 0).trans rfl)
     have y0_1 : w28.cell? ⟨g2, 1, none⟩ = some (.slice a25 (((dget s k).t).args.length) c26) := ((hB30.cell 1).trans rfl)
     have z1 : za.tmps[5]?.getD undef = .bool true := by rw [← Array.getD_eq_getD_getElem?]; exact zh.knows 5 _ rfl
     simp [results, Try.results34, z0, y0_0, y0_1, z1, go_sem]
    ·have hgz := (hb9).size
     exact ⟨_, rfl, ⟨_, by (try rw [hfound]); rfl, by (try rw [hfound]); exact (ho34).mono (fun b hb _ => by omega)⟩, hb33⟩
   ·have h18 : ¬ (((dget s k).var : Int) = (m : Int)) := by simpa using h18
    refine WC.skip (WE.blockNormal (WE.next (WC.region (WL.mv rfl rfl rfl rfl rfl ?_))))
    refine WL.val (.int .i64 ((((k + 1) : Nat) : Int))) rfl rfl rfl (fun za zC zh zk => addb_3 rfl (zh.ev rfl) (zh.ev rfl) (wrap_eq (by omega) (by omega) (by omega)) zk) ?_
    refine WL.asg rfl rfl rfl rfl rfl (WL.nil ?_)
    refine WE.round (k + 1) ⟨rfl, rfl, rfl, rfl, trivial⟩ ?_ ?_
    ·exact ⟨by omega, ne_step hne h18, hb9, hB10⟩
    ·omega
  ·have h11 : ¬ ((((k : Nat) : Int) : Int) < (((s.length : Nat) : Int) : Int)) := by simpa using h11
   refine WC.exit (WE.thenExit (WE.thenExit (WE.blockIs rfl (WE.next (WC.seq (WC.region ?_))))))
   refine WL.val (.agg #[.int .i64 0, .slice none 0 0]) rfl rfl rfl (fun za zC zh zk => build_32_ rfl  zk) ?_
   refine WL.step (post := fun _ w' => Upd g2 w8 w' ∧ Blk w' g2 32 #[.int .i64 0, .slice none 0 0]) rfl rfl rfl (fun za zC zh zk => st_32 rfl (zh.ev rfl) (zh.ev rfl) rfl rfl hB10 (by first | decide | simp) (fun v => zk v _ ⟨(Upd.at_ _ _ _ _).trans (Upd.at_ _ _ _ _), (hB10.set_ 0 _).set_ 1 _⟩)) ?_
   rintro v38 w35 ⟨hu36, hB37⟩
   have hb39 := upd_below hb9 hu36 (by omega)
   refine WL.asg rfl rfl rfl rfl rfl (WL.nil (WE.next (WC.ret ?_)))
   refine WE.retAny (v := .tuple #[.agg #[.int .i64 0, .slice none 0 0], .bool false]) (fun za zh => ?_) ?_
   ·have z0 : za.tmps[4]?.getD undef = .pointer (some ⟨g2, 0, none⟩) := by rw [← Array.getD_eq_getD_getElem?]; exact zh.knows 4 _ rfl
    have y0_0 : w35.cell? ⟨g2, 0, none⟩ = some (.int .i64 0) := ((hB37.cell 0).trans rfl)
    have y0_1 : w35.cell? ⟨g2, 1, none⟩ = some (.slice none 0 0) := ((hB37.cell 1).trans rfl)
    have z1 : za.tmps[5]?.getD undef = .bool false := by rw [← Array.getD_eq_getD_getElem?]; exact zh.knows 5 _ rfl
    simp [results, Try.results34, z0, y0_0, y0_1, z1, go_sem]
   ·have hnone : subFind s m = none := subFind_none (fun i h => hne i (by omega))
    exact ⟨_, rfl, ⟨_, by (try rw [hnone]); rfl, by (try rw [hnone]); exact newT_zero _ _⟩, hb39⟩
theorem isSome_true {o : Option T} (h : o.isSome = true) : o = some (o.getD (.mk 0 [])) := by cases o with | none => cases h | some t => rfl
theorem isSome_false {o : Option T} (h : o.isSome = false) : o = none := by cases o with | none => rfl | some t => cases h
set_option maxRecDepth 100000 in
theorem rapply_any (s : List Bd) (sa : Option Addr) (sc : Nat) : ∀ (t : T) (w : World) (v : Value), t.size ≤ 4294967296 → IsT w t v → IsSub w s sa sc → Calls Try.prog 19 #[.slice sa s.length sc, v] w (Ret fun v' w' => NewT w w' (t.app s) v' ∧ Below w.heap.size w w') := by
 refine T.ind (fun f l ih => ?_)
 intro w v hz hv hs
 have hlen := len_le_sizeL l
 have hz' := hz
 simp only [T.size] at hz'
 obtain ⟨hf, a, c, rfl, hc, hmx, hl⟩ := hv
 have hf' := hf
 unfold I64 at hf'
 refine Calls.walk (l := [.slice sa s.length sc, .agg #[.int .i64 f, .slice a l.length c]]) Try.func19 rfl (by kernel_rfl) ?_
 refine WC.sub (K' := [(0, .slice sa s.length sc), (1, .agg #[.int .i64 f, .slice a l.length c])]) ⟨rfl, rfl, trivial⟩ ?_
 refine WC.seq (WC.region ?_)
 refine WL.step (post := NewBlk w 32 #[.int .i64 f, .slice a l.length c]) rfl rfl rfl (fun za zC zh zk => box_32 rfl (zh.ev rfl) (zk _ _ (newBlk _ _ _))) ?_
 rintro _ w1 ⟨g2, rfl, hg3, hB4, hb5, hz6⟩
 have hl7 : w.heap.size ≤ g2 := by omega
 refine WL.step (post := NewBlk w1 32 #[.int .i64 0, .slice none 0 0]) rfl rfl rfl (fun za zC zh zk => alloc_32 rfl (zk _ _ (newBlk _ _ _))) ?_
 rintro _ w8 ⟨g9, rfl, hg10, hB11, hb12, hz13⟩
 have hl14 : g2 < g9 := by have z1 := hB4.lt; omega
 have hl15 : w.heap.size ≤ g9 := by have z2 := (hb5).size; omega
 refine WL.nil (WE.next (WC.seq (WC.seq (WC.region ?_))))
 refine WL.val _ rfl rfl rfl (fun za zC zh zk => fld_32_0 rfl (zh.ev rfl) zk) ?_
 have hB16 := hB4.below hb12
 refine WL.val _ rfl rfl rfl (fun za zC zh zk => ld_3 rfl (zh.ev rfl) ((hB16.cell 0).trans rfl) zk) ?_
 refine WL.val (.bool ((decide ((f : Int) < (0 : Int))))) rfl rfl rfl (fun za zC zh zk => lss_3 rfl (zh.ev rfl) (zh.ev rfl) zk) ?_
 refine WL.nil (WE.next ?_)
 refine WC.cond rfl (fun h17 => ?_) (fun h17 => ?_)
 ·have h17 : (f : Int) < (0 : Int) := by simpa using h17
  refine WC.seq (WC.region (WL.mv rfl rfl rfl rfl rfl ?_))
  refine WL.val _ rfl rfl rfl (fun za zC zh zk => fld_32_0 rfl (zh.ev rfl) zk) ?_
  refine WL.val _ rfl rfl rfl (fun za zC zh zk => ld_3 rfl (zh.ev rfl) ((hB16.cell 0).trans rfl) zk) ?_
  refine WL.val (.int .i64 ((-1 - f))) rfl rfl rfl (fun za zC zh zk => subb_3 rfl (zh.ev rfl) (zh.ev rfl) (wrap_eq rfl (by omega) (by omega)) zk) ?_
  have hb18 : Below w.heap.size w w8 := (bstep hb5 hb12)
  have hl22 : g2 < w8.heap.size := by have z1 := hB16.lt; omega
  have hl23 : g9 < w8.heap.size := by have z1 := hB11.lt; omega
  have hl24 : w.heap.size ≤ w8.heap.size := (hb18).size
  refine WL.call rfl rfl rfl (fun za zh zC => wp_call (by kernel_rfl) rfl (hv2 (zh.ev rfl) (zh.ev rfl))) (rget_any s (-1 - f) _ _ _ (hs.below hb18)) ?_
  rintro _ w25 ⟨⟨u19, rfl, hn20⟩, hb21⟩
  obtain ⟨_, a26, c27, rfl, _, _, _⟩ := hn20.form
  refine WL.mv rfl rfl rfl rfl rfl ?_
  refine WL.val (.agg #[.int .i64 ((((subFind s (-1 - f)).getD (.mk 0 []))).f), .slice a26 ((((subFind s (-1 - f)).getD (.mk 0 []))).args.length) c27]) rfl rfl rfl (fun za zC zh zk => ext2_0 rfl (zh.ev rfl) zk) ?_
  refine WL.val (.bool ((subFind s (-1 - f)).isSome)) rfl rfl rfl (fun za zC zh zk => ext2_1 rfl (zh.ev rfl) zk) ?_
  refine WL.step (post := NewBlk w25 32 #[.int .i64 0, .slice none 0 0]) rfl rfl rfl (fun za zC zh zk => alloc_32 rfl (zk _ _ (newBlk _ _ _))) ?_
  rintro _ w28 ⟨g29, rfl, hg30, hB31, hb32, hz33⟩
  have hl34 : g2 < g29 := by have z1 := hB16.lt; have z2 := (hb21).size; omega
  have hl35 : g9 < g29 := by have z1 := hB11.lt; have z2 := (hb21).size; omega
  have hb36 : Below w.heap.size w w25 := (bstep hb18 hb21)
  have hl37 : w.heap.size ≤ g29 := by have z2 := (hb36).size; omega
  have hl38 : w25.heap.size ≤ g29 := by omega
  refine WL.step (post := fun _ w' => Upd g29 w28 w' ∧ Blk w' g29 32 #[.int .i64 ((((subFind s (-1 - f)).getD (.mk 0 []))).f), .slice a26 ((((subFind s (-1 - f)).getD (.mk 0 []))).args.length) c27]) rfl rfl rfl (fun za zC zh zk => st_32 rfl (zh.ev rfl) (zh.ev rfl) rfl rfl hB31 (by first | decide | simp) (fun v => zk v _ ⟨(Upd.at_ _ _ _ _).trans (Upd.at_ _ _ _ _), (hB31.set_ 0 _).set_ 1 _⟩)) ?_
  rintro v42 w39 ⟨hu40, hB41⟩
  have hb43 : Below w.heap.size w w28 := (bstep hb36 hb32)
  have hb44 := upd_below hb43 hu40 (by omega)
  have hb45 := upd_below hb32 hu40 (by omega)
  have hb47 : Below w8.heap.size w8 w28 := (bstep hb21 hb32)
  have hB46 := hB16.below hb47
  have hB48 := upd_blk hB46 hu40 (by omega)
  have hB49 := hB11.below hb47
  have hB50 := upd_blk hB49 hu40 (by omega)
  refine WL.asg rfl rfl rfl rfl rfl (WL.nil (WE.next (WC.seq (WC.region (WL.mv rfl rfl rfl rfl rfl (WL.nil (WE.next ?_)))))))
  refine WC.cond rfl (fun h51 => ?_) (fun h51 => ?_)
  ·skip
   refine WC.seq (WC.region ?_)
   refine WL.val _ rfl rfl rfl (fun za zC zh zk => ld_32 rfl (zh.ev rfl) ((hB41.cell 0).trans rfl) ((hB41.cell 1).trans rfl) zk) ?_
   refine WL.step (post := fun _ w' => Upd g9 w39 w' ∧ Blk w' g9 32 #[.int .i64 ((((subFind s (-1 - f)).getD (.mk 0 []))).f), .slice a26 ((((subFind s (-1 - f)).getD (.mk 0 []))).args.length) c27]) rfl rfl rfl (fun za zC zh zk => st_32 rfl (zh.ev rfl) (zh.ev rfl) rfl rfl hB50 (by first | decide | simp) (fun v => zk v _ ⟨(Upd.at_ _ _ _ _).trans (Upd.at_ _ _ _ _), (hB50.set_ 0 _).set_ 1 _⟩)) ?_
   rintro v55 w52 ⟨hu53, hB54⟩
   have hb56 := upd_below hb44 hu53 (by omega)
   have hB57 := upd_blk hB48 hu53 (by omega)
   have hB58 := upd_blk hB41 hu53 (by omega)
   have ho59 := hn20.below hb45
   have ho60 := ho59.upd hu53 (by omega)
   refine WL.nil (WE.next (WC.ret (WE.thenRet ?_)))
   refine WE.retAny (v := .agg #[.int .i64 ((((subFind s (-1 - f)).getD (.mk 0 []))).f), .slice a26 ((((subFind s (-1 - f)).getD (.mk 0 []))).args.length) c27]) (fun za zh => ?_) ?_
   ·have z0 : za.tmps[4]?.getD undef = .pointer (some ⟨g9, 0, none⟩) := by rw [← Array.getD_eq_getD_getElem?]; exact zh.knows 4 _ rfl
    have y0 : w52.cell? ⟨g9, 0, none⟩ = some (.int .i64 ((((subFind s (-1 - f)).getD (.mk 0 []))).f)) := ((hB54.cell 0).trans rfl)
    have y1 : w52.cell? ⟨g9, 1, none⟩ = some (.slice a26 ((((subFind s (-1 - f)).getD (.mk 0 []))).args.length) c27) := ((hB54.cell 1).trans rfl)
    simp [results, Try.results19, z0, y0, y1, go_sem]
   ·have hgz := (hb18).size
    exact ⟨_, rfl, by rw [app_some ‹_› (isSome_true h51)]; exact (ho60).mono (fun b hb _ => by omega), hb56⟩
  ·skip
   refine WC.skip (WE.next (WC.seq (WC.region ?_)))
   refine WL.val _ rfl rfl rfl (fun za zC zh zk => fld_32_0 rfl (zh.ev rfl) zk) ?_
   refine WL.val _ rfl rfl rfl (fun za zC zh zk => ld_3 rfl (zh.ev rfl) ((hB48.cell 0).trans rfl) zk) ?_
   refine WL.val (.agg #[.int .i64 f, .slice none 0 0]) rfl rfl rfl (fun za zC zh zk => build_32_0 rfl (zh.ev rfl) zk) ?_
   refine WL.step (post := NewBlk w39 32 #[.int .i64 0, .slice none 0 0]) rfl rfl rfl (fun za zC zh zk => alloc_32 rfl (zk _ _ (newBlk _ _ _))) ?_
   rintro _ w61 ⟨g62, rfl, hg63, hB64, hb65, hz66⟩
   have hl67 : g2 < g62 := by have z1 := hB48.lt; omega
   have hl68 : g9 < g62 := by have z1 := hB50.lt; omega
   have hl69 : g29 < g62 := by have z1 := hB41.lt; omega
   have hl70 : w.heap.size ≤ g62 := by have z2 := (hb44).size; omega
   have hl71 : w25.heap.size ≤ g62 := by have z2 := (hb45).size; omega
   refine WL.step (post := fun _ w' => Upd g62 w61 w' ∧ Blk w' g62 32 #[.int .i64 f, .slice none 0 0]) rfl rfl rfl (fun za zC zh zk => st_32 rfl (zh.ev rfl) (zh.ev rfl) rfl rfl hB64 (by first | decide | simp) (fun v => zk v _ ⟨(Upd.at_ _ _ _ _).trans (Upd.at_ _ _ _ _), (hB64.set_ 0 _).set_ 1 _⟩)) ?_
   rintro v75 w72 ⟨hu73, hB74⟩
   have hb76 : Below w.heap.size w w61 := (bstep hb44 hb65)
   have hb77 : Below w25.heap.size w25 w61 := (bstep hb45 hb65)
   have hb78 := upd_below hb76 hu73 (by omega)
   have hb79 := upd_below hb77 hu73 (by omega)
   have hB80 := hB48.below hb65
   have hB81 := upd_blk hB80 hu73 (by omega)
   have hB82 := hB50.below hb65
   have hB83 := upd_blk hB82 hu73 (by omega)
   have hB84 := hB41.below hb65
   have hB85 := upd_blk hB84 hu73 (by omega)
   refine WL.nil (WE.next (WC.seq (WC.seq (WC.region (WL.asg rfl rfl rfl rfl rfl (WL.nil (WE.next (WC.block ?_))))))))
   have hl86 : g2 < w72.heap.size := by have z1 := hB81.lt; omega
   have hl87 : g9 < w72.heap.size := by have z1 := hB83.lt; omega
   have hl88 : g29 < w72.heap.size := by have z1 := hB85.lt; omega
   have hl89 : g62 < w72.heap.size := by have z1 := hB74.lt; omega
   have hl90 : w.heap.size ≤ w72.heap.size := (hb78).size
   have hR91 : RowE eltT w72 w72.heap.size 32 none 0 0 [] := RowE.nil
   refine WC.loop (X := Option Addr × Nat × Nat) (fun x => l.length - x.2.2) (fun x => [(0, .slice sa s.length sc), (1, .agg #[.int .i64 f, .slice a l.length c]), (3, .pointer (some ⟨g2, 0, none⟩)), (4, .pointer (some ⟨g9, 0, none⟩)), (5, .pointer (some ⟨g29, 0, none⟩)), (6, .bool ((subFind s (-1 - f)).isSome)), (7, .pointer (some ⟨g62, 0, none⟩)), (8, .int .i64 (((x.2.2 : Nat) : Int))), (11, .bool ((decide ((f : Int) < (0 : Int))))), (20, .bool ((subFind s (-1 - f)).isSome))]) (fun x w92 => x.2.2 ≤ l.length ∧ w72.heap.size ≤ (w92).heap.size ∧ Below w.heap.size w w92 ∧ Blk w92 g2 32 #[.int .i64 f, .slice a l.length c] ∧ Blk w92 g9 32 #[.int .i64 0, .slice none 0 0] ∧ Blk w92 g29 32 #[.int .i64 ((((subFind s (-1 - f)).getD (.mk 0 []))).f), .slice a26 ((((subFind s (-1 - f)).getD (.mk 0 []))).args.length) c27] ∧ Blk w92 g62 32 #[.int .i64 f, .slice x.1 x.2.2 x.2.1] ∧ RowE eltT (w92) w72.heap.size 32 x.1 x.2.1 x.2.2 ((l.take x.2.2).map (T.app s))) ((none, 0, 0)) ⟨rfl, rfl, rfl, rfl, rfl, rfl, rfl, rfl, rfl, rfl, trivial⟩ ?_ ?_
   ·exact ⟨Nat.zero_le _, Nat.le_refl _, hb78, hB81, hB83, hB85, hB74, (by simpa using hR91)⟩
   ·rintro x w92 ⟨hk, hBw, hb93, hB94, hB95, hB96, hB97, ho98⟩
    refine WC.seq (WC.seq (WC.region (WL.mv rfl rfl rfl rfl rfl ?_)))
    refine WL.val _ rfl rfl rfl (fun za zC zh zk => fld_32_1 rfl (zh.ev rfl) zk) ?_
    refine WL.val _ rfl rfl rfl (fun za zC zh zk => ld_30 rfl (zh.ev rfl) ((hB94.cell 1).trans rfl) zk) ?_
    refine WL.val (.int .i64 (((l.length : Nat) : Int))) rfl rfl rfl (fun za zC zh zk => len_30 rfl (zh.ev rfl) zk) ?_
    refine WL.val (.bool ((decide ((((x.2.2 : Nat) : Int) : Int) < (((l.length : Nat) : Int) : Int))))) rfl rfl rfl (fun za zC zh zk => lss_3 rfl (zh.ev rfl) (zh.ev rfl) zk) ?_
    refine WL.nil (WE.next ?_)
    refine WC.cond rfl (fun h99 => ?_) (fun h99 => ?_)
    ·have h99 : (((x.2.2 : Nat) : Int) : Int) < (((l.length : Nat) : Int) : Int) := by simpa using h99
     refine WC.skip (WE.next (WC.seq (WC.block ?_)))
     obtain ⟨b100, o101, A102, C103, ha104, hc105⟩ := IsTs.open hl
     have hSlt : ∀ b, (fun b => b = g62 ∨ (Value.slice x.1 x.2.2 x.2.1).ownBlock = some b) b → b < w92.heap.size := fun b h => h.elim (fun e => e ▸ hB97.lt) (fun h => (ho98.lt b h).2)
     have hSlo : ∀ b, (fun b => b = g62 ∨ (Value.slice x.1 x.2.2 x.2.1).ownBlock = some b) b → b = g62 ∨ (w72.heap.size ≤ b ∧ b < w92.heap.size) := fun b h => h.imp id (fun h => ho98.lt b h)
     have hBW : w72.heap.size ≤ w92.heap.size := by have z1 := hBw; omega
     have hlL : x.2.2 = (((l.take x.2.2).map (T.app s))).length := ho98.len
     refine WC.tail2 (S := ((fun b => b = g62 ∨ (Value.slice x.1 x.2.2 x.2.1).ownBlock = some b))) [(true, .val (.pointer (some ⟨g62, 1, none⟩))), (true, .val (.slice x.1 x.2.2 x.2.1)), (true, .val (.slice sa s.length sc)), (true, .val (.pointer (some ⟨g2, 1, none⟩))), (true, .val (.slice a l.length c)), (true, .val (.int .i64 (((x.2.2 : Nat) : Int)))), (true, .val (.pointer (some ⟨b100, o101 + x.2.2 * 2, none⟩))), (true, .val (.agg #[.int .i64 ((tget l x.2.2).f), .slice ((A102 x.2.2)) ((tget l x.2.2).args.length) ((C103 x.2.2))])), (true, .mem (fun v w' => NewT w92 w' (((tget l x.2.2).app s)) v) (fun v w w' hc h => InT.chg h hc (fun b hb hs => by have z := hSlt b hs; omega))), (true, .mem (fun v w' => OneRow eltT w92 32 (((tget l x.2.2).app s)) v w') (fun v w w' hc h => h.chg hc hSlt)), (true, .val undef), (true, .val (.pointer (some ⟨g62, 1, none⟩))), (true, .val undef)] [(0, .slice sa s.length sc), (1, .agg #[.int .i64 f, .slice a l.length c]), (3, .pointer (some ⟨g2, 0, none⟩)), (4, .pointer (some ⟨g9, 0, none⟩)), (5, .pointer (some ⟨g29, 0, none⟩)), (6, .bool ((subFind s (-1 - f)).isSome)), (7, .pointer (some ⟨g62, 0, none⟩)), (8, .int .i64 (((x.2.2 : Nat) : Int))), (11, .bool ((decide ((f : Int) < (0 : Int))))), (20, .bool ((subFind s (-1 - f)).isSome)), (29, .bool ((decide ((((x.2.2 : Nat) : Int) : Int) < (((l.length : Nat) : Int) : Int)))))] 10 12 ((x.2.2 + 1)) 42 (fun ra rc wz => RowE eltT wz w72.heap.size 32 ra rc (x.2.2 + 1) (((l.take x.2.2).map (T.app s) ++ [((tget l x.2.2).app s)])) ∧ Blk wz g62 32 #[.int .i64 f, .slice x.1 x.2.2 x.2.1]) (fun ra rc wz => RowE eltT wz w72.heap.size 32 ra rc (x.2.2 + 1) (((l.take x.2.2).map (T.app s) ++ [((tget l x.2.2).app s)])) ∧ Blk wz g62 32 #[.int .i64 f, .slice ra ((x.2.2 + 1)) rc]) (by decide) (fun ra rc w w' hb h => ⟨h.1.below hb, h.2.below hb⟩) (fun ra rc w w' hb h => ⟨h.1.below hb, h.2.below hb⟩) ⟨rfl, rfl, rfl, rfl, rfl, rfl, rfl, rfl, rfl, rfl, rfl, trivial⟩ (by kernel_rfl) (by kernel_rfl) (by kernel_rfl) (by kernel_rfl) (by kernel_rfl) ?_ ?_
     ·refine ⟨.inl ⟨rfl, true, .none rfl, (fun gg b h => by cases h), fun h w => optUndef h, fun zβ za zw zc => ?_⟩, ?_⟩
      ·exact fld_32_1 rfl (zc.kn.ev rfl) ⟨_, rfl, Below.refl _ _, optDef zβ rfl⟩
      refine ⟨.inl ⟨rfl, true, .none rfl, (fun gg b h => by cases h), fun h w => optUndef h, fun zβ za zw zc => ?_⟩, ?_⟩
      ·exact ld_30 rfl ((evt za 32).trans (optSVal (zc.dep 0 32 (by kernel_rfl) (by decide)) rfl rfl)) (bkeeps (zc.early (by kernel_rfl)) _ _ ((hB97.cell 1).trans rfl)) ⟨_, rfl, Below.refl _ _, optDef zβ rfl⟩
      refine ⟨.inl ⟨rfl, true, .none rfl, (fun gg b h => by cases h), fun h w => optUndef h, fun zβ za zw zc => ?_⟩, ?_⟩
      ·exact wp_move rfl (zc.kn.ev rfl) ⟨_, rfl, Below.refl _ _, optDef zβ rfl⟩
      refine ⟨.inl ⟨rfl, true, .none rfl, (fun gg b h => by cases h), fun h w => optUndef h, fun zβ za zw zc => ?_⟩, ?_⟩
      ·exact fld_32_1 rfl (zc.kn.ev rfl) ⟨_, rfl, Below.refl _ _, optDef zβ rfl⟩
      refine ⟨.inl ⟨rfl, true, .none rfl, (fun gg b h => by cases h), fun h w => optUndef h, fun zβ za zw zc => ?_⟩, ?_⟩
      ·exact ld_30 rfl ((evt za 35).trans (optSVal (zc.dep 3 35 (by kernel_rfl) (by decide)) rfl rfl)) (bkeeps (zc.early (by kernel_rfl)) _ _ ((hB94.cell 1).trans rfl)) ⟨_, rfl, Below.refl _ _, optDef zβ rfl⟩
      refine ⟨.inl ⟨rfl, true, .none rfl, (fun gg b h => by cases h), fun h w => optUndef h, fun zβ za zw zc => ?_⟩, ?_⟩
      ·exact wp_move rfl (zc.kn.ev rfl) ⟨_, rfl, Below.refl _ _, optDef zβ rfl⟩
      refine ⟨.inl ⟨rfl, true, .none rfl, (fun gg b h => by cases h), fun h w => optUndef h, fun zβ za zw zc => ?_⟩, ?_⟩
      ·exact ix_30 (k := x.2.2) rfl ((evt za 36).trans (optSVal (zc.dep 4 36 (by kernel_rfl) (by decide)) rfl rfl)) (ha104 x.2.2 (by first | omega | (simp; omega))) ((evt za 37).trans (optSVal (zc.dep 5 37 (by kernel_rfl) (by decide)) rfl rfl)) (by first | omega | (simp; omega)) ⟨_, rfl, Below.refl _ _, optDef zβ rfl⟩
      refine ⟨.inl ⟨rfl, true, .none rfl, (fun gg b h => by cases h), fun h w => optUndef h, fun zβ za zw zc => ?_⟩, ?_⟩
      ·exact ld_32 rfl ((evt za 38).trans (optSVal (zc.dep 6 38 (by kernel_rfl) (by decide)) rfl rfl)) (bkeeps (bstep hb93 (zc.early (by kernel_rfl))) _ _ (hc105 x.2.2 (by first | omega | (simp; omega))).1) (bkeeps (bstep hb93 (zc.early (by kernel_rfl))) _ _ (hc105 x.2.2 (by first | omega | (simp; omega))).2.1) ⟨_, rfl, Below.refl _ _, optDef zβ rfl⟩
      refine ⟨.inl ⟨rfl, true, .none rfl, (fun gg b h => by cases h), fun h w => optUndef h, fun zβ za zw zc => ?_⟩, ?_⟩
      ·exact wp_call (by kernel_rfl) rfl (hv2 ((evt za 34).trans (optSVal (zc.dep 2 34 (by kernel_rfl) (by decide)) rfl rfl)) ((evt za 39).trans (optSVal (zc.dep 7 39 (by kernel_rfl) (by decide)) rfl rfl))) (ih _ (tget_mem (by omega)) _ _ (size_at (by omega) hz) (IsT.below (bstep hb93 (zc.early (by kernel_rfl))) (hc105 x.2.2 (by first | omega | (simp; omega))).2.2) (hs.below (bstep hb93 (zc.early (by kernel_rfl))))) (fun v w' h => ⟨v, rfl, h.2, optDef zβ (InT.mono (fun b hb _ => Nat.le_trans (zc.early (by kernel_rfl)).size hb) h.1)⟩)
      refine ⟨.inl ⟨rfl, true, .none rfl, (fun gg b h => by cases h), fun h w => optUndef h, fun zβ za zw zc => ?_⟩, ?_⟩
      ·have zv := (optSMem (zc.dep 8 40 (by kernel_rfl) (by decide)) rfl rfl)
       obtain ⟨_, a1, c1, e1, _⟩ := zv.form
       rw [e1] at zv
       exact row_30_1 rfl ((evt za 40).trans e1) ⟨_, rfl, balloc _ _, optDef zβ ⟨_, _, rfl, zc.chg.size, Blk.new' rfl, _, _, rfl, zv.below (balloc _ _)⟩⟩
      refine ⟨.inr (.inl ⟨rfl, rfl, fun za zw zc => ?_⟩), ?_⟩
      ·obtain ⟨g1, cs, e1, hg1, hB1, hin⟩ := (optSMem (zc.dep 9 41 (by kernel_rfl) (by decide)) rfl rfl)
       exact wp_appE (E := eltT) (size := 2) (bytes := 32) (z := .agg #[.int .i64 0, .slice none 0 0]) rfl Try.underlying30 (by kernel_rfl) rfl (by decide) rfl ((evt za 33).trans (optSVal (zc.dep 1 33 (by kernel_rfl) (by decide)) rfl rfl)) ((evt za 41).trans e1) (ho98.below zc.below) hB1 (eltT.mono (fun b hb _ => ⟨by omega, fun e => by have z := (ho98.lt b e).2; omega⟩) hin) (by omega) (by omega) (by have z := zc.below.size; omega) (fun ra rc w' h1 h2 _ => ⟨ra, rc, rfl, ⟨h1, chg_blk (hB97.below zc.below) h2 (fun e => by have z := (ho98.lt _ e).1; omega)⟩, h2.mono (fun b hb => .inr hb)⟩)
      refine ⟨.inl ⟨rfl, true, .none rfl, (fun gg b h => by cases h), fun h w => optUndef h, fun zβ za zw zc => ?_⟩, ?_⟩
      ·exact fld_32_1 rfl (zc.kn.ev rfl) ⟨_, rfl, Below.refl _ _, optDef zβ rfl⟩
      refine ⟨.inr (.inr ⟨rfl, rfl, 42, by kernel_rfl, fun za zw ra rc zk zd zv zg => ?_⟩), ?_⟩
      ·exact st_30 rfl ((evt za 43).trans (optSVal (zd 11 43 (by kernel_rfl) (by decide)) rfl rfl)) ((evt za 42).trans zv) zg.2 (by first | decide | simp) (fun v => ⟨v, rfl, ⟨zg.1.upd (Upd.at_ _ _ _ _) (by omega), zg.2.set_ 1 _⟩, .ofUpd (Upd.at_ _ _ _ _) (.inl rfl)⟩)
      exact trivial
     ·intro za w106 ra109 rc110 zh zv hG107 hc108 zu
      have hb111 := chg_below hb93 hc108 (fun b hb => (fun h => by rcases hSlo _ h with h | h <;> omega))
      have hB112 := chg_blk hB94 hc108 (fun h => by rcases hSlo _ h with h | h <;> omega)
      have hB113 := chg_blk hB95 hc108 (fun h => by rcases hSlo _ h with h | h <;> omega)
      have hB114 := chg_blk hB96 hc108 (fun h => by rcases hSlo _ h with h | h <;> omega)
      clear zu
      refine WE.go zh ?_
      refine WE.blockNormal (WE.next (WC.region (WL.mv rfl rfl rfl rfl rfl ?_)))
      refine WL.val (.int .i64 ((((x.2.2 + 1) : Nat) : Int))) rfl rfl rfl (fun za zC zh zk => addb_3 rfl (zh.ev rfl) (zh.ev rfl) (wrap_eq (by omega) (by omega) (by omega)) zk) ?_
      refine WL.asg rfl rfl rfl rfl rfl (WL.nil ?_)
      refine WE.round ((ra109, rc110, x.2.2 + 1)) ⟨rfl, rfl, rfl, rfl, rfl, rfl, rfl, rfl, rfl, rfl, trivial⟩ ?_ ?_
      ·exact ⟨by (try dsimp only at *); omega, (Nat.le_trans hBw hc108.size), hb111, hB112, hB113, hB114, hG107.2, (by rw [← take_map (by (try dsimp only at *); omega)]; exact hG107.1)⟩
      ·dsimp only; omega
    ·have h99 : ¬ ((((x.2.2 : Nat) : Int) : Int) < (((l.length : Nat) : Int) : Int)) := by simpa using h99
     refine WC.exit (WE.thenExit (WE.thenExit (WE.blockIs rfl (WE.next (WC.seq (WC.region ?_))))))
     refine WL.val _ rfl rfl rfl (fun za zC zh zk => ld_32 rfl (zh.ev rfl) ((hB97.cell 0).trans rfl) ((hB97.cell 1).trans rfl) zk) ?_
     refine WL.step (post := fun _ w' => Upd g9 w92 w' ∧ Blk w' g9 32 #[.int .i64 f, .slice x.1 x.2.2 x.2.1]) rfl rfl rfl (fun za zC zh zk => st_32 rfl (zh.ev rfl) (zh.ev rfl) rfl rfl hB95 (by first | decide | simp) (fun v => zk v _ ⟨(Upd.at_ _ _ _ _).trans (Upd.at_ _ _ _ _), (hB95.set_ 0 _).set_ 1 _⟩)) ?_
     rintro v118 w115 ⟨hu116, hB117⟩
     have hb119 := upd_below hb93 hu116 (by omega)
     have hB120 := upd_blk hB94 hu116 (by omega)
     have hB121 := upd_blk hB96 hu116 (by omega)
     have hB122 := upd_blk hB97 hu116 (by omega)
     have ho123 := ho98.upd hu116 (by omega)
     refine WL.nil (WE.next (WC.ret ?_))
     refine WE.retAny (v := .agg #[.int .i64 f, .slice x.1 x.2.2 x.2.1]) (fun za zh => ?_) ?_
     ·have z0 : za.tmps[4]?.getD undef = .pointer (some ⟨g9, 0, none⟩) := by rw [← Array.getD_eq_getD_getElem?]; exact zh.knows 4 _ rfl
      have y0 : w115.cell? ⟨g9, 0, none⟩ = some (.int .i64 f) := ((hB117.cell 0).trans rfl)
      have y1 : w115.cell? ⟨g9, 1, none⟩ = some (.slice x.1 x.2.2 x.2.1) := ((hB117.cell 1).trans rfl)
      simp [results, Try.results19, z0, y0, y1, go_sem]
     ·have z := ho123
      rw [List.take_of_length_le (by omega)] at z
      exact ⟨_, rfl, by rw [app_none (fun _ => isSome_false h51)]; exact newT_row hf z (by omega), hb119⟩
 ·have h17 : ¬ ((f : Int) < (0 : Int)) := by simpa using h17
  refine WC.skip (WE.next (WC.seq (WC.region ?_)))
  refine WL.val _ rfl rfl rfl (fun za zC zh zk => fld_32_0 rfl (zh.ev rfl) zk) ?_
  refine WL.val _ rfl rfl rfl (fun za zC zh zk => ld_3 rfl (zh.ev rfl) ((hB16.cell 0).trans rfl) zk) ?_
  refine WL.val (.agg #[.int .i64 f, .slice none 0 0]) rfl rfl rfl (fun za zC zh zk => build_32_0 rfl (zh.ev rfl) zk) ?_
  refine WL.step (post := NewBlk w8 32 #[.int .i64 0, .slice none 0 0]) rfl rfl rfl (fun za zC zh zk => alloc_32 rfl (zk _ _ (newBlk _ _ _))) ?_
  rintro _ w124 ⟨g125, rfl, hg126, hB127, hb128, hz129⟩
  have hl130 : g2 < g125 := by have z1 := hB16.lt; omega
  have hl131 : g9 < g125 := by have z1 := hB11.lt; omega
  have hb132 : Below w.heap.size w w8 := (bstep hb5 hb12)
  have hl133 : w.heap.size ≤ g125 := by have z2 := (hb132).size; omega
  refine WL.step (post := fun _ w' => Upd g125 w124 w' ∧ Blk w' g125 32 #[.int .i64 f, .slice none 0 0]) rfl rfl rfl (fun za zC zh zk => st_32 rfl (zh.ev rfl) (zh.ev rfl) rfl rfl hB127 (by first | decide | simp) (fun v => zk v _ ⟨(Upd.at_ _ _ _ _).trans (Upd.at_ _ _ _ _), (hB127.set_ 0 _).set_ 1 _⟩)) ?_
  rintro v137 w134 ⟨hu135, hB136⟩
  have hb138 : Below w.heap.size w w124 := (bstep hb132 hb128)
  have hb139 := upd_below hb138 hu135 (by omega)
  have hB140 := hB16.below hb128
  have hB141 := upd_blk hB140 hu135 (by omega)
  have hB142 := hB11.below hb128
  have hB143 := upd_blk hB142 hu135 (by omega)
  refine WL.nil (WE.next (WC.seq (WC.seq (WC.region (WL.asg rfl rfl rfl rfl rfl (WL.nil (WE.next (WC.block ?_))))))))
  have hl144 : g2 < w134.heap.size := by have z1 := hB141.lt; omega
  have hl145 : g9 < w134.heap.size := by have z1 := hB143.lt; omega
  have hl146 : g125 < w134.heap.size := by have z1 := hB136.lt; omega
  have hl147 : w.heap.size ≤ w134.heap.size := (hb139).size
  have hR148 : RowE eltT w134 w134.heap.size 32 none 0 0 [] := RowE.nil
  refine WC.loop (X := Option Addr × Nat × Nat) (fun x => l.length - x.2.2) (fun x => [(0, .slice sa s.length sc), (1, .agg #[.int .i64 f, .slice a l.length c]), (3, .pointer (some ⟨g2, 0, none⟩)), (4, .pointer (some ⟨g9, 0, none⟩)), (7, .pointer (some ⟨g125, 0, none⟩)), (8, .int .i64 (((x.2.2 : Nat) : Int))), (11, .bool ((decide ((f : Int) < (0 : Int)))))]) (fun x w149 => x.2.2 ≤ l.length ∧ w134.heap.size ≤ (w149).heap.size ∧ Below w.heap.size w w149 ∧ Blk w149 g2 32 #[.int .i64 f, .slice a l.length c] ∧ Blk w149 g9 32 #[.int .i64 0, .slice none 0 0] ∧ Blk w149 g125 32 #[.int .i64 f, .slice x.1 x.2.2 x.2.1] ∧ RowE eltT (w149) w134.heap.size 32 x.1 x.2.1 x.2.2 ((l.take x.2.2).map (T.app s))) ((none, 0, 0)) ⟨rfl, rfl, rfl, rfl, rfl, rfl, rfl, trivial⟩ ?_ ?_
  ·exact ⟨Nat.zero_le _, Nat.le_refl _, hb139, hB141, hB143, hB136, (by simpa using hR148)⟩
  ·rintro x w149 ⟨hk, hBw, hb150, hB151, hB152, hB153, ho154⟩
   refine WC.seq (WC.seq (WC.region (WL.mv rfl rfl rfl rfl rfl ?_)))
   refine WL.val _ rfl rfl rfl (fun za zC zh zk => fld_32_1 rfl (zh.ev rfl) zk) ?_
   refine WL.val _ rfl rfl rfl (fun za zC zh zk => ld_30 rfl (zh.ev rfl) ((hB151.cell 1).trans rfl) zk) ?_
   refine WL.val (.int .i64 (((l.length : Nat) : Int))) rfl rfl rfl (fun za zC zh zk => len_30 rfl (zh.ev rfl) zk) ?_
   refine WL.val (.bool ((decide ((((x.2.2 : Nat) : Int) : Int) < (((l.length : Nat) : Int) : Int))))) rfl rfl rfl (fun za zC zh zk => lss_3 rfl (zh.ev rfl) (zh.ev rfl) zk) ?_
   refine WL.nil (WE.next ?_)
   refine WC.cond rfl (fun h155 => ?_) (fun h155 => ?_)
   ·have h155 : (((x.2.2 : Nat) : Int) : Int) < (((l.length : Nat) : Int) : Int) := by simpa using h155
    refine WC.skip (WE.next (WC.seq (WC.block ?_)))
    obtain ⟨b156, o157, A158, C159, ha160, hc161⟩ := IsTs.open hl
    have hSlt : ∀ b, (fun b => b = g125 ∨ (Value.slice x.1 x.2.2 x.2.1).ownBlock = some b) b → b < w149.heap.size := fun b h => h.elim (fun e => e ▸ hB153.lt) (fun h => (ho154.lt b h).2)
    have hSlo : ∀ b, (fun b => b = g125 ∨ (Value.slice x.1 x.2.2 x.2.1).ownBlock = some b) b → b = g125 ∨ (w134.heap.size ≤ b ∧ b < w149.heap.size) := fun b h => h.imp id (fun h => ho154.lt b h)
    have hBW : w134.heap.size ≤ w149.heap.size := by have z1 := hBw; omega
    have hlL : x.2.2 = (((l.take x.2.2).map (T.app s))).length := ho154.len
    refine WC.tail2 (S := ((fun b => b = g125 ∨ (Value.slice x.1 x.2.2 x.2.1).ownBlock = some b))) [(true, .val (.pointer (some ⟨g125, 1, none⟩))), (true, .val (.slice x.1 x.2.2 x.2.1)), (true, .val (.slice sa s.length sc)), (true, .val (.pointer (some ⟨g2, 1, none⟩))), (true, .val (.slice a l.length c)), (true, .val (.int .i64 (((x.2.2 : Nat) : Int)))), (true, .val (.pointer (some ⟨b156, o157 + x.2.2 * 2, none⟩))), (true, .val (.agg #[.int .i64 ((tget l x.2.2).f), .slice ((A158 x.2.2)) ((tget l x.2.2).args.length) ((C159 x.2.2))])), (true, .mem (fun v w' => NewT w149 w' (((tget l x.2.2).app s)) v) (fun v w w' hc h => InT.chg h hc (fun b hb hs => by have z := hSlt b hs; omega))), (true, .mem (fun v w' => OneRow eltT w149 32 (((tget l x.2.2).app s)) v w') (fun v w w' hc h => h.chg hc hSlt)), (true, .val undef), (true, .val (.pointer (some ⟨g125, 1, none⟩))), (true, .val undef)] [(0, .slice sa s.length sc), (1, .agg #[.int .i64 f, .slice a l.length c]), (3, .pointer (some ⟨g2, 0, none⟩)), (4, .pointer (some ⟨g9, 0, none⟩)), (7, .pointer (some ⟨g125, 0, none⟩)), (8, .int .i64 (((x.2.2 : Nat) : Int))), (11, .bool ((decide ((f : Int) < (0 : Int))))), (29, .bool ((decide ((((x.2.2 : Nat) : Int) : Int) < (((l.length : Nat) : Int) : Int)))))] 10 12 ((x.2.2 + 1)) 42 (fun ra rc wz => RowE eltT wz w134.heap.size 32 ra rc (x.2.2 + 1) (((l.take x.2.2).map (T.app s) ++ [((tget l x.2.2).app s)])) ∧ Blk wz g125 32 #[.int .i64 f, .slice x.1 x.2.2 x.2.1]) (fun ra rc wz => RowE eltT wz w134.heap.size 32 ra rc (x.2.2 + 1) (((l.take x.2.2).map (T.app s) ++ [((tget l x.2.2).app s)])) ∧ Blk wz g125 32 #[.int .i64 f, .slice ra ((x.2.2 + 1)) rc]) (by decide) (fun ra rc w w' hb h => ⟨h.1.below hb, h.2.below hb⟩) (fun ra rc w w' hb h => ⟨h.1.below hb, h.2.below hb⟩) ⟨rfl, rfl, rfl, rfl, rfl, rfl, rfl, rfl, trivial⟩ (by kernel_rfl) (by kernel_rfl) (by kernel_rfl) (by kernel_rfl) (by kernel_rfl) ?_ ?_
    ·refine ⟨.inl ⟨rfl, true, .none rfl, (fun gg b h => by cases h), fun h w => optUndef h, fun zβ za zw zc => ?_⟩, ?_⟩
     ·exact fld_32_1 rfl (zc.kn.ev rfl) ⟨_, rfl, Below.refl _ _, optDef zβ rfl⟩
     refine ⟨.inl ⟨rfl, true, .none rfl, (fun gg b h => by cases h), fun h w => optUndef h, fun zβ za zw zc => ?_⟩, ?_⟩
     ·exact ld_30 rfl ((evt za 32).trans (optSVal (zc.dep 0 32 (by kernel_rfl) (by decide)) rfl rfl)) (bkeeps (zc.early (by kernel_rfl)) _ _ ((hB153.cell 1).trans rfl)) ⟨_, rfl, Below.refl _ _, optDef zβ rfl⟩
     refine ⟨.inl ⟨rfl, true, .none rfl, (fun gg b h => by cases h), fun h w => optUndef h, fun zβ za zw zc => ?_⟩, ?_⟩
     ·exact wp_move rfl (zc.kn.ev rfl) ⟨_, rfl, Below.refl _ _, optDef zβ rfl⟩
     refine ⟨.inl ⟨rfl, true, .none rfl, (fun gg b h => by cases h), fun h w => optUndef h, fun zβ za zw zc => ?_⟩, ?_⟩
     ·exact fld_32_1 rfl (zc.kn.ev rfl) ⟨_, rfl, Below.refl _ _, optDef zβ rfl⟩
     refine ⟨.inl ⟨rfl, true, .none rfl, (fun gg b h => by cases h), fun h w => optUndef h, fun zβ za zw zc => ?_⟩, ?_⟩
     ·exact ld_30 rfl ((evt za 35).trans (optSVal (zc.dep 3 35 (by kernel_rfl) (by decide)) rfl rfl)) (bkeeps (zc.early (by kernel_rfl)) _ _ ((hB151.cell 1).trans rfl)) ⟨_, rfl, Below.refl _ _, optDef zβ rfl⟩
     refine ⟨.inl ⟨rfl, true, .none rfl, (fun gg b h => by cases h), fun h w => optUndef h, fun zβ za zw zc => ?_⟩, ?_⟩
     ·exact wp_move rfl (zc.kn.ev rfl) ⟨_, rfl, Below.refl _ _, optDef zβ rfl⟩
     refine ⟨.inl ⟨rfl, true, .none rfl, (fun gg b h => by cases h), fun h w => optUndef h, fun zβ za zw zc => ?_⟩, ?_⟩
     ·exact ix_30 (k := x.2.2) rfl ((evt za 36).trans (optSVal (zc.dep 4 36 (by kernel_rfl) (by decide)) rfl rfl)) (ha160 x.2.2 (by first | omega | (simp; omega))) ((evt za 37).trans (optSVal (zc.dep 5 37 (by kernel_rfl) (by decide)) rfl rfl)) (by first | omega | (simp; omega)) ⟨_, rfl, Below.refl _ _, optDef zβ rfl⟩
     refine ⟨.inl ⟨rfl, true, .none rfl, (fun gg b h => by cases h), fun h w => optUndef h, fun zβ za zw zc => ?_⟩, ?_⟩
     ·exact ld_32 rfl ((evt za 38).trans (optSVal (zc.dep 6 38 (by kernel_rfl) (by decide)) rfl rfl)) (bkeeps (bstep hb150 (zc.early (by kernel_rfl))) _ _ (hc161 x.2.2 (by first | omega | (simp; omega))).1) (bkeeps (bstep hb150 (zc.early (by kernel_rfl))) _ _ (hc161 x.2.2 (by first | omega | (simp; omega))).2.1) ⟨_, rfl, Below.refl _ _, optDef zβ rfl⟩
     refine ⟨.inl ⟨rfl, true, .none rfl, (fun gg b h => by cases h), fun h w => optUndef h, fun zβ za zw zc => ?_⟩, ?_⟩
     ·exact wp_call (by kernel_rfl) rfl (hv2 ((evt za 34).trans (optSVal (zc.dep 2 34 (by kernel_rfl) (by decide)) rfl rfl)) ((evt za 39).trans (optSVal (zc.dep 7 39 (by kernel_rfl) (by decide)) rfl rfl))) (ih _ (tget_mem (by omega)) _ _ (size_at (by omega) hz) (IsT.below (bstep hb150 (zc.early (by kernel_rfl))) (hc161 x.2.2 (by first | omega | (simp; omega))).2.2) (hs.below (bstep hb150 (zc.early (by kernel_rfl))))) (fun v w' h => ⟨v, rfl, h.2, optDef zβ (InT.mono (fun b hb _ => Nat.le_trans (zc.early (by kernel_rfl)).size hb) h.1)⟩)
     refine ⟨.inl ⟨rfl, true, .none rfl, (fun gg b h => by cases h), fun h w => optUndef h, fun zβ za zw zc => ?_⟩, ?_⟩
     ·have zv := (optSMem (zc.dep 8 40 (by kernel_rfl) (by decide)) rfl rfl)
      obtain ⟨_, a1, c1, e1, _⟩ := zv.form
      rw [e1] at zv
      exact row_30_1 rfl ((evt za 40).trans e1) ⟨_, rfl, balloc _ _, optDef zβ ⟨_, _, rfl, zc.chg.size, Blk.new' rfl, _, _, rfl, zv.below (balloc _ _)⟩⟩
     refine ⟨.inr (.inl ⟨rfl, rfl, fun za zw zc => ?_⟩), ?_⟩
     ·obtain ⟨g1, cs, e1, hg1, hB1, hin⟩ := (optSMem (zc.dep 9 41 (by kernel_rfl) (by decide)) rfl rfl)
      exact wp_appE (E := eltT) (size := 2) (bytes := 32) (z := .agg #[.int .i64 0, .slice none 0 0]) rfl Try.underlying30 (by kernel_rfl) rfl (by decide) rfl ((evt za 33).trans (optSVal (zc.dep 1 33 (by kernel_rfl) (by decide)) rfl rfl)) ((evt za 41).trans e1) (ho154.below zc.below) hB1 (eltT.mono (fun b hb _ => ⟨by omega, fun e => by have z := (ho154.lt b e).2; omega⟩) hin) (by omega) (by omega) (by have z := zc.below.size; omega) (fun ra rc w' h1 h2 _ => ⟨ra, rc, rfl, ⟨h1, chg_blk (hB153.below zc.below) h2 (fun e => by have z := (ho154.lt _ e).1; omega)⟩, h2.mono (fun b hb => .inr hb)⟩)
     refine ⟨.inl ⟨rfl, true, .none rfl, (fun gg b h => by cases h), fun h w => optUndef h, fun zβ za zw zc => ?_⟩, ?_⟩
     ·exact fld_32_1 rfl (zc.kn.ev rfl) ⟨_, rfl, Below.refl _ _, optDef zβ rfl⟩
     refine ⟨.inr (.inr ⟨rfl, rfl, 42, by kernel_rfl, fun za zw ra rc zk zd zv zg => ?_⟩), ?_⟩
     ·exact st_30 rfl ((evt za 43).trans (optSVal (zd 11 43 (by kernel_rfl) (by decide)) rfl rfl)) ((evt za 42).trans zv) zg.2 (by first | decide | simp) (fun v => ⟨v, rfl, ⟨zg.1.upd (Upd.at_ _ _ _ _) (by omega), zg.2.set_ 1 _⟩, .ofUpd (Upd.at_ _ _ _ _) (.inl rfl)⟩)
     exact trivial
    ·intro za w162 ra165 rc166 zh zv hG163 hc164 zu
     have hb167 := chg_below hb150 hc164 (fun b hb => (fun h => by rcases hSlo _ h with h | h <;> omega))
     have hB168 := chg_blk hB151 hc164 (fun h => by rcases hSlo _ h with h | h <;> omega)
     have hB169 := chg_blk hB152 hc164 (fun h => by rcases hSlo _ h with h | h <;> omega)
     clear zu
     refine WE.go zh ?_
     refine WE.blockNormal (WE.next (WC.region (WL.mv rfl rfl rfl rfl rfl ?_)))
     refine WL.val (.int .i64 ((((x.2.2 + 1) : Nat) : Int))) rfl rfl rfl (fun za zC zh zk => addb_3 rfl (zh.ev rfl) (zh.ev rfl) (wrap_eq (by omega) (by omega) (by omega)) zk) ?_
     refine WL.asg rfl rfl rfl rfl rfl (WL.nil ?_)
     refine WE.round ((ra165, rc166, x.2.2 + 1)) ⟨rfl, rfl, rfl, rfl, rfl, rfl, rfl, trivial⟩ ?_ ?_
     ·exact ⟨by (try dsimp only at *); omega, (Nat.le_trans hBw hc164.size), hb167, hB168, hB169, hG163.2, (by rw [← take_map (by (try dsimp only at *); omega)]; exact hG163.1)⟩
     ·dsimp only; omega
   ·have h155 : ¬ ((((x.2.2 : Nat) : Int) : Int) < (((l.length : Nat) : Int) : Int)) := by simpa using h155
    refine WC.exit (WE.thenExit (WE.thenExit (WE.blockIs rfl (WE.next (WC.seq (WC.region ?_))))))
    refine WL.val _ rfl rfl rfl (fun za zC zh zk => ld_32 rfl (zh.ev rfl) ((hB153.cell 0).trans rfl) ((hB153.cell 1).trans rfl) zk) ?_
    refine WL.step (post := fun _ w' => Upd g9 w149 w' ∧ Blk w' g9 32 #[.int .i64 f, .slice x.1 x.2.2 x.2.1]) rfl rfl rfl (fun za zC zh zk => st_32 rfl (zh.ev rfl) (zh.ev rfl) rfl rfl hB152 (by first | decide | simp) (fun v => zk v _ ⟨(Upd.at_ _ _ _ _).trans (Upd.at_ _ _ _ _), (hB152.set_ 0 _).set_ 1 _⟩)) ?_
    rintro v173 w170 ⟨hu171, hB172⟩
    have hb174 := upd_below hb150 hu171 (by omega)
    have hB175 := upd_blk hB151 hu171 (by omega)
    have hB176 := upd_blk hB153 hu171 (by omega)
    have ho177 := ho154.upd hu171 (by omega)
    refine WL.nil (WE.next (WC.ret ?_))
    refine WE.retAny (v := .agg #[.int .i64 f, .slice x.1 x.2.2 x.2.1]) (fun za zh => ?_) ?_
    ·have z0 : za.tmps[4]?.getD undef = .pointer (some ⟨g9, 0, none⟩) := by rw [← Array.getD_eq_getD_getElem?]; exact zh.knows 4 _ rfl
     have y0 : w170.cell? ⟨g9, 0, none⟩ = some (.int .i64 f) := ((hB172.cell 0).trans rfl)
     have y1 : w170.cell? ⟨g9, 1, none⟩ = some (.slice x.1 x.2.2 x.2.1) := ((hB172.cell 1).trans rfl)
     simp [results, Try.results19, z0, y0, y1, go_sem]
    ·have z := ho177
     rw [List.take_of_length_le (by omega)] at z
     exact ⟨_, rfl, by rw [app_none (fun h => absurd h ‹_›)]; exact newT_row hf z (by omega), hb174⟩
end Go.Proofs.Ythhgidliopohcaa

/- The document checks substitutions. -/
namespace Go.Proofs.Ythhgidliopohcaa
open Go.RowKit Go
set_option linter.unusedVariables false
set_option linter.unusedSimpArgs false
theorem subOk_iff : ∀ (l : List Bd) (last : Int), subOk last l = true ↔ (∀ x ∈ l, last < x.var ∧ x.itself = false) ∧ l.Pairwise (fun x y => x.var < y.var)
 | [], _ => by simp [subOk]
 | b :: r, last => by
  rw [subOk]
  split
  ·rename_i hn
   constructor
   ·intro h; cases h
   ·intro h
    have := h.1 b (by simp)
    rcases hn with hn | hn
    ·omega
    ·rw [this.2] at hn; cases hn
  ·rename_i hn
   rw [subOk_iff r b.var]
   have hn1 := not_or.1 hn
   constructor
   ·intro ⟨h1, h2⟩
    refine ⟨fun x hx => ?_, .cons (fun x hx => (h1 x hx).1) h2⟩
    rcases List.mem_cons.1 hx with rfl | hx
    ·exact ⟨by omega, Bool.eq_false_iff.2 hn1.2⟩
    ·have := h1 x hx; exact ⟨by omega, this.2⟩
   ·intro ⟨h1, h2⟩
    obtain ⟨h3, h4⟩ := List.pairwise_cons.1 h2
    exact ⟨fun x hx => ⟨h3 x hx, (h1 x (by simp [hx])).2⟩, h4⟩
/-- So far it may be. -/
def OkTo (l : List Bd) (k : Nat) : Prop := ∀ i, i < k → 0 ≤ (dget l i).var ∧ (dget l i).itself = false ∧ (0 < i → (dget l (i - 1)).var < (dget l i).var)
theorem okTo_lt {l : List Bd} {k : Nat} (h : OkTo l k) : ∀ j i, i < j → j < k → (dget l i).var < (dget l j).var := by
 intro j
 induction j with
 | zero => intro i hi; omega
 | succ j ih =>
  intro i hi hj
  have h1 := (h (j + 1) hj).2.2 (by omega)
  rw [Nat.add_sub_cancel] at h1
  rcases Nat.lt_or_ge i j with q | q
  ·have := ih i q (by omega); omega
  ·obtain rfl : i = j := by omega
   exact h1
theorem okTo_ok {l : List Bd} (h : OkTo l l.length) : subOk (-1) l = true := by
 rw [subOk_iff]
 refine ⟨fun x hx => ?_, List.pairwise_iff_getElem.2 fun i j hi hj hij => ?_⟩
 ·obtain ⟨i, hi, rfl⟩ := List.getElem_of_mem hx
  have := h i hi
  rw [dget_lt hi] at this
  exact ⟨by omega, this.2.1⟩
 ·have := okTo_lt h j i hij hj
  rwa [dget_lt hi, dget_lt hj] at this
theorem okTo_no {l : List Bd} {k : Nat} (hk : k < l.length) (h : (dget l k).var < 0 ∨ (0 < k ∧ (dget l k).var ≤ (dget l (k - 1)).var) ∨ (dget l k).itself = true) : subOk (-1) l = false := by
 rw [Bool.eq_false_iff]
 intro hok
 rw [subOk_iff] at hok
 have h1 := hok.1 _ (dget_mem hk)
 rcases h with h | ⟨h2, h3⟩ | h
 ·omega
 ·have := List.pairwise_iff_getElem.1 hok.2 (k - 1) k (by omega) hk (by omega)
  rw [← dget_lt, ← dget_lt] at this
  omega
 ·rw [h1.2] at h; cases h
set_option maxRecDepth 100000 in
theorem rcheck_any (l : List Bd) (w : World) (a : Option Addr) (c : Nat) (h1 : l.length ≤ 4294967296) (hl : IsBs w l a) : Calls Try.prog 15 #[.slice a l.length c] w (Ret fun v' w' => v' = .int .i64 (subCheck l) ∧ Below w.heap.size w w') := by
 refine Calls.walk (l := [.slice a l.length c]) Try.func15 rfl (by kernel_rfl) ?_
 refine WC.sub (K' := [(0, .slice a l.length c)]) ⟨rfl, trivial⟩ ?_
 refine WC.seq (WC.region (WL.asg rfl rfl rfl rfl rfl (WL.nil (WE.next (WC.seq (WC.seq (WC.region (WL.asg rfl rfl rfl rfl rfl (WL.nil (WE.next (WC.block ?_)))))))))))
 refine WC.loop (X := Nat) (fun k => l.length - k) (fun k => [(0, .slice a l.length c), (3, .int .i64 (((k : Nat) : Int)))]) (fun k w1 => k ≤ l.length ∧ OkTo l k ∧ Below w.heap.size w w1) 0 ⟨rfl, rfl, trivial⟩ ?_ ?_
 ·exact ⟨Nat.zero_le _, fun i h => absurd h (Nat.not_lt_zero i), (Below.refl _ _)⟩
 ·rintro k w1 ⟨hk, hE, hb2⟩
  refine WC.seq (WC.seq (WC.region (WL.mv rfl rfl rfl rfl rfl (WL.mv rfl rfl rfl rfl rfl ?_))))
  refine WL.val (.int .i64 (((l.length : Nat) : Int))) rfl rfl rfl (fun za zC zh zk => len_24 rfl (zh.ev rfl) zk) ?_
  refine WL.val (.bool ((decide ((((k : Nat) : Int) : Int) < (((l.length : Nat) : Int) : Int))))) rfl rfl rfl (fun za zC zh zk => lss_3 rfl (zh.ev rfl) (zh.ev rfl) zk) ?_
  refine WL.nil (WE.next ?_)
  refine WC.cond rfl (fun h3 => ?_) (fun h3 => ?_)
  ·have h3 : (((k : Nat) : Int) : Int) < (((l.length : Nat) : Int) : Int) := by simpa using h3
   refine WC.skip (WE.next (WC.seq (WC.block (WC.seq ?_))))
   obtain ⟨b4, o5, A6, C7, ha8, hc9⟩ := InRow.openB hl
   refine WC.opt [(true, .val (.slice a l.length c)), (true, .val (.int .i64 (((k : Nat) : Int)))), (true, .val (.pointer (some ⟨b4, o5 + k * 3, none⟩))), (true, .val (.pointer (some ⟨b4, o5 + k * 3, none⟩))), (true, .val (.int .i64 ((dget l k).var))), (true, .val (.bool ((decide (((dget l k).var : Int) < (0 : Int)))))), (true, .val (.bool ((decide (((dget l k).var : Int) < (0 : Int)))))), ((true && !(decide (((dget l k).var : Int) < (0 : Int)))), .val (.int .i64 (((k : Nat) : Int)))), ((true && !(decide (((dget l k).var : Int) < (0 : Int)))), .val (.bool ((decide ((0 : Int) < (((k : Nat) : Int) : Int)))))), ((true && !(decide (((dget l k).var : Int) < (0 : Int)))), .val (.bool ((decide ((0 : Int) < (((k : Nat) : Int) : Int)))))), (((true && !(decide (((dget l k).var : Int) < (0 : Int)))) && (decide ((0 : Int) < (((k : Nat) : Int) : Int)))), .val (.slice a l.length c)), (((true && !(decide (((dget l k).var : Int) < (0 : Int)))) && (decide ((0 : Int) < (((k : Nat) : Int) : Int)))), .val (.int .i64 (((k : Nat) : Int)))), (((true && !(decide (((dget l k).var : Int) < (0 : Int)))) && (decide ((0 : Int) < (((k : Nat) : Int) : Int)))), .val (.pointer (some ⟨b4, o5 + k * 3, none⟩))), (((true && !(decide (((dget l k).var : Int) < (0 : Int)))) && (decide ((0 : Int) < (((k : Nat) : Int) : Int)))), .val (.pointer (some ⟨b4, o5 + k * 3, none⟩))), (((true && !(decide (((dget l k).var : Int) < (0 : Int)))) && (decide ((0 : Int) < (((k : Nat) : Int) : Int)))), .val (.int .i64 ((dget l k).var))), (((true && !(decide (((dget l k).var : Int) < (0 : Int)))) && (decide ((0 : Int) < (((k : Nat) : Int) : Int)))), .val (.slice a l.length c)), (((true && !(decide (((dget l k).var : Int) < (0 : Int)))) && (decide ((0 : Int) < (((k : Nat) : Int) : Int)))), .val (.int .i64 (((k : Nat) : Int)))), (((true && !(decide (((dget l k).var : Int) < (0 : Int)))) && (decide ((0 : Int) < (((k : Nat) : Int) : Int)))), .val (.int .i64 ((((k - 1) : Nat) : Int)))), (((true && !(decide (((dget l k).var : Int) < (0 : Int)))) && (decide ((0 : Int) < (((k : Nat) : Int) : Int)))), .val (.pointer (some ⟨b4, o5 + ((k - 1)) * 3, none⟩))), (((true && !(decide (((dget l k).var : Int) < (0 : Int)))) && (decide ((0 : Int) < (((k : Nat) : Int) : Int)))), .val (.pointer (some ⟨b4, o5 + ((k - 1)) * 3, none⟩))), (((true && !(decide (((dget l k).var : Int) < (0 : Int)))) && (decide ((0 : Int) < (((k : Nat) : Int) : Int)))), .val (.int .i64 ((dget l ((k - 1))).var))), (((true && !(decide (((dget l k).var : Int) < (0 : Int)))) && (decide ((0 : Int) < (((k : Nat) : Int) : Int)))), .val (.bool ((decide (((dget l k).var : Int) ≤ ((dget l ((k - 1))).var : Int)))))), ((true && !(decide (((dget l k).var : Int) < (0 : Int)))), .val (.bool (((decide ((0 : Int) < (((k : Nat) : Int) : Int))) && (decide (((dget l k).var : Int) ≤ ((dget l ((k - 1))).var : Int))))))), (true, .val (.bool (((decide (((dget l k).var : Int) < (0 : Int))) || ((decide ((0 : Int) < (((k : Nat) : Int) : Int))) && (decide (((dget l k).var : Int) ≤ ((dget l ((k - 1))).var : Int)))))))), (true, .val (.bool (((decide (((dget l k).var : Int) < (0 : Int))) || ((decide ((0 : Int) < (((k : Nat) : Int) : Int))) && (decide (((dget l k).var : Int) ≤ ((dget l ((k - 1))).var : Int)))))))), ((true && !((decide (((dget l k).var : Int) < (0 : Int))) || ((decide ((0 : Int) < (((k : Nat) : Int) : Int))) && (decide (((dget l k).var : Int) ≤ ((dget l ((k - 1))).var : Int)))))), .val (.slice a l.length c)), ((true && !((decide (((dget l k).var : Int) < (0 : Int))) || ((decide ((0 : Int) < (((k : Nat) : Int) : Int))) && (decide (((dget l k).var : Int) ≤ ((dget l ((k - 1))).var : Int)))))), .val (.int .i64 (((k : Nat) : Int)))), ((true && !((decide (((dget l k).var : Int) < (0 : Int))) || ((decide ((0 : Int) < (((k : Nat) : Int) : Int))) && (decide (((dget l k).var : Int) ≤ ((dget l ((k - 1))).var : Int)))))), .val (.pointer (some ⟨b4, o5 + k * 3, none⟩))), ((true && !((decide (((dget l k).var : Int) < (0 : Int))) || ((decide ((0 : Int) < (((k : Nat) : Int) : Int))) && (decide (((dget l k).var : Int) ≤ ((dget l ((k - 1))).var : Int)))))), .val (.pointer (some ⟨b4, o5 + k * 3 + 1, none⟩))), ((true && !((decide (((dget l k).var : Int) < (0 : Int))) || ((decide ((0 : Int) < (((k : Nat) : Int) : Int))) && (decide (((dget l k).var : Int) ≤ ((dget l ((k - 1))).var : Int)))))), .val (.agg #[.int .i64 ((dget l k).t.f), .slice ((A6 k)) ((dget l k).t.args.length) ((C7 k))])), ((true && !((decide (((dget l k).var : Int) < (0 : Int))) || ((decide ((0 : Int) < (((k : Nat) : Int) : Int))) && (decide (((dget l k).var : Int) ≤ ((dget l ((k - 1))).var : Int)))))), .val (.slice a l.length c)), ((true && !((decide (((dget l k).var : Int) < (0 : Int))) || ((decide ((0 : Int) < (((k : Nat) : Int) : Int))) && (decide (((dget l k).var : Int) ≤ ((dget l ((k - 1))).var : Int)))))), .val (.int .i64 (((k : Nat) : Int)))), ((true && !((decide (((dget l k).var : Int) < (0 : Int))) || ((decide ((0 : Int) < (((k : Nat) : Int) : Int))) && (decide (((dget l k).var : Int) ≤ ((dget l ((k - 1))).var : Int)))))), .val (.pointer (some ⟨b4, o5 + k * 3, none⟩))), ((true && !((decide (((dget l k).var : Int) < (0 : Int))) || ((decide ((0 : Int) < (((k : Nat) : Int) : Int))) && (decide (((dget l k).var : Int) ≤ ((dget l ((k - 1))).var : Int)))))), .val (.pointer (some ⟨b4, o5 + k * 3, none⟩))), ((true && !((decide (((dget l k).var : Int) < (0 : Int))) || ((decide ((0 : Int) < (((k : Nat) : Int) : Int))) && (decide (((dget l k).var : Int) ≤ ((dget l ((k - 1))).var : Int)))))), .val (.int .i64 ((dget l k).var))), ((true && !((decide (((dget l k).var : Int) < (0 : Int))) || ((decide ((0 : Int) < (((k : Nat) : Int) : Int))) && (decide (((dget l k).var : Int) ≤ ((dget l ((k - 1))).var : Int)))))), .val (.bool ((dget l k).itself))), (true, .val (.bool ((((decide (((dget l k).var : Int) < (0 : Int))) || ((decide ((0 : Int) < (((k : Nat) : Int) : Int))) && (decide (((dget l k).var : Int) ≤ ((dget l ((k - 1))).var : Int))))) || (dget l k).itself))))] [(0, .slice a l.length c), (3, .int .i64 (((k : Nat) : Int))), (7, .bool ((decide ((((k : Nat) : Int) : Int) < (((l.length : Nat) : Int) : Int)))))] ⟨rfl, rfl, rfl, trivial⟩ (by kernel_rfl) (by kernel_rfl) (by kernel_rfl) ?_ ?_
   ·refine ⟨⟨true, .none rfl, fun h w => optUndef h, fun zβ za zw zc => ?_⟩, ?_⟩
    ·exact wp_move rfl (zc.kn.ev rfl) ⟨_, rfl, Below.refl _ _, optDef zβ rfl⟩
    refine ⟨⟨true, .none rfl, fun h w => optUndef h, fun zβ za zw zc => ?_⟩, ?_⟩
    ·exact wp_move rfl (zc.kn.ev rfl) ⟨_, rfl, Below.refl _ _, optDef zβ rfl⟩
    refine ⟨⟨true, .none rfl, fun h w => optUndef h, fun zβ za zw zc => ?_⟩, ?_⟩
    ·exact ix_24 (k := k) rfl ((evt za 10).trans (optVal (zc.dep 0 10 (by kernel_rfl)) rfl rfl)) (ha8 k (by first | omega | (simp; omega))) ((evt za 11).trans (optVal (zc.dep 1 11 (by kernel_rfl)) rfl rfl)) (by first | omega | (simp; omega)) ⟨_, rfl, Below.refl _ _, optDef zβ rfl⟩
    refine ⟨⟨true, .none rfl, fun h w => optUndef h, fun zβ za zw zc => ?_⟩, ?_⟩
    ·exact fld_41_0 rfl ((evt za 12).trans (optVal (zc.dep 2 12 (by kernel_rfl)) rfl rfl)) ⟨_, rfl, Below.refl _ _, optDef zβ rfl⟩
    refine ⟨⟨true, .none rfl, fun h w => optUndef h, fun zβ za zw zc => ?_⟩, ?_⟩
    ·exact ld_3 rfl ((evt za 13).trans (optVal (zc.dep 3 13 (by kernel_rfl)) rfl rfl)) (bkeeps (bstep hb2 zc.below) _ _ (hc9 k (by first | omega | (simp; omega))).1) ⟨_, rfl, Below.refl _ _, optDef zβ rfl⟩
    refine ⟨⟨true, .none rfl, fun h w => optUndef h, fun zβ za zw zc => ?_⟩, ?_⟩
    ·exact lss_3 rfl ((evt za 14).trans (optVal (zc.dep 4 14 (by kernel_rfl)) rfl rfl)) (zc.kn.ev rfl) ⟨_, rfl, Below.refl _ _, optDef zβ rfl⟩
    refine ⟨⟨true, .none rfl, fun h w => optUndef h, fun zβ za zw zc => ?_⟩, ?_⟩
    ·exact wp_move rfl ((evt za 15).trans (optVal (zc.dep 5 15 (by kernel_rfl)) rfl rfl)) ⟨_, rfl, Below.refl _ _, optDef zβ rfl⟩
    refine ⟨⟨_, .no (c := (decide (((dget l k).var : Int) < (0 : Int)))) (d := true) rfl (fun v w h => h), fun h w => optUndef h, fun zβ za zw zc => ?_⟩, ?_⟩
    ·exact wp_move rfl (zc.kn.ev rfl) ⟨_, rfl, Below.refl _ _, optDef zβ rfl⟩
    refine ⟨⟨_, .no (c := (decide (((dget l k).var : Int) < (0 : Int)))) (d := true) rfl (fun v w h => h), fun h w => optUndef h, fun zβ za zw zc => ?_⟩, ?_⟩
    ·exact gtr_3 rfl ((evt za 17).trans (optVal (zc.dep 7 17 (by kernel_rfl)) rfl zβ)) (zc.kn.ev rfl) ⟨_, rfl, Below.refl _ _, optDef zβ rfl⟩
    refine ⟨⟨_, .no (c := (decide (((dget l k).var : Int) < (0 : Int)))) (d := true) rfl (fun v w h => h), fun h w => optUndef h, fun zβ za zw zc => ?_⟩, ?_⟩
    ·exact wp_move rfl ((evt za 18).trans (optVal (zc.dep 8 18 (by kernel_rfl)) rfl zβ)) ⟨_, rfl, Below.refl _ _, optDef zβ rfl⟩
    refine ⟨⟨_, .yes (c := (decide ((0 : Int) < (((k : Nat) : Int) : Int)))) (d := (true && !(decide (((dget l k).var : Int) < (0 : Int))))) rfl (fun v w h => h), fun h w => optUndef h, fun zβ za zw zc => ?_⟩, ?_⟩
    ·exact wp_move rfl (zc.kn.ev rfl) ⟨_, rfl, Below.refl _ _, optDef zβ rfl⟩
    refine ⟨⟨_, .yes (c := (decide ((0 : Int) < (((k : Nat) : Int) : Int)))) (d := (true && !(decide (((dget l k).var : Int) < (0 : Int))))) rfl (fun v w h => h), fun h w => optUndef h, fun zβ za zw zc => ?_⟩, ?_⟩
    ·exact wp_move rfl (zc.kn.ev rfl) ⟨_, rfl, Below.refl _ _, optDef zβ rfl⟩
    refine ⟨⟨_, .yes (c := (decide ((0 : Int) < (((k : Nat) : Int) : Int)))) (d := (true && !(decide (((dget l k).var : Int) < (0 : Int))))) rfl (fun v w h => h), fun h w => optUndef h, fun zβ za zw zc => ?_⟩, ?_⟩
    ·exact ix_24 (k := k) rfl ((evt za 20).trans (optVal (zc.dep 10 20 (by kernel_rfl)) rfl zβ)) (ha8 k (by first | omega | (have zz := zβ; simp only [Bool.and_eq_true, Bool.or_eq_true, Bool.true_and, Bool.not_eq_true', Bool.or_eq_false_iff, Bool.and_eq_false_iff, beq_eq_false_iff_ne, ne_eq, beq_iff_eq, decide_eq_true_eq, decide_eq_false_iff_not, bne_iff_ne, bne_eq_false_iff_eq] at zz; omega))) ((evt za 21).trans (optVal (zc.dep 11 21 (by kernel_rfl)) rfl zβ)) (by first | omega | (have zz := zβ; simp only [Bool.and_eq_true, Bool.or_eq_true, Bool.true_and, Bool.not_eq_true', Bool.or_eq_false_iff, Bool.and_eq_false_iff, beq_eq_false_iff_ne, ne_eq, beq_iff_eq, decide_eq_true_eq, decide_eq_false_iff_not, bne_iff_ne, bne_eq_false_iff_eq] at zz; omega)) ⟨_, rfl, Below.refl _ _, optDef zβ rfl⟩
    refine ⟨⟨_, .yes (c := (decide ((0 : Int) < (((k : Nat) : Int) : Int)))) (d := (true && !(decide (((dget l k).var : Int) < (0 : Int))))) rfl (fun v w h => h), fun h w => optUndef h, fun zβ za zw zc => ?_⟩, ?_⟩
    ·exact fld_41_0 rfl ((evt za 22).trans (optVal (zc.dep 12 22 (by kernel_rfl)) rfl zβ)) ⟨_, rfl, Below.refl _ _, optDef zβ rfl⟩
    refine ⟨⟨_, .yes (c := (decide ((0 : Int) < (((k : Nat) : Int) : Int)))) (d := (true && !(decide (((dget l k).var : Int) < (0 : Int))))) rfl (fun v w h => h), fun h w => optUndef h, fun zβ za zw zc => ?_⟩, ?_⟩
    ·exact ld_3 rfl ((evt za 23).trans (optVal (zc.dep 13 23 (by kernel_rfl)) rfl zβ)) (bkeeps (bstep hb2 zc.below) _ _ (hc9 k (by first | omega | (have zz := zβ; simp only [Bool.and_eq_true, Bool.or_eq_true, Bool.true_and, Bool.not_eq_true', Bool.or_eq_false_iff, Bool.and_eq_false_iff, beq_eq_false_iff_ne, ne_eq, beq_iff_eq, decide_eq_true_eq, decide_eq_false_iff_not, bne_iff_ne, bne_eq_false_iff_eq] at zz; omega))).1) ⟨_, rfl, Below.refl _ _, optDef zβ rfl⟩
    refine ⟨⟨_, .yes (c := (decide ((0 : Int) < (((k : Nat) : Int) : Int)))) (d := (true && !(decide (((dget l k).var : Int) < (0 : Int))))) rfl (fun v w h => h), fun h w => optUndef h, fun zβ za zw zc => ?_⟩, ?_⟩
    ·exact wp_move rfl (zc.kn.ev rfl) ⟨_, rfl, Below.refl _ _, optDef zβ rfl⟩
    refine ⟨⟨_, .yes (c := (decide ((0 : Int) < (((k : Nat) : Int) : Int)))) (d := (true && !(decide (((dget l k).var : Int) < (0 : Int))))) rfl (fun v w h => h), fun h w => optUndef h, fun zβ za zw zc => ?_⟩, ?_⟩
    ·exact wp_move rfl (zc.kn.ev rfl) ⟨_, rfl, Below.refl _ _, optDef zβ rfl⟩
    refine ⟨⟨_, .yes (c := (decide ((0 : Int) < (((k : Nat) : Int) : Int)))) (d := (true && !(decide (((dget l k).var : Int) < (0 : Int))))) rfl (fun v w h => h), fun h w => optUndef h, fun zβ za zw zc => ?_⟩, ?_⟩
    ·exact subb_3 rfl ((evt za 26).trans (optVal (zc.dep 16 26 (by kernel_rfl)) rfl zβ)) (zc.kn.ev rfl) (wrap_eq (by have zz := zβ; simp at zz; omega) (by omega) (by omega)) ⟨_, rfl, Below.refl _ _, optDef zβ rfl⟩
    refine ⟨⟨_, .yes (c := (decide ((0 : Int) < (((k : Nat) : Int) : Int)))) (d := (true && !(decide (((dget l k).var : Int) < (0 : Int))))) rfl (fun v w h => h), fun h w => optUndef h, fun zβ za zw zc => ?_⟩, ?_⟩
    ·exact ix_24 (k := (k - 1)) rfl ((evt za 25).trans (optVal (zc.dep 15 25 (by kernel_rfl)) rfl zβ)) (ha8 ((k - 1)) (by first | omega | (have zz := zβ; simp only [Bool.and_eq_true, Bool.or_eq_true, Bool.true_and, Bool.not_eq_true', Bool.or_eq_false_iff, Bool.and_eq_false_iff, beq_eq_false_iff_ne, ne_eq, beq_iff_eq, decide_eq_true_eq, decide_eq_false_iff_not, bne_iff_ne, bne_eq_false_iff_eq] at zz; omega))) ((evt za 27).trans (optVal (zc.dep 17 27 (by kernel_rfl)) rfl zβ)) (by first | omega | (have zz := zβ; simp only [Bool.and_eq_true, Bool.or_eq_true, Bool.true_and, Bool.not_eq_true', Bool.or_eq_false_iff, Bool.and_eq_false_iff, beq_eq_false_iff_ne, ne_eq, beq_iff_eq, decide_eq_true_eq, decide_eq_false_iff_not, bne_iff_ne, bne_eq_false_iff_eq] at zz; omega)) ⟨_, rfl, Below.refl _ _, optDef zβ rfl⟩
    refine ⟨⟨_, .yes (c := (decide ((0 : Int) < (((k : Nat) : Int) : Int)))) (d := (true && !(decide (((dget l k).var : Int) < (0 : Int))))) rfl (fun v w h => h), fun h w => optUndef h, fun zβ za zw zc => ?_⟩, ?_⟩
    ·exact fld_41_0 rfl ((evt za 28).trans (optVal (zc.dep 18 28 (by kernel_rfl)) rfl zβ)) ⟨_, rfl, Below.refl _ _, optDef zβ rfl⟩
    refine ⟨⟨_, .yes (c := (decide ((0 : Int) < (((k : Nat) : Int) : Int)))) (d := (true && !(decide (((dget l k).var : Int) < (0 : Int))))) rfl (fun v w h => h), fun h w => optUndef h, fun zβ za zw zc => ?_⟩, ?_⟩
    ·exact ld_3 rfl ((evt za 29).trans (optVal (zc.dep 19 29 (by kernel_rfl)) rfl zβ)) (bkeeps (bstep hb2 zc.below) _ _ (hc9 ((k - 1)) (by first | omega | (have zz := zβ; simp only [Bool.and_eq_true, Bool.or_eq_true, Bool.true_and, Bool.not_eq_true', Bool.or_eq_false_iff, Bool.and_eq_false_iff, beq_eq_false_iff_ne, ne_eq, beq_iff_eq, decide_eq_true_eq, decide_eq_false_iff_not, bne_iff_ne, bne_eq_false_iff_eq] at zz; omega))).1) ⟨_, rfl, Below.refl _ _, optDef zβ rfl⟩
    refine ⟨⟨_, .yes (c := (decide ((0 : Int) < (((k : Nat) : Int) : Int)))) (d := (true && !(decide (((dget l k).var : Int) < (0 : Int))))) rfl (fun v w h => h), fun h w => optUndef h, fun zβ za zw zc => ?_⟩, ?_⟩
    ·exact leq_3 rfl ((evt za 24).trans (optVal (zc.dep 14 24 (by kernel_rfl)) rfl zβ)) ((evt za 30).trans (optVal (zc.dep 20 30 (by kernel_rfl)) rfl zβ)) ⟨_, rfl, Below.refl _ _, optDef zβ rfl⟩
    refine ⟨⟨_, .no (c := (decide (((dget l k).var : Int) < (0 : Int)))) (d := true) rfl (fun v w h => h), fun h w => optUndef h, fun zβ za zw zc => ?_⟩, ?_⟩
    ·exact wp_and rfl ((evt za 19).trans (optVal (zc.dep 9 19 (by kernel_rfl)) rfl zβ)) (fun hp => ((evt za 31).trans (optVal (zc.dep 21 31 (by kernel_rfl)) rfl (bMk zβ hp)))) ⟨_, rfl, Below.refl _ _, optDef zβ rfl⟩
    refine ⟨⟨true, .none rfl, fun h w => optUndef h, fun zβ za zw zc => ?_⟩, ?_⟩
    ·exact wp_or rfl ((evt za 16).trans (optVal (zc.dep 6 16 (by kernel_rfl)) rfl rfl)) (fun hp => ((evt za 32).trans (optVal (zc.dep 22 32 (by kernel_rfl)) rfl (bMkN zβ hp)))) ⟨_, rfl, Below.refl _ _, optDef zβ rfl⟩
    refine ⟨⟨true, .none rfl, fun h w => optUndef h, fun zβ za zw zc => ?_⟩, ?_⟩
    ·exact wp_move rfl ((evt za 33).trans (optVal (zc.dep 23 33 (by kernel_rfl)) rfl rfl)) ⟨_, rfl, Below.refl _ _, optDef zβ rfl⟩
    refine ⟨⟨_, .no (c := ((decide (((dget l k).var : Int) < (0 : Int))) || ((decide ((0 : Int) < (((k : Nat) : Int) : Int))) && (decide (((dget l k).var : Int) ≤ ((dget l ((k - 1))).var : Int)))))) (d := true) rfl (fun v w h => h), fun h w => optUndef h, fun zβ za zw zc => ?_⟩, ?_⟩
    ·exact wp_move rfl (zc.kn.ev rfl) ⟨_, rfl, Below.refl _ _, optDef zβ rfl⟩
    refine ⟨⟨_, .no (c := ((decide (((dget l k).var : Int) < (0 : Int))) || ((decide ((0 : Int) < (((k : Nat) : Int) : Int))) && (decide (((dget l k).var : Int) ≤ ((dget l ((k - 1))).var : Int)))))) (d := true) rfl (fun v w h => h), fun h w => optUndef h, fun zβ za zw zc => ?_⟩, ?_⟩
    ·exact wp_move rfl (zc.kn.ev rfl) ⟨_, rfl, Below.refl _ _, optDef zβ rfl⟩
    refine ⟨⟨_, .no (c := ((decide (((dget l k).var : Int) < (0 : Int))) || ((decide ((0 : Int) < (((k : Nat) : Int) : Int))) && (decide (((dget l k).var : Int) ≤ ((dget l ((k - 1))).var : Int)))))) (d := true) rfl (fun v w h => h), fun h w => optUndef h, fun zβ za zw zc => ?_⟩, ?_⟩
    ·exact ix_24 (k := k) rfl ((evt za 35).trans (optVal (zc.dep 25 35 (by kernel_rfl)) rfl zβ)) (ha8 k (by first | omega | (have zz := zβ; simp only [Bool.and_eq_true, Bool.or_eq_true, Bool.true_and, Bool.not_eq_true', Bool.or_eq_false_iff, Bool.and_eq_false_iff, beq_eq_false_iff_ne, ne_eq, beq_iff_eq, decide_eq_true_eq, decide_eq_false_iff_not, bne_iff_ne, bne_eq_false_iff_eq] at zz; omega))) ((evt za 36).trans (optVal (zc.dep 26 36 (by kernel_rfl)) rfl zβ)) (by first | omega | (have zz := zβ; simp only [Bool.and_eq_true, Bool.or_eq_true, Bool.true_and, Bool.not_eq_true', Bool.or_eq_false_iff, Bool.and_eq_false_iff, beq_eq_false_iff_ne, ne_eq, beq_iff_eq, decide_eq_true_eq, decide_eq_false_iff_not, bne_iff_ne, bne_eq_false_iff_eq] at zz; omega)) ⟨_, rfl, Below.refl _ _, optDef zβ rfl⟩
    refine ⟨⟨_, .no (c := ((decide (((dget l k).var : Int) < (0 : Int))) || ((decide ((0 : Int) < (((k : Nat) : Int) : Int))) && (decide (((dget l k).var : Int) ≤ ((dget l ((k - 1))).var : Int)))))) (d := true) rfl (fun v w h => h), fun h w => optUndef h, fun zβ za zw zc => ?_⟩, ?_⟩
    ·exact fld_41_1 rfl ((evt za 37).trans (optVal (zc.dep 27 37 (by kernel_rfl)) rfl zβ)) ⟨_, rfl, Below.refl _ _, optDef zβ rfl⟩
    refine ⟨⟨_, .no (c := ((decide (((dget l k).var : Int) < (0 : Int))) || ((decide ((0 : Int) < (((k : Nat) : Int) : Int))) && (decide (((dget l k).var : Int) ≤ ((dget l ((k - 1))).var : Int)))))) (d := true) rfl (fun v w h => h), fun h w => optUndef h, fun zβ za zw zc => ?_⟩, ?_⟩
    ·exact ld_32 rfl ((evt za 38).trans (optVal (zc.dep 28 38 (by kernel_rfl)) rfl zβ)) (bkeeps (bstep hb2 zc.below) _ _ (hc9 k (by first | omega | (have zz := zβ; simp only [Bool.and_eq_true, Bool.or_eq_true, Bool.true_and, Bool.not_eq_true', Bool.or_eq_false_iff, Bool.and_eq_false_iff, beq_eq_false_iff_ne, ne_eq, beq_iff_eq, decide_eq_true_eq, decide_eq_false_iff_not, bne_iff_ne, bne_eq_false_iff_eq] at zz; omega))).2.1) (bkeeps (bstep hb2 zc.below) _ _ (hc9 k (by first | omega | (have zz := zβ; simp only [Bool.and_eq_true, Bool.or_eq_true, Bool.true_and, Bool.not_eq_true', Bool.or_eq_false_iff, Bool.and_eq_false_iff, beq_eq_false_iff_ne, ne_eq, beq_iff_eq, decide_eq_true_eq, decide_eq_false_iff_not, bne_iff_ne, bne_eq_false_iff_eq] at zz; omega))).2.2.1) ⟨_, rfl, Below.refl _ _, optDef zβ rfl⟩
    refine ⟨⟨_, .no (c := ((decide (((dget l k).var : Int) < (0 : Int))) || ((decide ((0 : Int) < (((k : Nat) : Int) : Int))) && (decide (((dget l k).var : Int) ≤ ((dget l ((k - 1))).var : Int)))))) (d := true) rfl (fun v w h => h), fun h w => optUndef h, fun zβ za zw zc => ?_⟩, ?_⟩
    ·exact wp_move rfl (zc.kn.ev rfl) ⟨_, rfl, Below.refl _ _, optDef zβ rfl⟩
    refine ⟨⟨_, .no (c := ((decide (((dget l k).var : Int) < (0 : Int))) || ((decide ((0 : Int) < (((k : Nat) : Int) : Int))) && (decide (((dget l k).var : Int) ≤ ((dget l ((k - 1))).var : Int)))))) (d := true) rfl (fun v w h => h), fun h w => optUndef h, fun zβ za zw zc => ?_⟩, ?_⟩
    ·exact wp_move rfl (zc.kn.ev rfl) ⟨_, rfl, Below.refl _ _, optDef zβ rfl⟩
    refine ⟨⟨_, .no (c := ((decide (((dget l k).var : Int) < (0 : Int))) || ((decide ((0 : Int) < (((k : Nat) : Int) : Int))) && (decide (((dget l k).var : Int) ≤ ((dget l ((k - 1))).var : Int)))))) (d := true) rfl (fun v w h => h), fun h w => optUndef h, fun zβ za zw zc => ?_⟩, ?_⟩
    ·exact ix_24 (k := k) rfl ((evt za 40).trans (optVal (zc.dep 30 40 (by kernel_rfl)) rfl zβ)) (ha8 k (by first | omega | (have zz := zβ; simp only [Bool.and_eq_true, Bool.or_eq_true, Bool.true_and, Bool.not_eq_true', Bool.or_eq_false_iff, Bool.and_eq_false_iff, beq_eq_false_iff_ne, ne_eq, beq_iff_eq, decide_eq_true_eq, decide_eq_false_iff_not, bne_iff_ne, bne_eq_false_iff_eq] at zz; omega))) ((evt za 41).trans (optVal (zc.dep 31 41 (by kernel_rfl)) rfl zβ)) (by first | omega | (have zz := zβ; simp only [Bool.and_eq_true, Bool.or_eq_true, Bool.true_and, Bool.not_eq_true', Bool.or_eq_false_iff, Bool.and_eq_false_iff, beq_eq_false_iff_ne, ne_eq, beq_iff_eq, decide_eq_true_eq, decide_eq_false_iff_not, bne_iff_ne, bne_eq_false_iff_eq] at zz; omega)) ⟨_, rfl, Below.refl _ _, optDef zβ rfl⟩
    refine ⟨⟨_, .no (c := ((decide (((dget l k).var : Int) < (0 : Int))) || ((decide ((0 : Int) < (((k : Nat) : Int) : Int))) && (decide (((dget l k).var : Int) ≤ ((dget l ((k - 1))).var : Int)))))) (d := true) rfl (fun v w h => h), fun h w => optUndef h, fun zβ za zw zc => ?_⟩, ?_⟩
    ·exact fld_41_0 rfl ((evt za 42).trans (optVal (zc.dep 32 42 (by kernel_rfl)) rfl zβ)) ⟨_, rfl, Below.refl _ _, optDef zβ rfl⟩
    refine ⟨⟨_, .no (c := ((decide (((dget l k).var : Int) < (0 : Int))) || ((decide ((0 : Int) < (((k : Nat) : Int) : Int))) && (decide (((dget l k).var : Int) ≤ ((dget l ((k - 1))).var : Int)))))) (d := true) rfl (fun v w h => h), fun h w => optUndef h, fun zβ za zw zc => ?_⟩, ?_⟩
    ·exact ld_3 rfl ((evt za 43).trans (optVal (zc.dep 33 43 (by kernel_rfl)) rfl zβ)) (bkeeps (bstep hb2 zc.below) _ _ (hc9 k (by first | omega | (have zz := zβ; simp only [Bool.and_eq_true, Bool.or_eq_true, Bool.true_and, Bool.not_eq_true', Bool.or_eq_false_iff, Bool.and_eq_false_iff, beq_eq_false_iff_ne, ne_eq, beq_iff_eq, decide_eq_true_eq, decide_eq_false_iff_not, bne_iff_ne, bne_eq_false_iff_eq] at zz; omega))).1) ⟨_, rfl, Below.refl _ _, optDef zβ rfl⟩
    refine ⟨⟨_, .no (c := ((decide (((dget l k).var : Int) < (0 : Int))) || ((decide ((0 : Int) < (((k : Nat) : Int) : Int))) && (decide (((dget l k).var : Int) ≤ ((dget l ((k - 1))).var : Int)))))) (d := true) rfl (fun v w h => h), fun h w => optUndef h, fun zβ za zw zc => ?_⟩, ?_⟩
    ·exact wp_call (by kernel_rfl) rfl (hv2 ((evt za 39).trans (optVal (zc.dep 29 39 (by kernel_rfl)) rfl zβ)) ((evt za 44).trans (optVal (zc.dep 34 44 (by kernel_rfl)) rfl zβ))) (ritself_any (dget l k) _ _ (hc9 k (by first | omega | (have zz := zβ; simp only [Bool.and_eq_true, Bool.or_eq_true, Bool.true_and, Bool.not_eq_true', Bool.or_eq_false_iff, Bool.and_eq_false_iff, beq_eq_false_iff_ne, ne_eq, beq_iff_eq, decide_eq_true_eq, decide_eq_false_iff_not, bne_iff_ne, bne_eq_false_iff_eq] at zz; omega))).2.2.2.2 (IsT.below (bstep hb2 zc.below) (InT.isT (hc9 k (by first | omega | (have zz := zβ; simp only [Bool.and_eq_true, Bool.or_eq_true, Bool.true_and, Bool.not_eq_true', Bool.or_eq_false_iff, Bool.and_eq_false_iff, beq_eq_false_iff_ne, ne_eq, beq_iff_eq, decide_eq_true_eq, decide_eq_false_iff_not, bne_iff_ne, bne_eq_false_iff_eq] at zz; omega))).2.2.2.1))) (fun v w' h => ⟨v, rfl, h.2, optDef zβ h.1⟩)
    refine ⟨⟨true, .none rfl, fun h w => optUndef h, fun zβ za zw zc => ?_⟩, ?_⟩
    ·exact wp_or rfl ((evt za 34).trans (optVal (zc.dep 24 34 (by kernel_rfl)) rfl rfl)) (fun hp => ((evt za 45).trans (optVal (zc.dep 35 45 (by kernel_rfl)) rfl (bMkN zβ hp)))) ⟨_, rfl, Below.refl _ _, optDef zβ rfl⟩
    exact trivial
   ·intro za w10 zh hb11 zu
    have zh := zh.cons (d := 46) (v := .bool ((((decide (((dget l k).var : Int) < (0 : Int))) || ((decide ((0 : Int) < (((k : Nat) : Int) : Int))) && (decide (((dget l k).var : Int) ≤ ((dget l ((k - 1))).var : Int))))) || (dget l k).itself))) (optVal (zu 36 46 (by kernel_rfl)) rfl rfl)
    clear zu
    refine WE.go zh ?_
    refine WE.next ?_
    refine WC.cond rfl (fun h12 => ?_) (fun h12 => ?_)
    ·have h12 : ((((dget l k).var : Int) < (0 : Int)) ∨ (((0 : Int) < (((k : Nat) : Int) : Int)) ∧ (((dget l k).var : Int) ≤ ((dget l ((k - 1))).var : Int)))) ∨ ((dget l k).itself = true) := by simpa using h12
     refine WC.seq (WC.region (WL.asg rfl rfl rfl rfl rfl (WL.nil (WE.next (WC.ret (WE.blockRet (WE.thenRet (WE.thenRet (WE.blockRet (WE.thenRet (WE.ret1 rfl rfl ?_)))))))))))
     have hb13 : Below w.heap.size w w10 := (bstep hb2 hb11)
     exact ⟨_, rfl, congrArg (Value.int .i64) (by rw [subCheck_of (okTo_no (k := k) (by omega) (by rcases h12 with (h | ⟨h, h2⟩) | h; exact .inl h; exact .inr (.inl ⟨by omega, h2⟩); exact .inr (.inr h)))]; rfl), hb13⟩
    ·have h12 : ¬ (((((dget l k).var : Int) < (0 : Int)) ∨ (((0 : Int) < (((k : Nat) : Int) : Int)) ∧ (((dget l k).var : Int) ≤ ((dget l ((k - 1))).var : Int)))) ∨ ((dget l k).itself = true)) := by simpa using h12
     refine WC.skip (WE.blockNormal (WE.next (WC.region (WL.mv rfl rfl rfl rfl rfl ?_))))
     refine WL.val (.int .i64 ((((k + 1) : Nat) : Int))) rfl rfl rfl (fun za zC zh zk => addb_3 rfl (zh.ev rfl) (zh.ev rfl) (wrap_eq (by omega) (by omega) (by omega)) zk) ?_
     refine WL.asg rfl rfl rfl rfl rfl (WL.nil ?_)
     refine WE.round (k + 1) ⟨rfl, rfl, trivial⟩ ?_ ?_
     ·have hb14 : Below w.heap.size w w10 := (bstep hb2 hb11)
      exact ⟨by omega, fun i hi => by rcases Nat.lt_or_ge i k with q | q; exact hE i q; (obtain rfl : i = k := by omega); have z := h12; simp at z; exact ⟨z.1.1, z.2, fun h0 => z.1.2 h0⟩, hb14⟩
     ·omega
  ·have h3 : ¬ ((((k : Nat) : Int) : Int) < (((l.length : Nat) : Int) : Int)) := by simpa using h3
   refine WC.exit (WE.thenExit (WE.thenExit (WE.blockIs rfl (WE.next (WC.seq (WC.region (WL.asg rfl rfl rfl rfl rfl (WL.nil (WE.next (WC.ret (WE.ret1 rfl rfl ?_)))))))))))
   exact ⟨_, rfl, congrArg (Value.int .i64) (by rw [subCheck_of (okTo_ok (fun i hi => hE i (by omega)))]; rfl), hb2⟩
end Go.Proofs.Ythhgidliopohcaa

/- Substitutions compared, by the program; what stands in terms. -/
namespace Go.Proofs.Ythhgidliopohcaa
open Go.RowKit Go
set_option linter.unusedVariables false
set_option linter.unusedSimpArgs false
theorem hs1 {f g : Int} {l : List T} (h : f = g) : T.hasB g (.mk f l) = true := by rw [T.hasB, decide_eq_true h]; rfl
theorem hs2 {f g : Int} {l : List T} {k : Nat} (hk : k < l.length) (h : T.hasB g (tget l k) = true) : T.hasB g (.mk f l) = true := by
  rw [T.hasB, hasBL_any, List.any_eq_true.2 ⟨_, tget_mem hk, h⟩, Bool.or_true]
end Go.Proofs.Ythhgidliopohcaa

/- UnifyMost: every unifier comes of the most general one. -/
namespace Go.Proofs.Ythhgidliopohcaa
open Go.RowKit Go
set_option linter.unusedVariables false
set_option linter.unusedSimpArgs false
theorem can_yes {p q : T} {zs : List Bd} (hW : wideB [(p, q)] = true) (hz : p.app zs = q.app zs) {w : World} {v1 v2 : Value} (h1 : IsT w p v1) (h2 : IsT w q v2) : Calls Try.prog 11 #[v1, v2] w (Ret fun v' w' => v' = .bool true ∧ Below w.heap.size w w') := by
 refine (pcan_any p q w v1 v2 h1 h2).mono ?_
 rintro e w' ⟨v, rfl, ⟨b, rfl, hb⟩, h⟩
 exact ⟨_, rfl, by rw [can_most hW hz hb], h⟩
theorem app_size {B : Nat} {s : List Bd} (hB : 1 ≤ B) (hs : ∀ b ∈ s, b.t.size ≤ B) (t : T) : (t.app s).size ≤ t.size * B := by
 induction t using T.ind with
 | h f l ih =>
  cases hq : (if f < 0 then subFind s (-1 - f) else none) with
  | some t =>
   by_cases hf : f < 0
   ·rw [if_pos hf] at hq
    rw [app_some hf hq]
    obtain ⟨b, hb, rfl⟩ := subFind_mem hq
    have := hs b hb
    have : 1 * B ≤ (T.mk f l).size * B := Nat.mul_le_mul_right B (by rw [T.size]; omega)
    omega
   ·rw [if_neg hf] at hq; cases hq
  | none =>
   rw [app_none (fun hf => by rw [if_pos hf] at hq; exact hq), T.size, T.size, sizeL_sum, sizeL_sum, Nat.add_mul]
   have key : ∀ l : List T, (∀ t ∈ l, (t.app s).size ≤ t.size * B) → ((l.map (T.app s)).map T.size).sum ≤ ((l.map T.size).sum) * B := fun l => by
    induction l with
    | nil => intro _; simp
    | cons x r ihr =>
     intro h
     have z1 := h x (by simp)
     have z2 := ihr (fun t q => h t (List.mem_cons_of_mem _ q))
     simp only [List.map_cons, List.sum_cons, Nat.add_mul]
     omega
   have := key l ih
   omega
set_option maxRecDepth 100000 in
theorem most_any (p q : T) (zs : List Bd) (t : T) (w : World) (v1 v2 v4 : Value) (sa : Option Addr) (sc : Nat) (h1 : IsT w p v1) (h2 : IsT w q v2) (hz : IsSub w zs sa sc) (h4 : IsT w t v4) (z1 : p.size ≤ 4294967296) (z2 : q.size ≤ 4294967296) (z4 : t.size ≤ 4294967296) :
  Calls Try.prog 4 #[v1, v2, .slice sa zs.length sc, v4] w (Ret fun v' w' => v' = .bool true ∧ Below w.heap.size w w') := by
 obtain ⟨_, a1, c1, rfl, _⟩ := h1.form
 obtain ⟨_, a2, c2, rfl, _⟩ := h2.form
 obtain ⟨_, a4, c4, rfl, _⟩ := h4.form
 have hzcap := hz.cap
 have hzlen := hz.len
 have hzsm := hz.small
 have hsz : ∀ k, k < [(p, q)].length → (prget [(p, q)] k).1.size ≤ 4294967296 ∧ (prget [(p, q)] k).2.size ≤ 4294967296 := fun k hk => by
  obtain rfl : k = 0 := by simp at hk; exact hk
  exact ⟨z1, z2⟩
 refine Calls.walk (l := [.agg #[.int .i64 p.f, .slice a1 p.args.length c1], .agg #[.int .i64 q.f, .slice a2 q.args.length c2], .slice sa zs.length sc, .agg #[.int .i64 t.f, .slice a4 t.args.length c4]]) Try.func4 rfl (by kernel_rfl) ?_
 refine WC.sub (K' := [(0, .agg #[.int .i64 p.f, .slice a1 p.args.length c1]), (1, .agg #[.int .i64 q.f, .slice a2 q.args.length c2]), (2, .slice sa zs.length sc), (3, .agg #[.int .i64 t.f, .slice a4 t.args.length c4])]) ⟨rfl, rfl, rfl, rfl, trivial⟩ ?_
 refine WC.seq (WC.region ?_)
 refine WL.step (post := NewBlk w 32 #[.int .i64 p.f, .slice a1 p.args.length c1]) rfl rfl rfl (fun za zC zh zk => box_32 rfl (zh.ev rfl) (zk _ _ (newBlk _ _ _))) ?_
 rintro _ w1 ⟨g2, rfl, hg3, hB4, hb5, hz6⟩
 have hl7 : w.heap.size ≤ g2 := by omega
 refine WL.step (post := NewBlk w1 32 #[.int .i64 q.f, .slice a2 q.args.length c2]) rfl rfl rfl (fun za zC zh zk => box_32 rfl (zh.ev rfl) (zk _ _ (newBlk _ _ _))) ?_
 rintro _ w8 ⟨g9, rfl, hg10, hB11, hb12, hz13⟩
 have hl14 : g2 < g9 := by have z1 := hB4.lt; omega
 have hl15 : w.heap.size ≤ g9 := by have z2 := (hb5).size; omega
 refine WL.step (post := NewBlk w8 32 #[.int .i64 t.f, .slice a4 t.args.length c4]) rfl rfl rfl (fun za zC zh zk => box_32 rfl (zh.ev rfl) (zk _ _ (newBlk _ _ _))) ?_
 rintro _ w16 ⟨g17, rfl, hg18, hB19, hb20, hz21⟩
 have hl22 : g2 < g17 := by have z1 := hB4.lt; have z2 := (hb12).size; omega
 have hl23 : g9 < g17 := by have z1 := hB11.lt; omega
 have hb24 : Below w.heap.size w w8 := (bstep hb5 hb12)
 have hl25 : w.heap.size ≤ g17 := by have z2 := (hb24).size; omega
 refine WL.asg rfl rfl rfl rfl rfl (WL.nil (WE.next (WC.seq (WC.region ?_))))
 have hb27 : Below w1.heap.size w1 w16 := (bstep hb12 hb20)
 have hB26 := hB4.below hb27
 refine WL.val _ rfl rfl rfl (fun za zC zh zk => ld_32 rfl (zh.ev rfl) ((hB26.cell 0).trans rfl) ((hB26.cell 1).trans rfl) zk) ?_
 have hB28 := hB11.below hb20
 refine WL.val _ rfl rfl rfl (fun za zC zh zk => ld_32 rfl (zh.ev rfl) ((hB28.cell 0).trans rfl) ((hB28.cell 1).trans rfl) zk) ?_
 refine WL.val (.agg #[.int .i64 p.f, .slice a1 p.args.length c1, .int .i64 q.f, .slice a2 q.args.length c2]) rfl rfl rfl (fun za zC zh zk => build_33_0_1 rfl (zh.ev rfl) (zh.ev rfl) zk) ?_
 refine WL.step (post := NewRow w16 33 #[.int .i64 p.f, .slice a1 p.args.length c1, .int .i64 q.f, .slice a2 q.args.length c2] 1) rfl rfl rfl (fun za zC zh zk => row_22_1 rfl (zh.ev rfl) (zk _ _ (newRow _ _ _ _))) ?_
 rintro _ w29 ⟨g30, rfl, hg31, hB32, hb33, hz34⟩
 have hl35 : g2 < g30 := by have z1 := hB26.lt; omega
 have hl36 : g9 < g30 := by have z1 := hB28.lt; omega
 have hl37 : g17 < g30 := by have z1 := hB19.lt; omega
 have hb38 : Below w.heap.size w w16 := (bstep hb5 hb27)
 have hl39 : w.heap.size ≤ g30 := by have z2 := (hb38).size; omega
 refine WL.asg rfl rfl rfl rfl rfl (WL.nil (WE.next (WC.seq (WC.seq ?_))))
 have hb40 : Below w.heap.size w w29 := (bstep hb38 hb33)
 have hB41 := hB19.below hb33
 refine WC.opt [(true, .val (.slice ((some ⟨g30, 0, none⟩)) 1 1)), (true, .val (.bool ((wideB [(p, q)])))), (true, .val (.bool ((!(wideB [(p, q)]))))), (true, .val (.bool ((!(wideB [(p, q)]))))), ((true && !(!(wideB [(p, q)]))), .val (.slice sa zs.length sc)), ((true && !(!(wideB [(p, q)]))), .val (.int .i64 ((subCheck zs)))), ((true && !(!(wideB [(p, q)]))), .val (.bool ((((subCheck zs) : Int) != (0 : Int))))), (true, .val (.bool (((!(wideB [(p, q)])) || (((subCheck zs) : Int) != (0 : Int)))))), (true, .val (.bool (((!(wideB [(p, q)])) || (((subCheck zs) : Int) != (0 : Int)))))), ((true && !((!(wideB [(p, q)])) || (((subCheck zs) : Int) != (0 : Int)))), .val (.slice sa zs.length sc)), ((true && !((!(wideB [(p, q)])) || (((subCheck zs) : Int) != (0 : Int)))), .val (.int .i64 (((zs.length : Nat) : Int)))), ((true && !((!(wideB [(p, q)])) || (((subCheck zs) : Int) != (0 : Int)))), .val (.bool ((decide ((100 : Int) < (((zs.length : Nat) : Int) : Int)))))), (true, .val (.bool ((((!(wideB [(p, q)])) || (((subCheck zs) : Int) != (0 : Int))) || (decide ((100 : Int) < (((zs.length : Nat) : Int) : Int))))))), (true, .val (.bool ((((!(wideB [(p, q)])) || (((subCheck zs) : Int) != (0 : Int))) || (decide ((100 : Int) < (((zs.length : Nat) : Int) : Int))))))), ((true && !(((!(wideB [(p, q)])) || (((subCheck zs) : Int) != (0 : Int))) || (decide ((100 : Int) < (((zs.length : Nat) : Int) : Int))))), .val (.agg #[.int .i64 t.f, .slice a4 t.args.length c4])), ((true && !(((!(wideB [(p, q)])) || (((subCheck zs) : Int) != (0 : Int))) || (decide ((100 : Int) < (((zs.length : Nat) : Int) : Int))))), .val (.int .i64 (((t.size : Nat) : Int)))), ((true && !(((!(wideB [(p, q)])) || (((subCheck zs) : Int) != (0 : Int))) || (decide ((100 : Int) < (((zs.length : Nat) : Int) : Int))))), .val (.bool ((decide ((100 : Int) < (((t.size : Nat) : Int) : Int)))))), (true, .val (.bool (((((!(wideB [(p, q)])) || (((subCheck zs) : Int) != (0 : Int))) || (decide ((100 : Int) < (((zs.length : Nat) : Int) : Int)))) || (decide ((100 : Int) < (((t.size : Nat) : Int) : Int))))))), (true, .val (.bool (((((!(wideB [(p, q)])) || (((subCheck zs) : Int) != (0 : Int))) || (decide ((100 : Int) < (((zs.length : Nat) : Int) : Int)))) || (decide ((100 : Int) < (((t.size : Nat) : Int) : Int))))))), ((true && !((((!(wideB [(p, q)])) || (((subCheck zs) : Int) != (0 : Int))) || (decide ((100 : Int) < (((zs.length : Nat) : Int) : Int)))) || (decide ((100 : Int) < (((t.size : Nat) : Int) : Int))))), .val (.agg #[.int .i64 t.f, .slice a4 t.args.length c4])), ((true && !((((!(wideB [(p, q)])) || (((subCheck zs) : Int) != (0 : Int))) || (decide ((100 : Int) < (((zs.length : Nat) : Int) : Int)))) || (decide ((100 : Int) < (((t.size : Nat) : Int) : Int))))), .val (.bool ((t.small 96)))), ((true && !((((!(wideB [(p, q)])) || (((subCheck zs) : Int) != (0 : Int))) || (decide ((100 : Int) < (((zs.length : Nat) : Int) : Int)))) || (decide ((100 : Int) < (((t.size : Nat) : Int) : Int))))), .val (.bool ((!(t.small 96))))), (true, .val (.bool ((((((!(wideB [(p, q)])) || (((subCheck zs) : Int) != (0 : Int))) || (decide ((100 : Int) < (((zs.length : Nat) : Int) : Int)))) || (decide ((100 : Int) < (((t.size : Nat) : Int) : Int)))) || (!(t.small 96))))))] [(0, .agg #[.int .i64 p.f, .slice a1 p.args.length c1]), (1, .agg #[.int .i64 q.f, .slice a2 q.args.length c2]), (2, .slice sa zs.length sc), (3, .agg #[.int .i64 t.f, .slice a4 t.args.length c4]), (4, .pointer (some ⟨g2, 0, none⟩)), (5, .pointer (some ⟨g9, 0, none⟩)), (7, .pointer (some ⟨g17, 0, none⟩)), (8, .bool false), (9, .slice ((some ⟨g30, 0, none⟩)) 1 1)] ⟨rfl, rfl, rfl, rfl, rfl, rfl, rfl, rfl, rfl, trivial⟩ (by kernel_rfl) (by kernel_rfl) (by kernel_rfl) ?_ ?_
 ·refine ⟨⟨true, .none rfl, fun h w => optUndef h, fun zβ za zw zc => ?_⟩, ?_⟩
  ·exact wp_move rfl (zc.kn.ev rfl) ⟨_, rfl, Below.refl _ _, optDef zβ rfl⟩
  refine ⟨⟨true, .none rfl, fun h w => optUndef h, fun zβ za zw zc => ?_⟩, ?_⟩
  ·exact wp_call (by kernel_rfl) rfl (hv1 ((evt za 17).trans (optVal (zc.dep 0 17 (by kernel_rfl)) rfl rfl))) (rwide_any [(p, q)] _ _ 1 (IsPs.one (hB32.below zc.below) (h1.below (bstep hb40 zc.below)) (h2.below (bstep hb40 zc.below))) (by simp) hsz) (fun v w' h => ⟨v, rfl, h.2, optDef zβ h.1⟩)
  refine ⟨⟨true, .none rfl, fun h w => optUndef h, fun zβ za zw zc => ?_⟩, ?_⟩
  ·exact wp_not rfl ((evt za 18).trans (optVal (zc.dep 1 18 (by kernel_rfl)) rfl rfl)) ⟨_, rfl, Below.refl _ _, optDef zβ rfl⟩
  refine ⟨⟨true, .none rfl, fun h w => optUndef h, fun zβ za zw zc => ?_⟩, ?_⟩
  ·exact wp_move rfl ((evt za 19).trans (optVal (zc.dep 2 19 (by kernel_rfl)) rfl rfl)) ⟨_, rfl, Below.refl _ _, optDef zβ rfl⟩
  refine ⟨⟨_, .no (c := (!(wideB [(p, q)]))) (d := true) rfl (fun v w h => h), fun h w => optUndef h, fun zβ za zw zc => ?_⟩, ?_⟩
  ·exact wp_move rfl (zc.kn.ev rfl) ⟨_, rfl, Below.refl _ _, optDef zβ rfl⟩
  refine ⟨⟨_, .no (c := (!(wideB [(p, q)]))) (d := true) rfl (fun v w h => h), fun h w => optUndef h, fun zβ za zw zc => ?_⟩, ?_⟩
  ·exact wp_call (by kernel_rfl) rfl (hv1 ((evt za 21).trans (optVal (zc.dep 4 21 (by kernel_rfl)) rfl zβ))) (rcheck_any zs _ _ _ hzsm (hz.below (bstep hb40 zc.below)).rows) (fun v w' h => ⟨v, rfl, h.2, optDef zβ h.1⟩)
  refine ⟨⟨_, .no (c := (!(wideB [(p, q)]))) (d := true) rfl (fun v w h => h), fun h w => optUndef h, fun zβ za zw zc => ?_⟩, ?_⟩
  ·exact neq_25 rfl ((evt za 22).trans (optVal (zc.dep 5 22 (by kernel_rfl)) rfl zβ)) (zc.kn.ev rfl) ⟨_, rfl, Below.refl _ _, optDef zβ rfl⟩
  refine ⟨⟨true, .none rfl, fun h w => optUndef h, fun zβ za zw zc => ?_⟩, ?_⟩
  ·exact wp_or rfl ((evt za 20).trans (optVal (zc.dep 3 20 (by kernel_rfl)) rfl rfl)) (fun hp => ((evt za 23).trans (optVal (zc.dep 6 23 (by kernel_rfl)) rfl (bMkN zβ hp)))) ⟨_, rfl, Below.refl _ _, optDef zβ rfl⟩
  refine ⟨⟨true, .none rfl, fun h w => optUndef h, fun zβ za zw zc => ?_⟩, ?_⟩
  ·exact wp_move rfl ((evt za 24).trans (optVal (zc.dep 7 24 (by kernel_rfl)) rfl rfl)) ⟨_, rfl, Below.refl _ _, optDef zβ rfl⟩
  refine ⟨⟨_, .no (c := ((!(wideB [(p, q)])) || (((subCheck zs) : Int) != (0 : Int)))) (d := true) rfl (fun v w h => h), fun h w => optUndef h, fun zβ za zw zc => ?_⟩, ?_⟩
  ·exact wp_move rfl (zc.kn.ev rfl) ⟨_, rfl, Below.refl _ _, optDef zβ rfl⟩
  refine ⟨⟨_, .no (c := ((!(wideB [(p, q)])) || (((subCheck zs) : Int) != (0 : Int)))) (d := true) rfl (fun v w h => h), fun h w => optUndef h, fun zβ za zw zc => ?_⟩, ?_⟩
  ·exact len_24 rfl ((evt za 26).trans (optVal (zc.dep 9 26 (by kernel_rfl)) rfl zβ)) ⟨_, rfl, Below.refl _ _, optDef zβ rfl⟩
  refine ⟨⟨_, .no (c := ((!(wideB [(p, q)])) || (((subCheck zs) : Int) != (0 : Int)))) (d := true) rfl (fun v w h => h), fun h w => optUndef h, fun zβ za zw zc => ?_⟩, ?_⟩
  ·exact gtr_3 rfl ((evt za 27).trans (optVal (zc.dep 10 27 (by kernel_rfl)) rfl zβ)) (zc.kn.ev rfl) ⟨_, rfl, Below.refl _ _, optDef zβ rfl⟩
  refine ⟨⟨true, .none rfl, fun h w => optUndef h, fun zβ za zw zc => ?_⟩, ?_⟩
  ·exact wp_or rfl ((evt za 25).trans (optVal (zc.dep 8 25 (by kernel_rfl)) rfl rfl)) (fun hp => ((evt za 28).trans (optVal (zc.dep 11 28 (by kernel_rfl)) rfl (bMkN zβ hp)))) ⟨_, rfl, Below.refl _ _, optDef zβ rfl⟩
  refine ⟨⟨true, .none rfl, fun h w => optUndef h, fun zβ za zw zc => ?_⟩, ?_⟩
  ·exact wp_move rfl ((evt za 29).trans (optVal (zc.dep 12 29 (by kernel_rfl)) rfl rfl)) ⟨_, rfl, Below.refl _ _, optDef zβ rfl⟩
  refine ⟨⟨_, .no (c := (((!(wideB [(p, q)])) || (((subCheck zs) : Int) != (0 : Int))) || (decide ((100 : Int) < (((zs.length : Nat) : Int) : Int))))) (d := true) rfl (fun v w h => h), fun h w => optUndef h, fun zβ za zw zc => ?_⟩, ?_⟩
  ·exact ld_32 rfl (zc.kn.ev rfl) (bkeeps zc.below _ _ ((hB41.cell 0).trans rfl)) (bkeeps zc.below _ _ ((hB41.cell 1).trans rfl)) ⟨_, rfl, Below.refl _ _, optDef zβ rfl⟩
  refine ⟨⟨_, .no (c := (((!(wideB [(p, q)])) || (((subCheck zs) : Int) != (0 : Int))) || (decide ((100 : Int) < (((zs.length : Nat) : Int) : Int))))) (d := true) rfl (fun v w h => h), fun h w => optUndef h, fun zβ za zw zc => ?_⟩, ?_⟩
  ·exact wp_call (by kernel_rfl) rfl (hv1 ((evt za 31).trans (optVal (zc.dep 14 31 (by kernel_rfl)) rfl zβ))) (rsize_any t _ _ z4 (IsT.below (bstep hb40 zc.below) h4)) (fun v w' h => ⟨v, rfl, h.2, optDef zβ h.1⟩)
  refine ⟨⟨_, .no (c := (((!(wideB [(p, q)])) || (((subCheck zs) : Int) != (0 : Int))) || (decide ((100 : Int) < (((zs.length : Nat) : Int) : Int))))) (d := true) rfl (fun v w h => h), fun h w => optUndef h, fun zβ za zw zc => ?_⟩, ?_⟩
  ·exact gtr_3 rfl ((evt za 32).trans (optVal (zc.dep 15 32 (by kernel_rfl)) rfl zβ)) (zc.kn.ev rfl) ⟨_, rfl, Below.refl _ _, optDef zβ rfl⟩
  refine ⟨⟨true, .none rfl, fun h w => optUndef h, fun zβ za zw zc => ?_⟩, ?_⟩
  ·exact wp_or rfl ((evt za 30).trans (optVal (zc.dep 13 30 (by kernel_rfl)) rfl rfl)) (fun hp => ((evt za 33).trans (optVal (zc.dep 16 33 (by kernel_rfl)) rfl (bMkN zβ hp)))) ⟨_, rfl, Below.refl _ _, optDef zβ rfl⟩
  refine ⟨⟨true, .none rfl, fun h w => optUndef h, fun zβ za zw zc => ?_⟩, ?_⟩
  ·exact wp_move rfl ((evt za 34).trans (optVal (zc.dep 17 34 (by kernel_rfl)) rfl rfl)) ⟨_, rfl, Below.refl _ _, optDef zβ rfl⟩
  refine ⟨⟨_, .no (c := ((((!(wideB [(p, q)])) || (((subCheck zs) : Int) != (0 : Int))) || (decide ((100 : Int) < (((zs.length : Nat) : Int) : Int)))) || (decide ((100 : Int) < (((t.size : Nat) : Int) : Int))))) (d := true) rfl (fun v w h => h), fun h w => optUndef h, fun zβ za zw zc => ?_⟩, ?_⟩
  ·exact ld_32 rfl (zc.kn.ev rfl) (bkeeps zc.below _ _ ((hB41.cell 0).trans rfl)) (bkeeps zc.below _ _ ((hB41.cell 1).trans rfl)) ⟨_, rfl, Below.refl _ _, optDef zβ rfl⟩
  refine ⟨⟨_, .no (c := ((((!(wideB [(p, q)])) || (((subCheck zs) : Int) != (0 : Int))) || (decide ((100 : Int) < (((zs.length : Nat) : Int) : Int)))) || (decide ((100 : Int) < (((t.size : Nat) : Int) : Int))))) (d := true) rfl (fun v w h => h), fun h w => optUndef h, fun zβ za zw zc => ?_⟩, ?_⟩
  ·exact wp_call (by kernel_rfl) rfl (hv2 ((evt za 36).trans (optVal (zc.dep 19 36 (by kernel_rfl)) rfl zβ)) (zc.kn.ev rfl)) (rsmall_any t 96 _ _ (by omega) z4 (IsT.below (bstep hb40 zc.below) h4)) (fun v w' h => ⟨v, rfl, h.2, optDef zβ h.1⟩)
  refine ⟨⟨_, .no (c := ((((!(wideB [(p, q)])) || (((subCheck zs) : Int) != (0 : Int))) || (decide ((100 : Int) < (((zs.length : Nat) : Int) : Int)))) || (decide ((100 : Int) < (((t.size : Nat) : Int) : Int))))) (d := true) rfl (fun v w h => h), fun h w => optUndef h, fun zβ za zw zc => ?_⟩, ?_⟩
  ·exact wp_not rfl ((evt za 37).trans (optVal (zc.dep 20 37 (by kernel_rfl)) rfl zβ)) ⟨_, rfl, Below.refl _ _, optDef zβ rfl⟩
  refine ⟨⟨true, .none rfl, fun h w => optUndef h, fun zβ za zw zc => ?_⟩, ?_⟩
  ·exact wp_or rfl ((evt za 35).trans (optVal (zc.dep 18 35 (by kernel_rfl)) rfl rfl)) (fun hp => ((evt za 38).trans (optVal (zc.dep 21 38 (by kernel_rfl)) rfl (bMkN zβ hp)))) ⟨_, rfl, Below.refl _ _, optDef zβ rfl⟩
  exact trivial
 ·intro za w42 zh hb43 zu
  have zh := zh.cons (d := 39) (v := .bool ((((((!(wideB [(p, q)])) || (((subCheck zs) : Int) != (0 : Int))) || (decide ((100 : Int) < (((zs.length : Nat) : Int) : Int)))) || (decide ((100 : Int) < (((t.size : Nat) : Int) : Int)))) || (!(t.small 96))))) (optVal (zu 22 39 (by kernel_rfl)) rfl rfl)
  clear zu
  refine WE.go zh ?_
  refine WE.next ?_
  refine WC.cond rfl (fun h44 => ?_) (fun h44 => ?_)
  ·have h44 : ((((¬ ((wideB [(p, q)]) = true)) ∨ (((subCheck zs) : Int) ≠ (0 : Int))) ∨ ((100 : Int) < (((zs.length : Nat) : Int) : Int))) ∨ ((100 : Int) < (((t.size : Nat) : Int) : Int))) ∨ (¬ ((t.small 96) = true)) := by simpa using h44
   refine WC.seq (WC.region ?_)
   refine WL.call rfl rfl rfl (fun za zh zC => wp_call (by kernel_rfl) rfl (hv0)) (wakes_any _) ?_
   rintro _ w46 ⟨rfl, hq45⟩
   refine WL.asg rfl rfl rfl rfl rfl (WL.nil (WE.next (WC.ret (WE.thenRet (WE.ret1 rfl rfl ?_)))))
   have hb47 : Below w.heap.size w w46 := (bstep (bstep hb40 hb43) hq45)
   exact ⟨_, rfl, rfl, hb47⟩
  ·have h44 : ¬ (((((¬ ((wideB [(p, q)]) = true)) ∨ (((subCheck zs) : Int) ≠ (0 : Int))) ∨ ((100 : Int) < (((zs.length : Nat) : Int) : Int))) ∨ ((100 : Int) < (((t.size : Nat) : Int) : Int))) ∨ (¬ ((t.small 96) = true))) := by simpa using h44
   have h39 := h44
   simp only [not_or, Bool.not_eq_true, Bool.not_eq_false, Bool.not_eq_eq_eq_not, Bool.not_true, Bool.not_false, Int.not_lt, ne_eq, Decidable.not_not] at h39
   have hW : wideB [(p, q)] = true := by simp_all
   have htw : t.low 96 = true := (small_low (by simp_all)).2
   refine WC.skip (WE.next (WC.seq (WC.seq (WC.region (WL.mv rfl rfl rfl rfl rfl ?_)))))
   refine WL.val (.int .i64 (((zs.length : Nat) : Int))) rfl rfl rfl (fun za zC zh zk => len_24 rfl (zh.ev rfl) zk) ?_
   refine WL.mv rfl rfl rfl rfl rfl (WL.nil (WE.next (WC.block ?_)))
   refine WC.loop (X := Nat) (fun k => zs.length - k) (fun k => [(0, .agg #[.int .i64 p.f, .slice a1 p.args.length c1]), (1, .agg #[.int .i64 q.f, .slice a2 q.args.length c2]), (2, .slice sa zs.length sc), (3, .agg #[.int .i64 t.f, .slice a4 t.args.length c4]), (4, .pointer (some ⟨g2, 0, none⟩)), (5, .pointer (some ⟨g9, 0, none⟩)), (7, .pointer (some ⟨g17, 0, none⟩)), (9, .slice ((some ⟨g30, 0, none⟩)) 1 1), (39, .bool ((((((!(wideB [(p, q)])) || (((subCheck zs) : Int) != (0 : Int))) || (decide ((100 : Int) < (((zs.length : Nat) : Int) : Int)))) || (decide ((100 : Int) < (((t.size : Nat) : Int) : Int)))) || (!(t.small 96))))), (42, .int .i64 (((zs.length : Nat) : Int))), (43, .int .i64 (((k : Nat) : Int)))]) (fun k w48 => k ≤ zs.length ∧ Below w.heap.size w w48 ∧ Blk w48 g2 32 #[.int .i64 p.f, .slice a1 p.args.length c1] ∧ Blk w48 g9 32 #[.int .i64 q.f, .slice a2 q.args.length c2] ∧ Blk w48 g17 32 #[.int .i64 t.f, .slice a4 t.args.length c4] ∧ Blk w48 g30 33 #[.int .i64 p.f, .slice a1 p.args.length c1, .int .i64 q.f, .slice a2 q.args.length c2]) 0 ⟨rfl, rfl, rfl, rfl, rfl, rfl, rfl, rfl, rfl, rfl, rfl, trivial⟩ ?_ ?_
   ·have hb49 : Below w.heap.size w w42 := (bstep hb40 hb43)
    have hb51 : Below w16.heap.size w16 w42 := (bstep hb33 hb43)
    have hB50 := hB26.below hb51
    have hB52 := hB28.below hb51
    have hB53 := hB41.below hb43
    have hB54 := hB32.below hb43
    exact ⟨Nat.zero_le _, hb49, hB50, hB52, hB53, hB54⟩
   ·rintro k w48 ⟨hk, hb55, hB56, hB57, hB58, hB59⟩
    refine WC.seq (WC.region ?_)
    refine WL.val (.bool ((decide ((((k : Nat) : Int) : Int) < (((zs.length : Nat) : Int) : Int))))) rfl rfl rfl (fun za zC zh zk => lss_3 rfl (zh.ev rfl) (zh.ev rfl) zk) ?_
    refine WL.nil (WE.next (WC.seq ?_))
    refine WC.cond rfl (fun h60 => ?_) (fun h60 => ?_)
    ·have h60 : (((k : Nat) : Int) : Int) < (((zs.length : Nat) : Int) : Int) := by simpa using h60
     refine WC.skip (WE.next (WC.seq (WC.block (WC.seq (WC.region (WL.mv rfl rfl rfl rfl rfl (WL.asg rfl rfl rfl rfl rfl (WL.nil (WE.next (WC.seq (WC.region (WL.mv rfl rfl rfl rfl rfl (WL.mv rfl rfl rfl rfl rfl ?_)))))))))))))
     obtain ⟨b61, o62, A63, C64, ha65, hc66⟩ := InRow.openB hz.rows
     refine WL.val _ rfl rfl rfl (fun za zC zh zk => ix_24 (k := k) rfl (zh.ev rfl) (ha65 k (by first | omega | (simp; omega))) (zh.ev rfl) (by first | omega | (simp; omega)) zk) ?_
     refine WL.val _ rfl rfl rfl (fun za zC zh zk => fld_41_1 rfl (zh.ev rfl) zk) ?_
     refine WL.val _ rfl rfl rfl (fun za zC zh zk => ld_32 rfl (zh.ev rfl) (bkeeps hb55 _ _ (hc66 k (by first | omega | (simp; omega))).2.1) (bkeeps hb55 _ _ (hc66 k (by first | omega | (simp; omega))).2.2.1) zk) ?_
     refine WL.call rfl rfl rfl (fun za zh zC => wp_call (by kernel_rfl) rfl (hv2 (zh.ev rfl) (zh.ev rfl))) (rsmall_any ((dget zs k).t) 1099511627776 _ _ (by omega) (hz.parts _ (dget_mem (by omega))) (IsT.below hb55 (InT.isT (hc66 k (by first | omega | (simp; omega))).2.2.2.1))) ?_
     rintro _ w68 ⟨rfl, hq67⟩
     refine WL.val (.bool ((!(((dget zs k).t).small 1099511627776)))) rfl rfl rfl (fun za zC zh zk => wp_not rfl (zh.ev rfl) zk) ?_
     refine WL.nil (WE.next ?_)
     refine WC.cond rfl (fun h69 => ?_) (fun h69 => ?_)
     ·have h69 : ¬ ((((dget zs k).t).small 1099511627776) = true) := by simpa using h69
      refine WC.seq (WC.region ?_)
      refine WL.call rfl rfl rfl (fun za zh zC => wp_call (by kernel_rfl) rfl (hv0)) (wakes_any _) ?_
      rintro _ w71 ⟨rfl, hq70⟩
      refine WL.asg rfl rfl rfl rfl rfl (WL.nil (WE.next (WC.ret (WE.blockRet (WE.thenRet (WE.thenRet (WE.blockRet (WE.thenRet (WE.ret1 rfl rfl ?_)))))))))
      have hb72 : Below w.heap.size w w71 := (bstep (bstep hb55 hq67) hq70)
      exact ⟨_, rfl, rfl, hb72⟩
     ·have h69 : ¬ (¬ ((((dget zs k).t).small 1099511627776) = true)) := by simpa using h69
      refine WC.skip (WE.blockNormal (WE.next (WC.region ?_)))
      refine WL.val (.int .i64 ((((k + 1) : Nat) : Int))) rfl rfl rfl (fun za zC zh zk => addb_3 rfl (zh.ev rfl) (zh.ev rfl) (wrap_eq (by omega) (by omega) (by omega)) zk) ?_
      refine WL.mv rfl rfl rfl rfl rfl (WL.nil ?_)
      refine WE.round (k + 1) ⟨rfl, rfl, rfl, rfl, rfl, rfl, rfl, rfl, rfl, rfl, rfl, trivial⟩ ?_ ?_
      ·have hb73 : Below w.heap.size w w68 := (bstep hb55 hq67)
       have hB74 := hB56.below hq67
       have hB75 := hB57.below hq67
       have hB76 := hB58.below hq67
       have hB77 := hB59.below hq67
       exact ⟨by omega, hb73, hB74, hB75, hB76, hB77⟩
      ·omega
    ·have h60 : ¬ ((((k : Nat) : Int) : Int) < (((zs.length : Nat) : Int) : Int)) := by simpa using h60
     refine WC.exit (WE.thenExit (WE.thenExit (WE.blockIs rfl (WE.next (WC.seq (WC.seq ?_))))))
     refine WC.opt [(true, .val (.slice sa zs.length sc)), (true, .val (.agg #[.int .i64 p.f, .slice a1 p.args.length c1])), (true, .mem (fun v w' => IsT w' (p.app zs) v) (fun v w w' hb h => IsT.below hb h)), (true, .val (.slice sa zs.length sc)), (true, .val (.agg #[.int .i64 q.f, .slice a2 q.args.length c2])), (true, .mem (fun v w' => IsT w' (q.app zs) v) (fun v w w' hb h => IsT.below hb h)), (true, .val (.bool ((T.same (p.app zs) (q.app zs))))), (true, .val (.bool ((!(T.same (p.app zs) (q.app zs))))))] [(0, .agg #[.int .i64 p.f, .slice a1 p.args.length c1]), (1, .agg #[.int .i64 q.f, .slice a2 q.args.length c2]), (2, .slice sa zs.length sc), (3, .agg #[.int .i64 t.f, .slice a4 t.args.length c4]), (4, .pointer (some ⟨g2, 0, none⟩)), (5, .pointer (some ⟨g9, 0, none⟩)), (7, .pointer (some ⟨g17, 0, none⟩)), (9, .slice ((some ⟨g30, 0, none⟩)) 1 1), (39, .bool ((((((!(wideB [(p, q)])) || (((subCheck zs) : Int) != (0 : Int))) || (decide ((100 : Int) < (((zs.length : Nat) : Int) : Int)))) || (decide ((100 : Int) < (((t.size : Nat) : Int) : Int)))) || (!(t.small 96))))), (42, .int .i64 (((zs.length : Nat) : Int))), (43, .int .i64 (((k : Nat) : Int))), (44, .bool ((decide ((((k : Nat) : Int) : Int) < (((zs.length : Nat) : Int) : Int)))))] ⟨rfl, rfl, rfl, rfl, rfl, rfl, rfl, rfl, rfl, rfl, rfl, rfl, trivial⟩ (by kernel_rfl) (by kernel_rfl) (by kernel_rfl) ?_ ?_
     ·refine ⟨⟨true, .none rfl, fun h w => optUndef h, fun zβ za zw zc => ?_⟩, ?_⟩
      ·exact wp_move rfl (zc.kn.ev rfl) ⟨_, rfl, Below.refl _ _, optDef zβ rfl⟩
      refine ⟨⟨true, .none rfl, fun h w => optUndef h, fun zβ za zw zc => ?_⟩, ?_⟩
      ·exact ld_32 rfl (zc.kn.ev rfl) (bkeeps zc.below _ _ ((hB56.cell 0).trans rfl)) (bkeeps zc.below _ _ ((hB56.cell 1).trans rfl)) ⟨_, rfl, Below.refl _ _, optDef zβ rfl⟩
      refine ⟨⟨true, .none rfl, fun h w => optUndef h, fun zβ za zw zc => ?_⟩, ?_⟩
      ·exact wp_call (by kernel_rfl) rfl (hv2 ((evt za 55).trans (optVal (zc.dep 0 55 (by kernel_rfl)) rfl rfl)) ((evt za 56).trans (optVal (zc.dep 1 56 (by kernel_rfl)) rfl rfl))) (rapply_any zs sa sc p _ _ z1 (IsT.below (bstep hb55 zc.below) h1) (hz.below (bstep hb55 zc.below))) (fun v w' h => ⟨v, rfl, h.2, optDef zβ (InT.isT h.1)⟩)
      refine ⟨⟨true, .none rfl, fun h w => optUndef h, fun zβ za zw zc => ?_⟩, ?_⟩
      ·exact wp_move rfl (zc.kn.ev rfl) ⟨_, rfl, Below.refl _ _, optDef zβ rfl⟩
      refine ⟨⟨true, .none rfl, fun h w => optUndef h, fun zβ za zw zc => ?_⟩, ?_⟩
      ·exact ld_32 rfl (zc.kn.ev rfl) (bkeeps zc.below _ _ ((hB57.cell 0).trans rfl)) (bkeeps zc.below _ _ ((hB57.cell 1).trans rfl)) ⟨_, rfl, Below.refl _ _, optDef zβ rfl⟩
      refine ⟨⟨true, .none rfl, fun h w => optUndef h, fun zβ za zw zc => ?_⟩, ?_⟩
      ·exact wp_call (by kernel_rfl) rfl (hv2 ((evt za 58).trans (optVal (zc.dep 3 58 (by kernel_rfl)) rfl rfl)) ((evt za 59).trans (optVal (zc.dep 4 59 (by kernel_rfl)) rfl rfl))) (rapply_any zs sa sc q _ _ z2 (IsT.below (bstep hb55 zc.below) h2) (hz.below (bstep hb55 zc.below))) (fun v w' h => ⟨v, rfl, h.2, optDef zβ (InT.isT h.1)⟩)
      refine ⟨⟨true, .none rfl, fun h w => optUndef h, fun zβ za zw zc => ?_⟩, ?_⟩
      ·exact wp_call (by kernel_rfl) rfl (hv2 (evt za 57) (evt za 60)) (ret_of (rsame_any (p.app zs) (q.app zs) _ _ _ (optMem (zc.dep 2 57 (by kernel_rfl)) rfl rfl) (optMem (zc.dep 5 60 (by kernel_rfl)) rfl rfl))) (fun v w' h => ⟨v, rfl, h.2, optDef zβ h.1⟩)
      refine ⟨⟨true, .none rfl, fun h w => optUndef h, fun zβ za zw zc => ?_⟩, ?_⟩
      ·exact wp_not rfl ((evt za 61).trans (optVal (zc.dep 6 61 (by kernel_rfl)) rfl rfl)) ⟨_, rfl, Below.refl _ _, optDef zβ rfl⟩
      exact trivial
     ·intro za w78 zh hb79 zu
      have zh := zh.cons (d := 62) (v := .bool ((!(T.same (p.app zs) (q.app zs))))) (optVal (zu 7 62 (by kernel_rfl)) rfl rfl)
      clear zu
      refine WE.go zh ?_
      refine WE.next ?_
      refine WC.cond rfl (fun h80 => ?_) (fun h80 => ?_)
      ·have h80 : ¬ ((T.same (p.app zs) (q.app zs)) = true) := by simpa using h80
       refine WC.seq (WC.region ?_)
       refine WL.call rfl rfl rfl (fun za zh zC => wp_call (by kernel_rfl) rfl (hv0)) (wakes_any _) ?_
       rintro _ w82 ⟨rfl, hq81⟩
       refine WL.asg rfl rfl rfl rfl rfl (WL.nil (WE.next (WC.ret (WE.thenRet (WE.ret1 rfl rfl ?_)))))
       have hb83 : Below w.heap.size w w82 := (bstep (bstep hb55 hb79) hq81)
       exact ⟨_, rfl, rfl, hb83⟩
      ·have h80 : ¬ (¬ ((T.same (p.app zs) (q.app zs)) = true)) := by simpa using h80
       have heq : p.app zs = q.app zs := (T.same_iff _ _).1 (by simpa using h80)
       refine WC.skip (WE.next (WC.seq (WC.region ?_)))
       have hB84 := hB56.below hb79
       refine WL.val _ rfl rfl rfl (fun za zC zh zk => ld_32 rfl (zh.ev rfl) ((hB84.cell 0).trans rfl) ((hB84.cell 1).trans rfl) zk) ?_
       have hB85 := hB57.below hb79
       refine WL.val _ rfl rfl rfl (fun za zC zh zk => ld_32 rfl (zh.ev rfl) ((hB85.cell 0).trans rfl) ((hB85.cell 1).trans rfl) zk) ?_
       have hb86 : Below w.heap.size w w78 := (bstep hb55 hb79)
       refine WL.call rfl rfl rfl (fun za zh zC => wp_call (by kernel_rfl) rfl (hv2 (zh.ev rfl) (zh.ev rfl))) (pterms_any p q _ _ _ (IsT.below hb86 h1) (IsT.below hb86 h2)) ?_
       rintro _ w87 ⟨⟨bs, ra, rc, e, rfl, hP, hR, hle, hcm, h96⟩, hbn⟩
       refine WL.mv rfl rfl rfl rfl rfl ?_
       refine WL.val (.slice ra bs.length rc) rfl rfl rfl (fun za zC zh zk => ext2_0 rfl (zh.ev rfl) zk) ?_
       refine WL.val (.int .i64 e) rfl rfl rfl (fun za zC zh zk => ext2_1 rfl (zh.ev rfl) zk) ?_
       refine WL.asg rfl rfl rfl rfl rfl (WL.asg rfl rfl rfl rfl rfl (WL.nil (WE.next (WC.seq (WC.seq ?_)))))
       have hB88 := hB84.below hbn
       have hB89 := hB85.below hbn
       have hb90 : Below w.heap.size w w87 := (bstep hb86 hbn)
       refine WC.opt [(true, .val (.agg #[.int .i64 p.f, .slice a1 p.args.length c1])), (true, .val (.agg #[.int .i64 q.f, .slice a2 q.args.length c2])), (true, .val (.bool true)), (true, .val (.bool false)), (true, .val (.bool false)), ((true && !false), .val (.int .i64 e)), ((true && !false), .val (.bool (((e : Int) == (4 : Int))))), (true, .val (.bool (((e : Int) == (4 : Int))))), (true, .val (.bool (((e : Int) == (4 : Int))))), ((true && !((e : Int) == (4 : Int))), .val (.int .i64 e)), ((true && !((e : Int) == (4 : Int))), .val (.bool (((e : Int) == (2 : Int))))), (true, .val (.bool ((((e : Int) == (4 : Int)) || ((e : Int) == (2 : Int))))))] [(0, .agg #[.int .i64 p.f, .slice a1 p.args.length c1]), (1, .agg #[.int .i64 q.f, .slice a2 q.args.length c2]), (2, .slice sa zs.length sc), (3, .agg #[.int .i64 t.f, .slice a4 t.args.length c4]), (4, .pointer (some ⟨g2, 0, none⟩)), (5, .pointer (some ⟨g9, 0, none⟩)), (7, .pointer (some ⟨g17, 0, none⟩)), (9, .slice ((some ⟨g30, 0, none⟩)) 1 1), (11, .slice ra bs.length rc), (12, .int .i64 e), (39, .bool ((((((!(wideB [(p, q)])) || (((subCheck zs) : Int) != (0 : Int))) || (decide ((100 : Int) < (((zs.length : Nat) : Int) : Int)))) || (decide ((100 : Int) < (((t.size : Nat) : Int) : Int)))) || (!(t.small 96))))), (42, .int .i64 (((zs.length : Nat) : Int))), (43, .int .i64 (((k : Nat) : Int))), (44, .bool ((decide ((((k : Nat) : Int) : Int) < (((zs.length : Nat) : Int) : Int))))), (62, .bool ((!(T.same (p.app zs) (q.app zs)))))] ⟨rfl, rfl, rfl, rfl, rfl, rfl, rfl, rfl, rfl, rfl, rfl, rfl, rfl, rfl, rfl, trivial⟩ (by kernel_rfl) (by kernel_rfl) (by kernel_rfl) ?_ ?_
       ·refine ⟨⟨true, .none rfl, fun h w => optUndef h, fun zβ za zw zc => ?_⟩, ?_⟩
        ·exact ld_32 rfl (zc.kn.ev rfl) (bkeeps zc.below _ _ ((hB88.cell 0).trans rfl)) (bkeeps zc.below _ _ ((hB88.cell 1).trans rfl)) ⟨_, rfl, Below.refl _ _, optDef zβ rfl⟩
        refine ⟨⟨true, .none rfl, fun h w => optUndef h, fun zβ za zw zc => ?_⟩, ?_⟩
        ·exact ld_32 rfl (zc.kn.ev rfl) (bkeeps zc.below _ _ ((hB89.cell 0).trans rfl)) (bkeeps zc.below _ _ ((hB89.cell 1).trans rfl)) ⟨_, rfl, Below.refl _ _, optDef zβ rfl⟩
        refine ⟨⟨true, .none rfl, fun h w => optUndef h, fun zβ za zw zc => ?_⟩, ?_⟩
        ·exact wp_call (by kernel_rfl) rfl (hv2 ((evt za 70).trans (optVal (zc.dep 0 70 (by kernel_rfl)) rfl rfl)) ((evt za 71).trans (optVal (zc.dep 1 71 (by kernel_rfl)) rfl rfl))) (can_yes hW heq (IsT.below (bstep hb90 zc.below) h1) (IsT.below (bstep hb90 zc.below) h2)) (fun v w' h => ⟨v, rfl, h.2, optDef zβ h.1⟩)
        refine ⟨⟨true, .none rfl, fun h w => optUndef h, fun zβ za zw zc => ?_⟩, ?_⟩
        ·exact wp_not rfl ((evt za 72).trans (optVal (zc.dep 2 72 (by kernel_rfl)) rfl rfl)) ⟨_, rfl, Below.refl _ _, optDef zβ rfl⟩
        refine ⟨⟨true, .none rfl, fun h w => optUndef h, fun zβ za zw zc => ?_⟩, ?_⟩
        ·exact wp_move rfl ((evt za 73).trans (optVal (zc.dep 3 73 (by kernel_rfl)) rfl rfl)) ⟨_, rfl, Below.refl _ _, optDef zβ rfl⟩
        refine ⟨⟨_, .no (c := false) (d := true) rfl (fun v w h => h), fun h w => optUndef h, fun zβ za zw zc => ?_⟩, ?_⟩
        ·exact wp_move rfl (zc.kn.ev rfl) ⟨_, rfl, Below.refl _ _, optDef zβ rfl⟩
        refine ⟨⟨_, .no (c := false) (d := true) rfl (fun v w h => h), fun h w => optUndef h, fun zβ za zw zc => ?_⟩, ?_⟩
        ·exact eql_25 rfl ((evt za 75).trans (optVal (zc.dep 5 75 (by kernel_rfl)) rfl rfl)) (zc.kn.ev rfl) ⟨_, rfl, Below.refl _ _, optDef zβ rfl⟩
        refine ⟨⟨true, .none rfl, fun h w => optUndef h, fun zβ za zw zc => ?_⟩, ?_⟩
        ·exact wp_pickF rfl ((evt za 74).trans (optVal (zc.dep 4 74 (by kernel_rfl)) rfl rfl)) ((evt za 76).trans (optVal (zc.dep 6 76 (by kernel_rfl)) rfl rfl)) ⟨_, rfl, Below.refl _ _, optDef zβ rfl⟩
        refine ⟨⟨true, .none rfl, fun h w => optUndef h, fun zβ za zw zc => ?_⟩, ?_⟩
        ·exact wp_move rfl ((evt za 77).trans (optVal (zc.dep 7 77 (by kernel_rfl)) rfl rfl)) ⟨_, rfl, Below.refl _ _, optDef zβ rfl⟩
        refine ⟨⟨_, .no (c := ((e : Int) == (4 : Int))) (d := true) rfl (fun v w h => h), fun h w => optUndef h, fun zβ za zw zc => ?_⟩, ?_⟩
        ·exact wp_move rfl (zc.kn.ev rfl) ⟨_, rfl, Below.refl _ _, optDef zβ rfl⟩
        refine ⟨⟨_, .no (c := ((e : Int) == (4 : Int))) (d := true) rfl (fun v w h => h), fun h w => optUndef h, fun zβ za zw zc => ?_⟩, ?_⟩
        ·exact eql_25 rfl ((evt za 79).trans (optVal (zc.dep 9 79 (by kernel_rfl)) rfl zβ)) (zc.kn.ev rfl) ⟨_, rfl, Below.refl _ _, optDef zβ rfl⟩
        refine ⟨⟨true, .none rfl, fun h w => optUndef h, fun zβ za zw zc => ?_⟩, ?_⟩
        ·exact wp_or rfl ((evt za 78).trans (optVal (zc.dep 8 78 (by kernel_rfl)) rfl rfl)) (fun hp => ((evt za 80).trans (optVal (zc.dep 10 80 (by kernel_rfl)) rfl (bMkN zβ hp)))) ⟨_, rfl, Below.refl _ _, optDef zβ rfl⟩
        exact trivial
       ·intro za w91 zh hb92 zu
        have zh := zh.cons (d := 81) (v := .bool ((((e : Int) == (4 : Int)) || ((e : Int) == (2 : Int))))) (optVal (zu 11 81 (by kernel_rfl)) rfl rfl)
        clear zu
        refine WE.go zh ?_
        refine WE.next ?_
        refine WC.cond rfl (fun h93 => ?_) (fun h93 => ?_)
        ·have h93 : ((e : Int) = (4 : Int)) ∨ ((e : Int) = (2 : Int)) := by simpa using h93
         obtain ⟨q1, q2, q3, q4⟩ := most_is hW heq hP
         exfalso; first | omega | (simp at h93; omega)
        ·have h93 : ¬ (((e : Int) = (4 : Int)) ∨ ((e : Int) = (2 : Int))) := by simpa using h93
         obtain ⟨q1, q2, q3, q4⟩ := most_is hW heq hP
         refine WC.skip (WE.next (WC.seq (WC.seq (WC.region (WL.mv rfl rfl rfl rfl rfl ?_)))))
         refine WL.val (.bool (((e : Int) != (0 : Int)))) rfl rfl rfl (fun za zC zh zk => neq_25 rfl (zh.ev rfl) (zh.ev rfl) zk) ?_
         refine WL.nil (WE.next ?_)
         refine WC.cond rfl (fun h94 => ?_) (fun h94 => ?_)
         ·have h94 : (e : Int) ≠ (0 : Int) := by simpa using h94
          have e3 := q3 (by omega)
          refine WC.seq ?_
          refine WC.opt [(true, .val (.int .i64 e)), (true, .val (.bool (((e : Int) == (3 : Int))))), (true, .val (.bool (((e : Int) == (3 : Int))))), ((true && ((e : Int) == (3 : Int))), .val (.bool true)), (true, .val (.bool ((((e : Int) == (3 : Int)) && true)))), (true, .val (.bool ((((e : Int) == (3 : Int)) && true))))] [(0, .agg #[.int .i64 p.f, .slice a1 p.args.length c1]), (1, .agg #[.int .i64 q.f, .slice a2 q.args.length c2]), (2, .slice sa zs.length sc), (3, .agg #[.int .i64 t.f, .slice a4 t.args.length c4]), (4, .pointer (some ⟨g2, 0, none⟩)), (5, .pointer (some ⟨g9, 0, none⟩)), (7, .pointer (some ⟨g17, 0, none⟩)), (9, .slice ((some ⟨g30, 0, none⟩)) 1 1), (11, .slice ra bs.length rc), (12, .int .i64 e), (39, .bool ((((((!(wideB [(p, q)])) || (((subCheck zs) : Int) != (0 : Int))) || (decide ((100 : Int) < (((zs.length : Nat) : Int) : Int)))) || (decide ((100 : Int) < (((t.size : Nat) : Int) : Int)))) || (!(t.small 96))))), (42, .int .i64 (((zs.length : Nat) : Int))), (43, .int .i64 (((k : Nat) : Int))), (44, .bool ((decide ((((k : Nat) : Int) : Int) < (((zs.length : Nat) : Int) : Int))))), (62, .bool ((!(T.same (p.app zs) (q.app zs))))), (81, .bool ((((e : Int) == (4 : Int)) || ((e : Int) == (2 : Int))))), (83, .bool (((e : Int) != (0 : Int))))] ⟨rfl, rfl, rfl, rfl, rfl, rfl, rfl, rfl, rfl, rfl, rfl, rfl, rfl, rfl, rfl, rfl, rfl, trivial⟩ (by kernel_rfl) (by kernel_rfl) (by kernel_rfl) ?_ ?_
          ·refine ⟨⟨true, .none rfl, fun h w => optUndef h, fun zβ za zw zc => ?_⟩, ?_⟩
           ·exact wp_move rfl (zc.kn.ev rfl) ⟨_, rfl, Below.refl _ _, optDef zβ rfl⟩
           refine ⟨⟨true, .none rfl, fun h w => optUndef h, fun zβ za zw zc => ?_⟩, ?_⟩
           ·exact eql_25 rfl ((evt za 84).trans (optVal (zc.dep 0 84 (by kernel_rfl)) rfl rfl)) (zc.kn.ev rfl) ⟨_, rfl, Below.refl _ _, optDef zβ rfl⟩
           refine ⟨⟨true, .none rfl, fun h w => optUndef h, fun zβ za zw zc => ?_⟩, ?_⟩
           ·exact wp_move rfl ((evt za 85).trans (optVal (zc.dep 1 85 (by kernel_rfl)) rfl rfl)) ⟨_, rfl, Below.refl _ _, optDef zβ rfl⟩
           refine ⟨⟨_, .yes (c := ((e : Int) == (3 : Int))) (d := true) rfl (fun v w h => h), fun h w => optUndef h, fun zβ za zw zc => ?_⟩, ?_⟩
           ·exact wp_call (by kernel_rfl) rfl (hv0) (wakes_any _) (fun v w' h => ⟨v, rfl, h.2, optDef zβ h.1⟩)
           refine ⟨⟨true, .none rfl, fun h w => optUndef h, fun zβ za zw zc => ?_⟩, ?_⟩
           ·exact wp_and rfl ((evt za 86).trans (optVal (zc.dep 2 86 (by kernel_rfl)) rfl rfl)) (fun hp => ((evt za 87).trans (optVal (zc.dep 3 87 (by kernel_rfl)) rfl (bMk zβ hp)))) ⟨_, rfl, Below.refl _ _, optDef zβ rfl⟩
           refine ⟨⟨true, .none rfl, fun h w => optUndef h, fun zβ za zw zc => ?_⟩, ?_⟩
           ·exact wp_assign rfl ((evt za 88).trans (optVal (zc.dep 4 88 (by kernel_rfl)) rfl rfl)) ⟨_, rfl, Below.refl _ _, optDef zβ rfl⟩
           exact trivial
          ·intro za w95 zh hb96 zu
           have zh := zh.cons (d := 8) (v := .bool ((((e : Int) == (3 : Int)) && true))) (optVal (zu 5 8 (by kernel_rfl)) rfl rfl)
           clear zu
           refine WE.go zh ?_
           refine WE.next (WC.ret (WE.thenRet (WE.ret1 rfl rfl ?_)))
           have hb97 : Below w.heap.size w w95 := (bstep (bstep hb90 hb92) hb96)
           exact ⟨_, rfl, by rw [e3]; rfl, hb97⟩
         ·have h94 : ¬ ((e : Int) ≠ (0 : Int)) := by simpa using h94
          have e0 : e = 0 := by omega
          have hM := (made_is hP).2 e0
          have hS0 : IsSub w87 bs ra rc := ⟨InRow.mono (by decide) (fun _ _ _ => trivial) hR, hle, hcm, by omega, fun b q => by have := hM.small b q; omega⟩
          have hbsz : (t.app bs).size ≤ 4294967296 := by have y1 := app_size (B := 300) (by omega) hM.small t; have y2 := (small_low (t := t) (by simp_all)).1; have y3 := Nat.mul_le_mul_right 300 y2; omega
          refine WC.skip (WE.next (WC.seq ?_))
          have hb99 : Below w48.heap.size w48 w91 := (bstep (bstep hb79 hbn) hb92)
          have hB98 := hB58.below hb99
          have hb100 : Below w.heap.size w w91 := (bstep hb55 hb99)
          refine WC.opt [(true, .val (.slice sa zs.length sc)), (true, .val (.agg #[.int .i64 t.f, .slice a4 t.args.length c4])), (true, .mem (fun v w' => IsT w' (t.app zs) v) (fun v w w' hb h => IsT.below hb h)), (true, .val (.slice sa zs.length sc)), (true, .val (.slice ra bs.length rc)), (true, .val (.agg #[.int .i64 t.f, .slice a4 t.args.length c4])), (true, .mem (fun v w' => IsT w' (t.app bs) v) (fun v w w' hb h => IsT.below hb h)), (true, .mem (fun v w' => IsT w' ((t.app bs).app zs) v) (fun v w w' hb h => IsT.below hb h)), (true, .val (.bool ((T.same (t.app zs) ((t.app bs).app zs))))), (true, .val (.bool ((T.same (t.app zs) ((t.app bs).app zs))))), ((true && (T.same (t.app zs) ((t.app bs).app zs))), .val (.bool true)), (true, .val (.bool (((T.same (t.app zs) ((t.app bs).app zs)) && true)))), (true, .val (.bool (((T.same (t.app zs) ((t.app bs).app zs)) && true))))] [(0, .agg #[.int .i64 p.f, .slice a1 p.args.length c1]), (1, .agg #[.int .i64 q.f, .slice a2 q.args.length c2]), (2, .slice sa zs.length sc), (3, .agg #[.int .i64 t.f, .slice a4 t.args.length c4]), (4, .pointer (some ⟨g2, 0, none⟩)), (5, .pointer (some ⟨g9, 0, none⟩)), (7, .pointer (some ⟨g17, 0, none⟩)), (9, .slice ((some ⟨g30, 0, none⟩)) 1 1), (11, .slice ra bs.length rc), (12, .int .i64 e), (39, .bool ((((((!(wideB [(p, q)])) || (((subCheck zs) : Int) != (0 : Int))) || (decide ((100 : Int) < (((zs.length : Nat) : Int) : Int)))) || (decide ((100 : Int) < (((t.size : Nat) : Int) : Int)))) || (!(t.small 96))))), (42, .int .i64 (((zs.length : Nat) : Int))), (43, .int .i64 (((k : Nat) : Int))), (44, .bool ((decide ((((k : Nat) : Int) : Int) < (((zs.length : Nat) : Int) : Int))))), (62, .bool ((!(T.same (p.app zs) (q.app zs))))), (81, .bool ((((e : Int) == (4 : Int)) || ((e : Int) == (2 : Int))))), (83, .bool (((e : Int) != (0 : Int))))] ⟨rfl, rfl, rfl, rfl, rfl, rfl, rfl, rfl, rfl, rfl, rfl, rfl, rfl, rfl, rfl, rfl, rfl, trivial⟩ (by kernel_rfl) (by kernel_rfl) (by kernel_rfl) ?_ ?_
          ·refine ⟨⟨true, .none rfl, fun h w => optUndef h, fun zβ za zw zc => ?_⟩, ?_⟩
           ·exact wp_move rfl (zc.kn.ev rfl) ⟨_, rfl, Below.refl _ _, optDef zβ rfl⟩
           refine ⟨⟨true, .none rfl, fun h w => optUndef h, fun zβ za zw zc => ?_⟩, ?_⟩
           ·exact ld_32 rfl (zc.kn.ev rfl) (bkeeps zc.below _ _ ((hB98.cell 0).trans rfl)) (bkeeps zc.below _ _ ((hB98.cell 1).trans rfl)) ⟨_, rfl, Below.refl _ _, optDef zβ rfl⟩
           refine ⟨⟨true, .none rfl, fun h w => optUndef h, fun zβ za zw zc => ?_⟩, ?_⟩
           ·exact wp_call (by kernel_rfl) rfl (hv2 ((evt za 89).trans (optVal (zc.dep 0 89 (by kernel_rfl)) rfl rfl)) ((evt za 90).trans (optVal (zc.dep 1 90 (by kernel_rfl)) rfl rfl))) (rapply_any zs sa sc t _ _ z4 (IsT.below (bstep hb100 zc.below) h4) (hz.below (bstep hb100 zc.below))) (fun v w' h => ⟨v, rfl, h.2, optDef zβ (InT.isT h.1)⟩)
           refine ⟨⟨true, .none rfl, fun h w => optUndef h, fun zβ za zw zc => ?_⟩, ?_⟩
           ·exact wp_move rfl (zc.kn.ev rfl) ⟨_, rfl, Below.refl _ _, optDef zβ rfl⟩
           refine ⟨⟨true, .none rfl, fun h w => optUndef h, fun zβ za zw zc => ?_⟩, ?_⟩
           ·exact wp_move rfl (zc.kn.ev rfl) ⟨_, rfl, Below.refl _ _, optDef zβ rfl⟩
           refine ⟨⟨true, .none rfl, fun h w => optUndef h, fun zβ za zw zc => ?_⟩, ?_⟩
           ·exact ld_32 rfl (zc.kn.ev rfl) (bkeeps zc.below _ _ ((hB98.cell 0).trans rfl)) (bkeeps zc.below _ _ ((hB98.cell 1).trans rfl)) ⟨_, rfl, Below.refl _ _, optDef zβ rfl⟩
           refine ⟨⟨true, .none rfl, fun h w => optUndef h, fun zβ za zw zc => ?_⟩, ?_⟩
           ·exact wp_call (by kernel_rfl) rfl (hv2 ((evt za 93).trans (optVal (zc.dep 4 93 (by kernel_rfl)) rfl rfl)) ((evt za 94).trans (optVal (zc.dep 5 94 (by kernel_rfl)) rfl rfl))) (apply_any bs t _ _ ra rc z4 (IsT.below (bstep hb100 zc.below) h4) (hS0.below (bstep hb92 zc.below))) (fun v w' h => ⟨v, rfl, h.2, optDef zβ (InT.isT h.1)⟩)
           refine ⟨⟨true, .none rfl, fun h w => optUndef h, fun zβ za zw zc => ?_⟩, ?_⟩
           ·exact wp_call (by kernel_rfl) rfl (hv2 ((evt za 92).trans (optVal (zc.dep 3 92 (by kernel_rfl)) rfl rfl)) (evt za 95)) (rapply_any zs sa sc (t.app bs) _ _ hbsz (optMem (zc.dep 6 95 (by kernel_rfl)) rfl rfl) (hz.below (bstep hb100 zc.below))) (fun v w' h => ⟨v, rfl, h.2, optDef zβ (InT.isT h.1)⟩)
           refine ⟨⟨true, .none rfl, fun h w => optUndef h, fun zβ za zw zc => ?_⟩, ?_⟩
           ·exact wp_call (by kernel_rfl) rfl (hv2 (evt za 91) (evt za 96)) (ret_of (rsame_any (t.app zs) ((t.app bs).app zs) _ _ _ (optMem (zc.dep 2 91 (by kernel_rfl)) rfl rfl) (optMem (zc.dep 7 96 (by kernel_rfl)) rfl rfl))) (fun v w' h => ⟨v, rfl, h.2, optDef zβ h.1⟩)
           refine ⟨⟨true, .none rfl, fun h w => optUndef h, fun zβ za zw zc => ?_⟩, ?_⟩
           ·exact wp_move rfl ((evt za 97).trans (optVal (zc.dep 8 97 (by kernel_rfl)) rfl rfl)) ⟨_, rfl, Below.refl _ _, optDef zβ rfl⟩
           refine ⟨⟨_, .yes (c := (T.same (t.app zs) ((t.app bs).app zs))) (d := true) rfl (fun v w h => h), fun h w => optUndef h, fun zβ za zw zc => ?_⟩, ?_⟩
           ·exact wp_call (by kernel_rfl) rfl (hv0) (wakes_any _) (fun v w' h => ⟨v, rfl, h.2, optDef zβ h.1⟩)
           refine ⟨⟨true, .none rfl, fun h w => optUndef h, fun zβ za zw zc => ?_⟩, ?_⟩
           ·exact wp_and rfl ((evt za 98).trans (optVal (zc.dep 9 98 (by kernel_rfl)) rfl rfl)) (fun hp => ((evt za 99).trans (optVal (zc.dep 10 99 (by kernel_rfl)) rfl (bMk zβ hp)))) ⟨_, rfl, Below.refl _ _, optDef zβ rfl⟩
           refine ⟨⟨true, .none rfl, fun h w => optUndef h, fun zβ za zw zc => ?_⟩, ?_⟩
           ·exact wp_assign rfl ((evt za 100).trans (optVal (zc.dep 11 100 (by kernel_rfl)) rfl rfl)) ⟨_, rfl, Below.refl _ _, optDef zβ rfl⟩
           exact trivial
          ·intro za w101 zh hb102 zu
           have zh := zh.cons (d := 8) (v := .bool (((T.same (t.app zs) ((t.app bs).app zs)) && true))) (optVal (zu 12 8 (by kernel_rfl)) rfl rfl)
           clear zu
           refine WE.go zh ?_
           refine WE.next (WC.ret (WE.ret1 rfl rfl ?_))
           have hb103 : Below w.heap.size w w101 := (bstep hb100 hb102)
           exact ⟨_, rfl, by rw [← q4 e0 t htw, T.same_refl]; rfl, hb103⟩
end Go.Proofs.Ythhgidliopohcaa

/- Rows of things of several cells, how they lie in memory. -/
namespace Go.Proofs.Ythhgidliopohcaa
open Go.RowKit
/-- The row at 'a' holds the things 'l', 'k' cells each. -/
def IsRow {α : Type} (w : World) (k : Nat) (R : World → α → List Value → Prop) (l : List α) (a : Option Addr) : Prop :=
  ∀ i (hi : i < l.length), ∃ (b o : Nat) (cs : List Value), a = some ⟨b, o, none⟩ ∧ cs.length = k ∧ (∀ j, j < k → w.cell? ⟨b, o + i * k + j, none⟩ = cs[j]?) ∧ R w l[i] cs
theorem IsRow.keep {α : Type} {w w' : World} {k : Nat} {R : World → α → List Value → Prop} {l : List α} {a : Option Addr} (h : IsRow w k R l a) (hb : Below w.heap.size w w') (hR : ∀ x cs, R w x cs → R w' x cs) : IsRow w' k R l a := by
  intro i hi
  obtain ⟨b, o, cs, h1, h2, h3, h4⟩ := h i hi
  refine ⟨b, o, cs, h1, h2, fun j hj => ?_, hR _ _ h4⟩
  have := h3 j hj
  rw [List.getElem?_eq_getElem (by omega)] at this ⊢
  exact bkeeps hb _ _ this
section
variable {H : Type} {enc : TypeId × Value → H} {P : Program} {w : World} {base : Nat} {spare : Nat → Bool} {held : Bool}
/-- A slice opened: its things, one by one. -/
theorem open_row {α : Type} [Inhabited α] {t e : TypeId} {k : Nat} {fuel : Nat} {cs : List Value} {x : DataW H × List MemPlace} (ht : P.underlying t = some (.slice e)) (hC : P.cellsOf e = k) (hk : 0 < k)
    (h : DataW.trod enc P w base spare held fuel t cs = some x) {R : World → α → List Value → Prop} {S : α → DataW H → Prop}
    (hel : ∀ n cs x, DataW.trod enc P w base spare held n e cs = some x → ∃ a : α, R w a cs ∧ S a x.1) :
    ∃ (l : List α) (a : Option Addr) (cap : Nat) (ds sp : List (DataW H)), cs = [.slice a l.length cap] ∧ l.length ≤ cap ∧ cap ≤ maxLen ∧ IsRow w k R l a ∧ ds.length = l.length ∧ (x.1 = .nil ∧ l = [] ∧ ds = [] ∨ x.1 = .slice ds sp) ∧
      ∀ i (hi : i < l.length) (hd : i < ds.length), S l[i] ds[i] := by
  rcases DataW.trod_slice ht h with ⟨rfl, rfl⟩ | ⟨a, len, cap, elems, rest, m, rfl, rfl, rfl, hb, hlc, hcm, hlen, hat, _, _⟩
  · exact ⟨[], none, 0, [], [], rfl, Nat.le_refl _, Nat.zero_le _, fun i hi => absurd hi (by simp), rfl, .inl ⟨rfl, rfl, rfl⟩, fun i hi => absurd hi (by simp)⟩
  · have hspot : 0 < len → ∃ b o, a = ⟨b, o, none⟩ := by
      intro h0
      have hk := hat 0 h0
      rw [hC, List.getElem?_eq_getElem (by omega)] at hk
      obtain ⟨cs', h1, _⟩ := Option.bind_eq_some_iff.1 hk
      obtain ⟨_, hl', hcell⟩ := World.cells?_some h1
      have c0 := hcell 0 (by omega)
      rw [List.getElem?_eq_getElem (by omega)] at c0
      have := World.cell?_spot c0
      obtain ⟨b, o, spot⟩ := a
      exact ⟨b, o, by simpa [Addr.add] using this⟩
    have key : ∀ i, i < len → ∃ t : α, (∃ (b o : Nat) (cs : List Value), some a = some ⟨b, o, none⟩ ∧ cs.length = k ∧ (∀ j, j < k → w.cell? ⟨b, o + i * k + j, none⟩ = cs[j]?) ∧ R w t cs) ∧
        ∀ (hd : i < elems.length), S t elems[i].1 := by
      intro i hi
      have hk := hat i hi
      rw [hC, List.getElem?_eq_getElem (by omega)] at hk
      obtain ⟨cs', h1, h2⟩ := Option.bind_eq_some_iff.1 hk
      obtain ⟨t, hR, hS⟩ := hel _ _ _ h2
      obtain ⟨_, hl', hcell⟩ := World.cells?_some h1
      obtain ⟨b, o, rfl⟩ := hspot (by omega)
      refine ⟨t, ⟨b, o, cs', rfl, hl', fun j hj => ?_, hR⟩, fun _ => hS⟩
      have := hcell j hj
      rwa [add_plain2, add_plain2] at this
    obtain ⟨F, hF⟩ := Go.Deep.choose_lt key
    have hLL : ((List.range len).map F).length = len := by simp
    refine ⟨(List.range len).map F, some a, cap, elems.map (·.1), rest.map (·.1), by rw [hLL], by rw [hLL]; exact hlc, hcm, fun i hi => ?_, by rw [hLL]; simpa using hlen, .inr rfl, fun i hi hd => ?_⟩
    · have := (hF i (by simpa using hi)).1
      simpa using this
    · have := (hF i (by simpa using hi)).2 (by simpa using hd)
      simpa using this
end
end Go.Proofs.Ythhgidliopohcaa

/- What a law's statement asks behind its call, where the call answers true and leaves all that was there as it was. -/
namespace Go.Proofs.Ythhgidliopohcaa
open Go.ChangeShapes Go.WideShapes Go.ChangeAt Go.RowKit
section
variable {H : Type} {enc : TypeId × Value → H} {P : Program}
theorem trodAll_below (hl : laidOutB P = true) {W W' : World} (hb : Below W.heap.size W W') : ∀ {ts : List TypeId} {vs : List Value} {ds : List (DataW H)} {ps : List MemPlace},
    (∀ t ∈ ts, P.readableRec t = true ∧ t < P.types.size) → (∀ x ∈ ps, x.block < W.heap.size) → DataW.TrodAll enc P W 0 (fun _ => true) true ts vs ds ps →
    DataW.TrodAll enc P W' 0 (fun b => decide (b < W.heap.size)) true ts vs ds ps
  | [], [], [], _, _, _, h => h
  | t :: ts, v :: vs, d :: ds, ps, hr, hlt, ⟨p, q, h1, h2, e⟩ => by
    subst e
    exact ⟨p, q, Below.trod hl (hr t (by simp)).1 (hr t (by simp)).2 h1 hb (fun x hx => hlt x (by simp [hx])), trodAll_below hl hb (fun t ht => hr t (by simp [ht])) (fun x hx => hlt x (by simp [hx])) h2, rfl⟩
  | [], _ :: _, _, _, _, _, h => h.elim
  | [], [], _ :: _, _, _, _, h => h.elim
  | _ :: _, [], _, _, _, _, h => h.elim
  | _ :: _, _ :: _, [], _, _, _, h => h.elim
theorem law_post {f : Func} {s : ChangeSpec} {W W' : World} {args : Array Value} {ds gs : List (DataW H)} {before : List MemPlace} {tb : TypeId} (hl : laidOutB P = true) (hr : ∀ t ∈ f.params.toList, P.readableRec t = true ∧ t < P.types.size)
    (htb : P.underlying tb = some .bool) (hrt : f.resultTypes = #[tb]) (hv : s.vars = []) (hs : s.fn H ds = { results := [.lit (.bool true)], args := ds })
    (hW : DataW.Whole enc P f.params.toList s.vars false W args.toList ds gs before) (hb : Below W.heap.size W W') : s.post enc P f false true false false W args (.bool true) W' := by
  have hlt : ∀ p ∈ before, p.block < W.heap.size := fun p hp => hW.lt p hp
  have hW0 := hW
  obtain ⟨p, q, hA, hV, hpq, _, _⟩ := hW
  rw [hv] at hV
  obtain ⟨rfl, rfl⟩ := trodVars_none hV
  refine ⟨ds, [], before, [], p, [], hW0, ?_, ?_, ?_, hb.frame _, fun h => by cases h⟩
  · rw [List.append_nil, hs, hrt]
    exact trodAll_cons_mk (shut_bool htb _) trodAll_mk0
  · rw [List.append_nil, hs]
    refine trodAll_below hl hb hr (fun x hx => hlt x ?_) hA
    rw [hpq]; simp [hx]
  · rw [List.append_nil, hv]
    have : (s.fn H ds).vars = [] := by rw [hs]
    rw [this]
    rfl
end
end Go.Proofs.Ythhgidliopohcaa

/- Arguments of a law, opened: terms, integers, truth values; rows in general. -/
namespace Go.Proofs.Ythhgidliopohcaa
open Go.ChangeShapes Go.WideShapes Go.ChangeAt Go.RowKit
theorem own : ownKnob Try.prog.godebug = none := by kernel_rfl
theorem one_le_bulk {H : Type} (d : DataW H) : 1 ≤ Rows.uptoBulk d := by
  cases d with
  | lit l => cases l <;> simp [Rows.uptoBulk]
  | _ => simp [Rows.uptoBulk]
theorem len_le_bulk {H : Type} (ds : List (DataW H)) : ds.length ≤ Rows.uptoBulkAll ds := by
  induction ds with
  | nil => simp
  | cons d r ih => have := one_le_bulk d; simp only [List.length_cons, Rows.uptoBulkAll]; omega
theorem readable_all {P : Program} {ts : List TypeId} (h : (ts.all fun t => P.readableRec t && Nat.blt t P.types.size) = true) : ∀ t ∈ ts, P.readableRec t = true ∧ t < P.types.size := by
  intro t ht
  have := List.all_eq_true.1 h t ht
  simp only [Bool.and_eq_true, Nat.blt_eq] at this
  exact this
theorem bulk_mem {H : Type} {l : List (DataW H)} (hk : Rows.uptoSmall H l = true) {d : DataW H} (h : d ∈ l) : Rows.uptoBulk d ≤ 1048576 :=
  Nat.le_trans (bulkAll_le h) (of_decide_eq_true hk)
section
variable {H : Type} {enc : TypeId × Value → H} {w : World} {base : Nat} {spare : Nat → Bool} {held : Bool}
set_option maxRecDepth 100000 in
theorem arg_T {r : Reach} {b : Nat} {v : Value} {d : DataW H} {p : List MemPlace} (h : Value.okWide Try.prog w r b 32 v) (ht : DataW.Trod enc Try.prog w base spare held 32 v d p) :
    ∃ t : T, IsT w t v ∧ t.size ≤ Rows.uptoBulk d := by
  obtain ⟨cs, rfl, _⟩ := okWide_struct Try.underlying32 h
  obtain ⟨fuel, hf⟩ := ht
  obtain ⟨t, u, v, e, h1, h2⟩ := open_T _ _ _ hf
  have e' : cs = #[u, v] := by
    apply Array.toList_inj.1
    exact e
  subst e'
  exact ⟨t, h1, h2⟩
theorem bulk_at {H : Type} : ∀ {ds : List (DataW H)} {d : DataW H}, d ∈ ds → Rows.uptoBulk d ≤ Rows.uptoBulkAll ds
  | [], _, h => nomatch h
  | x :: r, d, h => by
    rw [Rows.uptoBulkAll]
    rcases List.mem_cons.1 h with rfl | h
    · omega
    · have := bulk_at h; omega
/-- A row that was opened, as the rows of elements have it. -/
theorem inRow_of {α : Type} {E : Elt α} {R : World → α → List Value → Prop} {l : List α} {a : Option Addr} (hR : ∀ x cs, R w x cs → E.In (fun _ => True) w x cs) (h : IsRow w E.k R l a) : InRow E (fun _ => True) w l a := fun i hi => by
  obtain ⟨b, o, cs, h1, _, h3, h4⟩ := h i hi
  exact ⟨b, o, cs, h1, trivial, hR _ _ h4, h3⟩
theorem IsT.inTrue {t : T} {v : Value} (h : IsT w t v) : InT (fun _ => True) w t v := InT.mono (fun _ _ _ => trivial) (IsT.inT h)
end
end Go.Proofs.Ythhgidliopohcaa

namespace Go.Proofs.Ythhgidliopohcaa
open Go.ChangeShapes Go.WideShapes Go.ChangeAt Go.RowKit
section
variable {H : Type} {enc : TypeId × Value → H} {w : World} {base : Nat} {spare : Nat → Bool} {held : Bool}
def IsBdC (w : World) (x : Bd) (cs : List Value) : Prop := eltB.In (fun _ => True) w x cs
set_option maxRecDepth 100000 in
theorem open_Bd (fuel : Nat) (cs : List Value) (x : DataW H × List MemPlace) (h : DataW.trod enc Try.prog w base spare held fuel 41 cs = some x) : ∃ y : Bd, IsBdC w y cs ∧ y.t.size ≤ Rows.uptoBulk x.1 := by
  have hC : Try.prog.cellsOf 41 = 3 := by kernel_rfl
  have hC3 : Try.prog.cellsOf 3 = 1 := by kernel_rfl
  have hC2 : Try.prog.cellsOf 32 = 2 := by kernel_rfl
  obtain ⟨xs, n, rfl, rfl, hl, hlen, hf⟩ := DataW.trod_struct Try.underlying41 h
  rw [hC] at hl
  match xs, hlen, cs, hl with
  | [y0, y1], _, [c0, c1, c2], _ =>
    have g0 : DataW.trod enc Try.prog w base spare held n 3 [c0] = some y0 := by simpa [hC3] using hf 0 _ rfl
    have g1 : DataW.trod enc Try.prog w base spare held n 32 [c1, c2] = some y1 := by simpa [hC3, hC2] using hf 1 _ rfl
    obtain ⟨f, e0, rfl, wf⟩ := DataW.trod_int Try.underlying3 g0
    simp only [List.cons.injEq, and_true] at e0
    subst e0
    obtain ⟨t, u, v, e, h1, h2⟩ := open_T _ _ _ g1
    simp only [List.cons.injEq, and_true] at e
    obtain ⟨rfl, rfl⟩ := e
    refine ⟨⟨f, t⟩, ⟨c1, c2, rfl, i64_wf wf, h1.inTrue⟩, ?_⟩
    show t.size ≤ _
    simp only [Rows.uptoBulk, List.map_cons, List.map_nil, Rows.uptoBulkAll]; omega
set_option maxRecDepth 100000 in
theorem arg_Sub {r : Reach} {b : Nat} {v : Value} {d : DataW H} {p : List MemPlace} (h : Value.okWide Try.prog w r b 24 v) (ht : DataW.Trod enc Try.prog w base spare held 24 v d p) (hk : Rows.uptoBulk d ≤ 1048576) :
    ∃ (l : List Bd) (a : Option Addr) (c : Nat), v = .slice a l.length c ∧ IsSub w l a c ∧ l.length ≤ 1048576 ∧ ∀ x ∈ l, x.t.size ≤ 1048576 := by
  obtain ⟨a, n, c, rfl⟩ := okWide_slice Try.underlying24 h
  obtain ⟨fuel, hf⟩ := ht
  have : Inhabited Bd := ⟨default⟩
  obtain ⟨l, a', c', ds, sp, e, h1, h2, h3, h4, h5, h6⟩ := open_row Try.underlying24 (k := 3) (by kernel_rfl) (by omega) hf (R := IsBdC) (S := fun y d => y.t.size ≤ Rows.uptoBulk d) (fun n cs x hx => open_Bd n cs x hx)
  have e' : Value.slice a n c = .slice a' l.length c' := by simpa [Value.cells] using e
  have hlen : l.length ≤ 1048576 := by
    rcases h5 with ⟨_, rfl, _⟩ | e
    · simp
    · have := len_le_bulk ds
      have e2 : d = .slice ds sp := e
      rw [e2] at hk; simp only [Rows.uptoBulk] at hk; omega
  have hsz : ∀ x ∈ l, x.t.size ≤ 1048576 := fun x hx => by
    obtain ⟨i, hi, rfl⟩ := List.getElem_of_mem hx
    have hs := h6 i hi (by omega)
    rcases h5 with ⟨_, rfl, _⟩ | e
    · simp at hi
    · have := bulk_at (List.getElem_mem (show i < ds.length by omega))
      have e2 : d = .slice ds sp := e
      rw [e2] at hk; simp only [Rows.uptoBulk] at hk; omega
  exact ⟨l, a', c', e', ⟨inRow_of (E := eltB) (fun _ _ h => h) h3, h1, h2, by omega, fun x hx => by have := hsz x hx; omega⟩, hlen, hsz⟩
end
end Go.Proofs.Ythhgidliopohcaa
