/- Regions in whatever order: operations that make things in memory, one out of the other; a new box into which the last thing is stored; what is told of their values alone holds ever. -/
import Derived.Test.YtnmopmdpnpcdhaaTEg
import Derived.Test.YtnmopmdpnpcdhaaTEb
import Derived.Test.YtnmopmdpnpcdhaaTEa
import Derived.Test.YtnmopmdpnpcdhaaTEe
import Derived.Test.YtnmopmdpnpcdhaaTEd

/- Tidy: the program. -/
namespace Go.Proofs.Ytnmopmdpnpcdhaa
open Go.RowKit Go
set_option linter.unusedVariables false
set_option linter.unusedSimpArgs false
def dropO (d : List Li) : Option (Int × List Li) := (dropI d).map fun i => (dropR d i, d.eraseIdx i)
set_option maxRecDepth 100000 in
theorem way1_any (d : List Li) (w : World) (da : Option Addr) (dc g : Nat) (hB : Blk w g 29 #[.slice da d.length dc]) (hd : IsCl w d da dc) (hld : d.length ≤ 1048576) : Calls Try.prog 26 #[.pointer (some ⟨g, 0, none⟩)] w (Ret fun v' w' => WayV w w' (dropO d) v' ∧ Below w.heap.size w w') := by
 have hcap := hd.cap
 refine Calls.walk (l := [.pointer (some ⟨g, 0, none⟩)]) Try.func26 rfl (by kernel_rfl) ?_
 refine WC.sub (K' := [(0, .pointer (some ⟨g, 0, none⟩))]) ⟨rfl, trivial⟩ ?_
 refine WC.seq (WC.region ?_)
 refine WL.step (post := NewBlk w 40 #[.int .i64 0, .slice none 0 0, .slice none 0 0, .slice none 0 0, .slice none 0 0, .slice none 0 0]) rfl rfl rfl (fun za zC zh zk => alloc_40 rfl (zk _ _ (newBlk _ _ _))) ?_
 rintro _ w1 ⟨g2, rfl, hg3, hB4, hb5, hz6⟩
 have hl7 : g < g2 := by have z1 := hB.lt; omega
 have hl8 : w.heap.size ≤ g2 := by omega
 refine WL.asg rfl rfl rfl rfl rfl (WL.nil (WE.next (WC.seq (WC.region ?_))))
 have hB9 := hB.below hb5
 refine WL.val _ rfl rfl rfl (fun za zC zh zk => ld_29 rfl (zh.ev rfl) ((hB9.cell 0).trans rfl) zk) ?_
 refine WL.call rfl rfl rfl (fun za zh zC => wp_call (by kernel_rfl) rfl (hv1 (zh.ev rfl))) (drop_any d _ _ _ (hd.below hb5) hld) ?_
 rintro v11 w10 ⟨hto12, hb13⟩
 replace hto12 : WayV w1 w10 (dropO d) v11 := hto12
 rcases hf15 : dropO d with _ | t14
 ·rw [hf15] at hto12
  obtain rfl : v11 = .tuple #[.agg #[.int .i64 0, .slice none 0 0, .slice none 0 0, .slice none 0 0, .slice none 0 0, .slice none 0 0], .bool false] := hto12
  refine WL.val (.agg #[.int .i64 0, .slice none 0 0, .slice none 0 0, .slice none 0 0, .slice none 0 0, .slice none 0 0]) rfl rfl rfl (fun za zC zh zk => ext2_0 rfl (zh.ev rfl) zk) ?_
  refine WL.val (.bool false) rfl rfl rfl (fun za zC zh zk => ext2_1 rfl (zh.ev rfl) zk) ?_
  have hB16 := hB4.below hb13
  refine WL.step (post := fun _ w' => Upd g2 w10 w' ∧ Blk w' g2 40 #[.int .i64 0, .slice none 0 0, .slice none 0 0, .slice none 0 0, .slice none 0 0, .slice none 0 0]) rfl rfl rfl (fun za zC zh zk => st_40 rfl (zh.ev rfl) (zh.ev rfl) rfl rfl rfl rfl rfl rfl hB16 (by first | decide | simp) (fun v => zk v _ ⟨(((((Upd.at_ _ _ _ _).trans (Upd.at_ _ _ _ _)).trans (Upd.at_ _ _ _ _)).trans (Upd.at_ _ _ _ _)).trans (Upd.at_ _ _ _ _)).trans (Upd.at_ _ _ _ _), (((((hB16.set_ 0 _).set_ 1 _).set_ 2 _).set_ 3 _).set_ 4 _).set_ 5 _⟩)) ?_
  rintro v20 w17 ⟨hu18, hB19⟩
  have hb21 : Below w.heap.size w w10 := (bstep hb5 hb13)
  have hb22 := upd_below hb21 hu18 (by omega)
  have hB23 := hB9.below hb13
  have hB24 := upd_blk hB23 hu18 (by omega)
  refine WL.asg rfl rfl rfl rfl rfl (WL.nil (WE.next (WC.ret ?_)))
  refine WE.retAny (v := .tuple #[.agg #[.int .i64 0, .slice none 0 0, .slice none 0 0, .slice none 0 0, .slice none 0 0, .slice none 0 0], .bool false]) (fun za zh => ?_) ?_
  ·have z0 : za.tmps[1]?.getD undef = .pointer (some ⟨g2, 0, none⟩) := by rw [← Array.getD_eq_getD_getElem?]; exact zh.knows 1 _ rfl
   have y0_0 : w17.cell? ⟨g2, 0, none⟩ = some (.int .i64 0) := ((hB19.cell 0).trans rfl)
   have y0_1 : w17.cell? ⟨g2, 1, none⟩ = some (.slice none 0 0) := ((hB19.cell 1).trans rfl)
   have y0_2 : w17.cell? ⟨g2, 2, none⟩ = some (.slice none 0 0) := ((hB19.cell 2).trans rfl)
   have y0_3 : w17.cell? ⟨g2, 3, none⟩ = some (.slice none 0 0) := ((hB19.cell 3).trans rfl)
   have y0_4 : w17.cell? ⟨g2, 4, none⟩ = some (.slice none 0 0) := ((hB19.cell 4).trans rfl)
   have y0_5 : w17.cell? ⟨g2, 5, none⟩ = some (.slice none 0 0) := ((hB19.cell 5).trans rfl)
   have z1 : za.tmps[2]?.getD undef = .bool false := by rw [← Array.getD_eq_getD_getElem?]; exact zh.knows 2 _ rfl
   simp [results, Try.results26, z0, y0_0, y0_1, y0_2, y0_3, y0_4, y0_5, z1, go_sem]
  ·exact ⟨_, rfl, by (try rw [hf15]); rfl, hb22⟩
 ·rw [hf15] at hto12
  obtain ⟨_, rfl, p25, p26, p27, n28, c29, n30, c31, c32, rfl, hN33⟩ := hto12
  refine WL.val (.agg #[.int .i64 t14.1, .slice p25 n28 c29, .slice p26 n30 c31, .slice none 0 0, .slice none 0 0, .slice p27 t14.2.length c32]) rfl rfl rfl (fun za zC zh zk => ext2_0 rfl (zh.ev rfl) zk) ?_
  refine WL.val (.bool true) rfl rfl rfl (fun za zC zh zk => ext2_1 rfl (zh.ev rfl) zk) ?_
  have hB34 := hB4.below hb13
  refine WL.step (post := fun _ w' => Upd g2 w10 w' ∧ Blk w' g2 40 #[.int .i64 t14.1, .slice p25 n28 c29, .slice p26 n30 c31, .slice none 0 0, .slice none 0 0, .slice p27 t14.2.length c32]) rfl rfl rfl (fun za zC zh zk => st_40 rfl (zh.ev rfl) (zh.ev rfl) rfl rfl rfl rfl rfl rfl hB34 (by first | decide | simp) (fun v => zk v _ ⟨(((((Upd.at_ _ _ _ _).trans (Upd.at_ _ _ _ _)).trans (Upd.at_ _ _ _ _)).trans (Upd.at_ _ _ _ _)).trans (Upd.at_ _ _ _ _)).trans (Upd.at_ _ _ _ _), (((((hB34.set_ 0 _).set_ 1 _).set_ 2 _).set_ 3 _).set_ 4 _).set_ 5 _⟩)) ?_
  rintro v38 w35 ⟨hu36, hB37⟩
  have hb39 : Below w.heap.size w w10 := (bstep hb5 hb13)
  have hb40 := upd_below hb39 hu36 (by omega)
  have hB41 := hB9.below hb13
  have hB42 := upd_blk hB41 hu36 (by omega)
  refine WL.asg rfl rfl rfl rfl rfl (WL.nil (WE.next (WC.ret ?_)))
  refine WE.retAny (v := .tuple #[.agg #[.int .i64 t14.1, .slice p25 n28 c29, .slice p26 n30 c31, .slice none 0 0, .slice none 0 0, .slice p27 t14.2.length c32], .bool true]) (fun za zh => ?_) ?_
  ·have z0 : za.tmps[1]?.getD undef = .pointer (some ⟨g2, 0, none⟩) := by rw [← Array.getD_eq_getD_getElem?]; exact zh.knows 1 _ rfl
   have y0_0 : w35.cell? ⟨g2, 0, none⟩ = some (.int .i64 t14.1) := ((hB37.cell 0).trans rfl)
   have y0_1 : w35.cell? ⟨g2, 1, none⟩ = some (.slice p25 n28 c29) := ((hB37.cell 1).trans rfl)
   have y0_2 : w35.cell? ⟨g2, 2, none⟩ = some (.slice p26 n30 c31) := ((hB37.cell 2).trans rfl)
   have y0_3 : w35.cell? ⟨g2, 3, none⟩ = some (.slice none 0 0) := ((hB37.cell 3).trans rfl)
   have y0_4 : w35.cell? ⟨g2, 4, none⟩ = some (.slice none 0 0) := ((hB37.cell 4).trans rfl)
   have y0_5 : w35.cell? ⟨g2, 5, none⟩ = some (.slice p27 t14.2.length c32) := ((hB37.cell 5).trans rfl)
   have z1 : za.tmps[2]?.getD undef = .bool true := by rw [← Array.getD_eq_getD_getElem?]; exact zh.knows 2 _ rfl
   simp [results, Try.results26, z0, y0_0, y0_1, y0_2, y0_3, y0_4, y0_5, z1, go_sem]
  ·have hs43 : Chg ((fun b => b = g2)) w10 w35 := (Chg.trans2 (Chg.refl ((fun b => b = g2)) _) (Chg.ofUpd (S := fun k => k = g2) hu36 rfl) (fun i h1 h2 => by first | exact h2 | exact .inl ⟨h2, h1⟩ | exact .inl h2 | exact .inr h2 | exact .inr (.inl h2) | exact .inr (.inr h2) | ((try dsimp only at *); omega)))
   exact ⟨_, rfl, by (try rw [hf15]); exact ⟨_, rfl, _, _, _, _, _, _, _, _, rfl, (hN33.chg hs43 (fun b hb e => by have z := hB4.lt; (try dsimp only at *); omega)).older (hb5).size⟩, hb40⟩
set_option maxRecDepth 100000 in
theorem way2_any (l : List (List Li)) (d : List Li) (w : World) (la da : Option Addr) (lc dc g gl : Nat) (hB2 : Blk w gl 45 #[.slice la l.length lc]) (hB : Blk w g 29 #[.slice da d.length dc]) (h : IsCs w l la) (hln : l.length ≤ 1048576) (hok : ClsOk l) (hd : IsCl w d da dc) (hld : d.length ≤ 1048576) : Calls Try.prog 27 #[.pointer (some ⟨gl, 0, none⟩), .pointer (some ⟨g, 0, none⟩)] w (Ret fun v' w' => WayV w w' (cutBy l d) v' ∧ Below w.heap.size w w') := by
 have hcap := hd.cap
 refine Calls.walk (l := [.pointer (some ⟨gl, 0, none⟩), .pointer (some ⟨g, 0, none⟩)]) Try.func27 rfl (by kernel_rfl) ?_
 refine WC.sub (K' := [(0, .pointer (some ⟨gl, 0, none⟩)), (1, .pointer (some ⟨g, 0, none⟩))]) ⟨rfl, rfl, trivial⟩ ?_
 refine WC.seq (WC.region ?_)
 refine WL.step (post := NewBlk w 40 #[.int .i64 0, .slice none 0 0, .slice none 0 0, .slice none 0 0, .slice none 0 0, .slice none 0 0]) rfl rfl rfl (fun za zC zh zk => alloc_40 rfl (zk _ _ (newBlk _ _ _))) ?_
 rintro _ w1 ⟨g2, rfl, hg3, hB4, hb5, hz6⟩
 have hl7 : gl < g2 := by have z1 := hB2.lt; omega
 have hl8 : g < g2 := by have z1 := hB.lt; omega
 have hl9 : w.heap.size ≤ g2 := by omega
 refine WL.asg rfl rfl rfl rfl rfl (WL.nil (WE.next (WC.seq (WC.region ?_))))
 have hB10 := hB2.below hb5
 refine WL.val _ rfl rfl rfl (fun za zC zh zk => ld_45 rfl (zh.ev rfl) ((hB10.cell 0).trans rfl) zk) ?_
 have hB11 := hB.below hb5
 refine WL.val _ rfl rfl rfl (fun za zC zh zk => ld_29 rfl (zh.ev rfl) ((hB11.cell 0).trans rfl) zk) ?_
 refine WL.call rfl rfl rfl (fun za zh zC => wp_call (by kernel_rfl) rfl (hv2 (zh.ev rfl) (zh.ev rfl))) (cutby_any l d _ _ _ _ _ (h.below hb5) hln hok (hd.below hb5) hld) ?_
 rintro v13 w12 ⟨hto14, hb15⟩
 replace hto14 : WayV w1 w12 (cutBy l d) v13 := hto14
 rcases hf17 : cutBy l d with _ | t16
 ·rw [hf17] at hto14
  obtain rfl : v13 = .tuple #[.agg #[.int .i64 0, .slice none 0 0, .slice none 0 0, .slice none 0 0, .slice none 0 0, .slice none 0 0], .bool false] := hto14
  refine WL.val (.agg #[.int .i64 0, .slice none 0 0, .slice none 0 0, .slice none 0 0, .slice none 0 0, .slice none 0 0]) rfl rfl rfl (fun za zC zh zk => ext2_0 rfl (zh.ev rfl) zk) ?_
  refine WL.val (.bool false) rfl rfl rfl (fun za zC zh zk => ext2_1 rfl (zh.ev rfl) zk) ?_
  have hB18 := hB4.below hb15
  refine WL.step (post := fun _ w' => Upd g2 w12 w' ∧ Blk w' g2 40 #[.int .i64 0, .slice none 0 0, .slice none 0 0, .slice none 0 0, .slice none 0 0, .slice none 0 0]) rfl rfl rfl (fun za zC zh zk => st_40 rfl (zh.ev rfl) (zh.ev rfl) rfl rfl rfl rfl rfl rfl hB18 (by first | decide | simp) (fun v => zk v _ ⟨(((((Upd.at_ _ _ _ _).trans (Upd.at_ _ _ _ _)).trans (Upd.at_ _ _ _ _)).trans (Upd.at_ _ _ _ _)).trans (Upd.at_ _ _ _ _)).trans (Upd.at_ _ _ _ _), (((((hB18.set_ 0 _).set_ 1 _).set_ 2 _).set_ 3 _).set_ 4 _).set_ 5 _⟩)) ?_
  rintro v22 w19 ⟨hu20, hB21⟩
  have hb23 : Below w.heap.size w w12 := (bstep hb5 hb15)
  have hb24 := upd_below hb23 hu20 (by omega)
  have hB25 := hB10.below hb15
  have hB26 := upd_blk hB25 hu20 (by omega)
  have hB27 := hB11.below hb15
  have hB28 := upd_blk hB27 hu20 (by omega)
  refine WL.asg rfl rfl rfl rfl rfl (WL.nil (WE.next (WC.ret ?_)))
  refine WE.retAny (v := .tuple #[.agg #[.int .i64 0, .slice none 0 0, .slice none 0 0, .slice none 0 0, .slice none 0 0, .slice none 0 0], .bool false]) (fun za zh => ?_) ?_
  ·have z0 : za.tmps[2]?.getD undef = .pointer (some ⟨g2, 0, none⟩) := by rw [← Array.getD_eq_getD_getElem?]; exact zh.knows 2 _ rfl
   have y0_0 : w19.cell? ⟨g2, 0, none⟩ = some (.int .i64 0) := ((hB21.cell 0).trans rfl)
   have y0_1 : w19.cell? ⟨g2, 1, none⟩ = some (.slice none 0 0) := ((hB21.cell 1).trans rfl)
   have y0_2 : w19.cell? ⟨g2, 2, none⟩ = some (.slice none 0 0) := ((hB21.cell 2).trans rfl)
   have y0_3 : w19.cell? ⟨g2, 3, none⟩ = some (.slice none 0 0) := ((hB21.cell 3).trans rfl)
   have y0_4 : w19.cell? ⟨g2, 4, none⟩ = some (.slice none 0 0) := ((hB21.cell 4).trans rfl)
   have y0_5 : w19.cell? ⟨g2, 5, none⟩ = some (.slice none 0 0) := ((hB21.cell 5).trans rfl)
   have z1 : za.tmps[3]?.getD undef = .bool false := by rw [← Array.getD_eq_getD_getElem?]; exact zh.knows 3 _ rfl
   simp [results, Try.results27, z0, y0_0, y0_1, y0_2, y0_3, y0_4, y0_5, z1, go_sem]
  ·exact ⟨_, rfl, by (try rw [hf17]); rfl, hb24⟩
 ·rw [hf17] at hto14
  obtain ⟨_, rfl, p29, p30, p31, n32, c33, n34, c35, c36, rfl, hN37⟩ := hto14
  refine WL.val (.agg #[.int .i64 t16.1, .slice p29 n32 c33, .slice p30 n34 c35, .slice none 0 0, .slice none 0 0, .slice p31 t16.2.length c36]) rfl rfl rfl (fun za zC zh zk => ext2_0 rfl (zh.ev rfl) zk) ?_
  refine WL.val (.bool true) rfl rfl rfl (fun za zC zh zk => ext2_1 rfl (zh.ev rfl) zk) ?_
  have hB38 := hB4.below hb15
  refine WL.step (post := fun _ w' => Upd g2 w12 w' ∧ Blk w' g2 40 #[.int .i64 t16.1, .slice p29 n32 c33, .slice p30 n34 c35, .slice none 0 0, .slice none 0 0, .slice p31 t16.2.length c36]) rfl rfl rfl (fun za zC zh zk => st_40 rfl (zh.ev rfl) (zh.ev rfl) rfl rfl rfl rfl rfl rfl hB38 (by first | decide | simp) (fun v => zk v _ ⟨(((((Upd.at_ _ _ _ _).trans (Upd.at_ _ _ _ _)).trans (Upd.at_ _ _ _ _)).trans (Upd.at_ _ _ _ _)).trans (Upd.at_ _ _ _ _)).trans (Upd.at_ _ _ _ _), (((((hB38.set_ 0 _).set_ 1 _).set_ 2 _).set_ 3 _).set_ 4 _).set_ 5 _⟩)) ?_
  rintro v42 w39 ⟨hu40, hB41⟩
  have hb43 : Below w.heap.size w w12 := (bstep hb5 hb15)
  have hb44 := upd_below hb43 hu40 (by omega)
  have hB45 := hB10.below hb15
  have hB46 := upd_blk hB45 hu40 (by omega)
  have hB47 := hB11.below hb15
  have hB48 := upd_blk hB47 hu40 (by omega)
  refine WL.asg rfl rfl rfl rfl rfl (WL.nil (WE.next (WC.ret ?_)))
  refine WE.retAny (v := .tuple #[.agg #[.int .i64 t16.1, .slice p29 n32 c33, .slice p30 n34 c35, .slice none 0 0, .slice none 0 0, .slice p31 t16.2.length c36], .bool true]) (fun za zh => ?_) ?_
  ·have z0 : za.tmps[2]?.getD undef = .pointer (some ⟨g2, 0, none⟩) := by rw [← Array.getD_eq_getD_getElem?]; exact zh.knows 2 _ rfl
   have y0_0 : w39.cell? ⟨g2, 0, none⟩ = some (.int .i64 t16.1) := ((hB41.cell 0).trans rfl)
   have y0_1 : w39.cell? ⟨g2, 1, none⟩ = some (.slice p29 n32 c33) := ((hB41.cell 1).trans rfl)
   have y0_2 : w39.cell? ⟨g2, 2, none⟩ = some (.slice p30 n34 c35) := ((hB41.cell 2).trans rfl)
   have y0_3 : w39.cell? ⟨g2, 3, none⟩ = some (.slice none 0 0) := ((hB41.cell 3).trans rfl)
   have y0_4 : w39.cell? ⟨g2, 4, none⟩ = some (.slice none 0 0) := ((hB41.cell 4).trans rfl)
   have y0_5 : w39.cell? ⟨g2, 5, none⟩ = some (.slice p31 t16.2.length c36) := ((hB41.cell 5).trans rfl)
   have z1 : za.tmps[3]?.getD undef = .bool true := by rw [← Array.getD_eq_getD_getElem?]; exact zh.knows 3 _ rfl
   simp [results, Try.results27, z0, y0_0, y0_1, y0_2, y0_3, y0_4, y0_5, z1, go_sem]
  ·have hs49 : Chg ((fun b => b = g2)) w12 w39 := (Chg.trans2 (Chg.refl ((fun b => b = g2)) _) (Chg.ofUpd (S := fun k => k = g2) hu40 rfl) (fun i h1 h2 => by first | exact h2 | exact .inl ⟨h2, h1⟩ | exact .inl h2 | exact .inr h2 | exact .inr (.inl h2) | exact .inr (.inr h2) | ((try dsimp only at *); omega)))
   exact ⟨_, rfl, by (try rw [hf17]); exact ⟨_, rfl, _, _, _, _, _, _, _, _, rfl, (hN37.chg hs49 (fun b hb e => by have z := hB4.lt; (try dsimp only at *); omega)).older (hb5).size⟩, hb44⟩
end Go.Proofs.Ytnmopmdpnpcdhaa

/- Tidy, up to the end: the program. -/
namespace Go.Proofs.Ytnmopmdpnpcdhaa
open Go.RowKit Go
set_option linter.unusedVariables false
set_option linter.unusedSimpArgs false
/-- A step, as an element: the clause that it tells. -/
def eltS : Elt (List Li) where
 k := 6
 In := fun S w x cs => ∃ (r : Int) (p1 : Option Addr) (n1 c1 : Nat) (p2 : Option Addr) (n2 c2 : Nat) (p : Option Addr) (c : Nat), cs = [.int .i64 r, .slice p1 n1 c1, .slice p2 n2 c2, .slice none 0 0, .slice none 0 0, .slice p x.length c] ∧ x.length ≤ c ∧ c ≤ maxLen ∧ InRow eltL S w x p
 keep := fun hb ⟨r, p1, n1, c1, p2, n2, c2, p, c, e, h1, h2, h3⟩ => ⟨r, p1, n1, c1, p2, n2, c2, p, c, e, h1, h2, h3.keep hb⟩
 mono := fun hb ⟨r, p1, n1, c1, p2, n2, c2, p, c, e, h1, h2, h3⟩ => ⟨r, p1, n1, c1, p2, n2, c2, p, c, e, h1, h2, h3.mono (by decide) hb⟩
 len := fun ⟨_, _, _, _, _, _, _, _, _, e, _⟩ => by rw [e]; rfl
 one := fun ⟨r, p1, n1, c1, p2, n2, c2, p, c, e, _⟩ x hx => by
  rw [e] at hx
  simp only [List.mem_cons, List.not_mem_nil, or_false] at hx
  rcases hx with rfl | rfl | rfl | rfl | rfl | rfl <;> rfl
def wayO (l : List (List Li)) (d : List Li) : Option (Int × List Li) := match dropO d with
 | some x => some x
 | none => cutBy l d
theorem wayO_1 {l : List (List Li)} {d : List Li} {x : Int × List Li} (h : dropO d = some x) : wayO l d = some x := by unfold wayO; rw [h]
theorem wayO_2 {l : List (List Li)} {d : List Li} {o : Option (Int × List Li)} (h : dropO d = none) (h2 : cutBy l d = o) : wayO l d = o := by unfold wayO; rw [h]; exact h2
theorem dropO_step {d : List Li} {x : Int × List Li} (h : dropO d = some x) : ∃ i, i < d.length ∧ x.2 = d.eraseIdx i := by
 unfold dropO at h
 rw [Option.map_eq_some_iff] at h
 obtain ⟨i, h1, h2⟩ := h
 unfold dropI at h1
 split at h1
 ·exact ⟨i, firstR_lt h1, by rw [← h2]⟩
 ·cases h1
theorem cutO_step {c d : List Li} {x : Int × List Li} (h : cutO c d = some x) : ∃ i, i < d.length ∧ x.2 = d.eraseIdx i := by
 unfold cutO at h
 rw [Option.map_eq_some_iff] at h
 obtain ⟨i, h1, h2⟩ := h
 split at h1
 ·exact ⟨i, firstR_lt h1, by rw [← h2]⟩
 ·cases h1
theorem cutBy_step : ∀ {l : List (List Li)} {d : List Li} {x : Int × List Li}, cutBy l d = some x → ∃ i, i < d.length ∧ x.2 = d.eraseIdx i
 | [], _, _, h => by cases h
 | c :: r, d, x, h => by
  rw [cutBy] at h
  split at h
  ·rename_i q; rw [← Option.some.inj h]; exact cutO_step q
  ·exact cutBy_step h
theorem wayO_step {l : List (List Li)} {d : List Li} {x : Int × List Li} (h : wayO l d = some x) : ∃ i, i < d.length ∧ x.2 = d.eraseIdx i := by
 unfold wayO at h
 split at h
 ·rename_i q; rw [← Option.some.inj h]; exact dropO_step q
 ·exact cutBy_step h
/-- The steps from a clause to another one. -/
def Tdy (l : List (List Li)) : List Li → List (List Li) → List Li → Prop
 | d, [], e => d = e
 | d, x :: r, e => (∃ q, wayO l d = some (q, x)) ∧ Tdy l x r e
theorem Tdy.snoc {l : List (List Li)} : ∀ {L : List (List Li)} {d e x : List Li} {q : Int}, Tdy l d L e → wayO l e = some (q, x) → Tdy l d (L ++ [x]) x
 | [], d, e, x, q, h, h1 => by
  obtain rfl : d = e := h
  exact ⟨⟨q, h1⟩, rfl⟩
 | y :: r, d, e, x, q, ⟨h0, h⟩, h1 => ⟨h0, Tdy.snoc h h1⟩
theorem InRow.updN {α : Type} {E : Elt α} {S : Nat → Prop} {w w' : World} {l : List α} {a : Option Addr} {g : Nat} (h : InRow E S w l a) (hu : Upd g w w') (hS : ∀ b, S b → b ≠ g) : InRow E S w' l a := h.keep (fun p v hp hv => cell_chg (Chg.ofUpd (S := fun b => b = g) hu rfl) (hS _ hp) hv)
theorem InRow.chgN {α : Type} {E : Elt α} {S S' : Nat → Prop} {w w' : World} {l : List α} {a : Option Addr} (h : InRow E S w l a) (hc : Chg S' w w') (hS : ∀ b, S b → ¬ S' b) : InRow E S w' l a := h.keep (fun p v hp hv => cell_chg hc (hS _ hp) hv)
structure TX where
 ra : Option Addr
 rc : Nat
 L : List (List Li)
 e : List Li
 ea : Option Addr
 ec : Nat
set_option maxRecDepth 100000 in
theorem tidy_any (l : List (List Li)) (d : List Li) (w : World) (la da : Option Addr) (lc dc : Nat) (h : IsCs w l la) (hln : l.length ≤ 1048576) (hok : ClsOk l) (hd : IsCl w d da dc) (hld : d.length ≤ 1048576) :
  Calls Try.prog 14 #[.slice la l.length lc, .slice da d.length dc] w (Ret fun v' w' => (∃ ra rc L e, v' = .slice ra L.length rc ∧ InRow eltS (fun _ => True) w' L ra ∧ Tdy l d L e ∧ wayO l e = none) ∧ Below w.heap.size w w') := by
 have hcap := hd.cap
 have hdl := hd.len
 refine Calls.walk (l := [.slice la l.length lc, .slice da d.length dc]) Try.func14 rfl (by kernel_rfl) ?_
 refine WC.sub (K' := [(0, .slice la l.length lc), (1, .slice da d.length dc)]) ⟨rfl, rfl, trivial⟩ ?_
 refine WC.seq (WC.region ?_)
 refine WL.step (post := NewBlk w 45 #[.slice la l.length lc]) rfl rfl rfl (fun za zC zh zk => box_45 rfl (zh.ev rfl) (zk _ _ (newBlk _ _ _))) ?_
 rintro _ w1 ⟨g2, rfl, hg3, hB4, hb5, hz6⟩
 have hl7 : w.heap.size ≤ g2 := by omega
 refine WL.step (post := NewBlk w1 29 #[.slice da d.length dc]) rfl rfl rfl (fun za zC zh zk => box_29 rfl (zh.ev rfl) (zk _ _ (newBlk _ _ _))) ?_
 rintro _ w8 ⟨g9, rfl, hg10, hB11, hb12, hz13⟩
 have hl14 : g2 < g9 := by have z1 := hB4.lt; omega
 have hl15 : w.heap.size ≤ g9 := by have z2 := (hb5).size; omega
 refine WL.asg rfl rfl rfl rfl rfl (WL.nil (WE.next (WC.scope rfl (WC.seq (WC.region ?_)))))
 refine WL.val (.func (Fn.func 26) #[] #[.pointer (some ⟨g9, 0, none⟩)]) rfl rfl rfl (fun za zC zh zk => mkfn rfl (hv0) (hv1 (zh.ev rfl)) zk) ?_
 refine WL.val (.func (Fn.func 27) #[] #[.pointer (some ⟨g2, 0, none⟩), .pointer (some ⟨g9, 0, none⟩)]) rfl rfl rfl (fun za zC zh zk => mkfn rfl (hv0) (hv2 (zh.ev rfl) (zh.ev rfl)) zk) ?_
 refine WL.step (post := NewRow w8 67 #[.func (Fn.func 26) #[] #[.pointer (some ⟨g9, 0, none⟩)], .func (Fn.func 27) #[] #[.pointer (some ⟨g2, 0, none⟩), .pointer (some ⟨g9, 0, none⟩)]] 2) rfl rfl rfl (fun za zC zh zk => row_68_2 rfl (zh.ev rfl) (zh.ev rfl) (zk _ _ (newRow _ _ _ _))) ?_
 rintro _ w16 ⟨g17, rfl, hg18, hB19, hb20, hz21⟩
 have hl22 : g2 < g17 := by have z1 := hB4.lt; have z2 := (hb12).size; omega
 have hl23 : g9 < g17 := by have z1 := hB11.lt; omega
 have hb24 : Below w.heap.size w w8 := (bstep hb5 hb12)
 have hl25 : w.heap.size ≤ g17 := by have z2 := (hb24).size; omega
 refine WL.asg rfl rfl rfl rfl rfl (WL.nil (WE.next (WC.seq (WC.region (WL.asg rfl rfl rfl rfl rfl (WL.nil (WE.next (WC.seq (WC.label (WE.next (WC.block ?_)))))))))))
 have hb27 : Below w1.heap.size w1 w16 := (bstep hb12 hb20)
 have hl26 : g2 < w16.heap.size := by have z1 := hB4.lt; have z2 := (hb27).size; omega
 have hl28 : g9 < w16.heap.size := by have z1 := hB11.lt; have z2 := (hb20).size; omega
 have hl29 : g17 < w16.heap.size := by have z1 := hB19.lt; omega
 have hb31 : Below w.heap.size w w16 := (bstep hb5 hb27)
 have hl30 : w.heap.size ≤ w16.heap.size := (hb31).size
 have hR32 : RowE eltS w16 w16.heap.size 40 none 0 0 [] := RowE.nil
 have hB33 := hB4.below hb27
 have hB34 := hB11.below hb20
 have he0 : InRow eltL (fun b => (Value.slice none 0 0).ownBlock ≠ some b ∧ b ≠ g9) w16 d da := (hd.rows.mono (S' := fun b => (Value.slice none 0 0).ownBlock ≠ some b ∧ b ≠ g9) (by decide) (fun b _ hb => ⟨by simp [Value.ownBlock], by (try dsimp only at *); omega⟩)).below hb31
 refine WC.loop (X := TX) (fun x => x.e.length) (fun x => [(0, .slice la l.length lc), (1, .slice da d.length dc), (2, .pointer (some ⟨g2, 0, none⟩)), (3, .pointer (some ⟨g9, 0, none⟩)), (5, .slice ((some ⟨g17, 0, none⟩)) 2 2), (6, .slice x.ra x.L.length x.rc)]) (fun x w35 => Tdy l d x.L x.e ∧ x.L.length + x.e.length = d.length ∧ (∀ y ∈ x.e, y ∈ d) ∧ (x.e.length ≤ x.ec ∧ x.ec ≤ maxLen) ∧ w16.heap.size ≤ (w35).heap.size ∧ Below w.heap.size w w35 ∧ Blk w35 g2 45 #[.slice la l.length lc] ∧ Blk w35 g17 67 #[.func (Fn.func 26) #[] #[.pointer (some ⟨g9, 0, none⟩)], .func (Fn.func 27) #[] #[.pointer (some ⟨g2, 0, none⟩), .pointer (some ⟨g9, 0, none⟩)]] ∧ Blk w35 g9 29 #[.slice x.ea x.e.length x.ec] ∧ RowE eltS (w35) w16.heap.size 40 x.ra x.rc x.L.length x.L ∧ InRow eltL (fun b => (Value.slice x.ra x.L.length x.rc).ownBlock ≠ some b ∧ b ≠ g9) (w35) x.e x.ea) (⟨none, 0, [], d, da, dc⟩) ⟨rfl, rfl, rfl, rfl, rfl, rfl, trivial⟩ ?_ ?_
 ·exact ⟨rfl, (by simp), fun y hy => hy, ⟨hdl, hcap⟩, Nat.le_refl _, hb31, hB33, hB19, hB34, hR32, he0⟩
 ·rintro x w35 ⟨hT, hTl, hmem, hec, hBw, hb36, hB37, hB38, hB39, ho40, ho41⟩
  refine WC.block (WC.seq (WC.seq (WC.region (WL.mv rfl rfl rfl rfl rfl ?_))))
  refine WL.val (.int .i64 2) rfl rfl rfl (fun za zC zh zk => len_68 rfl (zh.ev rfl) zk) ?_
  refine WL.mv rfl rfl rfl rfl rfl (WL.nil (WE.next (WC.block ?_)))
  refine WC.loop (X := Nat) (fun k => 2 - k) (fun k => [(0, .slice la l.length lc), (1, .slice da d.length dc), (2, .pointer (some ⟨g2, 0, none⟩)), (3, .pointer (some ⟨g9, 0, none⟩)), (5, .slice ((some ⟨g17, 0, none⟩)) 2 2), (6, .slice x.ra x.L.length x.rc), (14, .slice ((some ⟨g17, 0, none⟩)) 2 2), (15, .int .i64 2), (16, .int .i64 (((k : Nat) : Int)))]) (fun k w42 => k ≤ 2 ∧ (1 ≤ k → dropO x.e = none) ∧ (2 ≤ k → cutBy l x.e = none) ∧ w16.heap.size ≤ (w42).heap.size ∧ Below w.heap.size w w42 ∧ Blk w42 g2 45 #[.slice la l.length lc] ∧ Blk w42 g17 67 #[.func (Fn.func 26) #[] #[.pointer (some ⟨g9, 0, none⟩)], .func (Fn.func 27) #[] #[.pointer (some ⟨g2, 0, none⟩), .pointer (some ⟨g9, 0, none⟩)]] ∧ Blk w42 g9 29 #[.slice x.ea x.e.length x.ec] ∧ RowE eltS (w42) w16.heap.size 40 x.ra x.rc x.L.length x.L ∧ InRow eltL (fun b => (Value.slice x.ra x.L.length x.rc).ownBlock ≠ some b ∧ b ≠ g9) (w42) x.e x.ea) 0 ⟨rfl, rfl, rfl, rfl, rfl, rfl, rfl, rfl, rfl, trivial⟩ ?_ ?_
  ·exact ⟨Nat.zero_le _, fun z => absurd z (by decide), fun z => absurd z (by decide), hBw, hb36, hB37, hB38, hB39, ho40, ho41⟩
  ·rintro k w42 ⟨hk, hd1, hc2, hBw2, hb43, hB44, hB45, hB46, ho47, ho48⟩
   refine WC.seq (WC.region ?_)
   refine WL.val (.bool ((decide ((((k : Nat) : Int) : Int) < (2 : Int))))) rfl rfl rfl (fun za zC zh zk => lss_3 rfl (zh.ev rfl) (zh.ev rfl) zk) ?_
   refine WL.nil (WE.next (WC.seq ?_))
   refine WC.cond rfl (fun h49 => ?_) (fun h49 => ?_)
   ·have h49 : (((k : Nat) : Int) : Int) < (2 : Int) := by simpa using h49
    refine WC.skip (WE.next (WC.seq (WC.block (WC.seq (WC.region ?_)))))
    refine WL.val _ rfl rfl rfl (fun za zC zh zk => ix_68 (k := k) rfl (zh.ev rfl) rfl (zh.ev rfl) (by first | omega | (simp; omega)) zk) ?_
    rcases (show k = 0 ∨ k = 1 by (try dsimp only at *); omega) with hk0 | hk0
    ·refine WL.val (.func (Fn.func 26) #[] #[.pointer (some ⟨g9, 0, none⟩)]) rfl rfl rfl (fun za zC zh zk => ld_67 rfl (zh.ev rfl) (by rw [Nat.zero_add, hk0]; exact (hB45.cell 0).trans rfl) zk) ?_
     refine WL.asg rfl rfl rfl rfl rfl (WL.nil (WE.next (WC.seq (WC.region (WL.mv rfl rfl rfl rfl rfl ?_)))))
     have hcl9 : IsCl w42 x.e x.ea x.ec := ⟨InRow.mono (S' := fun _ => True) (by decide) (fun _ _ _ => trivial) ho48, hec.1, hec.2, by omega, fun y hy => hd.partsL y (hmem y hy), fun y hy => hd.partsR y (hmem y hy)⟩
     refine WL.call rfl rfl rfl (fun za zh zC => wp_callv (by kernel_rfl) rfl (zh.ev rfl) (hv0)) (way1_any x.e _ _ _ _ hB46 hcl9 (by omega)) ?_
     rintro v51 w50 ⟨hto52, hb53⟩
     replace hto52 : WayV w42 w50 (dropO x.e) v51 := hto52
     rcases hf55 : dropO x.e with _ | t54
     ·rw [hf55] at hto52
      obtain rfl : v51 = .tuple #[.agg #[.int .i64 0, .slice none 0 0, .slice none 0 0, .slice none 0 0, .slice none 0 0, .slice none 0 0], .bool false] := hto52
      refine WL.mv rfl rfl rfl rfl rfl ?_
      refine WL.val (.agg #[.int .i64 0, .slice none 0 0, .slice none 0 0, .slice none 0 0, .slice none 0 0, .slice none 0 0]) rfl rfl rfl (fun za zC zh zk => ext2_0 rfl (zh.ev rfl) zk) ?_
      refine WL.val (.bool false) rfl rfl rfl (fun za zC zh zk => ext2_1 rfl (zh.ev rfl) zk) ?_
      refine WL.step (post := NewBlk w50 40 #[.int .i64 0, .slice none 0 0, .slice none 0 0, .slice none 0 0, .slice none 0 0, .slice none 0 0]) rfl rfl rfl (fun za zC zh zk => alloc_40 rfl (zk _ _ (newBlk _ _ _))) ?_
      rintro _ w56 ⟨g57, rfl, hg58, hB59, hb60, hz61⟩
      have hl62 : g2 < g57 := by have z1 := hB44.lt; have z2 := (hb53).size; omega
      have hl63 : g17 < g57 := by have z1 := hB45.lt; have z2 := (hb53).size; omega
      have hl64 : g9 < g57 := by have z1 := hB46.lt; have z2 := (hb53).size; omega
      have hb65 : Below w.heap.size w w50 := (bstep hb43 hb53)
      have hl66 : w.heap.size ≤ g57 := by have z2 := (hb65).size; omega
      have hl67 : w42.heap.size ≤ g57 := by have z2 := (hb53).size; omega
      have hl68 : w50.heap.size ≤ g57 := by omega
      refine WL.step (post := fun _ w' => Upd g57 w56 w' ∧ Blk w' g57 40 #[.int .i64 0, .slice none 0 0, .slice none 0 0, .slice none 0 0, .slice none 0 0, .slice none 0 0]) rfl rfl rfl (fun za zC zh zk => st_40 rfl (zh.ev rfl) (zh.ev rfl) rfl rfl rfl rfl rfl rfl hB59 (by first | decide | simp) (fun v => zk v _ ⟨(((((Upd.at_ _ _ _ _).trans (Upd.at_ _ _ _ _)).trans (Upd.at_ _ _ _ _)).trans (Upd.at_ _ _ _ _)).trans (Upd.at_ _ _ _ _)).trans (Upd.at_ _ _ _ _), (((((hB59.set_ 0 _).set_ 1 _).set_ 2 _).set_ 3 _).set_ 4 _).set_ 5 _⟩)) ?_
      rintro v72 w69 ⟨hu70, hB71⟩
      have hb73 : Below w.heap.size w w56 := (bstep hb65 hb60)
      have hb74 : Below w42.heap.size w42 w56 := (bstep hb53 hb60)
      have hb75 := upd_below hb73 hu70 (by omega)
      have hb76 := upd_below hb74 hu70 (by omega)
      have hb77 := upd_below hb60 hu70 (by omega)
      have hB78 := hB44.below hb74
      have hB79 := upd_blk hB78 hu70 (by omega)
      have hB80 := hB45.below hb74
      have hB81 := upd_blk hB80 hu70 (by omega)
      have hB82 := hB46.below hb74
      have hB83 := upd_blk hB82 hu70 (by omega)
      refine WL.asg rfl rfl rfl rfl rfl (WL.nil (WE.next (WC.seq (WC.region (WL.mv rfl rfl rfl rfl rfl (WL.nil (WE.next ?_)))))))
      refine WC.condF rfl rfl ?_
      refine WC.skip (WE.blockNormal (WE.next (WC.region ?_)))
      refine WL.val (.int .i64 ((((k + 1) : Nat) : Int))) rfl rfl rfl (fun za zC zh zk => addb_3 rfl (zh.ev rfl) (zh.ev rfl) (wrap_eq (by omega) (by omega) (by omega)) zk) ?_
      refine WL.mv rfl rfl rfl rfl rfl (WL.nil ?_)
      refine WE.round (k + 1) ⟨rfl, rfl, rfl, rfl, rfl, rfl, rfl, rfl, rfl, trivial⟩ ?_ ?_
      ·have ho84 := ho47.below hb76
       have ho85 := ho48.below hb76
       exact ⟨by omega, fun _ => (by first | rfl | exact hf55), fun z => absurd z (by omega), (Nat.le_trans hBw2 hb76.size), hb75, hB79, hB81, hB83, ho84, ho85⟩
      ·omega
     ·rw [hf55] at hto52
      obtain ⟨_, rfl, p86, p87, p88, n89, c90, n91, c92, c93, rfl, hN94⟩ := hto52
      refine WL.mv rfl rfl rfl rfl rfl ?_
      refine WL.val (.agg #[.int .i64 t54.1, .slice p86 n89 c90, .slice p87 n91 c92, .slice none 0 0, .slice none 0 0, .slice p88 t54.2.length c93]) rfl rfl rfl (fun za zC zh zk => ext2_0 rfl (zh.ev rfl) zk) ?_
      refine WL.val (.bool true) rfl rfl rfl (fun za zC zh zk => ext2_1 rfl (zh.ev rfl) zk) ?_
      refine WL.step (post := NewBlk w50 40 #[.int .i64 0, .slice none 0 0, .slice none 0 0, .slice none 0 0, .slice none 0 0, .slice none 0 0]) rfl rfl rfl (fun za zC zh zk => alloc_40 rfl (zk _ _ (newBlk _ _ _))) ?_
      rintro _ w95 ⟨g96, rfl, hg97, hB98, hb99, hz100⟩
      have hl101 : g2 < g96 := by have z1 := hB44.lt; have z2 := (hb53).size; omega
      have hl102 : g17 < g96 := by have z1 := hB45.lt; have z2 := (hb53).size; omega
      have hl103 : g9 < g96 := by have z1 := hB46.lt; have z2 := (hb53).size; omega
      have hb104 : Below w.heap.size w w50 := (bstep hb43 hb53)
      have hl105 : w.heap.size ≤ g96 := by have z2 := (hb104).size; omega
      have hl106 : w42.heap.size ≤ g96 := by have z2 := (hb53).size; omega
      have hl107 : w50.heap.size ≤ g96 := by omega
      refine WL.step (post := fun _ w' => Upd g96 w95 w' ∧ Blk w' g96 40 #[.int .i64 t54.1, .slice p86 n89 c90, .slice p87 n91 c92, .slice none 0 0, .slice none 0 0, .slice p88 t54.2.length c93]) rfl rfl rfl (fun za zC zh zk => st_40 rfl (zh.ev rfl) (zh.ev rfl) rfl rfl rfl rfl rfl rfl hB98 (by first | decide | simp) (fun v => zk v _ ⟨(((((Upd.at_ _ _ _ _).trans (Upd.at_ _ _ _ _)).trans (Upd.at_ _ _ _ _)).trans (Upd.at_ _ _ _ _)).trans (Upd.at_ _ _ _ _)).trans (Upd.at_ _ _ _ _), (((((hB98.set_ 0 _).set_ 1 _).set_ 2 _).set_ 3 _).set_ 4 _).set_ 5 _⟩)) ?_
      rintro v111 w108 ⟨hu109, hB110⟩
      have hb112 : Below w.heap.size w w95 := (bstep hb104 hb99)
      have hb113 : Below w42.heap.size w42 w95 := (bstep hb53 hb99)
      have hb114 := upd_below hb112 hu109 (by omega)
      have hb115 := upd_below hb113 hu109 (by omega)
      have hb116 := upd_below hb99 hu109 (by omega)
      have hB117 := hB44.below hb113
      have hB118 := upd_blk hB117 hu109 (by omega)
      have hB119 := hB45.below hb113
      have hB120 := upd_blk hB119 hu109 (by omega)
      have hB121 := hB46.below hb113
      have hB122 := upd_blk hB121 hu109 (by omega)
      refine WL.asg rfl rfl rfl rfl rfl (WL.nil (WE.next (WC.seq (WC.region (WL.mv rfl rfl rfl rfl rfl (WL.nil (WE.next ?_)))))))
      refine WC.condT rfl rfl ?_
      refine WC.seq (WC.region (WL.mv rfl rfl rfl rfl rfl ?_))
      refine WL.val _ rfl rfl rfl (fun za zC zh zk => ld_40 rfl (zh.ev rfl) ((hB110.cell 0).trans rfl) ((hB110.cell 1).trans rfl) ((hB110.cell 2).trans rfl) ((hB110.cell 3).trans rfl) ((hB110.cell 4).trans rfl) ((hB110.cell 5).trans rfl) zk) ?_
      refine WL.step (post := NewRow w108 40 #[.int .i64 t54.1, .slice p86 n89 c90, .slice p87 n91 c92, .slice none 0 0, .slice none 0 0, .slice p88 t54.2.length c93] 1) rfl rfl rfl (fun za zC zh zk => row_47_1 rfl (zh.ev rfl) (zk _ _ (newRow _ _ _ _))) ?_
      rintro _ w123 ⟨g124, rfl, hg125, hB126, hb127, hz128⟩
      have hl129 : g2 < g124 := by have z1 := hB118.lt; omega
      have hl130 : g17 < g124 := by have z1 := hB120.lt; omega
      have hl131 : g9 < g124 := by have z1 := hB122.lt; omega
      have hl132 : g96 < g124 := by have z1 := hB110.lt; omega
      have hl133 : w.heap.size ≤ g124 := by have z2 := (hb114).size; omega
      have hl134 : w42.heap.size ≤ g124 := by have z2 := (hb115).size; omega
      have hl135 : w50.heap.size ≤ g124 := by have z2 := (hb116).size; omega
      have hb137 : Below w42.heap.size w42 w123 := (bstep hb115 hb127)
      have ho136 := ho47.below hb137
      have hb140 : Below w50.heap.size w50 w123 := (bstep hb116 hb127)
      have hN139 := hN94.below hb140
      have hlo9 : ∀ b, (Value.slice x.ra x.L.length x.rc).ownBlock = some b → w16.heap.size ≤ b ∧ b < w42.heap.size := fun b e => ho47.lt b e
      have hls9 : ∀ b, (Value.slice x.ra x.L.length x.rc).ownBlock = some b → w16.heap.size ≤ b ∧ b < w123.heap.size := fun b e => ho136.lt b e
      have hwi9 := (hb137).size
      have hg39 := hB46.lt
      have hbw9 : w16.heap.size ≤ w123.heap.size := (Nat.le_trans hBw2 hb137.size)
      have hbi9 : w16.heap.size ≤ w42.heap.size := hBw2
      have hll9 : (x.L ++ [t54.2]).length = x.L.length + 1 := by rw [List.length_append]; rfl
      refine WL.step (post := fun v w' => ∃ ra rc, v = .slice ra ((x.L ++ [t54.2])).length rc ∧ RowE eltS w' w16.heap.size 40 ra rc ((x.L ++ [t54.2])).length (x.L ++ [t54.2]) ∧ Chg (fun b => (Value.slice x.ra x.L.length x.rc).ownBlock = some b) w123 w' ∧ ∀ b, (Value.slice ra ((x.L ++ [t54.2])).length rc).ownBlock = some b → (Value.slice x.ra x.L.length x.rc).ownBlock = some b ∨ b = w123.heap.size) rfl rfl rfl (fun za zC zh zk => wp_appE2 (E := eltS) (size := 6) (bytes := 128) (z := .agg #[.int .i64 0, .slice none 0 0, .slice none 0 0, .slice none 0 0, .slice none 0 0, .slice none 0 0]) rfl Try.underlying47 (by kernel_rfl) rfl (by decide) rfl (zh.ev rfl) (zh.ev rfl) ho136 (show Blk _ _ _ (List.toArray [.int .i64 t54.1, .slice p86 n89 c90, .slice p87 n91 c92, .slice none 0 0, .slice none 0 0, .slice p88 t54.2.length c93]) from hB126) (y := t54.2) ⟨_, _, _, _, _, _, _, _, _, rfl, hN139.2.1, hN139.2.2, hN139.1.mono (by decide) (fun b hb _ => ⟨by omega, fun e => by have z := (hlo9 b e).2; omega⟩)⟩ (by omega) (by omega) hbw9 (fun ra rc w' h1 h2 _ h4 => zk _ _ ⟨ra, rc, by rw [hll9], by rw [hll9]; exact h1, h2, by rw [hll9]; exact h4⟩)) ?_
      rintro _ w146 ⟨ra141, rc142, rfl, hR143, hc144, ho145⟩
      have hE147 : InRow eltL (fun b => (Value.slice ra141 ((x.L ++ [t54.2])).length rc142).ownBlock ≠ some b ∧ b ≠ g9) w146 t54.2 p88 := (((hN139.1.mono (S' := fun b => w42.heap.size ≤ b ∧ b < w123.heap.size) (by decide) (fun b hb hl => ⟨hb, hl⟩)).chgN hc144 (fun b hb e => by have z := (hlo9 b e).2; omega)).mono (by decide) (fun b hb _ => ⟨fun e => by
        rcases ho145 b e with e | e
        ·have z := (hlo9 b e).2; omega
        ·omega, by omega⟩))
      have hb148 : Below w.heap.size w w123 := (bstep hb43 hb137)
      have hB149 := hB118.below hb127
      have hB150 := hB120.below hb127
      have hB151 := hB122.below hb127
      have hB152 := hB110.below hb127
      have hb153 := chg_below hb148 hc144 (fun b hb => (fun h => by have h3 := hls9 _ h; have h4 := hlo9 _ h; (try dsimp only at *); omega))
      have hB154 := chg_blk hB149 hc144 (fun h => by have h3 := hls9 _ h; have h4 := hlo9 _ h; (try dsimp only at *); omega)
      have hB155 := chg_blk hB150 hc144 (fun h => by have h3 := hls9 _ h; have h4 := hlo9 _ h; (try dsimp only at *); omega)
      have hB156 := chg_blk hB151 hc144 (fun h => by have h3 := hls9 _ h; have h4 := hlo9 _ h; (try dsimp only at *); omega)
      have hB157 := chg_blk hB152 hc144 (fun h => by have h3 := hls9 _ h; have h4 := hlo9 _ h; (try dsimp only at *); omega)
      have hB158 := chg_blk hB126 hc144 (fun h => by have h3 := hls9 _ h; have h4 := hlo9 _ h; (try dsimp only at *); omega)
      refine WL.asg rfl rfl rfl rfl rfl (WL.nil (WE.next (WC.seq (WC.region ?_))))
      refine WL.val _ rfl rfl rfl (fun za zC zh zk => fld_40_5 rfl (zh.ev rfl) zk) ?_
      refine WL.val _ rfl rfl rfl (fun za zC zh zk => ld_29 rfl (zh.ev rfl) ((hB157.cell 5).trans rfl) zk) ?_
      refine WL.step (post := fun _ w' => Upd g9 w146 w' ∧ Blk w' g9 29 #[.slice p88 t54.2.length c93]) rfl rfl rfl (fun za zC zh zk => st_29 rfl (zh.ev rfl) (zh.ev rfl) hB156 (by first | decide | simp) (fun v => zk v _ ⟨Upd.at_ _ _ _ _, hB156.set_ 0 _⟩)) ?_
      rintro v162 w159 ⟨hu160, hB161⟩
      have hb163 := upd_below hb153 hu160 (by omega)
      have hB164 := upd_blk hB154 hu160 (by omega)
      have hB165 := upd_blk hB155 hu160 (by omega)
      have hB166 := upd_blk hB157 hu160 (by omega)
      have hB167 := upd_blk hB158 hu160 (by omega)
      have ho168 := hR143.upd hu160 (by omega)
      have hE169 := InRow.updN hE147 hu160 (fun b hb => hb.2)
      refine WL.nil (WE.next (WC.exit (WE.blockNot rfl (WE.thenExit (WE.thenExit (WE.blockNot rfl (WE.thenExit (WE.blockIs rfl ?_))))))))
      have hwo : wayO l x.e = some (t54.1, t54.2) := wayO_1 hf55
      obtain ⟨i9, hi9, he9⟩ := wayO_step hwo
      have hel9 : (x.e.eraseIdx i9).length = x.e.length - 1 := List.length_eraseIdx_of_lt hi9
      have het9 : t54.2.length = x.e.length - 1 := by rw [← hel9]; exact congrArg List.length he9
      refine WE.round (⟨ra141, rc142, x.L ++ [t54.2], t54.2, p88, c93⟩) ⟨rfl, rfl, rfl, rfl, rfl, rfl, trivial⟩ ?_ ?_
      ·exact ⟨hT.snoc hwo, by (try dsimp only); rw [List.length_append, List.length_singleton]; omega, fun y hy => by (try dsimp only at hy); have he9b : t54.2 = x.e.eraseIdx i9 := he9; rw [he9b] at hy; exact hmem y (List.mem_of_mem_eraseIdx hy), hN94.2, (Nat.le_trans (Nat.le_trans (Nat.le_trans hBw2 hb137.size) hc144.size) (Nat.le_of_eq hu160.size.symm)), hb163, hB164, hB165, hB161, ho168, hE169⟩
      ·(try dsimp only at *); omega
    ·refine WL.val (.func (Fn.func 27) #[] #[.pointer (some ⟨g2, 0, none⟩), .pointer (some ⟨g9, 0, none⟩)]) rfl rfl rfl (fun za zC zh zk => ld_67 rfl (zh.ev rfl) (by rw [Nat.zero_add, hk0]; exact (hB45.cell 1).trans rfl) zk) ?_
     refine WL.asg rfl rfl rfl rfl rfl (WL.nil (WE.next (WC.seq (WC.region (WL.mv rfl rfl rfl rfl rfl ?_)))))
     have hcl9 : IsCl w42 x.e x.ea x.ec := ⟨InRow.mono (S' := fun _ => True) (by decide) (fun _ _ _ => trivial) ho48, hec.1, hec.2, by omega, fun y hy => hd.partsL y (hmem y hy), fun y hy => hd.partsR y (hmem y hy)⟩
     refine WL.call rfl rfl rfl (fun za zh zC => wp_callv (by kernel_rfl) rfl (zh.ev rfl) (hv0)) (way2_any l x.e _ _ _ _ _ _ _ hB44 hB46 (h.below hb43) hln hok hcl9 (by omega)) ?_
     rintro v171 w170 ⟨hto172, hb173⟩
     replace hto172 : WayV w42 w170 (cutBy l x.e) v171 := hto172
     rcases hf175 : cutBy l x.e with _ | t174
     ·rw [hf175] at hto172
      obtain rfl : v171 = .tuple #[.agg #[.int .i64 0, .slice none 0 0, .slice none 0 0, .slice none 0 0, .slice none 0 0, .slice none 0 0], .bool false] := hto172
      refine WL.mv rfl rfl rfl rfl rfl ?_
      refine WL.val (.agg #[.int .i64 0, .slice none 0 0, .slice none 0 0, .slice none 0 0, .slice none 0 0, .slice none 0 0]) rfl rfl rfl (fun za zC zh zk => ext2_0 rfl (zh.ev rfl) zk) ?_
      refine WL.val (.bool false) rfl rfl rfl (fun za zC zh zk => ext2_1 rfl (zh.ev rfl) zk) ?_
      refine WL.step (post := NewBlk w170 40 #[.int .i64 0, .slice none 0 0, .slice none 0 0, .slice none 0 0, .slice none 0 0, .slice none 0 0]) rfl rfl rfl (fun za zC zh zk => alloc_40 rfl (zk _ _ (newBlk _ _ _))) ?_
      rintro _ w176 ⟨g177, rfl, hg178, hB179, hb180, hz181⟩
      have hl182 : g2 < g177 := by have z1 := hB44.lt; have z2 := (hb173).size; omega
      have hl183 : g17 < g177 := by have z1 := hB45.lt; have z2 := (hb173).size; omega
      have hl184 : g9 < g177 := by have z1 := hB46.lt; have z2 := (hb173).size; omega
      have hb185 : Below w.heap.size w w170 := (bstep hb43 hb173)
      have hl186 : w.heap.size ≤ g177 := by have z2 := (hb185).size; omega
      have hl187 : w42.heap.size ≤ g177 := by have z2 := (hb173).size; omega
      have hl188 : w170.heap.size ≤ g177 := by omega
      refine WL.step (post := fun _ w' => Upd g177 w176 w' ∧ Blk w' g177 40 #[.int .i64 0, .slice none 0 0, .slice none 0 0, .slice none 0 0, .slice none 0 0, .slice none 0 0]) rfl rfl rfl (fun za zC zh zk => st_40 rfl (zh.ev rfl) (zh.ev rfl) rfl rfl rfl rfl rfl rfl hB179 (by first | decide | simp) (fun v => zk v _ ⟨(((((Upd.at_ _ _ _ _).trans (Upd.at_ _ _ _ _)).trans (Upd.at_ _ _ _ _)).trans (Upd.at_ _ _ _ _)).trans (Upd.at_ _ _ _ _)).trans (Upd.at_ _ _ _ _), (((((hB179.set_ 0 _).set_ 1 _).set_ 2 _).set_ 3 _).set_ 4 _).set_ 5 _⟩)) ?_
      rintro v192 w189 ⟨hu190, hB191⟩
      have hb193 : Below w.heap.size w w176 := (bstep hb185 hb180)
      have hb194 : Below w42.heap.size w42 w176 := (bstep hb173 hb180)
      have hb195 := upd_below hb193 hu190 (by omega)
      have hb196 := upd_below hb194 hu190 (by omega)
      have hb197 := upd_below hb180 hu190 (by omega)
      have hB198 := hB44.below hb194
      have hB199 := upd_blk hB198 hu190 (by omega)
      have hB200 := hB45.below hb194
      have hB201 := upd_blk hB200 hu190 (by omega)
      have hB202 := hB46.below hb194
      have hB203 := upd_blk hB202 hu190 (by omega)
      refine WL.asg rfl rfl rfl rfl rfl (WL.nil (WE.next (WC.seq (WC.region (WL.mv rfl rfl rfl rfl rfl (WL.nil (WE.next ?_)))))))
      refine WC.condF rfl rfl ?_
      refine WC.skip (WE.blockNormal (WE.next (WC.region ?_)))
      refine WL.val (.int .i64 ((((k + 1) : Nat) : Int))) rfl rfl rfl (fun za zC zh zk => addb_3 rfl (zh.ev rfl) (zh.ev rfl) (wrap_eq (by omega) (by omega) (by omega)) zk) ?_
      refine WL.mv rfl rfl rfl rfl rfl (WL.nil ?_)
      refine WE.round (k + 1) ⟨rfl, rfl, rfl, rfl, rfl, rfl, rfl, rfl, rfl, trivial⟩ ?_ ?_
      ·have ho204 := ho47.below hb196
       have ho205 := ho48.below hb196
       exact ⟨by omega, fun _ => hd1 (by omega), fun _ => (by first | rfl | exact hf175), (Nat.le_trans hBw2 hb196.size), hb195, hB199, hB201, hB203, ho204, ho205⟩
      ·omega
     ·rw [hf175] at hto172
      obtain ⟨_, rfl, p206, p207, p208, n209, c210, n211, c212, c213, rfl, hN214⟩ := hto172
      refine WL.mv rfl rfl rfl rfl rfl ?_
      refine WL.val (.agg #[.int .i64 t174.1, .slice p206 n209 c210, .slice p207 n211 c212, .slice none 0 0, .slice none 0 0, .slice p208 t174.2.length c213]) rfl rfl rfl (fun za zC zh zk => ext2_0 rfl (zh.ev rfl) zk) ?_
      refine WL.val (.bool true) rfl rfl rfl (fun za zC zh zk => ext2_1 rfl (zh.ev rfl) zk) ?_
      refine WL.step (post := NewBlk w170 40 #[.int .i64 0, .slice none 0 0, .slice none 0 0, .slice none 0 0, .slice none 0 0, .slice none 0 0]) rfl rfl rfl (fun za zC zh zk => alloc_40 rfl (zk _ _ (newBlk _ _ _))) ?_
      rintro _ w215 ⟨g216, rfl, hg217, hB218, hb219, hz220⟩
      have hl221 : g2 < g216 := by have z1 := hB44.lt; have z2 := (hb173).size; omega
      have hl222 : g17 < g216 := by have z1 := hB45.lt; have z2 := (hb173).size; omega
      have hl223 : g9 < g216 := by have z1 := hB46.lt; have z2 := (hb173).size; omega
      have hb224 : Below w.heap.size w w170 := (bstep hb43 hb173)
      have hl225 : w.heap.size ≤ g216 := by have z2 := (hb224).size; omega
      have hl226 : w42.heap.size ≤ g216 := by have z2 := (hb173).size; omega
      have hl227 : w170.heap.size ≤ g216 := by omega
      refine WL.step (post := fun _ w' => Upd g216 w215 w' ∧ Blk w' g216 40 #[.int .i64 t174.1, .slice p206 n209 c210, .slice p207 n211 c212, .slice none 0 0, .slice none 0 0, .slice p208 t174.2.length c213]) rfl rfl rfl (fun za zC zh zk => st_40 rfl (zh.ev rfl) (zh.ev rfl) rfl rfl rfl rfl rfl rfl hB218 (by first | decide | simp) (fun v => zk v _ ⟨(((((Upd.at_ _ _ _ _).trans (Upd.at_ _ _ _ _)).trans (Upd.at_ _ _ _ _)).trans (Upd.at_ _ _ _ _)).trans (Upd.at_ _ _ _ _)).trans (Upd.at_ _ _ _ _), (((((hB218.set_ 0 _).set_ 1 _).set_ 2 _).set_ 3 _).set_ 4 _).set_ 5 _⟩)) ?_
      rintro v231 w228 ⟨hu229, hB230⟩
      have hb232 : Below w.heap.size w w215 := (bstep hb224 hb219)
      have hb233 : Below w42.heap.size w42 w215 := (bstep hb173 hb219)
      have hb234 := upd_below hb232 hu229 (by omega)
      have hb235 := upd_below hb233 hu229 (by omega)
      have hb236 := upd_below hb219 hu229 (by omega)
      have hB237 := hB44.below hb233
      have hB238 := upd_blk hB237 hu229 (by omega)
      have hB239 := hB45.below hb233
      have hB240 := upd_blk hB239 hu229 (by omega)
      have hB241 := hB46.below hb233
      have hB242 := upd_blk hB241 hu229 (by omega)
      refine WL.asg rfl rfl rfl rfl rfl (WL.nil (WE.next (WC.seq (WC.region (WL.mv rfl rfl rfl rfl rfl (WL.nil (WE.next ?_)))))))
      refine WC.condT rfl rfl ?_
      refine WC.seq (WC.region (WL.mv rfl rfl rfl rfl rfl ?_))
      refine WL.val _ rfl rfl rfl (fun za zC zh zk => ld_40 rfl (zh.ev rfl) ((hB230.cell 0).trans rfl) ((hB230.cell 1).trans rfl) ((hB230.cell 2).trans rfl) ((hB230.cell 3).trans rfl) ((hB230.cell 4).trans rfl) ((hB230.cell 5).trans rfl) zk) ?_
      refine WL.step (post := NewRow w228 40 #[.int .i64 t174.1, .slice p206 n209 c210, .slice p207 n211 c212, .slice none 0 0, .slice none 0 0, .slice p208 t174.2.length c213] 1) rfl rfl rfl (fun za zC zh zk => row_47_1 rfl (zh.ev rfl) (zk _ _ (newRow _ _ _ _))) ?_
      rintro _ w243 ⟨g244, rfl, hg245, hB246, hb247, hz248⟩
      have hl249 : g2 < g244 := by have z1 := hB238.lt; omega
      have hl250 : g17 < g244 := by have z1 := hB240.lt; omega
      have hl251 : g9 < g244 := by have z1 := hB242.lt; omega
      have hl252 : g216 < g244 := by have z1 := hB230.lt; omega
      have hl253 : w.heap.size ≤ g244 := by have z2 := (hb234).size; omega
      have hl254 : w42.heap.size ≤ g244 := by have z2 := (hb235).size; omega
      have hl255 : w170.heap.size ≤ g244 := by have z2 := (hb236).size; omega
      have hb257 : Below w42.heap.size w42 w243 := (bstep hb235 hb247)
      have ho256 := ho47.below hb257
      have hb260 : Below w170.heap.size w170 w243 := (bstep hb236 hb247)
      have hN259 := hN214.below hb260
      have hlo9 : ∀ b, (Value.slice x.ra x.L.length x.rc).ownBlock = some b → w16.heap.size ≤ b ∧ b < w42.heap.size := fun b e => ho47.lt b e
      have hls9 : ∀ b, (Value.slice x.ra x.L.length x.rc).ownBlock = some b → w16.heap.size ≤ b ∧ b < w243.heap.size := fun b e => ho256.lt b e
      have hwi9 := (hb257).size
      have hg39 := hB46.lt
      have hbw9 : w16.heap.size ≤ w243.heap.size := (Nat.le_trans hBw2 hb257.size)
      have hbi9 : w16.heap.size ≤ w42.heap.size := hBw2
      have hll9 : (x.L ++ [t174.2]).length = x.L.length + 1 := by rw [List.length_append]; rfl
      refine WL.step (post := fun v w' => ∃ ra rc, v = .slice ra ((x.L ++ [t174.2])).length rc ∧ RowE eltS w' w16.heap.size 40 ra rc ((x.L ++ [t174.2])).length (x.L ++ [t174.2]) ∧ Chg (fun b => (Value.slice x.ra x.L.length x.rc).ownBlock = some b) w243 w' ∧ ∀ b, (Value.slice ra ((x.L ++ [t174.2])).length rc).ownBlock = some b → (Value.slice x.ra x.L.length x.rc).ownBlock = some b ∨ b = w243.heap.size) rfl rfl rfl (fun za zC zh zk => wp_appE2 (E := eltS) (size := 6) (bytes := 128) (z := .agg #[.int .i64 0, .slice none 0 0, .slice none 0 0, .slice none 0 0, .slice none 0 0, .slice none 0 0]) rfl Try.underlying47 (by kernel_rfl) rfl (by decide) rfl (zh.ev rfl) (zh.ev rfl) ho256 (show Blk _ _ _ (List.toArray [.int .i64 t174.1, .slice p206 n209 c210, .slice p207 n211 c212, .slice none 0 0, .slice none 0 0, .slice p208 t174.2.length c213]) from hB246) (y := t174.2) ⟨_, _, _, _, _, _, _, _, _, rfl, hN259.2.1, hN259.2.2, hN259.1.mono (by decide) (fun b hb _ => ⟨by omega, fun e => by have z := (hlo9 b e).2; omega⟩)⟩ (by omega) (by omega) hbw9 (fun ra rc w' h1 h2 _ h4 => zk _ _ ⟨ra, rc, by rw [hll9], by rw [hll9]; exact h1, h2, by rw [hll9]; exact h4⟩)) ?_
      rintro _ w266 ⟨ra261, rc262, rfl, hR263, hc264, ho265⟩
      have hE267 : InRow eltL (fun b => (Value.slice ra261 ((x.L ++ [t174.2])).length rc262).ownBlock ≠ some b ∧ b ≠ g9) w266 t174.2 p208 := (((hN259.1.mono (S' := fun b => w42.heap.size ≤ b ∧ b < w243.heap.size) (by decide) (fun b hb hl => ⟨hb, hl⟩)).chgN hc264 (fun b hb e => by have z := (hlo9 b e).2; omega)).mono (by decide) (fun b hb _ => ⟨fun e => by
        rcases ho265 b e with e | e
        ·have z := (hlo9 b e).2; omega
        ·omega, by omega⟩))
      have hb268 : Below w.heap.size w w243 := (bstep hb43 hb257)
      have hB269 := hB238.below hb247
      have hB270 := hB240.below hb247
      have hB271 := hB242.below hb247
      have hB272 := hB230.below hb247
      have hb273 := chg_below hb268 hc264 (fun b hb => (fun h => by have h3 := hls9 _ h; have h4 := hlo9 _ h; (try dsimp only at *); omega))
      have hB274 := chg_blk hB269 hc264 (fun h => by have h3 := hls9 _ h; have h4 := hlo9 _ h; (try dsimp only at *); omega)
      have hB275 := chg_blk hB270 hc264 (fun h => by have h3 := hls9 _ h; have h4 := hlo9 _ h; (try dsimp only at *); omega)
      have hB276 := chg_blk hB271 hc264 (fun h => by have h3 := hls9 _ h; have h4 := hlo9 _ h; (try dsimp only at *); omega)
      have hB277 := chg_blk hB272 hc264 (fun h => by have h3 := hls9 _ h; have h4 := hlo9 _ h; (try dsimp only at *); omega)
      have hB278 := chg_blk hB246 hc264 (fun h => by have h3 := hls9 _ h; have h4 := hlo9 _ h; (try dsimp only at *); omega)
      refine WL.asg rfl rfl rfl rfl rfl (WL.nil (WE.next (WC.seq (WC.region ?_))))
      refine WL.val _ rfl rfl rfl (fun za zC zh zk => fld_40_5 rfl (zh.ev rfl) zk) ?_
      refine WL.val _ rfl rfl rfl (fun za zC zh zk => ld_29 rfl (zh.ev rfl) ((hB277.cell 5).trans rfl) zk) ?_
      refine WL.step (post := fun _ w' => Upd g9 w266 w' ∧ Blk w' g9 29 #[.slice p208 t174.2.length c213]) rfl rfl rfl (fun za zC zh zk => st_29 rfl (zh.ev rfl) (zh.ev rfl) hB276 (by first | decide | simp) (fun v => zk v _ ⟨Upd.at_ _ _ _ _, hB276.set_ 0 _⟩)) ?_
      rintro v282 w279 ⟨hu280, hB281⟩
      have hb283 := upd_below hb273 hu280 (by omega)
      have hB284 := upd_blk hB274 hu280 (by omega)
      have hB285 := upd_blk hB275 hu280 (by omega)
      have hB286 := upd_blk hB277 hu280 (by omega)
      have hB287 := upd_blk hB278 hu280 (by omega)
      have ho288 := hR263.upd hu280 (by omega)
      have hE289 := InRow.updN hE267 hu280 (fun b hb => hb.2)
      refine WL.nil (WE.next (WC.exit (WE.blockNot rfl (WE.thenExit (WE.thenExit (WE.blockNot rfl (WE.thenExit (WE.blockIs rfl ?_))))))))
      have hwo : wayO l x.e = some (t174.1, t174.2) := wayO_2 (hd1 (by omega)) hf175
      obtain ⟨i9, hi9, he9⟩ := wayO_step hwo
      have hel9 : (x.e.eraseIdx i9).length = x.e.length - 1 := List.length_eraseIdx_of_lt hi9
      have het9 : t174.2.length = x.e.length - 1 := by rw [← hel9]; exact congrArg List.length he9
      refine WE.round (⟨ra261, rc262, x.L ++ [t174.2], t174.2, p208, c213⟩) ⟨rfl, rfl, rfl, rfl, rfl, rfl, trivial⟩ ?_ ?_
      ·exact ⟨hT.snoc hwo, by (try dsimp only); rw [List.length_append, List.length_singleton]; omega, fun y hy => by (try dsimp only at hy); have he9b : t174.2 = x.e.eraseIdx i9 := he9; rw [he9b] at hy; exact hmem y (List.mem_of_mem_eraseIdx hy), hN214.2, (Nat.le_trans (Nat.le_trans (Nat.le_trans hBw2 hb257.size) hc264.size) (Nat.le_of_eq hu280.size.symm)), hb283, hB284, hB285, hB281, ho288, hE289⟩
      ·(try dsimp only at *); omega
   ·have h49 : ¬ ((((k : Nat) : Int) : Int) < (2 : Int)) := by simpa using h49
    refine WC.exit (WE.thenExit (WE.thenExit (WE.blockIs rfl (WE.next (WC.seq (WC.region (WL.mv rfl rfl rfl rfl rfl (WL.asg rfl rfl rfl rfl rfl (WL.nil (WE.next (WC.ret (WE.blockRet (WE.thenRet (WE.blockRet (WE.scopeRet (WE.ret1 rfl rfl ?_))))))))))))))))
    have hk2 : k = 2 := by (try dsimp only at *); omega
    exact ⟨_, rfl, ⟨x.ra, x.rc, x.L, x.e, rfl, (ho47).inRow.1.mono (by decide) (fun _ _ _ => trivial), hT, wayO_2 (hd1 (by omega)) (hc2 (by omega))⟩, hb43⟩
end Go.Proofs.Ytnmopmdpnpcdhaa

/- What clauses weigh, plain. -/
namespace Go.Proofs.Ytnmopmdpnpcdhaa
open Go.RowKit Go
set_option linter.unusedVariables false
set_option linter.unusedSimpArgs false
/-- Is it $true? -/
def T.isTrue (t : T) : Bool := decide (t.f = 0) && t.args.isEmpty
theorem T.isTrue_iff {t : T} : t.isTrue = true ↔ t.f = 0 ∧ t.args.length = 0 := by
  unfold T.isTrue; simp
/-- A literal's size; what it weighs. -/
def Li.sz (x : Li) : Nat := if x.r.isTrue = true then x.l.size else x.l.size + x.r.size
def clSize : List Li → Nat
  | [] => 0
  | x :: r => x.sz + clSize r
theorem clSize_take {l : List Li} {k : Nat} (h : k < l.length) : clSize (l.take (k + 1)) = clSize (l.take k) + (lget l k).sz := by
  have ha : ∀ a b : List Li, clSize (a ++ b) = clSize a + clSize b := by
    intro a b; induction a with
    | nil => simp [clSize]
    | cons x r ih => simp only [List.cons_append, clSize, ih]; omega
  rw [List.take_succ_eq_append_getElem h, ha, lget_lt h]; simp [clSize]
theorem Li.sz_le {x : Li} (h1 : x.l.size ≤ 4294967296) (h2 : x.r.size ≤ 4294967296) : x.sz ≤ 8589934592 := by unfold Li.sz; split <;> omega
end Go.Proofs.Ytnmopmdpnpcdhaa

/- The size of a term: the walk. -/
namespace Go.Proofs.Ytnmopmdpnpcdhaa
open Go.RowKit
theorem size_any (t : T) : ∀ (w : World) (v : Value), IsT w t v →
    Calls Try.prog 39 #[v] w fun e w' => e = .returned (.int .i64 (wrap64 t.size)) ∧ Below w.heap.size w w' := by
  induction t using T.ind with
  | h f l ih =>
  intro w v hv
  obtain ⟨_, a, c, rfl, hc, hm, hl⟩ := hv
  unfold maxLen at hm
  go_enter Try.func39, Try.ntmps39
  go_wp2
  go_loopw [3, 4] (fun n i wr => ∃ (k : Nat), k ≤ l.length ∧ i = .int .i64 k ∧ n = .int .i64 (wrap64 (1 + T.sizeL (l.take k) : Nat)) ∧ Below w.heap.size w wr ∧ Box wr w.heap.size [.int .i64 f, .slice a l.length c]) (fun _ i _ => l.length - (intOf i).toNat)
  case atStart => exact ⟨0, Nat.zero_le _, rfl, vint (by simp [T.sizeL, wrap64]), balloc _ _, Box.new _ _ _⟩
  case round =>
    obtain ⟨k, hk, rfl, rfl, hw, hB⟩ := hrel
    obtain ⟨_, b1⟩ := hB.two
    by_cases hlt : k < l.length
    · obtain ⟨b, o, a', c', rfl, g1, g2, h3⟩ := hl.at_ hw k hlt
      have IH := fun w v => ih l[k] (List.getElem_mem hlt) w v
      have Hh3 := Lib.hid h3
      have HhB := Lib.hid hB
      have Hhw := Lib.hid hw
      clear h3 hB hw
      clear ih hl
      go_wp2_with (go_at_call 39; refine (IH _ _ Hh3.out).mono ?_; rintro e w' ⟨rfl, hb'⟩)
      go_roundw
      case rel => exact ⟨k + 1, by omega, by go_num, by rw [wrap64_add, T.sizeL_take_succ l k hlt]; congr 2; omega, bstep Hhw.out hb', HhB.out.below hb'⟩
      case measure => simp [intOf]; omega
    · go_wp2_with fail
      go_ret
      obtain rfl : k = l.length := by omega
      exact ⟨rint (by rw [List.take_length]; rfl), hw⟩
end Go.Proofs.Ytnmopmdpnpcdhaa

/- What clauses weigh: the program and the document. -/
namespace Go.Proofs.Ytnmopmdpnpcdhaa
open Go.RowKit Go
set_option linter.unusedVariables false
set_option linter.unusedSimpArgs false
theorem rsize_ok (t : T) (w : World) (v : Value) (hz : t.size ≤ 4294967296) (hv : IsT w t v) : Calls Try.prog 39 #[v] w (Ret fun v' w' => v' = .int .i64 (t.size : Int) ∧ Below w.heap.size w w') :=
 (size_any t w v hv).mono fun e w' ⟨h1, h2⟩ => ⟨_, h1, by rw [wrap64_id (by omega)], h2⟩
set_option maxRecDepth 100000 in
theorem rtrue_any (t : T) (w : World) (v : Value) (hv : IsT w t v) : Calls Try.prog 40 #[v] w (Ret fun v' w' => v' = .bool t.isTrue ∧ Below w.heap.size w w') := by
 obtain ⟨hf, a, c, rfl, _, _, _⟩ := hv.form
 refine Calls.walk (l := [.agg #[.int .i64 t.f, .slice a t.args.length c]]) Try.func40 rfl (by kernel_rfl) ?_
 refine WC.sub (K' := [(0, .agg #[.int .i64 t.f, .slice a t.args.length c])]) ⟨rfl, trivial⟩ ?_
 refine WC.seq (WC.region ?_)
 refine WL.step (post := NewBlk w 58 #[.int .i64 t.f, .slice a t.args.length c]) rfl rfl rfl (fun za zC zh zk => box_58 rfl (zh.ev rfl) (zk _ _ (newBlk _ _ _))) ?_
 rintro _ w1 ⟨g2, rfl, hg3, hB4, hb5, hz6⟩
 have hl7 : w.heap.size ≤ g2 := by omega
 refine WL.asg rfl rfl rfl rfl rfl (WL.nil (WE.next (WC.seq ?_)))
 refine WC.opt [(true, .val (.pointer (some ⟨g2, 0, none⟩))), (true, .val (.int .i64 t.f)), (true, .val (.bool (((t.f : Int) == (0 : Int))))), (true, .val (.bool (((t.f : Int) == (0 : Int))))), ((true && ((t.f : Int) == (0 : Int))), .val (.pointer (some ⟨g2, 1, none⟩))), ((true && ((t.f : Int) == (0 : Int))), .val (.slice a t.args.length c)), ((true && ((t.f : Int) == (0 : Int))), .val (.int .i64 (((t.args.length : Nat) : Int)))), ((true && ((t.f : Int) == (0 : Int))), .val (.bool (((((t.args.length : Nat) : Int) : Int) == (0 : Int))))), (true, .val (.bool ((((t.f : Int) == (0 : Int)) && ((((t.args.length : Nat) : Int) : Int) == (0 : Int)))))), (true, .val (.bool ((((t.f : Int) == (0 : Int)) && ((((t.args.length : Nat) : Int) : Int) == (0 : Int))))))] [(0, .agg #[.int .i64 t.f, .slice a t.args.length c]), (1, .pointer (some ⟨g2, 0, none⟩))] ⟨rfl, rfl, trivial⟩ (by kernel_rfl) (by kernel_rfl) (by kernel_rfl) ?_ ?_
 ·refine ⟨⟨true, .none rfl, fun h w => optUndef h, fun zβ za zw zc => ?_⟩, ?_⟩
  ·exact fld_58_0 rfl (zc.kn.ev rfl) ⟨_, rfl, Below.refl _ _, optDef zβ rfl⟩
  refine ⟨⟨true, .none rfl, fun h w => optUndef h, fun zβ za zw zc => ?_⟩, ?_⟩
  ·exact ld_3 rfl ((evt za 3).trans (optVal (zc.dep 0 3 (by kernel_rfl)) rfl rfl)) (bkeeps zc.below _ _ ((hB4.cell 0).trans rfl)) ⟨_, rfl, Below.refl _ _, optDef zβ rfl⟩
  refine ⟨⟨true, .none rfl, fun h w => optUndef h, fun zβ za zw zc => ?_⟩, ?_⟩
  ·exact eql_3 rfl ((evt za 4).trans (optVal (zc.dep 1 4 (by kernel_rfl)) rfl rfl)) (zc.kn.ev rfl) ⟨_, rfl, Below.refl _ _, optDef zβ rfl⟩
  refine ⟨⟨true, .none rfl, fun h w => optUndef h, fun zβ za zw zc => ?_⟩, ?_⟩
  ·exact wp_move rfl ((evt za 5).trans (optVal (zc.dep 2 5 (by kernel_rfl)) rfl rfl)) ⟨_, rfl, Below.refl _ _, optDef zβ rfl⟩
  refine ⟨⟨_, .yes (c := ((t.f : Int) == (0 : Int))) (d := true) rfl (fun v w h => h), fun h w => optUndef h, fun zβ za zw zc => ?_⟩, ?_⟩
  ·exact fld_58_1 rfl (zc.kn.ev rfl) ⟨_, rfl, Below.refl _ _, optDef zβ rfl⟩
  refine ⟨⟨_, .yes (c := ((t.f : Int) == (0 : Int))) (d := true) rfl (fun v w h => h), fun h w => optUndef h, fun zβ za zw zc => ?_⟩, ?_⟩
  ·exact ld_56 rfl ((evt za 7).trans (optVal (zc.dep 4 7 (by kernel_rfl)) rfl zβ)) (bkeeps zc.below _ _ ((hB4.cell 1).trans rfl)) ⟨_, rfl, Below.refl _ _, optDef zβ rfl⟩
  refine ⟨⟨_, .yes (c := ((t.f : Int) == (0 : Int))) (d := true) rfl (fun v w h => h), fun h w => optUndef h, fun zβ za zw zc => ?_⟩, ?_⟩
  ·exact len_56 rfl ((evt za 8).trans (optVal (zc.dep 5 8 (by kernel_rfl)) rfl zβ)) ⟨_, rfl, Below.refl _ _, optDef zβ rfl⟩
  refine ⟨⟨_, .yes (c := ((t.f : Int) == (0 : Int))) (d := true) rfl (fun v w h => h), fun h w => optUndef h, fun zβ za zw zc => ?_⟩, ?_⟩
  ·exact eql_3 rfl ((evt za 9).trans (optVal (zc.dep 6 9 (by kernel_rfl)) rfl zβ)) (zc.kn.ev rfl) ⟨_, rfl, Below.refl _ _, optDef zβ rfl⟩
  refine ⟨⟨true, .none rfl, fun h w => optUndef h, fun zβ za zw zc => ?_⟩, ?_⟩
  ·exact wp_and rfl ((evt za 6).trans (optVal (zc.dep 3 6 (by kernel_rfl)) rfl rfl)) (fun hp => ((evt za 10).trans (optVal (zc.dep 7 10 (by kernel_rfl)) rfl (bMk zβ hp)))) ⟨_, rfl, Below.refl _ _, optDef zβ rfl⟩
  refine ⟨⟨true, .none rfl, fun h w => optUndef h, fun zβ za zw zc => ?_⟩, ?_⟩
  ·exact wp_assign rfl ((evt za 11).trans (optVal (zc.dep 8 11 (by kernel_rfl)) rfl rfl)) ⟨_, rfl, Below.refl _ _, optDef zβ rfl⟩
  exact trivial
 ·intro za w8 zh hb9 zu
  have zh := zh.cons (d := 2) (v := .bool ((((t.f : Int) == (0 : Int)) && ((((t.args.length : Nat) : Int) : Int) == (0 : Int))))) (optVal (zu 9 2 (by kernel_rfl)) rfl rfl)
  clear zu
  refine WE.go zh ?_
  refine WE.next (WC.ret (WE.ret1 rfl rfl ?_))
  have hb10 : Below w.heap.size w w8 := (bstep hb5 hb9)
  refine ⟨_, rfl, congrArg Value.bool ?_, hb10⟩
  rw [Bool.eq_iff_iff, T.isTrue_iff]; simp
set_option maxRecDepth 100000 in
theorem rlit_any (x : Li) (w : World) (a1 a2 : Option Addr) (c1 c2 : Nat) (hz1 : x.l.size ≤ 4294967296) (hz2 : x.r.size ≤ 4294967296)
  (hL : IsT w x.l (.agg #[.int .i64 x.l.f, .slice a1 x.l.args.length c1])) (hR : IsT w x.r (.agg #[.int .i64 x.r.f, .slice a2 x.r.args.length c2])) : Calls Try.prog 28 #[.agg #[.bool x.neg, .int .i64 x.l.f, .slice a1 x.l.args.length c1, .int .i64 x.r.f, .slice a2 x.r.args.length c2]] w (Ret fun v' w' => v' = .int .i64 (x.sz : Int) ∧ Below w.heap.size w w') := by
 refine Calls.walk (l := [.agg #[.bool x.neg, .int .i64 x.l.f, .slice a1 x.l.args.length c1, .int .i64 x.r.f, .slice a2 x.r.args.length c2]]) Try.func28 rfl (by kernel_rfl) ?_
 refine WC.sub (K' := [(0, .agg #[.bool x.neg, .int .i64 x.l.f, .slice a1 x.l.args.length c1, .int .i64 x.r.f, .slice a2 x.r.args.length c2])]) ⟨rfl, trivial⟩ ?_
 refine WC.seq (WC.region ?_)
 refine WL.step (post := NewBlk w 60 #[.bool x.neg, .int .i64 x.l.f, .slice a1 x.l.args.length c1, .int .i64 x.r.f, .slice a2 x.r.args.length c2]) rfl rfl rfl (fun za zC zh zk => box_60 rfl (zh.ev rfl) (zk _ _ (newBlk _ _ _))) ?_
 rintro _ w1 ⟨g2, rfl, hg3, hB4, hb5, hz6⟩
 have hl7 : w.heap.size ≤ g2 := by omega
 refine WL.asg rfl rfl rfl rfl rfl (WL.nil (WE.next (WC.seq (WC.region ?_))))
 refine WL.val _ rfl rfl rfl (fun za zC zh zk => fld_60_1 rfl (zh.ev rfl) zk) ?_
 refine WL.val _ rfl rfl rfl (fun za zC zh zk => ld_58 rfl (zh.ev rfl) ((hB4.cell 1).trans rfl) ((hB4.cell 2).trans rfl) zk) ?_
 refine WL.call rfl rfl rfl (fun za zh zC => wp_call (by kernel_rfl) rfl (hv1 (zh.ev rfl))) (rsize_ok x.l _ _ hz1 (IsT.below hb5 hL)) ?_
 rintro _ w9 ⟨rfl, hq8⟩
 refine WL.asg rfl rfl rfl rfl rfl (WL.nil (WE.next (WC.seq (WC.seq (WC.region ?_)))))
 refine WL.val _ rfl rfl rfl (fun za zC zh zk => fld_60_2 rfl (zh.ev rfl) zk) ?_
 have hB10 := hB4.below hq8
 refine WL.val _ rfl rfl rfl (fun za zC zh zk => ld_58 rfl (zh.ev rfl) ((hB10.cell 3).trans rfl) ((hB10.cell 4).trans rfl) zk) ?_
 have hb11 : Below w.heap.size w w9 := (bstep hb5 hq8)
 refine WL.call rfl rfl rfl (fun za zh zC => wp_call (by kernel_rfl) rfl (hv1 (zh.ev rfl))) (rtrue_any x.r _ _ (IsT.below hb11 hR)) ?_
 rintro _ w13 ⟨rfl, hq12⟩
 refine WL.val (.bool ((!x.r.isTrue))) rfl rfl rfl (fun za zC zh zk => wp_not rfl (zh.ev rfl) zk) ?_
 refine WL.nil (WE.next ?_)
 refine WC.cond rfl (fun h14 => ?_) (fun h14 => ?_)
 ·have h14 : ¬ (x.r.isTrue = true) := by simpa using h14
  refine WC.region (WL.mv rfl rfl rfl rfl rfl ?_)
  refine WL.val _ rfl rfl rfl (fun za zC zh zk => fld_60_2 rfl (zh.ev rfl) zk) ?_
  have hB15 := hB10.below hq12
  refine WL.val _ rfl rfl rfl (fun za zC zh zk => ld_58 rfl (zh.ev rfl) ((hB15.cell 3).trans rfl) ((hB15.cell 4).trans rfl) zk) ?_
  have hb16 : Below w.heap.size w w13 := (bstep hb11 hq12)
  refine WL.call rfl rfl rfl (fun za zh zC => wp_call (by kernel_rfl) rfl (hv1 (zh.ev rfl))) (rsize_ok x.r _ _ hz2 (IsT.below hb16 hR)) ?_
  rintro _ w18 ⟨rfl, hq17⟩
  refine WL.val (.int .i64 ((((x.l.size + x.r.size) : Nat) : Int))) rfl rfl rfl (fun za zC zh zk => addb_3 rfl (zh.ev rfl) (zh.ev rfl) (wrap_eq (by omega) (by omega) (by omega)) zk) ?_
  refine WL.asg rfl rfl rfl rfl rfl (WL.nil (WE.next (WC.seq (WC.region (WL.mv rfl rfl rfl rfl rfl (WL.asg rfl rfl rfl rfl rfl (WL.nil (WE.next (WC.ret (WE.ret1 rfl rfl ?_))))))))))
  have hb19 : Below w.heap.size w w18 := (bstep hb16 hq17)
  exact ⟨_, rfl, by unfold Li.sz; rw [if_neg h14], hb19⟩
 ·have h14 : ¬ (¬ (x.r.isTrue = true)) := by simpa using h14
  refine WC.skip (WE.next (WC.seq (WC.region (WL.mv rfl rfl rfl rfl rfl (WL.asg rfl rfl rfl rfl rfl (WL.nil (WE.next (WC.ret (WE.ret1 rfl rfl ?_)))))))))
  have hb20 : Below w.heap.size w w13 := (bstep hb11 hq12)
  exact ⟨_, rfl, by unfold Li.sz; rw [if_pos (by simpa using h14)], hb20⟩
theorem clSize_le {l : List Li} (h : ∀ x ∈ l, x.l.size ≤ 4294967296 ∧ x.r.size ≤ 4294967296) : ∀ k, clSize (l.take k) ≤ l.length * 8589934592 := by
 induction l with
 | nil => intro k; simp [clSize]
 | cons x r ih =>
  intro k
  cases k with
  | zero => simp [clSize]
  | succ k =>
   have h1 := ih (fun y hy => h y (by simp [hy])) k
   have h2 := Li.sz_le (h x (by simp)).1 (h x (by simp)).2
   rw [List.take_succ_cons, clSize, List.length_cons]; omega
set_option maxRecDepth 100000 in
theorem rsizec_any (l : List Li) (w : World) (a : Option Addr) (c : Nat) (hl : IsCl w l a c) (hlz : l.length ≤ 1048576) : Calls Try.prog 16 #[.slice a l.length c] w (Ret fun v' w' => v' = .int .i64 (clSize l : Int) ∧ Below w.heap.size w w') := by
 have hr := hl.rows
 have hle : ∀ k, clSize (l.take k) ≤ l.length * 8589934592 := fun k => clSize_le (fun x hx => ⟨hl.partsL x hx, hl.partsR x hx⟩) k
 have hpl : ∀ k, k < l.length → (lget l k).l.size ≤ 4294967296 := fun k h => hl.pl h
 have hpr : ∀ k, k < l.length → (lget l k).r.size ≤ 4294967296 := fun k h => hl.pr h
 refine Calls.walk (l := [.slice a l.length c]) Try.func16 rfl (by kernel_rfl) ?_
 refine WC.sub (K' := [(0, .slice a l.length c)]) ⟨rfl, trivial⟩ ?_
 refine WC.seq (WC.region (WL.asg rfl rfl rfl rfl rfl (WL.nil (WE.next (WC.seq (WC.region (WL.asg rfl rfl rfl rfl rfl (WL.nil (WE.next (WC.seq (WC.seq (WC.region (WL.asg rfl rfl rfl rfl rfl (WL.nil (WE.next (WC.block ?_))))))))))))))))
 refine WC.loop (X := Nat) (fun k => l.length - k) (fun k => [(0, .slice a l.length c), (2, .int .i64 0), (3, .int .i64 ((((clSize (l.take k)) : Nat) : Int))), (4, .int .i64 (((k : Nat) : Int)))]) (fun k w1 => k ≤ l.length ∧ Below w.heap.size w w1) 0 ⟨rfl, rfl, rfl, rfl, trivial⟩ ?_ ?_
 ·exact ⟨Nat.zero_le _, (Below.refl _ _)⟩
 ·rintro k w1 ⟨hk, hb2⟩
  refine WC.seq (WC.seq (WC.region (WL.mv rfl rfl rfl rfl rfl (WL.mv rfl rfl rfl rfl rfl ?_))))
  refine WL.val (.int .i64 (((l.length : Nat) : Int))) rfl rfl rfl (fun za zC zh zk => len_29 rfl (zh.ev rfl) zk) ?_
  refine WL.val (.bool ((decide ((((k : Nat) : Int) : Int) < (((l.length : Nat) : Int) : Int))))) rfl rfl rfl (fun za zC zh zk => lss_3 rfl (zh.ev rfl) (zh.ev rfl) zk) ?_
  refine WL.nil (WE.next ?_)
  refine WC.cond rfl (fun h3 => ?_) (fun h3 => ?_)
  ·have h3 : (((k : Nat) : Int) : Int) < (((l.length : Nat) : Int) : Int) := by simpa using h3
   refine WC.skip (WE.next (WC.seq (WC.block (WC.region (WL.mv rfl rfl rfl rfl rfl (WL.mv rfl rfl rfl rfl rfl (WL.mv rfl rfl rfl rfl rfl ?_)))))))
   obtain ⟨b4, o5, A6, C7, A8, C9, ha10, hc11⟩ := InRow.openL hr
   refine WL.val _ rfl rfl rfl (fun za zC zh zk => ix_29 (k := k) rfl (zh.ev rfl) (ha10 k (by first | omega | (simp; omega))) (zh.ev rfl) (by first | omega | (simp; omega)) zk) ?_
   refine WL.val _ rfl rfl rfl (fun za zC zh zk => ld_60 rfl (zh.ev rfl) (bkeeps hb2 _ _ (hc11 k (by first | omega | (simp; omega))).1) (bkeeps hb2 _ _ (hc11 k (by first | omega | (simp; omega))).2.1) (bkeeps hb2 _ _ (hc11 k (by first | omega | (simp; omega))).2.2.1) (bkeeps hb2 _ _ (hc11 k (by first | omega | (simp; omega))).2.2.2.1) (bkeeps hb2 _ _ (hc11 k (by first | omega | (simp; omega))).2.2.2.2.1) zk) ?_
   refine WL.call rfl rfl rfl (fun za zh zC => wp_call (by kernel_rfl) rfl (hv1 (zh.ev rfl))) (rlit_any (lget l k) _ _ _ _ _ (hpl k (by omega)) (hpr k (by omega)) (IsT.below hb2 (InT.isT (hc11 k (by first | omega | (simp; omega))).2.2.2.2.2.1)) (IsT.below hb2 (InT.isT (hc11 k (by first | omega | (simp; omega))).2.2.2.2.2.2))) ?_
   rintro _ w13 ⟨rfl, hq12⟩
   refine WL.val (.int .i64 ((((clSize (l.take (k + 1))) : Nat) : Int))) rfl rfl rfl (fun za zC zh zk => addb_3 rfl (zh.ev rfl) (zh.ev rfl) (wrap_eq (by rw [clSize_take (by omega)]; omega) (by omega) (by have z := hle (k + 1); omega)) zk) ?_
   refine WL.asg rfl rfl rfl rfl rfl (WL.nil (WE.blockNormal (WE.next (WC.region (WL.mv rfl rfl rfl rfl rfl ?_)))))
   refine WL.val (.int .i64 ((((k + 1) : Nat) : Int))) rfl rfl rfl (fun za zC zh zk => addb_3 rfl (zh.ev rfl) (zh.ev rfl) (wrap_eq (by omega) (by omega) (by omega)) zk) ?_
   refine WL.asg rfl rfl rfl rfl rfl (WL.nil ?_)
   refine WE.round (k + 1) ⟨rfl, rfl, rfl, rfl, trivial⟩ ?_ ?_
   ·have hb14 : Below w.heap.size w w13 := (bstep hb2 hq12)
    exact ⟨by omega, hb14⟩
   ·omega
  ·have h3 : ¬ ((((k : Nat) : Int) : Int) < (((l.length : Nat) : Int) : Int)) := by simpa using h3
   refine WC.exit (WE.thenExit (WE.thenExit (WE.blockIs rfl (WE.next (WC.seq (WC.region (WL.mv rfl rfl rfl rfl rfl (WL.asg rfl rfl rfl rfl rfl (WL.nil (WE.next (WC.ret (WE.ret1 rfl rfl ?_))))))))))))
   exact ⟨_, rfl, by rw [List.take_of_length_le (show l.length ≤ k by omega)], hb2⟩
end Go.Proofs.Ytnmopmdpnpcdhaa

/- What the law asks: large, some. -/
namespace Go.Proofs.Ytnmopmdpnpcdhaa
open Go.RowKit Go
set_option linter.unusedVariables false
set_option linter.unusedSimpArgs false
def largeB (l : List Li) : Bool := decide ((20 : Int) < (l.length : Nat)) || decide ((200 : Int) < (clSize l : Nat))
set_option maxRecDepth 100000 in
theorem large_any (l : List Li) (w : World) (a : Option Addr) (c : Nat) (hl : IsCl w l a c) (hlz : l.length ≤ 1048576) : Calls Try.prog 5 #[.slice a l.length c] w (Ret fun v' w' => v' = .bool (largeB l) ∧ Below w.heap.size w w') := by
 have hcap := hl.cap
 refine Calls.walk (l := [.slice a l.length c]) Try.func5 rfl (by kernel_rfl) ?_
 refine WC.sub (K' := [(0, .slice a l.length c)]) ⟨rfl, trivial⟩ ?_
 refine WC.seq (WC.region (WL.asg rfl rfl rfl rfl rfl (WL.nil (WE.next (WC.seq ?_)))))
 refine WC.opt [(true, .val (.slice a l.length c)), (true, .val (.int .i64 (((l.length : Nat) : Int)))), (true, .val (.bool ((decide ((20 : Int) < (((l.length : Nat) : Int) : Int)))))), (true, .val (.bool ((decide ((20 : Int) < (((l.length : Nat) : Int) : Int)))))), ((true && !(decide ((20 : Int) < (((l.length : Nat) : Int) : Int)))), .val (.slice a l.length c)), ((true && !(decide ((20 : Int) < (((l.length : Nat) : Int) : Int)))), .val (.int .i64 (((clSize l : Nat) : Int)))), ((true && !(decide ((20 : Int) < (((l.length : Nat) : Int) : Int)))), .val (.bool ((decide ((200 : Int) < (((clSize l : Nat) : Int) : Int)))))), (true, .val (.bool (((decide ((20 : Int) < (((l.length : Nat) : Int) : Int))) || (decide ((200 : Int) < (((clSize l : Nat) : Int) : Int))))))), (true, .val (.bool (((decide ((20 : Int) < (((l.length : Nat) : Int) : Int))) || (decide ((200 : Int) < (((clSize l : Nat) : Int) : Int)))))))] [(0, .slice a l.length c)] ⟨rfl, trivial⟩ (by kernel_rfl) (by kernel_rfl) (by kernel_rfl) ?_ ?_
 ·refine ⟨⟨true, .none rfl, fun h w => optUndef h, fun zβ za zw zc => ?_⟩, ?_⟩
  ·exact wp_move rfl (zc.kn.ev rfl) ⟨_, rfl, Below.refl _ _, optDef zβ rfl⟩
  refine ⟨⟨true, .none rfl, fun h w => optUndef h, fun zβ za zw zc => ?_⟩, ?_⟩
  ·exact len_29 rfl ((evt za 3).trans (optVal (zc.dep 0 3 (by kernel_rfl)) rfl rfl)) ⟨_, rfl, Below.refl _ _, optDef zβ rfl⟩
  refine ⟨⟨true, .none rfl, fun h w => optUndef h, fun zβ za zw zc => ?_⟩, ?_⟩
  ·exact gtr_3 rfl ((evt za 4).trans (optVal (zc.dep 1 4 (by kernel_rfl)) rfl rfl)) (zc.kn.ev rfl) ⟨_, rfl, Below.refl _ _, optDef zβ rfl⟩
  refine ⟨⟨true, .none rfl, fun h w => optUndef h, fun zβ za zw zc => ?_⟩, ?_⟩
  ·exact wp_move rfl ((evt za 5).trans (optVal (zc.dep 2 5 (by kernel_rfl)) rfl rfl)) ⟨_, rfl, Below.refl _ _, optDef zβ rfl⟩
  refine ⟨⟨_, .no (c := (decide ((20 : Int) < (((l.length : Nat) : Int) : Int)))) (d := true) rfl (fun v w h => h), fun h w => optUndef h, fun zβ za zw zc => ?_⟩, ?_⟩
  ·exact wp_move rfl (zc.kn.ev rfl) ⟨_, rfl, Below.refl _ _, optDef zβ rfl⟩
  refine ⟨⟨_, .no (c := (decide ((20 : Int) < (((l.length : Nat) : Int) : Int)))) (d := true) rfl (fun v w h => h), fun h w => optUndef h, fun zβ za zw zc => ?_⟩, ?_⟩
  ·exact wp_call (by kernel_rfl) rfl (hv1 ((evt za 7).trans (optVal (zc.dep 4 7 (by kernel_rfl)) rfl zβ))) (rsizec_any l _ _ _ (hl.below zc.below) hlz) (fun v w' h => ⟨v, rfl, h.2, optDef zβ h.1⟩)
  refine ⟨⟨_, .no (c := (decide ((20 : Int) < (((l.length : Nat) : Int) : Int)))) (d := true) rfl (fun v w h => h), fun h w => optUndef h, fun zβ za zw zc => ?_⟩, ?_⟩
  ·exact gtr_3 rfl ((evt za 8).trans (optVal (zc.dep 5 8 (by kernel_rfl)) rfl zβ)) (zc.kn.ev rfl) ⟨_, rfl, Below.refl _ _, optDef zβ rfl⟩
  refine ⟨⟨true, .none rfl, fun h w => optUndef h, fun zβ za zw zc => ?_⟩, ?_⟩
  ·exact wp_or rfl ((evt za 6).trans (optVal (zc.dep 3 6 (by kernel_rfl)) rfl rfl)) (fun hp => ((evt za 9).trans (optVal (zc.dep 6 9 (by kernel_rfl)) rfl (bMkN zβ hp)))) ⟨_, rfl, Below.refl _ _, optDef zβ rfl⟩
  refine ⟨⟨true, .none rfl, fun h w => optUndef h, fun zβ za zw zc => ?_⟩, ?_⟩
  ·exact wp_assign rfl ((evt za 10).trans (optVal (zc.dep 7 10 (by kernel_rfl)) rfl rfl)) ⟨_, rfl, Below.refl _ _, optDef zβ rfl⟩
  exact trivial
 ·intro za w2 zh hb3 zu
  have zh := zh.cons (d := 2) (v := .bool (((decide ((20 : Int) < (((l.length : Nat) : Int) : Int))) || (decide ((200 : Int) < (((clSize l : Nat) : Int) : Int)))))) (optVal (zu 8 2 (by kernel_rfl)) rfl rfl)
  clear zu
  refine WE.go zh ?_
  refine WE.next (WC.ret (WE.ret1 rfl rfl ?_))
  exact ⟨_, rfl, congrArg Value.bool (by unfold largeB; first | rfl | simp), hb3⟩
set_option maxRecDepth 100000 in
theorem some_any (l : List (List Li)) (w : World) (la : Option Addr) (lc : Nat) (h : IsCs w l la) (hln : l.length ≤ 1048576) (hok : ClsOk l) :
  Calls Try.prog 13 #[.slice la l.length lc] w (Ret fun v' w' => (∃ ra rc L, v' = .slice ra (List.length L) rc ∧ IsCs w' L ra ∧ (∀ c ∈ L, c ∈ l) ∧ L.length ≤ 8) ∧ Below w.heap.size w w') := by
 have hmx : maxLen = 9223372036854775807 := by unfold maxLen; omega
 refine Calls.walk (l := [.slice la l.length lc]) Try.func13 rfl (by kernel_rfl) ?_
 refine WC.sub (K' := [(0, .slice la l.length lc)]) ⟨rfl, trivial⟩ ?_
 refine WC.seq (WC.region (WL.asg rfl rfl rfl rfl rfl (WL.nil (WE.next (WC.seq (WC.region (WL.asg rfl rfl rfl rfl rfl (WL.nil (WE.next (WC.seq (WC.seq (WC.region (WL.mv rfl rfl rfl rfl rfl ?_)))))))))))))
 refine WL.val (.int .i64 (((l.length : Nat) : Int))) rfl rfl rfl (fun za zC zh zk => len_45 rfl (zh.ev rfl) zk) ?_
 refine WL.mv rfl rfl rfl rfl rfl (WL.nil (WE.next (WC.block ?_)))
 refine WC.loop (X := Option Addr × Nat × List (List Li) × Nat) (fun x => l.length - x.2.2.2) (fun x => [(0, .slice la l.length lc), (2, .slice none 0 0), (3, .slice x.1 x.2.2.1.length x.2.1), (6, .int .i64 (((l.length : Nat) : Int))), (7, .int .i64 (((x.2.2.2 : Nat) : Int)))]) (fun x w1 => x.2.2.2 ≤ l.length ∧ (∀ c ∈ x.2.2.1, c ∈ l) ∧ x.2.2.1.length ≤ 8 ∧ (∀ b, (Value.slice x.1 x.2.2.1.length x.2.1).ownBlock = some b → w.heap.size ≤ b) ∧ Below w.heap.size w w1 ∧ RowE eltC (w1) 0 29 x.1 x.2.1 (List.length x.2.2.1) x.2.2.1) ((none, 0, [], 0)) ⟨rfl, rfl, rfl, rfl, rfl, trivial⟩ ?_ ?_
 ·exact ⟨Nat.zero_le _, (fun c hc => (nomatch hc)), by simp, (fun b e => by simp [Value.ownBlock] at e), (Below.refl _ _), RowE.nil⟩
 ·rintro x w1 ⟨hk, hmem, hL8, hos, hb2, ho3⟩
  refine WC.seq (WC.region ?_)
  refine WL.val (.bool ((decide ((((x.2.2.2 : Nat) : Int) : Int) < (((l.length : Nat) : Int) : Int))))) rfl rfl rfl (fun za zC zh zk => lss_3 rfl (zh.ev rfl) (zh.ev rfl) zk) ?_
  refine WL.nil (WE.next (WC.seq ?_))
  refine WC.cond rfl (fun h4 => ?_) (fun h4 => ?_)
  ·have h4 : (((x.2.2.2 : Nat) : Int) : Int) < (((l.length : Nat) : Int) : Int) := by simpa using h4
   refine WC.skip (WE.next (WC.seq (WC.block (WC.seq (WC.region (WL.mv rfl rfl rfl rfl rfl (WL.asg rfl rfl rfl rfl rfl (WL.nil (WE.next (WC.seq ?_))))))))))
   obtain ⟨b5, o6, A7, C8, ha9, hc10⟩ := InRow.openC h
   refine WC.opt [(true, .val (.slice la l.length lc)), (true, .val (.int .i64 (((x.2.2.2 : Nat) : Int)))), (true, .val (.pointer (some ⟨b5, o6 + x.2.2.2, none⟩))), (true, .val (.slice ((A7 x.2.2.2)) ((cg l x.2.2.2).length) ((C8 x.2.2.2)))), (true, .val (.bool ((largeB (cg l x.2.2.2))))), (true, .val (.bool ((!(largeB (cg l x.2.2.2)))))), (true, .val (.bool ((!(largeB (cg l x.2.2.2)))))), ((true && (!(largeB (cg l x.2.2.2)))), .val (.slice x.1 x.2.2.1.length x.2.1)), ((true && (!(largeB (cg l x.2.2.2)))), .val (.int .i64 (((x.2.2.1.length : Nat) : Int)))), ((true && (!(largeB (cg l x.2.2.2)))), .val (.bool ((decide ((((x.2.2.1.length : Nat) : Int) : Int) < (8 : Int)))))), (true, .val (.bool (((!(largeB (cg l x.2.2.2))) && (decide ((((x.2.2.1.length : Nat) : Int) : Int) < (8 : Int)))))))] [(0, .slice la l.length lc), (2, .slice none 0 0), (3, .slice x.1 x.2.2.1.length x.2.1), (4, .int .i64 (((x.2.2.2 : Nat) : Int))), (6, .int .i64 (((l.length : Nat) : Int))), (7, .int .i64 (((x.2.2.2 : Nat) : Int))), (8, .bool ((decide ((((x.2.2.2 : Nat) : Int) : Int) < (((l.length : Nat) : Int) : Int)))))] ⟨rfl, rfl, rfl, rfl, rfl, rfl, rfl, trivial⟩ (by kernel_rfl) (by kernel_rfl) (by kernel_rfl) ?_ ?_
   ·refine ⟨⟨true, .none rfl, fun h w => optUndef h, fun zβ za zw zc => ?_⟩, ?_⟩
    ·exact wp_move rfl (zc.kn.ev rfl) ⟨_, rfl, Below.refl _ _, optDef zβ rfl⟩
    refine ⟨⟨true, .none rfl, fun h w => optUndef h, fun zβ za zw zc => ?_⟩, ?_⟩
    ·exact wp_move rfl (zc.kn.ev rfl) ⟨_, rfl, Below.refl _ _, optDef zβ rfl⟩
    refine ⟨⟨true, .none rfl, fun h w => optUndef h, fun zβ za zw zc => ?_⟩, ?_⟩
    ·exact ix_45 (k := x.2.2.2) rfl ((evt za 10).trans (optVal (zc.dep 0 10 (by kernel_rfl)) rfl rfl)) (ha9 x.2.2.2 (by first | omega | (simp; omega))) ((evt za 11).trans (optVal (zc.dep 1 11 (by kernel_rfl)) rfl rfl)) (by first | omega | (simp; omega)) ⟨_, rfl, Below.refl _ _, optDef zβ rfl⟩
    refine ⟨⟨true, .none rfl, fun h w => optUndef h, fun zβ za zw zc => ?_⟩, ?_⟩
    ·exact ld_29 rfl ((evt za 12).trans (optVal (zc.dep 2 12 (by kernel_rfl)) rfl rfl)) (bkeeps (bstep hb2 zc.below) _ _ (hc10 x.2.2.2 (by first | omega | (simp; omega))).1) ⟨_, rfl, Below.refl _ _, optDef zβ rfl⟩
    refine ⟨⟨true, .none rfl, fun h w => optUndef h, fun zβ za zw zc => ?_⟩, ?_⟩
    ·exact wp_call (by kernel_rfl) rfl (hv1 ((evt za 13).trans (optVal (zc.dep 3 13 (by kernel_rfl)) rfl rfl))) (large_any (cg l x.2.2.2) _ _ _ (IsCl.below ⟨(hc10 x.2.2.2 (by omega)).2.1, (hc10 x.2.2.2 (by omega)).2.2.1, (hc10 x.2.2.2 (by omega)).2.2.2, by have z := (hok _ (cg_mem (show x.2.2.2 < l.length by omega))).1; omega, fun y hy => ((hok _ (cg_mem (show x.2.2.2 < l.length by omega))).2 y hy).1, fun y hy => ((hok _ (cg_mem (show x.2.2.2 < l.length by omega))).2 y hy).2⟩ (bstep hb2 zc.below)) (hok _ (cg_mem (by omega))).1) (fun v w' h => ⟨v, rfl, h.2, optDef zβ h.1⟩)
    refine ⟨⟨true, .none rfl, fun h w => optUndef h, fun zβ za zw zc => ?_⟩, ?_⟩
    ·exact wp_not rfl ((evt za 14).trans (optVal (zc.dep 4 14 (by kernel_rfl)) rfl rfl)) ⟨_, rfl, Below.refl _ _, optDef zβ rfl⟩
    refine ⟨⟨true, .none rfl, fun h w => optUndef h, fun zβ za zw zc => ?_⟩, ?_⟩
    ·exact wp_move rfl ((evt za 15).trans (optVal (zc.dep 5 15 (by kernel_rfl)) rfl rfl)) ⟨_, rfl, Below.refl _ _, optDef zβ rfl⟩
    refine ⟨⟨_, .yes (c := (!(largeB (cg l x.2.2.2)))) (d := true) rfl (fun v w h => h), fun h w => optUndef h, fun zβ za zw zc => ?_⟩, ?_⟩
    ·exact wp_move rfl (zc.kn.ev rfl) ⟨_, rfl, Below.refl _ _, optDef zβ rfl⟩
    refine ⟨⟨_, .yes (c := (!(largeB (cg l x.2.2.2)))) (d := true) rfl (fun v w h => h), fun h w => optUndef h, fun zβ za zw zc => ?_⟩, ?_⟩
    ·exact len_45 rfl ((evt za 17).trans (optVal (zc.dep 7 17 (by kernel_rfl)) rfl zβ)) ⟨_, rfl, Below.refl _ _, optDef zβ rfl⟩
    refine ⟨⟨_, .yes (c := (!(largeB (cg l x.2.2.2)))) (d := true) rfl (fun v w h => h), fun h w => optUndef h, fun zβ za zw zc => ?_⟩, ?_⟩
    ·exact lss_3 rfl ((evt za 18).trans (optVal (zc.dep 8 18 (by kernel_rfl)) rfl zβ)) (zc.kn.ev rfl) ⟨_, rfl, Below.refl _ _, optDef zβ rfl⟩
    refine ⟨⟨true, .none rfl, fun h w => optUndef h, fun zβ za zw zc => ?_⟩, ?_⟩
    ·exact wp_and rfl ((evt za 16).trans (optVal (zc.dep 6 16 (by kernel_rfl)) rfl rfl)) (fun hp => ((evt za 19).trans (optVal (zc.dep 9 19 (by kernel_rfl)) rfl (bMk zβ hp)))) ⟨_, rfl, Below.refl _ _, optDef zβ rfl⟩
    exact trivial
   ·intro za w12 zh hb13 zu
    have zh := zh.cons (d := 20) (v := .bool (((!(largeB (cg l x.2.2.2))) && (decide ((((x.2.2.1.length : Nat) : Int) : Int) < (8 : Int)))))) (optVal (zu 10 20 (by kernel_rfl)) rfl rfl)
    clear zu
    refine WE.go zh ?_
    refine WE.next ?_
    refine WC.cond rfl (fun h14 => ?_) (fun h14 => ?_)
    ·have h14 : (¬ ((largeB (cg l x.2.2.2)) = true)) ∧ ((((x.2.2.1.length : Nat) : Int) : Int) < (8 : Int)) := by simpa using h14
     refine WC.region (WL.mv rfl rfl rfl rfl rfl (WL.mv rfl rfl rfl rfl rfl (WL.mv rfl rfl rfl rfl rfl ?_)))
     refine WL.val _ rfl rfl rfl (fun za zC zh zk => ix_45 (k := x.2.2.2) rfl (zh.ev rfl) (ha9 x.2.2.2 (by first | omega | (simp; omega))) (zh.ev rfl) (by first | omega | (simp; omega)) zk) ?_
     have hb15 : Below w.heap.size w w12 := (bstep hb2 hb13)
     refine WL.val _ rfl rfl rfl (fun za zC zh zk => ld_29 rfl (zh.ev rfl) (bkeeps hb15 _ _ (hc10 x.2.2.2 (by first | omega | (simp; omega))).1) zk) ?_
     refine WL.step (post := NewRow w12 29 #[.slice ((A7 x.2.2.2)) ((cg l x.2.2.2).length) ((C8 x.2.2.2))] 1) rfl rfl rfl (fun za zC zh zk => row_45_1 rfl (zh.ev rfl) (zk _ _ (newRow _ _ _ _))) ?_
     rintro _ w16 ⟨g17, rfl, hg18, hB19, hb20, hz21⟩
     have hl22 : w.heap.size ≤ g17 := by have z2 := (hb15).size; omega
     have hl23 : w1.heap.size ≤ g17 := by have z2 := (hb13).size; omega
     have hb25 : Below w1.heap.size w1 w16 := (bstep hb13 hb20)
     have ho24 := ho3.below hb25
     have hb26 : Below w.heap.size w w16 := (bstep hb2 hb25)
     have hkl : x.2.2.2 < l.length := by (try dsimp only at *); omega
     have hl7 : x.2.2.1.length < 8 := by have z := h14; simp at z; omega
     have hll9 : ((x.2.2.1 ++ [cg l x.2.2.2])).length = x.2.2.1.length + 1 := by rw [List.length_append]; rfl
     refine WL.step (post := fun v w' => ∃ ra rc, v = .slice ra (List.length (x.2.2.1 ++ [cg l x.2.2.2])) rc ∧ RowE eltC w' 0 29 ra rc (List.length (x.2.2.1 ++ [cg l x.2.2.2])) (x.2.2.1 ++ [cg l x.2.2.2]) ∧ Chg (fun b => (Value.slice x.1 x.2.2.1.length x.2.1).ownBlock = some b) w16 w' ∧ ∀ b, (Value.slice ra (List.length (x.2.2.1 ++ [cg l x.2.2.2])) rc).ownBlock = some b → (Value.slice x.1 x.2.2.1.length x.2.1).ownBlock = some b ∨ b = w16.heap.size) rfl rfl rfl (fun za zC zh zk => wp_appE2 (E := eltC) (B := 0) (size := 1) (bytes := 24) (z := .slice none 0 0) rfl Try.underlying45 (by kernel_rfl) rfl (by decide) rfl (zh.ev rfl) (zh.ev rfl) ho24 (show Blk _ _ _ (List.toArray [.slice ((A7 x.2.2.2)) ((cg l x.2.2.2).length) ((C8 x.2.2.2))]) from hB19) (y := cg l x.2.2.2) ⟨_, _, rfl, (hc10 _ hkl).2.2.1, (hc10 _ hkl).2.2.2, (InRow.mono (S := fun _ => True) (S' := fun b => b < w.heap.size) (by decide) (fun b _ hb => hb) (hc10 _ hkl).2.1).below hb26 |>.mono (by decide) (fun b hb _ => ⟨Nat.zero_le _, fun e => by have z := hos b e; omega⟩)⟩ (by omega) (by omega) (Nat.zero_le _) (fun ra rc w' h1 h2 _ h4 => zk _ _ ⟨ra, rc, by rw [hll9], by rw [hll9]; exact h1, h2, by rw [hll9]; exact h4⟩)) ?_
     rintro _ w32 ⟨ra27, rc28, rfl, hR29, hc30, ho31⟩
     have hos33 : ∀ b, (Value.slice ra27 (List.length (x.2.2.1 ++ [cg l x.2.2.2])) rc28).ownBlock = some b → w.heap.size ≤ b := fun b e => by
      rcases ho31 b e with e | e
      ·exact hos b e
      ·have z := (hb26).size; omega
     have hl8 : (List.length (x.2.2.1 ++ [cg l x.2.2.2])) ≤ 8 := by rw [hll9]; omega
     have hm8 : ∀ c ∈ (x.2.2.1 ++ [cg l x.2.2.2]), c ∈ l := fun c hc => (List.mem_append.1 hc).elim (hmem c) (fun e => by rw [List.mem_singleton.1 e]; exact cg_mem hkl)
     have hb34 := chg_below hb26 hc30 (fun b hb => (fun h => by have h3 := hos _ h; (try dsimp only at *); omega))
     refine WL.asg rfl rfl rfl rfl rfl (WL.nil (WE.blockNormal (WE.next (WC.region ?_))))
     refine WL.val (.int .i64 ((((x.2.2.2 + 1) : Nat) : Int))) rfl rfl rfl (fun za zC zh zk => addb_3 rfl (zh.ev rfl) (zh.ev rfl) (wrap_eq (by omega) (by omega) (by omega)) zk) ?_
     refine WL.mv rfl rfl rfl rfl rfl (WL.nil ?_)
     refine WE.round ((ra27, rc28, (x.2.2.1 ++ [cg l x.2.2.2]), x.2.2.2 + 1)) ⟨rfl, rfl, rfl, rfl, rfl, trivial⟩ ?_ ?_
     ·exact ⟨by (try dsimp only at *); omega, hm8, hl8, hos33, hb34, hR29⟩
     ·(try dsimp only at *); omega
    ·have h14 : ¬ ((¬ ((largeB (cg l x.2.2.2)) = true)) ∧ ((((x.2.2.1.length : Nat) : Int) : Int) < (8 : Int))) := by simpa using h14
     refine WC.skip (WE.blockNormal (WE.next (WC.region ?_)))
     refine WL.val (.int .i64 ((((x.2.2.2 + 1) : Nat) : Int))) rfl rfl rfl (fun za zC zh zk => addb_3 rfl (zh.ev rfl) (zh.ev rfl) (wrap_eq (by omega) (by omega) (by omega)) zk) ?_
     refine WL.mv rfl rfl rfl rfl rfl (WL.nil ?_)
     refine WE.round ((x.1, x.2.1, x.2.2.1, x.2.2.2 + 1)) ⟨rfl, rfl, rfl, rfl, rfl, trivial⟩ ?_ ?_
     ·have hb35 : Below w.heap.size w w12 := (bstep hb2 hb13)
      have ho36 := ho3.below hb13
      exact ⟨by (try dsimp only at *); omega, hmem, hL8, hos, hb35, ho36⟩
     ·(try dsimp only at *); omega
  ·have h4 : ¬ ((((x.2.2.2 : Nat) : Int) : Int) < (((l.length : Nat) : Int) : Int)) := by simpa using h4
   refine WC.exit (WE.thenExit (WE.thenExit (WE.blockIs rfl (WE.next (WC.seq (WC.region (WL.mv rfl rfl rfl rfl rfl (WL.asg rfl rfl rfl rfl rfl (WL.nil (WE.next (WC.ret (WE.ret1 rfl rfl ?_))))))))))))
   exact ⟨_, rfl, ⟨x.1, x.2.1, x.2.2.1, rfl, (ho3).inRow.1.mono (by decide) (fun _ _ _ => trivial), hmem, hL8⟩, hb2⟩
end Go.Proofs.Ytnmopmdpnpcdhaa

/- Terms, literals, clauses that are built in a region: what is known of each. -/
namespace Go.Proofs.Ytnmopmdpnpcdhaa
open Go.RowKit Go
set_option linter.unusedVariables false
set_option linter.unusedSimpArgs false
/-- The value is a row of terms. -/
def RowT (l : List T) (v : Value) (w : World) : Prop := ∃ (a : Option Addr) (c : Nat), v = .slice a l.length c ∧ l.length ≤ c ∧ c ≤ maxLen ∧ IsTs w l a 0
theorem RowT.below {l : List T} {v : Value} {w w' : World} (hb : Below w.heap.size w w') (h : RowT l v w) : RowT l v w' := by
  obtain ⟨a, c, e, h1, h2, h3⟩ := h
  exact ⟨a, c, e, h1, h2, h3.below hb⟩
theorem RowT.nil {w : World} : RowT [] (.slice none 0 0) w := ⟨none, 0, rfl, Nat.le_refl _, Nat.zero_le _, trivial⟩
/-- The value is a clause. -/
def RowC (l : List Li) (v : Value) (w : World) : Prop := ∃ (a : Option Addr) (c : Nat), v = .slice a l.length c ∧ IsCl w l a c
theorem RowC.below {l : List Li} {v : Value} {w w' : World} (hb : Below w.heap.size w w') (h : RowC l v w) : RowC l v w' := by
  obtain ⟨a, c, e, h1⟩ := h
  exact ⟨a, c, e, h1.below hb⟩
theorem isT_mk {w : World} {f : Int} {l : List T} {a : Option Addr} {n c : Nat} (hf : I64 f) (h : RowT l (.slice a n c) w) : IsT w (.mk f l) (.agg #[.int .i64 f, .slice a n c]) := by
  obtain ⟨a', c', e, h1, h2, h3⟩ := h
  simp only [Value.slice.injEq] at e
  obtain ⟨rfl, rfl, rfl⟩ := e
  exact ⟨hf, _, _, rfl, h1, h2, h3⟩
theorem isT_lf {w : World} {f : Int} (hf : -9223372036854775808 ≤ f ∧ f ≤ 9223372036854775807) : IsT w (.mk f []) (.agg #[.int .i64 f, .slice none 0 0]) := isT_mk hf RowT.nil
theorem isLi_of {w : World} {x : Li} {u1 u2 u3 u4 : Value} (h1 : IsT w x.l (.agg #[u1, u2])) (h2 : IsT w x.r (.agg #[u3, u4])) : IsLi w x (.agg #[.bool x.neg, u1, u2, u3, u4]) := ⟨_, _, _, _, rfl, h1, h2⟩
end Go.Proofs.Ytnmopmdpnpcdhaa

/- Regions in whatever order: a call that makes something, calls that read it, a new box into which one value is stored. -/
namespace Go.Proofs.Ytnmopmdpnpcdhaa
open Go.RowKit Go
set_option linter.unusedVariables false
def ycells : Value → Array Value
  | .agg cs => cs
  | v => #[v]
section
variable {w0 w w' : World} {t g : Nat} {z : Array Value} {y : Value} {x va vp : Option Value} {P1 : World → Value → Prop}
/-- What was made; a box: new, behind 'w0'; empty, or the value lies in it. What was made stands, as long as nothing is stored. -/
structure B1S (w0 : World) (P1 : World → Value → Prop) (t : Nat) (z : Array Value) (y : Value) (x va vp : Option Value) (w : World) : Prop where
  below : Below w0.heap.size w0 w
  md : vp = none → ∀ v, x = some v → P1 w v
  box : ∀ v, va = some v → ∃ g, v = .pointer (some ⟨g, 0, none⟩) ∧ w0.heap.size ≤ g ∧ Blk w g t (if vp = none then z else ycells y)
  pa : va = none → vp = none
def B1G (w0 : World) (P1 : World → Value → Prop) (t : Nat) (z : Array Value) (y : Value) : List (Option Value) → World → Prop
  | [x, va, vp], w => B1S w0 P1 t z y x va vp w
  | _, _ => False
theorem B1S.step (k1 : ∀ w w' v, Below w.heap.size w w' → P1 w v → P1 w' v) (h : B1S w0 P1 t z y x va vp w) (hb : Below w.heap.size w w') : B1S w0 P1 t z y x va vp w' :=
  ⟨bstep h.below hb, fun e v hv => k1 _ _ _ hb (h.md e v hv), fun v hv => by
    obtain ⟨g, e, h1, h2⟩ := h.box v hv
    exact ⟨g, e, h1, h2.below hb⟩, h.pa⟩
theorem B1S.call (k1 : ∀ w w' v, Below w.heap.size w w' → P1 w v → P1 w' v) {v : Value} (h : B1S w0 P1 t z y none va vp w) (hb : Below w.heap.size w w') (hv : P1 w' v) : B1S w0 P1 t z y (some v) va vp w' :=
  ⟨bstep h.below hb, fun _ u hu => by obtain rfl := Option.some.inj hu; exact hv, (h.step k1 hb).box, h.pa⟩
theorem B1S.alloc (k1 : ∀ w w' v, Below w.heap.size w w' → P1 w v → P1 w' v) (h : B1S w0 P1 t z y x none vp w) : B1S w0 P1 t z y x (some (.pointer (some ⟨w.heap.size, 0, none⟩))) vp (w.alloc (.cells z t)) := by
  have hp := h.pa rfl
  subst hp
  have hst := h.step k1 (balloc w (.cells z t))
  exact ⟨hst.below, hst.md, fun v hv => ⟨_, (Option.some.inj hv).symm, h.below.size, Blk.new' rfl⟩, fun e => by cases e⟩
theorem B1S.store {q : Value} (h : B1S w0 P1 t z y x (some (.pointer (some ⟨g, 0, none⟩))) none w) (hu : Upd g w w') (hB : Blk w' g t (ycells y)) : B1S w0 P1 t z y x (some (.pointer (some ⟨g, 0, none⟩))) (some q) w' := by
  obtain ⟨g', e, h1, h2⟩ := h.box _ rfl
  simp only [Value.pointer.injEq, Option.some.injEq, Addr.mk.injEq, and_true] at e
  subst e
  exact ⟨upd_below h.below hu h1, fun e => (by cases e), fun v hv => ⟨g, (Option.some.inj hv).symm, h1, by rw [if_neg (by simp)]; exact hB⟩, fun e => (by cases e)⟩
end
section
variable {P : Program} {ops : Array Oper} {P1 : World → Value → Prop}
def valR1 (l : List (Bool × Value)) (i : Nat) (v : Value) : Prop := (l.getD i (true, undef)).1 = true → v = (l.getD i (true, undef)).2
theorem valVal1 {l : List (Bool × Value)} {i : Nat} {v x : Value} {β : Bool} (h : valR1 l i v) (e : l.getD i (true, undef) = (β, x)) (hβ : β = true) : v = x := by
  have := h (by rw [e]; exact hβ)
  rw [e] at this; exact this
structure CtxB1 (ops : Array Oper) (l : List (Bool × Value)) (P1 : World → Value → Prop) (ic ip : Nat) (chain : List Nat) (n : Fr) (K : Known) (w0 : World) (i : Nat) (o : Oper) (a : Act) (w : World) : Prop where
  below : Below w0.heap.size w0 w
  kn : Kn n K a
  dep : ∀ j d, depB ops o j d = true → chain.contains j = false → valR1 l j (a.tmps.getD d undef)
  made : ∀ d, depB ops o ic d = true → (ancL ops ip).contains i = true → P1 w (a.tmps.getD d undef)
/-- Each operation: one that yields what is listed (it may make memory); the call; the new box; the store. -/
def SoundB1 (P : Program) (ops : Array Oper) (Q : Exit → Act → World → Prop) (l : List (Bool × Value)) (n : Fr) (K : Known) (w0 : World) (P1 : World → Value → Prop) (t : Nat) (z : Array Value) (y : Value) (ic ia ip : Nat) : Nat → List Oper → Prop
  | _, [] => True
  | i, o :: r => (([ic, ia, ip].contains i = false ∧ o.guard = none ∧
        (∀ a w, CtxB1 ops l P1 ic ip [ic, ia, ip] n K w0 i o a w → o.wp P a w (fun a' w' => ∃ v, a' = Act.put a o.dst v ∧ Below w.heap.size w w' ∧ valR1 l i v) Q)) ∨
      (i = ic ∧ o.guard = none ∧ ∀ a w, CtxB1 ops l P1 ic ip [ic, ia, ip] n K w0 i o a w → o.wp P a w (fun a' w' => ∃ v, a' = Act.put a o.dst v ∧ Below w.heap.size w w' ∧ P1 w' v) Q) ∨
      (i = ia ∧ o.guard = none ∧ ∀ a w, CtxB1 ops l P1 ic ip [ic, ia, ip] n K w0 i o a w → o.wp P a w (fun a' w' => a' = Act.put a o.dst (.pointer (some ⟨w.heap.size, 0, none⟩)) ∧ w' = w.alloc (.cells z t)) Q) ∨
      (i = ip ∧ o.guard = none ∧ ∃ dp, depB ops o ia dp = true ∧ ∀ a w g, CtxB1 ops l P1 ic ip [ic, ia, ip] n K w0 i o a w → a.tmps.getD dp undef = .pointer (some ⟨g, 0, none⟩) → Blk w g t z → o.wp P a w (fun a' w' => ∃ v, a' = Act.put a o.dst v ∧ Upd g w w' ∧ Blk w' g t (ycells y)) Q)) ∧ SoundB1 P ops Q l n K w0 P1 t z y ic ia ip (i + 1) r
theorem SoundB1.gen (k1 : ∀ w w' v, Below w.heap.size w w' → P1 w v → P1 w' v) {Q : Exit → Act → World → Prop} {l : List (Bool × Value)} {n : Fr} {K : Known} {w0 : World} {t : Nat} {z : Array Value} {y : Value} {ic ia ip : Nat} : ∀ {lo : List Oper} {i : Nat}, SoundB1 P ops Q l n K w0 P1 t z y ic ia ip i lo →
    SoundFromG P ops Q [ic, ia, ip] (fun i v _ => valR1 l i v) (fun _ _ => True) (B1G w0 P1 t z y) n K i lo
  | [], _, _ => trivial
  | o :: r, i, ⟨h, hr⟩ => by
    refine ⟨?_, hr.gen k1⟩
    have mk : ∀ {a : Act} {w : World} {vs : List (Option Value)} (_ : CtxG ops [ic, ia, ip] (fun i v _ => valR1 l i v) (B1G w0 P1 t z y) n K i o a w vs), CtxB1 ops l P1 ic ip [ic, ia, ip] n K w0 i o a w := by
      intro a w vs C
      refine ⟨?_, C.kn, C.dep, fun d hd ha => ?_⟩
      · match vs, C.len, C.now with
        | [x, va, vp], _, hG => exact B1S.below hG
      · have e0 := C.link 0 ic d rfl hd
        have e1 := C.mostT 2 ip rfl ha
        match vs, C.len, e0, e1, C.now with
        | [x, va, vp], _, e0, e1, hG =>
          simp only [List.getElem?_cons_zero, List.getElem?_cons_succ, Option.some.injEq] at e0 e1
          subst e0 e1
          exact B1S.md hG rfl _ rfl
    rcases h with ⟨h1, h2, h3⟩ | ⟨rfl, h1, h2⟩ | ⟨rfl, h1, h2⟩ | ⟨rfl, h1, dp, h2, h3⟩
    · refine .inl ⟨h1, true, .none h2, fun g b hb => by (rw [h2] at hb; cases hb), fun e => (by cases e), fun _ a w vs C => ?_⟩
      refine Oper.wpIn_mono ?_ (wpIn_of (h3 a w (mk C)) (by rintro a' w' ⟨v, rfl, _⟩; exact put_defers _ _ _))
      rintro a' w' ⟨v, rfl, hb, hv⟩
      refine ⟨v, rfl, trivial, ?_, hv⟩
      match vs, C.len, C.now with
      | [x, va, vp], _, hG => exact B1S.step k1 hG hb
    · refine .inr ⟨0, rfl, h1, fun a w vs C hn => ?_⟩
      refine Oper.wpIn_mono ?_ (wpIn_of (h2 a w (mk C)) (by rintro a' w' ⟨v, rfl, _⟩; exact put_defers _ _ _))
      rintro a' w' ⟨v, rfl, hb, hv⟩
      match vs, C.len, hn, C.now with
      | [x, va, vp], _, hn, hG =>
        simp only [List.getElem?_cons_zero, Option.some.injEq] at hn
        subst hn
        exact ⟨_, rfl, trivial, B1S.call k1 hG hb hv⟩
    · refine .inr ⟨1, rfl, h1, fun a w vs C hn => ?_⟩
      refine Oper.wpIn_mono ?_ (wpIn_of (h2 a w (mk C)) (by rintro a' w' ⟨rfl, _⟩; exact put_defers _ _ _))
      rintro a' w' ⟨rfl, rfl⟩
      match vs, C.len, hn, C.now with
      | [x, va, vp], _, hn, hG =>
        simp only [List.getElem?_cons_zero, List.getElem?_cons_succ, Option.some.injEq] at hn
        subst hn
        exact ⟨_, rfl, trivial, B1S.alloc k1 hG⟩
    · refine .inr ⟨2, rfl, h1, fun a w vs C hn => ?_⟩
      have e0 := C.link 1 ia dp rfl h2
      match vs, C.len, hn, e0, C.now, C with
      | [x, va, vp], _, hn, e0, hG, C =>
        simp only [List.getElem?_cons_zero, List.getElem?_cons_succ, Option.some.injEq] at hn e0
        subst hn e0
        have hG' : B1S w0 P1 t z y x (some (a.tmps.getD dp undef)) none w := hG
        obtain ⟨g, h5, h6, h7⟩ := hG'.box _ rfl
        rw [if_pos rfl] at h7
        refine Oper.wpIn_mono ?_ (wpIn_of (h3 a w g (mk C) h5 h7) (by rintro a' w' ⟨v, rfl, _⟩; exact put_defers _ _ _))
        rintro a' w' ⟨v, rfl, h8, h9⟩
        refine ⟨v, rfl, trivial, ?_⟩
        show B1S w0 P1 t z y x (some (a.tmps.getD dp undef)) (some v) w'
        rw [h5] at hG' ⊢
        exact B1S.store hG' h8 h9
end
end Go.Proofs.Ytnmopmdpnpcdhaa

namespace Go.Proofs.Ytnmopmdpnpcdhaa
open Go.RowKit Go
set_option linter.unusedVariables false
section
variable {w0 w w' : World} {m t iy : Nat} {z : Array Value} {Pf : Nat → (Nat → Prop) → World → Value → Prop} {Pp : Nat → Value → Prop} {vs : List (Option Value)}
/-- Where what was made lies: behind 'w0', and not in the box. -/
def SfP (w0 : World) (m : Nat) (vs : List (Option Value)) : Nat → Prop := fun b => w0.heap.size ≤ b ∧ ∀ g, vs[m]? = some (some (.pointer (some ⟨g, 0, none⟩))) → b ≠ g
structure BPS (w0 : World) (m : Nat) (Pf : Nat → (Nat → Prop) → World → Value → Prop) (Pp : Nat → Value → Prop) (t : Nat) (z : Array Value) (iy : Nat) (vs : List (Option Value)) (w : World) : Prop where
 below : Below w0.heap.size w0 w
 md : vs[m + 1]? = some none → ∀ q v, q < m → vs[q]? = some (some v) → Pf q (SfP w0 m vs) w v
 box : ∀ v, vs[m]? = some (some v) → ∃ g, v = .pointer (some ⟨g, 0, none⟩) ∧ w0.heap.size ≤ g ∧ g < w.heap.size ∧ (vs[m + 1]? = some none → Blk w g t z) ∧ (∀ u, vs[m + 1]? = some (some u) → ∃ vy, vs[iy]? = some (some vy) ∧ Blk w g t (ycells vy) ∧ Pf iy (SfP w0 m vs) w vy)
 pa : vs[m]? = some none → vs[m + 1]? = some none
 pur : ∀ q v, q < m → vs[q]? = some (some v) → Pp q v
variable (k1 : ∀ q S w w' v, (∀ (p : Addr) (x : Value), S p.block → w.cell? p = some x → w'.cell? p = some x) → Pf q S w v → Pf q S w' v)
 (k2 : ∀ q (S S' : Nat → Prop) w v, (∀ b, S b → b < w.heap.size → S' b) → Pf q S w v → Pf q S' w v) (k3 : ∀ q S w v, Pf q S w v → Pp q v)
include k1 in
theorem BPS.step (h : BPS w0 m Pf Pp t z iy vs w) (hb : Below w.heap.size w w') : BPS w0 m Pf Pp t z iy vs w' :=
 ⟨bstep h.below hb, fun e q v hq hv => k1 _ _ _ _ _ (fun p x _ hx => bkeeps hb p x hx) (h.md e q v hq hv), fun v hv => by
  obtain ⟨g, e, h1, h2, h3, h4⟩ := h.box v hv
  refine ⟨g, e, h1, Nat.lt_of_lt_of_le h2 hb.size, fun e => (h3 e).below hb, fun u hu => ?_⟩
  obtain ⟨vy, h5, h6, h7⟩ := h4 u hu
  exact ⟨vy, h5, h6.below hb, k1 _ _ _ _ _ (fun p x _ hx => bkeeps hb p x hx) h7⟩, h.pa, h.pur⟩
include k1 k2 k3 in
theorem BPS.make (h : BPS w0 m Pf Pp t z iy vs w) (hl : vs.length = m + 2) {q : Nat} (hq : q < m) (hn : vs[m + 1]? = some none) {v : Value} (hb : Below w.heap.size w w') (hP : Pf q (fun b => SfP w0 m vs b ∨ w.heap.size ≤ b) w' v) : BPS w0 m Pf Pp t z iy (vs.set q (some v)) w' := by
 have e1 : (vs.set q (some v))[m]? = vs[m]? := by rw [List.getElem?_set_ne (by omega)]
 have e2 : (vs.set q (some v))[m + 1]? = vs[m + 1]? := by rw [List.getElem?_set_ne (by omega)]
 have eS : SfP w0 m (vs.set q (some v)) = SfP w0 m vs := by unfold SfP; rw [e1]
 have hs := h.step k1 hb
 have hP' : Pf q (SfP w0 m vs) w' v := k2 _ _ _ _ _ (fun b hb2 _ => by
  rcases hb2 with hb2 | hb2
  ·exact hb2
  ·refine ⟨Nat.le_trans h.below.size hb2, fun g hg e => ?_⟩
   obtain ⟨g', e', _, h4, _⟩ := h.box _ hg
   simp only [Value.pointer.injEq, Option.some.injEq, Addr.mk.injEq, and_true] at e'
   omega) hP
 refine ⟨hs.below, fun e q' v' hq' hv' => ?_, fun v' hv' => ?_, fun e => by rw [e2]; exact h.pa (e1 ▸ e), fun q' v' hq' hv' => by
  by_cases hqq : q' = q
  ·subst hqq
   rw [List.getElem?_set_self (by omega)] at hv'
   simp only [Option.some.injEq] at hv'
   subst hv'; exact k3 _ _ _ _ hP
  ·rw [List.getElem?_set_ne (Ne.symm hqq)] at hv'
   exact h.pur q' v' hq' hv'⟩
 ·rw [eS]
  by_cases hqq : q' = q
  ·subst hqq
   rw [List.getElem?_set_self (by omega)] at hv'
   simp only [Option.some.injEq] at hv'
   subst hv'; exact hP'
  ·rw [List.getElem?_set_ne (Ne.symm hqq)] at hv'
   exact hs.md hn q' v' hq' hv'
 ·rw [e1] at hv'
  obtain ⟨g, e, h1, h2, h3, h4⟩ := hs.box v' hv'
  exact ⟨g, e, h1, h2, fun _ => h3 hn, fun u hu => by rw [e2, hn] at hu; cases hu⟩
include k1 k2 in
theorem BPS.alloc (h : BPS w0 m Pf Pp t z iy vs w) (hl : vs.length = m + 2) (hn : vs[m]? = some none) : BPS w0 m Pf Pp t z iy (vs.set m (some (.pointer (some ⟨w.heap.size, 0, none⟩)))) (w.alloc (.cells z t)) := by
 have e2 : (vs.set m (some (.pointer (some ⟨w.heap.size, 0, none⟩))))[m + 1]? = vs[m + 1]? := by rw [List.getElem?_set_ne (by omega)]
 have hp := h.pa hn
 have hs := h.step k1 (balloc w (.cells z t))
 refine ⟨hs.below, fun e q v hq hv => ?_, fun v hv => ?_, fun e => ?_, fun q v hq hv => by rw [List.getElem?_set_ne (by omega)] at hv; exact h.pur q v hq hv⟩
 ·rw [List.getElem?_set_ne (by omega)] at hv
  refine k1 _ _ w _ _ (fun p x _ hx => bkeeps (balloc w _) p x hx) (k2 _ (SfP w0 m vs) _ _ _ (fun b hb hlt => ⟨hb.1, fun g hg => ?_⟩) (h.md hp q v hq hv))
  rw [List.getElem?_set_self (by omega)] at hg
  simp only [Option.some.injEq, Value.pointer.injEq, Addr.mk.injEq, and_true] at hg
  omega
 ·rw [List.getElem?_set_self (by omega)] at hv
  refine ⟨w.heap.size, (Option.some.inj (Option.some.inj hv)).symm, h.below.size, by simp, fun _ => Blk.new' rfl, fun u hu => by rw [e2, hp] at hu; cases hu⟩
 ·rw [List.getElem?_set_self (by omega)] at e; cases e
include k1 in
theorem BPS.store (h : BPS w0 m Pf Pp t z iy vs w) (hl : vs.length = m + 2) (hiy : iy < m) {g : Nat} {vy u : Value} (hg : vs[m]? = some (some (.pointer (some ⟨g, 0, none⟩)))) (hy : vs[iy]? = some (some vy)) (hn : vs[m + 1]? = some none) (hu : Upd g w w') (hB : Blk w' g t (ycells vy)) : BPS w0 m Pf Pp t z iy (vs.set (m + 1) (some u)) w' := by
 have e1 : (vs.set (m + 1) (some u))[m]? = vs[m]? := by rw [List.getElem?_set_ne (by omega)]
 have eS : SfP w0 m (vs.set (m + 1) (some u)) = SfP w0 m vs := by unfold SfP; rw [e1]
 obtain ⟨g', e', h1, h2, _, _⟩ := h.box _ hg
 simp only [Value.pointer.injEq, Option.some.injEq, Addr.mk.injEq, and_true] at e'
 subst e'
 refine ⟨upd_below h.below hu h1, fun e q v hq hv => ?_, fun v hv => ?_, fun e => ?_, fun q v hq hv => by rw [List.getElem?_set_ne (by omega)] at hv; exact h.pur q v hq hv⟩
 ·rw [List.getElem?_set_self (by omega)] at e; cases e
 ·rw [e1, hg] at hv
  refine ⟨g, (Option.some.inj (Option.some.inj hv)).symm, h1, by rw [hu.size]; exact h2, fun e => (by rw [List.getElem?_set_self (by omega)] at e; cases e), fun _ _ => ⟨vy, by rw [List.getElem?_set_ne (by omega)]; exact hy, hB, ?_⟩⟩
  rw [eS]
  refine k1 _ _ w _ _ (fun p x hp hx => ?_) (h.md hn iy vy hiy hy)
  have hne := hp.2 g hg
  unfold World.cell? at hx ⊢
  rw [hu.block _ hne]; exact hx
 ·rw [e1, hg] at e; cases e
end
section
variable {P : Program} {ops : Array Oper} {Pf : Nat → (Nat → Prop) → World → Value → Prop} {Pp : Nat → Value → Prop}
structure CtxP2 (ops : Array Oper) (l : List (Bool × Value)) (Pf : Nat → (Nat → Prop) → World → Value → Prop) (Pp : Nat → Value → Prop) (ms : List Nat) (ip : Nat) (chain : List Nat) (n : Fr) (K : Known) (w0 : World) (S : Nat → Prop) (i : Nat) (o : Oper) (a : Act) (w : World) : Prop where
 below : Below w0.heap.size w0 w
 kn : Kn n K a
 dep : ∀ j d, depB ops o j d = true → chain.contains j = false → valR1 l j (a.tmps.getD d undef)
 made : ∀ q c d, ms[q]? = some c → depB ops o c d = true → (ancL ops ip).contains i = true → Pf q S w (a.tmps.getD d undef)
 pure : ∀ q c d, ms[q]? = some c → depB ops o c d = true → Pp q (a.tmps.getD d undef)
/-- Each operation: one that yields what is listed (it may make memory); one that makes a thing; the new box; the store. -/
def SoundP2 (P : Program) (ops : Array Oper) (Q : Exit → Act → World → Prop) (l : List (Bool × Value)) (n : Fr) (K : Known) (w0 : World) (Pf : Nat → (Nat → Prop) → World → Value → Prop) (Pp : Nat → Value → Prop) (ms : List Nat) (t : Nat) (z : Array Value) (iy ia ip : Nat) : Nat → List Oper → Prop
 | _, [] => True
 | i, o :: r => (((ms ++ [ia, ip]).contains i = false ∧ o.guard = none ∧
    (∀ a w S, CtxP2 ops l Pf Pp ms ip (ms ++ [ia, ip]) n K w0 S i o a w → o.wp P a w (fun a' w' => ∃ v, a' = Act.put a o.dst v ∧ Below w.heap.size w w' ∧ valR1 l i v) Q)) ∨
   (∃ q, ms[q]? = some i ∧ o.guard = none ∧ (ancL ops ip).contains i = true ∧ ∀ a w S, CtxP2 ops l Pf Pp ms ip (ms ++ [ia, ip]) n K w0 S i o a w → o.wp P a w (fun a' w' => ∃ v, a' = Act.put a o.dst v ∧ Below w.heap.size w w' ∧ Pf q (fun b => S b ∨ w.heap.size ≤ b) w' v) Q) ∨
   (i = ia ∧ o.guard = none ∧ ∀ a w S, CtxP2 ops l Pf Pp ms ip (ms ++ [ia, ip]) n K w0 S i o a w → o.wp P a w (fun a' w' => a' = Act.put a o.dst (.pointer (some ⟨w.heap.size, 0, none⟩)) ∧ w' = w.alloc (.cells z t)) Q) ∨
   (i = ip ∧ o.guard = none ∧ ∃ dp dy cy, depB ops o ia dp = true ∧ ms[iy]? = some cy ∧ depB ops o cy dy = true ∧ ∀ a w g S, CtxP2 ops l Pf Pp ms ip (ms ++ [ia, ip]) n K w0 S i o a w → a.tmps.getD dp undef = .pointer (some ⟨g, 0, none⟩) → Blk w g t z → Pf iy S w (a.tmps.getD dy undef) →
    o.wp P a w (fun a' w' => ∃ v, a' = Act.put a o.dst v ∧ Upd g w w' ∧ Blk w' g t (ycells (a.tmps.getD dy undef))) Q)) ∧ SoundP2 P ops Q l n K w0 Pf Pp ms t z iy ia ip (i + 1) r
theorem SoundP2.gen (k1 : ∀ q S w w' v, (∀ (p : Addr) (x : Value), S p.block → w.cell? p = some x → w'.cell? p = some x) → Pf q S w v → Pf q S w' v)
  (k2 : ∀ q (S S' : Nat → Prop) w v, (∀ b, S b → b < w.heap.size → S' b) → Pf q S w v → Pf q S' w v) (k3 : ∀ q S w v, Pf q S w v → Pp q v) {Q : Exit → Act → World → Prop} {l : List (Bool × Value)} {n : Fr} {K : Known} {w0 : World} {ms : List Nat} {t : Nat} {z : Array Value} {iy ia ip : Nat} (hiy : iy < ms.length) : ∀ {lo : List Oper} {i : Nat}, SoundP2 P ops Q l n K w0 Pf Pp ms t z iy ia ip i lo →
  SoundFromG P ops Q (ms ++ [ia, ip]) (fun i v _ => valR1 l i v) (fun _ _ => True) (fun vs w => BPS w0 ms.length Pf Pp t z iy vs w) n K i lo
 | [], _, _ => trivial
 | o :: r, i, ⟨h, hr⟩ => by
  refine ⟨?_, hr.gen k1 k2 k3 hiy⟩
  have cm : ∀ q, q < ms.length → (ms ++ [ia, ip])[q]? = ms[q]? := fun q hq => List.getElem?_append_left hq
  have ca : (ms ++ [ia, ip])[ms.length]? = some ia := by rw [List.getElem?_append_right (Nat.le_refl _)]; simp
  have cp : (ms ++ [ia, ip])[ms.length + 1]? = some ip := by rw [List.getElem?_append_right (by omega)]; simp
  have mk : ∀ {a : Act} {w : World} {vs : List (Option Value)} (_ : CtxG ops (ms ++ [ia, ip]) (fun i v _ => valR1 l i v) (fun vs w => BPS w0 ms.length Pf Pp t z iy vs w) n K i o a w vs), CtxP2 ops l Pf Pp ms ip (ms ++ [ia, ip]) n K w0 (SfP w0 ms.length vs) i o a w := by
   intro a w vs C
   refine ⟨C.now.below, C.kn, C.dep, fun q c d hq hd ha => ?_, fun q c d hq hd => ?_⟩
   ·have hql := (List.getElem?_eq_some_iff.1 hq).1
    exact C.now.md (C.mostT (ms.length + 1) ip cp ha) q _ hql (C.link q c d ((cm q hql).trans hq) hd)
   ·have hql := (List.getElem?_eq_some_iff.1 hq).1
    exact C.now.pur q _ hql (C.link q c d ((cm q hql).trans hq) hd)
  have hlen : ∀ {a : Act} {w : World} {vs : List (Option Value)} (_ : CtxG ops (ms ++ [ia, ip]) (fun i v _ => valR1 l i v) (fun vs w => BPS w0 ms.length Pf Pp t z iy vs w) n K i o a w vs), vs.length = ms.length + 2 := fun C => by have := C.len; simpa using this
  rcases h with ⟨h1, h2, h3⟩ | ⟨q, hq, h1, ha, h2⟩ | ⟨rfl, h1, h2⟩ | ⟨rfl, h1, dp, dy, cy, h2, h3, h4, h5⟩
  ·refine .inl ⟨h1, true, .none h2, fun g b hb => by (rw [h2] at hb; cases hb), fun e => (by cases e), fun _ a w vs C => ?_⟩
   refine Oper.wpIn_mono ?_ (wpIn_of (h3 a w _ (mk C)) (by rintro a' w' ⟨v, rfl, _⟩; exact put_defers _ _ _))
   rintro a' w' ⟨v, rfl, hb, hv⟩
   exact ⟨v, rfl, trivial, BPS.step k1 C.now hb, hv⟩
  ·have hql := (List.getElem?_eq_some_iff.1 hq).1
   refine .inr ⟨q, (cm q hql).trans hq, h1, fun a w vs C hn => ?_⟩
   refine Oper.wpIn_mono ?_ (wpIn_of (h2 a w _ (mk C)) (by rintro a' w' ⟨v, rfl, _⟩; exact put_defers _ _ _))
   rintro a' w' ⟨v, rfl, hb, hv⟩
   exact ⟨_, rfl, trivial, BPS.make k1 k2 k3 C.now (hlen C) hql (C.mostT (ms.length + 1) ip cp ha) hb hv⟩
  ·refine .inr ⟨ms.length, ca, h1, fun a w vs C hn => ?_⟩
   refine Oper.wpIn_mono ?_ (wpIn_of (h2 a w _ (mk C)) (by rintro a' w' ⟨rfl, _⟩; exact put_defers _ _ _))
   rintro a' w' ⟨rfl, rfl⟩
   exact ⟨_, rfl, trivial, BPS.alloc k1 k2 C.now (hlen C) hn⟩
  ·refine .inr ⟨ms.length + 1, cp, h1, fun a w vs C hn => ?_⟩
   have e0 := C.link ms.length ia dp ca h2
   have e1 := C.link iy cy dy ((cm iy hiy).trans h3) h4
   obtain ⟨g, h6, h7, h8, h9, _⟩ := C.now.box _ e0
   have hm := C.now.md hn iy _ hiy e1
   refine Oper.wpIn_mono ?_ (wpIn_of (h5 a w g _ (mk C) h6 (h9 hn) hm) (by rintro a' w' ⟨v, rfl, _⟩; exact put_defers _ _ _))
   rintro a' w' ⟨v, rfl, h10, h11⟩
   exact ⟨v, rfl, trivial, BPS.store k1 C.now (hlen C) hiy (by rw [← h6]; exact e0) e1 hn h10 h11⟩
theorem WC.boxP {rid : Nat} {dr : Bool} {Q : Exit → Act → World → Prop} {n : Fr} {K : Known} {w : World} (Pf : Nat → (Nat → Prop) → World → Value → Prop) (Pp : Nat → Value → Prop)
  (k1 : ∀ q S w w' v, (∀ (p : Addr) (x : Value), S p.block → w.cell? p = some x → w'.cell? p = some x) → Pf q S w v → Pf q S w' v)
  (k2 : ∀ q (S S' : Nat → Prop) w v, (∀ b, S b → b < w.heap.size → S' b) → Pf q S w v → Pf q S' w v) (k3 : ∀ q S w v, Pf q S w v → Pp q v)
  (l : List (Bool × Value)) (K0 : Known) {t : Nat} {z : Array Value} (ms : List Nat) (iy ia ip da : Nat) (hiy : iy < ms.length)
  (hd : (ms ++ [ia, ip]).Nodup) (hin : ((ms ++ [ia, ip]).all fun c => Nat.blt c ops.size) = true) (hda : (ops[ia]?).bind (·.dst) = some da)
  (hs : subK K0 K) (hclear : clearB ops K0 = true) (hm : P.follows .mixedOrders = true) (hB : opsB ops n.n = true)
  (h : SoundP2 P ops Q l n K0 w Pf Pp ms t z iy ia ip 0 ops.toList)
  (hQ : ∀ (a : Act) (w' : World) (g : Nat) (vy : Value), Kn n K0 a → Below w.heap.size w w' → w.heap.size ≤ g → Blk w' g t (ycells vy) → Pf iy (fun b => w.heap.size ≤ b ∧ b ≠ g) w' vy → a.tmps.getD da undef = .pointer (some ⟨g, 0, none⟩) → (∀ i d, (ops[i]?).bind (·.dst) = some d → (ms ++ [ia, ip]).contains i = false → valR1 l i (a.tmps.getD d undef)) → Q .normal a w') :
  WC P n K w (.region rid ops dr) Q := by
 have ca : (ms ++ [ia, ip])[ms.length]? = some ia := by rw [List.getElem?_append_right (Nat.le_refl _)]; simp
 refine WC.gen (ms ++ [ia, ip]) (fun i v _ => valR1 l i v) (fun _ _ => True) (fun vs w' => BPS w ms.length Pf Pp t z iy vs w') K0 hs hclear hm hB hd hin (fun _ _ _ _ h _ => h) ?_ (h.gen k1 k2 k3 hiy) (fun a w' vs hk hlen hall hG hu hl => ?_)
 ·have hnn : ∀ q (v : Value), (List.replicate (ms ++ [ia, ip]).length (none : Option Value))[q]? ≠ some (some v) := fun q v e => by
   rw [List.getElem?_replicate] at e
   split at e
   ·cases e
   ·cases e
  have st : ∀ w' : World, Below w.heap.size w w' → BPS w ms.length Pf Pp t z iy (List.replicate (ms ++ [ia, ip]).length none) w' := fun w' hb => ⟨hb, fun _ q v _ hv => absurd hv (hnn q v), fun v hv => absurd hv (hnn _ v), fun _ => by rw [List.getElem?_replicate, if_pos (by simp)], fun q v _ hv => absurd hv (hnn q v)⟩
  cases dr with
  | true => exact st _ (Below.refl _ _).drew
  | false => exact st _ (Below.refl _ _)
 ·obtain ⟨v2, hv2⟩ := hall (ms.length + 1) (by simp)
  have ha := hl ms.length ia da ca hda
  obtain ⟨g, e1, h1, _, _, h2⟩ := hG.box _ ha
  obtain ⟨vy, h3, h4, h5⟩ := h2 v2 hv2
  refine hQ a w' g vy hk hG.below h1 h4 (k2 _ _ _ _ _ (fun b hb _ => ⟨hb.1, hb.2 g ?_⟩) h5) e1 hu
  rw [← e1]; exact ha
end
end Go.Proofs.Ytnmopmdpnpcdhaa
